/-
 Contracts, printed by a program (wip/y/gen.py): each function of Go computes its partial function. Condition of each: its partial function yields a value.
-/
import Derived.Test.YtbofgnbanmbopaaGreatDoorZCall
namespace Go.Proofs.YtbofgnbanmbopaaGreatDoor
open Go Go.Proofs.YtbofgnbanmbopaaGreatDoor.RW
set_option maxRecDepth 100000
set_option maxHeartbeats 1000000
set_option linter.unusedVariables false

theorem spec_hgRenumber_c (g__0 : Int) (g__1 : List (Int × Int × List Int × List Int)) (g__1h : Hd) (g__2 : List Int) (g__2h : Hd) (g__3 : List Int) (g__3h : Hd) (wires_ : List Int) (wires_h : Hd) (edges_ : List Int) (edges_h : Hd) (y_0 : Int) (y_1 : List (Int × Int × List Int × List Int)) (y_2 : List Int) (y_3 : List Int) (hF : F_spec_hgRenumber (g__0, g__1, g__2, g__3) wires_ edges_ = some (y_0, y_1, y_2, y_3)) :
  ConS Tryz.prog 77 #[(.agg #[(.int .i64 g__0), (g__1h).v, (g__2h).v, (g__3h).v]), (wires_h).v, (edges_h).v] [Es (List (Int × Int × List Int × List Int)) g__1 g__1h, Es (List Int) g__2 g__2h, Es (List Int) g__3 g__3h, Es (List Int) wires_ wires_h, Es (List Int) edges_ edges_h] [] (fun v Γ' => ∃ z0 z1 z2 : Hd, v = (.agg #[(.int .i64 y_0), (z0).v, (z1).v, (z2).v]) ∧ Γ' = [Es (List (Int × Int × List Int × List Int)) y_1 z0, Es (List Int) y_2 z1, Es (List Int) y_3 z2]) := by
 intro w0 S0 fp0 hI hS
 have H : Cx w0 fp0 S0 w0 [Es (List (Int × Int × List Int × List Int)) g__1 g__1h, Es (List Int) g__2 g__2h, Es (List Int) g__3 g__3h, Es (List Int) wires_ wires_h, Es (List Int) edges_ edges_h] := Cx.start hI hS
 clear hI hS
 refine enterC (args := [_, _, _]) gok Tryz.func77 rfl _ rfl rfl rfl ?_
 refine box_ H ?_; clear H; intro b7 w6 hx H
 clear hx
 refine alloc_ gok rfl H ?_; clear H; intro b0 w9 hx H
 clear hx
 refine loadN [(.int .i64 g__0), (g__1h).v, (g__2h).v, (g__3h).v] rfl (fun j u hj => H.bx 1 rfl hj) ?_
 refine fld gok rfl rfl rfl rfl ?_
 refine load1 (H.bx 1 rfl (j := 0) rfl) ?_
 obtain ⟨y0, e, f0⟩ := bindS hF; clear hF
 obtain ⟨y0_0, y0_1, y0_2, y0_3⟩ := y0
 have i0 := e; clear e
 refine callF (spec_hgMap_c g__0 g__1 g__1h g__2 g__2h g__3 g__3h wires_ wires_h g__0 y0_0 y0_1 y0_2 y0_3 i0) (Γi := []) H ⟨Vw.sh 2 rfl, Vw.sh 3 rfl, Vw.sh 4 rfl, Vw.sh 5 rfl, trivial⟩ ?_; clear H i0
 rintro _ _ w1 ⟨h0, h1, h2, rfl, rfl⟩ H
 refine alloc_ gok rfl H ?_; clear H; intro b1 w2 hx H
 clear hx
 refine stA gok [(.int .i64 y0_0), (h0).v, (h1).v, (h2).v] rfl H rfl rfl rfl ?_; clear H; intro w3 H
 refine fld gok rfl rfl rfl rfl ?_
 refine load1 (H.bx 5 rfl (j := 0) rfl) ?_
 refine fld gok rfl rfl rfl rfl ?_
 refine load1 (H.bx 0 rfl (j := 2) rfl) ?_
 refine fld gok rfl rfl rfl rfl ?_
 refine load1 (H.bx 0 rfl (j := 3) rfl) ?_
 refine build_ (cs := #[(.int .i64 g__0), (.slice none 0 0), (h1).v, (h2).v]) gok rfl rfl rfl ?_
 refine alloc_ gok rfl H ?_; clear H; intro b2 w4 hx H
 clear hx
 refine stA gok [(.int .i64 g__0), (.slice none 0 0), (h1).v, (h2).v] rfl H rfl rfl rfl ?_; clear H; intro w5 H
 obtain ⟨r0, f1, f2⟩ := bindS f0; clear f0
 refine cut (fun (q0 : (List (Int × Int × List Int × List Int)) × Hd) => [(2, (edges_h).v), (6, (.pointer (some ⟨b0, 0, none⟩))), (7, (.pointer (some ⟨b1, 0, none⟩))), (8, (.pointer (some ⟨b2, 0, none⟩)))]) (fun (q0 : (List (Int × Int × List Int × List Int)) × Hd) w' => q0.1 = r0 ∧ Cx w0 fp0 S0 w' [Es (List Int) edges_ edges_h, Bx b0 [(.int .i64 0), (.slice none 0 0), (.slice none 0 0), (.slice none 0 0)], Bx b1 [(.int .i64 y0_0), (h0).v, (h1).v, (h2).v], E (List (Int × Int × List Int × List Int)) y0_1 h0, E (List Int) y0_2 h1, E (List Int) y0_3 h2, Bx b2 [(.int .i64 g__0), (q0.2).v, (h1).v, (h2).v], E (List (Sh (Int × Int × List Int × List Int))) q0.1 q0.2]) ?_ ?_
 ·
  refine lenE (H.rs (α := List Int) 11 rfl).len ?_
  obtain ⟨a0, e, f3⟩ := bindS f1; clear f1
  refine boolO e ?_; clear e
  cases a0
  ·
   have f4 := condF f3; clear f3
   replace H := H.nil (α := Sh (Int × Int × List Int × List Int))
   exact ⟨([], nilH), ⟨rfl, rfl, rfl, rfl, trivial⟩, Option.some.inj f4, H.sel [12, 6, 2, 3, 4, 5, 1, 0] rfl⟩
  ·
   have f5 := condT f3; clear f3
   refine lenE (H.rs (α := List Int) 11 rfl).len ?_
   obtain ⟨a1, e, f6⟩ := bindS f5; clear f5
   refine make_ (α := Int × Int × List Int × List Int) gok rfl rfl rfl rfl (makeCO_of e) H ?_; clear e H; intro h3 w7 hx H
   clear hx
   replace H := H.frzE (α := Int × Int × List Int × List Int)
   refine fld gok rfl rfl rfl rfl ?_
   replace H := H.sel [1, 0, 2, 3, 4, 5, 6, 7, 8, 9, 10, 11, 12] rfl
   refine stB (j := 1) H rfl rfl ?_; clear H; intro w8 H
   exact ⟨(a1, h3), ⟨rfl, rfl, rfl, rfl, trivial⟩, Option.some.inj f6, H.sel [12, 6, 2, 3, 4, 5, 0, 1] rfl⟩
 ·
  clear f1 H
  rintro T0 ⟨s0, g0⟩ w10 ⟨hr, (H : Cx w0 fp0 S0 w10 [Es (List Int) edges_ edges_h, Bx b0 [(.int .i64 0), (.slice none 0 0), (.slice none 0 0), (.slice none 0 0)], Bx b1 [(.int .i64 y0_0), (h0).v, (h1).v, (h2).v], E (List (Int × Int × List Int × List Int)) y0_1 h0, E (List Int) y0_2 h1, E (List Int) y0_3 h2, Bx b2 [(.int .i64 g__0), (g0).v, (h1).v, (h2).v], E (List (Sh (Int × Int × List Int × List Int))) s0 g0])⟩
  subst hr
  refine sq ?_
  refine lenE (H.rs (α := List Int) 0 rfl).len ?_
  replace H := H.sel [3, 0, 1, 2, 4, 5, 6, 7] rfl
  replace H := H.frzE (α := Int × Int × List Int × List Int)
  have x0 := (H.rs (α := List Int) 1 rfl).max
  obtain ⟨r1, e, f7⟩ := bindS f2; clear f2
  refine loopS _ edges_.length (fun (k0 : Nat) (s1 : List (Int × Int × List Int × List Int)) (_ : Unit) => [(6, (.pointer (some ⟨b0, 0, none⟩))), (7, (.pointer (some ⟨b1, 0, none⟩))), (8, (.pointer (some ⟨b2, 0, none⟩))), (30, (edges_h).v), (31, (.int .i64 ((edges_.length : Nat) : Int))), (32, (.int .i64 ((k0 : Nat) : Int)))]) (fun _ (s1 : List (Int × Int × List Int × List Int)) (_ : Unit) w' => Cx w0 fp0 S0 w' [Bx b0 [(.int .i64 0), (.slice none 0 0), (.slice none 0 0), (.slice none 0 0)], Bx b1 [(.int .i64 y0_0), (h0).v, (h1).v, (h2).v], E (List (Sh (Int × Int × List Int × List Int))) y0_1 h0, E (List Int) y0_2 h1, E (List Int) y0_3 h2, Bx b2 [(.int .i64 g__0), (g0).v, (h1).v, (h2).v], E (List (Sh (Int × Int × List Int × List Int))) s1 g0, Es (List Int) edges_ edges_h]) s0 () e ⟨rfl, rfl, rfl, rfl, rfl, rfl, trivial⟩ (H.sel [2, 3, 0, 4, 5, 6, 7, 1] rfl) ?_ ?_
  ·
   clear H e
   rintro T1 k0 s1 _ w11 o0 hk (H : Cx w0 fp0 S0 w11 [Bx b0 [(.int .i64 0), (.slice none 0 0), (.slice none 0 0), (.slice none 0 0)], Bx b1 [(.int .i64 y0_0), (h0).v, (h1).v, (h2).v], E (List (Sh (Int × Int × List Int × List Int))) y0_1 h0, E (List Int) y0_2 h1, E (List Int) y0_3 h2, Bx b2 [(.int .i64 g__0), (g0).v, (h1).v, (h2).v], E (List (Sh (Int × Int × List Int × List Int))) s1 g0, Es (List Int) edges_ edges_h]) f8
   refine boolE (z := true) (ltLen hk) ?_
   refine sq ?_
   refine sq ?_
   obtain ⟨a2, e, f9⟩ := bindS f8; clear f8
   obtain ⟨p0, m0, c0, c1, c2, c3⟩ := (H.rs (α := List Int) 7 rfl).at1 e; clear e
   refine idxE c0 c1 c2 ?_; clear c0 c1 c2
   refine load1 c3 ?_; clear c3
   refine heldX H [9] (.fst 0 (.fst 2 (.fst 3 (.fst 5 (.fst 1 (.fst 4 (.fst 6 (.fst 7 (.fst 8 (.act 9 .done)))))))))) mixed [] trivial (by kernel_rfl) ?_
   clear H; intro w12 H
   have hX : Ext w12 w12 := Upd.refl _ _
   have H0 := H
   refine anyH (fun _ => fld gok rfl rfl rfl rfl ⟨rfl, rfl⟩) ?_
   refine anyH (fun _ => fld gok rfl rfl rfl rfl ⟨rfl, rfl⟩) ?_
   refine load1X (H.bx 5 rfl (j := 1) rfl) ?_
   refine load1X (H.bx 1 rfl (j := 1) rfl) ?_
   obtain ⟨a3, e, f10⟩ := bindS f9; clear f9
   have HH := H; clear H; obtain ⟨p1, m1, g1, c4, c5, c6, c7, H⟩ := HH.ex (α := Int × Int × List Int × List Int) 2 rfl e; clear HH
   clear e
   obtain ⟨a3_0, a3_1, a3_2, a3_3⟩ := a3
   obtain ⟨_, _, h4, h5⟩ := g1
   replace H := H.part (β := List Int) a3_2 (h4 : Hd) 0 rfl (fun S h => (And.left (And.right (And.right h))))
   replace H := H.part (β := List Int) a3_3 (h5 : Hd) 1 rfl (fun S h => (And.right (And.right (And.right h))))
   replace H := H.sel [0, 1, 3, 4, 5, 6, 7, 8, 9, 10] rfl
   refine idxE c4 c5 c6 ?_; clear c4 c5 c6
   refine loadNX [(.int .i64 a3_0), (.int .i64 a3_1), (h4).v, (h5).v] rfl c7 ?_; clear c7
   replace H := H.dup 1 rfl persS
   replace H := H.dup 1 rfl persS
   replace H := H.sel [1, 0, 2, 3, 4, 5, 6, 7, 8, 9, 10, 11] rfl
   replace H := H.join (α := Sh (List Int)) (β := Sh (List Int))
   replace H := H.sc (α := Int) a3_1
   replace H := H.join (α := Int) (β := Sh (List Int) × Sh (List Int))
   replace H := H.sc (α := Int) a3_0
   replace H := H.join (α := Int) (β := Int × Sh (List Int) × Sh (List Int))
   replace H := H.frz
   replace H := H.reSh (β := Int × Int × List Int × List Int) (a3_0, a3_1, a3_2, a3_3) ((), (), h4, h5) (fun _ _ h => h)
   obtain ⟨a4, e, f11⟩ := bindS f10; clear f10
   have i1 := e; clear e
   replace H := H.sel [9, 0, 1, 2, 3, 4, 5, 6, 7, 8, 10] rfl
   have HH := H; clear H; obtain ⟨p2, m2, c8, c9, c10, c11, H⟩ := HH.hole (α := Sh (Int × Int × List Int × List Int)) i1; clear HH
   refine idxE c9 c10 c11 ?_
   refine stXA (α := Sh (Int × Int × List Int × List Int)) gok [(.int .i64 a3_0), (.int .i64 a3_1), (h4).v, (h5).v] rfl rfl H c9 rfl rfl ?_; clear H; intro w13 H
   replace H := H.sel [1, 0, 2, 3, 4, 5, 6, 7, 8, 9, 10] rfl
   replace H := H.put c10 i1; clear c9 c10 c11 i1
   refine hold trivial ?_
   refine arK hk x0 ?_
   have hs := Option.some.inj f11; subst hs; clear f11
   exact ⟨(), ⟨rfl, rfl, rfl, rfl, rfl, rfl, trivial⟩, H.sel [3, 4, 5, 6, 7, 8, 0, 9] rfl⟩
  ·
   clear H e
   rintro T2 _ w15 (H : Cx w0 fp0 S0 w15 [Bx b0 [(.int .i64 0), (.slice none 0 0), (.slice none 0 0), (.slice none 0 0)], Bx b1 [(.int .i64 y0_0), (h0).v, (h1).v, (h2).v], E (List (Sh (Int × Int × List Int × List Int))) y0_1 h0, E (List Int) y0_2 h1, E (List Int) y0_3 h2, Bx b2 [(.int .i64 g__0), (g0).v, (h1).v, (h2).v], E (List (Sh (Int × Int × List Int × List Int))) r1 g0, Es (List Int) edges_ edges_h])
   refine boolE (z := false) geLen ?_
   refine sq ?_
   refine loadN [(.int .i64 g__0), (g0).v, (h1).v, (h2).v] rfl (fun j u hj => H.bx 5 rfl hj) ?_
   refine stA gok [(.int .i64 g__0), (g0).v, (h1).v, (h2).v] rfl H rfl rfl rfl ?_; clear H; intro w16 H
   refine loadN [(.int .i64 g__0), (g0).v, (h1).v, (h2).v] rfl (fun j u hj => H.bx 0 rfl hj) ?_
   replace H := H.sel [6, 0, 1, 2, 3, 4, 5, 7] rfl
   replace H := Cx.reS (e' := Es (List (Int × Int × List Int × List Int)) r1 g0) rfl H.frz
   replace H := H.sel [4, 0, 1, 2, 3, 5, 6, 7] rfl
   replace H := H.frz
   replace H := H.sel [5, 0, 1, 2, 3, 4, 6, 7] rfl
   replace H := H.frz
   cases f7
   exact ⟨_, _, rfl, ⟨g0, h1, h2, rfl, rfl⟩, (H.sel [2, 1, 0] rfl)⟩

theorem spec_cnGraph_c (g__0 : Int) (g__1 : List (Int × Int × List Int × List Int)) (g__1h : Hd) (g__2 : List Int) (g__2h : Hd) (g__3 : List Int) (g__3h : Hd) (y_0 : Int) (y_1 : List (Int × Int × List Int × List Int)) (y_2 : List Int) (y_3 : List Int) (hF : F_spec_cnGraph (g__0, g__1, g__2, g__3) = some (y_0, y_1, y_2, y_3)) :
  ConS Tryz.prog 61 #[(.agg #[(.int .i64 g__0), (g__1h).v, (g__2h).v, (g__3h).v])] [Es (List (Int × Int × List Int × List Int)) g__1 g__1h, Es (List Int) g__2 g__2h, Es (List Int) g__3 g__3h] [] (fun v Γ' => ∃ z0 z1 z2 : Hd, v = (.agg #[(.int .i64 y_0), (z0).v, (z1).v, (z2).v]) ∧ Γ' = [Es (List (Int × Int × List Int × List Int)) y_1 z0, Es (List Int) y_2 z1, Es (List Int) y_3 z2]) := by
 intro w0 S0 fp0 hI hS
 have H : Cx w0 fp0 S0 w0 [Es (List (Int × Int × List Int × List Int)) g__1 g__1h, Es (List Int) g__2 g__2h, Es (List Int) g__3 g__3h] := Cx.start hI hS
 clear hI hS
 refine enterC (args := [_]) gok Tryz.func61 rfl _ rfl rfl rfl ?_
 refine box_ H ?_; clear H; intro b5 w4 hx H
 clear hx
 refine alloc_ gok rfl H ?_; clear H; intro b8 w7 hx H
 clear hx
 refine loadN [(.int .i64 g__0), (g__1h).v, (g__2h).v, (g__3h).v] rfl (fun j u hj => H.bx 1 rfl hj) ?_
 obtain ⟨y0, e, f0⟩ := bindS hF; clear hF
 obtain ⟨y0_0, y0_1⟩ := y0
 have i0 := e; clear e
 refine callF (spec_cnNumbers_c g__0 g__1 g__1h g__2 g__2h g__3 g__3h y0_0 y0_1 i0) (Γi := []) H ⟨Vw.sh 2 rfl, Vw.sh 3 rfl, Vw.sh 4 rfl, trivial⟩ ?_; clear H i0
 rintro _ _ w1 ⟨h0, h1, rfl, rfl⟩ H
 refine loadN [(.int .i64 g__0), (g__1h).v, (g__2h).v, (g__3h).v] rfl (fun j u hj => H.bx 3 rfl hj) ?_
 obtain ⟨y1, e, f1⟩ := bindS f0; clear f0
 obtain ⟨y1_0, y1_1, y1_2, y1_3⟩ := y1
 have i1 := e; clear e
 replace H := H.frz
 replace H := H.sel [1, 0, 2, 3, 4, 5, 6] rfl
 replace H := H.frz
 refine callS (spec_hgRenumber_c g__0 g__1 g__1h g__2 g__2h g__3 g__3h y0_0 h0 y0_1 h1 y1_0 y1_1 y1_2 y1_3 i1) (Γi := []) H [4, 5, 6, 1, 0] rfl (persC persS (persC persS (persC persS (persC persS (persC persS persN))))) ?_; clear H i1
 rintro _ _ w2 ⟨h2, h3, h4, rfl, rfl⟩ H
 replace H := H.sel [5, 0, 1, 2, 3, 4, 6, 7, 8, 9] rfl
 refine stA gok [(.int .i64 y1_0), (h2).v, (h3).v, (h4).v] rfl H rfl rfl rfl ?_; clear H; intro w3 H
 refine loadN [(.int .i64 y1_0), (h2).v, (h3).v, (h4).v] rfl (fun j u hj => H.bx 0 rfl hj) ?_
 cases f1
 exact ⟨_, _, rfl, ⟨h2, h3, h4, rfl, rfl⟩, (H.sel [1, 2, 3] rfl)⟩

theorem spec_axMake_done_c (x_b : Nat) (x__0_0 : Int) (x__0_1 : List (Int × Int × List Int × List Int)) (x__0_1h : Hd) (x__0_2 : List Int) (x__0_2h : Hd) (x__0_3 : List Int) (x__0_3h : Hd) (y0_0 : Int) (y0_1 : List (Int × Int × List Int × List Int)) (y0_2 : List Int) (y0_3 : List Int) (y1 : Bool) (hF : F_spec_axMake_done (x__0_0, x__0_1, x__0_2, x__0_3) = some ((y0_0, y0_1, y0_2, y0_3), y1)) :
  ConS Tryz.prog 38 #[(.pointer (some ⟨x_b, 0, none⟩))] [Es (List (Int × Int × List Int × List Int)) x__0_1 x__0_1h, Es (List Int) x__0_2 x__0_2h, Es (List Int) x__0_3 x__0_3h] [Bx x_b [(.int .i64 x__0_0), (x__0_1h).v, (x__0_2h).v, (x__0_3h).v]] (fun v Γ' => ∃ z0 z1 z2 : Hd, v = (.tuple #[(.agg #[(.int .i64 y0_0), (z0).v, (z1).v, (z2).v]), (.bool y1)]) ∧ Γ' = [Bx x_b [(.int .i64 x__0_0), (x__0_1h).v, (x__0_2h).v, (x__0_3h).v], Es (List (Int × Int × List Int × List Int)) y0_1 z0, Es (List Int) y0_2 z1, Es (List Int) y0_3 z2]) := by
 intro w0 S0 fp0 hI hS
 have H : Cx w0 fp0 S0 w0 [Es (List (Int × Int × List Int × List Int)) x__0_1 x__0_1h, Es (List Int) x__0_2 x__0_2h, Es (List Int) x__0_3 x__0_3h, Bx x_b [(.int .i64 x__0_0), (x__0_1h).v, (x__0_2h).v, (x__0_3h).v]] := Cx.start hI hS
 clear hI hS
 refine enterC (args := [_]) gok Tryz.func38 rfl _ rfl rfl rfl ?_
 refine alloc_ gok rfl H ?_; clear H; intro b6 w5 hx H
 clear hx
 refine sq ?_
 refine fld gok rfl rfl rfl rfl ?_
 refine loadN [(.int .i64 x__0_0), (x__0_1h).v, (x__0_2h).v, (x__0_3h).v] rfl (H.bxs 4 rfl 0 rfl) ?_
 obtain ⟨y8, e, hF9⟩ := bindS hF; clear hF
 have ey8 := e; clear e
 refine callF (spec_hgValid_c x__0_0 x__0_1 x__0_1h x__0_2 x__0_2h x__0_3 x__0_3h y8 ey8) (Γi := []) H ⟨Vw.sh 1 rfl, Vw.sh 2 rfl, Vw.sh 3 rfl, trivial⟩ ?_; clear H ey8
 rintro _ _ w1 ⟨rfl, rfl⟩ H
 obtain ⟨a0, e, f0⟩ := bindS hF9; clear hF9
 refine boolO e ?_; clear e
 cases a0
 ·
  have f1 := condF f0; clear f0
  refine fld gok rfl rfl rfl rfl ?_
  refine loadN [(.int .i64 x__0_0), (x__0_1h).v, (x__0_2h).v, (x__0_3h).v] rfl (H.bxs 4 rfl 0 rfl) ?_
  obtain ⟨y0, e, f2⟩ := bindS f1; clear f1
  obtain ⟨y0_0, y0_1, y0_2, y0_3⟩ := y0
  have i0 := e; clear e
  refine callS (spec_cnGraph_c x__0_0 x__0_1 x__0_1h x__0_2 x__0_2h x__0_3 x__0_3h y0_0 y0_1 y0_2 y0_3 i0) (Γi := []) H [1, 2, 3] rfl (persC persS (persC persS (persC persS persN))) ?_; clear H i0
  rintro _ _ w2 ⟨h0, h1, h2, rfl, rfl⟩ H
  replace H := H.sel [3, 0, 1, 2, 4, 5, 6, 7] rfl
  refine stA gok [(.int .i64 y0_0), (h0).v, (h1).v, (h2).v] rfl H rfl rfl rfl ?_; clear H; intro w3 H
  refine loadN [(.int .i64 y0_0), (h0).v, (h1).v, (h2).v] rfl (fun j u hj => H.bx 0 rfl hj) ?_
  cases f2
  exact ⟨_, _, rfl, ⟨h0, h1, h2, rfl, rfl⟩, (H.sel [7, 1, 2, 3] rfl)⟩
 ·
  have f3 := condT f0; clear f0
  refine build_ (cs := #[(.int .i64 0), (.slice none 0 0), (.slice none 0 0), (.slice none 0 0)]) gok rfl rfl rfl ?_
  refine stA gok [(.int .i64 0), (.slice none 0 0), (.slice none 0 0), (.slice none 0 0)] rfl H rfl rfl rfl ?_; clear H; intro w4 H
  refine loadN [(.int .i64 0), (.slice none 0 0), (.slice none 0 0), (.slice none 0 0)] rfl (fun j u hj => H.bx 0 rfl hj) ?_
  replace H := H.nil (α := Int × Int × List Int × List Int)
  replace H := H.frz
  replace H := H.nil (α := Int)
  replace H := H.frz
  replace H := H.nil (α := Int)
  replace H := H.frz
  cases f3
  exact ⟨_, _, rfl, ⟨nilH, nilH, nilH, rfl, rfl⟩, (H.sel [7, 2, 1, 0] rfl)⟩

theorem spec_MatrixGraph_c (p_ : Int) (m__0 : Int) (m__1 : List (List Int)) (m__1h : Hd) (y0_0 : Int) (y0_1 : List (Int × Int × List Int × List Int)) (y0_2 : List Int) (y0_3 : List Int) (y1 : Bool) (hF : F_spec_MatrixGraph p_ (m__0, m__1) = some ((y0_0, y0_1, y0_2, y0_3), y1)) :
  ConS Tryz.prog 15 #[(.int .i64 p_), (.agg #[(.int .i64 m__0), (m__1h).v])] [Es (List (List Int)) m__1 m__1h] [] (fun v Γ' => ∃ z0 z1 z2 : Hd, v = (.tuple #[(.agg #[(.int .i64 y0_0), (z0).v, (z1).v, (z2).v]), (.bool y1)]) ∧ Γ' = [Es (List (Int × Int × List Int × List Int)) y0_1 z0, Es (List Int) y0_2 z1, Es (List Int) y0_3 z2]) := by
 intro w0 S0 fp0 hI hS
 have H : Cx w0 fp0 S0 w0 [Es (List (List Int)) m__1 m__1h] := Cx.start hI hS
 clear hI hS
 refine enterC (args := [_, _]) gok Tryz.func15 rfl _ rfl rfl rfl ?_
 refine box_ H ?_; clear H; intro b3 w2 hx H
 clear hx
 refine alloc_ gok rfl H ?_; clear H; intro b6 w5 hx H
 clear hx
 refine sq ?_
 obtain ⟨r0, f0, f1⟩ := bindS hF; clear hF
 refine cut (fun (q0 : Bool) => [(3, (.pointer (some ⟨b3, 0, none⟩))), (4, (.pointer (some ⟨b6, 0, none⟩))), (26, (.bool q0))]) (fun (q0 : Bool) w' => q0 = r0 ∧ Cx w0 fp0 S0 w' [Bx b3 [(.int .i64 m__0), (m__1h).v], Es (List (List Int)) m__1 m__1h, Bx b6 [(.int .i64 0), (.slice none 0 0), (.slice none 0 0), (.slice none 0 0)]]) ?_ ?_
 ·
  obtain ⟨y0, e, f2⟩ := bindS f0; clear f0
  have i0 := e; clear e
  refine callF (spec_fdGood_c p_ y0 i0) (Γi := []) H trivial ?_; clear H i0
  rintro _ _ w1 ⟨rfl, rfl⟩ H
  obtain ⟨a0, e, f3⟩ := bindS f2; clear f2
  refine boolO e ?_; clear e
  cases a0
  ·
   have f4 := condF f3; clear f3
   refine loadN [(.int .i64 m__0), (m__1h).v] rfl (fun j u hj => H.bx 1 rfl hj) ?_
   obtain ⟨y2, e, f5⟩ := bindS f4; clear f4
   have i1 := e; clear e
   refine callF (spec_mxGood_c p_ m__0 m__1 m__1h y2 i1) (Γi := []) H ⟨Vw.sh 2 rfl, trivial⟩ ?_; clear H i1
   rintro _ _ w3 ⟨rfl, rfl⟩ H
   obtain ⟨a1, e, f6⟩ := bindS f5; clear f5
   refine boolO e ?_; clear e
   cases a1
   ·
    have f7 := condF f6; clear f6
    refine fld gok rfl rfl rfl rfl ?_
    refine load1 (H.bx 1 rfl (j := 1) rfl) ?_
    refine lenE (H.rs (α := List (List Int)) 2 rfl).len ?_
    obtain ⟨a2, e, f8⟩ := bindS f7; clear f7
    refine boolO e ?_; clear e
    cases a2
    ·
     have f9 := condF f8; clear f8
     refine fld gok rfl rfl rfl rfl ?_
     refine load1 (H.bx 1 rfl (j := 0) rfl) ?_
     obtain ⟨a3, e, f10⟩ := bindS f9; clear f9
     refine boolO e ?_; clear e
     exact ⟨a3, ⟨rfl, rfl, rfl, trivial⟩, Option.some.inj f10, H.sel [1, 2, 0] rfl⟩
    ·
     have f11 := condT f8; clear f8
     exact ⟨true, ⟨rfl, rfl, rfl, trivial⟩, Option.some.inj f11, H.sel [1, 2, 0] rfl⟩
   ·
    have f12 := condT f6; clear f6
    exact ⟨true, ⟨rfl, rfl, rfl, trivial⟩, Option.some.inj f12, H.sel [1, 2, 0] rfl⟩
  ·
   have f13 := condT f3; clear f3
   exact ⟨true, ⟨rfl, rfl, rfl, trivial⟩, Option.some.inj f13, H.sel [1, 2, 0] rfl⟩
 ·
  clear f0 H
  rintro T0 s0 w4 ⟨hr, (H : Cx w0 fp0 S0 w4 [Bx b3 [(.int .i64 m__0), (m__1h).v], Es (List (List Int)) m__1 m__1h, Bx b6 [(.int .i64 0), (.slice none 0 0), (.slice none 0 0), (.slice none 0 0)]])⟩
  subst hr
  cases s0
  ·
   have f14 := condF f1; clear f1
   refine build_ (cs := #[(.int .i64 0), (.slice none 0 0), (.slice none 0 0), (.slice none 0 0)]) gok rfl rfl rfl ?_
   refine box_ H ?_; clear H; intro b0 w6 hx H
   clear hx
   refine fld gok rfl rfl rfl rfl ?_
   refine load1 (H.bx 1 rfl (j := 1) rfl) ?_
   refine lenE (H.rs (α := List (List Int)) 2 rfl).len ?_
   replace H := H.nil (α := Int)
   obtain ⟨y3, e, f15⟩ := bindS f14; clear f14
   obtain ⟨y3_0_0, y3_0_1, y3_0_2, y3_0_3⟩ := y3
   have i2 := e; clear e
   replace H := H.sel [1, 0, 2, 3, 4] rfl
   refine callF (spec_axMake_inputs_c b0 0 [] (.slice none 0 0) [] nilH [] (.slice none 0 0) ((m__1.length : Nat) : Int) y3_0_0 y3_0_1 y3_0_2 y3_0_3 i2) (Γi := [Bx b0 [(.int .i64 0), (.slice none 0 0), (nilH).v, (.slice none 0 0)], E (List Int) [] nilH]) H trivial ?_; clear H i2
   rintro _ _ w7 ⟨h0, rfl, rfl⟩ H
   refine heldX H [11, 15, 12, 13, 14, 0] (.pure 0 (.fst 1 (.fst 2 (.fst 3 (.fst 4 (.fst 5 (.fst 7 (.fst 9 (.fst 6 (.fst 8 (.fst 10 (.act 11 (.act 12 (.act 13 (.act 14 (.act 15 .done)))))))))))))))) mixed [] trivial (by kernel_rfl) ?_
   clear H; intro w8 H
   have hX : Ext w8 w8 := Upd.refl _ _
   have H0 := H
   refine anyH (fun _ => fld gok rfl rfl rfl rfl ⟨rfl, rfl⟩) ?_
   refine anyH (fun _ => fld gok rfl rfl rfl rfl ⟨rfl, rfl⟩) ?_
   refine anyH (fun _ => fld gok rfl rfl rfl rfl ⟨rfl, rfl⟩) ?_
   refine anyH (fun _ => fld gok rfl rfl rfl rfl ⟨rfl, rfl⟩) ?_
   refine load1X (H.bx 0 rfl (j := 2) rfl) ?_
   refine load1X (H.bx 2 rfl (j := 1) rfl) ?_
   refine load1X (H.bx 2 rfl (j := 0) rfl) ?_
   replace H := H.nil (α := Int × Int × List Int × List Int)
   replace H := H.frzE (α := Int × Int × List Int × List Int)
   obtain ⟨y4, e, f16⟩ := bindS f15; clear f15
   obtain ⟨⟨y4_0_0_0, y4_0_0_1, y4_0_0_2, y4_0_0_3⟩, y4_1⟩ := y4
   have i3 := e; clear e
   replace H := H.sel [2, 0, 1, 3, 4, 5] rfl
   replace H := H.frz
   replace H := H.sel [2, 1, 0, 3, 4, 5] rfl
   refine callS (spec_axMake_matrix_c b0 y3_0_0 [] nilH y3_0_2 ((h0).v) [] (.slice none 0 0) y3_0_2 h0 m__1 m__1h m__0 y4_0_0_0 y4_0_0_1 y4_0_0_2 y4_0_0_3 y4_1 i3) (Γi := [Bx b0 [(.int .i64 y3_0_0), (nilH).v, (h0).v, (.slice none 0 0)], E (List (Sh (Int × Int × List Int × List Int))) [] nilH]) H [0, 2] rfl (persC persS (persC persS persN)) ?_; clear H i3
   rintro _ _ w9 ⟨h1, h2, rfl, rfl⟩ H
   refine hold trivial ?_
   refine hold trivial ?_
   refine fld gok rfl rfl rfl rfl ?_
   refine hold trivial ?_
   refine fld gok rfl rfl rfl rfl ?_
   refine hold trivial ?_
   refine stB (j := 3) H rfl rfl ?_; clear H; intro w10 H
   refine hold trivial ?_
   obtain ⟨y5, e, f17⟩ := bindS f16; clear f16
   obtain ⟨⟨y5_0_0, y5_0_1, y5_0_2, y5_0_3⟩, y5_1⟩ := y5
   have i4 := e; clear e
   replace H := H.sel [1, 0, 2, 3, 4, 5, 6] rfl
   replace H := Cx.reS (e' := Es (List (Int × Int × List Int × List Int)) y4_0_0_1 h1) rfl H.frz
   replace H := H.sel [1, 0, 2, 3, 4, 5, 6] rfl
   refine callS (spec_axMake_done_c b0 y4_0_0_0 y4_0_0_1 h1 y3_0_2 h0 y4_1 h2 y5_0_0 y5_0_1 y5_0_2 y5_0_3 y5_1 i4) (Γi := [Bx b0 [(.int .i64 y4_0_0_0), (h1).v, (h0).v, (h2).v]]) H [0, 2, 1] rfl (persC persS (persC persS (persC persS persN))) ?_; clear H i4
   rintro _ _ w11 ⟨h3, h4, h5, rfl, rfl⟩ H
   replace H := H.sel [9, 0, 1, 2, 3, 4, 5, 6, 7, 8] rfl
   refine stA gok [(.int .i64 y5_0_0), (h3).v, (h4).v, (h5).v] rfl H rfl rfl rfl ?_; clear H; intro w12 H
   refine loadN [(.int .i64 y5_0_0), (h3).v, (h4).v, (h5).v] rfl (fun j u hj => H.bx 0 rfl hj) ?_
   cases f17
   exact ⟨_, _, rfl, ⟨h3, h4, h5, rfl, rfl⟩, (H.sel [2, 3, 4] rfl)⟩
  ·
   have f18 := condT f1; clear f1
   refine build_ (cs := #[(.int .i64 0), (.slice none 0 0), (.slice none 0 0), (.slice none 0 0)]) gok rfl rfl rfl ?_
   replace H := H.sel [2, 0, 1] rfl
   refine stA gok [(.int .i64 0), (.slice none 0 0), (.slice none 0 0), (.slice none 0 0)] rfl H rfl rfl rfl ?_; clear H; intro w13 H
   refine loadN [(.int .i64 0), (.slice none 0 0), (.slice none 0 0), (.slice none 0 0)] rfl (fun j u hj => H.bx 0 rfl hj) ?_
   replace H := H.nil (α := Int × Int × List Int × List Int)
   replace H := H.frz
   replace H := H.nil (α := Int)
   replace H := H.frz
   replace H := H.nil (α := Int)
   replace H := H.frz
   cases f18
   exact ⟨_, _, rfl, ⟨nilH, nilH, nilH, rfl, rfl⟩, (H.sel [2, 1, 0] rfl)⟩

theorem impl_isField_c (p_ : Int) (y : Bool) (hF : F_impl_isField p_ = some y) :
  ConF Tryz.prog 50 #[(.int .i64 p_)] [Gl 0 [.int .i64 2, .int .i64 3, .int .i64 5, .int .i64 7]] [] (fun v Γ' => v = (.bool y) ∧ Γ' = []) := by
 intro w0 S0 fp0 hI hS
 have H : Cx w0 fp0 S0 w0 [Gl 0 [.int .i64 2, .int .i64 3, .int .i64 5, .int .i64 7]] := Cx.start hI hS
 clear hI hS
 refine enterC (args := [_]) gok Tryz.func50 rfl _ rfl rfl rfl ?_
 refine sq ?_
 obtain ⟨r0, f0, f1⟩ := bindS hF; clear hF
 refine cut (fun (q0 : Bool) => [(0, (.int .i64 p_)), (10, (.bool q0))]) (fun (q0 : Bool) w' => q0 = r0 ∧ Cx w0 fp0 S0 w' [Gl 0 [.int .i64 2, .int .i64 3, .int .i64 5, .int .i64 7]]) ?_ ?_
 ·
  obtain ⟨a0, e, f2⟩ := bindS f0; clear f0
  refine boolO e ?_; clear e
  cases a0
  ·
   have f3 := condF f2; clear f2
   obtain ⟨a1, e, f4⟩ := bindS f3; clear f3
   refine boolO e ?_; clear e
   exact ⟨a1, ⟨rfl, rfl, trivial⟩, Option.some.inj f4, H.sel [0] rfl⟩
  ·
   have f5 := condT f2; clear f2
   exact ⟨true, ⟨rfl, rfl, trivial⟩, Option.some.inj f5, H.sel [0] rfl⟩
 ·
  clear f0 H
  rintro T0 s8 w1 ⟨hr, (H : Cx w0 fp0 S0 w1 [Gl 0 [.int .i64 2, .int .i64 3, .int .i64 5, .int .i64 7]])⟩
  subst hr
  cases s8
  ·
   have f6 := condF f1; clear f1
   refine sq ?_
   refine loadN [.int .i64 2, .int .i64 3, .int .i64 5, .int .i64 7] rfl (H.gl 0 rfl) ?_
   obtain ⟨a2, hn56, f7⟩ := bindS f6; clear f6
   obtain ⟨r1, e, f8⟩ := bindS f7; clear f7
   refine loopO _ ((4 : Int).toNat) (fun (k0 : Nat) (_ : Unit) (_ : Unit) => [(0, (.int .i64 p_)), (11, (.agg #[.int .i64 2, .int .i64 3, .int .i64 5, .int .i64 7])), (12, (.int .i64 ((k0 : Nat) : Int)))]) (fun _ (_ : Unit) (_ : Unit) w' => Cx w0 fp0 S0 w' [Gl 0 [.int .i64 2, .int .i64 3, .int .i64 5, .int .i64 7]]) () () e ⟨rfl, rfl, rfl, trivial⟩ (H.sel [0] rfl) ?_ ?_
   ·
    clear H e
    rintro T1 k0 _ _ w2 o0 hk (H : Cx w0 fp0 S0 w2 [Gl 0 [.int .i64 2, .int .i64 3, .int .i64 5, .int .i64 7]]) hrt f9
    refine boolE (z := true) (ltNat hk) ?_
    refine sq ?_
    refine sq ?_
    obtain ⟨a3, e, f10⟩ := bindS f9; clear f9
    refine indexI gok rfl rfl rfl rfl rfl e ?_; clear e
    obtain ⟨r2, f11, f12⟩ := bindS f10; clear f10
    refine cut (fun (q1 : Bool) => [(0, (.int .i64 p_)), (11, (.agg #[.int .i64 2, .int .i64 3, .int .i64 5, .int .i64 7])), (12, (.int .i64 ((k0 : Nat) : Int))), (23, (.bool q1))]) (fun (q1 : Bool) w' => q1 = r2 ∧ Cx w0 fp0 S0 w' [Gl 0 [.int .i64 2, .int .i64 3, .int .i64 5, .int .i64 7]]) ?_ ?_
    ·
     obtain ⟨a4, e, f13⟩ := bindS f11; clear f11
     refine remO_ e ?_; clear e
     obtain ⟨a5, e, f14⟩ := bindS f13; clear f13
     refine boolO e ?_; clear e
     cases a5
     ·
      have f15 := condF f14; clear f14
      exact ⟨false, ⟨rfl, rfl, rfl, rfl, trivial⟩, Option.some.inj f15, H.sel [0] rfl⟩
     ·
      have f16 := condT f14; clear f14
      obtain ⟨a6, e, f17⟩ := bindS f16; clear f16
      refine boolO e ?_; clear e
      exact ⟨a6, ⟨rfl, rfl, rfl, rfl, trivial⟩, Option.some.inj f17, H.sel [0] rfl⟩
    ·
     clear f11 H
     rintro T2 s0 w3 ⟨hr, (H : Cx w0 fp0 S0 w3 [Gl 0 [.int .i64 2, .int .i64 3, .int .i64 5, .int .i64 7]])⟩
     subst hr
     cases s0
     ·
      have f18 := condF f12; clear f12
      refine arK hk (maxI hn56) ?_
      have hs := Option.some.inj f18; subst hs; clear f18
      exact ⟨(), (), rfl, ⟨rfl, rfl, rfl, trivial⟩, H.sel [0] rfl⟩
     ·
      have f19 := condT f12; clear f12
      have hs := Option.some.inj f19; subst hs; clear f19
      have hr := hrt _ rfl; subst hr
      have f20 : some _ = some _ := f8
      cases f20
      exact ⟨_, _, rfl, ⟨rfl, rfl⟩, (H.sel [] rfl).close trivial⟩
   ·
    clear H e
    rintro T3 _ _ w4 hr (H : Cx w0 fp0 S0 w4 [Gl 0 [.int .i64 2, .int .i64 3, .int .i64 5, .int .i64 7]])
    subst hr
    refine boolE (z := false) geNat ?_
    refine sq ?_
    cases f8
    exact ⟨_, _, rfl, ⟨rfl, rfl⟩, (H.sel [] rfl).close trivial⟩
  ·
   have f21 := condT f1; clear f1
   cases f21
   exact ⟨_, _, rfl, ⟨rfl, rfl⟩, (H.sel [] rfl).close trivial⟩

theorem impl_within_c (n_ : Int) (low_ : Int) (high_ : Int) (y : Bool) (hF : F_impl_within n_ low_ high_ = some y) :
  ConF Tryz.prog 62 #[(.int .i64 n_), (.int .i64 low_), (.int .i64 high_)] [] [] (fun v Γ' => v = (.bool y) ∧ Γ' = []) := by
 intro w0 S0 fp0 hI hS
 have H : Cx w0 fp0 S0 w0 [] := Cx.start hI hS
 clear hI hS
 refine enterC (args := [_, _, _]) gok Tryz.func62 rfl _ rfl rfl rfl ?_
 obtain ⟨r9, f0, f1⟩ := bindS hF; clear hF
 refine cut (fun (q0 : Bool) => [(6, (.bool q0))]) (fun (q0 : Bool) w' => q0 = r9 ∧ Cx w0 fp0 S0 w' []) ?_ ?_
 ·
  obtain ⟨a0, e, f2⟩ := bindS f0; clear f0
  refine boolO e ?_; clear e
  cases a0
  ·
   have f3 := condF f2; clear f2
   exact ⟨false, ⟨rfl, trivial⟩, Option.some.inj f3, H.sel [] rfl⟩
  ·
   have f4 := condT f2; clear f2
   obtain ⟨a1, e, f5⟩ := bindS f4; clear f4
   refine boolO e ?_; clear e
   exact ⟨a1, ⟨rfl, trivial⟩, Option.some.inj f5, H.sel [] rfl⟩
 ·
  clear f0 H
  rintro T0 s7 w1 ⟨hr, (H : Cx w0 fp0 S0 w1 [])⟩
  subst hr
  cases f1
  exact ⟨_, _, rfl, ⟨rfl, rfl⟩, (H.sel [] rfl).close trivial⟩

theorem impl_isElement_c (p_ : Int) (a_ : Int) (y : Bool) (hF : F_impl_isElement p_ a_ = some y) :
  ConF Tryz.prog 94 #[(.int .i64 p_), (.int .i64 a_)] [] [] (fun v Γ' => v = (.bool y) ∧ Γ' = []) := by
 intro w0 S0 fp0 hI hS
 have H : Cx w0 fp0 S0 w0 [] := Cx.start hI hS
 clear hI hS
 refine enterC (args := [_, _]) gok Tryz.func94 rfl _ rfl rfl rfl ?_
 obtain ⟨r9, f0, f1⟩ := bindS hF; clear hF
 refine cut (fun (q0 : Bool) => [(4, (.bool q0))]) (fun (q0 : Bool) w' => q0 = r9 ∧ Cx w0 fp0 S0 w' []) ?_ ?_
 ·
  obtain ⟨a0, e, f2⟩ := bindS f0; clear f0
  refine boolO e ?_; clear e
  cases a0
  ·
   have f3 := condF f2; clear f2
   exact ⟨false, ⟨rfl, trivial⟩, Option.some.inj f3, H.sel [] rfl⟩
  ·
   have f4 := condT f2; clear f2
   obtain ⟨a1, e, f5⟩ := bindS f4; clear f4
   refine boolO e ?_; clear e
   exact ⟨a1, ⟨rfl, trivial⟩, Option.some.inj f5, H.sel [] rfl⟩
 ·
  clear f0 H
  rintro T0 s7 w1 ⟨hr, (H : Cx w0 fp0 S0 w1 [])⟩
  subst hr
  cases f1
  exact ⟨_, _, rfl, ⟨rfl, rfl⟩, (H.sel [] rfl).close trivial⟩

theorem impl_isVector_c (p_ : Int) (v_ : List Int) (v_h : Hd) (n_ : Int) (y : Bool) (hF : F_impl_isVector p_ v_ n_ = some y) :
  ConF Tryz.prog 78 #[(.int .i64 p_), (v_h).v, (.int .i64 n_)] [Es (List Int) v_ v_h] [] (fun v Γ' => v = (.bool y) ∧ Γ' = []) := by
 intro w0 S0 fp0 hI hS
 have H : Cx w0 fp0 S0 w0 [Es (List Int) v_ v_h] := Cx.start hI hS
 clear hI hS
 refine enterC (args := [_, _, _]) gok Tryz.func78 rfl _ rfl rfl rfl ?_
 refine sq ?_
 refine lenE (H.rs (α := List Int) 0 rfl).len ?_
 obtain ⟨a2, e, hF3⟩ := bindS hF; clear hF
 refine boolO e ?_; clear e
 cases a2
 ·
  have hF4 := condF hF3; clear hF3
  refine sq ?_
  refine lenE (H.rs (α := List Int) 0 rfl).len ?_
  have x0 := (H.rs (α := List Int) 0 rfl).max
  obtain ⟨r0, e, f0⟩ := bindS hF4; clear hF4
  refine loopO _ v_.length (fun (k5 : Nat) (_ : Unit) (_ : Unit) => [(0, (.int .i64 p_)), (13, (v_h).v), (14, (.int .i64 ((v_.length : Nat) : Int))), (15, (.int .i64 ((k5 : Nat) : Int)))]) (fun _ (_ : Unit) (_ : Unit) w' => Cx w0 fp0 S0 w' [Es (List Int) v_ v_h]) () () e ⟨rfl, rfl, rfl, rfl, trivial⟩ (H.sel [0] rfl) ?_ ?_
  ·
   clear H e
   rintro T0 k5 _ _ w1 o0 hk (H : Cx w0 fp0 S0 w1 [Es (List Int) v_ v_h]) hrt f1
   refine boolE (z := true) (ltLen hk) ?_
   refine sq ?_
   refine sq ?_
   obtain ⟨a0, e, f2⟩ := bindS f1; clear f1
   obtain ⟨p0, m0, c0, c1, c2, c3⟩ := (H.rs (α := List Int) 0 rfl).at1 e; clear e
   refine idxE c0 c1 c2 ?_; clear c0 c1 c2
   refine load1 c3 ?_; clear c3
   obtain ⟨y0, e, f3⟩ := bindS f2; clear f2
   have i0 := e; clear e
   refine callF (impl_isElement_c p_ a0 y0 i0) (Γi := []) H trivial ?_; clear H i0
   rintro _ _ w2 ⟨rfl, rfl⟩ H
   obtain ⟨a1, e, f4⟩ := bindS f3; clear f3
   refine boolO e ?_; clear e
   cases a1
   ·
    have f5 := condF f4; clear f4
    refine arK hk x0 ?_
    have hs := Option.some.inj f5; subst hs; clear f5
    exact ⟨(), (), rfl, ⟨rfl, rfl, rfl, rfl, trivial⟩, H.sel [0] rfl⟩
   ·
    have f6 := condT f4; clear f4
    have hs := Option.some.inj f6; subst hs; clear f6
    have hr := hrt _ rfl; subst hr
    have f7 : some _ = some _ := f0
    cases f7
    exact ⟨_, _, rfl, ⟨rfl, rfl⟩, (H.sel [] rfl).close trivial⟩
  ·
   clear H e
   rintro T1 _ _ w3 hr (H : Cx w0 fp0 S0 w3 [Es (List Int) v_ v_h])
   subst hr
   refine boolE (z := false) geLen ?_
   refine sq ?_
   cases f0
   exact ⟨_, _, rfl, ⟨rfl, rfl⟩, (H.sel [] rfl).close trivial⟩
 ·
  have f8 := condT hF3; clear hF3
  cases f8
  exact ⟨_, _, rfl, ⟨rfl, rfl⟩, (H.sel [] rfl).close trivial⟩

theorem impl_areVectors_c (p_ : Int) (rows_ : List (List Int)) (rows_h : Hd) (n_ : Int) (y : Bool) (hF : F_impl_areVectors p_ rows_ n_ = some y) :
  ConF Tryz.prog 63 #[(.int .i64 p_), (rows_h).v, (.int .i64 n_)] [Es (List (List Int)) rows_ rows_h] [] (fun v Γ' => v = (.bool y) ∧ Γ' = []) := by
 intro w0 S0 fp0 hI hS
 have H : Cx w0 fp0 S0 w0 [Es (List (List Int)) rows_ rows_h] := Cx.start hI hS
 clear hI hS
 refine enterC (args := [_, _, _]) gok Tryz.func63 rfl _ rfl rfl rfl ?_
 refine sq ?_
 refine lenE (H.rs (α := List (List Int)) 0 rfl).len ?_
 have x0 := (H.rs (α := List (List Int)) 0 rfl).max
 obtain ⟨r0, e, f0⟩ := bindS hF; clear hF
 refine loopO _ rows_.length (fun (k2 : Nat) (_ : Unit) (_ : Unit) => [(0, (.int .i64 p_)), (2, (.int .i64 n_)), (9, (rows_h).v), (10, (.int .i64 ((rows_.length : Nat) : Int))), (11, (.int .i64 ((k2 : Nat) : Int)))]) (fun _ (_ : Unit) (_ : Unit) w' => Cx w0 fp0 S0 w' [Es (List (List Int)) rows_ rows_h]) () () e ⟨rfl, rfl, rfl, rfl, rfl, trivial⟩ (H.sel [0] rfl) ?_ ?_
 ·
  clear H e
  rintro T0 k2 _ _ w1 o0 hk (H : Cx w0 fp0 S0 w1 [Es (List (List Int)) rows_ rows_h]) hrt f1
  refine boolE (z := true) (ltLen hk) ?_
  refine sq ?_
  refine sq ?_
  obtain ⟨a0, e, f2⟩ := bindS f1; clear f1
  have HH := H; clear H; obtain ⟨p0, m0, h0, c0, c1, c2, c3, H⟩ := HH.elL 0 rfl e; clear HH
  clear e
  refine idxE c0 c1 c2 ?_; clear c0 c1 c2
  refine load1 c3 ?_; clear c3
  obtain ⟨y0, e, f3⟩ := bindS f2; clear f2
  have i0 := e; clear e
  refine callF (impl_isVector_c p_ a0 h0 n_ y0 i0) (Γi := []) H ⟨Vw.sh 0 rfl, trivial⟩ ?_; clear H i0
  rintro _ _ w2 ⟨rfl, rfl⟩ H
  obtain ⟨a1, e, f4⟩ := bindS f3; clear f3
  refine boolO e ?_; clear e
  cases a1
  ·
   have f5 := condF f4; clear f4
   refine arK hk x0 ?_
   have hs := Option.some.inj f5; subst hs; clear f5
   exact ⟨(), (), rfl, ⟨rfl, rfl, rfl, rfl, rfl, trivial⟩, H.sel [1] rfl⟩
  ·
   have f6 := condT f4; clear f4
   have hs := Option.some.inj f6; subst hs; clear f6
   have hr := hrt _ rfl; subst hr
   have f7 : some _ = some _ := f0
   cases f7
   exact ⟨_, _, rfl, ⟨rfl, rfl⟩, (H.sel [] rfl).close trivial⟩
 ·
  clear H e
  rintro T1 _ _ w3 hr (H : Cx w0 fp0 S0 w3 [Es (List (List Int)) rows_ rows_h])
  subst hr
  refine boolE (z := false) geLen ?_
  refine sq ?_
  cases f0
  exact ⟨_, _, rfl, ⟨rfl, rfl⟩, (H.sel [] rfl).close trivial⟩

theorem impl_isMatrix_c (p_ : Int) (m__0 : Int) (m__1 : List (List Int)) (m__1h : Hd) (y : Bool) (hF : F_impl_isMatrix p_ (m__0, m__1) = some y) :
  ConF Tryz.prog 39 #[(.int .i64 p_), (.agg #[(.int .i64 m__0), (m__1h).v])] [Es (List (List Int)) m__1 m__1h, Gl 0 [.int .i64 2, .int .i64 3, .int .i64 5, .int .i64 7]] [] (fun v Γ' => v = (.bool y) ∧ Γ' = []) := by
 intro w0 S0 fp0 hI hS
 have H : Cx w0 fp0 S0 w0 [Es (List (List Int)) m__1 m__1h, Gl 0 [.int .i64 2, .int .i64 3, .int .i64 5, .int .i64 7]] := Cx.start hI hS
 clear hI hS
 refine enterC (args := [_, _]) gok Tryz.func39 rfl _ rfl rfl rfl ?_
 refine box_ H ?_; clear H; intro b4 w3 hx H
 clear hx
 obtain ⟨r0, f0, f1⟩ := bindS hF; clear hF
 refine cut (fun (q0 : Bool) => [(4, (.bool q0))]) (fun (q0 : Bool) w' => q0 = r0 ∧ Cx w0 fp0 S0 w' [Gl 0 [.int .i64 2, .int .i64 3, .int .i64 5, .int .i64 7]]) ?_ ?_
 ·
  obtain ⟨y0, e, f2⟩ := bindS f0; clear f0
  have i0 := e; clear e
  refine callF (impl_isField_c p_ y0 i0) (Γi := []) H ⟨Vw.gl 2 rfl, trivial⟩ ?_; clear H i0
  rintro _ _ w1 ⟨rfl, rfl⟩ H
  cases y0
  ·
   have f3 := condF f2; clear f2
   exact ⟨false, ⟨rfl, trivial⟩, Option.some.inj f3, H.sel [2] rfl⟩
  ·
   have f4 := condT f2; clear f2
   refine fld gok rfl rfl rfl rfl ?_
   refine load1 (H.bx 0 rfl (j := 0) rfl) ?_
   obtain ⟨y1, e, f5⟩ := bindS f4; clear f4
   have i1 := e; clear e
   refine callF (impl_within_c m__0 0 24 y1 i1) (Γi := []) H trivial ?_; clear H i1
   rintro _ _ w2 ⟨rfl, rfl⟩ H
   cases y1
   ·
    have f6 := condF f5; clear f5
    exact ⟨false, ⟨rfl, trivial⟩, Option.some.inj f6, H.sel [2] rfl⟩
   ·
    have f7 := condT f5; clear f5
    refine fld gok rfl rfl rfl rfl ?_
    refine load1 (H.bx 0 rfl (j := 1) rfl) ?_
    refine lenE (H.rs (α := List (List Int)) 1 rfl).len ?_
    obtain ⟨a0, e, f8⟩ := bindS f7; clear f7
    refine boolO e ?_; clear e
    cases a0
    ·
     have f9 := condF f8; clear f8
     exact ⟨false, ⟨rfl, trivial⟩, Option.some.inj f9, H.sel [2] rfl⟩
    ·
     have f10 := condT f8; clear f8
     refine fld gok rfl rfl rfl rfl ?_
     refine load1 (H.bx 0 rfl (j := 1) rfl) ?_
     refine fld gok rfl rfl rfl rfl ?_
     refine load1 (H.bx 0 rfl (j := 0) rfl) ?_
     obtain ⟨y2, e, f11⟩ := bindS f10; clear f10
     have i2 := e; clear e
     refine callF (impl_areVectors_c p_ m__1 m__1h m__0 y2 i2) (Γi := []) H ⟨Vw.sh 1 rfl, trivial⟩ ?_; clear H i2
     rintro _ _ w4 ⟨rfl, rfl⟩ H
     exact ⟨y2, ⟨rfl, trivial⟩, Option.some.inj f11, H.sel [2] rfl⟩
 ·
  clear f0 H
  rintro T0 s0 w5 ⟨hr, (H : Cx w0 fp0 S0 w5 [Gl 0 [.int .i64 2, .int .i64 3, .int .i64 5, .int .i64 7]])⟩
  subst hr
  cases f1
  exact ⟨_, _, rfl, ⟨rfl, rfl⟩, (H.sel [] rfl).close trivial⟩

theorem impl_drawing_wire_c (d_b : Nat) (d__0_0 : Int) (d__0_1 : List (Int × Int × List Int × List Int)) (d__0_1v : Value) (d__0_2 : List Int) (d__0_2v : Value) (d__0_3 : List Int) (d__0_3v : Value) (y0_0_0 : Int) (y0_0_1 : List (Int × Int × List Int × List Int)) (y0_0_2 : List Int) (y0_0_3 : List Int) (y1 : Int) (hF : F_impl_drawing_wire (d__0_0, d__0_1, d__0_2, d__0_3) = some ((y0_0_0, y0_0_1, y0_0_2, y0_0_3), y1)) :
  ConF Tryz.prog 55 #[(.pointer (some ⟨d_b, 0, none⟩))] [] [Bx d_b [(.int .i64 d__0_0), d__0_1v, d__0_2v, d__0_3v]] (fun v Γ' => v = (.int .i64 y1) ∧ Γ' = [Bx d_b [(.int .i64 y0_0_0), d__0_1v, d__0_2v, d__0_3v]]) := by
 intro w0 S0 fp0 hI hS
 have H : Cx w0 fp0 S0 w0 [Bx d_b [(.int .i64 d__0_0), d__0_1v, d__0_2v, d__0_3v]] := Cx.start hI hS
 clear hI hS
 refine enterC (args := [_]) gok Tryz.func55 rfl _ rfl rfl rfl ?_
 refine fld gok rfl rfl rfl rfl ?_
 refine fld gok rfl rfl rfl rfl ?_
 refine load1 (H.bx 0 rfl (j := 0) rfl) ?_
 obtain ⟨a2, e, hF3⟩ := bindS hF; clear hF
 refine arO e ?_; clear e
 refine fld gok rfl rfl rfl rfl ?_
 refine fld gok rfl rfl rfl rfl ?_
 refine stB (j := 0) H rfl rfl ?_; clear H; intro w4 H
 refine fld gok rfl rfl rfl rfl ?_
 refine fld gok rfl rfl rfl rfl ?_
 refine load1 (H.bx 0 rfl (j := 0) rfl) ?_
 obtain ⟨a5, e, hF6⟩ := bindS hF3; clear hF3
 refine arO e ?_; clear e
 cases hF6
 exact ⟨_, _, rfl, ⟨rfl, rfl⟩, (H.sel [0] rfl).close ⟨cloB, trivial⟩⟩

theorem impl_drawing_wires_c (d_b : Nat) (d__0_0 : Int) (d__0_1 : List (Int × Int × List Int × List Int)) (d__0_1v : Value) (d__0_2 : List Int) (d__0_2v : Value) (d__0_3 : List Int) (d__0_3v : Value) (n_ : Int) (y0_0_0 : Int) (y0_0_1 : List (Int × Int × List Int × List Int)) (y0_0_2 : List Int) (y0_0_3 : List Int) (y1 : List Int) (hF : F_impl_drawing_wires (d__0_0, d__0_1, d__0_2, d__0_3) n_ = some ((y0_0_0, y0_0_1, y0_0_2, y0_0_3), y1)) :
  ConF Tryz.prog 40 #[(.pointer (some ⟨d_b, 0, none⟩)), (.int .i64 n_)] [] [Bx d_b [(.int .i64 d__0_0), d__0_1v, d__0_2v, d__0_3v]] (fun v Γ' => ∃ z0 : Hd, v = (z0).v ∧ Γ' = [Bx d_b [(.int .i64 y0_0_0), d__0_1v, d__0_2v, d__0_3v], E (List Int) y1 z0]) := by
 intro w0 S0 fp0 hI hS
 have H : Cx w0 fp0 S0 w0 [Bx d_b [(.int .i64 d__0_0), d__0_1v, d__0_2v, d__0_3v]] := Cx.start hI hS
 clear hI hS
 refine enterC (args := [_, _]) gok Tryz.func40 rfl _ rfl rfl rfl ?_
 refine lit0 (α := Int) gok rfl rfl H ?_; clear H; intro h3 w2 hx H
 clear hx
 refine sq ?_
 obtain ⟨a0, hn36, f0⟩ := bindS hF; clear hF
 obtain ⟨r0, e, f1⟩ := bindS f0; clear f0
 refine loopS _ n_.toNat (fun (k5 : Nat) (s0 : Int × List Int) (g0 : Hd) => [(0, (.pointer (some ⟨d_b, 0, none⟩))), (5, (g0).v), (7, (.int .i64 n_)), (8, (.int .i64 ((k5 : Nat) : Int)))]) (fun _ (s0 : Int × List Int) (g0 : Hd) w' => Cx w0 fp0 S0 w' [Bx d_b [(.int .i64 s0.1), d__0_1v, d__0_2v, d__0_3v], E (List Int) s0.2 g0]) (d__0_0, ([] : List Int)) h3 e ⟨rfl, rfl, rfl, rfl, trivial⟩ (H.sel [1, 0] rfl) ?_ ?_
 ·
  clear H e
  rintro T0 k5 ⟨s0_0, s0_1⟩ g0 w1 o0 hk (H : Cx w0 fp0 S0 w1 [Bx d_b [(.int .i64 s0_0), d__0_1v, d__0_2v, d__0_3v], E (List Int) s0_1 g0]) f2
  refine boolE (z := true) (ltNat hk) ?_
  refine sq ?_
  refine sq ?_
  obtain ⟨y0, e, f3⟩ := bindS f2; clear f2
  obtain ⟨⟨y0_0_0_0, y0_0_0_1, y0_0_0_2, y0_0_0_3⟩, y0_1⟩ := y0
  have i0 := e; clear e
  refine callF (impl_drawing_wire_c d_b s0_0 d__0_1 d__0_1v d__0_2 d__0_2v d__0_3 d__0_3v y0_0_0_0 y0_0_0_1 y0_0_0_2 y0_0_0_3 y0_1 i0) (Γi := [Bx d_b [(.int .i64 s0_0), d__0_1v, d__0_2v, d__0_3v]]) H trivial ?_; clear H i0
  rintro _ _ w3 ⟨rfl, rfl⟩ H
  refine lit1S (α := Int) gok rfl rfl rfl rfl H ?_; clear H; intro h0 w4 hx H
  clear hx
  obtain ⟨a1, e, f4⟩ := bindS f3; clear f3
  replace H := H.sel [2, 0, 1] rfl
  refine append_ (α := Int) gok rfl rfl rfl rfl H e ?_; clear e H; intro h1 w5 H
  refine arK hk (maxI hn36) ?_
  have hs := Option.some.inj f4; subst hs; clear f4
  exact ⟨h1, ⟨rfl, rfl, rfl, rfl, trivial⟩, H.sel [1, 0] rfl⟩
 ·
  clear H e
  obtain ⟨s1_0, s1_1⟩ := r0
  rintro T1 g1 w6 (H : Cx w0 fp0 S0 w6 [Bx d_b [(.int .i64 s1_0), d__0_1v, d__0_2v, d__0_3v], E (List Int) s1_1 g1])
  refine boolE (z := false) geNat ?_
  refine sq ?_
  cases f1
  exact ⟨_, _, rfl, ⟨g1, rfl, rfl⟩, (H.sel [0, 1] rfl).close ⟨cloB, cloE, trivial⟩⟩

theorem impl_drawing_edge_c (d_b : Nat) (d__0_0 : Int) (d__0_1 : List (Int × Int × List Int × List Int)) (d__0_1h : Hd) (d__0_2 : List Int) (d__0_2v : Value) (d__0_3 : List Int) (d__0_3v : Value) (kind_ : Int) (value_ : Int) (in_ : List Int) (in_h : Hd) (out_ : List Int) (out_h : Hd) (y_0_0 : Int) (y_0_1 : List (Int × Int × List Int × List Int)) (y_0_2 : List Int) (y_0_3 : List Int) (hF : F_impl_drawing_edge (d__0_0, d__0_1, d__0_2, d__0_3) kind_ value_ in_ out_ = some (y_0_0, y_0_1, y_0_2, y_0_3)) :
  ConS Tryz.prog 53 #[(.pointer (some ⟨d_b, 0, none⟩)), (.int .i64 kind_), (.int .i64 value_), (in_h).v, (out_h).v] [Es (List Int) in_ in_h, Es (List Int) out_ out_h] [Bx d_b [(.int .i64 d__0_0), (d__0_1h).v, d__0_2v, d__0_3v], E (List (Sh (Int × Int × List Int × List Int))) d__0_1 d__0_1h] (fun v Γ' => ∃ z0 : Hd, v = (.tuple #[]) ∧ Γ' = [Bx d_b [(.int .i64 y_0_0), (z0).v, d__0_2v, d__0_3v], E (List (Sh (Int × Int × List Int × List Int))) y_0_1 z0]) := by
 intro w0 S0 fp0 hI hS
 have H : Cx w0 fp0 S0 w0 [Es (List Int) in_ in_h, Es (List Int) out_ out_h, Bx d_b [(.int .i64 d__0_0), (d__0_1h).v, d__0_2v, d__0_3v], E (List (Sh (Int × Int × List Int × List Int))) d__0_1 d__0_1h] := Cx.start hI hS
 clear hI hS
 refine enterC (args := [_, _, _, _, _]) gok Tryz.func53 rfl _ rfl rfl rfl ?_
 refine fld gok rfl rfl rfl rfl ?_
 refine fld gok rfl rfl rfl rfl ?_
 refine load1 (H.bx 2 rfl (j := 1) rfl) ?_
 refine build_ (cs := #[(.int .i64 kind_), (.int .i64 value_), (in_h).v, (out_h).v]) gok rfl rfl rfl ?_
 replace H := H.dup 0 rfl persS
 replace H := H.dup 2 rfl persS
 replace H := H.sel [1, 0, 2, 3, 4, 5] rfl
 replace H := H.join (α := Sh (List Int)) (β := Sh (List Int))
 replace H := H.sc (α := Int) value_
 replace H := H.join (α := Int) (β := Sh (List Int) × Sh (List Int))
 replace H := H.sc (α := Int) kind_
 replace H := H.join (α := Int) (β := Int × Sh (List Int) × Sh (List Int))
 refine lit1 (α := Int × Int × Sh (List Int) × Sh (List Int)) (x := (kind_, value_, in_, out_)) (g := ((), (), in_h, out_h)) gok rfl rfl rfl rfl (by rfl) H ?_; clear H; intro h6 w5 hx H
 clear hx
 obtain ⟨a0, e, f0⟩ := bindS hF; clear hF
 replace H := H.frzP (α := Int × Int × Sh (List Int) × Sh (List Int)) (β := Int × Int × List Int × List Int) inferInstance (fun x => x) (fun x => x) (fun x => x) (fun l i => (by simp : l[i]? = l[i]?.map fun x => x)) rfl (fun _ _ _ _ h => h) (fun _ _ => rfl)
 replace H := H.sel [4, 0, 1, 2, 3] rfl
 refine append_ (α := Sh (Int × Int × List Int × List Int)) gok rfl rfl rfl rfl H e ?_; clear e H; intro h0 w1 H
 refine fld gok rfl rfl rfl rfl ?_
 refine fld gok rfl rfl rfl rfl ?_
 replace H := H.sel [3, 0, 1, 2] rfl
 refine stB (j := 1) H rfl rfl ?_; clear H; intro w2 H
 cases f0
 exact ⟨_, _, rfl, ⟨h0, rfl, rfl⟩, (H.sel [0, 1] rfl)⟩

theorem impl_drawing_fanOut_cn : ∀ (fuel : Nat) (d_b : Nat) (d__0_0 : Int) (d__0_1 : List (Int × Int × List Int × List Int)) (d__0_1h : Hd) (d__0_2 : List Int) (d__0_2v : Value) (d__0_3 : List Int) (d__0_3v : Value) (w_ : Int) (n_ : Int) (y0_0_0 : Int) (y0_0_1 : List (Int × Int × List Int × List Int)) (y0_0_2 : List Int) (y0_0_3 : List Int) (y1 : List Int) (hF : F_impl_drawing_fanOut_n fuel (d__0_0, d__0_1, d__0_2, d__0_3) w_ n_ = some ((y0_0_0, y0_0_1, y0_0_2, y0_0_3), y1)),
  ConS Tryz.prog 64 #[(.pointer (some ⟨d_b, 0, none⟩)), (.int .i64 w_), (.int .i64 n_)] [] [Bx d_b [(.int .i64 d__0_0), (d__0_1h).v, d__0_2v, d__0_3v], E (List (Sh (Int × Int × List Int × List Int))) d__0_1 d__0_1h] (fun v Γ' => ∃ z0 z1 : Hd, v = (z1).v ∧ Γ' = [Bx d_b [(.int .i64 y0_0_0), (z0).v, d__0_2v, d__0_3v], E (List (Sh (Int × Int × List Int × List Int))) y0_0_1 z0, Es (List Int) y1 z1]) := by
 intro fuel
 induction fuel with
 | zero => intro d_b d__0_0 d__0_1 d__0_1h d__0_2 d__0_2v d__0_3 d__0_3v w_ n_ y0_0_0 y0_0_1 y0_0_2 y0_0_3 y1 hF; cases hF
 | succ fuel ih =>
 intro d_b d__0_0 d__0_1 d__0_1h d__0_2 d__0_2v d__0_3 d__0_3v w_ n_ y0_0_0 y0_0_1 y0_0_2 y0_0_3 y1 hF
 intro w0 S0 fp0 hI hS
 have H : Cx w0 fp0 S0 w0 [Bx d_b [(.int .i64 d__0_0), (d__0_1h).v, d__0_2v, d__0_3v], E (List (Sh (Int × Int × List Int × List Int))) d__0_1 d__0_1h] := Cx.start hI hS
 clear hI hS
 refine enterC (args := [_, _, _]) gok Tryz.func64 rfl _ rfl rfl rfl ?_
 refine sq ?_
 obtain ⟨a3, e, hF4⟩ := bindS hF; clear hF
 refine boolO e ?_; clear e
 cases a3
 ·
  have hF5 := condF hF4; clear hF4
  obtain ⟨a6, e, hF7⟩ := bindS hF5; clear hF5
  refine boolO e ?_; clear e
  cases a6
  ·
   have hF8 := condF hF7; clear hF7
   obtain ⟨y9, e, f0⟩ := bindS hF8; clear hF8
   obtain ⟨⟨y9_0_0_0, y9_0_0_1, y9_0_0_2, y9_0_0_3⟩, y9_1⟩ := y9
   have ey9 := e; clear e
   refine callF (impl_drawing_wires_c d_b d__0_0 d__0_1 ((d__0_1h).v) d__0_2 d__0_2v d__0_3 d__0_3v 2 y9_0_0_0 y9_0_0_1 y9_0_0_2 y9_0_0_3 y9_1 ey9) (Γi := [Bx d_b [(.int .i64 d__0_0), (d__0_1h).v, d__0_2v, d__0_3v]]) H trivial ?_; clear H ey9
   rintro _ _ w1 ⟨h0, rfl, rfl⟩ H
   refine lit1S (α := Int) gok rfl rfl rfl rfl H ?_; clear H; intro h1 w2 hx H
   clear hx
   obtain ⟨y0, e, f1⟩ := bindS f0; clear f0
   obtain ⟨y0_0_0, y0_0_1, y0_0_2, y0_0_3⟩ := y0
   have i0 := e; clear e
   replace H := H.frz
   replace H := H.sel [2, 0, 1, 3] rfl
   replace H := H.frz
   replace H := H.sel [2, 3, 0, 1] rfl
   refine callS (impl_drawing_edge_c d_b y9_0_0_0 d__0_1 d__0_1h d__0_2 d__0_2v d__0_3 d__0_3v 3 0 [w_] h1 y9_1 h0 y0_0_0 y0_0_1 y0_0_2 y0_0_3 i0) (Γi := [Bx d_b [(.int .i64 y9_0_0_0), (d__0_1h).v, d__0_2v, d__0_3v], E (List (Sh (Int × Int × List Int × List Int))) d__0_1 d__0_1h]) H [1, 0] rfl (persC persS (persC persS persN)) ?_; clear H i0
   rintro _ _ w3 ⟨h2, rfl, rfl⟩ H
   obtain ⟨r0, f2, f3⟩ := bindS f1; clear f1
   refine heldJ H [10, 11, 12, 3, 7, 2, 1, 6, 0, 4, 5, 8, 9] (.pure 0 (.pure 4 (.pure 5 (.pure 8 (.pure 9 (.alts (.alt 1 (.alts (.alt 2 (.alts (.alt 3 (.act 6 (.act 7 (.act 10 (.act 11 (.act 12 .done))))) (.alt 6 (.alts (.alt 3 (.act 7 (.act 10 (.act 11 (.act 12 .done)))) (.alt 7 (.alts (.alt 3 (.act 10 (.act 11 (.act 12 .done))) (.alt 10 (.act 3 (.act 11 (.act 12 .done))) .no))) .no))) .no))) (.alt 6 (.alts (.alt 2 (.alts (.alt 3 (.act 7 (.act 10 (.act 11 (.act 12 .done)))) (.alt 7 (.alts (.alt 3 (.act 10 (.act 11 (.act 12 .done))) (.alt 10 (.act 3 (.act 11 (.act 12 .done))) .no))) .no))) (.alt 7 (.alts (.alt 2 (.alts (.alt 3 (.act 10 (.act 11 (.act 12 .done))) (.alt 10 (.act 3 (.act 11 (.act 12 .done))) .no))) (.alt 10 (.act 2 (.act 3 (.act 11 (.act 12 .done)))) .no))) .no))) .no))) (.alt 6 (.alts (.alt 1 (.alts (.alt 2 (.alts (.alt 3 (.act 7 (.act 10 (.act 11 (.act 12 .done)))) (.alt 7 (.alts (.alt 3 (.act 10 (.act 11 (.act 12 .done))) (.alt 10 (.act 3 (.act 11 (.act 12 .done))) .no))) .no))) (.alt 7 (.alts (.alt 2 (.alts (.alt 3 (.act 10 (.act 11 (.act 12 .done))) (.alt 10 (.act 3 (.act 11 (.act 12 .done))) .no))) (.alt 10 (.act 2 (.act 3 (.act 11 (.act 12 .done)))) .no))) .no))) (.alt 7 (.alts (.alt 1 (.alts (.alt 2 (.alts (.alt 3 (.act 10 (.act 11 (.act 12 .done))) (.alt 10 (.act 3 (.act 11 (.act 12 .done))) .no))) (.alt 10 (.act 2 (.act 3 (.act 11 (.act 12 .done)))) .no))) (.alt 10 (.act 1 (.act 2 (.act 3 (.act 11 (.act 12 .done))))) .no))) .no))) .no)))))))) mixed [] trivial (by kernel_rfl) (fun (q0 : (Int × (List (Int × Int × List Int × List Int)) × List Int) × (Hd × Hd)) => [(6, (q0.2.2).v)]) (fun (q0 : (Int × (List (Int × Int × List Int × List Int)) × List Int) × (Hd × Hd)) w' => (q0.1.1, q0.1.2.1, q0.1.2.2) = r0 ∧ Cx w0 fp0 S0 w' [E (List Int) q0.1.2.2 q0.2.2, Bx d_b [(.int .i64 q0.1.1), (q0.2.1).v, d__0_2v, d__0_3v], E (List (Sh (Int × Int × List Int × List Int))) q0.1.2.1 q0.2.1]) ?_ ?_
   ·
    clear H; intro w4 H
    have hX : Ext w4 w4 := Upd.refl _ _
    have H0 := H
    obtain ⟨a0, e, f4⟩ := bindS f2; clear f2
    refine arO e ?_; clear e
    refine both ?_ ?_
    ·
     obtain ⟨a1, e, f5⟩ := bindS f4; clear f4
     have d0 := e; clear e
     obtain ⟨p0, m0, c0, c1, c2, c3⟩ := (H.rs (α := List Int) 2 rfl).at1 d0; clear c3
     refine idxE c0 c1 c2 ?_; clear c2
     refine hold trivial ?_
     refine both ?_ ?_
     ·
      refine load1 ((H.rs (α := List Int) 2 rfl).at1' c0 c1 d0) ?_; clear c0 c1 d0
      refine hold trivial ?_
      refine both ?_ ?_
      ·
       refine lit1S (α := Int) gok rfl rfl rfl rfl H ?_; clear H; intro h3 w5 hx H
       clear hx
       refine hold trivial ?_
       obtain ⟨a2, e, f6⟩ := bindS f5; clear f5
       have d1 := e; clear e
       obtain ⟨p1, m1, c4, c5, c6, c7⟩ := (H.rs (α := List Int) 3 rfl).at1 d1; clear c7
       refine idxE c4 c5 c6 ?_; clear c6
       refine hold trivial ?_
       refine load1 ((H.rs (α := List Int) 3 rfl).at1' c4 c5 d1) ?_; clear c4 c5 d1
       refine hold trivial ?_
       obtain ⟨y2, e, f7⟩ := bindS f6; clear f6
       obtain ⟨⟨y2_0_0_0, y2_0_0_1, y2_0_0_2, y2_0_0_3⟩, y2_1⟩ := y2
       have i1 := e; clear e
       replace H := H.sel [1, 2, 0, 3, 4] rfl
       refine callS (ih d_b y0_0_0 y0_0_1 h2 d__0_2 d__0_2v d__0_3 d__0_3v a2 a0 y2_0_0_0 y2_0_0_1 y2_0_0_2 y2_0_0_3 y2_1 i1) (Γi := [Bx d_b [(.int .i64 y0_0_0), (h2).v, d__0_2v, d__0_3v], E (List (Sh (Int × Int × List Int × List Int))) y0_0_1 h2]) H [] rfl persN ?_; clear H i1
       rintro _ _ w6 ⟨h4, h5, rfl, rfl⟩ H
       refine hold trivial ?_
       obtain ⟨a4, e, f8⟩ := bindS f7; clear f7
       replace H := H.sel [3, 0, 1, 2, 4, 5] rfl
       refine appendS (α := Int) gok rfl rfl rfl rfl H (Vw.sh 2 rfl) e ?_; clear e H; intro h6 w7 H
       refine hold trivial ?_
       refine hold trivial ?_
       exact ⟨((y2_0_0_0, y2_0_0_1, a4), (h4, h6)), ⟨rfl, trivial⟩, Option.some.inj f8, H.sel [0, 1, 2] rfl⟩
      ·
       refine both ?_ ?_
       ·
        obtain ⟨a5, o0, f9⟩ := bindS f5; clear f5
        obtain ⟨a7, o1, f10⟩ := bindS f9; clear f9
        obtain ⟨a8, o2, f11⟩ := bindS f10; clear f10
        have e := o0; clear o0
        have d2 := e; clear e
        obtain ⟨p2, m2, c8, c9, c10, c11⟩ := (H.rs (α := List Int) 2 rfl).at1 d2; clear c11
        refine idxE c8 c9 c10 ?_; clear c10
        refine hold trivial ?_
        refine both ?_ ?_
        ·
         refine lit1S (α := Int) gok rfl rfl rfl rfl H ?_; clear H; intro h7 w8 hx H
         clear hx
         refine hold trivial ?_
         refine load1 ((H.rs (α := List Int) 3 rfl).at1' c8 c9 d2) ?_; clear c8 c9 d2
         refine hold trivial ?_
         have e := o1; clear o1
         obtain ⟨⟨a7_0_0_0, a7_0_0_1, a7_0_0_2, a7_0_0_3⟩, a7_1⟩ := a7
         have i2 := e; clear e
         replace H := H.sel [1, 2, 0, 3, 4] rfl
         refine callS (ih d_b y0_0_0 y0_0_1 h2 d__0_2 d__0_2v d__0_3 d__0_3v a5 a0 a7_0_0_0 a7_0_0_1 a7_0_0_2 a7_0_0_3 a7_1 i2) (Γi := [Bx d_b [(.int .i64 y0_0_0), (h2).v, d__0_2v, d__0_3v], E (List (Sh (Int × Int × List Int × List Int))) y0_0_1 h2]) H [] rfl persN ?_; clear H i2
         rintro _ _ w9 ⟨h8, h9, rfl, rfl⟩ H
         refine hold trivial ?_
         have e := o2; clear o2
         replace H := H.sel [3, 0, 1, 2, 4, 5] rfl
         refine appendS (α := Int) gok rfl rfl rfl rfl H (Vw.sh 2 rfl) e ?_; clear e H; intro h10 w10 H
         refine hold trivial ?_
         refine hold trivial ?_
         exact ⟨((a7_0_0_0, a7_0_0_1, a8), (h8, h10)), ⟨rfl, trivial⟩, Option.some.inj f11, H.sel [0, 1, 2] rfl⟩
        ·
         refine both ?_ ?_
         ·
          refine load1 ((H.rs (α := List Int) 2 rfl).at1' c8 c9 d2) ?_; clear c8 c9 d2
          refine hold trivial ?_
          refine both ?_ ?_
          ·
           refine lit1S (α := Int) gok rfl rfl rfl rfl H ?_; clear H; intro h11 w12 hx H
           clear hx
           refine hold trivial ?_
           have e := o1; clear o1
           obtain ⟨⟨a7_0_0_0, a7_0_0_1, a7_0_0_2, a7_0_0_3⟩, a7_1⟩ := a7
           have i2 := e; clear e
           replace H := H.sel [1, 2, 0, 3, 4] rfl
           refine callS (ih d_b y0_0_0 y0_0_1 h2 d__0_2 d__0_2v d__0_3 d__0_3v a5 a0 a7_0_0_0 a7_0_0_1 a7_0_0_2 a7_0_0_3 a7_1 i2) (Γi := [Bx d_b [(.int .i64 y0_0_0), (h2).v, d__0_2v, d__0_3v], E (List (Sh (Int × Int × List Int × List Int))) y0_0_1 h2]) H [] rfl persN ?_; clear H i2
           rintro _ _ w13 ⟨h13, h14, rfl, rfl⟩ H
           refine hold trivial ?_
           have e := o2; clear o2
           replace H := H.sel [3, 0, 1, 2, 4, 5] rfl
           refine appendS (α := Int) gok rfl rfl rfl rfl H (Vw.sh 2 rfl) e ?_; clear e H; intro h16 w15 H
           refine hold trivial ?_
           refine hold trivial ?_
           exact ⟨((a7_0_0_0, a7_0_0_1, a8), (h13, h16)), ⟨rfl, trivial⟩, Option.some.inj f11, H.sel [0, 1, 2] rfl⟩
          ·
           refine both ?_ ?_
           ·
            have e := o1; clear o1
            obtain ⟨⟨a7_0_0_0, a7_0_0_1, a7_0_0_2, a7_0_0_3⟩, a7_1⟩ := a7
            have i2 := e; clear e
            refine callS (ih d_b y0_0_0 y0_0_1 h2 d__0_2 d__0_2v d__0_3 d__0_3v a5 a0 a7_0_0_0 a7_0_0_1 a7_0_0_2 a7_0_0_3 a7_1 i2) (Γi := [Bx d_b [(.int .i64 y0_0_0), (h2).v, d__0_2v, d__0_3v], E (List (Sh (Int × Int × List Int × List Int))) y0_0_1 h2]) H [] rfl persN ?_; clear H i2
            rintro _ _ w16 ⟨h17, h18, rfl, rfl⟩ H
            refine hold trivial ?_
            refine lit1S (α := Int) gok rfl rfl rfl rfl H ?_; clear H; intro h19 w17 hx H
            clear hx
            refine hold trivial ?_
            have e := o2; clear o2
            refine appendS (α := Int) gok rfl rfl rfl rfl H (Vw.sh 2 rfl) e ?_; clear e H; intro h21 w18 H
            refine hold trivial ?_
            refine hold trivial ?_
            exact ⟨((a7_0_0_0, a7_0_0_1, a8), (h17, h21)), ⟨rfl, trivial⟩, Option.some.inj f11, H.sel [0, 1, 2] rfl⟩
           ·
            exact trivial
         ·
          exact trivial
       ·
        exact trivial
     ·
      refine both ?_ ?_
      ·
       obtain ⟨a9, o3, f12⟩ := bindS f5; clear f5
       obtain ⟨a10, o4, f13⟩ := bindS f12; clear f12
       obtain ⟨a11, o5, f14⟩ := bindS f13; clear f13
       have e := o3; clear o3
       have d3 := e; clear e
       obtain ⟨p3, m3, c12, c13, c14, c15⟩ := (H.rs (α := List Int) 2 rfl).at1 d3; clear c15
       refine idxE c12 c13 c14 ?_; clear c14
       refine hold trivial ?_
       refine both ?_ ?_
       ·
        refine load1 ((H.rs (α := List Int) 2 rfl).at1' c0 c1 d0) ?_; clear c0 c1 d0
        refine hold trivial ?_
        refine both ?_ ?_
        ·
         refine lit1S (α := Int) gok rfl rfl rfl rfl H ?_; clear H; intro h22 w20 hx H
         clear hx
         refine hold trivial ?_
         refine load1 ((H.rs (α := List Int) 3 rfl).at1' c12 c13 d3) ?_; clear c12 c13 d3
         refine hold trivial ?_
         have e := o4; clear o4
         obtain ⟨⟨a10_0_0_0, a10_0_0_1, a10_0_0_2, a10_0_0_3⟩, a10_1⟩ := a10
         have i3 := e; clear e
         replace H := H.sel [1, 2, 0, 3, 4] rfl
         refine callS (ih d_b y0_0_0 y0_0_1 h2 d__0_2 d__0_2v d__0_3 d__0_3v a9 a0 a10_0_0_0 a10_0_0_1 a10_0_0_2 a10_0_0_3 a10_1 i3) (Γi := [Bx d_b [(.int .i64 y0_0_0), (h2).v, d__0_2v, d__0_3v], E (List (Sh (Int × Int × List Int × List Int))) y0_0_1 h2]) H [] rfl persN ?_; clear H i3
         rintro _ _ w21 ⟨h23, h24, rfl, rfl⟩ H
         refine hold trivial ?_
         have e := o5; clear o5
         replace H := H.sel [3, 0, 1, 2, 4, 5] rfl
         refine appendS (α := Int) gok rfl rfl rfl rfl H (Vw.sh 2 rfl) e ?_; clear e H; intro h25 w22 H
         refine hold trivial ?_
         refine hold trivial ?_
         exact ⟨((a10_0_0_0, a10_0_0_1, a11), (h23, h25)), ⟨rfl, trivial⟩, Option.some.inj f14, H.sel [0, 1, 2] rfl⟩
        ·
         refine both ?_ ?_
         ·
          refine load1 ((H.rs (α := List Int) 2 rfl).at1' c12 c13 d3) ?_; clear c12 c13 d3
          refine hold trivial ?_
          refine both ?_ ?_
          ·
           refine lit1S (α := Int) gok rfl rfl rfl rfl H ?_; clear H; intro h26 w23 hx H
           clear hx
           refine hold trivial ?_
           have e := o4; clear o4
           obtain ⟨⟨a10_0_0_0, a10_0_0_1, a10_0_0_2, a10_0_0_3⟩, a10_1⟩ := a10
           have i3 := e; clear e
           replace H := H.sel [1, 2, 0, 3, 4] rfl
           refine callS (ih d_b y0_0_0 y0_0_1 h2 d__0_2 d__0_2v d__0_3 d__0_3v a9 a0 a10_0_0_0 a10_0_0_1 a10_0_0_2 a10_0_0_3 a10_1 i3) (Γi := [Bx d_b [(.int .i64 y0_0_0), (h2).v, d__0_2v, d__0_3v], E (List (Sh (Int × Int × List Int × List Int))) y0_0_1 h2]) H [] rfl persN ?_; clear H i3
           rintro _ _ w24 ⟨h27, h28, rfl, rfl⟩ H
           refine hold trivial ?_
           have e := o5; clear o5
           replace H := H.sel [3, 0, 1, 2, 4, 5] rfl
           refine appendS (α := Int) gok rfl rfl rfl rfl H (Vw.sh 2 rfl) e ?_; clear e H; intro h29 w25 H
           refine hold trivial ?_
           refine hold trivial ?_
           exact ⟨((a10_0_0_0, a10_0_0_1, a11), (h27, h29)), ⟨rfl, trivial⟩, Option.some.inj f14, H.sel [0, 1, 2] rfl⟩
          ·
           refine both ?_ ?_
           ·
            have e := o4; clear o4
            obtain ⟨⟨a10_0_0_0, a10_0_0_1, a10_0_0_2, a10_0_0_3⟩, a10_1⟩ := a10
            have i3 := e; clear e
            refine callS (ih d_b y0_0_0 y0_0_1 h2 d__0_2 d__0_2v d__0_3 d__0_3v a9 a0 a10_0_0_0 a10_0_0_1 a10_0_0_2 a10_0_0_3 a10_1 i3) (Γi := [Bx d_b [(.int .i64 y0_0_0), (h2).v, d__0_2v, d__0_3v], E (List (Sh (Int × Int × List Int × List Int))) y0_0_1 h2]) H [] rfl persN ?_; clear H i3
            rintro _ _ w26 ⟨h30, h31, rfl, rfl⟩ H
            refine hold trivial ?_
            refine lit1S (α := Int) gok rfl rfl rfl rfl H ?_; clear H; intro h32 w27 hx H
            clear hx
            refine hold trivial ?_
            have e := o5; clear o5
            refine appendS (α := Int) gok rfl rfl rfl rfl H (Vw.sh 2 rfl) e ?_; clear e H; intro h33 w28 H
            refine hold trivial ?_
            refine hold trivial ?_
            exact ⟨((a10_0_0_0, a10_0_0_1, a11), (h30, h33)), ⟨rfl, trivial⟩, Option.some.inj f14, H.sel [0, 1, 2] rfl⟩
           ·
            exact trivial
         ·
          exact trivial
       ·
        refine both ?_ ?_
        ·
         refine load1 ((H.rs (α := List Int) 2 rfl).at1' c12 c13 d3) ?_; clear c12 c13 d3
         refine hold trivial ?_
         refine both ?_ ?_
         ·
          refine load1 ((H.rs (α := List Int) 2 rfl).at1' c0 c1 d0) ?_; clear c0 c1 d0
          refine hold trivial ?_
          refine both ?_ ?_
          ·
           refine lit1S (α := Int) gok rfl rfl rfl rfl H ?_; clear H; intro h34 w29 hx H
           clear hx
           refine hold trivial ?_
           have e := o4; clear o4
           obtain ⟨⟨a10_0_0_0, a10_0_0_1, a10_0_0_2, a10_0_0_3⟩, a10_1⟩ := a10
           have i3 := e; clear e
           replace H := H.sel [1, 2, 0, 3, 4] rfl
           refine callS (ih d_b y0_0_0 y0_0_1 h2 d__0_2 d__0_2v d__0_3 d__0_3v a9 a0 a10_0_0_0 a10_0_0_1 a10_0_0_2 a10_0_0_3 a10_1 i3) (Γi := [Bx d_b [(.int .i64 y0_0_0), (h2).v, d__0_2v, d__0_3v], E (List (Sh (Int × Int × List Int × List Int))) y0_0_1 h2]) H [] rfl persN ?_; clear H i3
           rintro _ _ w30 ⟨h35, h36, rfl, rfl⟩ H
           refine hold trivial ?_
           have e := o5; clear o5
           replace H := H.sel [3, 0, 1, 2, 4, 5] rfl
           refine appendS (α := Int) gok rfl rfl rfl rfl H (Vw.sh 2 rfl) e ?_; clear e H; intro h37 w31 H
           refine hold trivial ?_
           refine hold trivial ?_
           exact ⟨((a10_0_0_0, a10_0_0_1, a11), (h35, h37)), ⟨rfl, trivial⟩, Option.some.inj f14, H.sel [0, 1, 2] rfl⟩
          ·
           refine both ?_ ?_
           ·
            have e := o4; clear o4
            obtain ⟨⟨a10_0_0_0, a10_0_0_1, a10_0_0_2, a10_0_0_3⟩, a10_1⟩ := a10
            have i3 := e; clear e
            refine callS (ih d_b y0_0_0 y0_0_1 h2 d__0_2 d__0_2v d__0_3 d__0_3v a9 a0 a10_0_0_0 a10_0_0_1 a10_0_0_2 a10_0_0_3 a10_1 i3) (Γi := [Bx d_b [(.int .i64 y0_0_0), (h2).v, d__0_2v, d__0_3v], E (List (Sh (Int × Int × List Int × List Int))) y0_0_1 h2]) H [] rfl persN ?_; clear H i3
            rintro _ _ w32 ⟨h38, h39, rfl, rfl⟩ H
            refine hold trivial ?_
            refine lit1S (α := Int) gok rfl rfl rfl rfl H ?_; clear H; intro h40 w33 hx H
            clear hx
            refine hold trivial ?_
            have e := o5; clear o5
            refine appendS (α := Int) gok rfl rfl rfl rfl H (Vw.sh 2 rfl) e ?_; clear e H; intro h41 w34 H
            refine hold trivial ?_
            refine hold trivial ?_
            exact ⟨((a10_0_0_0, a10_0_0_1, a11), (h38, h41)), ⟨rfl, trivial⟩, Option.some.inj f14, H.sel [0, 1, 2] rfl⟩
           ·
            exact trivial
         ·
          refine both ?_ ?_
          ·
           have e := o4; clear o4
           obtain ⟨⟨a10_0_0_0, a10_0_0_1, a10_0_0_2, a10_0_0_3⟩, a10_1⟩ := a10
           have i3 := e; clear e
           refine callS (ih d_b y0_0_0 y0_0_1 h2 d__0_2 d__0_2v d__0_3 d__0_3v a9 a0 a10_0_0_0 a10_0_0_1 a10_0_0_2 a10_0_0_3 a10_1 i3) (Γi := [Bx d_b [(.int .i64 y0_0_0), (h2).v, d__0_2v, d__0_3v], E (List (Sh (Int × Int × List Int × List Int))) y0_0_1 h2]) H [] rfl persN ?_; clear H i3
           rintro _ _ w35 ⟨h42, h43, rfl, rfl⟩ H
           refine hold trivial ?_
           refine load1 ((H.rs (α := List Int) 3 rfl).at1' c0 c1 d0) ?_; clear c0 c1 d0
           refine hold trivial ?_
           refine lit1S (α := Int) gok rfl rfl rfl rfl H ?_; clear H; intro h44 w36 hx H
           clear hx
           refine hold trivial ?_
           have e := o5; clear o5
           refine appendS (α := Int) gok rfl rfl rfl rfl H (Vw.sh 2 rfl) e ?_; clear e H; intro h45 w37 H
           refine hold trivial ?_
           refine hold trivial ?_
           exact ⟨((a10_0_0_0, a10_0_0_1, a11), (h42, h45)), ⟨rfl, trivial⟩, Option.some.inj f14, H.sel [0, 1, 2] rfl⟩
          ·
           exact trivial
        ·
         exact trivial
      ·
       exact trivial
    ·
     refine both ?_ ?_
     ·
      obtain ⟨a12, o6, f15⟩ := bindS f4; clear f4
      obtain ⟨a13, o7, f16⟩ := bindS f15; clear f15
      obtain ⟨a14, o8, f17⟩ := bindS f16; clear f16
      obtain ⟨a15, o9, f18⟩ := bindS f17; clear f17
      have e := o7; clear o7
      have d4 := e; clear e
      obtain ⟨p4, m4, c16, c17, c18, c19⟩ := (H.rs (α := List Int) 2 rfl).at1 d4; clear c19
      refine idxE c16 c17 c18 ?_; clear c18
      refine hold trivial ?_
      refine both ?_ ?_
      ·
       have e := o6; clear o6
       have d5 := e; clear e
       obtain ⟨p5, m5, c20, c21, c22, c23⟩ := (H.rs (α := List Int) 2 rfl).at1 d5; clear c23
       refine idxE c20 c21 c22 ?_; clear c22
       refine hold trivial ?_
       refine both ?_ ?_
       ·
        refine load1 ((H.rs (α := List Int) 2 rfl).at1' c20 c21 d5) ?_; clear c20 c21 d5
        refine hold trivial ?_
        refine both ?_ ?_
        ·
         refine lit1S (α := Int) gok rfl rfl rfl rfl H ?_; clear H; intro h46 w38 hx H
         clear hx
         refine hold trivial ?_
         refine load1 ((H.rs (α := List Int) 3 rfl).at1' c16 c17 d4) ?_; clear c16 c17 d4
         refine hold trivial ?_
         have e := o8; clear o8
         obtain ⟨⟨a14_0_0_0, a14_0_0_1, a14_0_0_2, a14_0_0_3⟩, a14_1⟩ := a14
         have i4 := e; clear e
         replace H := H.sel [1, 2, 0, 3, 4] rfl
         refine callS (ih d_b y0_0_0 y0_0_1 h2 d__0_2 d__0_2v d__0_3 d__0_3v a13 a0 a14_0_0_0 a14_0_0_1 a14_0_0_2 a14_0_0_3 a14_1 i4) (Γi := [Bx d_b [(.int .i64 y0_0_0), (h2).v, d__0_2v, d__0_3v], E (List (Sh (Int × Int × List Int × List Int))) y0_0_1 h2]) H [] rfl persN ?_; clear H i4
         rintro _ _ w39 ⟨h47, h48, rfl, rfl⟩ H
         refine hold trivial ?_
         have e := o9; clear o9
         replace H := H.sel [3, 0, 1, 2, 4, 5] rfl
         refine appendS (α := Int) gok rfl rfl rfl rfl H (Vw.sh 2 rfl) e ?_; clear e H; intro h49 w40 H
         refine hold trivial ?_
         refine hold trivial ?_
         exact ⟨((a14_0_0_0, a14_0_0_1, a15), (h47, h49)), ⟨rfl, trivial⟩, Option.some.inj f18, H.sel [0, 1, 2] rfl⟩
        ·
         refine both ?_ ?_
         ·
          refine load1 ((H.rs (α := List Int) 2 rfl).at1' c16 c17 d4) ?_; clear c16 c17 d4
          refine hold trivial ?_
          refine both ?_ ?_
          ·
           refine lit1S (α := Int) gok rfl rfl rfl rfl H ?_; clear H; intro h50 w41 hx H
           clear hx
           refine hold trivial ?_
           have e := o8; clear o8
           obtain ⟨⟨a14_0_0_0, a14_0_0_1, a14_0_0_2, a14_0_0_3⟩, a14_1⟩ := a14
           have i4 := e; clear e
           replace H := H.sel [1, 2, 0, 3, 4] rfl
           refine callS (ih d_b y0_0_0 y0_0_1 h2 d__0_2 d__0_2v d__0_3 d__0_3v a13 a0 a14_0_0_0 a14_0_0_1 a14_0_0_2 a14_0_0_3 a14_1 i4) (Γi := [Bx d_b [(.int .i64 y0_0_0), (h2).v, d__0_2v, d__0_3v], E (List (Sh (Int × Int × List Int × List Int))) y0_0_1 h2]) H [] rfl persN ?_; clear H i4
           rintro _ _ w42 ⟨h51, h52, rfl, rfl⟩ H
           refine hold trivial ?_
           have e := o9; clear o9
           replace H := H.sel [3, 0, 1, 2, 4, 5] rfl
           refine appendS (α := Int) gok rfl rfl rfl rfl H (Vw.sh 2 rfl) e ?_; clear e H; intro h53 w43 H
           refine hold trivial ?_
           refine hold trivial ?_
           exact ⟨((a14_0_0_0, a14_0_0_1, a15), (h51, h53)), ⟨rfl, trivial⟩, Option.some.inj f18, H.sel [0, 1, 2] rfl⟩
          ·
           refine both ?_ ?_
           ·
            have e := o8; clear o8
            obtain ⟨⟨a14_0_0_0, a14_0_0_1, a14_0_0_2, a14_0_0_3⟩, a14_1⟩ := a14
            have i4 := e; clear e
            refine callS (ih d_b y0_0_0 y0_0_1 h2 d__0_2 d__0_2v d__0_3 d__0_3v a13 a0 a14_0_0_0 a14_0_0_1 a14_0_0_2 a14_0_0_3 a14_1 i4) (Γi := [Bx d_b [(.int .i64 y0_0_0), (h2).v, d__0_2v, d__0_3v], E (List (Sh (Int × Int × List Int × List Int))) y0_0_1 h2]) H [] rfl persN ?_; clear H i4
            rintro _ _ w44 ⟨h54, h55, rfl, rfl⟩ H
            refine hold trivial ?_
            refine lit1S (α := Int) gok rfl rfl rfl rfl H ?_; clear H; intro h56 w45 hx H
            clear hx
            refine hold trivial ?_
            have e := o9; clear o9
            refine appendS (α := Int) gok rfl rfl rfl rfl H (Vw.sh 2 rfl) e ?_; clear e H; intro h57 w46 H
            refine hold trivial ?_
            refine hold trivial ?_
            exact ⟨((a14_0_0_0, a14_0_0_1, a15), (h54, h57)), ⟨rfl, trivial⟩, Option.some.inj f18, H.sel [0, 1, 2] rfl⟩
           ·
            exact trivial
         ·
          exact trivial
       ·
        refine both ?_ ?_
        ·
         refine load1 ((H.rs (α := List Int) 2 rfl).at1' c16 c17 d4) ?_; clear c16 c17 d4
         refine hold trivial ?_
         refine both ?_ ?_
         ·
          refine load1 ((H.rs (α := List Int) 2 rfl).at1' c20 c21 d5) ?_; clear c20 c21 d5
          refine hold trivial ?_
          refine both ?_ ?_
          ·
           refine lit1S (α := Int) gok rfl rfl rfl rfl H ?_; clear H; intro h58 w47 hx H
           clear hx
           refine hold trivial ?_
           have e := o8; clear o8
           obtain ⟨⟨a14_0_0_0, a14_0_0_1, a14_0_0_2, a14_0_0_3⟩, a14_1⟩ := a14
           have i4 := e; clear e
           replace H := H.sel [1, 2, 0, 3, 4] rfl
           refine callS (ih d_b y0_0_0 y0_0_1 h2 d__0_2 d__0_2v d__0_3 d__0_3v a13 a0 a14_0_0_0 a14_0_0_1 a14_0_0_2 a14_0_0_3 a14_1 i4) (Γi := [Bx d_b [(.int .i64 y0_0_0), (h2).v, d__0_2v, d__0_3v], E (List (Sh (Int × Int × List Int × List Int))) y0_0_1 h2]) H [] rfl persN ?_; clear H i4
           rintro _ _ w48 ⟨h59, h60, rfl, rfl⟩ H
           refine hold trivial ?_
           have e := o9; clear o9
           replace H := H.sel [3, 0, 1, 2, 4, 5] rfl
           refine appendS (α := Int) gok rfl rfl rfl rfl H (Vw.sh 2 rfl) e ?_; clear e H; intro h61 w49 H
           refine hold trivial ?_
           refine hold trivial ?_
           exact ⟨((a14_0_0_0, a14_0_0_1, a15), (h59, h61)), ⟨rfl, trivial⟩, Option.some.inj f18, H.sel [0, 1, 2] rfl⟩
          ·
           refine both ?_ ?_
           ·
            have e := o8; clear o8
            obtain ⟨⟨a14_0_0_0, a14_0_0_1, a14_0_0_2, a14_0_0_3⟩, a14_1⟩ := a14
            have i4 := e; clear e
            refine callS (ih d_b y0_0_0 y0_0_1 h2 d__0_2 d__0_2v d__0_3 d__0_3v a13 a0 a14_0_0_0 a14_0_0_1 a14_0_0_2 a14_0_0_3 a14_1 i4) (Γi := [Bx d_b [(.int .i64 y0_0_0), (h2).v, d__0_2v, d__0_3v], E (List (Sh (Int × Int × List Int × List Int))) y0_0_1 h2]) H [] rfl persN ?_; clear H i4
            rintro _ _ w50 ⟨h62, h63, rfl, rfl⟩ H
            refine hold trivial ?_
            refine lit1S (α := Int) gok rfl rfl rfl rfl H ?_; clear H; intro h64 w51 hx H
            clear hx
            refine hold trivial ?_
            have e := o9; clear o9
            refine appendS (α := Int) gok rfl rfl rfl rfl H (Vw.sh 2 rfl) e ?_; clear e H; intro h65 w52 H
            refine hold trivial ?_
            refine hold trivial ?_
            exact ⟨((a14_0_0_0, a14_0_0_1, a15), (h62, h65)), ⟨rfl, trivial⟩, Option.some.inj f18, H.sel [0, 1, 2] rfl⟩
           ·
            exact trivial
         ·
          refine both ?_ ?_
          ·
           have e := o8; clear o8
           obtain ⟨⟨a14_0_0_0, a14_0_0_1, a14_0_0_2, a14_0_0_3⟩, a14_1⟩ := a14
           have i4 := e; clear e
           refine callS (ih d_b y0_0_0 y0_0_1 h2 d__0_2 d__0_2v d__0_3 d__0_3v a13 a0 a14_0_0_0 a14_0_0_1 a14_0_0_2 a14_0_0_3 a14_1 i4) (Γi := [Bx d_b [(.int .i64 y0_0_0), (h2).v, d__0_2v, d__0_3v], E (List (Sh (Int × Int × List Int × List Int))) y0_0_1 h2]) H [] rfl persN ?_; clear H i4
           rintro _ _ w53 ⟨h66, h67, rfl, rfl⟩ H
           refine hold trivial ?_
           refine load1 ((H.rs (α := List Int) 3 rfl).at1' c20 c21 d5) ?_; clear c20 c21 d5
           refine hold trivial ?_
           refine lit1S (α := Int) gok rfl rfl rfl rfl H ?_; clear H; intro h68 w54 hx H
           clear hx
           refine hold trivial ?_
           have e := o9; clear o9
           refine appendS (α := Int) gok rfl rfl rfl rfl H (Vw.sh 2 rfl) e ?_; clear e H; intro h69 w55 H
           refine hold trivial ?_
           refine hold trivial ?_
           exact ⟨((a14_0_0_0, a14_0_0_1, a15), (h66, h69)), ⟨rfl, trivial⟩, Option.some.inj f18, H.sel [0, 1, 2] rfl⟩
          ·
           exact trivial
        ·
         exact trivial
      ·
       refine both ?_ ?_
       ·
        refine load1 ((H.rs (α := List Int) 2 rfl).at1' c16 c17 d4) ?_; clear c16 c17 d4
        refine hold trivial ?_
        refine both ?_ ?_
        ·
         have e := o6; clear o6
         have d6 := e; clear e
         obtain ⟨p6, m6, c24, c25, c26, c27⟩ := (H.rs (α := List Int) 2 rfl).at1 d6; clear c27
         refine idxE c24 c25 c26 ?_; clear c26
         refine hold trivial ?_
         refine both ?_ ?_
         ·
          refine load1 ((H.rs (α := List Int) 2 rfl).at1' c24 c25 d6) ?_; clear c24 c25 d6
          refine hold trivial ?_
          refine both ?_ ?_
          ·
           refine lit1S (α := Int) gok rfl rfl rfl rfl H ?_; clear H; intro h70 w56 hx H
           clear hx
           refine hold trivial ?_
           have e := o8; clear o8
           obtain ⟨⟨a14_0_0_0, a14_0_0_1, a14_0_0_2, a14_0_0_3⟩, a14_1⟩ := a14
           have i4 := e; clear e
           replace H := H.sel [1, 2, 0, 3, 4] rfl
           refine callS (ih d_b y0_0_0 y0_0_1 h2 d__0_2 d__0_2v d__0_3 d__0_3v a13 a0 a14_0_0_0 a14_0_0_1 a14_0_0_2 a14_0_0_3 a14_1 i4) (Γi := [Bx d_b [(.int .i64 y0_0_0), (h2).v, d__0_2v, d__0_3v], E (List (Sh (Int × Int × List Int × List Int))) y0_0_1 h2]) H [] rfl persN ?_; clear H i4
           rintro _ _ w57 ⟨h71, h72, rfl, rfl⟩ H
           refine hold trivial ?_
           have e := o9; clear o9
           replace H := H.sel [3, 0, 1, 2, 4, 5] rfl
           refine appendS (α := Int) gok rfl rfl rfl rfl H (Vw.sh 2 rfl) e ?_; clear e H; intro h73 w58 H
           refine hold trivial ?_
           refine hold trivial ?_
           exact ⟨((a14_0_0_0, a14_0_0_1, a15), (h71, h73)), ⟨rfl, trivial⟩, Option.some.inj f18, H.sel [0, 1, 2] rfl⟩
          ·
           refine both ?_ ?_
           ·
            have e := o8; clear o8
            obtain ⟨⟨a14_0_0_0, a14_0_0_1, a14_0_0_2, a14_0_0_3⟩, a14_1⟩ := a14
            have i4 := e; clear e
            refine callS (ih d_b y0_0_0 y0_0_1 h2 d__0_2 d__0_2v d__0_3 d__0_3v a13 a0 a14_0_0_0 a14_0_0_1 a14_0_0_2 a14_0_0_3 a14_1 i4) (Γi := [Bx d_b [(.int .i64 y0_0_0), (h2).v, d__0_2v, d__0_3v], E (List (Sh (Int × Int × List Int × List Int))) y0_0_1 h2]) H [] rfl persN ?_; clear H i4
            rintro _ _ w59 ⟨h74, h75, rfl, rfl⟩ H
            refine hold trivial ?_
            refine lit1S (α := Int) gok rfl rfl rfl rfl H ?_; clear H; intro h76 w60 hx H
            clear hx
            refine hold trivial ?_
            have e := o9; clear o9
            refine appendS (α := Int) gok rfl rfl rfl rfl H (Vw.sh 2 rfl) e ?_; clear e H; intro h77 w61 H
            refine hold trivial ?_
            refine hold trivial ?_
            exact ⟨((a14_0_0_0, a14_0_0_1, a15), (h74, h77)), ⟨rfl, trivial⟩, Option.some.inj f18, H.sel [0, 1, 2] rfl⟩
           ·
            exact trivial
         ·
          refine both ?_ ?_
          ·
           have e := o8; clear o8
           obtain ⟨⟨a14_0_0_0, a14_0_0_1, a14_0_0_2, a14_0_0_3⟩, a14_1⟩ := a14
           have i4 := e; clear e
           refine callS (ih d_b y0_0_0 y0_0_1 h2 d__0_2 d__0_2v d__0_3 d__0_3v a13 a0 a14_0_0_0 a14_0_0_1 a14_0_0_2 a14_0_0_3 a14_1 i4) (Γi := [Bx d_b [(.int .i64 y0_0_0), (h2).v, d__0_2v, d__0_3v], E (List (Sh (Int × Int × List Int × List Int))) y0_0_1 h2]) H [] rfl persN ?_; clear H i4
           rintro _ _ w62 ⟨h78, h79, rfl, rfl⟩ H
           refine hold trivial ?_
           refine load1 ((H.rs (α := List Int) 3 rfl).at1' c24 c25 d6) ?_; clear c24 c25 d6
           refine hold trivial ?_
           refine lit1S (α := Int) gok rfl rfl rfl rfl H ?_; clear H; intro h80 w63 hx H
           clear hx
           refine hold trivial ?_
           have e := o9; clear o9
           refine appendS (α := Int) gok rfl rfl rfl rfl H (Vw.sh 2 rfl) e ?_; clear e H; intro h81 w64 H
           refine hold trivial ?_
           refine hold trivial ?_
           exact ⟨((a14_0_0_0, a14_0_0_1, a15), (h78, h81)), ⟨rfl, trivial⟩, Option.some.inj f18, H.sel [0, 1, 2] rfl⟩
          ·
           exact trivial
        ·
         refine both ?_ ?_
         ·
          have e := o8; clear o8
          obtain ⟨⟨a14_0_0_0, a14_0_0_1, a14_0_0_2, a14_0_0_3⟩, a14_1⟩ := a14
          have i4 := e; clear e
          refine callS (ih d_b y0_0_0 y0_0_1 h2 d__0_2 d__0_2v d__0_3 d__0_3v a13 a0 a14_0_0_0 a14_0_0_1 a14_0_0_2 a14_0_0_3 a14_1 i4) (Γi := [Bx d_b [(.int .i64 y0_0_0), (h2).v, d__0_2v, d__0_3v], E (List (Sh (Int × Int × List Int × List Int))) y0_0_1 h2]) H [] rfl persN ?_; clear H i4
          rintro _ _ w65 ⟨h82, h83, rfl, rfl⟩ H
          refine hold trivial ?_
          have e := o6; clear o6
          have d7 := e; clear e
          obtain ⟨p7, m7, c28, c29, c30, c31⟩ := (H.rs (α := List Int) 3 rfl).at1 d7; clear c31
          refine idxE c28 c29 c30 ?_; clear c30
          refine hold trivial ?_
          refine load1 ((H.rs (α := List Int) 3 rfl).at1' c28 c29 d7) ?_; clear c28 c29 d7
          refine hold trivial ?_
          refine lit1S (α := Int) gok rfl rfl rfl rfl H ?_; clear H; intro h84 w66 hx H
          clear hx
          refine hold trivial ?_
          have e := o9; clear o9
          refine appendS (α := Int) gok rfl rfl rfl rfl H (Vw.sh 2 rfl) e ?_; clear e H; intro h85 w67 H
          refine hold trivial ?_
          refine hold trivial ?_
          exact ⟨((a14_0_0_0, a14_0_0_1, a15), (h82, h85)), ⟨rfl, trivial⟩, Option.some.inj f18, H.sel [0, 1, 2] rfl⟩
         ·
          exact trivial
       ·
        exact trivial
     ·
      exact trivial
   ·
    clear f2 H
    rintro T0 ⟨⟨s0_0, s0_1, s0_2⟩, ⟨g0_0, g0_1⟩⟩ w68 ⟨hr, (H : Cx w0 fp0 S0 w68 [E (List Int) s0_2 g0_1, Bx d_b [(.int .i64 s0_0), (g0_0).v, d__0_2v, d__0_3v], E (List (Sh (Int × Int × List Int × List Int))) s0_1 g0_0])⟩
    subst hr
    replace H := H.frz
    cases f3
    exact ⟨_, _, rfl, ⟨g0_0, g0_1, rfl, rfl⟩, (H.sel [1, 2, 0] rfl)⟩
  ·
   have f19 := condT hF7; clear hF7
   refine lit1S (α := Int) gok rfl rfl rfl rfl H ?_; clear H; intro h86 w69 hx H
   clear hx
   replace H := H.frz
   cases f19
   exact ⟨_, _, rfl, ⟨d__0_1h, h86, rfl, rfl⟩, (H.sel [1, 2, 0] rfl)⟩
 ·
  have f20 := condT hF4; clear hF4
  refine lit1S (α := Int) gok rfl rfl rfl rfl H ?_; clear H; intro h87 w70 hx H
  clear hx
  replace H := H.nil (α := Int)
  obtain ⟨y3, e, f21⟩ := bindS f20; clear f20
  obtain ⟨y3_0_0, y3_0_1, y3_0_2, y3_0_3⟩ := y3
  have i5 := e; clear e
  replace H := H.sel [1, 0, 2, 3] rfl
  replace H := H.frz
  replace H := H.sel [1, 0, 2, 3] rfl
  replace H := H.frz
  replace H := H.sel [2, 3, 0, 1] rfl
  refine callS (impl_drawing_edge_c d_b d__0_0 d__0_1 d__0_1h d__0_2 d__0_2v d__0_3 d__0_3v 4 0 [w_] h87 [] nilH y3_0_0 y3_0_1 y3_0_2 y3_0_3 i5) (Γi := [Bx d_b [(.int .i64 d__0_0), (d__0_1h).v, d__0_2v, d__0_3v], E (List (Sh (Int × Int × List Int × List Int))) d__0_1 d__0_1h]) H [1, 0] rfl (persC persS (persC persS persN)) ?_; clear H i5
  rintro _ _ w71 ⟨h88, rfl, rfl⟩ H
  replace H := H.nil (α := Int)
  replace H := H.frz
  cases f21
  exact ⟨_, _, rfl, ⟨h88, nilH, rfl, rfl⟩, (H.sel [1, 2, 0] rfl)⟩
theorem impl_drawing_fanOut_c (d_b : Nat) (d__0_0 : Int) (d__0_1 : List (Int × Int × List Int × List Int)) (d__0_1h : Hd) (d__0_2 : List Int) (d__0_2v : Value) (d__0_3 : List Int) (d__0_3v : Value) (w_ : Int) (n_ : Int) (y0_0_0 : Int) (y0_0_1 : List (Int × Int × List Int × List Int)) (y0_0_2 : List Int) (y0_0_3 : List Int) (y1 : List Int) (hF : F_impl_drawing_fanOut (d__0_0, d__0_1, d__0_2, d__0_3) w_ n_ = some ((y0_0_0, y0_0_1, y0_0_2, y0_0_3), y1)) :
  ConS Tryz.prog 64 #[(.pointer (some ⟨d_b, 0, none⟩)), (.int .i64 w_), (.int .i64 n_)] [] [Bx d_b [(.int .i64 d__0_0), (d__0_1h).v, d__0_2v, d__0_3v], E (List (Sh (Int × Int × List Int × List Int))) d__0_1 d__0_1h] (fun v Γ' => ∃ z0 z1 : Hd, v = (z1).v ∧ Γ' = [Bx d_b [(.int .i64 y0_0_0), (z0).v, d__0_2v, d__0_3v], E (List (Sh (Int × Int × List Int × List Int))) y0_0_1 z0, Es (List Int) y1 z1]) := impl_drawing_fanOut_cn _ d_b d__0_0 d__0_1 d__0_1h d__0_2 d__0_2v d__0_3 d__0_3v w_ n_ y0_0_0 y0_0_1 y0_0_2 y0_0_3 y1 hF

theorem impl_drawing_sum_cn : ∀ (fuel : Nat) (d_b : Nat) (d__0_0 : Int) (d__0_1 : List (Int × Int × List Int × List Int)) (d__0_1h : Hd) (d__0_2 : List Int) (d__0_2v : Value) (d__0_3 : List Int) (d__0_3v : Value) (list_ : List Int) (list_h : Hd) (y0_0_0 : Int) (y0_0_1 : List (Int × Int × List Int × List Int)) (y0_0_2 : List Int) (y0_0_3 : List Int) (y1 : Int) (hF : F_impl_drawing_sum_n fuel (d__0_0, d__0_1, d__0_2, d__0_3) list_ = some ((y0_0_0, y0_0_1, y0_0_2, y0_0_3), y1)),
  ConS Tryz.prog 65 #[(.pointer (some ⟨d_b, 0, none⟩)), (list_h).v] [Es (List Int) list_ list_h] [Bx d_b [(.int .i64 d__0_0), (d__0_1h).v, d__0_2v, d__0_3v], E (List (Sh (Int × Int × List Int × List Int))) d__0_1 d__0_1h] (fun v Γ' => ∃ z0 : Hd, v = (.int .i64 y1) ∧ Γ' = [Bx d_b [(.int .i64 y0_0_0), (z0).v, d__0_2v, d__0_3v], E (List (Sh (Int × Int × List Int × List Int))) y0_0_1 z0]) := by
 intro fuel
 induction fuel with
 | zero => intro d_b d__0_0 d__0_1 d__0_1h d__0_2 d__0_2v d__0_3 d__0_3v list_ list_h y0_0_0 y0_0_1 y0_0_2 y0_0_3 y1 hF; cases hF
 | succ fuel ih =>
 intro d_b d__0_0 d__0_1 d__0_1h d__0_2 d__0_2v d__0_3 d__0_3v list_ list_h y0_0_0 y0_0_1 y0_0_2 y0_0_3 y1 hF
 intro w0 S0 fp0 hI hS
 have H : Cx w0 fp0 S0 w0 [Es (List Int) list_ list_h, Bx d_b [(.int .i64 d__0_0), (d__0_1h).v, d__0_2v, d__0_3v], E (List (Sh (Int × Int × List Int × List Int))) d__0_1 d__0_1h] := Cx.start hI hS
 clear hI hS
 refine enterC (args := [_, _]) gok Tryz.func65 rfl _ rfl rfl rfl ?_
 refine lenE (H.rs (α := List Int) 0 rfl).len ?_
 obtain ⟨a4, e, hF5⟩ := bindS hF; clear hF
 refine arO e ?_; clear e
 refine sq ?_
 obtain ⟨a6, e, hF7⟩ := bindS hF5; clear hF5
 refine boolO e ?_; clear e
 cases a6
 ·
  have hF8 := condF hF7; clear hF7
  obtain ⟨y9, e, f0⟩ := bindS hF8; clear hF8
  obtain ⟨⟨y9_0_0_0, y9_0_0_1, y9_0_0_2, y9_0_0_3⟩, y9_1⟩ := y9
  have ey9 := e; clear e
  replace H := H.sel [1, 0, 2] rfl
  refine callF (impl_drawing_wire_c d_b d__0_0 d__0_1 ((d__0_1h).v) d__0_2 d__0_2v d__0_3 d__0_3v y9_0_0_0 y9_0_0_1 y9_0_0_2 y9_0_0_3 y9_1 ey9) (Γi := [Bx d_b [(.int .i64 d__0_0), (d__0_1h).v, d__0_2v, d__0_3v]]) H trivial ?_; clear H ey9
  rintro _ _ w1 ⟨rfl, rfl⟩ H
  refine sq ?_
  obtain ⟨a0, e, f1⟩ := bindS f0; clear f0
  refine boolO e ?_; clear e
  cases a0
  ·
   have f2 := condF f1; clear f1
   obtain ⟨r0, f3, f4⟩ := bindS f2; clear f2
   refine heldJ H [5, 13, 8, 12, 9, 10, 0, 1, 2, 3, 4, 6, 7, 11] (.pure 0 (.pure 1 (.pure 2 (.pure 3 (.pure 4 (.pure 6 (.pure 7 (.pure 11 (.alts (.alt 5 (.alts (.alt 8 (.alts (.alt 9 (.alts (.alt 10 (.act 12 (.act 13 .done)) (.alt 12 (.act 10 (.act 13 .done)) .no))) (.alt 12 (.act 9 (.act 10 (.act 13 .done))) .no))) (.alt 12 (.act 8 (.act 9 (.act 10 (.act 13 .done)))) .no))) (.alt 8 (.alts (.alt 5 (.alts (.alt 9 (.alts (.alt 10 (.act 12 (.act 13 .done)) (.alt 12 (.act 10 (.act 13 .done)) .no))) (.alt 12 (.act 9 (.act 10 (.act 13 .done))) .no))) (.alt 9 (.alts (.alt 5 (.alts (.alt 10 (.act 12 (.act 13 .done)) (.alt 12 (.act 10 (.act 13 .done)) .no))) (.alt 12 (.act 5 (.act 10 (.act 13 .done))) .no))) (.alt 12 (.alts (.alt 5 (.act 9 (.act 10 (.act 13 .done))) (.alt 9 (.act 5 (.act 10 (.act 13 .done))) .no))) .no)))) (.alt 12 (.alts (.alt 5 (.act 8 (.act 9 (.act 10 (.act 13 .done)))) (.alt 8 (.alts (.alt 5 (.act 9 (.act 10 (.act 13 .done))) (.alt 9 (.act 5 (.act 10 (.act 13 .done))) .no))) .no))) .no)))))))))))) mixed [] trivial (by kernel_rfl) (fun (q0 : (Int × (List (Int × Int × List Int × List Int))) × Hd) => [(6, (.int .i64 y9_1))]) (fun (q0 : (Int × (List (Int × Int × List Int × List Int))) × Hd) w' => (q0.1.1, q0.1.2) = r0 ∧ Cx w0 fp0 S0 w' [Bx d_b [(.int .i64 q0.1.1), (q0.2).v, d__0_2v, d__0_3v], E (List (Sh (Int × Int × List Int × List Int))) q0.1.2 q0.2]) ?_ ?_
   ·
    clear H; intro w2 H
    have hX : Ext w2 w2 := Upd.refl _ _
    have H0 := H
    obtain ⟨a1, e, f5⟩ := bindS f3; clear f3
    refine slSX (α := Int) gok rfl rfl H 1 rfl e rfl rfl ?_; clear e; intro h0 HH; clear H; have H := HH; clear HH
    refine both ?_ ?_
    ·
     obtain ⟨y0, e, f6⟩ := bindS f5; clear f5
     obtain ⟨⟨y0_0_0_0, y0_0_0_1, y0_0_0_2, y0_0_0_3⟩, y0_1⟩ := y0
     have i0 := e; clear e
     replace H := H.sel [1, 3, 0, 2] rfl
     refine callS (ih d_b y9_0_0_0 d__0_1 d__0_1h d__0_2 d__0_2v d__0_3 d__0_3v a1 h0 y0_0_0_0 y0_0_0_1 y0_0_0_2 y0_0_0_3 y0_1 i0) (Γi := [Bx d_b [(.int .i64 y9_0_0_0), (d__0_1h).v, d__0_2v, d__0_3v], E (List (Sh (Int × Int × List Int × List Int))) d__0_1 d__0_1h]) H [0] rfl (persC persS persN) ?_; clear H i0
     rintro _ _ w3 ⟨h1, rfl, rfl⟩ H
     refine hold trivial ?_
     refine both ?_ ?_
     ·
      obtain ⟨a2, e, f7⟩ := bindS f6; clear f6
      have d0 := e; clear e
      obtain ⟨p0, m0, c0, c1, c2, c3⟩ := (H.rs (α := List Int) 3 rfl).at1 d0; clear c3
      refine idxE c0 c1 c2 ?_; clear c2
      refine hold trivial ?_
      refine both ?_ ?_
      ·
       refine load1 ((H.rs (α := List Int) 3 rfl).at1' c0 c1 d0) ?_; clear c0 c1 d0
       refine hold trivial ?_
       refine both ?_ ?_
       ·
        replace H := H.sc (α := Int) a2
        replace H := H.sc (α := Int) y0_1
        refine litN (α := Int) (us := [(.int .i64 y0_1), (.int .i64 a2)]) (xs := [y0_1, a2]) (gs := [(), ()]) gok rfl rfl rfl ⟨rfl, rfl, trivial⟩ rfl rfl H ?_; clear H; intro h2 w4 hx H
        clear hx
        refine hold trivial ?_
        refine lit1S (α := Int) gok rfl rfl rfl rfl H ?_; clear H; intro h3 w5 hx H
        clear hx
        refine hold trivial ?_
        obtain ⟨y2, e, f8⟩ := bindS f7; clear f7
        obtain ⟨y2_0_0, y2_0_1, y2_0_2, y2_0_3⟩ := y2
        have i1 := e; clear e
        replace H := H.sel [1, 0, 2, 3, 4, 5] rfl
        replace H := H.frz
        replace H := H.sel [1, 0, 2, 3, 4, 5] rfl
        replace H := H.frz
        replace H := H.sel [2, 3, 0, 1, 4, 5] rfl
        refine callS (impl_drawing_edge_c d_b y0_0_0_0 y0_0_0_1 h1 d__0_2 d__0_2v d__0_3 d__0_3v 5 0 [y0_1, a2] h2 [y9_1] h3 y2_0_0 y2_0_1 y2_0_2 y2_0_3 i1) (Γi := [Bx d_b [(.int .i64 y0_0_0_0), (h1).v, d__0_2v, d__0_3v], E (List (Sh (Int × Int × List Int × List Int))) y0_0_0_1 h1]) H [1, 0] rfl (persC persS (persC persS persN)) ?_; clear H i1
        rintro _ _ w6 ⟨h4, rfl, rfl⟩ H
        refine hold trivial ?_
        exact ⟨((y2_0_0, y2_0_1), h4), ⟨rfl, trivial⟩, Option.some.inj f8, H.sel [0, 1] rfl⟩
       ·
        refine both ?_ ?_
        ·
         obtain ⟨a3, o0, f9⟩ := bindS f7; clear f7
         refine lit1S (α := Int) gok rfl rfl rfl rfl H ?_; clear H; intro h5 w7 hx H
         clear hx
         refine hold trivial ?_
         replace H := H.sc (α := Int) a2
         replace H := H.sc (α := Int) y0_1
         refine litN (α := Int) (us := [(.int .i64 y0_1), (.int .i64 a2)]) (xs := [y0_1, a2]) (gs := [(), ()]) gok rfl rfl rfl ⟨rfl, rfl, trivial⟩ rfl rfl H ?_; clear H; intro h6 w8 hx H
         clear hx
         refine hold trivial ?_
         have e := o0; clear o0
         obtain ⟨a3_0_0, a3_0_1, a3_0_2, a3_0_3⟩ := a3
         have i2 := e; clear e
         replace H := H.frz
         replace H := H.sel [1, 0, 2, 3, 4, 5] rfl
         replace H := H.frz
         replace H := H.sel [2, 3, 0, 1, 4, 5] rfl
         refine callS (impl_drawing_edge_c d_b y0_0_0_0 y0_0_0_1 h1 d__0_2 d__0_2v d__0_3 d__0_3v 5 0 [y0_1, a2] h6 [y9_1] h5 a3_0_0 a3_0_1 a3_0_2 a3_0_3 i2) (Γi := [Bx d_b [(.int .i64 y0_0_0_0), (h1).v, d__0_2v, d__0_3v], E (List (Sh (Int × Int × List Int × List Int))) y0_0_0_1 h1]) H [1, 0] rfl (persC persS (persC persS persN)) ?_; clear H i2
         rintro _ _ w9 ⟨h7, rfl, rfl⟩ H
         refine hold trivial ?_
         exact ⟨((a3_0_0, a3_0_1), h7), ⟨rfl, trivial⟩, Option.some.inj f9, H.sel [0, 1] rfl⟩
        ·
         exact trivial
      ·
       refine both ?_ ?_
       ·
        obtain ⟨a5, o1, f10⟩ := bindS f7; clear f7
        refine lit1S (α := Int) gok rfl rfl rfl rfl H ?_; clear H; intro h8 w10 hx H
        clear hx
        refine hold trivial ?_
        refine load1 ((H.rs (α := List Int) 4 rfl).at1' c0 c1 d0) ?_; clear c0 c1 d0
        refine hold trivial ?_
        replace H := H.sc (α := Int) a2
        replace H := H.sc (α := Int) y0_1
        refine litN (α := Int) (us := [(.int .i64 y0_1), (.int .i64 a2)]) (xs := [y0_1, a2]) (gs := [(), ()]) gok rfl rfl rfl ⟨rfl, rfl, trivial⟩ rfl rfl H ?_; clear H; intro h9 w12 hx H
        clear hx
        refine hold trivial ?_
        have e := o1; clear o1
        obtain ⟨a5_0_0, a5_0_1, a5_0_2, a5_0_3⟩ := a5
        have i3 := e; clear e
        replace H := H.frz
        replace H := H.sel [1, 0, 2, 3, 4, 5] rfl
        replace H := H.frz
        replace H := H.sel [2, 3, 0, 1, 4, 5] rfl
        refine callS (impl_drawing_edge_c d_b y0_0_0_0 y0_0_0_1 h1 d__0_2 d__0_2v d__0_3 d__0_3v 5 0 [y0_1, a2] h9 [y9_1] h8 a5_0_0 a5_0_1 a5_0_2 a5_0_3 i3) (Γi := [Bx d_b [(.int .i64 y0_0_0_0), (h1).v, d__0_2v, d__0_3v], E (List (Sh (Int × Int × List Int × List Int))) y0_0_0_1 h1]) H [1, 0] rfl (persC persS (persC persS persN)) ?_; clear H i3
        rintro _ _ w13 ⟨h10, rfl, rfl⟩ H
        refine hold trivial ?_
        exact ⟨((a5_0_0, a5_0_1), h10), ⟨rfl, trivial⟩, Option.some.inj f10, H.sel [0, 1] rfl⟩
       ·
        exact trivial
     ·
      refine both ?_ ?_
      ·
       obtain ⟨a7, o2, f11⟩ := bindS f6; clear f6
       obtain ⟨a8, o3, f12⟩ := bindS f11; clear f11
       refine lit1S (α := Int) gok rfl rfl rfl rfl H ?_; clear H; intro h11 w14 hx H
       clear hx
       refine hold trivial ?_
       have e := o2; clear o2
       have d1 := e; clear e
       obtain ⟨p1, m1, c4, c5, c6, c7⟩ := (H.rs (α := List Int) 4 rfl).at1 d1; clear c7
       refine idxE c4 c5 c6 ?_; clear c6
       refine hold trivial ?_
       refine load1 ((H.rs (α := List Int) 4 rfl).at1' c4 c5 d1) ?_; clear c4 c5 d1
       refine hold trivial ?_
       replace H := H.sc (α := Int) a7
       replace H := H.sc (α := Int) y0_1
       refine litN (α := Int) (us := [(.int .i64 y0_1), (.int .i64 a7)]) (xs := [y0_1, a7]) (gs := [(), ()]) gok rfl rfl rfl ⟨rfl, rfl, trivial⟩ rfl rfl H ?_; clear H; intro h12 w15 hx H
       clear hx
       refine hold trivial ?_
       have e := o3; clear o3
       obtain ⟨a8_0_0, a8_0_1, a8_0_2, a8_0_3⟩ := a8
       have i4 := e; clear e
       replace H := H.frz
       replace H := H.sel [1, 0, 2, 3, 4, 5] rfl
       replace H := H.frz
       replace H := H.sel [2, 3, 0, 1, 4, 5] rfl
       refine callS (impl_drawing_edge_c d_b y0_0_0_0 y0_0_0_1 h1 d__0_2 d__0_2v d__0_3 d__0_3v 5 0 [y0_1, a7] h12 [y9_1] h11 a8_0_0 a8_0_1 a8_0_2 a8_0_3 i4) (Γi := [Bx d_b [(.int .i64 y0_0_0_0), (h1).v, d__0_2v, d__0_3v], E (List (Sh (Int × Int × List Int × List Int))) y0_0_0_1 h1]) H [1, 0] rfl (persC persS (persC persS persN)) ?_; clear H i4
       rintro _ _ w16 ⟨h13, rfl, rfl⟩ H
       refine hold trivial ?_
       exact ⟨((a8_0_0, a8_0_1), h13), ⟨rfl, trivial⟩, Option.some.inj f12, H.sel [0, 1] rfl⟩
      ·
       exact trivial
    ·
     refine both ?_ ?_
     ·
      obtain ⟨a9, o4, f13⟩ := bindS f5; clear f5
      obtain ⟨a10, o5, f14⟩ := bindS f13; clear f13
      obtain ⟨a11, o6, f15⟩ := bindS f14; clear f14
      have e := o5; clear o5
      have d2 := e; clear e
      obtain ⟨p2, m2, c8, c9, c10, c11⟩ := (H.rs (α := List Int) 2 rfl).at1 d2; clear c11
      refine idxE c8 c9 c10 ?_; clear c10
      refine hold trivial ?_
      refine both ?_ ?_
      ·
       have e := o4; clear o4
       obtain ⟨⟨a9_0_0_0, a9_0_0_1, a9_0_0_2, a9_0_0_3⟩, a9_1⟩ := a9
       have i5 := e; clear e
       replace H := H.sel [1, 3, 0, 2] rfl
       refine callS (ih d_b y9_0_0_0 d__0_1 d__0_1h d__0_2 d__0_2v d__0_3 d__0_3v a1 h0 a9_0_0_0 a9_0_0_1 a9_0_0_2 a9_0_0_3 a9_1 i5) (Γi := [Bx d_b [(.int .i64 y9_0_0_0), (d__0_1h).v, d__0_2v, d__0_3v], E (List (Sh (Int × Int × List Int × List Int))) d__0_1 d__0_1h]) H [0] rfl (persC persS persN) ?_; clear H i5
       rintro _ _ w17 ⟨h14, rfl, rfl⟩ H
       refine hold trivial ?_
       refine both ?_ ?_
       ·
        refine load1 ((H.rs (α := List Int) 3 rfl).at1' c8 c9 d2) ?_; clear c8 c9 d2
        refine hold trivial ?_
        refine both ?_ ?_
        ·
         replace H := H.sc (α := Int) a10
         replace H := H.sc (α := Int) a9_1
         refine litN (α := Int) (us := [(.int .i64 a9_1), (.int .i64 a10)]) (xs := [a9_1, a10]) (gs := [(), ()]) gok rfl rfl rfl ⟨rfl, rfl, trivial⟩ rfl rfl H ?_; clear H; intro h15 w18 hx H
         clear hx
         refine hold trivial ?_
         refine lit1S (α := Int) gok rfl rfl rfl rfl H ?_; clear H; intro h16 w19 hx H
         clear hx
         refine hold trivial ?_
         have e := o6; clear o6
         obtain ⟨a11_0_0, a11_0_1, a11_0_2, a11_0_3⟩ := a11
         have i6 := e; clear e
         replace H := H.sel [1, 0, 2, 3, 4, 5] rfl
         replace H := H.frz
         replace H := H.sel [1, 0, 2, 3, 4, 5] rfl
         replace H := H.frz
         replace H := H.sel [2, 3, 0, 1, 4, 5] rfl
         refine callS (impl_drawing_edge_c d_b a9_0_0_0 a9_0_0_1 h14 d__0_2 d__0_2v d__0_3 d__0_3v 5 0 [a9_1, a10] h15 [y9_1] h16 a11_0_0 a11_0_1 a11_0_2 a11_0_3 i6) (Γi := [Bx d_b [(.int .i64 a9_0_0_0), (h14).v, d__0_2v, d__0_3v], E (List (Sh (Int × Int × List Int × List Int))) a9_0_0_1 h14]) H [1, 0] rfl (persC persS (persC persS persN)) ?_; clear H i6
         rintro _ _ w20 ⟨h17, rfl, rfl⟩ H
         refine hold trivial ?_
         exact ⟨((a11_0_0, a11_0_1), h17), ⟨rfl, trivial⟩, Option.some.inj f15, H.sel [0, 1] rfl⟩
        ·
         refine both ?_ ?_
         ·
          refine lit1S (α := Int) gok rfl rfl rfl rfl H ?_; clear H; intro h18 w21 hx H
          clear hx
          refine hold trivial ?_
          replace H := H.sc (α := Int) a10
          replace H := H.sc (α := Int) a9_1
          refine litN (α := Int) (us := [(.int .i64 a9_1), (.int .i64 a10)]) (xs := [a9_1, a10]) (gs := [(), ()]) gok rfl rfl rfl ⟨rfl, rfl, trivial⟩ rfl rfl H ?_; clear H; intro h19 w22 hx H
          clear hx
          refine hold trivial ?_
          have e := o6; clear o6
          obtain ⟨a11_0_0, a11_0_1, a11_0_2, a11_0_3⟩ := a11
          have i6 := e; clear e
          replace H := H.frz
          replace H := H.sel [1, 0, 2, 3, 4, 5] rfl
          replace H := H.frz
          replace H := H.sel [2, 3, 0, 1, 4, 5] rfl
          refine callS (impl_drawing_edge_c d_b a9_0_0_0 a9_0_0_1 h14 d__0_2 d__0_2v d__0_3 d__0_3v 5 0 [a9_1, a10] h19 [y9_1] h18 a11_0_0 a11_0_1 a11_0_2 a11_0_3 i6) (Γi := [Bx d_b [(.int .i64 a9_0_0_0), (h14).v, d__0_2v, d__0_3v], E (List (Sh (Int × Int × List Int × List Int))) a9_0_0_1 h14]) H [1, 0] rfl (persC persS (persC persS persN)) ?_; clear H i6
          rintro _ _ w23 ⟨h20, rfl, rfl⟩ H
          refine hold trivial ?_
          exact ⟨((a11_0_0, a11_0_1), h20), ⟨rfl, trivial⟩, Option.some.inj f15, H.sel [0, 1] rfl⟩
         ·
          exact trivial
       ·
        refine both ?_ ?_
        ·
         refine lit1S (α := Int) gok rfl rfl rfl rfl H ?_; clear H; intro h21 w24 hx H
         clear hx
         refine hold trivial ?_
         refine load1 ((H.rs (α := List Int) 4 rfl).at1' c8 c9 d2) ?_; clear c8 c9 d2
         refine hold trivial ?_
         replace H := H.sc (α := Int) a10
         replace H := H.sc (α := Int) a9_1
         refine litN (α := Int) (us := [(.int .i64 a9_1), (.int .i64 a10)]) (xs := [a9_1, a10]) (gs := [(), ()]) gok rfl rfl rfl ⟨rfl, rfl, trivial⟩ rfl rfl H ?_; clear H; intro h22 w25 hx H
         clear hx
         refine hold trivial ?_
         have e := o6; clear o6
         obtain ⟨a11_0_0, a11_0_1, a11_0_2, a11_0_3⟩ := a11
         have i6 := e; clear e
         replace H := H.frz
         replace H := H.sel [1, 0, 2, 3, 4, 5] rfl
         replace H := H.frz
         replace H := H.sel [2, 3, 0, 1, 4, 5] rfl
         refine callS (impl_drawing_edge_c d_b a9_0_0_0 a9_0_0_1 h14 d__0_2 d__0_2v d__0_3 d__0_3v 5 0 [a9_1, a10] h22 [y9_1] h21 a11_0_0 a11_0_1 a11_0_2 a11_0_3 i6) (Γi := [Bx d_b [(.int .i64 a9_0_0_0), (h14).v, d__0_2v, d__0_3v], E (List (Sh (Int × Int × List Int × List Int))) a9_0_0_1 h14]) H [1, 0] rfl (persC persS (persC persS persN)) ?_; clear H i6
         rintro _ _ w26 ⟨h23, rfl, rfl⟩ H
         refine hold trivial ?_
         exact ⟨((a11_0_0, a11_0_1), h23), ⟨rfl, trivial⟩, Option.some.inj f15, H.sel [0, 1] rfl⟩
        ·
         exact trivial
      ·
       refine both ?_ ?_
       ·
        refine load1 ((H.rs (α := List Int) 2 rfl).at1' c8 c9 d2) ?_; clear c8 c9 d2
        refine hold trivial ?_
        refine both ?_ ?_
        ·
         have e := o4; clear o4
         obtain ⟨⟨a9_0_0_0, a9_0_0_1, a9_0_0_2, a9_0_0_3⟩, a9_1⟩ := a9
         have i5 := e; clear e
         replace H := H.sel [1, 3, 0, 2] rfl
         refine callS (ih d_b y9_0_0_0 d__0_1 d__0_1h d__0_2 d__0_2v d__0_3 d__0_3v a1 h0 a9_0_0_0 a9_0_0_1 a9_0_0_2 a9_0_0_3 a9_1 i5) (Γi := [Bx d_b [(.int .i64 y9_0_0_0), (d__0_1h).v, d__0_2v, d__0_3v], E (List (Sh (Int × Int × List Int × List Int))) d__0_1 d__0_1h]) H [0] rfl (persC persS persN) ?_; clear H i5
         rintro _ _ w27 ⟨h24, rfl, rfl⟩ H
         refine hold trivial ?_
         refine both ?_ ?_
         ·
          replace H := H.sc (α := Int) a10
          replace H := H.sc (α := Int) a9_1
          refine litN (α := Int) (us := [(.int .i64 a9_1), (.int .i64 a10)]) (xs := [a9_1, a10]) (gs := [(), ()]) gok rfl rfl rfl ⟨rfl, rfl, trivial⟩ rfl rfl H ?_; clear H; intro h25 w28 hx H
          clear hx
          refine hold trivial ?_
          refine lit1S (α := Int) gok rfl rfl rfl rfl H ?_; clear H; intro h26 w29 hx H
          clear hx
          refine hold trivial ?_
          have e := o6; clear o6
          obtain ⟨a11_0_0, a11_0_1, a11_0_2, a11_0_3⟩ := a11
          have i6 := e; clear e
          replace H := H.sel [1, 0, 2, 3, 4, 5] rfl
          replace H := H.frz
          replace H := H.sel [1, 0, 2, 3, 4, 5] rfl
          replace H := H.frz
          replace H := H.sel [2, 3, 0, 1, 4, 5] rfl
          refine callS (impl_drawing_edge_c d_b a9_0_0_0 a9_0_0_1 h24 d__0_2 d__0_2v d__0_3 d__0_3v 5 0 [a9_1, a10] h25 [y9_1] h26 a11_0_0 a11_0_1 a11_0_2 a11_0_3 i6) (Γi := [Bx d_b [(.int .i64 a9_0_0_0), (h24).v, d__0_2v, d__0_3v], E (List (Sh (Int × Int × List Int × List Int))) a9_0_0_1 h24]) H [1, 0] rfl (persC persS (persC persS persN)) ?_; clear H i6
          rintro _ _ w30 ⟨h27, rfl, rfl⟩ H
          refine hold trivial ?_
          exact ⟨((a11_0_0, a11_0_1), h27), ⟨rfl, trivial⟩, Option.some.inj f15, H.sel [0, 1] rfl⟩
         ·
          refine both ?_ ?_
          ·
           refine lit1S (α := Int) gok rfl rfl rfl rfl H ?_; clear H; intro h28 w31 hx H
           clear hx
           refine hold trivial ?_
           replace H := H.sc (α := Int) a10
           replace H := H.sc (α := Int) a9_1
           refine litN (α := Int) (us := [(.int .i64 a9_1), (.int .i64 a10)]) (xs := [a9_1, a10]) (gs := [(), ()]) gok rfl rfl rfl ⟨rfl, rfl, trivial⟩ rfl rfl H ?_; clear H; intro h29 w32 hx H
           clear hx
           refine hold trivial ?_
           have e := o6; clear o6
           obtain ⟨a11_0_0, a11_0_1, a11_0_2, a11_0_3⟩ := a11
           have i6 := e; clear e
           replace H := H.frz
           replace H := H.sel [1, 0, 2, 3, 4, 5] rfl
           replace H := H.frz
           replace H := H.sel [2, 3, 0, 1, 4, 5] rfl
           refine callS (impl_drawing_edge_c d_b a9_0_0_0 a9_0_0_1 h24 d__0_2 d__0_2v d__0_3 d__0_3v 5 0 [a9_1, a10] h29 [y9_1] h28 a11_0_0 a11_0_1 a11_0_2 a11_0_3 i6) (Γi := [Bx d_b [(.int .i64 a9_0_0_0), (h24).v, d__0_2v, d__0_3v], E (List (Sh (Int × Int × List Int × List Int))) a9_0_0_1 h24]) H [1, 0] rfl (persC persS (persC persS persN)) ?_; clear H i6
           rintro _ _ w33 ⟨h30, rfl, rfl⟩ H
           refine hold trivial ?_
           exact ⟨((a11_0_0, a11_0_1), h30), ⟨rfl, trivial⟩, Option.some.inj f15, H.sel [0, 1] rfl⟩
          ·
           exact trivial
        ·
         refine both ?_ ?_
         ·
          refine lit1S (α := Int) gok rfl rfl rfl rfl H ?_; clear H; intro h31 w34 hx H
          clear hx
          refine hold trivial ?_
          have e := o4; clear o4
          obtain ⟨⟨a9_0_0_0, a9_0_0_1, a9_0_0_2, a9_0_0_3⟩, a9_1⟩ := a9
          have i5 := e; clear e
          replace H := H.sel [2, 4, 0, 1, 3] rfl
          refine callS (ih d_b y9_0_0_0 d__0_1 d__0_1h d__0_2 d__0_2v d__0_3 d__0_3v a1 h0 a9_0_0_0 a9_0_0_1 a9_0_0_2 a9_0_0_3 a9_1 i5) (Γi := [Bx d_b [(.int .i64 y9_0_0_0), (d__0_1h).v, d__0_2v, d__0_3v], E (List (Sh (Int × Int × List Int × List Int))) d__0_1 d__0_1h]) H [1] rfl (persC persS persN) ?_; clear H i5
          rintro _ _ w35 ⟨h32, rfl, rfl⟩ H
          refine hold trivial ?_
          replace H := H.sc (α := Int) a10
          replace H := H.sc (α := Int) a9_1
          refine litN (α := Int) (us := [(.int .i64 a9_1), (.int .i64 a10)]) (xs := [a9_1, a10]) (gs := [(), ()]) gok rfl rfl rfl ⟨rfl, rfl, trivial⟩ rfl rfl H ?_; clear H; intro h33 w36 hx H
          clear hx
          refine hold trivial ?_
          have e := o6; clear o6
          obtain ⟨a11_0_0, a11_0_1, a11_0_2, a11_0_3⟩ := a11
          have i6 := e; clear e
          replace H := H.frz
          replace H := H.sel [3, 0, 1, 2, 4, 5] rfl
          replace H := H.frz
          replace H := H.sel [2, 3, 0, 1, 4, 5] rfl
          refine callS (impl_drawing_edge_c d_b a9_0_0_0 a9_0_0_1 h32 d__0_2 d__0_2v d__0_3 d__0_3v 5 0 [a9_1, a10] h33 [y9_1] h31 a11_0_0 a11_0_1 a11_0_2 a11_0_3 i6) (Γi := [Bx d_b [(.int .i64 a9_0_0_0), (h32).v, d__0_2v, d__0_3v], E (List (Sh (Int × Int × List Int × List Int))) a9_0_0_1 h32]) H [1, 0] rfl (persC persS (persC persS persN)) ?_; clear H i6
          rintro _ _ w37 ⟨h34, rfl, rfl⟩ H
          refine hold trivial ?_
          exact ⟨((a11_0_0, a11_0_1), h34), ⟨rfl, trivial⟩, Option.some.inj f15, H.sel [0, 1] rfl⟩
         ·
          exact trivial
       ·
        refine both ?_ ?_
        ·
         refine lit1S (α := Int) gok rfl rfl rfl rfl H ?_; clear H; intro h35 w38 hx H
         clear hx
         refine hold trivial ?_
         refine both ?_ ?_
         ·
          have e := o4; clear o4
          obtain ⟨⟨a9_0_0_0, a9_0_0_1, a9_0_0_2, a9_0_0_3⟩, a9_1⟩ := a9
          have i5 := e; clear e
          replace H := H.sel [2, 4, 0, 1, 3] rfl
          refine callS (ih d_b y9_0_0_0 d__0_1 d__0_1h d__0_2 d__0_2v d__0_3 d__0_3v a1 h0 a9_0_0_0 a9_0_0_1 a9_0_0_2 a9_0_0_3 a9_1 i5) (Γi := [Bx d_b [(.int .i64 y9_0_0_0), (d__0_1h).v, d__0_2v, d__0_3v], E (List (Sh (Int × Int × List Int × List Int))) d__0_1 d__0_1h]) H [1] rfl (persC persS persN) ?_; clear H i5
          rintro _ _ w39 ⟨h36, rfl, rfl⟩ H
          refine hold trivial ?_
          refine load1 ((H.rs (α := List Int) 4 rfl).at1' c8 c9 d2) ?_; clear c8 c9 d2
          refine hold trivial ?_
          replace H := H.sc (α := Int) a10
          replace H := H.sc (α := Int) a9_1
          refine litN (α := Int) (us := [(.int .i64 a9_1), (.int .i64 a10)]) (xs := [a9_1, a10]) (gs := [(), ()]) gok rfl rfl rfl ⟨rfl, rfl, trivial⟩ rfl rfl H ?_; clear H; intro h37 w40 hx H
          clear hx
          refine hold trivial ?_
          have e := o6; clear o6
          obtain ⟨a11_0_0, a11_0_1, a11_0_2, a11_0_3⟩ := a11
          have i6 := e; clear e
          replace H := H.frz
          replace H := H.sel [3, 0, 1, 2, 4, 5] rfl
          replace H := H.frz
          replace H := H.sel [2, 3, 0, 1, 4, 5] rfl
          refine callS (impl_drawing_edge_c d_b a9_0_0_0 a9_0_0_1 h36 d__0_2 d__0_2v d__0_3 d__0_3v 5 0 [a9_1, a10] h37 [y9_1] h35 a11_0_0 a11_0_1 a11_0_2 a11_0_3 i6) (Γi := [Bx d_b [(.int .i64 a9_0_0_0), (h36).v, d__0_2v, d__0_3v], E (List (Sh (Int × Int × List Int × List Int))) a9_0_0_1 h36]) H [1, 0] rfl (persC persS (persC persS persN)) ?_; clear H i6
          rintro _ _ w41 ⟨h38, rfl, rfl⟩ H
          refine hold trivial ?_
          exact ⟨((a11_0_0, a11_0_1), h38), ⟨rfl, trivial⟩, Option.some.inj f15, H.sel [0, 1] rfl⟩
         ·
          refine both ?_ ?_
          ·
           refine load1 ((H.rs (α := List Int) 3 rfl).at1' c8 c9 d2) ?_; clear c8 c9 d2
           refine hold trivial ?_
           have e := o4; clear o4
           obtain ⟨⟨a9_0_0_0, a9_0_0_1, a9_0_0_2, a9_0_0_3⟩, a9_1⟩ := a9
           have i5 := e; clear e
           replace H := H.sel [2, 4, 0, 1, 3] rfl
           refine callS (ih d_b y9_0_0_0 d__0_1 d__0_1h d__0_2 d__0_2v d__0_3 d__0_3v a1 h0 a9_0_0_0 a9_0_0_1 a9_0_0_2 a9_0_0_3 a9_1 i5) (Γi := [Bx d_b [(.int .i64 y9_0_0_0), (d__0_1h).v, d__0_2v, d__0_3v], E (List (Sh (Int × Int × List Int × List Int))) d__0_1 d__0_1h]) H [1] rfl (persC persS persN) ?_; clear H i5
           rintro _ _ w42 ⟨h39, rfl, rfl⟩ H
           refine hold trivial ?_
           replace H := H.sc (α := Int) a10
           replace H := H.sc (α := Int) a9_1
           refine litN (α := Int) (us := [(.int .i64 a9_1), (.int .i64 a10)]) (xs := [a9_1, a10]) (gs := [(), ()]) gok rfl rfl rfl ⟨rfl, rfl, trivial⟩ rfl rfl H ?_; clear H; intro h40 w43 hx H
           clear hx
           refine hold trivial ?_
           have e := o6; clear o6
           obtain ⟨a11_0_0, a11_0_1, a11_0_2, a11_0_3⟩ := a11
           have i6 := e; clear e
           replace H := H.frz
           replace H := H.sel [3, 0, 1, 2, 4, 5] rfl
           replace H := H.frz
           replace H := H.sel [2, 3, 0, 1, 4, 5] rfl
           refine callS (impl_drawing_edge_c d_b a9_0_0_0 a9_0_0_1 h39 d__0_2 d__0_2v d__0_3 d__0_3v 5 0 [a9_1, a10] h40 [y9_1] h35 a11_0_0 a11_0_1 a11_0_2 a11_0_3 i6) (Γi := [Bx d_b [(.int .i64 a9_0_0_0), (h39).v, d__0_2v, d__0_3v], E (List (Sh (Int × Int × List Int × List Int))) a9_0_0_1 h39]) H [1, 0] rfl (persC persS (persC persS persN)) ?_; clear H i6
           rintro _ _ w44 ⟨h41, rfl, rfl⟩ H
           refine hold trivial ?_
           exact ⟨((a11_0_0, a11_0_1), h41), ⟨rfl, trivial⟩, Option.some.inj f15, H.sel [0, 1] rfl⟩
          ·
           exact trivial
        ·
         exact trivial
     ·
      refine both ?_ ?_
      ·
       obtain ⟨a13, o7, f16⟩ := bindS f5; clear f5
       obtain ⟨a14, o8, f17⟩ := bindS f16; clear f16
       obtain ⟨a15, o9, f18⟩ := bindS f17; clear f17
       refine lit1S (α := Int) gok rfl rfl rfl rfl H ?_; clear H; intro h42 w45 hx H
       clear hx
       refine hold trivial ?_
       refine both ?_ ?_
       ·
        have e := o7; clear o7
        obtain ⟨⟨a13_0_0_0, a13_0_0_1, a13_0_0_2, a13_0_0_3⟩, a13_1⟩ := a13
        have i7 := e; clear e
        replace H := H.sel [2, 4, 0, 1, 3] rfl
        refine callS (ih d_b y9_0_0_0 d__0_1 d__0_1h d__0_2 d__0_2v d__0_3 d__0_3v a1 h0 a13_0_0_0 a13_0_0_1 a13_0_0_2 a13_0_0_3 a13_1 i7) (Γi := [Bx d_b [(.int .i64 y9_0_0_0), (d__0_1h).v, d__0_2v, d__0_3v], E (List (Sh (Int × Int × List Int × List Int))) d__0_1 d__0_1h]) H [1] rfl (persC persS persN) ?_; clear H i7
        rintro _ _ w46 ⟨h43, rfl, rfl⟩ H
        refine hold trivial ?_
        have e := o8; clear o8
        have d3 := e; clear e
        obtain ⟨p3, m3, c12, c13, c14, c15⟩ := (H.rs (α := List Int) 4 rfl).at1 d3; clear c15
        refine idxE c12 c13 c14 ?_; clear c14
        refine hold trivial ?_
        refine load1 ((H.rs (α := List Int) 4 rfl).at1' c12 c13 d3) ?_; clear c12 c13 d3
        refine hold trivial ?_
        replace H := H.sc (α := Int) a14
        replace H := H.sc (α := Int) a13_1
        refine litN (α := Int) (us := [(.int .i64 a13_1), (.int .i64 a14)]) (xs := [a13_1, a14]) (gs := [(), ()]) gok rfl rfl rfl ⟨rfl, rfl, trivial⟩ rfl rfl H ?_; clear H; intro h44 w47 hx H
        clear hx
        refine hold trivial ?_
        have e := o9; clear o9
        obtain ⟨a15_0_0, a15_0_1, a15_0_2, a15_0_3⟩ := a15
        have i8 := e; clear e
        replace H := H.frz
        replace H := H.sel [3, 0, 1, 2, 4, 5] rfl
        replace H := H.frz
        replace H := H.sel [2, 3, 0, 1, 4, 5] rfl
        refine callS (impl_drawing_edge_c d_b a13_0_0_0 a13_0_0_1 h43 d__0_2 d__0_2v d__0_3 d__0_3v 5 0 [a13_1, a14] h44 [y9_1] h42 a15_0_0 a15_0_1 a15_0_2 a15_0_3 i8) (Γi := [Bx d_b [(.int .i64 a13_0_0_0), (h43).v, d__0_2v, d__0_3v], E (List (Sh (Int × Int × List Int × List Int))) a13_0_0_1 h43]) H [1, 0] rfl (persC persS (persC persS persN)) ?_; clear H i8
        rintro _ _ w48 ⟨h45, rfl, rfl⟩ H
        refine hold trivial ?_
        exact ⟨((a15_0_0, a15_0_1), h45), ⟨rfl, trivial⟩, Option.some.inj f18, H.sel [0, 1] rfl⟩
       ·
        refine both ?_ ?_
        ·
         have e := o8; clear o8
         have d4 := e; clear e
         obtain ⟨p4, m4, c16, c17, c18, c19⟩ := (H.rs (α := List Int) 3 rfl).at1 d4; clear c19
         refine idxE c16 c17 c18 ?_; clear c18
         refine hold trivial ?_
         refine both ?_ ?_
         ·
          have e := o7; clear o7
          obtain ⟨⟨a13_0_0_0, a13_0_0_1, a13_0_0_2, a13_0_0_3⟩, a13_1⟩ := a13
          have i7 := e; clear e
          replace H := H.sel [2, 4, 0, 1, 3] rfl
          refine callS (ih d_b y9_0_0_0 d__0_1 d__0_1h d__0_2 d__0_2v d__0_3 d__0_3v a1 h0 a13_0_0_0 a13_0_0_1 a13_0_0_2 a13_0_0_3 a13_1 i7) (Γi := [Bx d_b [(.int .i64 y9_0_0_0), (d__0_1h).v, d__0_2v, d__0_3v], E (List (Sh (Int × Int × List Int × List Int))) d__0_1 d__0_1h]) H [1] rfl (persC persS persN) ?_; clear H i7
          rintro _ _ w49 ⟨h46, rfl, rfl⟩ H
          refine hold trivial ?_
          refine load1 ((H.rs (α := List Int) 4 rfl).at1' c16 c17 d4) ?_; clear c16 c17 d4
          refine hold trivial ?_
          replace H := H.sc (α := Int) a14
          replace H := H.sc (α := Int) a13_1
          refine litN (α := Int) (us := [(.int .i64 a13_1), (.int .i64 a14)]) (xs := [a13_1, a14]) (gs := [(), ()]) gok rfl rfl rfl ⟨rfl, rfl, trivial⟩ rfl rfl H ?_; clear H; intro h47 w50 hx H
          clear hx
          refine hold trivial ?_
          have e := o9; clear o9
          obtain ⟨a15_0_0, a15_0_1, a15_0_2, a15_0_3⟩ := a15
          have i8 := e; clear e
          replace H := H.frz
          replace H := H.sel [3, 0, 1, 2, 4, 5] rfl
          replace H := H.frz
          replace H := H.sel [2, 3, 0, 1, 4, 5] rfl
          refine callS (impl_drawing_edge_c d_b a13_0_0_0 a13_0_0_1 h46 d__0_2 d__0_2v d__0_3 d__0_3v 5 0 [a13_1, a14] h47 [y9_1] h42 a15_0_0 a15_0_1 a15_0_2 a15_0_3 i8) (Γi := [Bx d_b [(.int .i64 a13_0_0_0), (h46).v, d__0_2v, d__0_3v], E (List (Sh (Int × Int × List Int × List Int))) a13_0_0_1 h46]) H [1, 0] rfl (persC persS (persC persS persN)) ?_; clear H i8
          rintro _ _ w51 ⟨h48, rfl, rfl⟩ H
          refine hold trivial ?_
          exact ⟨((a15_0_0, a15_0_1), h48), ⟨rfl, trivial⟩, Option.some.inj f18, H.sel [0, 1] rfl⟩
         ·
          refine both ?_ ?_
          ·
           refine load1 ((H.rs (α := List Int) 3 rfl).at1' c16 c17 d4) ?_; clear c16 c17 d4
           refine hold trivial ?_
           have e := o7; clear o7
           obtain ⟨⟨a13_0_0_0, a13_0_0_1, a13_0_0_2, a13_0_0_3⟩, a13_1⟩ := a13
           have i7 := e; clear e
           replace H := H.sel [2, 4, 0, 1, 3] rfl
           refine callS (ih d_b y9_0_0_0 d__0_1 d__0_1h d__0_2 d__0_2v d__0_3 d__0_3v a1 h0 a13_0_0_0 a13_0_0_1 a13_0_0_2 a13_0_0_3 a13_1 i7) (Γi := [Bx d_b [(.int .i64 y9_0_0_0), (d__0_1h).v, d__0_2v, d__0_3v], E (List (Sh (Int × Int × List Int × List Int))) d__0_1 d__0_1h]) H [1] rfl (persC persS persN) ?_; clear H i7
           rintro _ _ w52 ⟨h49, rfl, rfl⟩ H
           refine hold trivial ?_
           replace H := H.sc (α := Int) a14
           replace H := H.sc (α := Int) a13_1
           refine litN (α := Int) (us := [(.int .i64 a13_1), (.int .i64 a14)]) (xs := [a13_1, a14]) (gs := [(), ()]) gok rfl rfl rfl ⟨rfl, rfl, trivial⟩ rfl rfl H ?_; clear H; intro h50 w53 hx H
           clear hx
           refine hold trivial ?_
           have e := o9; clear o9
           obtain ⟨a15_0_0, a15_0_1, a15_0_2, a15_0_3⟩ := a15
           have i8 := e; clear e
           replace H := H.frz
           replace H := H.sel [3, 0, 1, 2, 4, 5] rfl
           replace H := H.frz
           replace H := H.sel [2, 3, 0, 1, 4, 5] rfl
           refine callS (impl_drawing_edge_c d_b a13_0_0_0 a13_0_0_1 h49 d__0_2 d__0_2v d__0_3 d__0_3v 5 0 [a13_1, a14] h50 [y9_1] h42 a15_0_0 a15_0_1 a15_0_2 a15_0_3 i8) (Γi := [Bx d_b [(.int .i64 a13_0_0_0), (h49).v, d__0_2v, d__0_3v], E (List (Sh (Int × Int × List Int × List Int))) a13_0_0_1 h49]) H [1, 0] rfl (persC persS (persC persS persN)) ?_; clear H i8
           rintro _ _ w54 ⟨h51, rfl, rfl⟩ H
           refine hold trivial ?_
           exact ⟨((a15_0_0, a15_0_1), h51), ⟨rfl, trivial⟩, Option.some.inj f18, H.sel [0, 1] rfl⟩
          ·
           exact trivial
        ·
         exact trivial
      ·
       exact trivial
   ·
    clear f3 H
    rintro T0 ⟨⟨s0_0, s0_1⟩, g0⟩ w55 ⟨hr, (H : Cx w0 fp0 S0 w55 [Bx d_b [(.int .i64 s0_0), (g0).v, d__0_2v, d__0_3v], E (List (Sh (Int × Int × List Int × List Int))) s0_1 g0])⟩
    subst hr
    cases f4
    exact ⟨_, _, rfl, ⟨g0, rfl, rfl⟩, (H.sel [0, 1] rfl)⟩
  ·
   have f19 := condT f1; clear f1
   refine lit1S (α := Int) gok rfl rfl rfl rfl H ?_; clear H; intro h52 w56 hx H
   clear hx
   replace H := H.nil (α := Int)
   obtain ⟨y3, e, f20⟩ := bindS f19; clear f19
   obtain ⟨y3_0_0, y3_0_1, y3_0_2, y3_0_3⟩ := y3
   have i9 := e; clear e
   replace H := H.frz
   replace H := H.sel [1, 0, 2, 3, 4] rfl
   replace H := H.frz
   replace H := H.sel [2, 4, 0, 1, 3] rfl
   refine callS (impl_drawing_edge_c d_b y9_0_0_0 d__0_1 d__0_1h d__0_2 d__0_2v d__0_3 d__0_3v 6 0 [] nilH [y9_1] h52 y3_0_0 y3_0_1 y3_0_2 y3_0_3 i9) (Γi := [Bx d_b [(.int .i64 y9_0_0_0), (d__0_1h).v, d__0_2v, d__0_3v], E (List (Sh (Int × Int × List Int × List Int))) d__0_1 d__0_1h]) H [1, 0] rfl (persC persS (persC persS persN)) ?_; clear H i9
   rintro _ _ w57 ⟨h53, rfl, rfl⟩ H
   cases f20
   exact ⟨_, _, rfl, ⟨h53, rfl, rfl⟩, (H.sel [0, 1] rfl)⟩
 ·
  have f21 := condT hF7; clear hF7
  obtain ⟨a16, e, f22⟩ := bindS f21; clear f21
  obtain ⟨p5, m5, c20, c21, c22, c23⟩ := (H.rs (α := List Int) 0 rfl).at1 e; clear e
  refine idxE c20 c21 c22 ?_; clear c20 c21 c22
  refine load1 c23 ?_; clear c23
  cases f22
  exact ⟨_, _, rfl, ⟨d__0_1h, rfl, rfl⟩, (H.sel [1, 2] rfl)⟩
theorem impl_drawing_sum_c (d_b : Nat) (d__0_0 : Int) (d__0_1 : List (Int × Int × List Int × List Int)) (d__0_1h : Hd) (d__0_2 : List Int) (d__0_2v : Value) (d__0_3 : List Int) (d__0_3v : Value) (list_ : List Int) (list_h : Hd) (y0_0_0 : Int) (y0_0_1 : List (Int × Int × List Int × List Int)) (y0_0_2 : List Int) (y0_0_3 : List Int) (y1 : Int) (hF : F_impl_drawing_sum (d__0_0, d__0_1, d__0_2, d__0_3) list_ = some ((y0_0_0, y0_0_1, y0_0_2, y0_0_3), y1)) :
  ConS Tryz.prog 65 #[(.pointer (some ⟨d_b, 0, none⟩)), (list_h).v] [Es (List Int) list_ list_h] [Bx d_b [(.int .i64 d__0_0), (d__0_1h).v, d__0_2v, d__0_3v], E (List (Sh (Int × Int × List Int × List Int))) d__0_1 d__0_1h] (fun v Γ' => ∃ z0 : Hd, v = (.int .i64 y1) ∧ Γ' = [Bx d_b [(.int .i64 y0_0_0), (z0).v, d__0_2v, d__0_3v], E (List (Sh (Int × Int × List Int × List Int))) y0_0_1 z0]) := impl_drawing_sum_cn _ d_b d__0_0 d__0_1 d__0_1h d__0_2 d__0_2v d__0_3 d__0_3v list_ list_h y0_0_0 y0_0_1 y0_0_2 y0_0_3 y1 hF

theorem impl_drawing_matrix_c (d_b : Nat) (d__0_0 : Int) (d__0_1 : List (Int × Int × List Int × List Int)) (d__0_1h : Hd) (d__0_2 : List Int) (d__0_2v : Value) (d__0_3 : List Int) (d__0_3v : Value) (ins_ : List Int) (ins_h : Hd) (rows_ : List (List Int)) (rows_h : Hd) (cols_ : Int) (y0_0_0 : Int) (y0_0_1 : List (Int × Int × List Int × List Int)) (y0_0_2 : List Int) (y0_0_3 : List Int) (y1 : List Int) (hF : F_impl_drawing_matrix (d__0_0, d__0_1, d__0_2, d__0_3) ins_ rows_ cols_ = some ((y0_0_0, y0_0_1, y0_0_2, y0_0_3), y1)) :
  ConS Tryz.prog 41 #[(.pointer (some ⟨d_b, 0, none⟩)), (ins_h).v, (rows_h).v, (.int .i64 cols_)] [Es (List Int) ins_ ins_h, Es (List (List Int)) rows_ rows_h] [Bx d_b [(.int .i64 d__0_0), (d__0_1h).v, d__0_2v, d__0_3v], E (List (Sh (Int × Int × List Int × List Int))) d__0_1 d__0_1h] (fun v Γ' => ∃ z0 z1 : Hd, v = (z1).v ∧ Γ' = [Bx d_b [(.int .i64 y0_0_0), (z0).v, d__0_2v, d__0_3v], E (List (Sh (Int × Int × List Int × List Int))) y0_0_1 z0, Es (List Int) y1 z1]) := by
 intro w0 S0 fp0 hI hS
 have H : Cx w0 fp0 S0 w0 [Es (List Int) ins_ ins_h, Es (List (List Int)) rows_ rows_h, Bx d_b [(.int .i64 d__0_0), (d__0_1h).v, d__0_2v, d__0_3v], E (List (Sh (Int × Int × List Int × List Int))) d__0_1 d__0_1h] := Cx.start hI hS
 clear hI hS
 refine enterC (args := [_, _, _, _]) gok Tryz.func41 rfl _ rfl rfl rfl ?_
 obtain ⟨a5, e, hF6⟩ := bindS hF; clear hF
 refine make_ (α := List Int) gok rfl rfl rfl rfl (makeCO_of e) H ?_; clear e H; intro h8 w7 hx H
 clear hx
 refine sq ?_
 refine lenE (H.rs (α := List (List Int)) 2 rfl).len ?_
 have x0 := (H.rs (α := List (List Int)) 2 rfl).max
 obtain ⟨r0, e, f0⟩ := bindS hF6; clear hF6
 refine loopS _ rows_.length (fun (k0 : Nat) (s0 : Int × (List (Int × Int × List Int × List Int)) × List (List Int)) (g0 : Hd) => [(0, (.pointer (some ⟨d_b, 0, none⟩))), (1, (ins_h).v), (9, (h8).v), (25, (rows_h).v), (26, (.int .i64 ((rows_.length : Nat) : Int))), (27, (.int .i64 ((k0 : Nat) : Int)))]) (fun _ (s0 : Int × (List (Int × Int × List Int × List Int)) × List (List Int)) (g0 : Hd) w' => Cx w0 fp0 S0 w' [Bx d_b [(.int .i64 s0.1), (g0).v, d__0_2v, d__0_3v], E (List (Sh (Int × Int × List Int × List Int))) s0.2.1 g0, Es (List Int) ins_ ins_h, E (List (List Int)) s0.2.2 h8, Es (List (List Int)) rows_ rows_h]) (d__0_0, d__0_1, a5) d__0_1h e ⟨rfl, rfl, rfl, rfl, rfl, rfl, trivial⟩ (H.sel [3, 4, 1, 0, 2] rfl) ?_ ?_
 ·
  clear H e
  rintro T0 k0 ⟨s0_0, s0_1, s0_2⟩ g0 w1 o0 hk (H : Cx w0 fp0 S0 w1 [Bx d_b [(.int .i64 s0_0), (g0).v, d__0_2v, d__0_3v], E (List (Sh (Int × Int × List Int × List Int))) s0_1 g0, Es (List Int) ins_ ins_h, E (List (List Int)) s0_2 h8, Es (List (List Int)) rows_ rows_h]) f1
  refine boolE (z := true) (ltLen hk) ?_
  refine sq ?_
  refine sq ?_
  obtain ⟨a0, e, f2⟩ := bindS f1; clear f1
  have HH := H; clear H; obtain ⟨p0, m0, h0, c0, c1, c2, c3, H⟩ := HH.elL 4 rfl e; clear HH
  clear e
  refine idxE c0 c1 c2 ?_; clear c0 c1 c2
  refine load1 c3 ?_; clear c3
  refine lit0 (α := Int) gok rfl rfl H ?_; clear H; intro h1 w2 hx H
  clear hx
  refine sq ?_
  refine lenE (H.rs (α := List Int) 1 rfl).len ?_
  have x1 := (H.rs (α := List Int) 1 rfl).max
  obtain ⟨r1, e, f3⟩ := bindS f2; clear f2
  refine loopS _ a0.length (fun (k1 : Nat) (s1 : List Int) (g1 : Hd) => [(0, (.pointer (some ⟨d_b, 0, none⟩))), (1, (ins_h).v), (9, (h8).v), (10, (.int .i64 ((k0 : Nat) : Int))), (11, (h0).v), (12, (g1).v), (25, (rows_h).v), (26, (.int .i64 ((rows_.length : Nat) : Int))), (27, (.int .i64 ((k0 : Nat) : Int))), (33, (h0).v), (34, (.int .i64 ((a0.length : Nat) : Int))), (35, (.int .i64 ((k1 : Nat) : Int)))]) (fun _ (s1 : List Int) (g1 : Hd) w' => Cx w0 fp0 S0 w' [Bx d_b [(.int .i64 s0_0), (g0).v, d__0_2v, d__0_3v], E (List (Sh (Int × Int × List Int × List Int))) s0_1 g0, Es (List Int) ins_ ins_h, E (List (List Int)) s0_2 h8, Es (List Int) a0 h0, E (List Int) s1 g1, Es (List (List Int)) rows_ rows_h]) ([] : List Int) h1 e ⟨rfl, rfl, rfl, rfl, rfl, rfl, rfl, rfl, rfl, rfl, rfl, rfl, trivial⟩ (H.sel [2, 3, 4, 5, 1, 0, 6] rfl) ?_ ?_
  ·
   clear H e
   rintro T1 k1 s1 g1 w3 o1 hk (H : Cx w0 fp0 S0 w3 [Bx d_b [(.int .i64 s0_0), (g0).v, d__0_2v, d__0_3v], E (List (Sh (Int × Int × List Int × List Int))) s0_1 g0, Es (List Int) ins_ ins_h, E (List (List Int)) s0_2 h8, Es (List Int) a0 h0, E (List Int) s1 g1, Es (List (List Int)) rows_ rows_h]) f4
   refine boolE (z := true) (ltLen hk) ?_
   refine sq ?_
   refine sq ?_
   obtain ⟨a1, e, f5⟩ := bindS f4; clear f4
   obtain ⟨p1, m1, c4, c5, c6, c7⟩ := (H.rs (α := List Int) 4 rfl).at1 e; clear e
   refine idxE c4 c5 c6 ?_; clear c4 c5 c6
   refine load1 c7 ?_; clear c7
   obtain ⟨a2, e, f6⟩ := bindS f5; clear f5
   refine boolO e ?_; clear e
   cases a2
   ·
    have f7 := condF f6; clear f6
    refine arK hk x1 ?_
    have hs := Option.some.inj f7; subst hs; clear f7
    exact ⟨g1, ⟨rfl, rfl, rfl, rfl, rfl, rfl, rfl, rfl, rfl, rfl, rfl, rfl, trivial⟩, H.sel [0, 1, 2, 3, 4, 5, 6] rfl⟩
   ·
    have f8 := condT f6; clear f6
    refine lit1S (α := Int) gok rfl rfl rfl rfl H ?_; clear H; intro h2 w4 hx H
    clear hx
    obtain ⟨a3, e, f9⟩ := bindS f8; clear f8
    replace H := H.sel [6, 0, 1, 2, 3, 4, 5, 7] rfl
    refine append_ (α := Int) gok rfl rfl rfl rfl H e ?_; clear e H; intro h3 w5 H
    refine arK hk x1 ?_
    have hs := Option.some.inj f9; subst hs; clear f9
    exact ⟨h3, ⟨rfl, rfl, rfl, rfl, rfl, rfl, rfl, rfl, rfl, rfl, rfl, rfl, trivial⟩, H.sel [1, 2, 3, 4, 5, 0, 6] rfl⟩
  ·
   clear H e
   rintro T2 g2 w6 (H : Cx w0 fp0 S0 w6 [Bx d_b [(.int .i64 s0_0), (g0).v, d__0_2v, d__0_3v], E (List (Sh (Int × Int × List Int × List Int))) s0_1 g0, Es (List Int) ins_ ins_h, E (List (List Int)) s0_2 h8, Es (List Int) a0 h0, E (List Int) r1 g2, Es (List (List Int)) rows_ rows_h])
   refine boolE (z := false) geLen ?_
   refine sq ?_
   obtain ⟨a4, e, f10⟩ := bindS f3; clear f3
   obtain ⟨p2, m2, c8, c9, c10, c11⟩ := (H.rs (α := List Int) 2 rfl).at1 e; clear e
   refine idxE c8 c9 c10 ?_; clear c8 c9 c10
   refine load1 c11 ?_; clear c11
   refine lenE (H.ro (α := List Int) 5 rfl).len ?_
   obtain ⟨y0, e, f11⟩ := bindS f10; clear f10
   obtain ⟨⟨y0_0_0_0, y0_0_0_1, y0_0_0_2, y0_0_0_3⟩, y0_1⟩ := y0
   have i0 := e; clear e
   refine callS (impl_drawing_fanOut_c d_b s0_0 s0_1 g0 d__0_2 d__0_2v d__0_3 d__0_3v a4 ((r1.length : Nat) : Int) y0_0_0_0 y0_0_0_1 y0_0_0_2 y0_0_0_3 y0_1 i0) (Γi := [Bx d_b [(.int .i64 s0_0), (g0).v, d__0_2v, d__0_3v], E (List (Sh (Int × Int × List Int × List Int))) s0_1 g0]) H [] rfl persN ?_; clear H i0
   rintro _ _ w8 ⟨h4, h5, rfl, rfl⟩ H
   refine lenE (H.rs (α := List Int) 2 rfl).len ?_
   have x2 := (H.rs (α := List Int) 2 rfl).max
   obtain ⟨r2, e, f12⟩ := bindS f11; clear f11
   refine loopS _ y0_1.length (fun (k2 : Nat) (s2 : Int × (List (Int × Int × List Int × List Int)) × List (List Int)) (g3 : Hd) => [(0, (.pointer (some ⟨d_b, 0, none⟩))), (1, (ins_h).v), (9, (h8).v), (11, (h0).v), (12, (g2).v), (25, (rows_h).v), (26, (.int .i64 ((rows_.length : Nat) : Int))), (27, (.int .i64 ((k0 : Nat) : Int))), (54, (h5).v), (55, (.int .i64 ((y0_1.length : Nat) : Int))), (56, (.int .i64 ((k2 : Nat) : Int)))]) (fun _ (s2 : Int × (List (Int × Int × List Int × List Int)) × List (List Int)) (g3 : Hd) w' => Cx w0 fp0 S0 w' [Bx d_b [(.int .i64 s2.1), (g3).v, d__0_2v, d__0_3v], E (List (Sh (Int × Int × List Int × List Int))) s2.2.1 g3, Es (List Int) ins_ ins_h, E (List (List Int)) s2.2.2 h8, Es (List Int) a0 h0, E (List Int) r1 g2, Es (List (List Int)) rows_ rows_h, Es (List Int) y0_1 h5]) (y0_0_0_0, y0_0_0_1, s0_2) h4 e ⟨rfl, rfl, rfl, rfl, rfl, rfl, rfl, rfl, rfl, rfl, rfl, trivial⟩ (H.sel [0, 1, 3, 4, 5, 6, 7, 2] rfl) ?_ ?_
   ·
    clear H e
    rintro T3 k2 ⟨s2_0, s2_1, s2_2⟩ g3 w9 o2 hk (H : Cx w0 fp0 S0 w9 [Bx d_b [(.int .i64 s2_0), (g3).v, d__0_2v, d__0_3v], E (List (Sh (Int × Int × List Int × List Int))) s2_1 g3, Es (List Int) ins_ ins_h, E (List (List Int)) s2_2 h8, Es (List Int) a0 h0, E (List Int) r1 g2, Es (List (List Int)) rows_ rows_h, Es (List Int) y0_1 h5]) f13
    refine boolE (z := true) (ltLen hk) ?_
    refine sq ?_
    refine sq ?_
    obtain ⟨a6, e, f14⟩ := bindS f13; clear f13
    obtain ⟨p3, m3, c12, c13, c14, c15⟩ := (H.rs (α := List Int) 7 rfl).at1 e; clear e
    refine idxE c12 c13 c14 ?_; clear c12 c13 c14
    refine load1 c15 ?_; clear c15
    obtain ⟨a7, e, f15⟩ := bindS f14; clear f14
    obtain ⟨p4, m4, c16, c17, c18, c19⟩ := (H.ro (α := List Int) 5 rfl).at1 e; clear e
    refine idxE c16 c17 c18 ?_; clear c16 c17 c18
    refine load1 c19 ?_; clear c19
    obtain ⟨r3, f16, f17⟩ := bindS f15; clear f15
    refine cut (fun (q0 : (Int × (List (Int × Int × List Int × List Int)) × Int) × Hd) => [(0, (.pointer (some ⟨d_b, 0, none⟩))), (1, (ins_h).v), (9, (h8).v), (11, (h0).v), (12, (g2).v), (16, (.int .i64 q0.1.2.2)), (17, (.int .i64 a7)), (25, (rows_h).v), (26, (.int .i64 ((rows_.length : Nat) : Int))), (27, (.int .i64 ((k0 : Nat) : Int))), (54, (h5).v), (55, (.int .i64 ((y0_1.length : Nat) : Int))), (56, (.int .i64 ((k2 : Nat) : Int)))]) (fun (q0 : (Int × (List (Int × Int × List Int × List Int)) × Int) × Hd) w' => (q0.1.1, q0.1.2.1, q0.1.2.2) = r3 ∧ Cx w0 fp0 S0 w' [Bx d_b [(.int .i64 q0.1.1), (q0.2).v, d__0_2v, d__0_3v], E (List (Sh (Int × Int × List Int × List Int))) q0.1.2.1 q0.2, Es (List Int) ins_ ins_h, E (List (List Int)) s2_2 h8, Es (List Int) a0 h0, E (List Int) r1 g2, Es (List (List Int)) rows_ rows_h, Es (List Int) y0_1 h5]) ?_ ?_
    ·
     obtain ⟨a8, e, f18⟩ := bindS f16; clear f16
     obtain ⟨p5, m5, c20, c21, c22, c23⟩ := (H.rs (α := List Int) 4 rfl).at1 e; clear e
     refine idxE c20 c21 c22 ?_; clear c20 c21 c22
     refine load1 c23 ?_; clear c23
     obtain ⟨a9, e, f19⟩ := bindS f18; clear f18
     refine boolO e ?_; clear e
     cases a9
     ·
      have f20 := condF f19; clear f19
      exact ⟨((s2_0, s2_1, a6), g3), ⟨rfl, rfl, rfl, rfl, rfl, rfl, rfl, rfl, rfl, rfl, rfl, rfl, rfl, trivial⟩, Option.some.inj f20, H.sel [0, 1, 2, 3, 4, 5, 6, 7] rfl⟩
     ·
      have f21 := condT f19; clear f19
      obtain ⟨y2, e, f22⟩ := bindS f21; clear f21
      obtain ⟨⟨y2_0_0_0, y2_0_0_1, y2_0_0_2, y2_0_0_3⟩, y2_1⟩ := y2
      have i1 := e; clear e
      refine callF (impl_drawing_wire_c d_b s2_0 s2_1 ((g3).v) d__0_2 d__0_2v d__0_3 d__0_3v y2_0_0_0 y2_0_0_1 y2_0_0_2 y2_0_0_3 y2_1 i1) (Γi := [Bx d_b [(.int .i64 s2_0), (g3).v, d__0_2v, d__0_3v]]) H trivial ?_; clear H i1
      rintro _ _ w10 ⟨rfl, rfl⟩ H
      refine lit1S (α := Int) gok rfl rfl rfl rfl H ?_; clear H; intro h6 w11 hx H
      clear hx
      refine lit1S (α := Int) gok rfl rfl rfl rfl H ?_; clear H; intro h7 w12 hx H
      clear hx
      obtain ⟨y3, e, f23⟩ := bindS f22; clear f22
      obtain ⟨y3_0_0, y3_0_1, y3_0_2, y3_0_3⟩ := y3
      have i2 := e; clear e
      replace H := H.sel [1, 0, 2, 3, 4, 5, 6, 7, 8, 9] rfl
      replace H := H.frz
      replace H := H.sel [1, 0, 2, 3, 4, 5, 6, 7, 8, 9] rfl
      replace H := H.frz
      replace H := H.sel [2, 3, 0, 1, 4, 5, 6, 7, 8, 9] rfl
      refine callS (impl_drawing_edge_c d_b y2_0_0_0 s2_1 g3 d__0_2 d__0_2v d__0_3 d__0_3v 7 a8 [a6] h6 [y2_1] h7 y3_0_0 y3_0_1 y3_0_2 y3_0_3 i2) (Γi := [Bx d_b [(.int .i64 y2_0_0_0), (g3).v, d__0_2v, d__0_3v], E (List (Sh (Int × Int × List Int × List Int))) s2_1 g3]) H [1, 0] rfl (persC persS (persC persS persN)) ?_; clear H i2
      rintro _ _ w13 ⟨h9, rfl, rfl⟩ H
      exact ⟨((y3_0_0, y3_0_1, y2_1), h9), ⟨rfl, rfl, rfl, rfl, rfl, rfl, rfl, rfl, rfl, rfl, rfl, rfl, rfl, trivial⟩, Option.some.inj f23, H.sel [0, 1, 4, 5, 6, 7, 8, 9] rfl⟩
    ·
     clear f16 H
     rintro T4 ⟨⟨s3_0, s3_1, s3_2⟩, g4⟩ w14 ⟨hr, (H : Cx w0 fp0 S0 w14 [Bx d_b [(.int .i64 s3_0), (g4).v, d__0_2v, d__0_3v], E (List (Sh (Int × Int × List Int × List Int))) s3_1 g4, Es (List Int) ins_ ins_h, E (List (List Int)) s2_2 h8, Es (List Int) a0 h0, E (List Int) r1 g2, Es (List (List Int)) rows_ rows_h, Es (List Int) y0_1 h5])⟩
     subst hr
     obtain ⟨a10, e, f24⟩ := bindS f17; clear f17
     replace H := H.sel [3, 0, 1, 2, 4, 5, 6, 7] rfl
     replace H := H.toEH (α := List Int)
     have HH := H; clear H; obtain ⟨p6, m6, h10, c24, c25, c26, c27, H⟩ := HH.peekL e; clear HH
     clear e
     refine idxE c24 c25 c26 ?_
     refine load1 c27 ?_; clear c27
     refine lit1S (α := Int) gok rfl rfl rfl rfl H ?_; clear H; intro h11 w15 hx H
     clear hx
     replace H := H.sel [1, 0, 2, 3, 4, 5, 6, 7, 8] rfl
     replace H := H.takeK 0 rfl
     obtain ⟨a11, e, f25⟩ := bindS f24; clear f24
     replace H := H.sel [0, 2, 1, 3, 4, 5, 6, 7, 8, 9] rfl
     refine append_ (α := Int) gok rfl rfl rfl rfl H e ?_; clear e H; intro h12 w16 H
     refine idxE c24 c25 c26 ?_
     replace H := H.sel [1, 0, 2, 3, 4, 5, 6, 7, 8] rfl
     refine stX0 H c24 rfl rfl ?_; clear H; intro w17 H
     obtain ⟨a12, e, f26⟩ := bindS f25; clear f25
     replace H := H.sel [1, 0, 2, 3, 4, 5, 6, 7, 8] rfl
     replace H := H.put c25 e; clear e
     refine arK hk x2 ?_
     have hs := Option.some.inj f26; subst hs; clear f26
     exact ⟨g4, ⟨rfl, rfl, rfl, rfl, rfl, rfl, rfl, rfl, rfl, rfl, rfl, trivial⟩, H.sel [1, 2, 3, 0, 4, 5, 6, 7] rfl⟩
   ·
    clear H e
    obtain ⟨s4_0, s4_1, s4_2⟩ := r2
    rintro T5 g5 w18 (H : Cx w0 fp0 S0 w18 [Bx d_b [(.int .i64 s4_0), (g5).v, d__0_2v, d__0_3v], E (List (Sh (Int × Int × List Int × List Int))) s4_1 g5, Es (List Int) ins_ ins_h, E (List (List Int)) s4_2 h8, Es (List Int) a0 h0, E (List Int) r1 g2, Es (List (List Int)) rows_ rows_h, Es (List Int) y0_1 h5])
    refine boolE (z := false) geLen ?_
    refine sq ?_
    refine arK hk x0 ?_
    have hs := Option.some.inj f12; subst hs; clear f12
    exact ⟨g5, ⟨rfl, rfl, rfl, rfl, rfl, rfl, trivial⟩, H.sel [0, 1, 2, 3, 6] rfl⟩
 ·
  clear H e
  obtain ⟨s5_0, s5_1, s5_2⟩ := r0
  rintro T6 g6 w19 (H : Cx w0 fp0 S0 w19 [Bx d_b [(.int .i64 s5_0), (g6).v, d__0_2v, d__0_3v], E (List (Sh (Int × Int × List Int × List Int))) s5_1 g6, Es (List Int) ins_ ins_h, E (List (List Int)) s5_2 h8, Es (List (List Int)) rows_ rows_h])
  refine boolE (z := false) geLen ?_
  refine sq ?_
  refine lit0 (α := Int) gok rfl rfl H ?_; clear H; intro h13 w20 hx H
  clear hx
  refine sq ?_
  refine lenE (H.ro (α := List (List Int)) 4 rfl).len ?_
  replace H := H.sel [4, 0, 1, 2, 3, 5] rfl
  replace H := H.frz
  have x3 := (H.rs (α := List (List Int)) 0 rfl).max
  obtain ⟨r4, e, f27⟩ := bindS f0; clear f0
  refine loopS _ s5_2.length (fun (k3 : Nat) (s6 : Int × (List (Int × Int × List Int × List Int)) × List Int) (g7 : Hd × Hd) => [(0, (.pointer (some ⟨d_b, 0, none⟩))), (20, (g7.2).v), (94, (h8).v), (95, (.int .i64 ((s5_2.length : Nat) : Int))), (96, (.int .i64 ((k3 : Nat) : Int)))]) (fun _ (s6 : Int × (List (Int × Int × List Int × List Int)) × List Int) (g7 : Hd × Hd) w' => Cx w0 fp0 S0 w' [Bx d_b [(.int .i64 s6.1), (g7.1).v, d__0_2v, d__0_3v], E (List (Sh (Int × Int × List Int × List Int))) s6.2.1 g7.1, E (List Int) s6.2.2 g7.2, Es (List (List Int)) s5_2 h8]) (s5_0, s5_1, ([] : List Int)) (g6, h13) e ⟨rfl, rfl, rfl, rfl, rfl, trivial⟩ (H.sel [2, 3, 1, 0] rfl) ?_ ?_
  ·
   clear H e
   rintro T7 k3 ⟨s6_0, s6_1, s6_2⟩ ⟨g7_0, g7_1⟩ w21 o3 hk (H : Cx w0 fp0 S0 w21 [Bx d_b [(.int .i64 s6_0), (g7_0).v, d__0_2v, d__0_3v], E (List (Sh (Int × Int × List Int × List Int))) s6_1 g7_0, E (List Int) s6_2 g7_1, Es (List (List Int)) s5_2 h8]) f28
   refine boolE (z := true) (ltLen hk) ?_
   refine sq ?_
   refine sq ?_
   obtain ⟨a13, e, f29⟩ := bindS f28; clear f28
   have HH := H; clear H; obtain ⟨p7, m7, h14, c28, c29, c30, c31, H⟩ := HH.elL 3 rfl e; clear HH
   clear e
   refine idxE c28 c29 c30 ?_; clear c28 c29 c30
   refine load1 c31 ?_; clear c31
   obtain ⟨y4, e, f30⟩ := bindS f29; clear f29
   obtain ⟨⟨y4_0_0_0, y4_0_0_1, y4_0_0_2, y4_0_0_3⟩, y4_1⟩ := y4
   have i3 := e; clear e
   replace H := H.sel [1, 2, 0, 3, 4] rfl
   refine callS (impl_drawing_sum_c d_b s6_0 s6_1 g7_0 d__0_2 d__0_2v d__0_3 d__0_3v a13 h14 y4_0_0_0 y4_0_0_1 y4_0_0_2 y4_0_0_3 y4_1 i3) (Γi := [Bx d_b [(.int .i64 s6_0), (g7_0).v, d__0_2v, d__0_3v], E (List (Sh (Int × Int × List Int × List Int))) s6_1 g7_0]) H [0] rfl (persC persS persN) ?_; clear H i3
   rintro _ _ w22 ⟨h15, rfl, rfl⟩ H
   refine lit1S (α := Int) gok rfl rfl rfl rfl H ?_; clear H; intro h16 w23 hx H
   clear hx
   obtain ⟨a14, e, f31⟩ := bindS f30; clear f30
   replace H := H.sel [4, 0, 1, 2, 3, 5] rfl
   refine append_ (α := Int) gok rfl rfl rfl rfl H e ?_; clear e H; intro h17 w24 H
   refine arK hk x3 ?_
   have hs := Option.some.inj f31; subst hs; clear f31
   exact ⟨(h15, h17), ⟨rfl, rfl, rfl, rfl, rfl, trivial⟩, H.sel [1, 2, 0, 4] rfl⟩
  ·
   clear H e
   obtain ⟨s7_0, s7_1, s7_2⟩ := r4
   rintro T8 ⟨g8_0, g8_1⟩ w25 (H : Cx w0 fp0 S0 w25 [Bx d_b [(.int .i64 s7_0), (g8_0).v, d__0_2v, d__0_3v], E (List (Sh (Int × Int × List Int × List Int))) s7_1 g8_0, E (List Int) s7_2 g8_1, Es (List (List Int)) s5_2 h8])
   refine boolE (z := false) geLen ?_
   refine sq ?_
   replace H := H.sel [2, 0, 1, 3] rfl
   replace H := H.frz
   cases f27
   exact ⟨_, _, rfl, ⟨g8_0, g8_1, rfl, rfl⟩, (H.sel [1, 2, 0] rfl)⟩

theorem impl_isGenerator_c (kind_ : Int) (y : Bool) (hF : F_impl_isGenerator kind_ = some y) :
  ConF Tryz.prog 116 #[(.int .i64 kind_)] [] [] (fun v Γ' => v = (.bool y) ∧ Γ' = []) := by
 intro w0 S0 fp0 hI hS
 have H : Cx w0 fp0 S0 w0 [] := Cx.start hI hS
 clear hI hS
 refine enterC (args := [_]) gok Tryz.func116 rfl _ rfl rfl rfl ?_
 obtain ⟨y1, e, hF2⟩ := bindS hF; clear hF
 have ey1 := e; clear e
 refine callF (impl_within_c kind_ 3 14 y1 ey1) (Γi := []) H trivial ?_; clear H ey1
 rintro _ _ w3 ⟨rfl, rfl⟩ H
 cases hF2
 exact ⟨_, _, rfl, ⟨rfl, rfl⟩, (H.sel [] rfl).close trivial⟩

theorem impl_hasValue_c (kind_ : Int) (y : Bool) (hF : F_impl_hasValue kind_ = some y) :
  ConF Tryz.prog 134 #[(.int .i64 kind_)] [] [] (fun v Γ' => v = (.bool y) ∧ Γ' = []) := by
 intro w0 S0 fp0 hI hS
 have H : Cx w0 fp0 S0 w0 [] := Cx.start hI hS
 clear hI hS
 refine enterC (args := [_]) gok Tryz.func134 rfl _ rfl rfl rfl ?_
 obtain ⟨r9, f0, f1⟩ := bindS hF; clear hF
 refine cut (fun (q0 : Bool) => [(2, (.bool q0))]) (fun (q0 : Bool) w' => q0 = r9 ∧ Cx w0 fp0 S0 w' []) ?_ ?_
 ·
  obtain ⟨a0, e, f2⟩ := bindS f0; clear f0
  refine boolO e ?_; clear e
  cases a0
  ·
   have f3 := condF f2; clear f2
   obtain ⟨a1, e, f4⟩ := bindS f3; clear f3
   refine boolO e ?_; clear e
   exact ⟨a1, ⟨rfl, trivial⟩, Option.some.inj f4, H.sel [] rfl⟩
  ·
   have f5 := condT f2; clear f2
   exact ⟨true, ⟨rfl, trivial⟩, Option.some.inj f5, H.sel [] rfl⟩
 ·
  clear f0 H
  rintro T0 s7 w1 ⟨hr, (H : Cx w0 fp0 S0 w1 [])⟩
  subst hr
  cases f1
  exact ⟨_, _, rfl, ⟨rfl, rfl⟩, (H.sel [] rfl).close trivial⟩

theorem impl_isGeneratorValue_c (kind_ : Int) (value_ : Int) (y : Bool) (hF : F_impl_isGeneratorValue kind_ value_ = some y) :
  ConF Tryz.prog 117 #[(.int .i64 kind_), (.int .i64 value_)] [] [] (fun v Γ' => v = (.bool y) ∧ Γ' = []) := by
 intro w0 S0 fp0 hI hS
 have H : Cx w0 fp0 S0 w0 [] := Cx.start hI hS
 clear hI hS
 refine enterC (args := [_, _]) gok Tryz.func117 rfl _ rfl rfl rfl ?_
 refine sq ?_
 obtain ⟨y1, e, hF2⟩ := bindS hF; clear hF
 have ey1 := e; clear e
 refine callF (impl_hasValue_c kind_ y1 ey1) (Γi := []) H trivial ?_; clear H ey1
 rintro _ _ w3 ⟨rfl, rfl⟩ H
 cases y1
 ·
  have hF4 := condF hF2; clear hF2
  obtain ⟨a5, e, hF6⟩ := bindS hF4; clear hF4
  refine boolO e ?_; clear e
  cases hF6
  exact ⟨_, _, rfl, ⟨rfl, rfl⟩, (H.sel [] rfl).close trivial⟩
 ·
  have hF7 := condT hF2; clear hF2
  obtain ⟨y8, e, hF9⟩ := bindS hF7; clear hF7
  have ey8 := e; clear e
  refine callF (impl_within_c value_ 0 96 y8 ey8) (Γi := []) H trivial ?_; clear H ey8
  rintro _ _ w1 ⟨rfl, rfl⟩ H
  cases hF9
  exact ⟨_, _, rfl, ⟨rfl, rfl⟩, (H.sel [] rfl).close trivial⟩

theorem impl_generatorWires_c (kind_ : Int) (y_0 : Int) (y_1 : Int) (hF : F_impl_generatorWires kind_ = some (y_0, y_1)) :
  ConF Tryz.prog 118 #[(.int .i64 kind_)] [] [] (fun v Γ' => v = (.agg #[(.int .i64 y_0), (.int .i64 y_1)]) ∧ Γ' = []) := by
 intro w0 S0 fp0 hI hS
 have H : Cx w0 fp0 S0 w0 [] := Cx.start hI hS
 clear hI hS
 refine enterC (args := [_]) gok Tryz.func118 rfl _ rfl rfl rfl ?_
 refine alloc_ gok rfl H ?_; clear H; intro b2 w1 hx H
 clear hx
 refine build_ (cs := #[(.int .i64 1), (.int .i64 2)]) gok rfl rfl rfl ?_
 refine build_ (cs := #[(.int .i64 1), (.int .i64 0)]) gok rfl rfl rfl ?_
 refine build_ (cs := #[(.int .i64 2), (.int .i64 1)]) gok rfl rfl rfl ?_
 refine build_ (cs := #[(.int .i64 0), (.int .i64 1)]) gok rfl rfl rfl ?_
 refine build_ (cs := #[(.int .i64 1), (.int .i64 1)]) gok rfl rfl rfl ?_
 refine build_ (cs := #[(.int .i64 1), (.int .i64 1)]) gok rfl rfl rfl ?_
 refine buildAr (cs := #[(.int .i64 1), (.int .i64 2), (.int .i64 1), (.int .i64 0), (.int .i64 2), (.int .i64 1), (.int .i64 0), (.int .i64 1), (.int .i64 1), (.int .i64 1), (.int .i64 1), (.int .i64 1)]) gok rfl rfl rfl ?_
 refine alloc_ gok rfl H ?_; clear H; intro b5 w4 hx H
 clear hx
 refine stA gok [(.int .i64 1), (.int .i64 2), (.int .i64 1), (.int .i64 0), (.int .i64 2), (.int .i64 1), (.int .i64 0), (.int .i64 1), (.int .i64 1), (.int .i64 1), (.int .i64 1), (.int .i64 1)] rfl H rfl rfl rfl ?_; clear H; intro w7 H
 refine sq ?_
 obtain ⟨a8, e, hF9⟩ := bindS hF; clear hF
 refine boolO e ?_; clear e
 cases a8
 ·
  have f0 := condF hF9; clear hF9
  obtain ⟨a0, e, f1⟩ := bindS f0; clear f0
  refine arO e ?_; clear e
  obtain ⟨a1, e, f2⟩ := bindS f1; clear f1
  obtain ⟨p0, c0, c1, c2⟩ := H.bxV (s := 2) 0 rfl [(1, 2), (1, 0), (2, 1), (0, 1), (1, 1), (1, 1)] (fun x => [.int .i64 x.1, .int .i64 x.2]) rfl (fun _ => rfl) e; clear e
  obtain ⟨a1_0, a1_1⟩ := a1
  refine idxAr gok rfl rfl c0 c1 ?_; clear c0 c1
  refine loadN [(.int .i64 a1_0), (.int .i64 a1_1)] rfl c2 ?_; clear c2
  refine alloc_ gok rfl H ?_; clear H; intro b0 w2 hx H
  clear hx
  refine stA gok [(.int .i64 a1_0), (.int .i64 a1_1)] rfl H rfl rfl rfl ?_; clear H; intro w3 H
  refine fld gok rfl rfl rfl rfl ?_
  refine load1 (H.bx 0 rfl (j := 1) rfl) ?_
  refine fld gok rfl rfl rfl rfl ?_
  refine load1 (H.bx 0 rfl (j := 0) rfl) ?_
  refine build_ (cs := #[(.int .i64 a1_1), (.int .i64 a1_0)]) gok rfl rfl rfl ?_
  replace H := H.sel [2, 0, 1] rfl
  refine stA gok [(.int .i64 a1_1), (.int .i64 a1_0)] rfl H rfl rfl rfl ?_; clear H; intro w5 H
  refine loadN [(.int .i64 a1_1), (.int .i64 a1_0)] rfl (fun j u hj => H.bx 0 rfl hj) ?_
  cases f2
  exact ⟨_, _, rfl, ⟨rfl, rfl⟩, (H.sel [] rfl).close trivial⟩
 ·
  have f3 := condT hF9; clear hF9
  obtain ⟨a2, e, f4⟩ := bindS f3; clear f3
  refine arO e ?_; clear e
  obtain ⟨a3, e, f5⟩ := bindS f4; clear f4
  obtain ⟨p1, c3, c4, c5⟩ := H.bxV (s := 2) 0 rfl [(1, 2), (1, 0), (2, 1), (0, 1), (1, 1), (1, 1)] (fun x => [.int .i64 x.1, .int .i64 x.2]) rfl (fun _ => rfl) e; clear e
  obtain ⟨a3_0, a3_1⟩ := a3
  refine idxAr gok rfl rfl c3 c4 ?_; clear c3 c4
  refine loadN [(.int .i64 a3_0), (.int .i64 a3_1)] rfl c5 ?_; clear c5
  replace H := H.sel [1, 0] rfl
  refine stA gok [(.int .i64 a3_0), (.int .i64 a3_1)] rfl H rfl rfl rfl ?_; clear H; intro w6 H
  refine loadN [(.int .i64 a3_0), (.int .i64 a3_1)] rfl (fun j u hj => H.bx 0 rfl hj) ?_
  cases f5
  exact ⟨_, _, rfl, ⟨rfl, rfl⟩, (H.sel [] rfl).close trivial⟩

theorem impl_Edge_isEdge_c (e__0 : Int) (e__1 : Int) (e__2 : List Int) (e__2h : Hd) (e__3 : List Int) (e__3h : Hd) (y : Bool) (hF : F_impl_Edge_isEdge (e__0, e__1, e__2, e__3) = some y) :
  ConF Tryz.prog 95 #[(.agg #[(.int .i64 e__0), (.int .i64 e__1), (e__2h).v, (e__3h).v])] [Es (List Int) e__2 e__2h, Es (List Int) e__3 e__3h] [] (fun v Γ' => v = (.bool y) ∧ Γ' = []) := by
 intro w0 S0 fp0 hI hS
 have H : Cx w0 fp0 S0 w0 [Es (List Int) e__2 e__2h, Es (List Int) e__3 e__3h] := Cx.start hI hS
 clear hI hS
 refine enterC (args := [_]) gok Tryz.func95 rfl _ rfl rfl rfl ?_
 refine box_ H ?_; clear H; intro b4 w3 hx H
 clear hx
 refine sq ?_
 obtain ⟨r0, f0, f1⟩ := bindS hF; clear hF
 refine cut (fun (q0 : Bool) => [(1, (.pointer (some ⟨b4, 0, none⟩))), (14, (.bool q0))]) (fun (q0 : Bool) w' => q0 = r0 ∧ Cx w0 fp0 S0 w' [Bx b4 [(.int .i64 e__0), (.int .i64 e__1), (e__2h).v, (e__3h).v], Es (List Int) e__2 e__2h, Es (List Int) e__3 e__3h]) ?_ ?_
 ·
  refine fld gok rfl rfl rfl rfl ?_
  refine load1 (H.bx 0 rfl (j := 0) rfl) ?_
  obtain ⟨y0, e, f2⟩ := bindS f0; clear f0
  have i0 := e; clear e
  refine callF (impl_isGenerator_c e__0 y0 i0) (Γi := []) H trivial ?_; clear H i0
  rintro _ _ w1 ⟨rfl, rfl⟩ H
  obtain ⟨a0, e, f3⟩ := bindS f2; clear f2
  refine boolO e ?_; clear e
  cases a0
  ·
   have f4 := condF f3; clear f3
   refine fld gok rfl rfl rfl rfl ?_
   refine load1 (H.bx 0 rfl (j := 0) rfl) ?_
   refine fld gok rfl rfl rfl rfl ?_
   refine load1 (H.bx 0 rfl (j := 1) rfl) ?_
   obtain ⟨y1, e, f5⟩ := bindS f4; clear f4
   have i1 := e; clear e
   refine callF (impl_isGeneratorValue_c e__0 e__1 y1 i1) (Γi := []) H trivial ?_; clear H i1
   rintro _ _ w2 ⟨rfl, rfl⟩ H
   obtain ⟨a1, e, f6⟩ := bindS f5; clear f5
   refine boolO e ?_; clear e
   exact ⟨a1, ⟨rfl, rfl, trivial⟩, Option.some.inj f6, H.sel [0, 1, 2] rfl⟩
  ·
   have f7 := condT f3; clear f3
   exact ⟨true, ⟨rfl, rfl, trivial⟩, Option.some.inj f7, H.sel [0, 1, 2] rfl⟩
 ·
  clear f0 H
  rintro T0 s0 w4 ⟨hr, (H : Cx w0 fp0 S0 w4 [Bx b4 [(.int .i64 e__0), (.int .i64 e__1), (e__2h).v, (e__3h).v], Es (List Int) e__2 e__2h, Es (List Int) e__3 e__3h])⟩
  subst hr
  cases s0
  ·
   have f8 := condF f1; clear f1
   refine heldX H [] (.fst 0 (.fst 3 (.fst 6 (.fst 1 (.fst 4 (.fst 5 (.fst 7 (.fst 8 (.fst 9 (.act 2 (.act 10 (.fst 11 .done)))))))))))) mixed [] trivial (by kernel_rfl) ?_
   clear H; intro w5 H
   have hX : Ext w5 w5 := Upd.refl _ _
   have H0 := H
   refine anyH (fun _ => fld gok rfl rfl rfl rfl ⟨rfl, rfl⟩) ?_
   refine anyH (fun _ => fld gok rfl rfl rfl rfl ⟨rfl, rfl⟩) ?_
   refine anyH (fun _ => fld gok rfl rfl rfl rfl ⟨rfl, rfl⟩) ?_
   refine load1X (H.bx 0 rfl (j := 0) rfl) ?_
   refine load1X (H.bx 0 rfl (j := 2) rfl) ?_
   refine lenE (H.rs (α := List Int) 1 rfl).len ?_
   refine load1X (H.bx 0 rfl (j := 3) rfl) ?_
   refine lenE (H.rs (α := List Int) 2 rfl).len ?_
   refine anyH (fun _ => build_ (cs := #[(.int .i64 ((e__2.length : Nat) : Int)), (.int .i64 ((e__3.length : Nat) : Int))]) gok rfl rfl rfl ⟨rfl, rfl⟩) ?_
   obtain ⟨y2, e, f9⟩ := bindS f8; clear f8
   obtain ⟨y2_0, y2_1⟩ := y2
   have i2 := e; clear e
   refine callFx (impl_generatorWires_c e__0 y2_0 y2_1 i2) H trivial ?_; clear H i2
   rintro _ _ w6 ⟨rfl, rfl⟩ hx H
   replace hX := hX.trans0 hx; clear hx
   refine hold hX ?_
   obtain ⟨a2, e, f10⟩ := bindS f9; clear f9
   refine eqA gok rfl Tryz.underlying148 (by kernel_rfl) (by kernel_rfl) (by kernel_rfl) (by refine ⟨rfl, ⟨_, _, rfl⟩, rfl, ⟨_, _, rfl⟩, trivial⟩) (ls := [y2_0, y2_1]) (bs := [((e__2.length : Nat) : Int), ((e__3.length : Nat) : Int)]) rfl rfl rfl rfl e ?_; clear e
   refine hold hX ?_
   cases f10
   exact ⟨_, _, rfl, ⟨rfl, rfl⟩, (H.sel [] rfl).close trivial⟩
  ·
   have f11 := condT f1; clear f1
   cases f11
   exact ⟨_, _, rfl, ⟨rfl, rfl⟩, (H.sel [] rfl).close trivial⟩

theorem impl_Graph_isGraph_1_c (list_ : List Int) (list_h : Hd) (c0_b : Nat) (c0__0 : Int) (c0__1 : List (Int × Int × List Int × List Int)) (c0__1h : Hd) (c0__2 : List Int) (c0__2h : Hd) (c0__3 : List Int) (c0__3h : Hd) (c1_b : Nat) (c1_ : Bool) (c2_b : Nat) (c2_ : List Bool) (c2_h : Hd) (c3_b : Nat) (c3_ : Int) (y0 : Bool) (y1 : List Bool) (y2 : Int) (hF : F_impl_Graph_isGraph_1 list_ (c0__0, c0__1, c0__2, c0__3) c1_ c2_ c3_ = some (y0, y1, y2)) :
  ConF Tryz.prog 97 #[(list_h).v, (.pointer (some ⟨c0_b, 0, none⟩)), (.pointer (some ⟨c1_b, 0, none⟩)), (.pointer (some ⟨c2_b, 0, none⟩)), (.pointer (some ⟨c3_b, 0, none⟩))] [Es (List Int) list_ list_h, Es (List (Int × Int × List Int × List Int)) c0__1 c0__1h, Es (List Int) c0__2 c0__2h, Es (List Int) c0__3 c0__3h] [Bx c0_b [(.int .i64 c0__0), (c0__1h).v, (c0__2h).v, (c0__3h).v], Bx c1_b [(.bool c1_)], Bx c2_b [(c2_h).v], E (List Bool) c2_ c2_h, Bx c3_b [(.int .i64 c3_)]] (fun v Γ' => v = (.tuple #[]) ∧ Γ' = [Bx c0_b [(.int .i64 c0__0), (c0__1h).v, (c0__2h).v, (c0__3h).v], Bx c1_b [(.bool y0)], Bx c2_b [(c2_h).v], E (List Bool) y1 c2_h, Bx c3_b [(.int .i64 y2)]]) := by
 intro w0 S0 fp0 hI hS
 have H : Cx w0 fp0 S0 w0 [Es (List Int) list_ list_h, Es (List (Int × Int × List Int × List Int)) c0__1 c0__1h, Es (List Int) c0__2 c0__2h, Es (List Int) c0__3 c0__3h, Bx c0_b [(.int .i64 c0__0), (c0__1h).v, (c0__2h).v, (c0__3h).v], Bx c1_b [(.bool c1_)], Bx c2_b [(c2_h).v], E (List Bool) c2_ c2_h, Bx c3_b [(.int .i64 c3_)]] := Cx.start hI hS
 clear hI hS
 refine enterC (args := [_, _, _, _, _]) gok Tryz.func97 rfl _ rfl rfl rfl ?_
 refine lenE (H.rs (α := List Int) 0 rfl).len ?_
 have x0 := (H.rs (α := List Int) 0 rfl).max
 obtain ⟨r0, e, f0⟩ := bindS hF; clear hF
 refine loopS _ list_.length (fun (k0 : Nat) (s0 : Bool × Int × List Bool) (_ : Unit) => [(1, (.pointer (some ⟨c0_b, 0, none⟩))), (2, (.pointer (some ⟨c1_b, 0, none⟩))), (3, (.pointer (some ⟨c2_b, 0, none⟩))), (4, (.pointer (some ⟨c3_b, 0, none⟩))), (8, (list_h).v), (9, (.int .i64 ((list_.length : Nat) : Int))), (10, (.int .i64 ((k0 : Nat) : Int)))]) (fun _ (s0 : Bool × Int × List Bool) (_ : Unit) w' => Cx w0 fp0 S0 w' [Bx c0_b [(.int .i64 c0__0), (c0__1h).v, (c0__2h).v, (c0__3h).v], Es (List (Int × Int × List Int × List Int)) c0__1 c0__1h, Es (List Int) c0__2 c0__2h, Es (List Int) c0__3 c0__3h, Bx c1_b [(.bool s0.1)], Bx c2_b [(c2_h).v], E (List Bool) s0.2.2 c2_h, Bx c3_b [(.int .i64 s0.2.1)], Es (List Int) list_ list_h]) (c1_, c3_, c2_) () e ⟨rfl, rfl, rfl, rfl, rfl, rfl, rfl, trivial⟩ (H.sel [4, 1, 2, 3, 5, 6, 7, 8, 0] rfl) ?_ ?_
 ·
  clear H e
  rintro T0 k0 ⟨s0_0, s0_1, s0_2⟩ _ w1 o0 hk (H : Cx w0 fp0 S0 w1 [Bx c0_b [(.int .i64 c0__0), (c0__1h).v, (c0__2h).v, (c0__3h).v], Es (List (Int × Int × List Int × List Int)) c0__1 c0__1h, Es (List Int) c0__2 c0__2h, Es (List Int) c0__3 c0__3h, Bx c1_b [(.bool s0_0)], Bx c2_b [(c2_h).v], E (List Bool) s0_2 c2_h, Bx c3_b [(.int .i64 s0_1)], Es (List Int) list_ list_h]) f1
  refine boolE (z := true) (ltLen hk) ?_
  refine sq ?_
  obtain ⟨r1, f2, f3⟩ := bindS f1; clear f1
  refine cut (fun (q0 : Bool × Int × List Bool) => [(1, (.pointer (some ⟨c0_b, 0, none⟩))), (2, (.pointer (some ⟨c1_b, 0, none⟩))), (3, (.pointer (some ⟨c2_b, 0, none⟩))), (4, (.pointer (some ⟨c3_b, 0, none⟩))), (8, (list_h).v), (9, (.int .i64 ((list_.length : Nat) : Int))), (10, (.int .i64 ((k0 : Nat) : Int)))]) (fun (q0 : Bool × Int × List Bool) w' => (q0.1, q0.2.1, q0.2.2) = r1 ∧ Cx w0 fp0 S0 w' [Bx c0_b [(.int .i64 c0__0), (c0__1h).v, (c0__2h).v, (c0__3h).v], Es (List (Int × Int × List Int × List Int)) c0__1 c0__1h, Es (List Int) c0__2 c0__2h, Es (List Int) c0__3 c0__3h, Bx c1_b [(.bool q0.1)], Bx c2_b [(c2_h).v], E (List Bool) q0.2.2 c2_h, Bx c3_b [(.int .i64 q0.2.1)], Es (List Int) list_ list_h]) ?_ ?_
  ·
   obtain ⟨a0, e, f4⟩ := bindS f2; clear f2
   obtain ⟨p0, m0, c0, c1, c2, c3⟩ := (H.rs (α := List Int) 8 rfl).at1 e; clear e
   refine idxE c0 c1 c2 ?_; clear c0 c1 c2
   refine load1 c3 ?_; clear c3
   refine sq ?_
   refine fld gok rfl rfl rfl rfl ?_
   refine load1 (H.bx 0 rfl (j := 0) rfl) ?_
   obtain ⟨a1, e, f5⟩ := bindS f4; clear f4
   refine arO e ?_; clear e
   obtain ⟨y3, e, f6⟩ := bindS f5; clear f5
   have i0 := e; clear e
   refine callF (impl_within_c a0 0 a1 y3 i0) (Γi := []) H trivial ?_; clear H i0
   rintro _ _ w2 ⟨rfl, rfl⟩ H
   obtain ⟨a2, e, f7⟩ := bindS f6; clear f6
   refine boolO e ?_; clear e
   cases a2
   ·
    have f8 := condF f7; clear f7
    refine load1 (H.bx0 5 rfl) ?_
    obtain ⟨a3, e, f9⟩ := bindS f8; clear f8
    obtain ⟨p1, m1, c4, c5, c6, c7⟩ := (H.ro (α := List Bool) 6 rfl).at1 e; clear e
    refine idxE c4 c5 c6 ?_; clear c4 c5 c6
    refine load1 c7 ?_; clear c7
    obtain ⟨a4, e, f10⟩ := bindS f9; clear f9
    refine boolO e ?_; clear e
    cases a4
    ·
     have f11 := condF f10; clear f10
     exact ⟨(s0_0, s0_1, s0_2), ⟨rfl, rfl, rfl, rfl, rfl, rfl, rfl, trivial⟩, Option.some.inj f11, H.sel [0, 1, 2, 3, 4, 5, 6, 7, 8] rfl⟩
    ·
     have f12 := condT f10; clear f10
     refine load1 (H.bx0 5 rfl) ?_
     obtain ⟨a5, e, f13⟩ := bindS f12; clear f12
     have i1 := e; clear e
     obtain ⟨p2, m2, c8, c9, c10⟩ := (H.ro (α := List Bool) 6 rfl).setp i1
     refine idxE c8 c9 c10 ?_
     replace H := H.sel [6, 0, 1, 2, 3, 4, 5, 7, 8] rfl
     refine setS (α := Bool) H c8 c9 i1 ?_; clear H c8 c9 c10 i1; intro w3 H
     refine load1 (H.bx0 7 rfl) ?_
     obtain ⟨a6, e, f14⟩ := bindS f13; clear f13
     refine arO e ?_; clear e
     replace H := H.sel [7, 0, 1, 2, 3, 4, 5, 6, 8] rfl
     refine stB0 H rfl ?_; clear H; intro w4 H
     exact ⟨(s0_0, a6, a5), ⟨rfl, rfl, rfl, rfl, rfl, rfl, rfl, trivial⟩, Option.some.inj f14, H.sel [2, 3, 4, 5, 6, 7, 1, 0, 8] rfl⟩
   ·
    have f15 := condT f7; clear f7
    replace H := H.sel [4, 0, 1, 2, 3, 5, 6, 7, 8] rfl
    refine stB0 H rfl ?_; clear H; intro w5 H
    exact ⟨(false, s0_1, s0_2), ⟨rfl, rfl, rfl, rfl, rfl, rfl, rfl, trivial⟩, Option.some.inj f15, H.sel [1, 2, 3, 4, 0, 5, 6, 7, 8] rfl⟩
  ·
   clear f2 H
   rintro T1 ⟨s1_0, s1_1, s1_2⟩ w6 ⟨hr, (H : Cx w0 fp0 S0 w6 [Bx c0_b [(.int .i64 c0__0), (c0__1h).v, (c0__2h).v, (c0__3h).v], Es (List (Int × Int × List Int × List Int)) c0__1 c0__1h, Es (List Int) c0__2 c0__2h, Es (List Int) c0__3 c0__3h, Bx c1_b [(.bool s1_0)], Bx c2_b [(c2_h).v], E (List Bool) s1_2 c2_h, Bx c3_b [(.int .i64 s1_1)], Es (List Int) list_ list_h])⟩
   subst hr
   refine arK hk x0 ?_
   have hs := Option.some.inj f3; subst hs; clear f3
   exact ⟨(), ⟨rfl, rfl, rfl, rfl, rfl, rfl, rfl, trivial⟩, H.sel [0, 1, 2, 3, 4, 5, 6, 7, 8] rfl⟩
 ·
  clear H e
  obtain ⟨s2_0, s2_1, s2_2⟩ := r0
  rintro T2 _ w7 (H : Cx w0 fp0 S0 w7 [Bx c0_b [(.int .i64 c0__0), (c0__1h).v, (c0__2h).v, (c0__3h).v], Es (List (Int × Int × List Int × List Int)) c0__1 c0__1h, Es (List Int) c0__2 c0__2h, Es (List Int) c0__3 c0__3h, Bx c1_b [(.bool s2_0)], Bx c2_b [(c2_h).v], E (List Bool) s2_2 c2_h, Bx c3_b [(.int .i64 s2_1)], Es (List Int) list_ list_h])
  refine boolE (z := false) geLen ?_
  refine sq ?_
  cases f0
  exact ⟨_, _, rfl, ⟨rfl, rfl⟩, (H.sel [0, 4, 5, 6, 7] rfl).close ⟨cloB, cloB, cloB, cloE, cloB, trivial⟩⟩

theorem impl_Graph_lists_impl_Graph_isGraph_1_c (g__0 : Int) (g__1 : List (Int × Int × List Int × List Int)) (g__1h : Hd) (g__2 : List Int) (g__2h : Hd) (g__3 : List Int) (g__3h : Hd) (d0_b : Nat) (d0__0 : Int) (d0__1 : List (Int × Int × List Int × List Int)) (d0__1h : Hd) (d0__2 : List Int) (d0__2h : Hd) (d0__3 : List Int) (d0__3h : Hd) (d1_b : Nat) (d1_ : Bool) (d2_b : Nat) (d2_ : List Bool) (d2_h : Hd) (d3_b : Nat) (d3_ : Int) (y0 : Bool) (y1 : List Bool) (y2 : Int) (hF : F_impl_Graph_lists_impl_Graph_isGraph_1 (g__0, g__1, g__2, g__3) (d0__0, d0__1, d0__2, d0__3) d1_ d2_ d3_ = some (y0, y1, y2)) :
  ConF Tryz.prog 96 #[(.agg #[(.int .i64 g__0), (g__1h).v, (g__2h).v, (g__3h).v]), (.func (.func 97) #[] #[(.pointer (some ⟨d0_b, 0, none⟩)), (.pointer (some ⟨d1_b, 0, none⟩)), (.pointer (some ⟨d2_b, 0, none⟩)), (.pointer (some ⟨d3_b, 0, none⟩))])] [Es (List (Int × Int × List Int × List Int)) g__1 g__1h, Es (List Int) g__2 g__2h, Es (List Int) g__3 g__3h, Es (List (Int × Int × List Int × List Int)) d0__1 d0__1h, Es (List Int) d0__2 d0__2h, Es (List Int) d0__3 d0__3h] [Bx d0_b [(.int .i64 d0__0), (d0__1h).v, (d0__2h).v, (d0__3h).v], Bx d1_b [(.bool d1_)], Bx d2_b [(d2_h).v], E (List Bool) d2_ d2_h, Bx d3_b [(.int .i64 d3_)]] (fun v Γ' => v = (.tuple #[]) ∧ Γ' = [Bx d0_b [(.int .i64 d0__0), (d0__1h).v, (d0__2h).v, (d0__3h).v], Bx d1_b [(.bool y0)], Bx d2_b [(d2_h).v], E (List Bool) y1 d2_h, Bx d3_b [(.int .i64 y2)]]) := by
 intro w0 S0 fp0 hI hS
 have H : Cx w0 fp0 S0 w0 [Es (List (Int × Int × List Int × List Int)) g__1 g__1h, Es (List Int) g__2 g__2h, Es (List Int) g__3 g__3h, Es (List (Int × Int × List Int × List Int)) d0__1 d0__1h, Es (List Int) d0__2 d0__2h, Es (List Int) d0__3 d0__3h, Bx d0_b [(.int .i64 d0__0), (d0__1h).v, (d0__2h).v, (d0__3h).v], Bx d1_b [(.bool d1_)], Bx d2_b [(d2_h).v], E (List Bool) d2_ d2_h, Bx d3_b [(.int .i64 d3_)]] := Cx.start hI hS
 clear hI hS
 refine enterC (args := [_, _]) gok Tryz.func96 rfl _ rfl rfl rfl ?_
 refine box_ H ?_; clear H; intro b0 w1 hx H
 clear hx
 refine fld gok rfl rfl rfl rfl ?_
 refine load1 (H.bx 0 rfl (j := 2) rfl) ?_
 obtain ⟨y3, e, f0⟩ := bindS hF; clear hF
 obtain ⟨y3_0, y3_1, y3_2⟩ := y3
 have i0 := e; clear e
 replace H := H.sel [7, 8, 9, 10, 11, 0, 1, 2, 3, 4, 5, 6] rfl
 refine callF (impl_Graph_isGraph_1_c g__2 g__2h d0_b d0__0 d0__1 d0__1h d0__2 d0__2h d0__3 d0__3h d1_b d1_ d2_b d2_ d2_h d3_b d3_ y3_0 y3_1 y3_2 i0) (Γi := [Bx d0_b [(.int .i64 d0__0), (d0__1h).v, (d0__2h).v, (d0__3h).v], Bx d1_b [(.bool d1_)], Bx d2_b [(d2_h).v], E (List Bool) d2_ d2_h, Bx d3_b [(.int .i64 d3_)]]) H ⟨Vw.sh 2 rfl, Vw.sh 4 rfl, Vw.sh 5 rfl, Vw.sh 6 rfl, trivial⟩ ?_; clear H i0
 rintro _ _ w2 ⟨rfl, rfl⟩ H
 refine fld gok rfl rfl rfl rfl ?_
 refine load1 (H.bx 5 rfl (j := 3) rfl) ?_
 obtain ⟨y4, e, f1⟩ := bindS f0; clear f0
 obtain ⟨y4_0, y4_1, y4_2⟩ := y4
 have i1 := e; clear e
 refine callF (impl_Graph_isGraph_1_c g__3 g__3h d0_b d0__0 d0__1 d0__1h d0__2 d0__2h d0__3 d0__3h d1_b y3_0 d2_b y3_1 d2_h d3_b y3_2 y4_0 y4_1 y4_2 i1) (Γi := [Bx d0_b [(.int .i64 d0__0), (d0__1h).v, (d0__2h).v, (d0__3h).v], Bx d1_b [(.bool y3_0)], Bx d2_b [(d2_h).v], E (List Bool) y3_1 d2_h, Bx d3_b [(.int .i64 y3_2)]]) H ⟨Vw.sh 3 rfl, Vw.sh 4 rfl, Vw.sh 5 rfl, Vw.sh 6 rfl, trivial⟩ ?_; clear H i1
 rintro _ _ w3 ⟨rfl, rfl⟩ H
 refine fld gok rfl rfl rfl rfl ?_
 refine load1 (H.bx 5 rfl (j := 1) rfl) ?_
 refine lenE (H.rs (α := List (Int × Int × List Int × List Int)) 6 rfl).len ?_
 have x0 := (H.rs (α := List (Int × Int × List Int × List Int)) 6 rfl).max
 obtain ⟨r0, e, f2⟩ := bindS f1; clear f1
 refine loopS _ g__1.length (fun (k0 : Nat) (s0 : Int × Bool × List Bool) (_ : Unit) => [(1, (.func (.func 97) #[] #[(.pointer (some ⟨d0_b, 0, none⟩)), (.pointer (some ⟨d1_b, 0, none⟩)), (.pointer (some ⟨d2_b, 0, none⟩)), (.pointer (some ⟨d3_b, 0, none⟩))])), (15, (g__1h).v), (16, (.int .i64 ((g__1.length : Nat) : Int))), (17, (.int .i64 ((k0 : Nat) : Int)))]) (fun _ (s0 : Int × Bool × List Bool) (_ : Unit) w' => Cx w0 fp0 S0 w' [Bx d0_b [(.int .i64 d0__0), (d0__1h).v, (d0__2h).v, (d0__3h).v], Es (List (Int × Int × List Int × List Int)) d0__1 d0__1h, Es (List Int) d0__2 d0__2h, Es (List Int) d0__3 d0__3h, Bx d1_b [(.bool s0.2.1)], Bx d2_b [(d2_h).v], E (List Bool) s0.2.2 d2_h, Bx d3_b [(.int .i64 s0.1)], Es (List (Int × Int × List Int × List Int)) g__1 g__1h]) (y4_2, y4_0, y4_1) () e ⟨rfl, rfl, rfl, rfl, trivial⟩ (H.sel [0, 9, 10, 11, 1, 2, 3, 4, 6] rfl) ?_ ?_
 ·
  clear H e
  rintro T0 k0 ⟨s0_0, s0_1, s0_2⟩ _ w4 o0 hk (H : Cx w0 fp0 S0 w4 [Bx d0_b [(.int .i64 d0__0), (d0__1h).v, (d0__2h).v, (d0__3h).v], Es (List (Int × Int × List Int × List Int)) d0__1 d0__1h, Es (List Int) d0__2 d0__2h, Es (List Int) d0__3 d0__3h, Bx d1_b [(.bool s0_1)], Bx d2_b [(d2_h).v], E (List Bool) s0_2 d2_h, Bx d3_b [(.int .i64 s0_0)], Es (List (Int × Int × List Int × List Int)) g__1 g__1h]) f3
  refine boolE (z := true) (ltLen hk) ?_
  refine sq ?_
  refine sq ?_
  obtain ⟨a0, e, f4⟩ := bindS f3; clear f3
  have HH := H; clear H; obtain ⟨p0, m0, g0, c0, c1, c2, c3, H⟩ := HH.el (α := Int × Int × List Int × List Int) 8 rfl e; clear HH
  clear e
  obtain ⟨a0_0, a0_1, a0_2, a0_3⟩ := a0
  obtain ⟨_, _, h0, h1⟩ := g0
  replace H := H.part (β := List Int) a0_2 (h0 : Hd) 0 rfl (fun S h => (And.left (And.right (And.right h))))
  replace H := H.part (β := List Int) a0_3 (h1 : Hd) 1 rfl (fun S h => (And.right (And.right (And.right h))))
  replace H := H.sel [0, 1, 3, 4, 5, 6, 7, 8, 9, 10, 11] rfl
  refine idxE c0 c1 c2 ?_; clear c0 c1 c2
  refine loadN [(.int .i64 a0_0), (.int .i64 a0_1), (h0).v, (h1).v] rfl c3 ?_; clear c3
  refine alloc_ gok rfl H ?_; clear H; intro b1 w5 hx H
  clear hx
  refine stA gok [(.int .i64 a0_0), (.int .i64 a0_1), (h0).v, (h1).v] rfl H rfl rfl rfl ?_; clear H; intro w6 H
  refine fld gok rfl rfl rfl rfl ?_
  refine load1 (H.bx 0 rfl (j := 2) rfl) ?_
  obtain ⟨y5, e, f5⟩ := bindS f4; clear f4
  obtain ⟨y5_0, y5_1, y5_2⟩ := y5
  have i2 := e; clear e
  replace H := H.sel [3, 7, 8, 9, 10, 0, 1, 2, 4, 5, 6, 11] rfl
  refine callF (impl_Graph_isGraph_1_c a0_2 h0 d0_b d0__0 d0__1 d0__1h d0__2 d0__2h d0__3 d0__3h d1_b s0_1 d2_b s0_2 d2_h d3_b s0_0 y5_0 y5_1 y5_2 i2) (Γi := [Bx d0_b [(.int .i64 d0__0), (d0__1h).v, (d0__2h).v, (d0__3h).v], Bx d1_b [(.bool s0_1)], Bx d2_b [(d2_h).v], E (List Bool) s0_2 d2_h, Bx d3_b [(.int .i64 s0_0)]]) H ⟨Vw.sh 2 rfl, Vw.sh 3 rfl, Vw.sh 4 rfl, Vw.sh 5 rfl, trivial⟩ ?_; clear H i2
  rintro _ _ w7 ⟨rfl, rfl⟩ H
  refine fld gok rfl rfl rfl rfl ?_
  refine load1 (H.bx 5 rfl (j := 3) rfl) ?_
  obtain ⟨y6, e, f6⟩ := bindS f5; clear f5
  obtain ⟨y6_0, y6_1, y6_2⟩ := y6
  have i3 := e; clear e
  refine callF (impl_Graph_isGraph_1_c a0_3 h1 d0_b d0__0 d0__1 d0__1h d0__2 d0__2h d0__3 d0__3h d1_b y5_0 d2_b y5_1 d2_h d3_b y5_2 y6_0 y6_1 y6_2 i3) (Γi := [Bx d0_b [(.int .i64 d0__0), (d0__1h).v, (d0__2h).v, (d0__3h).v], Bx d1_b [(.bool y5_0)], Bx d2_b [(d2_h).v], E (List Bool) y5_1 d2_h, Bx d3_b [(.int .i64 y5_2)]]) H ⟨Vw.sh 1 rfl, Vw.sh 3 rfl, Vw.sh 4 rfl, Vw.sh 5 rfl, trivial⟩ ?_; clear H i3
  rintro _ _ w8 ⟨rfl, rfl⟩ H
  refine arK hk x0 ?_
  have hs := Option.some.inj f6; subst hs; clear f6
  exact ⟨(), ⟨rfl, rfl, rfl, rfl, trivial⟩, H.sel [0, 8, 9, 10, 1, 2, 3, 4, 11] rfl⟩
 ·
  clear H e
  obtain ⟨s1_0, s1_1, s1_2⟩ := r0
  rintro T1 _ w9 (H : Cx w0 fp0 S0 w9 [Bx d0_b [(.int .i64 d0__0), (d0__1h).v, (d0__2h).v, (d0__3h).v], Es (List (Int × Int × List Int × List Int)) d0__1 d0__1h, Es (List Int) d0__2 d0__2h, Es (List Int) d0__3 d0__3h, Bx d1_b [(.bool s1_1)], Bx d2_b [(d2_h).v], E (List Bool) s1_2 d2_h, Bx d3_b [(.int .i64 s1_0)], Es (List (Int × Int × List Int × List Int)) g__1 g__1h])
  refine boolE (z := false) geLen ?_
  refine sq ?_
  cases f2
  exact ⟨_, _, rfl, ⟨rfl, rfl⟩, (H.sel [0, 4, 5, 6, 7] rfl).close ⟨cloB, cloB, cloB, cloE, cloB, trivial⟩⟩

theorem impl_Graph_isGraph_c (g__0 : Int) (g__1 : List (Int × Int × List Int × List Int)) (g__1h : Hd) (g__2 : List Int) (g__2h : Hd) (g__3 : List Int) (g__3h : Hd) (y : Bool) (hF : F_impl_Graph_isGraph (g__0, g__1, g__2, g__3) = some y) :
  ConF Tryz.prog 79 #[(.agg #[(.int .i64 g__0), (g__1h).v, (g__2h).v, (g__3h).v])] [Es (List (Int × Int × List Int × List Int)) g__1 g__1h, Es (List Int) g__2 g__2h, Es (List Int) g__3 g__3h] [] (fun v Γ' => v = (.bool y) ∧ Γ' = []) := by
 intro w0 S0 fp0 hI hS
 have H : Cx w0 fp0 S0 w0 [Es (List (Int × Int × List Int × List Int)) g__1 g__1h, Es (List Int) g__2 g__2h, Es (List Int) g__3 g__3h] := Cx.start hI hS
 clear hI hS
 refine enterC (args := [_]) gok Tryz.func79 rfl _ rfl rfl rfl ?_
 refine box_ H ?_; clear H; intro b5 w4 hx H
 clear hx
 refine sq ?_
 obtain ⟨r0, f0, f1⟩ := bindS hF; clear hF
 refine cut (fun (q0 : Bool) => [(1, (.pointer (some ⟨b5, 0, none⟩))), (29, (.bool q0))]) (fun (q0 : Bool) w' => q0 = r0 ∧ Cx w0 fp0 S0 w' [Bx b5 [(.int .i64 g__0), (g__1h).v, (g__2h).v, (g__3h).v], Es (List (Int × Int × List Int × List Int)) g__1 g__1h, Es (List Int) g__2 g__2h, Es (List Int) g__3 g__3h]) ?_ ?_
 ·
  refine fld gok rfl rfl rfl rfl ?_
  refine load1 (H.bx 0 rfl (j := 0) rfl) ?_
  obtain ⟨y0, e, f2⟩ := bindS f0; clear f0
  have i0 := e; clear e
  refine callF (impl_within_c g__0 0 100 y0 i0) (Γi := []) H trivial ?_; clear H i0
  rintro _ _ w1 ⟨rfl, rfl⟩ H
  obtain ⟨a0, e, f3⟩ := bindS f2; clear f2
  refine boolO e ?_; clear e
  cases a0
  ·
   have f4 := condF f3; clear f3
   refine fld gok rfl rfl rfl rfl ?_
   refine load1 (H.bx 0 rfl (j := 1) rfl) ?_
   refine lenE (H.rs (α := List (Int × Int × List Int × List Int)) 1 rfl).len ?_
   obtain ⟨a1, e, f5⟩ := bindS f4; clear f4
   refine boolO e ?_; clear e
   cases a1
   ·
    have f6 := condF f5; clear f5
    refine fld gok rfl rfl rfl rfl ?_
    refine load1 (H.bx 0 rfl (j := 2) rfl) ?_
    refine lenE (H.rs (α := List Int) 2 rfl).len ?_
    obtain ⟨a2, e, f7⟩ := bindS f6; clear f6
    refine boolO e ?_; clear e
    cases a2
    ·
     have f8 := condF f7; clear f7
     refine fld gok rfl rfl rfl rfl ?_
     refine load1 (H.bx 0 rfl (j := 3) rfl) ?_
     refine lenE (H.rs (α := List Int) 3 rfl).len ?_
     obtain ⟨a3, e, f9⟩ := bindS f8; clear f8
     refine boolO e ?_; clear e
     exact ⟨a3, ⟨rfl, rfl, trivial⟩, Option.some.inj f9, H.sel [0, 1, 2, 3] rfl⟩
    ·
     have f10 := condT f7; clear f7
     exact ⟨true, ⟨rfl, rfl, trivial⟩, Option.some.inj f10, H.sel [0, 1, 2, 3] rfl⟩
   ·
    have f11 := condT f5; clear f5
    exact ⟨true, ⟨rfl, rfl, trivial⟩, Option.some.inj f11, H.sel [0, 1, 2, 3] rfl⟩
  ·
   have f12 := condT f3; clear f3
   exact ⟨true, ⟨rfl, rfl, trivial⟩, Option.some.inj f12, H.sel [0, 1, 2, 3] rfl⟩
 ·
  clear f0 H
  rintro T0 s0 w2 ⟨hr, (H : Cx w0 fp0 S0 w2 [Bx b5 [(.int .i64 g__0), (g__1h).v, (g__2h).v, (g__3h).v], Es (List (Int × Int × List Int × List Int)) g__1 g__1h, Es (List Int) g__2 g__2h, Es (List Int) g__3 g__3h])⟩
  subst hr
  cases s0
  ·
   have f13 := condF f1; clear f1
   refine sq ?_
   refine fld gok rfl rfl rfl rfl ?_
   refine load1 (H.bx 0 rfl (j := 1) rfl) ?_
   refine lenE (H.rs (α := List (Int × Int × List Int × List Int)) 1 rfl).len ?_
   have x0 := (H.rs (α := List (Int × Int × List Int × List Int)) 1 rfl).max
   obtain ⟨r1, e, f14⟩ := bindS f13; clear f13
   refine loopO _ g__1.length (fun (k0 : Nat) (_ : Unit) (_ : Unit) => [(1, (.pointer (some ⟨b5, 0, none⟩))), (31, (g__1h).v), (32, (.int .i64 ((g__1.length : Nat) : Int))), (33, (.int .i64 ((k0 : Nat) : Int)))]) (fun _ (_ : Unit) (_ : Unit) w' => Cx w0 fp0 S0 w' [Bx b5 [(.int .i64 g__0), (g__1h).v, (g__2h).v, (g__3h).v], Es (List (Int × Int × List Int × List Int)) g__1 g__1h, Es (List Int) g__2 g__2h, Es (List Int) g__3 g__3h]) () () e ⟨rfl, rfl, rfl, rfl, trivial⟩ (H.sel [0, 1, 2, 3] rfl) ?_ ?_
   ·
    clear H e
    rintro T1 k0 _ _ w3 o0 hk (H : Cx w0 fp0 S0 w3 [Bx b5 [(.int .i64 g__0), (g__1h).v, (g__2h).v, (g__3h).v], Es (List (Int × Int × List Int × List Int)) g__1 g__1h, Es (List Int) g__2 g__2h, Es (List Int) g__3 g__3h]) hrt f15
    refine boolE (z := true) (ltLen hk) ?_
    refine sq ?_
    refine sq ?_
    obtain ⟨a4, e, f16⟩ := bindS f15; clear f15
    have HH := H; clear H; obtain ⟨p0, m0, g0, c0, c1, c2, c3, H⟩ := HH.el (α := Int × Int × List Int × List Int) 1 rfl e; clear HH
    clear e
    obtain ⟨a4_0, a4_1, a4_2, a4_3⟩ := a4
    obtain ⟨_, _, h0, h1⟩ := g0
    replace H := H.part (β := List Int) a4_2 (h0 : Hd) 0 rfl (fun S h => (And.left (And.right (And.right h))))
    replace H := H.part (β := List Int) a4_3 (h1 : Hd) 1 rfl (fun S h => (And.right (And.right (And.right h))))
    replace H := H.sel [0, 1, 3, 4, 5, 6] rfl
    refine idxE c0 c1 c2 ?_; clear c0 c1 c2
    refine loadN [(.int .i64 a4_0), (.int .i64 a4_1), (h0).v, (h1).v] rfl c3 ?_; clear c3
    refine alloc_ gok rfl H ?_; clear H; intro b0 w5 hx H
    clear hx
    refine stA gok [(.int .i64 a4_0), (.int .i64 a4_1), (h0).v, (h1).v] rfl H rfl rfl rfl ?_; clear H; intro w6 H
    refine loadN [(.int .i64 a4_0), (.int .i64 a4_1), (h0).v, (h1).v] rfl (fun j u hj => H.bx 0 rfl hj) ?_
    obtain ⟨y1, e, f17⟩ := bindS f16; clear f16
    have i1 := e; clear e
    refine callF (impl_Edge_isEdge_c a4_0 a4_1 a4_2 h0 a4_3 h1 y1 i1) (Γi := []) H ⟨Vw.sh 2 rfl, Vw.sh 1 rfl, trivial⟩ ?_; clear H i1
    rintro _ _ w7 ⟨rfl, rfl⟩ H
    obtain ⟨a5, e, f18⟩ := bindS f17; clear f17
    refine boolO e ?_; clear e
    cases a5
    ·
     have f19 := condF f18; clear f18
     refine arK hk x0 ?_
     have hs := Option.some.inj f19; subst hs; clear f19
     exact ⟨(), (), rfl, ⟨rfl, rfl, rfl, rfl, trivial⟩, H.sel [3, 4, 5, 6] rfl⟩
    ·
     have f20 := condT f18; clear f18
     have hs := Option.some.inj f20; subst hs; clear f20
     have hr := hrt _ rfl; subst hr
     have f21 : some _ = some _ := f14
     cases f21
     exact ⟨_, _, rfl, ⟨rfl, rfl⟩, (H.sel [] rfl).close trivial⟩
   ·
    clear H e
    rintro T2 _ _ w8 hr (H : Cx w0 fp0 S0 w8 [Bx b5 [(.int .i64 g__0), (g__1h).v, (g__2h).v, (g__3h).v], Es (List (Int × Int × List Int × List Int)) g__1 g__1h, Es (List Int) g__2 g__2h, Es (List Int) g__3 g__3h])
    subst hr
    refine boolE (z := false) geLen ?_
    refine sq ?_
    refine fld gok rfl rfl rfl rfl ?_
    refine load1 (H.bx 0 rfl (j := 0) rfl) ?_
    obtain ⟨a6, e, f22⟩ := bindS f14; clear f14
    refine make_ (α := Bool) gok rfl rfl rfl rfl (makeCO_of e) H ?_; clear e H; intro h2 w9 hx H
    clear hx
    refine alloc_ gok rfl H ?_; clear H; intro b1 w10 hx H
    clear hx
    refine alloc_ gok rfl H ?_; clear H; intro b2 w11 hx H
    clear hx
    refine alloc_ gok rfl H ?_; clear H; intro b3 w12 hx H
    clear hx
    replace H := H.sel [2, 0, 1, 3, 4, 5, 6, 7] rfl
    refine stB0 H rfl ?_; clear H; intro w13 H
    replace H := H.sel [2, 0, 1, 3, 4, 5, 6, 7] rfl
    refine stB0 H rfl ?_; clear H; intro w14 H
    replace H := H.sel [2, 0, 1, 3, 4, 5, 6, 7] rfl
    refine stB0 H rfl ?_; clear H; intro w15 H
    refine loadN [(.int .i64 g__0), (g__1h).v, (g__2h).v, (g__3h).v] rfl (fun j u hj => H.bx 4 rfl hj) ?_
    obtain ⟨y2, e, f23⟩ := bindS f22; clear f22
    obtain ⟨y2_0, y2_1, y2_2⟩ := y2
    have i2 := e; clear e
    replace H := H.sel [4, 1, 2, 3, 0, 5, 6, 7] rfl
    refine callF (impl_Graph_lists_impl_Graph_isGraph_1_c g__0 g__1 g__1h g__2 g__2h g__3 g__3h b5 g__0 g__1 g__1h g__2 g__2h g__3 g__3h b2 true b1 a6 h2 b3 0 y2_0 y2_1 y2_2 i2) (Γi := [Bx b5 [(.int .i64 g__0), (g__1h).v, (g__2h).v, (g__3h).v], Bx b2 [(.bool true)], Bx b1 [(h2).v], E (List Bool) a6 h2, Bx b3 [(.int .i64 0)]]) H ⟨Vw.sh 0 rfl, Vw.sh 1 rfl, Vw.sh 2 rfl, Vw.sh 0 rfl, Vw.sh 1 rfl, Vw.sh 2 rfl, trivial⟩ ?_; clear H i2
    rintro _ _ w16 ⟨rfl, rfl⟩ H
    obtain ⟨r2, f24, f25⟩ := bindS f23; clear f23
    refine cut (fun (q1 : Bool × Bool) => [(2, (.bool q1.2))]) (fun (q1 : Bool × Bool) w' => (q1.1, q1.2) = r2 ∧ Cx w0 fp0 S0 w' []) ?_ ?_
    ·
     refine load1 (H.bx0 1 rfl) ?_
     cases y2_0
     ·
      have f26 := condF f24; clear f24
      exact ⟨(false, false), ⟨rfl, trivial⟩, Option.some.inj f26, H.sel [] rfl⟩
     ·
      have f27 := condT f24; clear f24
      refine load1 (H.bx0 4 rfl) ?_
      refine fld gok rfl rfl rfl rfl ?_
      refine load1 (H.bx 0 rfl (j := 0) rfl) ?_
      obtain ⟨a7, e, f28⟩ := bindS f27; clear f27
      refine boolO e ?_; clear e
      exact ⟨(true, a7), ⟨rfl, trivial⟩, Option.some.inj f28, H.sel [] rfl⟩
    ·
     clear f24 H
     rintro T3 ⟨s1_0, s1_1⟩ w17 ⟨hr, (H : Cx w0 fp0 S0 w17 [])⟩
     subst hr
     cases f25
     exact ⟨_, _, rfl, ⟨rfl, rfl⟩, (H.sel [] rfl).close trivial⟩
  ·
   have f29 := condT f1; clear f1
   cases f29
   exact ⟨_, _, rfl, ⟨rfl, rfl⟩, (H.sel [] rfl).close trivial⟩

theorem impl_joined_c (lists_ : List (List Int)) (lists_h : Hd) (y : List Int) (hF : F_impl_joined lists_ = some y) :
  ConF Tryz.prog 99 #[(lists_h).v] [Es (List (List Int)) lists_ lists_h] [] (fun v Γ' => ∃ z0 : Hd, v = (z0).v ∧ Γ' = [E (List Int) y z0]) := by
 intro w0 S0 fp0 hI hS
 have H : Cx w0 fp0 S0 w0 [Es (List (List Int)) lists_ lists_h] := Cx.start hI hS
 clear hI hS
 refine enterC (args := [_]) gok Tryz.func99 rfl _ rfl rfl rfl ?_
 refine lit0 (α := Int) gok rfl rfl H ?_; clear H; intro h3 w2 hx H
 clear hx
 refine sq ?_
 refine lenE (H.rs (α := List (List Int)) 1 rfl).len ?_
 have x0 := (H.rs (α := List (List Int)) 1 rfl).max
 obtain ⟨r0, e, f0⟩ := bindS hF; clear hF
 refine loopS _ lists_.length (fun (k5 : Nat) (s0 : List Int) (g0 : Hd) => [(3, (g0).v), (7, (lists_h).v), (8, (.int .i64 ((lists_.length : Nat) : Int))), (9, (.int .i64 ((k5 : Nat) : Int)))]) (fun _ (s0 : List Int) (g0 : Hd) w' => Cx w0 fp0 S0 w' [E (List Int) s0 g0, Es (List (List Int)) lists_ lists_h]) ([] : List Int) h3 e ⟨rfl, rfl, rfl, rfl, trivial⟩ (H.sel [0, 1] rfl) ?_ ?_
 ·
  clear H e
  rintro T0 k5 s0 g0 w1 o0 hk (H : Cx w0 fp0 S0 w1 [E (List Int) s0 g0, Es (List (List Int)) lists_ lists_h]) f1
  refine boolE (z := true) (ltLen hk) ?_
  refine sq ?_
  refine sq ?_
  obtain ⟨a0, e, f2⟩ := bindS f1; clear f1
  have HH := H; clear H; obtain ⟨p0, m0, h0, c0, c1, c2, c3, H⟩ := HH.elL 1 rfl e; clear HH
  clear e
  refine idxE c0 c1 c2 ?_; clear c0 c1 c2
  refine load1 c3 ?_; clear c3
  obtain ⟨a1, e, f3⟩ := bindS f2; clear f2
  replace H := H.sel [1, 0, 2] rfl
  refine appendS (α := Int) gok rfl rfl rfl rfl H (Vw.sh 0 rfl) e ?_; clear e H; intro h1 w3 H
  refine arK hk x0 ?_
  have hs := Option.some.inj f3; subst hs; clear f3
  exact ⟨h1, ⟨rfl, rfl, rfl, rfl, trivial⟩, H.sel [0, 2] rfl⟩
 ·
  clear H e
  rintro T1 g1 w4 (H : Cx w0 fp0 S0 w4 [E (List Int) r0 g1, Es (List (List Int)) lists_ lists_h])
  refine boolE (z := false) geLen ?_
  refine sq ?_
  cases f0
  exact ⟨_, _, rfl, ⟨g1, rfl, rfl⟩, (H.sel [0] rfl).close ⟨cloE, trivial⟩⟩

theorem impl_isPermutation_c (list_ : List Int) (list_h : Hd) (n_ : Int) (y : Bool) (hF : F_impl_isPermutation list_ n_ = some y) :
  ConF Tryz.prog 98 #[(list_h).v, (.int .i64 n_)] [Es (List Int) list_ list_h] [] (fun v Γ' => v = (.bool y) ∧ Γ' = []) := by
 intro w0 S0 fp0 hI hS
 have H : Cx w0 fp0 S0 w0 [Es (List Int) list_ list_h] := Cx.start hI hS
 clear hI hS
 refine enterC (args := [_, _]) gok Tryz.func98 rfl _ rfl rfl rfl ?_
 refine sq ?_
 refine lenE (H.rs (α := List Int) 0 rfl).len ?_
 obtain ⟨a2, e, hF3⟩ := bindS hF; clear hF
 refine boolO e ?_; clear e
 cases a2
 ·
  have hF4 := condF hF3; clear hF3
  obtain ⟨a5, e, hF6⟩ := bindS hF4; clear hF4
  refine make_ (α := Bool) gok rfl rfl rfl rfl (makeCO_of e) H ?_; clear e H; intro h8 w7 hx H
  clear hx
  refine sq ?_
  refine lenE (H.rs (α := List Int) 1 rfl).len ?_
  have x0 := (H.rs (α := List Int) 1 rfl).max
  obtain ⟨r0, e, f0⟩ := bindS hF6; clear hF6
  refine loopO _ list_.length (fun (k0 : Nat) (s0 : List Bool) (_ : Unit) => [(1, (.int .i64 n_)), (5, (h8).v), (14, (list_h).v), (15, (.int .i64 ((list_.length : Nat) : Int))), (16, (.int .i64 ((k0 : Nat) : Int)))]) (fun _ (s0 : List Bool) (_ : Unit) w' => Cx w0 fp0 S0 w' [E (List Bool) s0 h8, Es (List Int) list_ list_h]) a5 () e ⟨rfl, rfl, rfl, rfl, rfl, trivial⟩ (H.sel [0, 1] rfl) ?_ ?_
  ·
   clear H e
   rintro T0 k0 s0 _ w1 o0 hk (H : Cx w0 fp0 S0 w1 [E (List Bool) s0 h8, Es (List Int) list_ list_h]) hrt f1
   refine boolE (z := true) (ltLen hk) ?_
   refine sq ?_
   refine sq ?_
   obtain ⟨a0, e, f2⟩ := bindS f1; clear f1
   obtain ⟨p0, m0, c0, c1, c2, c3⟩ := (H.rs (α := List Int) 1 rfl).at1 e; clear e
   refine idxE c0 c1 c2 ?_; clear c0 c1 c2
   refine load1 c3 ?_; clear c3
   refine sq ?_
   obtain ⟨r1, f3, f4⟩ := bindS f2; clear f2
   refine cut (fun (q0 : Bool) => [(1, (.int .i64 n_)), (5, (h8).v), (7, (.int .i64 a0)), (14, (list_h).v), (15, (.int .i64 ((list_.length : Nat) : Int))), (16, (.int .i64 ((k0 : Nat) : Int))), (30, (.bool q0))]) (fun (q0 : Bool) w' => q0 = r1 ∧ Cx w0 fp0 S0 w' [E (List Bool) s0 h8, Es (List Int) list_ list_h]) ?_ ?_
   ·
    obtain ⟨a1, e, f5⟩ := bindS f3; clear f3
    refine arO e ?_; clear e
    obtain ⟨y0, e, f6⟩ := bindS f5; clear f5
    have i0 := e; clear e
    refine callF (impl_within_c a0 0 a1 y0 i0) (Γi := []) H trivial ?_; clear H i0
    rintro _ _ w2 ⟨rfl, rfl⟩ H
    obtain ⟨a3, e, f7⟩ := bindS f6; clear f6
    refine boolO e ?_; clear e
    cases a3
    ·
     have f8 := condF f7; clear f7
     obtain ⟨a4, e, f9⟩ := bindS f8; clear f8
     obtain ⟨p1, m1, c4, c5, c6, c7⟩ := (H.ro (α := List Bool) 0 rfl).at1 e; clear e
     refine idxE c4 c5 c6 ?_; clear c4 c5 c6
     refine load1 c7 ?_; clear c7
     exact ⟨a4, ⟨rfl, rfl, rfl, rfl, rfl, rfl, rfl, trivial⟩, Option.some.inj f9, H.sel [0, 1] rfl⟩
    ·
     have f10 := condT f7; clear f7
     exact ⟨true, ⟨rfl, rfl, rfl, rfl, rfl, rfl, rfl, trivial⟩, Option.some.inj f10, H.sel [0, 1] rfl⟩
   ·
    clear f3 H
    rintro T1 s1 w3 ⟨hr, (H : Cx w0 fp0 S0 w3 [E (List Bool) s0 h8, Es (List Int) list_ list_h])⟩
    subst hr
    cases s1
    ·
     have f11 := condF f4; clear f4
     obtain ⟨a6, e, f12⟩ := bindS f11; clear f11
     have i1 := e; clear e
     obtain ⟨p2, m2, c8, c9, c10⟩ := (H.ro (α := List Bool) 0 rfl).setp i1
     refine idxE c8 c9 c10 ?_
     refine setS (α := Bool) H c8 c9 i1 ?_; clear H c8 c9 c10 i1; intro w4 H
     refine arK hk x0 ?_
     have hs := Option.some.inj f12; subst hs; clear f12
     exact ⟨a6, (), rfl, ⟨rfl, rfl, rfl, rfl, rfl, trivial⟩, H.sel [0, 1] rfl⟩
    ·
     have f13 := condT f4; clear f4
     have hs := Option.some.inj f13; subst hs; clear f13
     have hr := hrt _ rfl; subst hr
     have f14 : some _ = some _ := f0
     cases f14
     exact ⟨_, _, rfl, ⟨rfl, rfl⟩, (H.sel [] rfl).close trivial⟩
  ·
   clear H e
   rintro T2 s2 _ w5 hr (H : Cx w0 fp0 S0 w5 [E (List Bool) s2 h8, Es (List Int) list_ list_h])
   subst hr
   refine boolE (z := false) geLen ?_
   refine sq ?_
   cases f0
   exact ⟨_, _, rfl, ⟨rfl, rfl⟩, (H.sel [] rfl).close trivial⟩
 ·
  have f15 := condT hF3; clear hF3
  cases f15
  exact ⟨_, _, rfl, ⟨rfl, rfl⟩, (H.sel [] rfl).close trivial⟩

theorem impl_occursOnce_c (n_ : Int) (lists_ : List (List Int)) (lists_h : Hd) (y : Bool) (hF : F_impl_occursOnce n_ lists_ = some y) :
  ConF Tryz.prog 80 #[(.int .i64 n_), (lists_h).v] [Es (List (List Int)) lists_ lists_h] [] (fun v Γ' => v = (.bool y) ∧ Γ' = []) := by
 intro w0 S0 fp0 hI hS
 have H : Cx w0 fp0 S0 w0 [Es (List (List Int)) lists_ lists_h] := Cx.start hI hS
 clear hI hS
 refine enterC (args := [_, _]) gok Tryz.func80 rfl _ rfl rfl rfl ?_
 obtain ⟨y2, e, hF3⟩ := bindS hF; clear hF
 have ey2 := e; clear e
 refine callF (impl_joined_c lists_ lists_h y2 ey2) (Γi := []) H ⟨Vw.sh 0 rfl, trivial⟩ ?_; clear H ey2
 rintro _ _ w4 ⟨h5, rfl, rfl⟩ H
 obtain ⟨y7, e, hF8⟩ := bindS hF3; clear hF3
 have ey7 := e; clear e
 refine callF (impl_isPermutation_c y2 h5 n_ y7 ey7) (Γi := []) H ⟨Vw.own 0 rfl, trivial⟩ ?_; clear H ey7
 rintro _ _ w9 ⟨rfl, rfl⟩ H
 cases hF8
 exact ⟨_, _, rfl, ⟨rfl, rfl⟩, (H.sel [] rfl).close trivial⟩

theorem impl_Graph_isMonogamous_c (g__0 : Int) (g__1 : List (Int × Int × List Int × List Int)) (g__1h : Hd) (g__2 : List Int) (g__2h : Hd) (g__3 : List Int) (g__3h : Hd) (y : Bool) (hF : F_impl_Graph_isMonogamous (g__0, g__1, g__2, g__3) = some y) :
  ConF Tryz.prog 66 #[(.agg #[(.int .i64 g__0), (g__1h).v, (g__2h).v, (g__3h).v])] [Es (List (Int × Int × List Int × List Int)) g__1 g__1h, Es (List Int) g__2 g__2h, Es (List Int) g__3 g__3h] [] (fun v Γ' => v = (.bool y) ∧ Γ' = []) := by
 intro w0 S0 fp0 hI hS
 have H : Cx w0 fp0 S0 w0 [Es (List (Int × Int × List Int × List Int)) g__1 g__1h, Es (List Int) g__2 g__2h, Es (List Int) g__3 g__3h] := Cx.start hI hS
 clear hI hS
 refine enterC (args := [_]) gok Tryz.func66 rfl _ rfl rfl rfl ?_
 refine box_ H ?_; clear H; intro b5 w4 hx H
 clear hx
 refine sq ?_
 refine loadN [(.int .i64 g__0), (g__1h).v, (g__2h).v, (g__3h).v] rfl (fun j u hj => H.bx 0 rfl hj) ?_
 obtain ⟨y7, e, hF8⟩ := bindS hF; clear hF
 have ey7 := e; clear e
 refine callF (impl_Graph_isGraph_c g__0 g__1 g__1h g__2 g__2h g__3 g__3h y7 ey7) (Γi := []) H ⟨Vw.sh 1 rfl, Vw.sh 2 rfl, Vw.sh 3 rfl, trivial⟩ ?_; clear H ey7
 rintro _ _ w9 ⟨rfl, rfl⟩ H
 obtain ⟨a0, e, f0⟩ := bindS hF8; clear hF8
 refine boolO e ?_; clear e
 cases a0
 ·
  have f1 := condF f0; clear f0
  obtain ⟨r0, f2, f3⟩ := bindS f1; clear f1
  refine heldJ H [] (.fst 0 (.fst 3 (.fst 1 (.fst 4 (.alts (.alt 2 (.fst 6 (.act 5 (.fst 7 .done))) (.alt 5 (.act 2 (.fst 6 (.fst 7 .done))) .no))))))) mixed [] trivial (by kernel_rfl) (fun (q0 : (List (List Int) × List (List Int)) × (Hd × Hd)) => [(1, (.pointer (some ⟨b5, 0, none⟩))), (3, (q0.2.1).v), (4, (q0.2.2).v)]) (fun (q0 : (List (List Int) × List (List Int)) × (Hd × Hd)) w' => (q0.1.1, q0.1.2) = r0 ∧ Cx w0 fp0 S0 w' [Bx b5 [(.int .i64 g__0), (g__1h).v, (g__2h).v, (g__3h).v], Es (List (Int × Int × List Int × List Int)) g__1 g__1h, Es (List Int) g__2 g__2h, Es (List Int) g__3 g__3h, E (List (Sh (List Int))) q0.1.1 q0.2.1, E (List (Sh (List Int))) q0.1.2 q0.2.2]) ?_ ?_
  ·
   clear H; intro w1 H
   have hX : Ext w1 w1 := Upd.refl _ _
   have H0 := H
   refine anyH (fun _ => fld gok rfl rfl rfl rfl ⟨rfl, rfl⟩) ?_
   refine anyH (fun _ => fld gok rfl rfl rfl rfl ⟨rfl, rfl⟩) ?_
   refine load1X (H.bx 0 rfl (j := 2) rfl) ?_
   refine load1X (H.bx 0 rfl (j := 3) rfl) ?_
   refine both ?_ ?_
   ·
    replace H := H.dup 2 rfl persS
    refine lit1 (α := Sh (List Int)) gok rfl rfl rfl rfl (by rfl) H ?_; clear H; intro h0 w2 hx H
    replace hX := hX.trans0 hx; clear hx
    refine hold hX ?_
    replace H := H.dup 4 rfl persS
    refine lit1 (α := Sh (List Int)) gok rfl rfl rfl rfl (by rfl) H ?_; clear H; intro h1 w3 hx H
    replace hX := hX.trans0 hx; clear hx
    refine hold hX ?_
    exact ⟨(([g__2], [g__3]), (h0, h1)), ⟨rfl, rfl, rfl, trivial⟩, Option.some.inj f2, H.sel [2, 3, 4, 5, 1, 0] rfl⟩
   ·
    refine both ?_ ?_
    ·
     replace H := H.dup 3 rfl persS
     refine lit1 (α := Sh (List Int)) gok rfl rfl rfl rfl (by rfl) H ?_; clear H; intro h2 w5 hx H
     replace hX := hX.trans0 hx; clear hx
     refine hold hX ?_
     replace H := H.dup 3 rfl persS
     refine lit1 (α := Sh (List Int)) gok rfl rfl rfl rfl (by rfl) H ?_; clear H; intro h3 w6 hx H
     replace hX := hX.trans0 hx; clear hx
     refine hold hX ?_
     exact ⟨(([g__2], [g__3]), (h3, h2)), ⟨rfl, rfl, rfl, trivial⟩, Option.some.inj f2, H.sel [2, 3, 4, 5, 0, 1] rfl⟩
    ·
     exact trivial
  ·
   clear f2 H
   rintro T0 ⟨⟨s0_0, s0_1⟩, ⟨g0_0, g0_1⟩⟩ w7 ⟨hr, (H : Cx w0 fp0 S0 w7 [Bx b5 [(.int .i64 g__0), (g__1h).v, (g__2h).v, (g__3h).v], Es (List (Int × Int × List Int × List Int)) g__1 g__1h, Es (List Int) g__2 g__2h, Es (List Int) g__3 g__3h, E (List (Sh (List Int))) s0_0 g0_0, E (List (Sh (List Int))) s0_1 g0_1])⟩
   subst hr
   refine sq ?_
   refine fld gok rfl rfl rfl rfl ?_
   refine load1 (H.bx 0 rfl (j := 1) rfl) ?_
   refine lenE (H.rs (α := List (Int × Int × List Int × List Int)) 1 rfl).len ?_
   have x0 := (H.rs (α := List (Int × Int × List Int × List Int)) 1 rfl).max
   obtain ⟨r1, e, f4⟩ := bindS f3; clear f3
   refine loopS _ g__1.length (fun (k0 : Nat) (s1 : List (List Int) × List (List Int)) (g1 : Hd × Hd) => [(1, (.pointer (some ⟨b5, 0, none⟩))), (3, (g1.1).v), (4, (g1.2).v), (17, (g__1h).v), (18, (.int .i64 ((g__1.length : Nat) : Int))), (19, (.int .i64 ((k0 : Nat) : Int)))]) (fun _ (s1 : List (List Int) × List (List Int)) (g1 : Hd × Hd) w' => Cx w0 fp0 S0 w' [Bx b5 [(.int .i64 g__0), (g__1h).v, (g__2h).v, (g__3h).v], Es (List (Int × Int × List Int × List Int)) g__1 g__1h, Es (List Int) g__2 g__2h, Es (List Int) g__3 g__3h, E (List (Sh (List Int))) s1.1 g1.1, E (List (Sh (List Int))) s1.2 g1.2]) (s0_0, s0_1) (g0_0, g0_1) e ⟨rfl, rfl, rfl, rfl, rfl, rfl, trivial⟩ (H.sel [0, 1, 2, 3, 4, 5] rfl) ?_ ?_
   ·
    clear H e
    rintro T1 k0 ⟨s1_0, s1_1⟩ ⟨g1_0, g1_1⟩ w8 o0 hk (H : Cx w0 fp0 S0 w8 [Bx b5 [(.int .i64 g__0), (g__1h).v, (g__2h).v, (g__3h).v], Es (List (Int × Int × List Int × List Int)) g__1 g__1h, Es (List Int) g__2 g__2h, Es (List Int) g__3 g__3h, E (List (Sh (List Int))) s1_0 g1_0, E (List (Sh (List Int))) s1_1 g1_1]) f5
    refine boolE (z := true) (ltLen hk) ?_
    refine sq ?_
    refine sq ?_
    obtain ⟨a1, e, f6⟩ := bindS f5; clear f5
    have HH := H; clear H; obtain ⟨p0, m0, g2, c0, c1, c2, c3, H⟩ := HH.el (α := Int × Int × List Int × List Int) 1 rfl e; clear HH
    clear e
    obtain ⟨a1_0, a1_1, a1_2, a1_3⟩ := a1
    obtain ⟨_, _, h4, h5⟩ := g2
    replace H := H.part (β := List Int) a1_2 (h4 : Hd) 0 rfl (fun S h => (And.left (And.right (And.right h))))
    replace H := H.part (β := List Int) a1_3 (h5 : Hd) 1 rfl (fun S h => (And.right (And.right (And.right h))))
    replace H := H.sel [0, 1, 3, 4, 5, 6, 7, 8] rfl
    refine idxE c0 c1 c2 ?_; clear c0 c1 c2
    refine loadN [(.int .i64 a1_0), (.int .i64 a1_1), (h4).v, (h5).v] rfl c3 ?_; clear c3
    refine alloc_ gok rfl H ?_; clear H; intro b0 w10 hx H
    clear hx
    refine stA gok [(.int .i64 a1_0), (.int .i64 a1_1), (h4).v, (h5).v] rfl H rfl rfl rfl ?_; clear H; intro w11 H
    refine fld gok rfl rfl rfl rfl ?_
    refine load1 (H.bx 0 rfl (j := 3) rfl) ?_
    replace H := H.dup 1 rfl persS
    refine lit1 (α := Sh (List Int)) gok rfl rfl rfl rfl (by rfl) H ?_; clear H; intro h6 w12 hx H
    clear hx
    obtain ⟨a2, e, f7⟩ := bindS f6; clear f6
    replace H := H.sel [8, 0, 1, 2, 3, 4, 5, 6, 7, 9] rfl
    refine append_ (α := Sh (List Int)) gok rfl rfl rfl rfl H e ?_; clear e H; intro h7 w13 H
    refine fld gok rfl rfl rfl rfl ?_
    refine load1 (H.bx 1 rfl (j := 2) rfl) ?_
    replace H := H.dup 3 rfl persS
    refine lit1 (α := Sh (List Int)) gok rfl rfl rfl rfl (by rfl) H ?_; clear H; intro h8 w14 hx H
    clear hx
    obtain ⟨a3, e, f8⟩ := bindS f7; clear f7
    replace H := H.sel [9, 0, 1, 2, 3, 4, 5, 6, 7, 8] rfl
    refine append_ (α := Sh (List Int)) gok rfl rfl rfl rfl H e ?_; clear e H; intro h9 w15 H
    refine arK hk x0 ?_
    have hs := Option.some.inj f8; subst hs; clear f8
    exact ⟨(h7, h9), ⟨rfl, rfl, rfl, rfl, rfl, rfl, trivial⟩, H.sel [5, 6, 7, 8, 1, 0] rfl⟩
   ·
    clear H e
    obtain ⟨s2_0, s2_1⟩ := r1
    rintro T2 ⟨g3_0, g3_1⟩ w16 (H : Cx w0 fp0 S0 w16 [Bx b5 [(.int .i64 g__0), (g__1h).v, (g__2h).v, (g__3h).v], Es (List (Int × Int × List Int × List Int)) g__1 g__1h, Es (List Int) g__2 g__2h, Es (List Int) g__3 g__3h, E (List (Sh (List Int))) s2_0 g3_0, E (List (Sh (List Int))) s2_1 g3_1])
    refine boolE (z := false) geLen ?_
    refine sq ?_
    obtain ⟨r2, f9, f10⟩ := bindS f4; clear f4
    refine cut (fun (q1 : Bool) => [(2, (.bool q1))]) (fun (q1 : Bool) w' => q1 = r2 ∧ Cx w0 fp0 S0 w' []) ?_ ?_
    ·
     refine fld gok rfl rfl rfl rfl ?_
     refine load1 (H.bx 0 rfl (j := 0) rfl) ?_
     obtain ⟨y0, e, f11⟩ := bindS f9; clear f9
     have i0 := e; clear e
     refine callF (impl_occursOnce_c g__0 s2_0 g3_0 y0 i0) (Γi := []) H ⟨Vw.part (β := List (List Int)) (Vw.own (α := List (Sh (List Int))) 4 rfl) s2_0 g3_0 (fun S h => h), trivial⟩ ?_; clear H i0
     rintro _ _ w17 ⟨rfl, rfl⟩ H
     cases y0
     ·
      have f12 := condF f11; clear f11
      exact ⟨false, ⟨rfl, trivial⟩, Option.some.inj f12, H.sel [] rfl⟩
     ·
      have f13 := condT f11; clear f11
      refine fld gok rfl rfl rfl rfl ?_
      refine load1 (H.bx 0 rfl (j := 0) rfl) ?_
      obtain ⟨y1, e, f14⟩ := bindS f13; clear f13
      have i1 := e; clear e
      refine callF (impl_occursOnce_c g__0 s2_1 g3_1 y1 i1) (Γi := []) H ⟨Vw.part (β := List (List Int)) (Vw.own (α := List (Sh (List Int))) 5 rfl) s2_1 g3_1 (fun S h => h), trivial⟩ ?_; clear H i1
      rintro _ _ w18 ⟨rfl, rfl⟩ H
      exact ⟨y1, ⟨rfl, trivial⟩, Option.some.inj f14, H.sel [] rfl⟩
    ·
     clear f9 H
     rintro T3 s3 w19 ⟨hr, (H : Cx w0 fp0 S0 w19 [])⟩
     subst hr
     cases f10
     exact ⟨_, _, rfl, ⟨rfl, rfl⟩, (H.sel [] rfl).close trivial⟩
 ·
  have f15 := condT f0; clear f0
  cases f15
  exact ⟨_, _, rfl, ⟨rfl, rfl⟩, (H.sel [] rfl).close trivial⟩

theorem impl_zeros_c (n_ : Int) (y : List Int) (hF : F_impl_zeros n_ = some y) :
  ConF Tryz.prog 123 #[(.int .i64 n_)] [] [] (fun v Γ' => ∃ z0 : Hd, v = (z0).v ∧ Γ' = [E (List Int) y z0]) := by
 intro w0 S0 fp0 hI hS
 have H : Cx w0 fp0 S0 w0 [] := Cx.start hI hS
 clear hI hS
 refine enterC (args := [_]) gok Tryz.func123 rfl _ rfl rfl rfl ?_
 obtain ⟨a1, e, hF2⟩ := bindS hF; clear hF
 refine make_ (α := Int) gok rfl rfl rfl rfl (makeCO_of e) H ?_; clear e H; intro h4 w3 hx H
 clear hx
 cases hF2
 exact ⟨_, _, rfl, ⟨h4, rfl, rfl⟩, (H.sel [0] rfl).close ⟨cloE, trivial⟩⟩

theorem impl_repeated_c (a_ : Int) (n_ : Int) (y : List Int) (hF : F_impl_repeated a_ n_ = some y) :
  ConF Tryz.prog 102 #[(.int .i64 a_), (.int .i64 n_)] [] [] (fun v Γ' => ∃ z0 : Hd, v = (z0).v ∧ Γ' = [E (List Int) y z0]) := by
 intro w0 S0 fp0 hI hS
 have H : Cx w0 fp0 S0 w0 [] := Cx.start hI hS
 clear hI hS
 refine enterC (args := [_, _]) gok Tryz.func102 rfl _ rfl rfl rfl ?_
 obtain ⟨y1, e, hF2⟩ := bindS hF; clear hF
 have ey1 := e; clear e
 refine callF (impl_zeros_c n_ y1 ey1) (Γi := []) H trivial ?_; clear H ey1
 rintro _ _ w3 ⟨h4, rfl, rfl⟩ H
 refine sq ?_
 refine lenE (H.ro (α := List Int) 0 rfl).len ?_
 have x0 := (H.ro (α := List Int) 0 rfl).max
 obtain ⟨r0, e, f0⟩ := bindS hF2; clear hF2
 refine loopS _ y1.length (fun (k6 : Nat) (s0 : List Int) (_ : Unit) => [(0, (.int .i64 a_)), (5, (h4).v), (10, (.int .i64 ((y1.length : Nat) : Int))), (11, (.int .i64 ((k6 : Nat) : Int)))]) (fun _ (s0 : List Int) (_ : Unit) w' => Cx w0 fp0 S0 w' [E (List Int) s0 h4]) y1 () e ⟨rfl, rfl, rfl, rfl, trivial⟩ (H.sel [0] rfl) ?_ ?_
 ·
  clear H e
  rintro T0 k6 s0 _ w1 o0 hk (H : Cx w0 fp0 S0 w1 [E (List Int) s0 h4]) f1
  refine boolE (z := true) (ltLen hk) ?_
  refine sq ?_
  refine sq ?_
  obtain ⟨a0, e, f2⟩ := bindS f1; clear f1
  have i0 := e; clear e
  obtain ⟨p0, m0, c0, c1, c2⟩ := (H.ro (α := List Int) 0 rfl).setp i0
  refine idxE c0 c1 c2 ?_
  refine setS (α := Int) H c0 c1 i0 ?_; clear H c0 c1 c2 i0; intro w2 H
  refine arK hk x0 ?_
  have hs := Option.some.inj f2; subst hs; clear f2
  exact ⟨(), ⟨rfl, rfl, rfl, rfl, trivial⟩, H.sel [0] rfl⟩
 ·
  clear H e
  rintro T1 _ w4 (H : Cx w0 fp0 S0 w4 [E (List Int) r0 h4])
  refine boolE (z := false) geLen ?_
  refine sq ?_
  cases f0
  exact ⟨_, _, rfl, ⟨h4, rfl, rfl⟩, (H.sel [0] rfl).close ⟨cloE, trivial⟩⟩
end Go.Proofs.YtbofgnbanmbopaaGreatDoor
