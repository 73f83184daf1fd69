/-
 Contracts, printed by a program (wip/y/gen.py): each function of Go computes its partial function. Condition of each: its partial function yields a value.
-/
import Derived.Test.YtalmpcgbghnhpaaGreatDoorZCall2
namespace Go.Proofs.YtalmpcgbghnhpaaGreatDoor
open Go Go.Proofs.YtalmpcgbghnhpaaGreatDoor.RW
set_option maxRecDepth 100000
set_option linter.unusedVariables false

theorem spec_syOf_c (p_ : Int) (g__0 : Int) (g__1 : List (Int × Int × List Int × List Int)) (g__1h : Hd) (g__2 : List Int) (g__2h : Hd) (g__3 : List Int) (g__3h : Hd) (y_0 : Int) (y_1 : Int) (y_2 : List (List Int)) (hF : F_spec_syOf p_ (g__0, g__1, g__2, g__3) = some (y_0, y_1, y_2)) :
  ConF Tryz.prog 32 #[(.int .i64 p_), (.agg #[(.int .i64 g__0), (g__1h).v, (g__2h).v, (g__3h).v])] [Es (List (Int × Int × List Int × List Int)) g__1 g__1h, Es (List Int) g__2 g__2h, Es (List Int) g__3 g__3h] [] (fun v Γ' => ∃ z0 : Hd, v = (.agg #[(.int .i64 y_0), (.int .i64 y_1), (z0).v]) ∧ Γ' = [E (List (List Int)) y_2 z0]) := by
 intro w0 S0 fp0 hI hS
 have H : Cx w0 fp0 S0 w0 [Es (List (Int × Int × List Int × List Int)) g__1 g__1h, Es (List Int) g__2 g__2h, Es (List Int) g__3 g__3h] := Cx.start hI hS
 clear hI hS
 refine enterC (args := [_, _]) gok Tryz.func32 rfl _ rfl rfl rfl ?_
 refine box_ H ?_; clear H; intro b5 w4 hx H
 clear hx
 refine alloc_ gok rfl H ?_; clear H; intro b8 w7 hx H
 clear hx
 refine heldX H [5, 6] (.fst 0 (.fst 3 (.fst 1 (.fst 4 (.act 2 (.act 5 (.act 6 .done))))))) mixed [] trivial (by kernel_rfl) ?_
 clear H; intro w1 H
 have hX : Ext w1 w1 := Upd.refl _ _
 have H0 := H
 refine anyH (fun _ => fld gok rfl rfl rfl rfl ⟨rfl, rfl⟩) ?_
 refine anyH (fun _ => fld gok rfl rfl rfl rfl ⟨rfl, rfl⟩) ?_
 refine load1X (H.bx 1 rfl (j := 2) rfl) ?_
 refine load1X (H.bx 1 rfl (j := 3) rfl) ?_
 obtain ⟨y0, e, f0⟩ := bindS hF; clear hF
 have i0 := e; clear e
 refine callFx (spec_l1Own_c g__2 g__2h y0 i0) H ⟨Vw.sh 3 rfl, trivial⟩ ?_; clear H i0
 rintro _ _ w2 ⟨h0, rfl, rfl⟩ hx H
 replace hX := hX.trans0 hx; clear hx
 refine hold hX ?_
 obtain ⟨a0, e, f1⟩ := bindS f0; clear f0
 refine appendS (α := Int) gok rfl rfl rfl rfl H (Vw.sh 4 rfl) e ?_; clear e H; intro h1 w3 H
 refine hold trivial ?_
 refine hold trivial ?_
 refine lenE (H.ro (α := List Int) 0 rfl).len ?_
 refine fld gok rfl rfl rfl rfl ?_
 refine load1 (H.bx 2 rfl (j := 0) rfl) ?_
 refine build_ (cs := #[(.int .i64 ((a0.length : Nat) : Int)), (.int .i64 g__0), (.slice none 0 0)]) gok rfl rfl rfl ?_
 refine alloc_ gok rfl H ?_; clear H; intro b0 w5 hx H
 clear hx
 refine stA gok [(.int .i64 ((a0.length : Nat) : Int)), (.int .i64 g__0), (.slice none 0 0)] rfl H rfl rfl rfl ?_; clear H; intro w6 H
 refine sq ?_
 refine lenE (H.ro (α := List Int) 1 rfl).len ?_
 have x0 := (H.ro (α := List Int) 1 rfl).max
 obtain ⟨r0, e, f2⟩ := bindS f1; clear f1
 replace H := H.nil (α := List Int)
 refine loopS _ a0.length (fun (k0 : Nat) (s0 : List (List Int)) (g0 : Hd) => [(0, (.int .i64 p_)), (3, (.pointer (some ⟨b5, 0, none⟩))), (4, (.pointer (some ⟨b8, 0, none⟩))), (6, (.pointer (some ⟨b0, 0, none⟩))), (24, (h1).v), (25, (.int .i64 ((a0.length : Nat) : Int))), (26, (.int .i64 ((k0 : Nat) : Int)))]) (fun _ (s0 : List (List Int)) (g0 : Hd) w' => Cx w0 fp0 S0 w' [Bx b5 [(.int .i64 g__0), (g__1h).v, (g__2h).v, (g__3h).v], Es (List (Int × Int × List Int × List Int)) g__1 g__1h, Es (List Int) g__2 g__2h, Es (List Int) g__3 g__3h, Bx b8 [(.int .i64 0), (.int .i64 0), (.slice none 0 0)], Bx b0 [(.int .i64 ((a0.length : Nat) : Int)), (.int .i64 g__0), (g0).v], E (List (List Int)) s0 g0, E (List Int) a0 h1]) [] nilH e ⟨rfl, rfl, rfl, rfl, rfl, rfl, rfl, trivial⟩ (H.sel [4, 5, 6, 7, 3, 1, 0, 2] rfl) ?_ ?_
 ·
  clear H e
  rintro T0 k0 s0 g0 w8 o0 hk (H : Cx w0 fp0 S0 w8 [Bx b5 [(.int .i64 g__0), (g__1h).v, (g__2h).v, (g__3h).v], Es (List (Int × Int × List Int × List Int)) g__1 g__1h, Es (List Int) g__2 g__2h, Es (List Int) g__3 g__3h, Bx b8 [(.int .i64 0), (.int .i64 0), (.slice none 0 0)], Bx b0 [(.int .i64 ((a0.length : Nat) : Int)), (.int .i64 g__0), (g0).v], E (List (List Int)) s0 g0, E (List Int) a0 h1]) f3
  refine boolE (z := true) (ltLen hk) ?_
  refine sq ?_
  refine sq ?_
  obtain ⟨a1, e, f4⟩ := bindS f3; clear f3
  obtain ⟨p0, m0, c0, c1, c2, c3⟩ := (H.ro (α := List Int) 7 rfl).at1 e; clear e
  refine idxE c0 c1 c2 ?_; clear c0 c1 c2
  refine load1 c3 ?_; clear c3
  refine heldX H [19, 21, 20] (.fst 0 (.fst 2 (.fst 3 (.fst 5 (.fst 8 (.fst 9 (.fst 11 (.fst 14 (.fst 15 (.fst 1 (.fst 4 (.fst 6 (.fst 7 (.fst 10 (.fst 12 (.alts (.alt 13 (.act 16 (.act 17 (.act 18 (.act 19 (.act 20 (.act 21 .done)))))) (.alt 16 (.act 13 (.act 17 (.act 18 (.act 19 (.act 20 (.act 21 .done)))))) .no)))))))))))))))))) mixed [] trivial (by kernel_rfl) ?_
  clear H; intro w9 H
  have hX : Ext w9 w9 := Upd.refl _ _
  have H0 := H
  refine anyH (fun _ => fld gok rfl rfl rfl rfl ⟨rfl, rfl⟩) ?_
  refine anyH (fun _ => fld gok rfl rfl rfl rfl ⟨rfl, rfl⟩) ?_
  refine anyH (fun _ => fld gok rfl rfl rfl rfl ⟨rfl, rfl⟩) ?_
  refine anyH (fun _ => fld gok rfl rfl rfl rfl ⟨rfl, rfl⟩) ?_
  obtain ⟨a2, e, f5⟩ := bindS f4; clear f4
  refine arO e ?_; clear e
  refine load1X (H.bx 5 rfl (j := 2) rfl) ?_
  refine load1X (H.bx 5 rfl (j := 0) rfl) ?_
  refine load1X (H.bx 5 rfl (j := 1) rfl) ?_
  obtain ⟨a3, e, f6⟩ := bindS f5; clear f5
  refine arO e ?_; clear e
  refine load1X (H.bx 5 rfl (j := 0) rfl) ?_
  obtain ⟨a4, e, f7⟩ := bindS f6; clear f6
  refine arO e ?_; clear e
  refine both ?_ ?_
  ·
   replace H := H.sc (α := Int) a4
   replace H := H.sc (α := Int) ((k0 : Nat) : Int)
   refine litN (α := Int) (us := [(.int .i64 ((k0 : Nat) : Int)), (.int .i64 a4)]) (xs := [((k0 : Nat) : Int), a4]) (gs := [(), ()]) gok rfl rfl rfl ⟨rfl, rfl, trivial⟩ rfl rfl H ?_; clear H; intro h2 w11 hx H
   replace hX := hX.trans0 hx; clear hx
   refine hold hX ?_
   replace H := H.sc (α := Int) a2
   replace H := H.sc (α := Int) 1
   refine litN (α := Int) (us := [(.int .i64 1), (.int .i64 a2)]) (xs := [1, a2]) (gs := [(), ()]) gok rfl rfl rfl ⟨rfl, rfl, trivial⟩ rfl rfl H ?_; clear H; intro h3 w12 hx H
   replace hX := hX.trans0 hx; clear hx
   refine hold hX ?_
   obtain ⟨y1, e, f8⟩ := bindS f7; clear f7
   have i1 := e; clear e
   refine callFx (spec_dnRow_c p_ a3 [((k0 : Nat) : Int), a4] h2 [1, a2] h3 y1 i1) H ⟨Vw.own 1 rfl, Vw.own 0 rfl, trivial⟩ ?_; clear H i1
   rintro _ _ w14 ⟨h4, rfl, rfl⟩ hx H
   replace hX := hX.trans0 hx; clear hx
   refine hold hX ?_
   refine lit1 (α := List Int) (g := h4) gok rfl rfl rfl rfl rfl H ?_; clear H; intro h5 w15 hx H
   replace hX := hX.trans0 hx; clear hx
   refine hold hX ?_
   obtain ⟨a5, e, f9⟩ := bindS f8; clear f8
   replace H := H.sel [9, 0, 1, 2, 3, 4, 5, 6, 7, 8, 10] rfl
   refine append_ (α := List Int) gok rfl rfl rfl rfl H e ?_; clear e H; intro h6 w16 H
   refine hold trivial ?_
   refine fld gok rfl rfl rfl rfl ?_
   refine hold trivial ?_
   replace H := H.sel [8, 0, 1, 2, 3, 4, 5, 6, 7, 9] rfl
   refine stB (j := 2) H rfl rfl ?_; clear H; intro w17 H
   refine hold trivial ?_
   refine arK hk x0 ?_
   have hs := Option.some.inj f9; subst hs; clear f9
   exact ⟨h6, ⟨rfl, rfl, rfl, rfl, rfl, rfl, rfl, trivial⟩, H.sel [4, 5, 6, 7, 8, 0, 1, 9] rfl⟩
  ·
   refine both ?_ ?_
   ·
    obtain ⟨a6, o1, f10⟩ := bindS f7; clear f7
    obtain ⟨a7, o2, f11⟩ := bindS f10; clear f10
    replace H := H.sc (α := Int) a2
    replace H := H.sc (α := Int) 1
    refine litN (α := Int) (us := [(.int .i64 1), (.int .i64 a2)]) (xs := [1, a2]) (gs := [(), ()]) gok rfl rfl rfl ⟨rfl, rfl, trivial⟩ rfl rfl H ?_; clear H; intro h7 w19 hx H
    replace hX := hX.trans0 hx; clear hx
    refine hold hX ?_
    replace H := H.sc (α := Int) a4
    replace H := H.sc (α := Int) ((k0 : Nat) : Int)
    refine litN (α := Int) (us := [(.int .i64 ((k0 : Nat) : Int)), (.int .i64 a4)]) (xs := [((k0 : Nat) : Int), a4]) (gs := [(), ()]) gok rfl rfl rfl ⟨rfl, rfl, trivial⟩ rfl rfl H ?_; clear H; intro h8 w20 hx H
    replace hX := hX.trans0 hx; clear hx
    refine hold hX ?_
    have e := o1; clear o1
    have i2 := e; clear e
    refine callFx (spec_dnRow_c p_ a3 [((k0 : Nat) : Int), a4] h8 [1, a2] h7 a6 i2) H ⟨Vw.own 0 rfl, Vw.own 1 rfl, trivial⟩ ?_; clear H i2
    rintro _ _ w22 ⟨h9, rfl, rfl⟩ hx H
    replace hX := hX.trans0 hx; clear hx
    refine hold hX ?_
    refine lit1 (α := List Int) (g := h9) gok rfl rfl rfl rfl rfl H ?_; clear H; intro h10 w23 hx H
    replace hX := hX.trans0 hx; clear hx
    refine hold hX ?_
    have e := o2; clear o2
    replace H := H.sel [9, 0, 1, 2, 3, 4, 5, 6, 7, 8, 10] rfl
    refine append_ (α := List Int) gok rfl rfl rfl rfl H e ?_; clear e H; intro h11 w25 H
    refine hold trivial ?_
    refine fld gok rfl rfl rfl rfl ?_
    refine hold trivial ?_
    replace H := H.sel [8, 0, 1, 2, 3, 4, 5, 6, 7, 9] rfl
    refine stB (j := 2) H rfl rfl ?_; clear H; intro w26 H
    refine hold trivial ?_
    refine arK hk x0 ?_
    have hs := Option.some.inj f11; subst hs; clear f11
    exact ⟨h11, ⟨rfl, rfl, rfl, rfl, rfl, rfl, rfl, trivial⟩, H.sel [4, 5, 6, 7, 8, 0, 1, 9] rfl⟩
   ·
    exact trivial
 ·
  clear H e
  rintro T1 g1 w27 (H : Cx w0 fp0 S0 w27 [Bx b5 [(.int .i64 g__0), (g__1h).v, (g__2h).v, (g__3h).v], Es (List (Int × Int × List Int × List Int)) g__1 g__1h, Es (List Int) g__2 g__2h, Es (List Int) g__3 g__3h, Bx b8 [(.int .i64 0), (.int .i64 0), (.slice none 0 0)], Bx b0 [(.int .i64 ((a0.length : Nat) : Int)), (.int .i64 g__0), (g1).v], E (List (List Int)) r0 g1, E (List Int) a0 h1])
  refine boolE (z := false) geLen ?_
  refine sq ?_
  refine sq ?_
  refine fld gok rfl rfl rfl rfl ?_
  refine load1 (H.bx 0 rfl (j := 1) rfl) ?_
  refine lenE (H.rs (α := List (Int × Int × List Int × List Int)) 1 rfl).len ?_
  have x1 := (H.rs (α := List (Int × Int × List Int × List Int)) 1 rfl).max
  obtain ⟨r1, e, f12⟩ := bindS f2; clear f2
  refine loopS _ g__1.length (fun (k1 : Nat) (s1 : List (List Int)) (g2 : Hd) => [(0, (.int .i64 p_)), (3, (.pointer (some ⟨b5, 0, none⟩))), (4, (.pointer (some ⟨b8, 0, none⟩))), (6, (.pointer (some ⟨b0, 0, none⟩))), (54, (g__1h).v), (55, (.int .i64 ((g__1.length : Nat) : Int))), (56, (.int .i64 ((k1 : Nat) : Int)))]) (fun _ (s1 : List (List Int)) (g2 : Hd) w' => Cx w0 fp0 S0 w' [Bx b5 [(.int .i64 g__0), (g__1h).v, (g__2h).v, (g__3h).v], Es (List (Int × Int × List Int × List Int)) g__1 g__1h, Es (List Int) g__2 g__2h, Es (List Int) g__3 g__3h, Bx b8 [(.int .i64 0), (.int .i64 0), (.slice none 0 0)], Bx b0 [(.int .i64 ((a0.length : Nat) : Int)), (.int .i64 g__0), (g2).v], E (List (List Int)) s1 g2]) r0 g1 e ⟨rfl, rfl, rfl, rfl, rfl, rfl, rfl, trivial⟩ (H.sel [0, 1, 2, 3, 4, 5, 6] rfl) ?_ ?_
  ·
   clear H e
   rintro T2 k1 s1 g2 w28 o3 hk (H : Cx w0 fp0 S0 w28 [Bx b5 [(.int .i64 g__0), (g__1h).v, (g__2h).v, (g__3h).v], Es (List (Int × Int × List Int × List Int)) g__1 g__1h, Es (List Int) g__2 g__2h, Es (List Int) g__3 g__3h, Bx b8 [(.int .i64 0), (.int .i64 0), (.slice none 0 0)], Bx b0 [(.int .i64 ((a0.length : Nat) : Int)), (.int .i64 g__0), (g2).v], E (List (List Int)) s1 g2]) f13
   refine boolE (z := true) (ltLen hk) ?_
   refine sq ?_
   refine sq ?_
   obtain ⟨a8, e, f14⟩ := bindS f13; clear f13
   have HH := H; clear H; obtain ⟨p1, m1, g3, c4, c5, c6, c7, H⟩ := HH.el (α := Int × Int × List Int × List Int) 1 rfl e; clear HH
   clear e
   obtain ⟨a8_0, a8_1, a8_2, a8_3⟩ := a8
   obtain ⟨_, _, h12, h13⟩ := g3
   replace H := H.part (β := List Int) a8_2 (h12 : Hd) 0 rfl (fun S h => (And.left (And.right (And.right h))))
   replace H := H.part (β := List Int) a8_3 (h13 : Hd) 1 rfl (fun S h => (And.right (And.right (And.right h))))
   replace H := H.sel [0, 1, 3, 4, 5, 6, 7, 8, 9] rfl
   refine idxE c4 c5 c6 ?_; clear c4 c5 c6
   refine loadN [(.int .i64 a8_0), (.int .i64 a8_1), (h12).v, (h13).v] rfl c7 ?_; clear c7
   refine alloc_ gok rfl H ?_; clear H; intro b1 w29 hx H
   clear hx
   refine stA gok [(.int .i64 a8_0), (.int .i64 a8_1), (h12).v, (h13).v] rfl H rfl rfl rfl ?_; clear H; intro w30 H
   refine fld gok rfl rfl rfl rfl ?_
   refine load1 (H.bx 3 rfl (j := 0) rfl) ?_
   refine loadN [(.int .i64 a8_0), (.int .i64 a8_1), (h12).v, (h13).v] rfl (fun j u hj => H.bx 0 rfl hj) ?_
   obtain ⟨y2, e, f15⟩ := bindS f14; clear f14
   have i3 := e; clear e
   refine callF (spec_dnRows_c p_ g__0 a8_0 a8_1 a8_2 h12 a8_3 h13 y2 i3) (Γi := []) H ⟨Vw.sh 2 rfl, Vw.sh 1 rfl, trivial⟩ ?_; clear H i3
   rintro _ _ w31 ⟨h15, rfl, rfl⟩ H
   refine lenE (H.ro (α := List (List Int)) 0 rfl).len ?_
   replace H := H.frz
   have x2 := (H.rs (α := List (List Int)) 0 rfl).max
   obtain ⟨r2, e, f16⟩ := bindS f15; clear f15
   refine loopS _ y2.length (fun (k2 : Nat) (s2 : List (List Int)) (g4 : Hd) => [(0, (.int .i64 p_)), (3, (.pointer (some ⟨b5, 0, none⟩))), (4, (.pointer (some ⟨b8, 0, none⟩))), (6, (.pointer (some ⟨b0, 0, none⟩))), (54, (g__1h).v), (55, (.int .i64 ((g__1.length : Nat) : Int))), (56, (.int .i64 ((k1 : Nat) : Int))), (64, (h15).v), (65, (.int .i64 ((y2.length : Nat) : Int))), (66, (.int .i64 ((k2 : Nat) : Int)))]) (fun _ (s2 : List (List Int)) (g4 : Hd) w' => Cx w0 fp0 S0 w' [Bx b5 [(.int .i64 g__0), (g__1h).v, (g__2h).v, (g__3h).v], Es (List (Int × Int × List Int × List Int)) g__1 g__1h, Es (List Int) g__2 g__2h, Es (List Int) g__3 g__3h, Bx b8 [(.int .i64 0), (.int .i64 0), (.slice none 0 0)], Bx b0 [(.int .i64 ((a0.length : Nat) : Int)), (.int .i64 g__0), (g4).v], E (List (List Int)) s2 g4, Es (List (List Int)) y2 h15]) s1 g2 e ⟨rfl, rfl, rfl, rfl, rfl, rfl, rfl, rfl, rfl, rfl, trivial⟩ (H.sel [4, 5, 6, 7, 8, 9, 10, 0] rfl) ?_ ?_
   ·
    clear H e
    rintro T3 k2 s2 g4 w32 o4 hk (H : Cx w0 fp0 S0 w32 [Bx b5 [(.int .i64 g__0), (g__1h).v, (g__2h).v, (g__3h).v], Es (List (Int × Int × List Int × List Int)) g__1 g__1h, Es (List Int) g__2 g__2h, Es (List Int) g__3 g__3h, Bx b8 [(.int .i64 0), (.int .i64 0), (.slice none 0 0)], Bx b0 [(.int .i64 ((a0.length : Nat) : Int)), (.int .i64 g__0), (g4).v], E (List (List Int)) s2 g4, Es (List (List Int)) y2 h15]) f17
    refine boolE (z := true) (ltLen hk) ?_
    refine sq ?_
    refine sq ?_
    obtain ⟨a9, e, f18⟩ := bindS f17; clear f17
    have HH := H; clear H; obtain ⟨p2, m2, h16, c8, c9, c10, c11, H⟩ := HH.elL 7 rfl e; clear HH
    clear e
    refine idxE c8 c9 c10 ?_; clear c8 c9 c10
    refine load1 c11 ?_; clear c11
    refine heldX H [6, 8, 10, 7, 9, 1, 4, 0, 2, 3, 5] (.pure 0 (.pure 2 (.pure 3 (.pure 5 (.alts (.alt 1 (.act 4 (.act 6 (.act 7 (.act 8 (.act 9 (.act 10 .done)))))) (.alt 4 (.alts (.alt 1 (.act 6 (.act 7 (.act 8 (.act 9 (.act 10 .done))))) (.alt 6 (.alts (.alt 1 (.act 7 (.act 8 (.act 9 (.act 10 .done)))) (.alt 7 (.act 1 (.act 8 (.act 9 (.act 10 .done)))) .no))) .no))) .no))))))) mixed [((Addr.add ⟨b0, 0, none⟩ 0), (.int .i64 ((a0.length : Nat) : Int)))] ⟨H.bx 6 rfl (j := 0) rfl, trivial⟩ (by kernel_rfl) ?_
    clear H; intro w33 H
    have hX : Ext w33 w33 := Upd.refl _ _
    have H0 := H
    refine anyH (fun _ => fld gok rfl rfl rfl rfl ⟨rfl, rfl⟩) ?_
    refine anyH (fun _ => fld gok rfl rfl rfl rfl ⟨rfl, rfl⟩) ?_
    refine load1W 0 rfl ?_
    refine both ?_ ?_
    ·
     refine load1 (H.bx 6 rfl (j := 2) rfl) ?_
     refine hold ⟨H.bx 6 rfl (j := 0) rfl, trivial⟩ ?_
     obtain ⟨a10, e, f19⟩ := bindS f18; clear f18
     refine make_ (α := Int) gok rfl rfl rfl rfl (makeCO_of e) H ?_; clear e H; intro h17 w34 hx H
     clear hx
     refine hold ⟨H.bx 7 rfl (j := 0) rfl, trivial⟩ ?_
     obtain ⟨a11, e, f20⟩ := bindS f19; clear f19
     refine appendS (α := Int) gok rfl rfl rfl rfl H (Vw.sh 0 rfl) e ?_; clear e H; intro h18 w35 H
     refine hold ⟨H.bx 7 rfl (j := 0) rfl, trivial⟩ ?_
     refine lit1 (α := List Int) (g := h18) gok rfl rfl rfl rfl rfl H ?_; clear H; intro h20 w36 hx H
     clear hx
     refine hold ⟨H.bx 7 rfl (j := 0) rfl, trivial⟩ ?_
     obtain ⟨a12, e, f21⟩ := bindS f20; clear f20
     replace H := H.sel [8, 0, 1, 2, 3, 4, 5, 6, 7, 9] rfl
     refine append_ (α := List Int) gok rfl rfl rfl rfl H e ?_; clear e H; intro h21 w37 H
     refine hold ⟨H.bx 7 rfl (j := 0) rfl, trivial⟩ ?_
     refine fld gok rfl rfl rfl rfl ?_
     refine hold ⟨H.bx 7 rfl (j := 0) rfl, trivial⟩ ?_
     replace H := H.sel [7, 0, 1, 2, 3, 4, 5, 6, 8] rfl
     refine stB (j := 2) H rfl rfl ?_; clear H; intro w38 H
     refine hold ⟨H.bx 0 rfl (j := 0) rfl, trivial⟩ ?_
     refine arK hk x2 ?_
     have hs := Option.some.inj f21; subst hs; clear f21
     exact ⟨h21, ⟨rfl, rfl, rfl, rfl, rfl, rfl, rfl, rfl, rfl, rfl, trivial⟩, H.sel [3, 4, 5, 6, 7, 0, 1, 8] rfl⟩
    ·
     refine both ?_ ?_
     ·
      obtain ⟨a13, o5, f22⟩ := bindS f18; clear f18
      obtain ⟨a14, o6, f23⟩ := bindS f22; clear f22
      obtain ⟨a15, o7, f24⟩ := bindS f23; clear f23
      have e := o5; clear o5
      refine make_ (α := Int) gok rfl rfl rfl rfl (makeCO_of e) H ?_; clear e H; intro h22 w39 hx H
      clear hx
      refine hold ⟨H.bx 7 rfl (j := 0) rfl, trivial⟩ ?_
      refine both ?_ ?_
      ·
       refine load1 (H.bx 7 rfl (j := 2) rfl) ?_
       refine hold ⟨H.bx 7 rfl (j := 0) rfl, trivial⟩ ?_
       have e := o6; clear o6
       refine appendS (α := Int) gok rfl rfl rfl rfl H (Vw.sh 0 rfl) e ?_; clear e H; intro h23 w40 H
       refine hold ⟨H.bx 7 rfl (j := 0) rfl, trivial⟩ ?_
       refine lit1 (α := List Int) (g := h23) gok rfl rfl rfl rfl rfl H ?_; clear H; intro h24 w41 hx H
       clear hx
       refine hold ⟨H.bx 7 rfl (j := 0) rfl, trivial⟩ ?_
       have e := o7; clear o7
       replace H := H.sel [8, 0, 1, 2, 3, 4, 5, 6, 7, 9] rfl
       refine append_ (α := List Int) gok rfl rfl rfl rfl H e ?_; clear e H; intro h25 w42 H
       refine hold ⟨H.bx 7 rfl (j := 0) rfl, trivial⟩ ?_
       refine fld gok rfl rfl rfl rfl ?_
       refine hold ⟨H.bx 7 rfl (j := 0) rfl, trivial⟩ ?_
       replace H := H.sel [7, 0, 1, 2, 3, 4, 5, 6, 8] rfl
       refine stB (j := 2) H rfl rfl ?_; clear H; intro w43 H
       refine hold ⟨H.bx 0 rfl (j := 0) rfl, trivial⟩ ?_
       refine arK hk x2 ?_
       have hs := Option.some.inj f24; subst hs; clear f24
       exact ⟨h25, ⟨rfl, rfl, rfl, rfl, rfl, rfl, rfl, rfl, rfl, rfl, trivial⟩, H.sel [3, 4, 5, 6, 7, 0, 1, 8] rfl⟩
      ·
       refine both ?_ ?_
       ·
        have e := o6; clear o6
        refine appendS (α := Int) gok rfl rfl rfl rfl H (Vw.sh 0 rfl) e ?_; clear e H; intro h26 w44 H
        refine hold ⟨H.bx 7 rfl (j := 0) rfl, trivial⟩ ?_
        refine both ?_ ?_
        ·
         refine load1 (H.bx 7 rfl (j := 2) rfl) ?_
         refine hold ⟨H.bx 7 rfl (j := 0) rfl, trivial⟩ ?_
         refine lit1 (α := List Int) (g := h26) gok rfl rfl rfl rfl rfl H ?_; clear H; intro h27 w45 hx H
         clear hx
         refine hold ⟨H.bx 7 rfl (j := 0) rfl, trivial⟩ ?_
         have e := o7; clear o7
         replace H := H.sel [8, 0, 1, 2, 3, 4, 5, 6, 7, 9] rfl
         refine append_ (α := List Int) gok rfl rfl rfl rfl H e ?_; clear e H; intro h28 w46 H
         refine hold ⟨H.bx 7 rfl (j := 0) rfl, trivial⟩ ?_
         refine fld gok rfl rfl rfl rfl ?_
         refine hold ⟨H.bx 7 rfl (j := 0) rfl, trivial⟩ ?_
         replace H := H.sel [7, 0, 1, 2, 3, 4, 5, 6, 8] rfl
         refine stB (j := 2) H rfl rfl ?_; clear H; intro w47 H
         refine hold ⟨H.bx 0 rfl (j := 0) rfl, trivial⟩ ?_
         refine arK hk x2 ?_
         have hs := Option.some.inj f24; subst hs; clear f24
         exact ⟨h28, ⟨rfl, rfl, rfl, rfl, rfl, rfl, rfl, rfl, rfl, rfl, trivial⟩, H.sel [3, 4, 5, 6, 7, 0, 1, 8] rfl⟩
        ·
         refine both ?_ ?_
         ·
          refine lit1 (α := List Int) (g := h26) gok rfl rfl rfl rfl rfl H ?_; clear H; intro h29 w48 hx H
          clear hx
          refine hold ⟨H.bx 7 rfl (j := 0) rfl, trivial⟩ ?_
          refine load1 (H.bx 7 rfl (j := 2) rfl) ?_
          refine hold ⟨H.bx 7 rfl (j := 0) rfl, trivial⟩ ?_
          have e := o7; clear o7
          replace H := H.sel [8, 0, 1, 2, 3, 4, 5, 6, 7, 9] rfl
          refine append_ (α := List Int) gok rfl rfl rfl rfl H e ?_; clear e H; intro h30 w49 H
          refine hold ⟨H.bx 7 rfl (j := 0) rfl, trivial⟩ ?_
          refine fld gok rfl rfl rfl rfl ?_
          refine hold ⟨H.bx 7 rfl (j := 0) rfl, trivial⟩ ?_
          replace H := H.sel [7, 0, 1, 2, 3, 4, 5, 6, 8] rfl
          refine stB (j := 2) H rfl rfl ?_; clear H; intro w50 H
          refine hold ⟨H.bx 0 rfl (j := 0) rfl, trivial⟩ ?_
          refine arK hk x2 ?_
          have hs := Option.some.inj f24; subst hs; clear f24
          exact ⟨h30, ⟨rfl, rfl, rfl, rfl, rfl, rfl, rfl, rfl, rfl, rfl, trivial⟩, H.sel [3, 4, 5, 6, 7, 0, 1, 8] rfl⟩
         ·
          exact trivial
       ·
        exact trivial
     ·
      exact trivial
   ·
    clear H e
    rintro T4 g5 w51 (H : Cx w0 fp0 S0 w51 [Bx b5 [(.int .i64 g__0), (g__1h).v, (g__2h).v, (g__3h).v], Es (List (Int × Int × List Int × List Int)) g__1 g__1h, Es (List Int) g__2 g__2h, Es (List Int) g__3 g__3h, Bx b8 [(.int .i64 0), (.int .i64 0), (.slice none 0 0)], Bx b0 [(.int .i64 ((a0.length : Nat) : Int)), (.int .i64 g__0), (g5).v], E (List (List Int)) r2 g5, Es (List (List Int)) y2 h15])
    refine boolE (z := false) geLen ?_
    refine sq ?_
    refine arK hk x1 ?_
    have hs := Option.some.inj f16; subst hs; clear f16
    exact ⟨g5, ⟨rfl, rfl, rfl, rfl, rfl, rfl, rfl, trivial⟩, H.sel [0, 1, 2, 3, 4, 5, 6] rfl⟩
  ·
   clear H e
   rintro T5 g6 w52 (H : Cx w0 fp0 S0 w52 [Bx b5 [(.int .i64 g__0), (g__1h).v, (g__2h).v, (g__3h).v], Es (List (Int × Int × List Int × List Int)) g__1 g__1h, Es (List Int) g__2 g__2h, Es (List Int) g__3 g__3h, Bx b8 [(.int .i64 0), (.int .i64 0), (.slice none 0 0)], Bx b0 [(.int .i64 ((a0.length : Nat) : Int)), (.int .i64 g__0), (g6).v], E (List (List Int)) r1 g6])
   refine boolE (z := false) geLen ?_
   refine sq ?_
   refine loadN [(.int .i64 ((a0.length : Nat) : Int)), (.int .i64 g__0), (g6).v] rfl (fun j u hj => H.bx 5 rfl hj) ?_
   replace H := H.sel [4, 0, 1, 2, 3, 5, 6] rfl
   refine stA gok [(.int .i64 ((a0.length : Nat) : Int)), (.int .i64 g__0), (g6).v] rfl H rfl rfl rfl ?_; clear H; intro w53 H
   refine loadN [(.int .i64 ((a0.length : Nat) : Int)), (.int .i64 g__0), (g6).v] rfl (fun j u hj => H.bx 0 rfl hj) ?_
   cases f12
   exact ⟨_, _, rfl, ⟨g6, rfl, rfl⟩, (H.sel [6] rfl).close ⟨cloE, trivial⟩⟩

theorem spec_SystemOfGraph_c (p_ : Int) (g__0 : Int) (g__1 : List (Int × Int × List Int × List Int)) (g__1h : Hd) (g__2 : List Int) (g__2h : Hd) (g__3 : List Int) (g__3h : Hd) (y0_0 : Int) (y0_1 : Int) (y0_2 : List (List Int)) (y1 : Bool) (hF : F_spec_SystemOfGraph p_ (g__0, g__1, g__2, g__3) = some ((y0_0, y0_1, y0_2), y1)) :
  ConF Tryz.prog 16 #[(.int .i64 p_), (.agg #[(.int .i64 g__0), (g__1h).v, (g__2h).v, (g__3h).v])] [Es (List (Int × Int × List Int × List Int)) g__1 g__1h, Es (List Int) g__2 g__2h, Es (List Int) g__3 g__3h] [] (fun v Γ' => ∃ z0 : Hd, v = (.tuple #[(.agg #[(.int .i64 y0_0), (.int .i64 y0_1), (z0).v]), (.bool y1)]) ∧ Γ' = [E (List (List Int)) y0_2 z0]) := by
 intro w0 S0 fp0 hI hS
 have H : Cx w0 fp0 S0 w0 [Es (List (Int × Int × List Int × List Int)) g__1 g__1h, Es (List Int) g__2 g__2h, Es (List Int) g__3 g__3h] := Cx.start hI hS
 clear hI hS
 refine enterC (args := [_, _]) gok Tryz.func16 rfl _ rfl rfl rfl ?_
 refine box_ H ?_; clear H; intro b5 w4 hx H
 clear hx
 refine alloc_ gok rfl H ?_; clear H; intro b8 w7 hx H
 clear hx
 refine sq ?_
 refine loadN [(.int .i64 g__0), (g__1h).v, (g__2h).v, (g__3h).v] rfl (fun j u hj => H.bx 1 rfl hj) ?_
 obtain ⟨y0, e, f0⟩ := bindS hF; clear hF
 have i0 := e; clear e
 refine callF (spec_dnAsked_c p_ g__0 g__1 g__1h g__2 g__2h g__3 g__3h y0 i0) (Γi := []) H ⟨Vw.sh 2 rfl, Vw.sh 3 rfl, Vw.sh 4 rfl, trivial⟩ ?_; clear H i0
 rintro _ _ w1 ⟨rfl, rfl⟩ H
 obtain ⟨a0, e, f1⟩ := bindS f0; clear f0
 refine boolO e ?_; clear e
 cases a0
 ·
  have f2 := condF f1; clear f1
  refine loadN [(.int .i64 g__0), (g__1h).v, (g__2h).v, (g__3h).v] rfl (fun j u hj => H.bx 1 rfl hj) ?_
  obtain ⟨y2, e, f3⟩ := bindS f2; clear f2
  obtain ⟨y2_0, y2_1, y2_2⟩ := y2
  have i1 := e; clear e
  refine callF (spec_syOf_c p_ g__0 g__1 g__1h g__2 g__2h g__3 g__3h y2_0 y2_1 y2_2 i1) (Γi := []) H ⟨Vw.sh 2 rfl, Vw.sh 3 rfl, Vw.sh 4 rfl, trivial⟩ ?_; clear H i1
  rintro _ _ w2 ⟨h0, rfl, rfl⟩ H
  replace H := H.sel [1, 0, 2, 3, 4, 5] rfl
  refine stA gok [(.int .i64 y2_0), (.int .i64 y2_1), (h0).v] rfl H rfl rfl rfl ?_; clear H; intro w3 H
  refine loadN [(.int .i64 y2_0), (.int .i64 y2_1), (h0).v] rfl (fun j u hj => H.bx 0 rfl hj) ?_
  cases f3
  exact ⟨_, _, rfl, ⟨h0, rfl, rfl⟩, (H.sel [1] rfl).close ⟨cloE, trivial⟩⟩
 ·
  have f4 := condT f1; clear f1
  refine build_ (cs := #[(.int .i64 0), (.int .i64 0), (.slice none 0 0)]) gok rfl rfl rfl ?_
  refine stA gok [(.int .i64 0), (.int .i64 0), (.slice none 0 0)] rfl H rfl rfl rfl ?_; clear H; intro w5 H
  refine loadN [(.int .i64 0), (.int .i64 0), (.slice none 0 0)] rfl (fun j u hj => H.bx 0 rfl hj) ?_
  replace H := H.nil (α := List Int)
  cases f4
  exact ⟨_, _, rfl, ⟨nilH, rfl, rfl⟩, (H.sel [0] rfl).close ⟨cloE, trivial⟩⟩

theorem spec_SystemOfTerm_c (p_ : Int) (t__0 : List (Int × Int × ByteArray)) (t__0h : Hd) (y0_0 : Int) (y0_1 : Int) (y0_2 : List (List Int)) (y1 : Bool) (hF : F_spec_SystemOfTerm p_ t__0 = some ((y0_0, y0_1, y0_2), y1)) :
  ConF Tryz.prog 5 #[(.int .i64 p_), (.agg #[(t__0h).v])] [Es (List (Int × Int × ByteArray)) t__0 t__0h] [] (fun v Γ' => ∃ z0 : Hd, v = (.tuple #[(.agg #[(.int .i64 y0_0), (.int .i64 y0_1), (z0).v]), (.bool y1)]) ∧ Γ' = [E (List (List Int)) y0_2 z0]) := by
 intro w0 S0 fp0 hI hS
 have H : Cx w0 fp0 S0 w0 [Es (List (Int × Int × ByteArray)) t__0 t__0h] := Cx.start hI hS
 clear hI hS
 refine enterC (args := [_, _]) gok Tryz.func5 rfl _ rfl rfl rfl ?_
 refine box_ H ?_; clear H; intro b3 w2 hx H
 clear hx
 refine alloc_ gok rfl H ?_; clear H; intro b6 w5 hx H
 clear hx
 refine loadN [(t__0h).v] rfl (fun j u hj => H.bx 1 rfl hj) ?_
 obtain ⟨y8, e, hF9⟩ := bindS hF; clear hF
 obtain ⟨⟨y8_0_0, y8_0_1, y8_0_2, y8_0_3⟩, y8_1⟩ := y8
 have ey8 := e; clear e
 refine callS (spec_GraphOf_c t__0 t__0h y8_0_0 y8_0_1 y8_0_2 y8_0_3 y8_1 ey8) (Γi := []) H [2] rfl (persC persS persN) ?_; clear H ey8
 rintro _ _ w1 ⟨h0, h1, h2, rfl, rfl⟩ H
 refine alloc_ gok rfl H ?_; clear H; intro b0 w3 hx H
 clear hx
 refine stA gok [(.int .i64 y8_0_0), (h0).v, (h1).v, (h2).v] rfl H rfl rfl rfl ?_; clear H; intro w4 H
 refine sq ?_
 obtain ⟨r0, f0, f1⟩ := bindS hF9; clear hF9
 refine cut (fun (q0 : Bool) => [(0, (.int .i64 p_)), (4, (.pointer (some ⟨b6, 0, none⟩))), (6, (.pointer (some ⟨b0, 0, none⟩))), (20, (.bool q0))]) (fun (q0 : Bool) w' => q0 = r0 ∧ Cx w0 fp0 S0 w' [Bx b6 [(.int .i64 0), (.int .i64 0), (.slice none 0 0)], Bx b0 [(.int .i64 y8_0_0), (h0).v, (h1).v, (h2).v], Es (List (Int × Int × List Int × List Int)) y8_0_1 h0, Es (List Int) y8_0_2 h1, Es (List Int) y8_0_3 h2]) ?_ ?_
 ·
  obtain ⟨a0, e, f2⟩ := bindS f0; clear f0
  refine boolO e ?_; clear e
  cases a0
  ·
   have f3 := condF f2; clear f2
   refine loadN [(t__0h).v] rfl (fun j u hj => H.bx 5 rfl hj) ?_
   obtain ⟨y0, e, f4⟩ := bindS f3; clear f3
   have i0 := e; clear e
   refine callF (spec_tmGood_c p_ t__0 t__0h y0 i0) (Γi := []) H ⟨Vw.sh 6 rfl, trivial⟩ ?_; clear H i0
   rintro _ _ w6 ⟨rfl, rfl⟩ H
   obtain ⟨a1, e, f5⟩ := bindS f4; clear f4
   refine boolO e ?_; clear e
   exact ⟨a1, ⟨rfl, rfl, rfl, rfl, trivial⟩, Option.some.inj f5, H.sel [4, 0, 1, 2, 3] rfl⟩
  ·
   have f6 := condT f2; clear f2
   exact ⟨true, ⟨rfl, rfl, rfl, rfl, trivial⟩, Option.some.inj f6, H.sel [4, 0, 1, 2, 3] rfl⟩
 ·
  clear f0 H
  rintro T0 s0 w7 ⟨hr, (H : Cx w0 fp0 S0 w7 [Bx b6 [(.int .i64 0), (.int .i64 0), (.slice none 0 0)], Bx b0 [(.int .i64 y8_0_0), (h0).v, (h1).v, (h2).v], Es (List (Int × Int × List Int × List Int)) y8_0_1 h0, Es (List Int) y8_0_2 h1, Es (List Int) y8_0_3 h2])⟩
  subst hr
  cases s0
  ·
   have f7 := condF f1; clear f1
   refine loadN [(.int .i64 y8_0_0), (h0).v, (h1).v, (h2).v] rfl (fun j u hj => H.bx 1 rfl hj) ?_
   obtain ⟨y2, e, f8⟩ := bindS f7; clear f7
   obtain ⟨⟨y2_0_0, y2_0_1, y2_0_2⟩, y2_1⟩ := y2
   have i1 := e; clear e
   refine callF (spec_SystemOfGraph_c p_ y8_0_0 y8_0_1 h0 y8_0_2 h1 y8_0_3 h2 y2_0_0 y2_0_1 y2_0_2 y2_1 i1) (Γi := []) H ⟨Vw.sh 2 rfl, Vw.sh 3 rfl, Vw.sh 4 rfl, trivial⟩ ?_; clear H i1
   rintro _ _ w8 ⟨h3, rfl, rfl⟩ H
   replace H := H.sel [1, 0, 2, 3, 4, 5] rfl
   refine stA gok [(.int .i64 y2_0_0), (.int .i64 y2_0_1), (h3).v] rfl H rfl rfl rfl ?_; clear H; intro w9 H
   refine loadN [(.int .i64 y2_0_0), (.int .i64 y2_0_1), (h3).v] rfl (fun j u hj => H.bx 0 rfl hj) ?_
   cases f8
   exact ⟨_, _, rfl, ⟨h3, rfl, rfl⟩, (H.sel [1] rfl).close ⟨cloE, trivial⟩⟩
  ·
   have f9 := condT f1; clear f1
   refine build_ (cs := #[(.int .i64 0), (.int .i64 0), (.slice none 0 0)]) gok rfl rfl rfl ?_
   refine stA gok [(.int .i64 0), (.int .i64 0), (.slice none 0 0)] rfl H rfl rfl rfl ?_; clear H; intro w11 H
   refine loadN [(.int .i64 0), (.int .i64 0), (.slice none 0 0)] rfl (fun j u hj => H.bx 0 rfl hj) ?_
   replace H := H.nil (α := List Int)
   cases f9
   exact ⟨_, _, rfl, ⟨nilH, rfl, rfl⟩, (H.sel [0] rfl).close ⟨cloE, trivial⟩⟩

theorem impl_isField_c (p_ : Int) (y : Bool) (hF : F_impl_isField p_ = some y) :
  ConF Tryz.prog 64 #[(.int .i64 p_)] [Gl 0 [.int .i64 2, .int .i64 3, .int .i64 5, .int .i64 7]] [] (fun v Γ' => v = (.bool y) ∧ Γ' = []) := by
 intro w0 S0 fp0 hI hS
 have H : Cx w0 fp0 S0 w0 [Gl 0 [.int .i64 2, .int .i64 3, .int .i64 5, .int .i64 7]] := Cx.start hI hS
 clear hI hS
 refine enterC (args := [_]) gok Tryz.func64 rfl _ rfl rfl rfl ?_
 refine sq ?_
 obtain ⟨r0, f0, f1⟩ := bindS hF; clear hF
 refine cut (fun (q0 : Bool) => [(0, (.int .i64 p_)), (10, (.bool q0))]) (fun (q0 : Bool) w' => q0 = r0 ∧ Cx w0 fp0 S0 w' [Gl 0 [.int .i64 2, .int .i64 3, .int .i64 5, .int .i64 7]]) ?_ ?_
 ·
  obtain ⟨a0, e, f2⟩ := bindS f0; clear f0
  refine boolO e ?_; clear e
  cases a0
  ·
   have f3 := condF f2; clear f2
   obtain ⟨a1, e, f4⟩ := bindS f3; clear f3
   refine boolO e ?_; clear e
   exact ⟨a1, ⟨rfl, rfl, trivial⟩, Option.some.inj f4, H.sel [0] rfl⟩
  ·
   have f5 := condT f2; clear f2
   exact ⟨true, ⟨rfl, rfl, trivial⟩, Option.some.inj f5, H.sel [0] rfl⟩
 ·
  clear f0 H
  rintro T0 s8 w1 ⟨hr, (H : Cx w0 fp0 S0 w1 [Gl 0 [.int .i64 2, .int .i64 3, .int .i64 5, .int .i64 7]])⟩
  subst hr
  cases s8
  ·
   have f6 := condF f1; clear f1
   refine sq ?_
   refine loadN [.int .i64 2, .int .i64 3, .int .i64 5, .int .i64 7] rfl (H.gl 0 rfl) ?_
   obtain ⟨a2, hn, f7⟩ := bindS f6; clear f6
   obtain ⟨r1, e, f8⟩ := bindS f7; clear f7
   refine loopO _ ((4 : Int).toNat) (fun (k0 : Nat) (_ : Unit) (_ : Unit) => [(0, (.int .i64 p_)), (11, (.agg #[.int .i64 2, .int .i64 3, .int .i64 5, .int .i64 7])), (12, (.int .i64 ((k0 : Nat) : Int)))]) (fun _ (_ : Unit) (_ : Unit) w' => Cx w0 fp0 S0 w' [Gl 0 [.int .i64 2, .int .i64 3, .int .i64 5, .int .i64 7]]) () () e ⟨rfl, rfl, rfl, trivial⟩ (H.sel [0] rfl) ?_ ?_
   ·
    clear H e
    rintro T1 k0 _ _ w2 o0 hk (H : Cx w0 fp0 S0 w2 [Gl 0 [.int .i64 2, .int .i64 3, .int .i64 5, .int .i64 7]]) hrt f9
    refine boolE (z := true) (ltNat hk) ?_
    refine sq ?_
    refine sq ?_
    obtain ⟨a3, e, f10⟩ := bindS f9; clear f9
    refine indexI gok rfl rfl rfl rfl rfl e ?_; clear e
    obtain ⟨r2, f11, f12⟩ := bindS f10; clear f10
    refine cut (fun (q1 : Bool) => [(0, (.int .i64 p_)), (11, (.agg #[.int .i64 2, .int .i64 3, .int .i64 5, .int .i64 7])), (12, (.int .i64 ((k0 : Nat) : Int))), (23, (.bool q1))]) (fun (q1 : Bool) w' => q1 = r2 ∧ Cx w0 fp0 S0 w' [Gl 0 [.int .i64 2, .int .i64 3, .int .i64 5, .int .i64 7]]) ?_ ?_
    ·
     obtain ⟨a4, e, f13⟩ := bindS f11; clear f11
     refine remO_ e ?_; clear e
     obtain ⟨a5, e, f14⟩ := bindS f13; clear f13
     refine boolO e ?_; clear e
     cases a5
     ·
      have f15 := condF f14; clear f14
      exact ⟨false, ⟨rfl, rfl, rfl, rfl, trivial⟩, Option.some.inj f15, H.sel [0] rfl⟩
     ·
      have f16 := condT f14; clear f14
      obtain ⟨a6, e, f17⟩ := bindS f16; clear f16
      refine boolO e ?_; clear e
      exact ⟨a6, ⟨rfl, rfl, rfl, rfl, trivial⟩, Option.some.inj f17, H.sel [0] rfl⟩
    ·
     clear f11 H
     rintro T2 s0 w3 ⟨hr, (H : Cx w0 fp0 S0 w3 [Gl 0 [.int .i64 2, .int .i64 3, .int .i64 5, .int .i64 7]])⟩
     subst hr
     cases s0
     ·
      have f18 := condF f12; clear f12
      refine arK hk (maxI hn) ?_
      have hs := Option.some.inj f18; subst hs; clear f18
      exact ⟨(), (), rfl, ⟨rfl, rfl, rfl, trivial⟩, H.sel [0] rfl⟩
     ·
      have f19 := condT f12; clear f12
      have hs := Option.some.inj f19; subst hs; clear f19
      have hr := hrt _ rfl; subst hr
      have f20 : some _ = some _ := f8
      cases f20
      exact ⟨_, _, rfl, ⟨rfl, rfl⟩, (H.sel [] rfl).close trivial⟩
   ·
    clear H e
    rintro T3 _ _ w4 hr (H : Cx w0 fp0 S0 w4 [Gl 0 [.int .i64 2, .int .i64 3, .int .i64 5, .int .i64 7]])
    subst hr
    refine boolE (z := false) geNat ?_
    refine sq ?_
    cases f8
    exact ⟨_, _, rfl, ⟨rfl, rfl⟩, (H.sel [] rfl).close trivial⟩
  ·
   have f21 := condT f1; clear f1
   cases f21
   exact ⟨_, _, rfl, ⟨rfl, rfl⟩, (H.sel [] rfl).close trivial⟩

theorem impl_within_c (n_ : Int) (low_ : Int) (high_ : Int) (y : Bool) (hF : F_impl_within n_ low_ high_ = some y) :
  ConF Tryz.prog 75 #[(.int .i64 n_), (.int .i64 low_), (.int .i64 high_)] [] [] (fun v Γ' => v = (.bool y) ∧ Γ' = []) := by
 intro w0 S0 fp0 hI hS
 have H : Cx w0 fp0 S0 w0 [] := Cx.start hI hS
 clear hI hS
 refine enterC (args := [_, _, _]) gok Tryz.func75 rfl _ rfl rfl rfl ?_
 obtain ⟨r9, f0, f1⟩ := bindS hF; clear hF
 refine cut (fun (q0 : Bool) => [(6, (.bool q0))]) (fun (q0 : Bool) w' => q0 = r9 ∧ Cx w0 fp0 S0 w' []) ?_ ?_
 ·
  obtain ⟨a0, e, f2⟩ := bindS f0; clear f0
  refine boolO e ?_; clear e
  cases a0
  ·
   have f3 := condF f2; clear f2
   exact ⟨false, ⟨rfl, trivial⟩, Option.some.inj f3, H.sel [] rfl⟩
  ·
   have f4 := condT f2; clear f2
   obtain ⟨a1, e, f5⟩ := bindS f4; clear f4
   refine boolO e ?_; clear e
   exact ⟨a1, ⟨rfl, trivial⟩, Option.some.inj f5, H.sel [] rfl⟩
 ·
  clear f0 H
  rintro T0 s7 w1 ⟨hr, (H : Cx w0 fp0 S0 w1 [])⟩
  subst hr
  cases f1
  exact ⟨_, _, rfl, ⟨rfl, rfl⟩, (H.sel [] rfl).close trivial⟩

theorem impl_wires_fit_c (w__0 : Int) (w__1 : Int) (y : Bool) (hF : F_impl_wires_fit (w__0, w__1) = some y) :
  ConF Tryz.prog 112 #[(.agg #[(.int .i64 w__0), (.int .i64 w__1)])] [] [] (fun v Γ' => v = (.bool y) ∧ Γ' = []) := by
 intro w0 S0 fp0 hI hS
 have H : Cx w0 fp0 S0 w0 [] := Cx.start hI hS
 clear hI hS
 refine enterC (args := [_]) gok Tryz.func112 rfl _ rfl rfl rfl ?_
 refine box_ H ?_; clear H; intro b2 w1 hx H
 clear hx
 obtain ⟨r0, f0, f1⟩ := bindS hF; clear hF
 refine cut (fun (q0 : Bool) => [(2, (.bool q0))]) (fun (q0 : Bool) w' => q0 = r0 ∧ Cx w0 fp0 S0 w' []) ?_ ?_
 ·
  refine fld gok rfl rfl rfl rfl ?_
  refine load1 (H.bx 0 rfl (j := 0) rfl) ?_
  obtain ⟨a0, e, f2⟩ := bindS f0; clear f0
  refine boolO e ?_; clear e
  cases a0
  ·
   have f3 := condF f2; clear f2
   exact ⟨false, ⟨rfl, trivial⟩, Option.some.inj f3, H.sel [] rfl⟩
  ·
   have f4 := condT f2; clear f2
   refine fld gok rfl rfl rfl rfl ?_
   refine load1 (H.bx 0 rfl (j := 1) rfl) ?_
   obtain ⟨a1, e, f5⟩ := bindS f4; clear f4
   refine boolO e ?_; clear e
   exact ⟨a1, ⟨rfl, trivial⟩, Option.some.inj f5, H.sel [] rfl⟩
 ·
  clear f0 H
  rintro T0 s0 w2 ⟨hr, (H : Cx w0 fp0 S0 w2 [])⟩
  subst hr
  cases f1
  exact ⟨_, _, rfl, ⟨rfl, rfl⟩, (H.sel [] rfl).close trivial⟩

theorem impl_joinWires_c (kind_ : Int) (a__0 : Int) (a__1 : Int) (b__0 : Int) (b__1 : Int) (y0_0 : Int) (y0_1 : Int) (y1 : Bool) (hF : F_impl_joinWires kind_ (a__0, a__1) (b__0, b__1) = some ((y0_0, y0_1), y1)) :
  ConF Tryz.prog 111 #[(.int .i64 kind_), (.agg #[(.int .i64 a__0), (.int .i64 a__1)]), (.agg #[(.int .i64 b__0), (.int .i64 b__1)])] [] [] (fun v Γ' => v = (.tuple #[(.agg #[(.int .i64 y0_0), (.int .i64 y0_1)]), (.bool y1)]) ∧ Γ' = []) := by
 intro w0 S0 fp0 hI hS
 have H : Cx w0 fp0 S0 w0 [] := Cx.start hI hS
 clear hI hS
 refine enterC (args := [_, _, _]) gok Tryz.func111 rfl _ rfl rfl rfl ?_
 refine box_ H ?_; clear H; intro b2 w1 hx H
 clear hx
 refine box_ H ?_; clear H; intro b5 w4 hx H
 clear hx
 refine alloc_ gok rfl H ?_; clear H; intro b8 w7 hx H
 clear hx
 refine sq ?_
 obtain ⟨a0, e, f0⟩ := bindS hF; clear hF
 refine boolO e ?_; clear e
 cases a0
 ·
  have f1 := condF f0; clear f0
  refine fld gok rfl rfl rfl rfl ?_
  refine load1 (H.bx 2 rfl (j := 0) rfl) ?_
  refine fld gok rfl rfl rfl rfl ?_
  refine load1 (H.bx 1 rfl (j := 0) rfl) ?_
  obtain ⟨a1, e, f2⟩ := bindS f1; clear f1
  refine arO e ?_; clear e
  refine fld gok rfl rfl rfl rfl ?_
  refine load1 (H.bx 2 rfl (j := 1) rfl) ?_
  refine fld gok rfl rfl rfl rfl ?_
  refine load1 (H.bx 1 rfl (j := 1) rfl) ?_
  obtain ⟨a2, e, f3⟩ := bindS f2; clear f2
  refine arO e ?_; clear e
  refine build_ (cs := #[(.int .i64 a1), (.int .i64 a2)]) gok rfl rfl rfl ?_
  refine alloc_ gok rfl H ?_; clear H; intro b0 w2 hx H
  clear hx
  refine stA gok [(.int .i64 a1), (.int .i64 a2)] rfl H rfl rfl rfl ?_; clear H; intro w3 H
  refine heldX H [3, 4] (.fst 0 (.fst 1 (.act 2 (.act 3 (.act 4 .done))))) mixed [] trivial (by kernel_rfl) ?_
  clear H; intro w5 H
  have hX : Ext w5 w5 := Upd.refl _ _
  have H0 := H
  refine loadNX [(.int .i64 a1), (.int .i64 a2)] rfl (fun j u hj => H.bx 0 rfl hj) ?_
  refine loadNX [(.int .i64 a1), (.int .i64 a2)] rfl (fun j u hj => H.bx 0 rfl hj) ?_
  obtain ⟨y0, e, f4⟩ := bindS f3; clear f3
  have i0 := e; clear e
  refine callFx (impl_wires_fit_c a1 a2 y0 i0) H trivial ?_; clear H i0
  rintro _ _ w6 ⟨rfl, rfl⟩ hx H
  replace hX := hX.trans0 hx; clear hx
  refine hold hX ?_
  replace H := H.sel [1, 0, 2, 3] rfl
  refine stA gok [(.int .i64 a1), (.int .i64 a2)] rfl H rfl rfl rfl ?_; clear H; intro w8 H
  refine hold trivial ?_
  refine hold trivial ?_
  refine loadN [(.int .i64 a1), (.int .i64 a2)] rfl (fun j u hj => H.bx 0 rfl hj) ?_
  cases f4
  exact ⟨_, _, rfl, ⟨rfl, rfl⟩, (H.sel [] rfl).close trivial⟩
 ·
  have f5 := condT f0; clear f0
  refine heldX H [10, 11, 0, 1, 2, 3, 4, 5, 6, 7, 8, 9] (.pure 0 (.pure 1 (.pure 2 (.pure 3 (.pure 4 (.pure 5 (.pure 6 (.pure 7 (.pure 8 (.pure 9 (.act 10 (.act 11 .done)))))))))))) mixed [((Addr.add ⟨b2, 0, none⟩ 0), (.int .i64 a__0)), ((Addr.add ⟨b5, 0, none⟩ 1), (.int .i64 b__1)), ((Addr.add ⟨b2, 0, none⟩ 1), (.int .i64 a__1)), ((Addr.add ⟨b5, 0, none⟩ 0), (.int .i64 b__0))] ⟨H.bx 2 rfl (j := 0) rfl, H.bx 1 rfl (j := 1) rfl, H.bx 2 rfl (j := 1) rfl, H.bx 1 rfl (j := 0) rfl, trivial⟩ (by kernel_rfl) ?_
  clear H; intro w9 H
  have hX : Ext w9 w9 := Upd.refl _ _
  have H0 := H
  refine anyH (fun _ => fld gok rfl rfl rfl rfl ⟨rfl, rfl⟩) ?_
  refine load1W 0 rfl ?_
  refine anyH (fun _ => fld gok rfl rfl rfl rfl ⟨rfl, rfl⟩) ?_
  refine load1W 1 rfl ?_
  refine anyH (fun _ => build_ (cs := #[(.int .i64 a__0), (.int .i64 b__1)]) gok rfl rfl rfl ⟨rfl, rfl⟩) ?_
  refine anyH (fun _ => fld gok rfl rfl rfl rfl ⟨rfl, rfl⟩) ?_
  refine load1W 2 rfl ?_
  refine anyH (fun _ => fld gok rfl rfl rfl rfl ⟨rfl, rfl⟩) ?_
  refine load1W 3 rfl ?_
  obtain ⟨a3, e, f6⟩ := bindS f5; clear f5
  refine boolO e ?_; clear e
  refine stA gok [(.int .i64 a__0), (.int .i64 b__1)] rfl H rfl rfl rfl ?_; clear H; intro w10 H
  refine hold ⟨H.bx 2 rfl (j := 0) rfl, H.bx 1 rfl (j := 1) rfl, H.bx 2 rfl (j := 1) rfl, H.bx 1 rfl (j := 0) rfl, trivial⟩ ?_
  refine hold ⟨H.bx 2 rfl (j := 0) rfl, H.bx 1 rfl (j := 1) rfl, H.bx 2 rfl (j := 1) rfl, H.bx 1 rfl (j := 0) rfl, trivial⟩ ?_
  refine loadN [(.int .i64 a__0), (.int .i64 b__1)] rfl (fun j u hj => H.bx 0 rfl hj) ?_
  cases f6
  exact ⟨_, _, rfl, ⟨rfl, rfl⟩, (H.sel [] rfl).close trivial⟩

theorem impl_isGenerator_c (kind_ : Int) (y : Bool) (hF : F_impl_isGenerator kind_ = some y) :
  ConF Tryz.prog 98 #[(.int .i64 kind_)] [] [] (fun v Γ' => v = (.bool y) ∧ Γ' = []) := by
 intro w0 S0 fp0 hI hS
 have H : Cx w0 fp0 S0 w0 [] := Cx.start hI hS
 clear hI hS
 refine enterC (args := [_]) gok Tryz.func98 rfl _ rfl rfl rfl ?_
 obtain ⟨y1, e, hF2⟩ := bindS hF; clear hF
 have ey1 := e; clear e
 refine callF (impl_within_c kind_ 3 14 y1 ey1) (Γi := []) H trivial ?_; clear H ey1
 rintro _ _ w3 ⟨rfl, rfl⟩ H
 cases hF2
 exact ⟨_, _, rfl, ⟨rfl, rfl⟩, (H.sel [] rfl).close trivial⟩

theorem impl_generatorWires_c (kind_ : Int) (y_0 : Int) (y_1 : Int) (hF : F_impl_generatorWires kind_ = some (y_0, y_1)) :
  ConF Tryz.prog 73 #[(.int .i64 kind_)] [] [] (fun v Γ' => v = (.agg #[(.int .i64 y_0), (.int .i64 y_1)]) ∧ Γ' = []) := by
 intro w0 S0 fp0 hI hS
 have H : Cx w0 fp0 S0 w0 [] := Cx.start hI hS
 clear hI hS
 refine enterC (args := [_]) gok Tryz.func73 rfl _ rfl rfl rfl ?_
 refine alloc_ gok rfl H ?_; clear H; intro b2 w1 hx H
 clear hx
 refine build_ (cs := #[(.int .i64 1), (.int .i64 2)]) gok rfl rfl rfl ?_
 refine build_ (cs := #[(.int .i64 1), (.int .i64 0)]) gok rfl rfl rfl ?_
 refine build_ (cs := #[(.int .i64 2), (.int .i64 1)]) gok rfl rfl rfl ?_
 refine build_ (cs := #[(.int .i64 0), (.int .i64 1)]) gok rfl rfl rfl ?_
 refine build_ (cs := #[(.int .i64 1), (.int .i64 1)]) gok rfl rfl rfl ?_
 refine build_ (cs := #[(.int .i64 1), (.int .i64 1)]) gok rfl rfl rfl ?_
 refine buildAr (cs := #[(.int .i64 1), (.int .i64 2), (.int .i64 1), (.int .i64 0), (.int .i64 2), (.int .i64 1), (.int .i64 0), (.int .i64 1), (.int .i64 1), (.int .i64 1), (.int .i64 1), (.int .i64 1)]) gok rfl rfl rfl ?_
 refine alloc_ gok rfl H ?_; clear H; intro b5 w4 hx H
 clear hx
 refine stA gok [(.int .i64 1), (.int .i64 2), (.int .i64 1), (.int .i64 0), (.int .i64 2), (.int .i64 1), (.int .i64 0), (.int .i64 1), (.int .i64 1), (.int .i64 1), (.int .i64 1), (.int .i64 1)] rfl H rfl rfl rfl ?_; clear H; intro w7 H
 refine sq ?_
 obtain ⟨a8, e, hF9⟩ := bindS hF; clear hF
 refine boolO e ?_; clear e
 cases a8
 ·
  have f0 := condF hF9; clear hF9
  obtain ⟨a0, e, f1⟩ := bindS f0; clear f0
  refine arO e ?_; clear e
  obtain ⟨a1, e, f2⟩ := bindS f1; clear f1
  obtain ⟨p0, c0, c1, c2⟩ := H.bxV (s := 2) 0 rfl [(1, 2), (1, 0), (2, 1), (0, 1), (1, 1), (1, 1)] (fun x => [.int .i64 x.1, .int .i64 x.2]) rfl (fun _ => rfl) e; clear e
  obtain ⟨a1_0, a1_1⟩ := a1
  refine idxAr gok rfl rfl c0 c1 ?_; clear c0 c1
  refine loadN [(.int .i64 a1_0), (.int .i64 a1_1)] rfl c2 ?_; clear c2
  refine alloc_ gok rfl H ?_; clear H; intro b0 w2 hx H
  clear hx
  refine stA gok [(.int .i64 a1_0), (.int .i64 a1_1)] rfl H rfl rfl rfl ?_; clear H; intro w3 H
  refine fld gok rfl rfl rfl rfl ?_
  refine load1 (H.bx 0 rfl (j := 1) rfl) ?_
  refine fld gok rfl rfl rfl rfl ?_
  refine load1 (H.bx 0 rfl (j := 0) rfl) ?_
  refine build_ (cs := #[(.int .i64 a1_1), (.int .i64 a1_0)]) gok rfl rfl rfl ?_
  replace H := H.sel [2, 0, 1] rfl
  refine stA gok [(.int .i64 a1_1), (.int .i64 a1_0)] rfl H rfl rfl rfl ?_; clear H; intro w5 H
  refine loadN [(.int .i64 a1_1), (.int .i64 a1_0)] rfl (fun j u hj => H.bx 0 rfl hj) ?_
  cases f2
  exact ⟨_, _, rfl, ⟨rfl, rfl⟩, (H.sel [] rfl).close trivial⟩
 ·
  have f3 := condT hF9; clear hF9
  obtain ⟨a2, e, f4⟩ := bindS f3; clear f3
  refine arO e ?_; clear e
  obtain ⟨a3, e, f5⟩ := bindS f4; clear f4
  obtain ⟨p1, c3, c4, c5⟩ := H.bxV (s := 2) 0 rfl [(1, 2), (1, 0), (2, 1), (0, 1), (1, 1), (1, 1)] (fun x => [.int .i64 x.1, .int .i64 x.2]) rfl (fun _ => rfl) e; clear e
  obtain ⟨a3_0, a3_1⟩ := a3
  refine idxAr gok rfl rfl c3 c4 ?_; clear c3 c4
  refine loadN [(.int .i64 a3_0), (.int .i64 a3_1)] rfl c5 ?_; clear c5
  replace H := H.sel [1, 0] rfl
  refine stA gok [(.int .i64 a3_0), (.int .i64 a3_1)] rfl H rfl rfl rfl ?_; clear H; intro w6 H
  refine loadN [(.int .i64 a3_0), (.int .i64 a3_1)] rfl (fun j u hj => H.bx 0 rfl hj) ?_
  cases f5
  exact ⟨_, _, rfl, ⟨rfl, rfl⟩, (H.sel [] rfl).close trivial⟩

theorem impl_hasValue_c (kind_ : Int) (y : Bool) (hF : F_impl_hasValue kind_ = some y) :
  ConF Tryz.prog 66 #[(.int .i64 kind_)] [] [] (fun v Γ' => v = (.bool y) ∧ Γ' = []) := by
 intro w0 S0 fp0 hI hS
 have H : Cx w0 fp0 S0 w0 [] := Cx.start hI hS
 clear hI hS
 refine enterC (args := [_]) gok Tryz.func66 rfl _ rfl rfl rfl ?_
 obtain ⟨r9, f0, f1⟩ := bindS hF; clear hF
 refine cut (fun (q0 : Bool) => [(2, (.bool q0))]) (fun (q0 : Bool) w' => q0 = r9 ∧ Cx w0 fp0 S0 w' []) ?_ ?_
 ·
  obtain ⟨a0, e, f2⟩ := bindS f0; clear f0
  refine boolO e ?_; clear e
  cases a0
  ·
   have f3 := condF f2; clear f2
   obtain ⟨a1, e, f4⟩ := bindS f3; clear f3
   refine boolO e ?_; clear e
   exact ⟨a1, ⟨rfl, trivial⟩, Option.some.inj f4, H.sel [] rfl⟩
  ·
   have f5 := condT f2; clear f2
   exact ⟨true, ⟨rfl, trivial⟩, Option.some.inj f5, H.sel [] rfl⟩
 ·
  clear f0 H
  rintro T0 s7 w1 ⟨hr, (H : Cx w0 fp0 S0 w1 [])⟩
  subst hr
  cases f1
  exact ⟨_, _, rfl, ⟨rfl, rfl⟩, (H.sel [] rfl).close trivial⟩

theorem impl_isGeneratorValue_c (kind_ : Int) (value_ : Int) (y : Bool) (hF : F_impl_isGeneratorValue kind_ value_ = some y) :
  ConF Tryz.prog 99 #[(.int .i64 kind_), (.int .i64 value_)] [] [] (fun v Γ' => v = (.bool y) ∧ Γ' = []) := by
 intro w0 S0 fp0 hI hS
 have H : Cx w0 fp0 S0 w0 [] := Cx.start hI hS
 clear hI hS
 refine enterC (args := [_, _]) gok Tryz.func99 rfl _ rfl rfl rfl ?_
 refine sq ?_
 obtain ⟨y1, e, hF2⟩ := bindS hF; clear hF
 have ey1 := e; clear e
 refine callF (impl_hasValue_c kind_ y1 ey1) (Γi := []) H trivial ?_; clear H ey1
 rintro _ _ w3 ⟨rfl, rfl⟩ H
 cases y1
 ·
  have hF4 := condF hF2; clear hF2
  obtain ⟨a5, e, hF6⟩ := bindS hF4; clear hF4
  refine boolO e ?_; clear e
  cases hF6
  exact ⟨_, _, rfl, ⟨rfl, rfl⟩, (H.sel [] rfl).close trivial⟩
 ·
  have hF7 := condT hF2; clear hF2
  obtain ⟨y8, e, hF9⟩ := bindS hF7; clear hF7
  have ey8 := e; clear e
  refine callF (impl_within_c value_ 0 96 y8 ey8) (Γi := []) H trivial ?_; clear H ey8
  rintro _ _ w1 ⟨rfl, rfl⟩ H
  cases hF9
  exact ⟨_, _, rfl, ⟨rfl, rfl⟩, (H.sel [] rfl).close trivial⟩

theorem impl_leafWires_c (n__0 : Int) (n__1 : Int) (n__2 : ByteArray) (y0_0 : Int) (y0_1 : Int) (y1 : Bool) (hF : F_impl_leafWires (n__0, n__1, n__2) = some ((y0_0, y0_1), y1)) :
  ConF Tryz.prog 107 #[(.agg #[(.int .i64 n__0), (.int .i64 n__1), (.string n__2)])] [] [] (fun v Γ' => v = (.tuple #[(.agg #[(.int .i64 y0_0), (.int .i64 y0_1)]), (.bool y1)]) ∧ Γ' = []) := by
 intro w0 S0 fp0 hI hS
 have H : Cx w0 fp0 S0 w0 [] := Cx.start hI hS
 clear hI hS
 refine enterC (args := [_]) gok Tryz.func107 rfl _ rfl rfl rfl ?_
 refine box_ H ?_; clear H; intro b2 w1 hx H
 clear hx
 refine alloc_ gok rfl H ?_; clear H; intro b5 w4 hx H
 clear hx
 refine sq ?_
 refine fld gok rfl rfl rfl rfl ?_
 refine load1 (H.bx 1 rfl (j := 2) rfl) ?_
 obtain ⟨a7, e, hF8⟩ := bindS hF; clear hF
 refine neqZ e ?_; clear e
 cases a7
 ·
  have hF9 := condF hF8; clear hF8
  refine fld gok rfl rfl rfl rfl ?_
  refine load1 (H.bx 1 rfl (j := 0) rfl) ?_
  obtain ⟨a0, e, f0⟩ := bindS hF9; clear hF9
  refine boolO e ?_; clear e
  cases a0
  ·
   have f1 := condF f0; clear f0
   refine fld gok rfl rfl rfl rfl ?_
   refine load1 (H.bx 1 rfl (j := 0) rfl) ?_
   obtain ⟨a1, e, f2⟩ := bindS f1; clear f1
   refine boolO e ?_; clear e
   cases a1
   ·
    have f3 := condF f2; clear f2
    refine fld gok rfl rfl rfl rfl ?_
    refine load1 (H.bx 1 rfl (j := 0) rfl) ?_
    obtain ⟨y0, e, f4⟩ := bindS f3; clear f3
    have i0 := e; clear e
    refine callF (impl_isGenerator_c n__0 y0 i0) (Γi := []) H trivial ?_; clear H i0
    rintro _ _ w2 ⟨rfl, rfl⟩ H
    cases y0
    ·
     have f5 := condF f4; clear f4
     refine build_ (cs := #[(.int .i64 0), (.int .i64 0)]) gok rfl rfl rfl ?_
     refine stA gok [(.int .i64 0), (.int .i64 0)] rfl H rfl rfl rfl ?_; clear H; intro w3 H
     refine loadN [(.int .i64 0), (.int .i64 0)] rfl (fun j u hj => H.bx 0 rfl hj) ?_
     cases f5
     exact ⟨_, _, rfl, ⟨rfl, rfl⟩, (H.sel [] rfl).close trivial⟩
    ·
     have f6 := condT f4; clear f4
     refine heldX H [8, 9] (.fst 0 (.fst 3 (.fst 5 (.fst 1 (.fst 4 (.fst 6 (.act 2 (.act 7 (.act 8 (.act 9 .done)))))))))) mixed [] trivial (by kernel_rfl) ?_
     clear H; intro w5 H
     have hX : Ext w5 w5 := Upd.refl _ _
     have H0 := H
     refine anyH (fun _ => fld gok rfl rfl rfl rfl ⟨rfl, rfl⟩) ?_
     refine anyH (fun _ => fld gok rfl rfl rfl rfl ⟨rfl, rfl⟩) ?_
     refine anyH (fun _ => fld gok rfl rfl rfl rfl ⟨rfl, rfl⟩) ?_
     refine load1X (H.bx 1 rfl (j := 0) rfl) ?_
     refine load1X (H.bx 1 rfl (j := 0) rfl) ?_
     refine load1X (H.bx 1 rfl (j := 1) rfl) ?_
     obtain ⟨y2, e, f7⟩ := bindS f6; clear f6
     obtain ⟨y2_0, y2_1⟩ := y2
     have i1 := e; clear e
     refine callFx (impl_generatorWires_c n__0 y2_0 y2_1 i1) H trivial ?_; clear H i1
     rintro _ _ w6 ⟨rfl, rfl⟩ hx H
     replace hX := hX.trans0 hx; clear hx
     refine hold hX ?_
     obtain ⟨y3, e, f8⟩ := bindS f7; clear f7
     have i2 := e; clear e
     refine callFx (impl_isGeneratorValue_c n__0 n__1 y3 i2) H trivial ?_; clear H i2
     rintro _ _ w7 ⟨rfl, rfl⟩ hx H
     replace hX := hX.trans0 hx; clear hx
     refine hold hX ?_
     refine stA gok [(.int .i64 y2_0), (.int .i64 y2_1)] rfl H rfl rfl rfl ?_; clear H; intro w8 H
     refine hold trivial ?_
     refine hold trivial ?_
     refine loadN [(.int .i64 y2_0), (.int .i64 y2_1)] rfl (fun j u hj => H.bx 0 rfl hj) ?_
     cases f8
     exact ⟨_, _, rfl, ⟨rfl, rfl⟩, (H.sel [] rfl).close trivial⟩
   ·
    have f9 := condT f2; clear f2
    refine heldX H [4, 5, 0, 1, 2, 3] (.pure 0 (.pure 1 (.pure 2 (.pure 3 (.act 4 (.act 5 .done)))))) mixed [((Addr.add ⟨b2, 0, none⟩ 1), (.int .i64 n__1))] ⟨H.bx 1 rfl (j := 1) rfl, trivial⟩ (by kernel_rfl) ?_
    clear H; intro w9 H
    have hX : Ext w9 w9 := Upd.refl _ _
    have H0 := H
    refine anyH (fun _ => build_ (cs := #[(.int .i64 2), (.int .i64 2)]) gok rfl rfl rfl ⟨rfl, rfl⟩) ?_
    refine anyH (fun _ => fld gok rfl rfl rfl rfl ⟨rfl, rfl⟩) ?_
    refine load1W 0 rfl ?_
    obtain ⟨a2, e, f10⟩ := bindS f9; clear f9
    refine boolO e ?_; clear e
    refine stA gok [(.int .i64 2), (.int .i64 2)] rfl H rfl rfl rfl ?_; clear H; intro w10 H
    refine hold ⟨H.bx 1 rfl (j := 1) rfl, trivial⟩ ?_
    refine hold ⟨H.bx 1 rfl (j := 1) rfl, trivial⟩ ?_
    refine loadN [(.int .i64 2), (.int .i64 2)] rfl (fun j u hj => H.bx 0 rfl hj) ?_
    cases f10
    exact ⟨_, _, rfl, ⟨rfl, rfl⟩, (H.sel [] rfl).close trivial⟩
  ·
   have f11 := condT f0; clear f0
   refine heldX H [8, 9] (.fst 0 (.fst 2 (.fst 5 (.fst 1 (.fst 3 (.fst 4 (.fst 6 (.act 7 (.act 8 (.act 9 .done)))))))))) mixed [] trivial (by kernel_rfl) ?_
   clear H; intro w11 H
   have hX : Ext w11 w11 := Upd.refl _ _
   have H0 := H
   refine anyH (fun _ => fld gok rfl rfl rfl rfl ⟨rfl, rfl⟩) ?_
   refine anyH (fun _ => fld gok rfl rfl rfl rfl ⟨rfl, rfl⟩) ?_
   refine anyH (fun _ => fld gok rfl rfl rfl rfl ⟨rfl, rfl⟩) ?_
   refine load1X (H.bx 1 rfl (j := 1) rfl) ?_
   refine load1X (H.bx 1 rfl (j := 1) rfl) ?_
   refine anyH (fun _ => build_ (cs := #[(.int .i64 n__1), (.int .i64 n__1)]) gok rfl rfl rfl ⟨rfl, rfl⟩) ?_
   refine load1X (H.bx 1 rfl (j := 1) rfl) ?_
   obtain ⟨y4, e, f12⟩ := bindS f11; clear f11
   have i3 := e; clear e
   refine callFx (impl_within_c n__1 0 12 y4 i3) H trivial ?_; clear H i3
   rintro _ _ w12 ⟨rfl, rfl⟩ hx H
   replace hX := hX.trans0 hx; clear hx
   refine hold hX ?_
   refine stA gok [(.int .i64 n__1), (.int .i64 n__1)] rfl H rfl rfl rfl ?_; clear H; intro w13 H
   refine hold trivial ?_
   refine hold trivial ?_
   refine loadN [(.int .i64 n__1), (.int .i64 n__1)] rfl (fun j u hj => H.bx 0 rfl hj) ?_
   cases f12
   exact ⟨_, _, rfl, ⟨rfl, rfl⟩, (H.sel [] rfl).close trivial⟩
 ·
  have f13 := condT hF8; clear hF8
  refine build_ (cs := #[(.int .i64 0), (.int .i64 0)]) gok rfl rfl rfl ?_
  refine stA gok [(.int .i64 0), (.int .i64 0)] rfl H rfl rfl rfl ?_; clear H; intro w14 H
  refine loadN [(.int .i64 0), (.int .i64 0)] rfl (fun j u hj => H.bx 0 rfl hj) ?_
  cases f13
  exact ⟨_, _, rfl, ⟨rfl, rfl⟩, (H.sel [] rfl).close trivial⟩

theorem impl_typed_impl_leafWires_c (nodes_ : List (Int × Int × ByteArray)) (nodes_h : Hd) (y0_0 : Int) (y0_1 : Int) (y1 : Bool) (hF : F_impl_typed_impl_leafWires nodes_ = some ((y0_0, y0_1), y1)) :
  ConF Tryz.prog 106 #[(nodes_h).v, (.func (.func 107) #[] #[])] [Es (List (Int × Int × ByteArray)) nodes_ nodes_h] [] (fun v Γ' => v = (.tuple #[(.agg #[(.int .i64 y0_0), (.int .i64 y0_1)]), (.bool y1)]) ∧ Γ' = []) := by
 intro w0 S0 fp0 hI hS
 have H : Cx w0 fp0 S0 w0 [Es (List (Int × Int × ByteArray)) nodes_ nodes_h] := Cx.start hI hS
 clear hI hS
 refine enterC (args := [_, _]) gok Tryz.func106 rfl _ rfl rfl rfl ?_
 refine alloc_ gok rfl H ?_; clear H; intro b3 w2 hx H
 clear hx
 refine sq ?_
 refine lenE (H.rs (α := List (Int × Int × ByteArray)) 1 rfl).len ?_
 obtain ⟨y5, e, hF6⟩ := bindS hF; clear hF
 have ey5 := e; clear e
 refine callF (impl_within_c ((nodes_.length : Nat) : Int) 1 400 y5 ey5) (Γi := []) H trivial ?_; clear H ey5
 rintro _ _ w7 ⟨rfl, rfl⟩ H
 obtain ⟨a8, e, hF9⟩ := bindS hF6; clear hF6
 refine boolO e ?_; clear e
 cases a8
 ·
  have f0 := condF hF9; clear hF9
  refine lit0 (α := Int × Int) gok rfl rfl H ?_; clear H; intro h0 w1 hx H
  clear hx
  refine sq ?_
  refine lenE (H.rs (α := List (Int × Int × ByteArray)) 2 rfl).len ?_
  have x0 := (H.rs (α := List (Int × Int × ByteArray)) 2 rfl).max
  obtain ⟨r0, e, f1⟩ := bindS f0; clear f0
  refine loopO _ nodes_.length (fun (k0 : Nat) (s0 : List (Int × Int)) (g0 : Hd) => [(1, (.func (.func 107) #[] #[])), (4, (.pointer (some ⟨b3, 0, none⟩))), (6, (g0).v), (20, (nodes_h).v), (21, (.int .i64 ((nodes_.length : Nat) : Int))), (22, (.int .i64 ((k0 : Nat) : Int)))]) (fun _ (s0 : List (Int × Int)) (g0 : Hd) w' => Cx w0 fp0 S0 w' [Bx b3 [(.int .i64 0), (.int .i64 0)], E (List (Int × Int)) s0 g0, Es (List (Int × Int × ByteArray)) nodes_ nodes_h]) ([] : List (Int × Int)) h0 e ⟨rfl, rfl, rfl, rfl, rfl, rfl, trivial⟩ (H.sel [1, 0, 2] rfl) ?_ ?_
  ·
   clear H e
   rintro T0 k0 s0 g0 w3 o0 hk (H : Cx w0 fp0 S0 w3 [Bx b3 [(.int .i64 0), (.int .i64 0)], E (List (Int × Int)) s0 g0, Es (List (Int × Int × ByteArray)) nodes_ nodes_h]) hrt f2
   refine boolE (z := true) (ltLen hk) ?_
   refine sq ?_
   obtain ⟨r1, f3, f4⟩ := bindS f2; clear f2
   refine cut (fun (q0 : (List (Int × Int)) × Hd) => [(1, (.func (.func 107) #[] #[])), (4, (.pointer (some ⟨b3, 0, none⟩))), (6, (q0.2).v), (20, (nodes_h).v), (21, (.int .i64 ((nodes_.length : Nat) : Int))), (22, (.int .i64 ((k0 : Nat) : Int)))]) (fun (q0 : (List (Int × Int)) × Hd) w' => .inl q0.1 = r1 ∧ Cx w0 fp0 S0 w' [Bx b3 [(.int .i64 0), (.int .i64 0)], E (List (Int × Int)) q0.1 q0.2, Es (List (Int × Int × ByteArray)) nodes_ nodes_h]) ?_ ?_
   ·
    obtain ⟨a0, e, f5⟩ := bindS f3; clear f3
    have HH := H; clear H; obtain ⟨p0, m0, g1, c0, c1, c2, c3, H⟩ := HH.el (α := Int × Int × ByteArray) 2 rfl e; clear HH
    clear e
    obtain ⟨a0_0, a0_1, a0_2⟩ := a0
    obtain ⟨_, _, _⟩ := g1
    replace H := H.sel [1, 2, 3] rfl
    refine idxE c0 c1 c2 ?_; clear c0 c1 c2
    refine loadN [(.int .i64 a0_0), (.int .i64 a0_1), (.string a0_2)] rfl c3 ?_; clear c3
    refine alloc_ gok rfl H ?_; clear H; intro b0 w4 hx H
    clear hx
    refine stA gok [(.int .i64 a0_0), (.int .i64 a0_1), (.string a0_2)] rfl H rfl rfl rfl ?_; clear H; intro w5 H
    refine sq ?_
    obtain ⟨r2, f6, f7⟩ := bindS f5; clear f5
    refine cut (fun (q1 : Bool) => [(1, (.func (.func 107) #[] #[])), (4, (.pointer (some ⟨b3, 0, none⟩))), (6, (g0).v), (8, (.pointer (some ⟨b0, 0, none⟩))), (20, (nodes_h).v), (21, (.int .i64 ((nodes_.length : Nat) : Int))), (22, (.int .i64 ((k0 : Nat) : Int))), (33, (.bool q1))]) (fun (q1 : Bool) w' => q1 = r2 ∧ Cx w0 fp0 S0 w' [Bx b3 [(.int .i64 0), (.int .i64 0)], E (List (Int × Int)) s0 g0, Bx b0 [(.int .i64 a0_0), (.int .i64 a0_1), (.string a0_2)], Es (List (Int × Int × ByteArray)) nodes_ nodes_h]) ?_ ?_
    ·
     refine fld gok rfl rfl rfl rfl ?_
     refine load1 (H.bx 0 rfl (j := 0) rfl) ?_
     obtain ⟨a1, e, f8⟩ := bindS f6; clear f6
     refine boolO e ?_; clear e
     cases a1
     ·
      have f9 := condF f8; clear f8
      exact ⟨false, ⟨rfl, rfl, rfl, rfl, rfl, rfl, rfl, rfl, trivial⟩, Option.some.inj f9, H.sel [1, 2, 0, 3] rfl⟩
     ·
      have f10 := condT f8; clear f8
      refine fld gok rfl rfl rfl rfl ?_
      refine load1 (H.bx 0 rfl (j := 0) rfl) ?_
      obtain ⟨a2, e, f11⟩ := bindS f10; clear f10
      refine boolO e ?_; clear e
      exact ⟨a2, ⟨rfl, rfl, rfl, rfl, rfl, rfl, rfl, rfl, trivial⟩, Option.some.inj f11, H.sel [1, 2, 0, 3] rfl⟩
    ·
     clear f6 H
     rintro T1 s1 w6 ⟨hr, (H : Cx w0 fp0 S0 w6 [Bx b3 [(.int .i64 0), (.int .i64 0)], E (List (Int × Int)) s0 g0, Bx b0 [(.int .i64 a0_0), (.int .i64 a0_1), (.string a0_2)], Es (List (Int × Int × ByteArray)) nodes_ nodes_h])⟩
     subst hr
     cases s1
     ·
      have f12 := condF f7; clear f7
      refine sq ?_
      obtain ⟨r3, f13, f14⟩ := bindS f12; clear f12
      refine cut (fun (q2 : Bool) => [(1, (.func (.func 107) #[] #[])), (4, (.pointer (some ⟨b3, 0, none⟩))), (6, (g0).v), (8, (.pointer (some ⟨b0, 0, none⟩))), (20, (nodes_h).v), (21, (.int .i64 ((nodes_.length : Nat) : Int))), (22, (.int .i64 ((k0 : Nat) : Int))), (59, (.bool q2))]) (fun (q2 : Bool) w' => q2 = r3 ∧ Cx w0 fp0 S0 w' [Bx b3 [(.int .i64 0), (.int .i64 0)], E (List (Int × Int)) s0 g0, Bx b0 [(.int .i64 a0_0), (.int .i64 a0_1), (.string a0_2)], Es (List (Int × Int × ByteArray)) nodes_ nodes_h]) ?_ ?_
      ·
       refine fld gok rfl rfl rfl rfl ?_
       refine load1 (H.bx 2 rfl (j := 1) rfl) ?_
       obtain ⟨a3, e, f15⟩ := bindS f13; clear f13
       refine boolO e ?_; clear e
       cases a3
       ·
        have f16 := condF f15; clear f15
        refine fld gok rfl rfl rfl rfl ?_
        refine load1 (H.bx 2 rfl (j := 2) rfl) ?_
        obtain ⟨a4, e, f17⟩ := bindS f16; clear f16
        refine neqZ e ?_; clear e
        cases a4
        ·
         have f18 := condF f17; clear f17
         refine lenE (H.ro (α := List (Int × Int)) 1 rfl).len ?_
         obtain ⟨a5, e, f19⟩ := bindS f18; clear f18
         refine boolO e ?_; clear e
         exact ⟨a5, ⟨rfl, rfl, rfl, rfl, rfl, rfl, rfl, rfl, trivial⟩, Option.some.inj f19, H.sel [0, 1, 2, 3] rfl⟩
        ·
         have f20 := condT f17; clear f17
         exact ⟨true, ⟨rfl, rfl, rfl, rfl, rfl, rfl, rfl, rfl, trivial⟩, Option.some.inj f20, H.sel [0, 1, 2, 3] rfl⟩
       ·
        have f21 := condT f15; clear f15
        exact ⟨true, ⟨rfl, rfl, rfl, rfl, rfl, rfl, rfl, rfl, trivial⟩, Option.some.inj f21, H.sel [0, 1, 2, 3] rfl⟩
      ·
       clear f13 H
       rintro T2 s2 w8 ⟨hr, (H : Cx w0 fp0 S0 w8 [Bx b3 [(.int .i64 0), (.int .i64 0)], E (List (Int × Int)) s0 g0, Bx b0 [(.int .i64 a0_0), (.int .i64 a0_1), (.string a0_2)], Es (List (Int × Int × ByteArray)) nodes_ nodes_h])⟩
       subst hr
       cases s2
       ·
        have f22 := condF f14; clear f14
        refine lenE (H.ro (α := List (Int × Int)) 1 rfl).len ?_
        obtain ⟨a6, e, f23⟩ := bindS f22; clear f22
        refine arO e ?_; clear e
        obtain ⟨r4, f24, f25⟩ := bindS f23; clear f23
        refine heldJ H [] (.fst 0 (.fst 2 (.fst 3 (.fst 4 (.fst 5 (.fst 7 (.fst 8 (.fst 9 (.fst 1 (.fst 6 (.fst 10 (.alts (.alt 11 (.fst 12 (.fst 13 (.fst 14 (.act 15 (.act 16 (.fst 17 .done)))))) (.alt 15 (.act 11 (.fst 12 (.fst 13 (.fst 14 (.act 16 (.fst 17 .done)))))) .no)))))))))))))) mixed [] trivial (by kernel_rfl) (fun (q3 : (Int × Int × Bool) × Nat) => [(1, (.func (.func 107) #[] #[])), (4, (.pointer (some ⟨b3, 0, none⟩))), (6, (g0).v), (11, (.int .i64 a6)), (12, (.pointer (some ⟨q3.2, 0, none⟩))), (13, (.bool q3.1.2.2)), (20, (nodes_h).v), (21, (.int .i64 ((nodes_.length : Nat) : Int))), (22, (.int .i64 ((k0 : Nat) : Int)))]) (fun (q3 : (Int × Int × Bool) × Nat) w' => (q3.1.1, q3.1.2.1, q3.1.2.2) = r4 ∧ Cx w0 fp0 S0 w' [Bx b3 [(.int .i64 0), (.int .i64 0)], E (List (Int × Int)) s0 g0, Bx q3.2 [(.int .i64 q3.1.1), (.int .i64 q3.1.2.1)], Es (List (Int × Int × ByteArray)) nodes_ nodes_h]) ?_ ?_
        ·
         clear H; intro w9 H
         have hX : Ext w9 w9 := Upd.refl _ _
         have H0 := H
         refine anyH (fun _ => fld gok rfl rfl rfl rfl ⟨rfl, rfl⟩) ?_
         obtain ⟨a7, e, f26⟩ := bindS f24; clear f24
         refine arO e ?_; clear e
         obtain ⟨a9, e, f27⟩ := bindS f26; clear f26
         replace H := H.sel [1, 0, 2, 3] rfl
         replace H := H.toEH (α := Int × Int)
         have HH := H; clear H; obtain ⟨p1, m1, g2, c4, c5, c6, c7, H⟩ := HH.peek e; clear HH
         clear e
         obtain ⟨a9_0, a9_1⟩ := a9
         obtain ⟨_, _⟩ := g2
         refine idxE c4 c5 c6 ?_
         obtain ⟨a10, e, f28⟩ := bindS f27; clear f27
         have HH := H; clear H; obtain ⟨p2, m2, g3, c8, c9, c10, c11, H⟩ := HH.peek e; clear HH
         clear e
         obtain ⟨a10_0, a10_1⟩ := a10
         obtain ⟨_, _⟩ := g3
         refine idxE c8 c9 c10 ?_
         refine load1X (H.bx 2 rfl (j := 0) rfl) ?_
         refine loadNX [(.int .i64 a9_0), (.int .i64 a9_1)] rfl c7 ?_; clear c7
         refine loadNX [(.int .i64 a10_0), (.int .i64 a10_1)] rfl c11 ?_; clear c11
         refine both ?_ ?_
         ·
          obtain ⟨y0, e, f29⟩ := bindS f28; clear f28
          obtain ⟨⟨y0_0_0, y0_0_1⟩, y0_1⟩ := y0
          have i0 := e; clear e
          refine callFx (impl_joinWires_c a0_0 a9_0 a9_1 a10_0 a10_1 y0_0_0 y0_0_1 y0_1 i0) H trivial ?_; clear H i0
          rintro _ _ w10 ⟨rfl, rfl⟩ hx H
          replace hX := hX.trans0 hx; clear hx
          refine hold hX ?_
          refine allocX gok rfl H ?_; clear H; intro b1 w12 hx v0 H; replace v0 := Nat.le_trans hX.size v0
          replace hX := hX.trans0 hx; clear hx
          refine hold hX ?_
          refine stAX gok [(.int .i64 y0_0_0), (.int .i64 y0_0_1)] rfl H rfl rfl rfl ?_; clear H; intro w13 hu H
          replace hX := hX.fresh hu v0; clear hu
          refine hold hX ?_
          replace H := H.sel [1, 0, 2, 3, 4] rfl
          replace H := H.ofEH
          exact ⟨((y0_0_0, y0_0_1, y0_1), b1), ⟨rfl, rfl, rfl, rfl, rfl, rfl, rfl, rfl, rfl, trivial⟩, Option.some.inj f29, H.sel [2, 0, 1, 4] rfl⟩
         ·
          refine both ?_ ?_
          ·
           obtain ⟨a11, o1, f30⟩ := bindS f28; clear f28
           refine allocX gok rfl H ?_; clear H; intro b2 w14 hx v1 H; replace v1 := Nat.le_trans hX.size v1
           replace hX := hX.trans0 hx; clear hx
           refine hold hX ?_
           have e := o1; clear o1
           obtain ⟨⟨a11_0_0, a11_0_1⟩, a11_1⟩ := a11
           have i1 := e; clear e
           refine callFx (impl_joinWires_c a0_0 a9_0 a9_1 a10_0 a10_1 a11_0_0 a11_0_1 a11_1 i1) H trivial ?_; clear H i1
           rintro _ _ w15 ⟨rfl, rfl⟩ hx H
           replace hX := hX.trans0 hx; clear hx
           refine hold hX ?_
           refine stAX gok [(.int .i64 a11_0_0), (.int .i64 a11_0_1)] rfl H rfl rfl rfl ?_; clear H; intro w16 hu H
           replace hX := hX.fresh hu v1; clear hu
           refine hold hX ?_
           replace H := H.sel [1, 0, 2, 3, 4] rfl
           replace H := H.ofEH
           exact ⟨((a11_0_0, a11_0_1, a11_1), b2), ⟨rfl, rfl, rfl, rfl, rfl, rfl, rfl, rfl, rfl, trivial⟩, Option.some.inj f30, H.sel [2, 0, 1, 4] rfl⟩
          ·
           exact trivial
        ·
         clear f24 H
         rintro T3 ⟨⟨s3_0, s3_1, s3_2⟩, g4⟩ w17 ⟨hr, (H : Cx w0 fp0 S0 w17 [Bx b3 [(.int .i64 0), (.int .i64 0)], E (List (Int × Int)) s0 g0, Bx g4 [(.int .i64 s3_0), (.int .i64 s3_1)], Es (List (Int × Int × ByteArray)) nodes_ nodes_h])⟩
         subst hr
         refine sq ?_
         obtain ⟨a12, e, f31⟩ := bindS f25; clear f25
         refine boolO e ?_; clear e
         cases a12
         ·
          have f32 := condF f31; clear f31
          refine heldX H [6, 7] (.fst 0 (.fst 1 (.fst 2 (.fst 3 (.fst 4 (.act 5 (.act 6 (.act 7 .done)))))))) mixed [] trivial (by kernel_rfl) ?_
          clear H; intro w18 H
          have hX : Ext w18 w18 := Upd.refl _ _
          have H0 := H
          obtain ⟨a13, e, f33⟩ := bindS f32; clear f32
          refine arO e ?_; clear e
          obtain ⟨a14, e, f34⟩ := bindS f33; clear f33
          replace H := H.sel [1, 0, 2, 3] rfl
          refine slOX (α := Int × Int) gok rfl rfl H e rfl rfl ?_; clear e; intro h1 HH; clear H; have H := HH; clear HH
          refine loadNX [(.int .i64 s3_0), (.int .i64 s3_1)] rfl (fun j u hj => H.bx 2 rfl hj) ?_
          replace H := H.sc (α := Int) s3_1
          replace H := H.sc (α := Int) s3_0
          replace H := H.join (α := Int) (β := Int)
          refine lit1 (α := Int × Int) (g := ((), ())) gok rfl rfl rfl rfl rfl H ?_; clear H; intro h2 w19 hx H
          replace hX := hX.trans0 hx; clear hx
          refine hold hX ?_
          obtain ⟨a15, e, f35⟩ := bindS f34; clear f34
          replace H := H.sel [1, 0, 2, 3, 4] rfl
          refine append_ (α := Int × Int) gok rfl rfl rfl rfl H e ?_; clear e H; intro h3 w20 H
          refine hold trivial ?_
          refine hold trivial ?_
          exact ⟨(a15, h3), ⟨rfl, rfl, rfl, rfl, rfl, rfl, trivial⟩, Option.some.inj f35, H.sel [1, 0, 3] rfl⟩
         ·
          have f36 := condT f31; clear f31
          refine build_ (cs := #[(.int .i64 0), (.int .i64 0)]) gok rfl rfl rfl ?_
          refine stA gok [(.int .i64 0), (.int .i64 0)] rfl H rfl rfl rfl ?_; clear H; intro w21 H
          have hs := Option.some.inj f36; subst hs; clear f36
          have f37 : some _ = some _ := f4; clear f4
          have hs := Option.some.inj f37; subst hs; clear f37
          have hr := hrt _ rfl; subst hr
          have f38 : some _ = some _ := f1
          refine loadN [(.int .i64 0), (.int .i64 0)] rfl (fun j u hj => H.bx 0 rfl hj) ?_
          cases f38
          exact ⟨_, _, rfl, ⟨rfl, rfl⟩, (H.sel [] rfl).close trivial⟩
       ·
        have f39 := condT f14; clear f14
        refine build_ (cs := #[(.int .i64 0), (.int .i64 0)]) gok rfl rfl rfl ?_
        refine stA gok [(.int .i64 0), (.int .i64 0)] rfl H rfl rfl rfl ?_; clear H; intro w22 H
        have hs := Option.some.inj f39; subst hs; clear f39
        have f40 : some _ = some _ := f4; clear f4
        have hs := Option.some.inj f40; subst hs; clear f40
        have hr := hrt _ rfl; subst hr
        have f41 : some _ = some _ := f1
        refine loadN [(.int .i64 0), (.int .i64 0)] rfl (fun j u hj => H.bx 0 rfl hj) ?_
        cases f41
        exact ⟨_, _, rfl, ⟨rfl, rfl⟩, (H.sel [] rfl).close trivial⟩
     ·
      have f42 := condT f7; clear f7
      refine loadN [(.int .i64 a0_0), (.int .i64 a0_1), (.string a0_2)] rfl (fun j u hj => H.bx 2 rfl hj) ?_
      obtain ⟨y2, e, f43⟩ := bindS f42; clear f42
      obtain ⟨⟨y2_0_0, y2_0_1⟩, y2_1⟩ := y2
      have i2 := e; clear e
      refine callF (impl_leafWires_c a0_0 a0_1 a0_2 y2_0_0 y2_0_1 y2_1 i2) (Γi := []) H trivial ?_; clear H i2
      rintro _ _ w23 ⟨rfl, rfl⟩ H
      refine alloc_ gok rfl H ?_; clear H; intro b4 w24 hx H
      clear hx
      refine stA gok [(.int .i64 y2_0_0), (.int .i64 y2_0_1)] rfl H rfl rfl rfl ?_; clear H; intro w25 H
      refine sq ?_
      obtain ⟨a16, e, f44⟩ := bindS f43; clear f43
      refine boolO e ?_; clear e
      cases a16
      ·
       have f45 := condF f44; clear f44
       refine loadN [(.int .i64 y2_0_0), (.int .i64 y2_0_1)] rfl (fun j u hj => H.bx 0 rfl hj) ?_
       replace H := H.sc (α := Int) y2_0_1
       replace H := H.sc (α := Int) y2_0_0
       replace H := H.join (α := Int) (β := Int)
       refine lit1 (α := Int × Int) (g := ((), ())) gok rfl rfl rfl rfl rfl H ?_; clear H; intro h4 w26 hx H
       clear hx
       obtain ⟨a17, e, f46⟩ := bindS f45; clear f45
       replace H := H.sel [3, 0, 1, 2, 4, 5] rfl
       refine append_ (α := Int × Int) gok rfl rfl rfl rfl H e ?_; clear e H; intro h5 w27 H
       exact ⟨(a17, h5), ⟨rfl, rfl, rfl, rfl, rfl, rfl, trivial⟩, Option.some.inj f46, H.sel [2, 0, 4] rfl⟩
      ·
       have f47 := condT f44; clear f44
       refine build_ (cs := #[(.int .i64 0), (.int .i64 0)]) gok rfl rfl rfl ?_
       replace H := H.sel [1, 0, 2, 3, 4] rfl
       refine stA gok [(.int .i64 0), (.int .i64 0)] rfl H rfl rfl rfl ?_; clear H; intro w28 H
       have hs := Option.some.inj f47; subst hs; clear f47
       have f48 : some _ = some _ := f4; clear f4
       have hs := Option.some.inj f48; subst hs; clear f48
       have hr := hrt _ rfl; subst hr
       have f49 : some _ = some _ := f1
       refine loadN [(.int .i64 0), (.int .i64 0)] rfl (fun j u hj => H.bx 0 rfl hj) ?_
       cases f49
       exact ⟨_, _, rfl, ⟨rfl, rfl⟩, (H.sel [] rfl).close trivial⟩
   ·
    clear f3 H
    rintro T4 ⟨s4, g5⟩ w29 ⟨hr, (H : Cx w0 fp0 S0 w29 [Bx b3 [(.int .i64 0), (.int .i64 0)], E (List (Int × Int)) s4 g5, Es (List (Int × Int × ByteArray)) nodes_ nodes_h])⟩
    subst hr
    refine arK hk x0 ?_
    have hs := Option.some.inj f4; subst hs; clear f4
    exact ⟨s4, g5, rfl, ⟨rfl, rfl, rfl, rfl, rfl, rfl, trivial⟩, H.sel [0, 1, 2] rfl⟩
  ·
   clear H e
   rintro T5 s5 g6 w30 hr (H : Cx w0 fp0 S0 w30 [Bx b3 [(.int .i64 0), (.int .i64 0)], E (List (Int × Int)) s5 g6, Es (List (Int × Int × ByteArray)) nodes_ nodes_h])
   subst hr
   refine boolE (z := false) geLen ?_
   refine sq ?_
   obtain ⟨a18, e, f50⟩ := bindS f1; clear f1
   replace H := H.sel [1, 0, 2] rfl
   replace H := H.toEH (α := Int × Int)
   have HH := H; clear H; obtain ⟨p3, m3, g7, c12, c13, c14, c15, H⟩ := HH.peek e; clear HH
   clear e
   obtain ⟨a18_0, a18_1⟩ := a18
   obtain ⟨_, _⟩ := g7
   refine idxE c12 c13 c14 ?_
   refine loadN [(.int .i64 a18_0), (.int .i64 a18_1)] rfl c15 ?_; clear c15
   refine lenE (H.rohd (α := Int × Int) 0 rfl).len ?_
   obtain ⟨a19, e, f51⟩ := bindS f50; clear f50
   refine boolO e ?_; clear e
   replace H := H.sel [1, 0, 2] rfl
   refine stA gok [(.int .i64 a18_0), (.int .i64 a18_1)] rfl H rfl rfl rfl ?_; clear H; intro w31 H
   replace H := H.sel [1, 0, 2] rfl
   replace H := H.ofEH
   refine loadN [(.int .i64 a18_0), (.int .i64 a18_1)] rfl (fun j u hj => H.bx 1 rfl hj) ?_
   cases f51
   exact ⟨_, _, rfl, ⟨rfl, rfl⟩, (H.sel [] rfl).close trivial⟩
 ·
  have f52 := condT hF9; clear hF9
  refine build_ (cs := #[(.int .i64 0), (.int .i64 0)]) gok rfl rfl rfl ?_
  refine stA gok [(.int .i64 0), (.int .i64 0)] rfl H rfl rfl rfl ?_; clear H; intro w32 H
  refine loadN [(.int .i64 0), (.int .i64 0)] rfl (fun j u hj => H.bx 0 rfl hj) ?_
  cases f52
  exact ⟨_, _, rfl, ⟨rfl, rfl⟩, (H.sel [] rfl).close trivial⟩

theorem impl_Term_wires_c (t__0 : List (Int × Int × ByteArray)) (t__0h : Hd) (y0_0 : Int) (y0_1 : Int) (y1 : Bool) (hF : F_impl_Term_wires t__0 = some ((y0_0, y0_1), y1)) :
  ConF Tryz.prog 92 #[(.agg #[(t__0h).v])] [Es (List (Int × Int × ByteArray)) t__0 t__0h] [] (fun v Γ' => v = (.tuple #[(.agg #[(.int .i64 y0_0), (.int .i64 y0_1)]), (.bool y1)]) ∧ Γ' = []) := by
 intro w0 S0 fp0 hI hS
 have H : Cx w0 fp0 S0 w0 [Es (List (Int × Int × ByteArray)) t__0 t__0h] := Cx.start hI hS
 clear hI hS
 refine enterC (args := [_]) gok Tryz.func92 rfl _ rfl rfl rfl ?_
 refine box_ H ?_; clear H; intro b3 w2 hx H
 clear hx
 refine alloc_ gok rfl H ?_; clear H; intro b6 w5 hx H
 clear hx
 refine fld gok rfl rfl rfl rfl ?_
 refine load1 (H.bx 1 rfl (j := 0) rfl) ?_
 obtain ⟨y8, e, hF9⟩ := bindS hF; clear hF
 obtain ⟨⟨y8_0_0, y8_0_1⟩, y8_1⟩ := y8
 have ey8 := e; clear e
 refine callF (impl_typed_impl_leafWires_c t__0 t__0h y8_0_0 y8_0_1 y8_1 ey8) (Γi := []) H ⟨Vw.sh 2 rfl, trivial⟩ ?_; clear H ey8
 rintro _ _ w1 ⟨rfl, rfl⟩ H
 refine stA gok [(.int .i64 y8_0_0), (.int .i64 y8_0_1)] rfl H rfl rfl rfl ?_; clear H; intro w3 H
 refine loadN [(.int .i64 y8_0_0), (.int .i64 y8_0_1)] rfl (fun j u hj => H.bx 0 rfl hj) ?_
 cases hF9
 exact ⟨_, _, rfl, ⟨rfl, rfl⟩, (H.sel [] rfl).close trivial⟩

theorem impl_Term_isValid_c (t__0 : List (Int × Int × ByteArray)) (t__0h : Hd) (y : Bool) (hF : F_impl_Term_isValid t__0 = some y) :
  ConF Tryz.prog 65 #[(.agg #[(t__0h).v])] [Es (List (Int × Int × ByteArray)) t__0 t__0h] [] (fun v Γ' => v = (.bool y) ∧ Γ' = []) := by
 intro w0 S0 fp0 hI hS
 have H : Cx w0 fp0 S0 w0 [Es (List (Int × Int × ByteArray)) t__0 t__0h] := Cx.start hI hS
 clear hI hS
 refine enterC (args := [_]) gok Tryz.func65 rfl _ rfl rfl rfl ?_
 refine box_ H ?_; clear H; intro b3 w2 hx H
 clear hx
 refine loadN [(t__0h).v] rfl (fun j u hj => H.bx 0 rfl hj) ?_
 obtain ⟨y5, e, hF6⟩ := bindS hF; clear hF
 obtain ⟨⟨y5_0_0, y5_0_1⟩, y5_1⟩ := y5
 have ey5 := e; clear e
 refine callF (impl_Term_wires_c t__0 t__0h y5_0_0 y5_0_1 y5_1 ey5) (Γi := []) H ⟨Vw.sh 1 rfl, trivial⟩ ?_; clear H ey5
 rintro _ _ w7 ⟨rfl, rfl⟩ H
 refine alloc_ gok rfl H ?_; clear H; intro b9 w8 hx H
 clear hx
 refine stA gok [(.int .i64 y5_0_0), (.int .i64 y5_0_1)] rfl H rfl rfl rfl ?_; clear H; intro w1 H
 cases hF6
 exact ⟨_, _, rfl, ⟨rfl, rfl⟩, (H.sel [] rfl).close trivial⟩

theorem impl_Term_isOver_c (t__0 : List (Int × Int × ByteArray)) (t__0h : Hd) (p_ : Int) (y : Bool) (hF : F_impl_Term_isOver t__0 p_ = some y) :
  ConF Tryz.prog 34 #[(.agg #[(t__0h).v]), (.int .i64 p_)] [Es (List (Int × Int × ByteArray)) t__0 t__0h, Gl 0 [.int .i64 2, .int .i64 3, .int .i64 5, .int .i64 7]] [] (fun v Γ' => v = (.bool y) ∧ Γ' = []) := by
 intro w0 S0 fp0 hI hS
 have H : Cx w0 fp0 S0 w0 [Es (List (Int × Int × ByteArray)) t__0 t__0h, Gl 0 [.int .i64 2, .int .i64 3, .int .i64 5, .int .i64 7]] := Cx.start hI hS
 clear hI hS
 refine enterC (args := [_, _]) gok Tryz.func34 rfl _ rfl rfl rfl ?_
 refine box_ H ?_; clear H; intro b4 w3 hx H
 clear hx
 refine sq ?_
 obtain ⟨r0, f0, f1⟩ := bindS hF; clear hF
 refine cut (fun (q0 : Bool) => [(1, (.int .i64 p_)), (2, (.pointer (some ⟨b4, 0, none⟩))), (14, (.bool q0))]) (fun (q0 : Bool) w' => q0 = r0 ∧ Cx w0 fp0 S0 w' [Bx b4 [(t__0h).v], Es (List (Int × Int × ByteArray)) t__0 t__0h, Gl 0 [.int .i64 2, .int .i64 3, .int .i64 5, .int .i64 7]]) ?_ ?_
 ·
  obtain ⟨y0, e, f2⟩ := bindS f0; clear f0
  have i0 := e; clear e
  refine callF (impl_isField_c p_ y0 i0) (Γi := []) H ⟨Vw.gl 2 rfl, trivial⟩ ?_; clear H i0
  rintro _ _ w1 ⟨rfl, rfl⟩ H
  obtain ⟨a0, e, f3⟩ := bindS f2; clear f2
  refine boolO e ?_; clear e
  cases a0
  ·
   have f4 := condF f3; clear f3
   refine loadN [(t__0h).v] rfl (fun j u hj => H.bx 0 rfl hj) ?_
   obtain ⟨y1, e, f5⟩ := bindS f4; clear f4
   have i1 := e; clear e
   refine callF (impl_Term_isValid_c t__0 t__0h y1 i1) (Γi := []) H ⟨Vw.sh 1 rfl, trivial⟩ ?_; clear H i1
   rintro _ _ w2 ⟨rfl, rfl⟩ H
   obtain ⟨a1, e, f6⟩ := bindS f5; clear f5
   refine boolO e ?_; clear e
   exact ⟨a1, ⟨rfl, rfl, rfl, trivial⟩, Option.some.inj f6, H.sel [0, 1, 2] rfl⟩
  ·
   have f7 := condT f3; clear f3
   exact ⟨true, ⟨rfl, rfl, rfl, trivial⟩, Option.some.inj f7, H.sel [0, 1, 2] rfl⟩
 ·
  clear f0 H
  rintro T0 s0 w4 ⟨hr, (H : Cx w0 fp0 S0 w4 [Bx b4 [(t__0h).v], Es (List (Int × Int × ByteArray)) t__0 t__0h, Gl 0 [.int .i64 2, .int .i64 3, .int .i64 5, .int .i64 7]])⟩
  subst hr
  cases s0
  ·
   have f8 := condF f1; clear f1
   refine sq ?_
   refine fld gok rfl rfl rfl rfl ?_
   refine load1 (H.bx 0 rfl (j := 0) rfl) ?_
   refine lenE (H.rs (α := List (Int × Int × ByteArray)) 1 rfl).len ?_
   have x0 := (H.rs (α := List (Int × Int × ByteArray)) 1 rfl).max
   obtain ⟨r1, e, f9⟩ := bindS f8; clear f8
   refine loopO _ t__0.length (fun (k0 : Nat) (_ : Unit) (_ : Unit) => [(1, (.int .i64 p_)), (16, (t__0h).v), (17, (.int .i64 ((t__0.length : Nat) : Int))), (18, (.int .i64 ((k0 : Nat) : Int)))]) (fun _ (_ : Unit) (_ : Unit) w' => Cx w0 fp0 S0 w' [Es (List (Int × Int × ByteArray)) t__0 t__0h, Gl 0 [.int .i64 2, .int .i64 3, .int .i64 5, .int .i64 7]]) () () e ⟨rfl, rfl, rfl, rfl, trivial⟩ (H.sel [1, 2] rfl) ?_ ?_
   ·
    clear H e
    rintro T1 k0 _ _ w5 o0 hk (H : Cx w0 fp0 S0 w5 [Es (List (Int × Int × ByteArray)) t__0 t__0h, Gl 0 [.int .i64 2, .int .i64 3, .int .i64 5, .int .i64 7]]) hrt f10
    refine boolE (z := true) (ltLen hk) ?_
    refine sq ?_
    refine sq ?_
    obtain ⟨a2, e, f11⟩ := bindS f10; clear f10
    have HH := H; clear H; obtain ⟨p0, m0, g0, c0, c1, c2, c3, H⟩ := HH.el (α := Int × Int × ByteArray) 0 rfl e; clear HH
    clear e
    obtain ⟨a2_0, a2_1, a2_2⟩ := a2
    obtain ⟨_, _, _⟩ := g0
    replace H := H.sel [1, 2] rfl
    refine idxE c0 c1 c2 ?_; clear c0 c1 c2
    refine loadN [(.int .i64 a2_0), (.int .i64 a2_1), (.string a2_2)] rfl c3 ?_; clear c3
    refine alloc_ gok rfl H ?_; clear H; intro b0 w6 hx H
    clear hx
    refine stA gok [(.int .i64 a2_0), (.int .i64 a2_1), (.string a2_2)] rfl H rfl rfl rfl ?_; clear H; intro w7 H
    obtain ⟨r2, f12, f13⟩ := bindS f11; clear f11
    refine cut (fun (q1 : Bool) => [(1, (.int .i64 p_)), (16, (t__0h).v), (17, (.int .i64 ((t__0.length : Nat) : Int))), (18, (.int .i64 ((k0 : Nat) : Int))), (30, (.bool q1))]) (fun (q1 : Bool) w' => q1 = r2 ∧ Cx w0 fp0 S0 w' [Es (List (Int × Int × ByteArray)) t__0 t__0h, Gl 0 [.int .i64 2, .int .i64 3, .int .i64 5, .int .i64 7]]) ?_ ?_
    ·
     refine fld gok rfl rfl rfl rfl ?_
     refine load1 (H.bx 0 rfl (j := 0) rfl) ?_
     obtain ⟨y2, e, f14⟩ := bindS f12; clear f12
     have i2 := e; clear e
     refine callF (impl_hasValue_c a2_0 y2 i2) (Γi := []) H trivial ?_; clear H i2
     rintro _ _ w8 ⟨rfl, rfl⟩ H
     cases y2
     ·
      have f15 := condF f14; clear f14
      exact ⟨false, ⟨rfl, rfl, rfl, rfl, rfl, trivial⟩, Option.some.inj f15, H.sel [1, 2] rfl⟩
     ·
      have f16 := condT f14; clear f14
      refine fld gok rfl rfl rfl rfl ?_
      refine load1 (H.bx 0 rfl (j := 1) rfl) ?_
      obtain ⟨a3, e, f17⟩ := bindS f16; clear f16
      refine boolO e ?_; clear e
      exact ⟨a3, ⟨rfl, rfl, rfl, rfl, rfl, trivial⟩, Option.some.inj f17, H.sel [1, 2] rfl⟩
    ·
     clear f12 H
     rintro T2 s1 w9 ⟨hr, (H : Cx w0 fp0 S0 w9 [Es (List (Int × Int × ByteArray)) t__0 t__0h, Gl 0 [.int .i64 2, .int .i64 3, .int .i64 5, .int .i64 7]])⟩
     subst hr
     cases s1
     ·
      have f18 := condF f13; clear f13
      refine arK hk x0 ?_
      have hs := Option.some.inj f18; subst hs; clear f18
      exact ⟨(), (), rfl, ⟨rfl, rfl, rfl, rfl, trivial⟩, H.sel [0, 1] rfl⟩
     ·
      have f19 := condT f13; clear f13
      have hs := Option.some.inj f19; subst hs; clear f19
      have hr := hrt _ rfl; subst hr
      have f20 : some _ = some _ := f9
      cases f20
      exact ⟨_, _, rfl, ⟨rfl, rfl⟩, (H.sel [] rfl).close trivial⟩
   ·
    clear H e
    rintro T3 _ _ w10 hr (H : Cx w0 fp0 S0 w10 [Es (List (Int × Int × ByteArray)) t__0 t__0h, Gl 0 [.int .i64 2, .int .i64 3, .int .i64 5, .int .i64 7]])
    subst hr
    refine boolE (z := false) geLen ?_
    refine sq ?_
    cases f9
    exact ⟨_, _, rfl, ⟨rfl, rfl⟩, (H.sel [] rfl).close trivial⟩
  ·
   have f21 := condT f1; clear f1
   cases f21
   exact ⟨_, _, rfl, ⟨rfl, rfl⟩, (H.sel [] rfl).close trivial⟩

theorem impl_isDelay_c (kind_ : Int) (y : Bool) (hF : F_impl_isDelay kind_ = some y) :
  ConF Tryz.prog 35 #[(.int .i64 kind_)] [] [] (fun v Γ' => v = (.bool y) ∧ Γ' = []) := by
 intro w0 S0 fp0 hI hS
 have H : Cx w0 fp0 S0 w0 [] := Cx.start hI hS
 clear hI hS
 refine enterC (args := [_]) gok Tryz.func35 rfl _ rfl rfl rfl ?_
 obtain ⟨r9, f0, f1⟩ := bindS hF; clear hF
 refine cut (fun (q0 : Bool) => [(2, (.bool q0))]) (fun (q0 : Bool) w' => q0 = r9 ∧ Cx w0 fp0 S0 w' []) ?_ ?_
 ·
  obtain ⟨a0, e, f2⟩ := bindS f0; clear f0
  refine boolO e ?_; clear e
  cases a0
  ·
   have f3 := condF f2; clear f2
   obtain ⟨a1, e, f4⟩ := bindS f3; clear f3
   refine boolO e ?_; clear e
   exact ⟨a1, ⟨rfl, trivial⟩, Option.some.inj f4, H.sel [] rfl⟩
  ·
   have f5 := condT f2; clear f2
   exact ⟨true, ⟨rfl, trivial⟩, Option.some.inj f5, H.sel [] rfl⟩
 ·
  clear f0 H
  rintro T0 s7 w1 ⟨hr, (H : Cx w0 fp0 S0 w1 [])⟩
  subst hr
  cases f1
  exact ⟨_, _, rfl, ⟨rfl, rfl⟩, (H.sel [] rfl).close trivial⟩

theorem impl_Term_isStatic_c (t__0 : List (Int × Int × ByteArray)) (t__0h : Hd) (p_ : Int) (y : Bool) (hF : F_impl_Term_isStatic t__0 p_ = some y) :
  ConF Tryz.prog 18 #[(.agg #[(t__0h).v]), (.int .i64 p_)] [Es (List (Int × Int × ByteArray)) t__0 t__0h, Gl 0 [.int .i64 2, .int .i64 3, .int .i64 5, .int .i64 7]] [] (fun v Γ' => v = (.bool y) ∧ Γ' = []) := by
 intro w0 S0 fp0 hI hS
 have H : Cx w0 fp0 S0 w0 [Es (List (Int × Int × ByteArray)) t__0 t__0h, Gl 0 [.int .i64 2, .int .i64 3, .int .i64 5, .int .i64 7]] := Cx.start hI hS
 clear hI hS
 refine enterC (args := [_, _]) gok Tryz.func18 rfl _ rfl rfl rfl ?_
 refine box_ H ?_; clear H; intro b4 w3 hx H
 clear hx
 refine sq ?_
 refine loadN [(t__0h).v] rfl (fun j u hj => H.bx 0 rfl hj) ?_
 obtain ⟨y6, e, hF7⟩ := bindS hF; clear hF
 have ey6 := e; clear e
 refine callF (impl_Term_isOver_c t__0 t__0h p_ y6 ey6) (Γi := []) H ⟨Vw.sh 1 rfl, Vw.gl 2 rfl, trivial⟩ ?_; clear H ey6
 rintro _ _ w8 ⟨rfl, rfl⟩ H
 obtain ⟨a9, e, f0⟩ := bindS hF7; clear hF7
 refine boolO e ?_; clear e
 cases a9
 ·
  have f1 := condF f0; clear f0
  refine sq ?_
  refine fld gok rfl rfl rfl rfl ?_
  refine load1 (H.bx 0 rfl (j := 0) rfl) ?_
  refine lenE (H.rs (α := List (Int × Int × ByteArray)) 1 rfl).len ?_
  have x0 := (H.rs (α := List (Int × Int × ByteArray)) 1 rfl).max
  obtain ⟨r0, e, f2⟩ := bindS f1; clear f1
  refine loopO _ t__0.length (fun (k0 : Nat) (_ : Unit) (_ : Unit) => [(12, (t__0h).v), (13, (.int .i64 ((t__0.length : Nat) : Int))), (14, (.int .i64 ((k0 : Nat) : Int)))]) (fun _ (_ : Unit) (_ : Unit) w' => Cx w0 fp0 S0 w' [Es (List (Int × Int × ByteArray)) t__0 t__0h, Gl 0 [.int .i64 2, .int .i64 3, .int .i64 5, .int .i64 7]]) () () e ⟨rfl, rfl, rfl, trivial⟩ (H.sel [1, 2] rfl) ?_ ?_
  ·
   clear H e
   rintro T0 k0 _ _ w1 o0 hk (H : Cx w0 fp0 S0 w1 [Es (List (Int × Int × ByteArray)) t__0 t__0h, Gl 0 [.int .i64 2, .int .i64 3, .int .i64 5, .int .i64 7]]) hrt f3
   refine boolE (z := true) (ltLen hk) ?_
   refine sq ?_
   refine sq ?_
   obtain ⟨a0, e, f4⟩ := bindS f3; clear f3
   have HH := H; clear H; obtain ⟨p0, m0, g0, c0, c1, c2, c3, H⟩ := HH.el (α := Int × Int × ByteArray) 0 rfl e; clear HH
   clear e
   obtain ⟨a0_0, a0_1, a0_2⟩ := a0
   obtain ⟨_, _, _⟩ := g0
   replace H := H.sel [1, 2] rfl
   refine idxE c0 c1 c2 ?_; clear c0 c1 c2
   refine loadN [(.int .i64 a0_0), (.int .i64 a0_1), (.string a0_2)] rfl c3 ?_; clear c3
   refine alloc_ gok rfl H ?_; clear H; intro b0 w2 hx H
   clear hx
   refine stA gok [(.int .i64 a0_0), (.int .i64 a0_1), (.string a0_2)] rfl H rfl rfl rfl ?_; clear H; intro w4 H
   refine fld gok rfl rfl rfl rfl ?_
   refine load1 (H.bx 0 rfl (j := 0) rfl) ?_
   obtain ⟨y0, e, f5⟩ := bindS f4; clear f4
   have i0 := e; clear e
   refine callF (impl_isDelay_c a0_0 y0 i0) (Γi := []) H trivial ?_; clear H i0
   rintro _ _ w5 ⟨rfl, rfl⟩ H
   cases y0
   ·
    have f6 := condF f5; clear f5
    refine arK hk x0 ?_
    have hs := Option.some.inj f6; subst hs; clear f6
    exact ⟨(), (), rfl, ⟨rfl, rfl, rfl, trivial⟩, H.sel [1, 2] rfl⟩
   ·
    have f7 := condT f5; clear f5
    have hs := Option.some.inj f7; subst hs; clear f7
    have hr := hrt _ rfl; subst hr
    have f8 : some _ = some _ := f2
    cases f8
    exact ⟨_, _, rfl, ⟨rfl, rfl⟩, (H.sel [] rfl).close trivial⟩
  ·
   clear H e
   rintro T1 _ _ w6 hr (H : Cx w0 fp0 S0 w6 [Es (List (Int × Int × ByteArray)) t__0 t__0h, Gl 0 [.int .i64 2, .int .i64 3, .int .i64 5, .int .i64 7]])
   subst hr
   refine boolE (z := false) geLen ?_
   refine sq ?_
   cases f2
   exact ⟨_, _, rfl, ⟨rfl, rfl⟩, (H.sel [] rfl).close trivial⟩
 ·
  have f9 := condT f0; clear f0
  cases f9
  exact ⟨_, _, rfl, ⟨rfl, rfl⟩, (H.sel [] rfl).close trivial⟩

theorem impl_zeros_c (n_ : Int) (y : List Int) (hF : F_impl_zeros n_ = some y) :
  ConF Tryz.prog 44 #[(.int .i64 n_)] [] [] (fun v Γ' => ∃ z0 : Hd, v = (z0).v ∧ Γ' = [E (List Int) y z0]) := by
 intro w0 S0 fp0 hI hS
 have H : Cx w0 fp0 S0 w0 [] := Cx.start hI hS
 clear hI hS
 refine enterC (args := [_]) gok Tryz.func44 rfl _ rfl rfl rfl ?_
 obtain ⟨a1, e, hF2⟩ := bindS hF; clear hF
 refine make_ (α := Int) gok rfl rfl rfl rfl (makeCO_of e) H ?_; clear e H; intro h4 w3 hx H
 clear hx
 cases hF2
 exact ⟨_, _, rfl, ⟨h4, rfl, rfl⟩, (H.sel [0] rfl).close ⟨cloE, trivial⟩⟩

theorem impl_upTo_c (n_ : Int) (y : List Int) (hF : F_impl_upTo n_ = some y) :
  ConF Tryz.prog 74 #[(.int .i64 n_)] [] [] (fun v Γ' => ∃ z0 : Hd, v = (z0).v ∧ Γ' = [E (List Int) y z0]) := by
 intro w0 S0 fp0 hI hS
 have H : Cx w0 fp0 S0 w0 [] := Cx.start hI hS
 clear hI hS
 refine enterC (args := [_]) gok Tryz.func74 rfl _ rfl rfl rfl ?_
 obtain ⟨y1, e, hF2⟩ := bindS hF; clear hF
 have ey1 := e; clear e
 refine callF (impl_zeros_c n_ y1 ey1) (Γi := []) H trivial ?_; clear H ey1
 rintro _ _ w3 ⟨h4, rfl, rfl⟩ H
 refine sq ?_
 refine lenE (H.ro (α := List Int) 0 rfl).len ?_
 have x0 := (H.ro (α := List Int) 0 rfl).max
 obtain ⟨r0, e, f0⟩ := bindS hF2; clear hF2
 refine loopS _ y1.length (fun (k6 : Nat) (s0 : List Int) (_ : Unit) => [(3, (h4).v), (8, (.int .i64 ((y1.length : Nat) : Int))), (9, (.int .i64 ((k6 : Nat) : Int)))]) (fun _ (s0 : List Int) (_ : Unit) w' => Cx w0 fp0 S0 w' [E (List Int) s0 h4]) y1 () e ⟨rfl, rfl, rfl, trivial⟩ (H.sel [0] rfl) ?_ ?_
 ·
  clear H e
  rintro T0 k6 s0 _ w1 o0 hk (H : Cx w0 fp0 S0 w1 [E (List Int) s0 h4]) f1
  refine boolE (z := true) (ltLen hk) ?_
  refine sq ?_
  refine sq ?_
  obtain ⟨a0, e, f2⟩ := bindS f1; clear f1
  have i0 := e; clear e
  obtain ⟨p0, m0, c0, c1, c2⟩ := (H.ro (α := List Int) 0 rfl).setp i0
  refine idxE c0 c1 c2 ?_
  refine setS (α := Int) H c0 c1 i0 ?_; clear H c0 c1 c2 i0; intro w2 H
  refine arK hk x0 ?_
  have hs := Option.some.inj f2; subst hs; clear f2
  exact ⟨(), ⟨rfl, rfl, rfl, trivial⟩, H.sel [0] rfl⟩
 ·
  clear H e
  rintro T1 _ w4 (H : Cx w0 fp0 S0 w4 [E (List Int) r0 h4])
  refine boolE (z := false) geLen ?_
  refine sq ?_
  cases f0
  exact ⟨_, _, rfl, ⟨h4, rfl, rfl⟩, (H.sel [0] rfl).close ⟨cloE, trivial⟩⟩

theorem impl_chosen_c (v_ : List Int) (v_h : Hd) (at_ : List Int) (at_h : Hd) (y : List Int) (hF : F_impl_chosen v_ at_ = some y) :
  ConF Tryz.prog 94 #[(v_h).v, (at_h).v] [Es (List Int) v_ v_h, Es (List Int) at_ at_h] [] (fun v Γ' => ∃ z0 : Hd, v = (z0).v ∧ Γ' = [E (List Int) y z0]) := by
 intro w0 S0 fp0 hI hS
 have H : Cx w0 fp0 S0 w0 [Es (List Int) v_ v_h, Es (List Int) at_ at_h] := Cx.start hI hS
 clear hI hS
 refine enterC (args := [_, _]) gok Tryz.func94 rfl _ rfl rfl rfl ?_
 refine lenE (H.rs (α := List Int) 1 rfl).len ?_
 obtain ⟨a3, e, hF4⟩ := bindS hF; clear hF
 refine make_ (α := Int) gok rfl rfl rfl rfl e H ?_; clear e H; intro h6 w5 hx H
 clear hx
 refine sq ?_
 refine lenE (H.rs (α := List Int) 2 rfl).len ?_
 have x0 := (H.rs (α := List Int) 2 rfl).max
 obtain ⟨r0, e, f0⟩ := bindS hF4; clear hF4
 refine loopS _ at_.length (fun (k8 : Nat) (s0 : List Int) (g0 : Hd) => [(0, (v_h).v), (5, (g0).v), (11, (at_h).v), (12, (.int .i64 ((at_.length : Nat) : Int))), (13, (.int .i64 ((k8 : Nat) : Int)))]) (fun _ (s0 : List Int) (g0 : Hd) w' => Cx w0 fp0 S0 w' [Es (List Int) v_ v_h, E (List Int) s0 g0, Es (List Int) at_ at_h]) a3 h6 e ⟨rfl, rfl, rfl, rfl, rfl, trivial⟩ (H.sel [1, 0, 2] rfl) ?_ ?_
 ·
  clear H e
  rintro T0 k8 s0 g0 w1 o0 hk (H : Cx w0 fp0 S0 w1 [Es (List Int) v_ v_h, E (List Int) s0 g0, Es (List Int) at_ at_h]) f1
  refine boolE (z := true) (ltLen hk) ?_
  refine sq ?_
  refine sq ?_
  obtain ⟨a0, e, f2⟩ := bindS f1; clear f1
  obtain ⟨p0, m0, c0, c1, c2, c3⟩ := (H.rs (α := List Int) 2 rfl).at1 e; clear e
  refine idxE c0 c1 c2 ?_; clear c0 c1 c2
  refine load1 c3 ?_; clear c3
  obtain ⟨a1, e, f3⟩ := bindS f2; clear f2
  obtain ⟨p1, m1, c4, c5, c6, c7⟩ := (H.rs (α := List Int) 0 rfl).at1 e; clear e
  refine idxE c4 c5 c6 ?_; clear c4 c5 c6
  refine load1 c7 ?_; clear c7
  refine lit1S (α := Int) gok rfl rfl rfl rfl H ?_; clear H; intro h0 w2 hx H
  clear hx
  obtain ⟨a2, e, f4⟩ := bindS f3; clear f3
  replace H := H.sel [2, 0, 1, 3] rfl
  refine append_ (α := Int) gok rfl rfl rfl rfl H e ?_; clear e H; intro h1 w3 H
  refine arK hk x0 ?_
  have hs := Option.some.inj f4; subst hs; clear f4
  exact ⟨h1, ⟨rfl, rfl, rfl, rfl, rfl, trivial⟩, H.sel [1, 0, 2] rfl⟩
 ·
  clear H e
  rintro T1 g1 w4 (H : Cx w0 fp0 S0 w4 [Es (List Int) v_ v_h, E (List Int) r0 g1, Es (List Int) at_ at_h])
  refine boolE (z := false) geLen ?_
  refine sq ?_
  cases f0
  exact ⟨_, _, rfl, ⟨g1, rfl, rfl⟩, (H.sel [1] rfl).close ⟨cloE, trivial⟩⟩

theorem impl_mapped_c (list_ : List Int) (list_h : Hd) (to_ : List Int) (to_h : Hd) (y : List Int) (hF : F_impl_mapped list_ to_ = some y) :
  ConF Tryz.prog 69 #[(list_h).v, (to_h).v] [Es (List Int) list_ list_h, Es (List Int) to_ to_h] [] (fun v Γ' => ∃ z0 : Hd, v = (z0).v ∧ Γ' = [E (List Int) y z0]) := by
 intro w0 S0 fp0 hI hS
 have H : Cx w0 fp0 S0 w0 [Es (List Int) list_ list_h, Es (List Int) to_ to_h] := Cx.start hI hS
 clear hI hS
 refine enterC (args := [_, _]) gok Tryz.func69 rfl _ rfl rfl rfl ?_
 obtain ⟨y3, e, hF4⟩ := bindS hF; clear hF
 have ey3 := e; clear e
 refine callF (impl_chosen_c to_ to_h list_ list_h y3 ey3) (Γi := []) H ⟨Vw.sh 1 rfl, Vw.sh 0 rfl, trivial⟩ ?_; clear H ey3
 rintro _ _ w5 ⟨h6, rfl, rfl⟩ H
 cases hF4
 exact ⟨_, _, rfl, ⟨h6, rfl, rfl⟩, (H.sel [0] rfl).close ⟨cloE, trivial⟩⟩

theorem impl_Graph_moved_c (g__0 : Int) (g__1 : List (Int × Int × List Int × List Int)) (g__1h : Hd) (g__2 : List Int) (g__2h : Hd) (g__3 : List Int) (g__3h : Hd) (count_ : Int) (to_ : List Int) (to_h : Hd) (y_0 : Int) (y_1 : List (Int × Int × List Int × List Int)) (y_2 : List Int) (y_3 : List Int) (hF : F_impl_Graph_moved (g__0, g__1, g__2, g__3) count_ to_ = some (y_0, y_1, y_2, y_3)) :
  ConF Tryz.prog 93 #[(.agg #[(.int .i64 g__0), (g__1h).v, (g__2h).v, (g__3h).v]), (.int .i64 count_), (to_h).v] [Es (List (Int × Int × List Int × List Int)) g__1 g__1h, Es (List Int) g__2 g__2h, Es (List Int) g__3 g__3h, Es (List Int) to_ to_h] [] (fun v Γ' => ∃ z0 z1 z2 : Hd, v = (.agg #[(.int .i64 y_0), (z0).v, (z1).v, (z2).v]) ∧ Γ' = [E (List (Int × Int × List Int × List Int)) y_1 z0, E (List Int) y_2 z1, E (List Int) y_3 z2]) := by
 intro w0 S0 fp0 hI hS
 have H : Cx w0 fp0 S0 w0 [Es (List (Int × Int × List Int × List Int)) g__1 g__1h, Es (List Int) g__2 g__2h, Es (List Int) g__3 g__3h, Es (List Int) to_ to_h] := Cx.start hI hS
 clear hI hS
 refine enterC (args := [_, _, _]) gok Tryz.func93 rfl _ rfl rfl rfl ?_
 refine box_ H ?_; clear H; intro b6 w5 hx H
 clear hx
 refine alloc_ gok rfl H ?_; clear H; intro b9 w8 hx H
 clear hx
 obtain ⟨r0, f0, f1⟩ := bindS hF; clear hF
 refine heldJ H [] (.fst 0 (.fst 1 (.fst 3 (.fst 5 (.fst 7 (.fst 2 (.fst 6 (.alts (.alt 4 (.alts (.alt 8 (.fst 9 (.act 10 (.act 11 .done))) (.alt 10 (.act 8 (.fst 9 (.act 11 .done))) .no))) (.alt 10 (.act 4 (.act 8 (.fst 9 (.act 11 .done)))) .no)))))))))) mixed [] trivial (by kernel_rfl) (fun (q0 : (Int × List Int × List Int) × (Hd × Hd × Nat)) => [(2, (to_h).v), (3, (.pointer (some ⟨b6, 0, none⟩))), (6, (.pointer (some ⟨b9, 0, none⟩))), (7, (.pointer (some ⟨q0.2.2.2, 0, none⟩)))]) (fun (q0 : (Int × List Int × List Int) × (Hd × Hd × Nat)) w' => (q0.1.1, q0.1.2.1, q0.1.2.2) = r0 ∧ Cx w0 fp0 S0 w' [Es (List Int) to_ to_h, Bx b6 [(.int .i64 g__0), (g__1h).v, (g__2h).v, (g__3h).v], Es (List (Int × Int × List Int × List Int)) g__1 g__1h, Es (List Int) g__2 g__2h, Es (List Int) g__3 g__3h, Bx b9 [(.int .i64 0), (.slice none 0 0), (.slice none 0 0), (.slice none 0 0)], Bx q0.2.2.2 [(.int .i64 q0.1.1), (.slice none 0 0), (q0.2.1).v, (q0.2.2.1).v], E (List Int) q0.1.2.1 q0.2.1, E (List Int) q0.1.2.2 q0.2.2.1]) ?_ ?_
 ·
  clear H; intro w1 H
  have hX : Ext w1 w1 := Upd.refl _ _
  have H0 := H
  refine anyH (fun _ => fld gok rfl rfl rfl rfl ⟨rfl, rfl⟩) ?_
  refine anyH (fun _ => fld gok rfl rfl rfl rfl ⟨rfl, rfl⟩) ?_
  refine load1X (H.bx 1 rfl (j := 2) rfl) ?_
  refine load1X (H.bx 1 rfl (j := 3) rfl) ?_
  refine both ?_ ?_
  ·
   obtain ⟨y0, e, f2⟩ := bindS f0; clear f0
   have i0 := e; clear e
   refine callFx (impl_mapped_c g__2 g__2h to_ to_h y0 i0) H ⟨Vw.sh 3 rfl, Vw.sh 5 rfl, trivial⟩ ?_; clear H i0
   rintro _ _ w2 ⟨h0, rfl, rfl⟩ hx H
   replace hX := hX.trans0 hx; clear hx
   refine hold hX ?_
   refine both ?_ ?_
   ·
    obtain ⟨y1, e, f3⟩ := bindS f2; clear f2
    have i1 := e; clear e
    refine callFx (impl_mapped_c g__3 g__3h to_ to_h y1 i1) H ⟨Vw.sh 5 rfl, Vw.sh 6 rfl, trivial⟩ ?_; clear H i1
    rintro _ _ w3 ⟨h1, rfl, rfl⟩ hx H
    replace hX := hX.trans0 hx; clear hx
    refine hold hX ?_
    refine anyH (fun _ => build_ (cs := #[(.int .i64 count_), (.slice none 0 0), (h0).v, (h1).v]) gok rfl rfl rfl ⟨rfl, rfl⟩) ?_
    refine allocX gok rfl H ?_; clear H; intro b0 w4 hx v0 H; replace v0 := Nat.le_trans hX.size v0
    replace hX := hX.trans0 hx; clear hx
    refine hold hX ?_
    refine stAX gok [(.int .i64 count_), (.slice none 0 0), (h0).v, (h1).v] rfl H rfl rfl rfl ?_; clear H; intro w6 hu H
    replace hX := hX.fresh hu v0; clear hu
    refine hold hX ?_
    exact ⟨((count_, y0, y1), (h0, h1, b0)), ⟨rfl, rfl, rfl, rfl, trivial⟩, Option.some.inj f3, H.sel [8, 4, 5, 6, 7, 3, 0, 2, 1] rfl⟩
   ·
    refine both ?_ ?_
    ·
     obtain ⟨a0, o0, f4⟩ := bindS f2; clear f2
     refine allocX gok rfl H ?_; clear H; intro b1 w7 hx v1 H; replace v1 := Nat.le_trans hX.size v1
     replace hX := hX.trans0 hx; clear hx
     refine hold hX ?_
     have e := o0; clear o0
     have i2 := e; clear e
     refine callFx (impl_mapped_c g__3 g__3h to_ to_h a0 i2) H ⟨Vw.sh 6 rfl, Vw.sh 7 rfl, trivial⟩ ?_; clear H i2
     rintro _ _ w9 ⟨h2, rfl, rfl⟩ hx H
     replace hX := hX.trans0 hx; clear hx
     refine hold hX ?_
     refine anyH (fun _ => build_ (cs := #[(.int .i64 count_), (.slice none 0 0), (h0).v, (h2).v]) gok rfl rfl rfl ⟨rfl, rfl⟩) ?_
     replace H := H.sel [1, 0, 2, 3, 4, 5, 6, 7, 8] rfl
     refine stAX gok [(.int .i64 count_), (.slice none 0 0), (h0).v, (h2).v] rfl H rfl rfl rfl ?_; clear H; intro w10 hu H
     replace hX := hX.fresh hu v1; clear hu
     refine hold hX ?_
     exact ⟨((count_, y0, a0), (h0, h2, b1)), ⟨rfl, rfl, rfl, rfl, trivial⟩, Option.some.inj f4, H.sel [8, 4, 5, 6, 7, 3, 0, 2, 1] rfl⟩
    ·
     exact trivial
  ·
   refine both ?_ ?_
   ·
    obtain ⟨a1, o1, f5⟩ := bindS f0; clear f0
    obtain ⟨a2, o2, f6⟩ := bindS f5; clear f5
    refine allocX gok rfl H ?_; clear H; intro b2 w11 hx v2 H; replace v2 := Nat.le_trans hX.size v2
    replace hX := hX.trans0 hx; clear hx
    refine hold hX ?_
    have e := o1; clear o1
    have i3 := e; clear e
    refine callFx (impl_mapped_c g__2 g__2h to_ to_h a1 i3) H ⟨Vw.sh 4 rfl, Vw.sh 6 rfl, trivial⟩ ?_; clear H i3
    rintro _ _ w12 ⟨h3, rfl, rfl⟩ hx H
    replace hX := hX.trans0 hx; clear hx
    refine hold hX ?_
    have e := o2; clear o2
    have i4 := e; clear e
    refine callFx (impl_mapped_c g__3 g__3h to_ to_h a2 i4) H ⟨Vw.sh 6 rfl, Vw.sh 7 rfl, trivial⟩ ?_; clear H i4
    rintro _ _ w13 ⟨h4, rfl, rfl⟩ hx H
    replace hX := hX.trans0 hx; clear hx
    refine hold hX ?_
    refine anyH (fun _ => build_ (cs := #[(.int .i64 count_), (.slice none 0 0), (h3).v, (h4).v]) gok rfl rfl rfl ⟨rfl, rfl⟩) ?_
    replace H := H.sel [2, 0, 1, 3, 4, 5, 6, 7, 8] rfl
    refine stAX gok [(.int .i64 count_), (.slice none 0 0), (h3).v, (h4).v] rfl H rfl rfl rfl ?_; clear H; intro w14 hu H
    replace hX := hX.fresh hu v2; clear hu
    refine hold hX ?_
    exact ⟨((count_, a1, a2), (h3, h4, b2)), ⟨rfl, rfl, rfl, rfl, trivial⟩, Option.some.inj f6, H.sel [8, 4, 5, 6, 7, 3, 0, 2, 1] rfl⟩
   ·
    exact trivial
 ·
  clear f0 H
  rintro T0 ⟨⟨s0_0, s0_1, s0_2⟩, ⟨g0_0, g0_1, g0_2⟩⟩ w15 ⟨hr, (H : Cx w0 fp0 S0 w15 [Es (List Int) to_ to_h, Bx b6 [(.int .i64 g__0), (g__1h).v, (g__2h).v, (g__3h).v], Es (List (Int × Int × List Int × List Int)) g__1 g__1h, Es (List Int) g__2 g__2h, Es (List Int) g__3 g__3h, Bx b9 [(.int .i64 0), (.slice none 0 0), (.slice none 0 0), (.slice none 0 0)], Bx g0_2 [(.int .i64 s0_0), (.slice none 0 0), (g0_0).v, (g0_1).v], E (List Int) s0_1 g0_0, E (List Int) s0_2 g0_1])⟩
  subst hr
  refine sq ?_
  refine fld gok rfl rfl rfl rfl ?_
  refine load1 (H.bx 1 rfl (j := 1) rfl) ?_
  refine lenE (H.rs (α := List (Int × Int × List Int × List Int)) 2 rfl).len ?_
  have x0 := (H.rs (α := List (Int × Int × List Int × List Int)) 2 rfl).max
  obtain ⟨r1, e, f7⟩ := bindS f1; clear f1
  replace H := H.nil (α := Int × Int × List Int × List Int)
  refine loopS _ g__1.length (fun (k0 : Nat) (s1 : List (Int × Int × List Int × List Int)) (g1 : Hd) => [(2, (to_h).v), (6, (.pointer (some ⟨b9, 0, none⟩))), (7, (.pointer (some ⟨g0_2, 0, none⟩))), (21, (g__1h).v), (22, (.int .i64 ((g__1.length : Nat) : Int))), (23, (.int .i64 ((k0 : Nat) : Int)))]) (fun _ (s1 : List (Int × Int × List Int × List Int)) (g1 : Hd) w' => Cx w0 fp0 S0 w' [Es (List Int) to_ to_h, Bx b9 [(.int .i64 0), (.slice none 0 0), (.slice none 0 0), (.slice none 0 0)], Bx g0_2 [(.int .i64 s0_0), (g1).v, (g0_0).v, (g0_1).v], E (List (Int × Int × List Int × List Int)) s1 g1, E (List Int) s0_1 g0_0, E (List Int) s0_2 g0_1, Es (List (Int × Int × List Int × List Int)) g__1 g__1h]) [] nilH e ⟨rfl, rfl, rfl, rfl, rfl, rfl, trivial⟩ (H.sel [1, 6, 7, 0, 8, 9, 3] rfl) ?_ ?_
  ·
   clear H e
   rintro T1 k0 s1 g1 w16 o3 hk (H : Cx w0 fp0 S0 w16 [Es (List Int) to_ to_h, Bx b9 [(.int .i64 0), (.slice none 0 0), (.slice none 0 0), (.slice none 0 0)], Bx g0_2 [(.int .i64 s0_0), (g1).v, (g0_0).v, (g0_1).v], E (List (Int × Int × List Int × List Int)) s1 g1, E (List Int) s0_1 g0_0, E (List Int) s0_2 g0_1, Es (List (Int × Int × List Int × List Int)) g__1 g__1h]) f8
   refine boolE (z := true) (ltLen hk) ?_
   refine sq ?_
   refine sq ?_
   obtain ⟨a3, e, f9⟩ := bindS f8; clear f8
   have HH := H; clear H; obtain ⟨p0, m0, g2, c0, c1, c2, c3, H⟩ := HH.el (α := Int × Int × List Int × List Int) 6 rfl e; clear HH
   clear e
   obtain ⟨a3_0, a3_1, a3_2, a3_3⟩ := a3
   obtain ⟨_, _, h5, h6⟩ := g2
   replace H := H.part (β := List Int) a3_2 (h5 : Hd) 0 rfl (fun S h => (And.left (And.right (And.right h))))
   replace H := H.part (β := List Int) a3_3 (h6 : Hd) 1 rfl (fun S h => (And.right (And.right (And.right h))))
   replace H := H.sel [0, 1, 3, 4, 5, 6, 7, 8, 9] rfl
   refine idxE c0 c1 c2 ?_; clear c0 c1 c2
   refine loadN [(.int .i64 a3_0), (.int .i64 a3_1), (h5).v, (h6).v] rfl c3 ?_; clear c3
   refine alloc_ gok rfl H ?_; clear H; intro b3 w17 hx H
   clear hx
   refine stA gok [(.int .i64 a3_0), (.int .i64 a3_1), (h5).v, (h6).v] rfl H rfl rfl rfl ?_; clear H; intro w18 H
   refine heldX H [16, 18, 17] (.fst 0 (.fst 2 (.fst 4 (.fst 6 (.fst 8 (.fst 10 (.fst 12 (.fst 1 (.fst 3 (.fst 5 (.fst 7 (.fst 11 (.act 9 (.act 13 (.fst 14 (.act 15 (.act 16 (.act 17 (.act 18 .done))))))))))))))))))) mixed [] trivial (by kernel_rfl) ?_
   clear H; intro w19 H
   have hX : Ext w19 w19 := Upd.refl _ _
   have H0 := H
   refine anyH (fun _ => fld gok rfl rfl rfl rfl ⟨rfl, rfl⟩) ?_
   refine anyH (fun _ => fld gok rfl rfl rfl rfl ⟨rfl, rfl⟩) ?_
   refine anyH (fun _ => fld gok rfl rfl rfl rfl ⟨rfl, rfl⟩) ?_
   refine anyH (fun _ => fld gok rfl rfl rfl rfl ⟨rfl, rfl⟩) ?_
   refine anyH (fun _ => fld gok rfl rfl rfl rfl ⟨rfl, rfl⟩) ?_
   refine load1X (H.bx 5 rfl (j := 1) rfl) ?_
   refine load1X (H.bx 0 rfl (j := 0) rfl) ?_
   refine load1X (H.bx 0 rfl (j := 1) rfl) ?_
   refine load1X (H.bx 0 rfl (j := 2) rfl) ?_
   refine load1X (H.bx 0 rfl (j := 3) rfl) ?_
   obtain ⟨y2, e, f10⟩ := bindS f9; clear f9
   have i5 := e; clear e
   refine callFx (impl_mapped_c a3_2 h5 to_ to_h y2 i5) H ⟨Vw.sh 2 rfl, Vw.sh 3 rfl, trivial⟩ ?_; clear H i5
   rintro _ _ w20 ⟨h7, rfl, rfl⟩ hx H
   replace hX := hX.trans0 hx; clear hx
   refine hold hX ?_
   obtain ⟨y3, e, f11⟩ := bindS f10; clear f10
   have i6 := e; clear e
   refine callFx (impl_mapped_c a3_3 h6 to_ to_h y3 i6) H ⟨Vw.sh 2 rfl, Vw.sh 4 rfl, trivial⟩ ?_; clear H i6
   rintro _ _ w21 ⟨h8, rfl, rfl⟩ hx H
   replace hX := hX.trans0 hx; clear hx
   refine hold hX ?_
   refine anyH (fun _ => build_ (cs := #[(.int .i64 a3_0), (.int .i64 a3_1), (h7).v, (h8).v]) gok rfl rfl rfl ⟨rfl, rfl⟩) ?_
   replace H := H.sel [1, 0, 2, 3, 4, 5, 6, 7, 8, 9, 10, 11] rfl
   replace H := H.join (α := List Int) (β := List Int)
   replace H := H.sc (α := Int) a3_1
   replace H := H.join (α := Int) (β := List Int × List Int)
   replace H := H.sc (α := Int) a3_0
   replace H := H.join (α := Int) (β := Int × List Int × List Int)
   refine lit1 (α := Int × Int × List Int × List Int) (g := ((), (), h7, h8)) gok rfl rfl rfl rfl rfl H ?_; clear H; intro h9 w22 hx H
   replace hX := hX.trans0 hx; clear hx
   refine hold hX ?_
   obtain ⟨a4, e, f12⟩ := bindS f11; clear f11
   replace H := H.sel [7, 0, 1, 2, 3, 4, 5, 6, 8, 9, 10] rfl
   refine append_ (α := Int × Int × List Int × List Int) gok rfl rfl rfl rfl H e ?_; clear e H; intro h10 w23 H
   refine hold trivial ?_
   refine fld gok rfl rfl rfl rfl ?_
   refine hold trivial ?_
   replace H := H.sel [6, 0, 1, 2, 3, 4, 5, 7, 8, 9] rfl
   refine stB (j := 1) H rfl rfl ?_; clear H; intro w24 H
   refine hold trivial ?_
   refine arK hk x0 ?_
   have hs := Option.some.inj f12; subst hs; clear f12
   exact ⟨h10, ⟨rfl, rfl, rfl, rfl, rfl, rfl, trivial⟩, H.sel [5, 6, 0, 1, 7, 8, 9] rfl⟩
  ·
   clear H e
   rintro T2 g3 w25 (H : Cx w0 fp0 S0 w25 [Es (List Int) to_ to_h, Bx b9 [(.int .i64 0), (.slice none 0 0), (.slice none 0 0), (.slice none 0 0)], Bx g0_2 [(.int .i64 s0_0), (g3).v, (g0_0).v, (g0_1).v], E (List (Int × Int × List Int × List Int)) r1 g3, E (List Int) s0_1 g0_0, E (List Int) s0_2 g0_1, Es (List (Int × Int × List Int × List Int)) g__1 g__1h])
   refine boolE (z := false) geLen ?_
   refine sq ?_
   refine loadN [(.int .i64 s0_0), (g3).v, (g0_0).v, (g0_1).v] rfl (fun j u hj => H.bx 2 rfl hj) ?_
   replace H := H.sel [1, 0, 2, 3, 4, 5, 6] rfl
   refine stA gok [(.int .i64 s0_0), (g3).v, (g0_0).v, (g0_1).v] rfl H rfl rfl rfl ?_; clear H; intro w26 H
   refine loadN [(.int .i64 s0_0), (g3).v, (g0_0).v, (g0_1).v] rfl (fun j u hj => H.bx 0 rfl hj) ?_
   cases f7
   exact ⟨_, _, rfl, ⟨g3, g0_0, g0_1, rfl, rfl⟩, (H.sel [3, 4, 5] rfl).close ⟨cloE, cloE, cloE, trivial⟩⟩

theorem impl_from_c (first_ : Int) (n_ : Int) (y : List Int) (hF : F_impl_from first_ n_ = some y) :
  ConF Tryz.prog 70 #[(.int .i64 first_), (.int .i64 n_)] [] [] (fun v Γ' => ∃ z0 : Hd, v = (z0).v ∧ Γ' = [E (List Int) y z0]) := by
 intro w0 S0 fp0 hI hS
 have H : Cx w0 fp0 S0 w0 [] := Cx.start hI hS
 clear hI hS
 refine enterC (args := [_, _]) gok Tryz.func70 rfl _ rfl rfl rfl ?_
 obtain ⟨y1, e, hF2⟩ := bindS hF; clear hF
 have ey1 := e; clear e
 refine callF (impl_upTo_c n_ y1 ey1) (Γi := []) H trivial ?_; clear H ey1
 rintro _ _ w3 ⟨h4, rfl, rfl⟩ H
 refine sq ?_
 refine lenE (H.ro (α := List Int) 0 rfl).len ?_
 have x0 := (H.ro (α := List Int) 0 rfl).max
 obtain ⟨r0, e, f0⟩ := bindS hF2; clear hF2
 refine loopS _ y1.length (fun (k6 : Nat) (s0 : List Int) (_ : Unit) => [(0, (.int .i64 first_)), (5, (h4).v), (10, (.int .i64 ((y1.length : Nat) : Int))), (11, (.int .i64 ((k6 : Nat) : Int)))]) (fun _ (s0 : List Int) (_ : Unit) w' => Cx w0 fp0 S0 w' [E (List Int) s0 h4]) y1 () e ⟨rfl, rfl, rfl, rfl, trivial⟩ (H.sel [0] rfl) ?_ ?_
 ·
  clear H e
  rintro T0 k6 s0 _ w1 o0 hk (H : Cx w0 fp0 S0 w1 [E (List Int) s0 h4]) f1
  refine boolE (z := true) (ltLen hk) ?_
  refine sq ?_
  refine sq ?_
  obtain ⟨a0, e, f2⟩ := bindS f1; clear f1
  obtain ⟨p0, m0, c0, c1, c2, c3⟩ := (H.ro (α := List Int) 0 rfl).at1 e; clear e
  refine idxE c0 c1 c2 ?_; clear c0 c1 c2
  refine load1 c3 ?_; clear c3
  obtain ⟨a1, e, f3⟩ := bindS f2; clear f2
  refine arO e ?_; clear e
  obtain ⟨a2, e, f4⟩ := bindS f3; clear f3
  have i0 := e; clear e
  obtain ⟨p1, m1, c4, c5, c6⟩ := (H.ro (α := List Int) 0 rfl).setp i0
  refine idxE c4 c5 c6 ?_
  refine setS (α := Int) H c4 c5 i0 ?_; clear H c4 c5 c6 i0; intro w2 H
  refine arK hk x0 ?_
  have hs := Option.some.inj f4; subst hs; clear f4
  exact ⟨(), ⟨rfl, rfl, rfl, rfl, trivial⟩, H.sel [0] rfl⟩
 ·
  clear H e
  rintro T1 _ w4 (H : Cx w0 fp0 S0 w4 [E (List Int) r0 h4])
  refine boolE (z := false) geLen ?_
  refine sq ?_
  cases f0
  exact ⟨_, _, rfl, ⟨h4, rfl, rfl⟩, (H.sel [0] rfl).close ⟨cloE, trivial⟩⟩

theorem impl_Graph_beside_c (g__0 : Int) (g__1 : List (Int × Int × List Int × List Int)) (g__1h : Hd) (g__2 : List Int) (g__2h : Hd) (g__3 : List Int) (g__3h : Hd) (h__0 : Int) (h__1 : List (Int × Int × List Int × List Int)) (h__1h : Hd) (h__2 : List Int) (h__2h : Hd) (h__3 : List Int) (h__3h : Hd) (y_0 : Int) (y_1 : List (Int × Int × List Int × List Int)) (y_2 : List Int) (y_3 : List Int) (hF : F_impl_Graph_beside (g__0, g__1, g__2, g__3) (h__0, h__1, h__2, h__3) = some (y_0, y_1, y_2, y_3)) :
  ConF Tryz.prog 67 #[(.agg #[(.int .i64 g__0), (g__1h).v, (g__2h).v, (g__3h).v]), (.agg #[(.int .i64 h__0), (h__1h).v, (h__2h).v, (h__3h).v])] [Es (List (Int × Int × List Int × List Int)) g__1 g__1h, Es (List Int) g__2 g__2h, Es (List Int) g__3 g__3h, Es (List (Int × Int × List Int × List Int)) h__1 h__1h, Es (List Int) h__2 h__2h, Es (List Int) h__3 h__3h] [] (fun v Γ' => ∃ z0 z1 z2 : Hd, v = (.agg #[(.int .i64 y_0), (z0).v, (z1).v, (z2).v]) ∧ Γ' = [E (List (Int × Int × List Int × List Int)) y_1 z0, E (List Int) y_2 z1, E (List Int) y_3 z2]) := by
 intro w0 S0 fp0 hI hS
 have H : Cx w0 fp0 S0 w0 [Es (List (Int × Int × List Int × List Int)) g__1 g__1h, Es (List Int) g__2 g__2h, Es (List Int) g__3 g__3h, Es (List (Int × Int × List Int × List Int)) h__1 h__1h, Es (List Int) h__2 h__2h, Es (List Int) h__3 h__3h] := Cx.start hI hS
 clear hI hS
 refine enterC (args := [_, _]) gok Tryz.func67 rfl _ rfl rfl rfl ?_
 refine box_ H ?_; clear H; intro b8 w7 hx H
 clear hx
 refine box_ H ?_; clear H; intro b0 w1 hx H
 clear hx
 refine alloc_ gok rfl H ?_; clear H; intro b1 w2 hx H
 clear hx
 refine fld gok rfl rfl rfl rfl ?_
 refine load1 (H.bx 2 rfl (j := 0) rfl) ?_
 refine fld gok rfl rfl rfl rfl ?_
 refine load1 (H.bx 1 rfl (j := 0) rfl) ?_
 obtain ⟨a0, e, f0⟩ := bindS hF; clear hF
 refine arO e ?_; clear e
 refine build_ (cs := #[(.int .i64 a0), (.slice none 0 0), (.slice none 0 0), (.slice none 0 0)]) gok rfl rfl rfl ?_
 refine alloc_ gok rfl H ?_; clear H; intro b2 w3 hx H
 clear hx
 refine stA gok [(.int .i64 a0), (.slice none 0 0), (.slice none 0 0), (.slice none 0 0)] rfl H rfl rfl rfl ?_; clear H; intro w4 H
 obtain ⟨r0, f1, f2⟩ := bindS f0; clear f0
 refine heldJ H [] (.fst 1 (.fst 3 (.fst 0 (.fst 2 (.fst 4 (.alts (.alt 5 (.alts (.alt 6 (.act 7 (.act 8 .done)) (.alt 7 (.act 6 (.act 8 .done)) .no))) (.alt 7 (.act 5 (.act 6 (.act 8 .done))) .no)))))))) mixed [] trivial (by kernel_rfl) (fun (q0 : (Int × (List (Int × Int × List Int × List Int)) × List Int × List Int) × (Hd × Hd × Hd × Nat)) => [(2, (.pointer (some ⟨b8, 0, none⟩))), (3, (.pointer (some ⟨b0, 0, none⟩))), (4, (.pointer (some ⟨b1, 0, none⟩))), (5, (.pointer (some ⟨b2, 0, none⟩))), (6, (.pointer (some ⟨q0.2.2.2.2, 0, none⟩)))]) (fun (q0 : (Int × (List (Int × Int × List Int × List Int)) × List Int × List Int) × (Hd × Hd × Hd × Nat)) w' => (q0.1.1, q0.1.2.1, q0.1.2.2.1, q0.1.2.2.2) = r0 ∧ Cx w0 fp0 S0 w' [Bx b8 [(.int .i64 g__0), (g__1h).v, (g__2h).v, (g__3h).v], Es (List (Int × Int × List Int × List Int)) g__1 g__1h, Es (List Int) g__2 g__2h, Es (List Int) g__3 g__3h, Bx b0 [(.int .i64 h__0), (h__1h).v, (h__2h).v, (h__3h).v], Es (List (Int × Int × List Int × List Int)) h__1 h__1h, Es (List Int) h__2 h__2h, Es (List Int) h__3 h__3h, Bx b1 [(.int .i64 0), (.slice none 0 0), (.slice none 0 0), (.slice none 0 0)], Bx b2 [(.int .i64 a0), (.slice none 0 0), (.slice none 0 0), (.slice none 0 0)], Bx q0.2.2.2.2 [(.int .i64 q0.1.1), (q0.2.1).v, (q0.2.2.1).v, (q0.2.2.2.1).v], E (List (Int × Int × List Int × List Int)) q0.1.2.1 q0.2.1, E (List Int) q0.1.2.2.1 q0.2.2.1, E (List Int) q0.1.2.2.2 q0.2.2.2.1]) ?_ ?_
 ·
  clear H; intro w5 H
  have hX : Ext w5 w5 := Upd.refl _ _
  have H0 := H
  refine anyH (fun _ => fld gok rfl rfl rfl rfl ⟨rfl, rfl⟩) ?_
  refine anyH (fun _ => fld gok rfl rfl rfl rfl ⟨rfl, rfl⟩) ?_
  refine loadNX [(.int .i64 g__0), (g__1h).v, (g__2h).v, (g__3h).v] rfl (fun j u hj => H.bx 3 rfl hj) ?_
  refine load1X (H.bx 3 rfl (j := 0) rfl) ?_
  refine load1X (H.bx 3 rfl (j := 0) rfl) ?_
  refine both ?_ ?_
  ·
   obtain ⟨y0, e, f3⟩ := bindS f1; clear f1
   have i0 := e; clear e
   refine callFx (impl_upTo_c g__0 y0 i0) H trivial ?_; clear H i0
   rintro _ _ w6 ⟨h0, rfl, rfl⟩ hx H
   replace hX := hX.trans0 hx; clear hx
   refine hold hX ?_
   refine both ?_ ?_
   ·
    obtain ⟨y1, e, f4⟩ := bindS f3; clear f3
    obtain ⟨y1_0, y1_1, y1_2, y1_3⟩ := y1
    have i1 := e; clear e
    refine callFx (impl_Graph_moved_c g__0 g__1 g__1h g__2 g__2h g__3 g__3h g__0 y0 h0 y1_0 y1_1 y1_2 y1_3 i1) H ⟨Vw.sh 5 rfl, Vw.sh 6 rfl, Vw.sh 7 rfl, Vw.own 0 rfl, trivial⟩ ?_; clear H i1
    rintro _ _ w8 ⟨h1, h2, h3, rfl, rfl⟩ hx H
    replace hX := hX.trans0 hx; clear hx
    refine hold hX ?_
    refine allocX gok rfl H ?_; clear H; intro b3 w9 hx v0 H; replace v0 := Nat.le_trans hX.size v0
    replace hX := hX.trans0 hx; clear hx
    refine hold hX ?_
    refine stAX gok [(.int .i64 y1_0), (h1).v, (h2).v, (h3).v] rfl H rfl rfl rfl ?_; clear H; intro w11 hu H
    replace hX := hX.fresh hu v0; clear hu
    refine hold hX ?_
    exact ⟨((y1_0, y1_1, y1_2, y1_3), (h1, h2, h3, b3)), ⟨rfl, rfl, rfl, rfl, rfl, trivial⟩, Option.some.inj f4, H.sel [8, 9, 10, 11, 7, 12, 13, 14, 6, 5, 0, 1, 2, 3] rfl⟩
   ·
    refine both ?_ ?_
    ·
     obtain ⟨a1, o0, f5⟩ := bindS f3; clear f3
     refine allocX gok rfl H ?_; clear H; intro b4 w12 hx v1 H; replace v1 := Nat.le_trans hX.size v1
     replace hX := hX.trans0 hx; clear hx
     refine hold hX ?_
     have e := o0; clear o0
     obtain ⟨a1_0, a1_1, a1_2, a1_3⟩ := a1
     have i2 := e; clear e
     refine callFx (impl_Graph_moved_c g__0 g__1 g__1h g__2 g__2h g__3 g__3h g__0 y0 h0 a1_0 a1_1 a1_2 a1_3 i2) H ⟨Vw.sh 6 rfl, Vw.sh 7 rfl, Vw.sh 8 rfl, Vw.own 1 rfl, trivial⟩ ?_; clear H i2
     rintro _ _ w14 ⟨h4, h5, h6, rfl, rfl⟩ hx H
     replace hX := hX.trans0 hx; clear hx
     refine hold hX ?_
     replace H := H.sel [3, 0, 1, 2, 4, 5, 6, 7, 8, 9, 10, 11, 12, 13, 14] rfl
     refine stAX gok [(.int .i64 a1_0), (h4).v, (h5).v, (h6).v] rfl H rfl rfl rfl ?_; clear H; intro w15 hu H
     replace hX := hX.fresh hu v1; clear hu
     refine hold hX ?_
     exact ⟨((a1_0, a1_1, a1_2, a1_3), (h4, h5, h6, b4)), ⟨rfl, rfl, rfl, rfl, rfl, trivial⟩, Option.some.inj f5, H.sel [8, 9, 10, 11, 7, 12, 13, 14, 6, 5, 0, 1, 2, 3] rfl⟩
    ·
     exact trivial
  ·
   refine both ?_ ?_
   ·
    obtain ⟨a2, o1, f6⟩ := bindS f1; clear f1
    obtain ⟨a3, o2, f7⟩ := bindS f6; clear f6
    refine allocX gok rfl H ?_; clear H; intro b5 w16 hx v2 H; replace v2 := Nat.le_trans hX.size v2
    replace hX := hX.trans0 hx; clear hx
    refine hold hX ?_
    have e := o1; clear o1
    have i3 := e; clear e
    refine callFx (impl_upTo_c g__0 a2 i3) H trivial ?_; clear H i3
    rintro _ _ w17 ⟨h7, rfl, rfl⟩ hx H
    replace hX := hX.trans0 hx; clear hx
    refine hold hX ?_
    have e := o2; clear o2
    obtain ⟨a3_0, a3_1, a3_2, a3_3⟩ := a3
    have i4 := e; clear e
    refine callFx (impl_Graph_moved_c g__0 g__1 g__1h g__2 g__2h g__3 g__3h g__0 a2 h7 a3_0 a3_1 a3_2 a3_3 i4) H ⟨Vw.sh 6 rfl, Vw.sh 7 rfl, Vw.sh 8 rfl, Vw.own 0 rfl, trivial⟩ ?_; clear H i4
    rintro _ _ w19 ⟨h8, h9, h10, rfl, rfl⟩ hx H
    replace hX := hX.trans0 hx; clear hx
    refine hold hX ?_
    replace H := H.sel [4, 0, 1, 2, 3, 5, 6, 7, 8, 9, 10, 11, 12, 13, 14] rfl
    refine stAX gok [(.int .i64 a3_0), (h8).v, (h9).v, (h10).v] rfl H rfl rfl rfl ?_; clear H; intro w20 hu H
    replace hX := hX.fresh hu v2; clear hu
    refine hold hX ?_
    exact ⟨((a3_0, a3_1, a3_2, a3_3), (h8, h9, h10, b5)), ⟨rfl, rfl, rfl, rfl, rfl, trivial⟩, Option.some.inj f7, H.sel [8, 9, 10, 11, 7, 12, 13, 14, 6, 5, 0, 1, 2, 3] rfl⟩
   ·
    exact trivial
 ·
  clear f1 H
  rintro T0 ⟨⟨s0_0, s0_1, s0_2, s0_3⟩, ⟨g0_0, g0_1, g0_2, g0_3⟩⟩ w22 ⟨hr, (H : Cx w0 fp0 S0 w22 [Bx b8 [(.int .i64 g__0), (g__1h).v, (g__2h).v, (g__3h).v], Es (List (Int × Int × List Int × List Int)) g__1 g__1h, Es (List Int) g__2 g__2h, Es (List Int) g__3 g__3h, Bx b0 [(.int .i64 h__0), (h__1h).v, (h__2h).v, (h__3h).v], Es (List (Int × Int × List Int × List Int)) h__1 h__1h, Es (List Int) h__2 h__2h, Es (List Int) h__3 h__3h, Bx b1 [(.int .i64 0), (.slice none 0 0), (.slice none 0 0), (.slice none 0 0)], Bx b2 [(.int .i64 a0), (.slice none 0 0), (.slice none 0 0), (.slice none 0 0)], Bx g0_3 [(.int .i64 s0_0), (g0_0).v, (g0_1).v, (g0_2).v], E (List (Int × Int × List Int × List Int)) s0_1 g0_0, E (List Int) s0_2 g0_1, E (List Int) s0_3 g0_2])⟩
  subst hr
  obtain ⟨r1, f8, f9⟩ := bindS f2; clear f2
  refine heldJ H [] (.fst 1 (.fst 3 (.fst 5 (.fst 0 (.fst 2 (.fst 4 (.fst 6 (.alts (.alt 7 (.alts (.alt 8 (.act 9 (.act 10 .done)) (.alt 9 (.act 8 (.act 10 .done)) .no))) (.alt 9 (.act 7 (.act 8 (.act 10 .done))) .no)))))))))) mixed [] trivial (by kernel_rfl) (fun (q1 : (Int × (List (Int × Int × List Int × List Int)) × List Int × List Int) × (Hd × Hd × Hd × Nat)) => [(4, (.pointer (some ⟨b1, 0, none⟩))), (5, (.pointer (some ⟨b2, 0, none⟩))), (6, (.pointer (some ⟨g0_3, 0, none⟩))), (7, (.pointer (some ⟨q1.2.2.2.2, 0, none⟩)))]) (fun (q1 : (Int × (List (Int × Int × List Int × List Int)) × List Int × List Int) × (Hd × Hd × Hd × Nat)) w' => (q1.1.1, q1.1.2.1, q1.1.2.2.1, q1.1.2.2.2) = r1 ∧ Cx w0 fp0 S0 w' [Bx b1 [(.int .i64 0), (.slice none 0 0), (.slice none 0 0), (.slice none 0 0)], Bx b2 [(.int .i64 a0), (.slice none 0 0), (.slice none 0 0), (.slice none 0 0)], Bx g0_3 [(.int .i64 s0_0), (g0_0).v, (g0_1).v, (g0_2).v], E (List (Int × Int × List Int × List Int)) s0_1 g0_0, E (List Int) s0_2 g0_1, E (List Int) s0_3 g0_2, Bx q1.2.2.2.2 [(.int .i64 q1.1.1), (q1.2.1).v, (q1.2.2.1).v, (q1.2.2.2.1).v], E (List (Int × Int × List Int × List Int)) q1.1.2.1 q1.2.1, E (List Int) q1.1.2.2.1 q1.2.2.1, E (List Int) q1.1.2.2.2 q1.2.2.2.1]) ?_ ?_
  ·
   clear H; intro w23 H
   have hX : Ext w23 w23 := Upd.refl _ _
   have H0 := H
   refine anyH (fun _ => fld gok rfl rfl rfl rfl ⟨rfl, rfl⟩) ?_
   refine anyH (fun _ => fld gok rfl rfl rfl rfl ⟨rfl, rfl⟩) ?_
   refine anyH (fun _ => fld gok rfl rfl rfl rfl ⟨rfl, rfl⟩) ?_
   refine loadNX [(.int .i64 h__0), (h__1h).v, (h__2h).v, (h__3h).v] rfl (fun j u hj => H.bx 4 rfl hj) ?_
   refine load1X (H.bx 4 rfl (j := 0) rfl) ?_
   refine load1X (H.bx 0 rfl (j := 0) rfl) ?_
   refine load1X (H.bx 4 rfl (j := 0) rfl) ?_
   refine both ?_ ?_
   ·
    obtain ⟨y2, e, f10⟩ := bindS f8; clear f8
    have i5 := e; clear e
    refine callFx (impl_from_c g__0 h__0 y2 i5) H trivial ?_; clear H i5
    rintro _ _ w24 ⟨h11, rfl, rfl⟩ hx H
    replace hX := hX.trans0 hx; clear hx
    refine hold hX ?_
    refine both ?_ ?_
    ·
     obtain ⟨y3, e, f11⟩ := bindS f10; clear f10
     obtain ⟨y3_0, y3_1, y3_2, y3_3⟩ := y3
     have i6 := e; clear e
     refine callFx (impl_Graph_moved_c h__0 h__1 h__1h h__2 h__2h h__3 h__3h h__0 y2 h11 y3_0 y3_1 y3_2 y3_3 i6) H ⟨Vw.sh 6 rfl, Vw.sh 7 rfl, Vw.sh 8 rfl, Vw.own 0 rfl, trivial⟩ ?_; clear H i6
     rintro _ _ w25 ⟨h12, h13, h14, rfl, rfl⟩ hx H
     replace hX := hX.trans0 hx; clear hx
     refine hold hX ?_
     refine allocX gok rfl H ?_; clear H; intro b6 w26 hx v3 H; replace v3 := Nat.le_trans hX.size v3
     replace hX := hX.trans0 hx; clear hx
     refine hold hX ?_
     refine stAX gok [(.int .i64 y3_0), (h12).v, (h13).v, (h14).v] rfl H rfl rfl rfl ?_; clear H; intro w27 hu H
     replace hX := hX.fresh hu v3; clear hu
     refine hold hX ?_
     exact ⟨((y3_0, y3_1, y3_2, y3_3), (h12, h13, h14, b6)), ⟨rfl, rfl, rfl, rfl, trivial⟩, Option.some.inj f11, H.sel [13, 14, 15, 16, 17, 18, 0, 1, 2, 3] rfl⟩
    ·
     refine both ?_ ?_
     ·
      obtain ⟨a4, o3, f12⟩ := bindS f10; clear f10
      refine allocX gok rfl H ?_; clear H; intro b7 w28 hx v4 H; replace v4 := Nat.le_trans hX.size v4
      replace hX := hX.trans0 hx; clear hx
      refine hold hX ?_
      have e := o3; clear o3
      obtain ⟨a4_0, a4_1, a4_2, a4_3⟩ := a4
      have i7 := e; clear e
      refine callFx (impl_Graph_moved_c h__0 h__1 h__1h h__2 h__2h h__3 h__3h h__0 y2 h11 a4_0 a4_1 a4_2 a4_3 i7) H ⟨Vw.sh 7 rfl, Vw.sh 8 rfl, Vw.sh 9 rfl, Vw.own 1 rfl, trivial⟩ ?_; clear H i7
      rintro _ _ w29 ⟨h15, h16, h17, rfl, rfl⟩ hx H
      replace hX := hX.trans0 hx; clear hx
      refine hold hX ?_
      replace H := H.sel [3, 0, 1, 2, 4, 5, 6, 7, 8, 9, 10, 11, 12, 13, 14, 15, 16, 17, 18] rfl
      refine stAX gok [(.int .i64 a4_0), (h15).v, (h16).v, (h17).v] rfl H rfl rfl rfl ?_; clear H; intro w30 hu H
      replace hX := hX.fresh hu v4; clear hu
      refine hold hX ?_
      exact ⟨((a4_0, a4_1, a4_2, a4_3), (h15, h16, h17, b7)), ⟨rfl, rfl, rfl, rfl, trivial⟩, Option.some.inj f12, H.sel [13, 14, 15, 16, 17, 18, 0, 1, 2, 3] rfl⟩
     ·
      exact trivial
   ·
    refine both ?_ ?_
    ·
     obtain ⟨a5, o4, f13⟩ := bindS f8; clear f8
     obtain ⟨a6, o5, f14⟩ := bindS f13; clear f13
     refine allocX gok rfl H ?_; clear H; intro b9 w31 hx v5 H; replace v5 := Nat.le_trans hX.size v5
     replace hX := hX.trans0 hx; clear hx
     refine hold hX ?_
     have e := o4; clear o4
     have i8 := e; clear e
     refine callFx (impl_from_c g__0 h__0 a5 i8) H trivial ?_; clear H i8
     rintro _ _ w32 ⟨h18, rfl, rfl⟩ hx H
     replace hX := hX.trans0 hx; clear hx
     refine hold hX ?_
     have e := o5; clear o5
     obtain ⟨a6_0, a6_1, a6_2, a6_3⟩ := a6
     have i9 := e; clear e
     refine callFx (impl_Graph_moved_c h__0 h__1 h__1h h__2 h__2h h__3 h__3h h__0 a5 h18 a6_0 a6_1 a6_2 a6_3 i9) H ⟨Vw.sh 7 rfl, Vw.sh 8 rfl, Vw.sh 9 rfl, Vw.own 0 rfl, trivial⟩ ?_; clear H i9
     rintro _ _ w33 ⟨h19, h20, h21, rfl, rfl⟩ hx H
     replace hX := hX.trans0 hx; clear hx
     refine hold hX ?_
     replace H := H.sel [4, 0, 1, 2, 3, 5, 6, 7, 8, 9, 10, 11, 12, 13, 14, 15, 16, 17, 18] rfl
     refine stAX gok [(.int .i64 a6_0), (h19).v, (h20).v, (h21).v] rfl H rfl rfl rfl ?_; clear H; intro w34 hu H
     replace hX := hX.fresh hu v5; clear hu
     refine hold hX ?_
     exact ⟨((a6_0, a6_1, a6_2, a6_3), (h19, h20, h21, b9)), ⟨rfl, rfl, rfl, rfl, trivial⟩, Option.some.inj f14, H.sel [13, 14, 15, 16, 17, 18, 0, 1, 2, 3] rfl⟩
    ·
     exact trivial
  ·
   clear f8 H
   rintro T1 ⟨⟨s1_0, s1_1, s1_2, s1_3⟩, ⟨g1_0, g1_1, g1_2, g1_3⟩⟩ w35 ⟨hr, (H : Cx w0 fp0 S0 w35 [Bx b1 [(.int .i64 0), (.slice none 0 0), (.slice none 0 0), (.slice none 0 0)], Bx b2 [(.int .i64 a0), (.slice none 0 0), (.slice none 0 0), (.slice none 0 0)], Bx g0_3 [(.int .i64 s0_0), (g0_0).v, (g0_1).v, (g0_2).v], E (List (Int × Int × List Int × List Int)) s0_1 g0_0, E (List Int) s0_2 g0_1, E (List Int) s0_3 g0_2, Bx g1_3 [(.int .i64 s1_0), (g1_0).v, (g1_1).v, (g1_2).v], E (List (Int × Int × List Int × List Int)) s1_1 g1_0, E (List Int) s1_2 g1_1, E (List Int) s1_3 g1_2])⟩
   subst hr
   refine fld gok rfl rfl rfl rfl ?_
   refine load1 (H.bx 2 rfl (j := 1) rfl) ?_
   refine fld gok rfl rfl rfl rfl ?_
   refine load1 (H.bx 6 rfl (j := 1) rfl) ?_
   obtain ⟨a7, e, f15⟩ := bindS f9; clear f9
   replace H := H.sel [3, 7, 0, 1, 2, 4, 5, 6, 8, 9] rfl
   refine append_ (α := Int × Int × List Int × List Int) gok rfl rfl rfl rfl H e ?_; clear e H; intro h22 w36 H
   refine fld gok rfl rfl rfl rfl ?_
   replace H := H.sel [2, 0, 1, 3, 4, 5, 6, 7, 8] rfl
   refine stB (j := 1) H rfl rfl ?_; clear H; intro w37 H
   refine loadN [(.int .i64 a0), (h22).v, (.slice none 0 0), (.slice none 0 0)] rfl (fun j u hj => H.bx 0 rfl hj) ?_
   replace H := H.sel [2, 0, 1, 3, 4, 5, 6, 7, 8] rfl
   refine stA gok [(.int .i64 a0), (h22).v, (.slice none 0 0), (.slice none 0 0)] rfl H rfl rfl rfl ?_; clear H; intro w38 H
   refine loadN [(.int .i64 a0), (h22).v, (.slice none 0 0), (.slice none 0 0)] rfl (fun j u hj => H.bx 0 rfl hj) ?_
   replace H := H.nil (α := Int)
   replace H := H.nil (α := Int)
   cases f15
   exact ⟨_, _, rfl, ⟨h22, nilH, nilH, rfl, rfl⟩, (H.sel [4, 1, 0] rfl).close ⟨cloE, cloE, cloE, trivial⟩⟩

theorem impl_clone_c (list_ : List Int) (list_h : Hd) (y : List Int) (hF : F_impl_clone list_ = some y) :
  ConF Tryz.prog 68 #[(list_h).v] [Es (List Int) list_ list_h] [] (fun v Γ' => ∃ z0 : Hd, v = (z0).v ∧ Γ' = [E (List Int) y z0]) := by
 intro w0 S0 fp0 hI hS
 have H : Cx w0 fp0 S0 w0 [Es (List Int) list_ list_h] := Cx.start hI hS
 clear hI hS
 refine enterC (args := [_]) gok Tryz.func68 rfl _ rfl rfl rfl ?_
 refine lit0 (α := Int) gok rfl rfl H ?_; clear H; intro h3 w2 hx H
 clear hx
 obtain ⟨a5, e, hF6⟩ := bindS hF; clear hF
 refine appendS (α := Int) gok rfl rfl rfl rfl H (Vw.sh 0 rfl) e ?_; clear e H; intro h8 w7 H
 cases hF6
 exact ⟨_, _, rfl, ⟨h8, rfl, rfl⟩, (H.sel [0] rfl).close ⟨cloE, trivial⟩⟩

theorem impl_classes_root_c (c_ : List Int) (c_h : Hd) (w_ : Int) (y : Int) (hF : F_impl_classes_root c_ w_ = some y) :
  ConF Tryz.prog 97 #[(c_h).v, (.int .i64 w_)] [Es (List Int) c_ c_h] [] (fun v Γ' => v = (.int .i64 y) ∧ Γ' = []) := by
 intro w0 S0 fp0 hI hS
 have H : Cx w0 fp0 S0 w0 [Es (List Int) c_ c_h] := Cx.start hI hS
 clear hI hS
 refine enterC (args := [_, _]) gok Tryz.func97 rfl _ rfl rfl rfl ?_
 obtain ⟨r0, f0, f1⟩ := bindS hF; clear hF
 refine cut (fun (q0 : Int) => [(1, (.int .i64 q0))]) (fun (q0 : Int) w' => q0 = r0 ∧ Cx w0 fp0 S0 w' []) ?_ ?_
 ·
  refine loopW _ (fun (s0 : Int) (_ : Unit) => [(0, (c_h).v), (1, (.int .i64 s0))]) (fun (s0 : Int) (_ : Unit) w' => Cx w0 fp0 S0 w' [Es (List Int) c_ c_h]) w_ () f0 ⟨rfl, rfl, trivial⟩ (H.sel [0] rfl) ?_
  ·
   clear H
   rintro T0 s0 _ w1 o0 (H : Cx w0 fp0 S0 w1 [Es (List Int) c_ c_h]) hrt f2
   refine sq ?_
   obtain ⟨a0, e, f3⟩ := bindS f2; clear f2
   obtain ⟨p0, m0, c0, c1, c2, c3⟩ := (H.rs (α := List Int) 0 rfl).at1 e; clear e
   refine idxE c0 c1 c2 ?_; clear c0 c1 c2
   refine load1 c3 ?_; clear c3
   obtain ⟨a1, e, f4⟩ := bindS f3; clear f3
   refine boolO e ?_; clear e
   cases a1
   ·
    have f5 := condF f4; clear f4
    have hs := Option.some.inj f5; subst hs; clear f5
    have f6 : some _ = some _ := congrArg some (hrt _ rfl).symm
    exact ⟨s0, ⟨rfl, trivial⟩, Option.some.inj f6, H.sel [] rfl⟩
   ·
    have f7 := condT f4; clear f4
    obtain ⟨a2, e, f8⟩ := bindS f7; clear f7
    obtain ⟨p1, m1, c4, c5, c6, c7⟩ := (H.rs (α := List Int) 0 rfl).at1 e; clear e
    refine idxE c4 c5 c6 ?_; clear c4 c5 c6
    refine load1 c7 ?_; clear c7
    have hs := Option.some.inj f8; subst hs; clear f8
    exact ⟨a2, (), rfl, ⟨rfl, rfl, trivial⟩, H.sel [0] rfl⟩
 ·
  clear f0 H
  rintro T1 s1 w2 ⟨hr, (H : Cx w0 fp0 S0 w2 [])⟩
  subst hr
  cases f1
  exact ⟨_, _, rfl, ⟨rfl, rfl⟩, (H.sel [] rfl).close trivial⟩

theorem impl_classes_join_c (c_ : List Int) (c_h : Hd) (v_ : Int) (w_ : Int) (y : List Int) (hF : F_impl_classes_join c_ v_ w_ = some y) :
  ConF Tryz.prog 95 #[(c_h).v, (.int .i64 v_), (.int .i64 w_)] [] [E (List Int) c_ c_h] (fun v Γ' => v = (.tuple #[]) ∧ Γ' = [E (List Int) y c_h]) := by
 intro w0 S0 fp0 hI hS
 have H : Cx w0 fp0 S0 w0 [E (List Int) c_ c_h] := Cx.start hI hS
 clear hI hS
 refine enterC (args := [_, _, _]) gok Tryz.func95 rfl _ rfl rfl rfl ?_
 obtain ⟨y2, e, hF3⟩ := bindS hF; clear hF
 have ey2 := e; clear e
 refine callF (impl_classes_root_c c_ c_h v_ y2 ey2) (Γi := []) H ⟨Vw.own 0 rfl, trivial⟩ ?_; clear H ey2
 rintro _ _ w4 ⟨rfl, rfl⟩ H
 obtain ⟨y5, e, hF6⟩ := bindS hF3; clear hF3
 have ey5 := e; clear e
 refine callF (impl_classes_root_c c_ c_h w_ y5 ey5) (Γi := []) H ⟨Vw.own 0 rfl, trivial⟩ ?_; clear H ey5
 rintro _ _ w7 ⟨rfl, rfl⟩ H
 obtain ⟨a8, e, hF9⟩ := bindS hF6; clear hF6
 refine max_ e ?_; clear e
 obtain ⟨a0, e, f0⟩ := bindS hF9; clear hF9
 refine min_ e ?_; clear e
 obtain ⟨a1, e, f1⟩ := bindS f0; clear f0
 have i0 := e; clear e
 obtain ⟨p0, m0, c0, c1, c2⟩ := (H.ro (α := List Int) 0 rfl).setp i0
 refine idxE c0 c1 c2 ?_
 refine setS (α := Int) H c0 c1 i0 ?_; clear H c0 c1 c2 i0; intro w1 H
 cases f1
 exact ⟨_, _, rfl, ⟨rfl, rfl⟩, (H.sel [0] rfl).close ⟨cloE, trivial⟩⟩

theorem impl_Graph_glue_1_c (list_ : List Int) (list_h : Hd) (c0_b : Nat) (c0_ : List Bool) (c0_h : Hd) (c1_b : Nat) (c1_ : List Int) (c1_h : Hd) (y : List Bool) (hF : F_impl_Graph_glue_1 list_ c0_ c1_ = some y) :
  ConF Tryz.prog 96 #[(list_h).v, (.pointer (some ⟨c0_b, 0, none⟩)), (.pointer (some ⟨c1_b, 0, none⟩))] [Es (List Int) list_ list_h, Es (List Int) c1_ c1_h] [Bx c0_b [(c0_h).v], E (List Bool) c0_ c0_h, Bx c1_b [(c1_h).v]] (fun v Γ' => v = (.tuple #[]) ∧ Γ' = [Bx c0_b [(c0_h).v], E (List Bool) y c0_h, Bx c1_b [(c1_h).v]]) := by
 intro w0 S0 fp0 hI hS
 have H : Cx w0 fp0 S0 w0 [Es (List Int) list_ list_h, Es (List Int) c1_ c1_h, Bx c0_b [(c0_h).v], E (List Bool) c0_ c0_h, Bx c1_b [(c1_h).v]] := Cx.start hI hS
 clear hI hS
 refine enterC (args := [_, _, _]) gok Tryz.func96 rfl _ rfl rfl rfl ?_
 refine lenE (H.rs (α := List Int) 0 rfl).len ?_
 have x0 := (H.rs (α := List Int) 0 rfl).max
 obtain ⟨r0, e, f0⟩ := bindS hF; clear hF
 refine loopS _ list_.length (fun (k6 : Nat) (s0 : List Bool) (_ : Unit) => [(1, (.pointer (some ⟨c0_b, 0, none⟩))), (2, (.pointer (some ⟨c1_b, 0, none⟩))), (6, (list_h).v), (7, (.int .i64 ((list_.length : Nat) : Int))), (8, (.int .i64 ((k6 : Nat) : Int)))]) (fun _ (s0 : List Bool) (_ : Unit) w' => Cx w0 fp0 S0 w' [Bx c0_b [(c0_h).v], E (List Bool) s0 c0_h, Bx c1_b [(c1_h).v], Es (List Int) c1_ c1_h, Es (List Int) list_ list_h]) c0_ () e ⟨rfl, rfl, rfl, rfl, rfl, trivial⟩ (H.sel [2, 3, 4, 1, 0] rfl) ?_ ?_
 ·
  clear H e
  rintro T0 k6 s0 _ w1 o0 hk (H : Cx w0 fp0 S0 w1 [Bx c0_b [(c0_h).v], E (List Bool) s0 c0_h, Bx c1_b [(c1_h).v], Es (List Int) c1_ c1_h, Es (List Int) list_ list_h]) f1
  refine boolE (z := true) (ltLen hk) ?_
  refine sq ?_
  refine sq ?_
  obtain ⟨a0, e, f2⟩ := bindS f1; clear f1
  obtain ⟨p0, m0, c0, c1, c2, c3⟩ := (H.rs (α := List Int) 4 rfl).at1 e; clear e
  refine idxE c0 c1 c2 ?_; clear c0 c1 c2
  refine load1 c3 ?_; clear c3
  refine heldX H [5] (.fst 2 (.fst 0 (.fst 1 (.act 3 (.fst 4 (.act 5 .done)))))) mixed [] trivial (by kernel_rfl) ?_
  clear H; intro w2 H
  have hX : Ext w2 w2 := Upd.refl _ _
  have H0 := H
  refine load1X (H.bx0 0 rfl) ?_
  refine load1X (H.bx0 2 rfl) ?_
  obtain ⟨y0, e, f3⟩ := bindS f2; clear f2
  have i0 := e; clear e
  refine callFx (impl_classes_root_c c1_ c1_h a0 y0 i0) H ⟨Vw.sh 3 rfl, trivial⟩ ?_; clear H i0
  rintro _ _ w3 ⟨rfl, rfl⟩ hx H
  replace hX := hX.trans0 hx; clear hx
  refine hold hX ?_
  obtain ⟨a1, e, f4⟩ := bindS f3; clear f3
  have i1 := e; clear e
  obtain ⟨p1, m1, c4, c5, c6⟩ := (H.ro (α := List Bool) 1 rfl).setp i1
  refine idxE c4 c5 c6 ?_
  replace H := H.sel [1, 0, 2, 3, 4] rfl
  refine setS (α := Bool) H c4 c5 i1 ?_; clear H c4 c5 c6 i1; intro w4 H
  refine hold trivial ?_
  refine arK hk x0 ?_
  have hs := Option.some.inj f4; subst hs; clear f4
  exact ⟨(), ⟨rfl, rfl, rfl, rfl, rfl, trivial⟩, H.sel [1, 0, 2, 3, 4] rfl⟩
 ·
  clear H e
  rintro T1 _ w5 (H : Cx w0 fp0 S0 w5 [Bx c0_b [(c0_h).v], E (List Bool) r0 c0_h, Bx c1_b [(c1_h).v], Es (List Int) c1_ c1_h, Es (List Int) list_ list_h])
  refine boolE (z := false) geLen ?_
  refine sq ?_
  cases f0
  exact ⟨_, _, rfl, ⟨rfl, rfl⟩, (H.sel [0, 1, 2] rfl).close ⟨cloB, cloE, cloB, trivial⟩⟩

theorem impl_Graph_lists_impl_Graph_glue_1_c (g__0 : Int) (g__1 : List (Int × Int × List Int × List Int)) (g__1h : Hd) (g__2 : List Int) (g__2h : Hd) (g__3 : List Int) (g__3h : Hd) (d0_b : Nat) (d0_ : List Bool) (d0_h : Hd) (d1_b : Nat) (d1_ : List Int) (d1_h : Hd) (y : List Bool) (hF : F_impl_Graph_lists_impl_Graph_glue_1 (g__0, g__1, g__2, g__3) d0_ d1_ = some y) :
  ConF Tryz.prog 77 #[(.agg #[(.int .i64 g__0), (g__1h).v, (g__2h).v, (g__3h).v]), (.func (.func 96) #[] #[(.pointer (some ⟨d0_b, 0, none⟩)), (.pointer (some ⟨d1_b, 0, none⟩))])] [Es (List (Int × Int × List Int × List Int)) g__1 g__1h, Es (List Int) g__2 g__2h, Es (List Int) g__3 g__3h, Es (List Int) d1_ d1_h] [Bx d0_b [(d0_h).v], E (List Bool) d0_ d0_h, Bx d1_b [(d1_h).v]] (fun v Γ' => v = (.tuple #[]) ∧ Γ' = [Bx d0_b [(d0_h).v], E (List Bool) y d0_h, Bx d1_b [(d1_h).v]]) := by
 intro w0 S0 fp0 hI hS
 have H : Cx w0 fp0 S0 w0 [Es (List (Int × Int × List Int × List Int)) g__1 g__1h, Es (List Int) g__2 g__2h, Es (List Int) g__3 g__3h, Es (List Int) d1_ d1_h, Bx d0_b [(d0_h).v], E (List Bool) d0_ d0_h, Bx d1_b [(d1_h).v]] := Cx.start hI hS
 clear hI hS
 refine enterC (args := [_, _]) gok Tryz.func77 rfl _ rfl rfl rfl ?_
 refine box_ H ?_; clear H; intro b9 w8 hx H
 clear hx
 refine fld gok rfl rfl rfl rfl ?_
 refine load1 (H.bx 0 rfl (j := 2) rfl) ?_
 obtain ⟨y0, e, f0⟩ := bindS hF; clear hF
 have i0 := e; clear e
 replace H := H.sel [5, 6, 7, 0, 1, 2, 3, 4] rfl
 refine callF (impl_Graph_glue_1_c g__2 g__2h d0_b d0_ d0_h d1_b d1_ d1_h y0 i0) (Γi := [Bx d0_b [(d0_h).v], E (List Bool) d0_ d0_h, Bx d1_b [(d1_h).v]]) H ⟨Vw.sh 2 rfl, Vw.sh 4 rfl, trivial⟩ ?_; clear H i0
 rintro _ _ w1 ⟨rfl, rfl⟩ H
 refine fld gok rfl rfl rfl rfl ?_
 refine load1 (H.bx 3 rfl (j := 3) rfl) ?_
 obtain ⟨y1, e, f1⟩ := bindS f0; clear f0
 have i1 := e; clear e
 refine callF (impl_Graph_glue_1_c g__3 g__3h d0_b y0 d0_h d1_b d1_ d1_h y1 i1) (Γi := [Bx d0_b [(d0_h).v], E (List Bool) y0 d0_h, Bx d1_b [(d1_h).v]]) H ⟨Vw.sh 3 rfl, Vw.sh 4 rfl, trivial⟩ ?_; clear H i1
 rintro _ _ w2 ⟨rfl, rfl⟩ H
 refine fld gok rfl rfl rfl rfl ?_
 refine load1 (H.bx 3 rfl (j := 1) rfl) ?_
 refine lenE (H.rs (α := List (Int × Int × List Int × List Int)) 4 rfl).len ?_
 have x0 := (H.rs (α := List (Int × Int × List Int × List Int)) 4 rfl).max
 obtain ⟨r0, e, f2⟩ := bindS f1; clear f1
 refine loopS _ g__1.length (fun (k0 : Nat) (s0 : List Bool) (_ : Unit) => [(1, (.func (.func 96) #[] #[(.pointer (some ⟨d0_b, 0, none⟩)), (.pointer (some ⟨d1_b, 0, none⟩))])), (15, (g__1h).v), (16, (.int .i64 ((g__1.length : Nat) : Int))), (17, (.int .i64 ((k0 : Nat) : Int)))]) (fun _ (s0 : List Bool) (_ : Unit) w' => Cx w0 fp0 S0 w' [Bx d0_b [(d0_h).v], E (List Bool) s0 d0_h, Bx d1_b [(d1_h).v], Es (List Int) d1_ d1_h, Es (List (Int × Int × List Int × List Int)) g__1 g__1h]) y1 () e ⟨rfl, rfl, rfl, rfl, trivial⟩ (H.sel [0, 1, 2, 7, 4] rfl) ?_ ?_
 ·
  clear H e
  rintro T0 k0 s0 _ w3 o0 hk (H : Cx w0 fp0 S0 w3 [Bx d0_b [(d0_h).v], E (List Bool) s0 d0_h, Bx d1_b [(d1_h).v], Es (List Int) d1_ d1_h, Es (List (Int × Int × List Int × List Int)) g__1 g__1h]) f3
  refine boolE (z := true) (ltLen hk) ?_
  refine sq ?_
  refine sq ?_
  obtain ⟨a0, e, f4⟩ := bindS f3; clear f3
  have HH := H; clear H; obtain ⟨p0, m0, g0, c0, c1, c2, c3, H⟩ := HH.el (α := Int × Int × List Int × List Int) 4 rfl e; clear HH
  clear e
  obtain ⟨a0_0, a0_1, a0_2, a0_3⟩ := a0
  obtain ⟨_, _, h0, h1⟩ := g0
  replace H := H.part (β := List Int) a0_2 (h0 : Hd) 0 rfl (fun S h => (And.left (And.right (And.right h))))
  replace H := H.part (β := List Int) a0_3 (h1 : Hd) 1 rfl (fun S h => (And.right (And.right (And.right h))))
  replace H := H.sel [0, 1, 3, 4, 5, 6, 7] rfl
  refine idxE c0 c1 c2 ?_; clear c0 c1 c2
  refine loadN [(.int .i64 a0_0), (.int .i64 a0_1), (h0).v, (h1).v] rfl c3 ?_; clear c3
  refine alloc_ gok rfl H ?_; clear H; intro b0 w4 hx H
  clear hx
  refine stA gok [(.int .i64 a0_0), (.int .i64 a0_1), (h0).v, (h1).v] rfl H rfl rfl rfl ?_; clear H; intro w5 H
  refine fld gok rfl rfl rfl rfl ?_
  refine load1 (H.bx 0 rfl (j := 2) rfl) ?_
  obtain ⟨y2, e, f5⟩ := bindS f4; clear f4
  have i2 := e; clear e
  replace H := H.sel [3, 4, 5, 0, 1, 2, 6, 7] rfl
  refine callF (impl_Graph_glue_1_c a0_2 h0 d0_b s0 d0_h d1_b d1_ d1_h y2 i2) (Γi := [Bx d0_b [(d0_h).v], E (List Bool) s0 d0_h, Bx d1_b [(d1_h).v]]) H ⟨Vw.sh 2 rfl, Vw.sh 3 rfl, trivial⟩ ?_; clear H i2
  rintro _ _ w6 ⟨rfl, rfl⟩ H
  refine fld gok rfl rfl rfl rfl ?_
  refine load1 (H.bx 3 rfl (j := 3) rfl) ?_
  obtain ⟨y3, e, f6⟩ := bindS f5; clear f5
  have i3 := e; clear e
  refine callF (impl_Graph_glue_1_c a0_3 h1 d0_b y2 d0_h d1_b d1_ d1_h y3 i3) (Γi := [Bx d0_b [(d0_h).v], E (List Bool) y2 d0_h, Bx d1_b [(d1_h).v]]) H ⟨Vw.sh 1 rfl, Vw.sh 3 rfl, trivial⟩ ?_; clear H i3
  rintro _ _ w7 ⟨rfl, rfl⟩ H
  refine arK hk x0 ?_
  have hs := Option.some.inj f6; subst hs; clear f6
  exact ⟨(), ⟨rfl, rfl, rfl, rfl, trivial⟩, H.sel [0, 1, 2, 6, 7] rfl⟩
 ·
  clear H e
  rintro T1 _ w9 (H : Cx w0 fp0 S0 w9 [Bx d0_b [(d0_h).v], E (List Bool) r0 d0_h, Bx d1_b [(d1_h).v], Es (List Int) d1_ d1_h, Es (List (Int × Int × List Int × List Int)) g__1 g__1h])
  refine boolE (z := false) geLen ?_
  refine sq ?_
  cases f2
  exact ⟨_, _, rfl, ⟨rfl, rfl⟩, (H.sel [0, 1, 2] rfl).close ⟨cloB, cloE, cloB, trivial⟩⟩

theorem impl_Graph_glue_c (g__0 : Int) (g__1 : List (Int × Int × List Int × List Int)) (g__1h : Hd) (g__2 : List Int) (g__2h : Hd) (g__3 : List Int) (g__3h : Hd) (pairs_ : List (Int × Int)) (pairs_h : Hd) (y_0_0 : Int) (y_0_1 : List (Int × Int × List Int × List Int)) (y_0_2 : List Int) (y_0_3 : List Int) (y_1 : List Int) (hF : F_impl_Graph_glue (g__0, g__1, g__2, g__3) pairs_ = some ((y_0_0, y_0_1, y_0_2, y_0_3), y_1)) :
  ConF Tryz.prog 71 #[(.agg #[(.int .i64 g__0), (g__1h).v, (g__2h).v, (g__3h).v]), (pairs_h).v] [Es (List (Int × Int × List Int × List Int)) g__1 g__1h, Es (List Int) g__2 g__2h, Es (List Int) g__3 g__3h, Es (List (Int × Int)) pairs_ pairs_h] [] (fun v Γ' => ∃ z0 z1 z2 z3 : Hd, v = (.agg #[(.int .i64 y_0_0), (z0).v, (z1).v, (z2).v, (z3).v]) ∧ Γ' = [E (List (Int × Int × List Int × List Int)) y_0_1 z0, E (List Int) y_0_2 z1, E (List Int) y_0_3 z2, E (List Int) y_1 z3]) := by
 intro w0 S0 fp0 hI hS
 have H : Cx w0 fp0 S0 w0 [Es (List (Int × Int × List Int × List Int)) g__1 g__1h, Es (List Int) g__2 g__2h, Es (List Int) g__3 g__3h, Es (List (Int × Int)) pairs_ pairs_h] := Cx.start hI hS
 clear hI hS
 refine enterC (args := [_, _]) gok Tryz.func71 rfl _ rfl rfl rfl ?_
 refine box_ H ?_; clear H; intro b6 w5 hx H
 clear hx
 refine alloc_ gok rfl H ?_; clear H; intro b9 w8 hx H
 clear hx
 refine fld gok rfl rfl rfl rfl ?_
 refine load1 (H.bx 1 rfl (j := 0) rfl) ?_
 obtain ⟨y0, e, f0⟩ := bindS hF; clear hF
 have i0 := e; clear e
 refine callF (impl_upTo_c g__0 y0 i0) (Γi := []) H trivial ?_; clear H i0
 rintro _ _ w1 ⟨h0, rfl, rfl⟩ H
 refine alloc_ gok rfl H ?_; clear H; intro b0 w2 hx H
 clear hx
 refine stB0 H rfl ?_; clear H; intro w3 H
 refine sq ?_
 refine lenE (H.rs (α := List (Int × Int)) 7 rfl).len ?_
 have x0 := (H.rs (α := List (Int × Int)) 7 rfl).max
 obtain ⟨r0, e, f1⟩ := bindS f0; clear f0
 refine loopS _ pairs_.length (fun (k0 : Nat) (s0 : List Int) (_ : Unit) => [(2, (.pointer (some ⟨b6, 0, none⟩))), (4, (.pointer (some ⟨b9, 0, none⟩))), (5, (.pointer (some ⟨b0, 0, none⟩))), (16, (pairs_h).v), (17, (.int .i64 ((pairs_.length : Nat) : Int))), (18, (.int .i64 ((k0 : Nat) : Int)))]) (fun _ (s0 : List Int) (_ : Unit) w' => Cx w0 fp0 S0 w' [Bx b6 [(.int .i64 g__0), (g__1h).v, (g__2h).v, (g__3h).v], Es (List (Int × Int × List Int × List Int)) g__1 g__1h, Es (List Int) g__2 g__2h, Es (List Int) g__3 g__3h, Bx b9 [(.int .i64 0), (.slice none 0 0), (.slice none 0 0), (.slice none 0 0), (.slice none 0 0)], Bx b0 [(h0).v], E (List Int) s0 h0, Es (List (Int × Int)) pairs_ pairs_h]) y0 () e ⟨rfl, rfl, rfl, rfl, rfl, rfl, trivial⟩ (H.sel [3, 4, 5, 6, 2, 0, 1, 7] rfl) ?_ ?_
 ·
  clear H e
  rintro T0 k0 s0 _ w4 o0 hk (H : Cx w0 fp0 S0 w4 [Bx b6 [(.int .i64 g__0), (g__1h).v, (g__2h).v, (g__3h).v], Es (List (Int × Int × List Int × List Int)) g__1 g__1h, Es (List Int) g__2 g__2h, Es (List Int) g__3 g__3h, Bx b9 [(.int .i64 0), (.slice none 0 0), (.slice none 0 0), (.slice none 0 0), (.slice none 0 0)], Bx b0 [(h0).v], E (List Int) s0 h0, Es (List (Int × Int)) pairs_ pairs_h]) f2
  refine boolE (z := true) (ltLen hk) ?_
  refine sq ?_
  refine sq ?_
  obtain ⟨a0, e, f3⟩ := bindS f2; clear f2
  have HH := H; clear H; obtain ⟨p0, m0, g0, c0, c1, c2, c3, H⟩ := HH.el (α := Int × Int) 7 rfl e; clear HH
  clear e
  obtain ⟨a0_0, a0_1⟩ := a0
  obtain ⟨_, _⟩ := g0
  replace H := H.sel [1, 2, 3, 4, 5, 6, 7, 8] rfl
  refine idxE c0 c1 c2 ?_; clear c0 c1 c2
  refine loadN [(.int .i64 a0_0), (.int .i64 a0_1)] rfl c3 ?_; clear c3
  refine alloc_ gok rfl H ?_; clear H; intro b1 w6 hx H
  clear hx
  refine stA gok [(.int .i64 a0_0), (.int .i64 a0_1)] rfl H rfl rfl rfl ?_; clear H; intro w7 H
  refine load1 (H.bx0 6 rfl) ?_
  refine idxAr gok rfl rfl (m := 0) rfl rfl ?_
  refine load1 (H.bx 0 rfl (j := 0) rfl) ?_
  refine idxAr gok rfl rfl (m := 1) rfl rfl ?_
  refine load1 (H.bx 0 rfl (j := 1) rfl) ?_
  obtain ⟨y1, e, f4⟩ := bindS f3; clear f3
  have i1 := e; clear e
  replace H := H.sel [7, 0, 1, 2, 3, 4, 5, 6, 8] rfl
  refine callF (impl_classes_join_c s0 h0 a0_0 a0_1 y1 i1) (Γi := [E (List Int) s0 h0]) H trivial ?_; clear H i1
  rintro _ _ w9 ⟨rfl, rfl⟩ H
  refine arK hk x0 ?_
  have hs := Option.some.inj f4; subst hs; clear f4
  exact ⟨(), ⟨rfl, rfl, rfl, rfl, rfl, rfl, trivial⟩, H.sel [2, 3, 4, 5, 6, 7, 0, 8] rfl⟩
 ·
  clear H e
  rintro T1 _ w10 (H : Cx w0 fp0 S0 w10 [Bx b6 [(.int .i64 g__0), (g__1h).v, (g__2h).v, (g__3h).v], Es (List (Int × Int × List Int × List Int)) g__1 g__1h, Es (List Int) g__2 g__2h, Es (List Int) g__3 g__3h, Bx b9 [(.int .i64 0), (.slice none 0 0), (.slice none 0 0), (.slice none 0 0), (.slice none 0 0)], Bx b0 [(h0).v], E (List Int) r0 h0, Es (List (Int × Int)) pairs_ pairs_h])
  refine boolE (z := false) geLen ?_
  refine sq ?_
  refine fld gok rfl rfl rfl rfl ?_
  refine load1 (H.bx 0 rfl (j := 0) rfl) ?_
  obtain ⟨a1, e, f5⟩ := bindS f1; clear f1
  refine make_ (α := Bool) gok rfl rfl rfl rfl (makeCO_of e) H ?_; clear e H; intro h1 w11 hx H
  clear hx
  refine alloc_ gok rfl H ?_; clear H; intro b2 w12 hx H
  clear hx
  refine stB0 H rfl ?_; clear H; intro w14 H
  refine loadN [(.int .i64 g__0), (g__1h).v, (g__2h).v, (g__3h).v] rfl (fun j u hj => H.bx 2 rfl hj) ?_
  obtain ⟨y2, e, f6⟩ := bindS f5; clear f5
  have i2 := e; clear e
  replace H := H.sel [0, 1, 7, 2, 3, 4, 5, 6, 8, 9] rfl
  refine callF (impl_Graph_lists_impl_Graph_glue_1_c g__0 g__1 g__1h g__2 g__2h g__3 g__3h b2 a1 h1 b0 r0 h0 y2 i2) (Γi := [Bx b2 [(h1).v], E (List Bool) a1 h1, Bx b0 [(h0).v]]) H ⟨Vw.sh 1 rfl, Vw.sh 2 rfl, Vw.sh 3 rfl, Vw.own 5 rfl, trivial⟩ ?_; clear H i2
  rintro _ _ w15 ⟨rfl, rfl⟩ H
  refine fld gok rfl rfl rfl rfl ?_
  refine load1 (H.bx 3 rfl (j := 0) rfl) ?_
  obtain ⟨y3, e, f7⟩ := bindS f6; clear f6
  have i3 := e; clear e
  refine callF (impl_zeros_c g__0 y3 i3) (Γi := []) H trivial ?_; clear H i3
  rintro _ _ w17 ⟨h2, rfl, rfl⟩ H
  refine sq ?_
  refine lenE (H.ro (α := List Int) 0 rfl).len ?_
  have x1 := (H.ro (α := List Int) 0 rfl).max
  obtain ⟨r1, e, f8⟩ := bindS f7; clear f7
  refine loopS _ y3.length (fun (k1 : Nat) (s1 : List Int × Int) (_ : Unit) => [(2, (.pointer (some ⟨b6, 0, none⟩))), (4, (.pointer (some ⟨b9, 0, none⟩))), (5, (.pointer (some ⟨b0, 0, none⟩))), (8, (.pointer (some ⟨b2, 0, none⟩))), (9, (h2).v), (10, (.int .i64 s1.2)), (39, (.int .i64 ((y3.length : Nat) : Int))), (40, (.int .i64 ((k1 : Nat) : Int)))]) (fun _ (s1 : List Int × Int) (_ : Unit) w' => Cx w0 fp0 S0 w' [Bx b6 [(.int .i64 g__0), (g__1h).v, (g__2h).v, (g__3h).v], Es (List (Int × Int × List Int × List Int)) g__1 g__1h, Es (List Int) g__2 g__2h, Es (List Int) g__3 g__3h, Bx b9 [(.int .i64 0), (.slice none 0 0), (.slice none 0 0), (.slice none 0 0), (.slice none 0 0)], Bx b0 [(h0).v], E (List Int) r0 h0, Bx b2 [(h1).v], E (List Bool) y2 h1, E (List Int) s1.1 h2]) (y3, 0) () e ⟨rfl, rfl, rfl, rfl, rfl, rfl, rfl, rfl, trivial⟩ (H.sel [4, 5, 6, 7, 8, 3, 9, 1, 2, 0] rfl) ?_ ?_
  ·
   clear H e
   rintro T2 k1 ⟨s1_0, s1_1⟩ _ w18 o1 hk (H : Cx w0 fp0 S0 w18 [Bx b6 [(.int .i64 g__0), (g__1h).v, (g__2h).v, (g__3h).v], Es (List (Int × Int × List Int × List Int)) g__1 g__1h, Es (List Int) g__2 g__2h, Es (List Int) g__3 g__3h, Bx b9 [(.int .i64 0), (.slice none 0 0), (.slice none 0 0), (.slice none 0 0), (.slice none 0 0)], Bx b0 [(h0).v], E (List Int) r0 h0, Bx b2 [(h1).v], E (List Bool) y2 h1, E (List Int) s1_0 h2]) f9
   refine boolE (z := true) (ltLen hk) ?_
   refine sq ?_
   refine sq ?_
   refine load1 (H.bx0 5 rfl) ?_
   obtain ⟨y4, e, f10⟩ := bindS f9; clear f9
   have i4 := e; clear e
   refine callF (impl_classes_root_c r0 h0 ((k1 : Nat) : Int) y4 i4) (Γi := []) H ⟨Vw.own 6 rfl, trivial⟩ ?_; clear H i4
   rintro _ _ w20 ⟨rfl, rfl⟩ H
   refine load1 (H.bx0 7 rfl) ?_
   obtain ⟨a2, e, f11⟩ := bindS f10; clear f10
   obtain ⟨p1, m1, c4, c5, c6, c7⟩ := (H.ro (α := List Bool) 8 rfl).at1 e; clear e
   refine idxE c4 c5 c6 ?_; clear c4 c5 c6
   refine load1 c7 ?_; clear c7
   obtain ⟨a3, e, f12⟩ := bindS f11; clear f11
   refine boolO e ?_; clear e
   cases a3
   ·
    have f13 := condF f12; clear f12
    obtain ⟨a4, e, f14⟩ := bindS f13; clear f13
    refine boolO e ?_; clear e
    cases a4
    ·
     have f15 := condF f14; clear f14
     obtain ⟨a5, e, f16⟩ := bindS f15; clear f15
     have i5 := e; clear e
     obtain ⟨p2, m2, c8, c9, c10⟩ := (H.ro (α := List Int) 9 rfl).setp i5
     refine idxE c8 c9 c10 ?_
     replace H := H.sel [9, 0, 1, 2, 3, 4, 5, 6, 7, 8] rfl
     refine setS (α := Int) H c8 c9 i5 ?_; clear H c8 c9 c10 i5; intro w21 H
     obtain ⟨a6, e, f17⟩ := bindS f16; clear f16
     refine arO e ?_; clear e
     refine arK hk x1 ?_
     have hs := Option.some.inj f17; subst hs; clear f17
     exact ⟨(), ⟨rfl, rfl, rfl, rfl, rfl, rfl, rfl, rfl, trivial⟩, H.sel [1, 2, 3, 4, 5, 6, 7, 8, 9, 0] rfl⟩
    ·
     have f18 := condT f14; clear f14
     obtain ⟨a7, e, f19⟩ := bindS f18; clear f18
     obtain ⟨p3, m3, c11, c12, c13, c14⟩ := (H.ro (α := List Int) 9 rfl).at1 e; clear e
     refine idxE c11 c12 c13 ?_; clear c11 c12 c13
     refine load1 c14 ?_; clear c14
     obtain ⟨a8, e, f20⟩ := bindS f19; clear f19
     have i6 := e; clear e
     obtain ⟨p4, m4, c15, c16, c17⟩ := (H.ro (α := List Int) 9 rfl).setp i6
     refine idxE c15 c16 c17 ?_
     replace H := H.sel [9, 0, 1, 2, 3, 4, 5, 6, 7, 8] rfl
     refine setS (α := Int) H c15 c16 i6 ?_; clear H c15 c16 c17 i6; intro w22 H
     refine arK hk x1 ?_
     have hs := Option.some.inj f20; subst hs; clear f20
     exact ⟨(), ⟨rfl, rfl, rfl, rfl, rfl, rfl, rfl, rfl, trivial⟩, H.sel [1, 2, 3, 4, 5, 6, 7, 8, 9, 0] rfl⟩
   ·
    have f21 := condT f12; clear f12
    obtain ⟨a9, e, f22⟩ := bindS f21; clear f21
    have i7 := e; clear e
    obtain ⟨p5, m5, c18, c19, c20⟩ := (H.ro (α := List Int) 9 rfl).setp i7
    refine idxE c18 c19 c20 ?_
    replace H := H.sel [9, 0, 1, 2, 3, 4, 5, 6, 7, 8] rfl
    refine setS (α := Int) H c18 c19 i7 ?_; clear H c18 c19 c20 i7; intro w23 H
    refine arK hk x1 ?_
    have hs := Option.some.inj f22; subst hs; clear f22
    exact ⟨(), ⟨rfl, rfl, rfl, rfl, rfl, rfl, rfl, rfl, trivial⟩, H.sel [1, 2, 3, 4, 5, 6, 7, 8, 9, 0] rfl⟩
  ·
   clear H e
   obtain ⟨s2_0, s2_1⟩ := r1
   rintro T3 _ w24 (H : Cx w0 fp0 S0 w24 [Bx b6 [(.int .i64 g__0), (g__1h).v, (g__2h).v, (g__3h).v], Es (List (Int × Int × List Int × List Int)) g__1 g__1h, Es (List Int) g__2 g__2h, Es (List Int) g__3 g__3h, Bx b9 [(.int .i64 0), (.slice none 0 0), (.slice none 0 0), (.slice none 0 0), (.slice none 0 0)], Bx b0 [(h0).v], E (List Int) r0 h0, Bx b2 [(h1).v], E (List Bool) y2 h1, E (List Int) s2_0 h2])
   refine boolE (z := false) geLen ?_
   refine sq ?_
   refine loadN [(.int .i64 g__0), (g__1h).v, (g__2h).v, (g__3h).v] rfl (fun j u hj => H.bx 0 rfl hj) ?_
   obtain ⟨y5, e, f23⟩ := bindS f8; clear f8
   obtain ⟨y5_0, y5_1, y5_2, y5_3⟩ := y5
   have i8 := e; clear e
   refine callF (impl_Graph_moved_c g__0 g__1 g__1h g__2 g__2h g__3 g__3h s2_1 s2_0 h2 y5_0 y5_1 y5_2 y5_3 i8) (Γi := []) H ⟨Vw.sh 1 rfl, Vw.sh 2 rfl, Vw.sh 3 rfl, Vw.own 9 rfl, trivial⟩ ?_; clear H i8
   rintro _ _ w25 ⟨h3, h4, h5, rfl, rfl⟩ H
   refine build_ (cs := #[(.int .i64 y5_0), (h3).v, (h4).v, (h5).v, (h2).v]) gok rfl rfl rfl ?_
   replace H := H.sel [7, 0, 1, 2, 3, 4, 5, 6, 8, 9, 10, 11, 12] rfl
   refine stA gok [(.int .i64 y5_0), (h3).v, (h4).v, (h5).v, (h2).v] rfl H rfl rfl rfl ?_; clear H; intro w26 H
   refine loadN [(.int .i64 y5_0), (h3).v, (h4).v, (h5).v, (h2).v] rfl (fun j u hj => H.bx 0 rfl hj) ?_
   cases f23
   exact ⟨_, _, rfl, ⟨h3, h4, h5, h2, rfl, rfl⟩, (H.sel [1, 2, 3, 12] rfl).close ⟨cloE, cloE, cloE, cloE, trivial⟩⟩

theorem impl_seqGraphs_c (a__0 : Int) (a__1 : List (Int × Int × List Int × List Int)) (a__1h : Hd) (a__2 : List Int) (a__2h : Hd) (a__3 : List Int) (a__3h : Hd) (b__0 : Int) (b__1 : List (Int × Int × List Int × List Int)) (b__1h : Hd) (b__2 : List Int) (b__2h : Hd) (b__3 : List Int) (b__3h : Hd) (y_0 : Int) (y_1 : List (Int × Int × List Int × List Int)) (y_2 : List Int) (y_3 : List Int) (hF : F_impl_seqGraphs (a__0, a__1, a__2, a__3) (b__0, b__1, b__2, b__3) = some (y_0, y_1, y_2, y_3)) :
  ConF Tryz.prog 36 #[(.agg #[(.int .i64 a__0), (a__1h).v, (a__2h).v, (a__3h).v]), (.agg #[(.int .i64 b__0), (b__1h).v, (b__2h).v, (b__3h).v])] [Es (List (Int × Int × List Int × List Int)) a__1 a__1h, Es (List Int) a__2 a__2h, Es (List Int) a__3 a__3h, Es (List (Int × Int × List Int × List Int)) b__1 b__1h, Es (List Int) b__2 b__2h, Es (List Int) b__3 b__3h] [] (fun v Γ' => ∃ z0 z1 z2 : Hd, v = (.agg #[(.int .i64 y_0), (z0).v, (z1).v, (z2).v]) ∧ Γ' = [E (List (Int × Int × List Int × List Int)) y_1 z0, E (List Int) y_2 z1, E (List Int) y_3 z2]) := by
 intro w0 S0 fp0 hI hS
 have H : Cx w0 fp0 S0 w0 [Es (List (Int × Int × List Int × List Int)) a__1 a__1h, Es (List Int) a__2 a__2h, Es (List Int) a__3 a__3h, Es (List (Int × Int × List Int × List Int)) b__1 b__1h, Es (List Int) b__2 b__2h, Es (List Int) b__3 b__3h] := Cx.start hI hS
 clear hI hS
 refine enterC (args := [_, _]) gok Tryz.func36 rfl _ rfl rfl rfl ?_
 refine box_ H ?_; clear H; intro b8 w7 hx H
 clear hx
 refine box_ H ?_; clear H; intro b0 w1 hx H
 clear hx
 refine alloc_ gok rfl H ?_; clear H; intro b1 w2 hx H
 clear hx
 refine loadN [(.int .i64 a__0), (a__1h).v, (a__2h).v, (a__3h).v] rfl (fun j u hj => H.bx 2 rfl hj) ?_
 refine loadN [(.int .i64 b__0), (b__1h).v, (b__2h).v, (b__3h).v] rfl (fun j u hj => H.bx 1 rfl hj) ?_
 obtain ⟨y0, e, f0⟩ := bindS hF; clear hF
 obtain ⟨y0_0, y0_1, y0_2, y0_3⟩ := y0
 have i0 := e; clear e
 refine callF (impl_Graph_beside_c a__0 a__1 a__1h a__2 a__2h a__3 a__3h b__0 b__1 b__1h b__2 b__2h b__3 b__3h y0_0 y0_1 y0_2 y0_3 i0) (Γi := []) H ⟨Vw.sh 3 rfl, Vw.sh 4 rfl, Vw.sh 5 rfl, Vw.sh 6 rfl, Vw.sh 7 rfl, Vw.sh 8 rfl, trivial⟩ ?_; clear H i0
 rintro _ _ w3 ⟨h0, h1, h2, rfl, rfl⟩ H
 refine alloc_ gok rfl H ?_; clear H; intro b2 w4 hx H
 clear hx
 refine stA gok [(.int .i64 y0_0), (h0).v, (h1).v, (h2).v] rfl H rfl rfl rfl ?_; clear H; intro w5 H
 refine lit0 (α := Int × Int) gok rfl rfl H ?_; clear H; intro h3 w6 hx H
 clear hx
 refine sq ?_
 refine fld gok rfl rfl rfl rfl ?_
 refine load1 (H.bx 7 rfl (j := 3) rfl) ?_
 refine lenE (H.rs (α := List Int) 10 rfl).len ?_
 have x0 := (H.rs (α := List Int) 10 rfl).max
 obtain ⟨r0, e, f1⟩ := bindS f0; clear f0
 refine loopS _ a__3.length (fun (k0 : Nat) (s0 : List (Int × Int)) (g0 : Hd) => [(2, (.pointer (some ⟨b8, 0, none⟩))), (3, (.pointer (some ⟨b0, 0, none⟩))), (4, (.pointer (some ⟨b1, 0, none⟩))), (5, (.pointer (some ⟨b2, 0, none⟩))), (6, (g0).v), (14, (a__3h).v), (15, (.int .i64 ((a__3.length : Nat) : Int))), (16, (.int .i64 ((k0 : Nat) : Int)))]) (fun _ (s0 : List (Int × Int)) (g0 : Hd) w' => Cx w0 fp0 S0 w' [Bx b8 [(.int .i64 a__0), (a__1h).v, (a__2h).v, (a__3h).v], Es (List (Int × Int × List Int × List Int)) a__1 a__1h, Es (List Int) a__2 a__2h, Es (List Int) a__3 a__3h, Bx b0 [(.int .i64 b__0), (b__1h).v, (b__2h).v, (b__3h).v], Es (List (Int × Int × List Int × List Int)) b__1 b__1h, Es (List Int) b__2 b__2h, Es (List Int) b__3 b__3h, Bx b1 [(.int .i64 0), (.slice none 0 0), (.slice none 0 0), (.slice none 0 0)], Bx b2 [(.int .i64 y0_0), (h0).v, (h1).v, (h2).v], E (List (Int × Int × List Int × List Int)) y0_1 h0, E (List Int) y0_2 h1, E (List Int) y0_3 h2, E (List (Int × Int)) s0 g0]) ([] : List (Int × Int)) h3 e ⟨rfl, rfl, rfl, rfl, rfl, rfl, rfl, rfl, trivial⟩ (H.sel [7, 8, 9, 10, 6, 11, 12, 13, 5, 1, 2, 3, 4, 0] rfl) ?_ ?_
 ·
  clear H e
  rintro T0 k0 s0 g0 w8 o0 hk (H : Cx w0 fp0 S0 w8 [Bx b8 [(.int .i64 a__0), (a__1h).v, (a__2h).v, (a__3h).v], Es (List (Int × Int × List Int × List Int)) a__1 a__1h, Es (List Int) a__2 a__2h, Es (List Int) a__3 a__3h, Bx b0 [(.int .i64 b__0), (b__1h).v, (b__2h).v, (b__3h).v], Es (List (Int × Int × List Int × List Int)) b__1 b__1h, Es (List Int) b__2 b__2h, Es (List Int) b__3 b__3h, Bx b1 [(.int .i64 0), (.slice none 0 0), (.slice none 0 0), (.slice none 0 0)], Bx b2 [(.int .i64 y0_0), (h0).v, (h1).v, (h2).v], E (List (Int × Int × List Int × List Int)) y0_1 h0, E (List Int) y0_2 h1, E (List Int) y0_3 h2, E (List (Int × Int)) s0 g0]) f2
  refine boolE (z := true) (ltLen hk) ?_
  refine sq ?_
  refine sq ?_
  obtain ⟨a0, e, f3⟩ := bindS f2; clear f2
  obtain ⟨p0, m0, c0, c1, c2, c3⟩ := (H.rs (α := List Int) 3 rfl).at1 e; clear e
  refine idxE c0 c1 c2 ?_; clear c0 c1 c2
  refine load1 c3 ?_; clear c3
  refine heldX H [12, 13] (.fst 0 (.fst 1 (.fst 2 (.fst 4 (.fst 6 (.fst 3 (.fst 5 (.fst 7 (.fst 8 (.fst 9 (.fst 10 (.act 11 (.act 12 (.act 13 .done)))))))))))))) mixed [] trivial (by kernel_rfl) ?_
  clear H; intro w9 H
  have hX : Ext w9 w9 := Upd.refl _ _
  have H0 := H
  refine anyH (fun _ => fld gok rfl rfl rfl rfl ⟨rfl, rfl⟩) ?_
  refine anyH (fun _ => fld gok rfl rfl rfl rfl ⟨rfl, rfl⟩) ?_
  refine load1X (H.bx 0 rfl (j := 0) rfl) ?_
  refine load1X (H.bx 4 rfl (j := 2) rfl) ?_
  obtain ⟨a1, e, f4⟩ := bindS f3; clear f3
  obtain ⟨p1, m1, c4, c5, c6, c7⟩ := (H.rs (α := List Int) 6 rfl).at1 e; clear e
  refine idxE c4 c5 c6 ?_; clear c4 c5 c6
  refine load1X c7 ?_; clear c7
  obtain ⟨a2, e, f5⟩ := bindS f4; clear f4
  refine arO e ?_; clear e
  refine anyH (fun _ => buildAr (cs := #[(.int .i64 a0), (.int .i64 a2)]) gok rfl rfl rfl ⟨rfl, rfl⟩) ?_
  replace H := H.sc (α := Int) a2
  replace H := H.sc (α := Int) a0
  replace H := H.join (α := Int) (β := Int)
  refine lit1 (α := Int × Int) (g := ((), ())) gok rfl rfl rfl rfl rfl H ?_; clear H; intro h4 w11 hx H
  replace hX := hX.trans0 hx; clear hx
  refine hold hX ?_
  obtain ⟨a3, e, f6⟩ := bindS f5; clear f5
  replace H := H.sel [14, 0, 1, 2, 3, 4, 5, 6, 7, 8, 9, 10, 11, 12, 13] rfl
  refine append_ (α := Int × Int) gok rfl rfl rfl rfl H e ?_; clear e H; intro h5 w12 H
  refine hold trivial ?_
  refine hold trivial ?_
  refine arK hk x0 ?_
  have hs := Option.some.inj f6; subst hs; clear f6
  exact ⟨h5, ⟨rfl, rfl, rfl, rfl, rfl, rfl, rfl, rfl, trivial⟩, H.sel [1, 2, 3, 4, 5, 6, 7, 8, 9, 10, 11, 12, 13, 0] rfl⟩
 ·
  clear H e
  rintro T1 g1 w14 (H : Cx w0 fp0 S0 w14 [Bx b8 [(.int .i64 a__0), (a__1h).v, (a__2h).v, (a__3h).v], Es (List (Int × Int × List Int × List Int)) a__1 a__1h, Es (List Int) a__2 a__2h, Es (List Int) a__3 a__3h, Bx b0 [(.int .i64 b__0), (b__1h).v, (b__2h).v, (b__3h).v], Es (List (Int × Int × List Int × List Int)) b__1 b__1h, Es (List Int) b__2 b__2h, Es (List Int) b__3 b__3h, Bx b1 [(.int .i64 0), (.slice none 0 0), (.slice none 0 0), (.slice none 0 0)], Bx b2 [(.int .i64 y0_0), (h0).v, (h1).v, (h2).v], E (List (Int × Int × List Int × List Int)) y0_1 h0, E (List Int) y0_2 h1, E (List Int) y0_3 h2, E (List (Int × Int)) r0 g1])
  refine boolE (z := false) geLen ?_
  refine sq ?_
  refine heldX H [12, 14, 13] (.fst 0 (.fst 3 (.fst 5 (.fst 7 (.fst 1 (.fst 4 (.fst 6 (.fst 8 (.act 2 (.fst 11 (.act 9 (.act 10 (.act 12 (.act 13 (.act 14 .done))))))))))))))) mixed [] trivial (by kernel_rfl) ?_
  clear H; intro w15 H
  have hX : Ext w15 w15 := Upd.refl _ _
  have H0 := H
  refine anyH (fun _ => fld gok rfl rfl rfl rfl ⟨rfl, rfl⟩) ?_
  refine anyH (fun _ => fld gok rfl rfl rfl rfl ⟨rfl, rfl⟩) ?_
  refine anyH (fun _ => fld gok rfl rfl rfl rfl ⟨rfl, rfl⟩) ?_
  refine anyH (fun _ => fld gok rfl rfl rfl rfl ⟨rfl, rfl⟩) ?_
  refine load1X (H.bx 0 rfl (j := 2) rfl) ?_
  refine load1X (H.bx 4 rfl (j := 3) rfl) ?_
  refine load1X (H.bx 0 rfl (j := 0) rfl) ?_
  refine load1X (H.bx 4 rfl (j := 0) rfl) ?_
  obtain ⟨y1, e, f7⟩ := bindS f1; clear f1
  have i1 := e; clear e
  refine callFx (impl_clone_c a__2 a__2h y1 i1) H ⟨Vw.sh 2 rfl, trivial⟩ ?_; clear H i1
  rintro _ _ w16 ⟨h6, rfl, rfl⟩ hx H
  replace hX := hX.trans0 hx; clear hx
  refine hold hX ?_
  refine anyH (fun _ => fld gok rfl rfl rfl rfl ⟨rfl, rfl⟩) ?_
  obtain ⟨y2, e, f8⟩ := bindS f7; clear f7
  have i2 := e; clear e
  refine callFx (impl_from_c a__0 b__0 y2 i2) H trivial ?_; clear H i2
  rintro _ _ w17 ⟨h7, rfl, rfl⟩ hx H
  replace hX := hX.trans0 hx; clear hx
  refine hold hX ?_
  obtain ⟨y3, e, f9⟩ := bindS f8; clear f8
  have i3 := e; clear e
  refine callFx (impl_mapped_c b__3 b__3h y2 h7 y3 i3) H ⟨Vw.sh 9 rfl, Vw.own 0 rfl, trivial⟩ ?_; clear H i3
  rintro _ _ w19 ⟨h8, rfl, rfl⟩ hx H
  replace hX := hX.trans0 hx; clear hx
  refine hold hX ?_
  replace H := H.sel [12, 0, 1, 2, 3, 4, 5, 6, 7, 8, 9, 10, 11, 13, 14, 15, 16] rfl
  refine stB (j := 2) H rfl rfl ?_; clear H; intro w20 H
  refine hold trivial ?_
  refine fld gok rfl rfl rfl rfl ?_
  refine hold trivial ?_
  refine stB (j := 3) H rfl rfl ?_; clear H; intro w21 H
  refine hold trivial ?_
  refine loadN [(.int .i64 y0_0), (h0).v, (h6).v, (h8).v] rfl (fun j u hj => H.bx 0 rfl hj) ?_
  obtain ⟨y4, e, f10⟩ := bindS f9; clear f9
  obtain ⟨⟨y4_0_0, y4_0_1, y4_0_2, y4_0_3⟩, y4_1⟩ := y4
  have i4 := e; clear e
  refine callF (impl_Graph_glue_c y0_0 y0_1 h0 y1 h6 y3 h8 r0 g1 y4_0_0 y4_0_1 y4_0_2 y4_0_3 y4_1 i4) (Γi := []) H ⟨Vw.own 13 rfl, Vw.own 3 rfl, Vw.own 1 rfl, Vw.own 16 rfl, trivial⟩ ?_; clear H i4
  rintro _ _ w22 ⟨h9, h10, h11, h12, rfl, rfl⟩ H
  replace H := H.sel [16, 0, 1, 2, 3, 4, 5, 6, 7, 8, 9, 10, 11, 12, 13, 14, 15, 17, 18, 19, 20] rfl
  refine stA gok [(.int .i64 y4_0_0), (h9).v, (h10).v, (h11).v] rfl H rfl rfl rfl ?_; clear H; intro w23 H
  refine loadN [(.int .i64 y4_0_0), (h9).v, (h10).v, (h11).v] rfl (fun j u hj => H.bx 0 rfl hj) ?_
  cases f10
  exact ⟨_, _, rfl, ⟨h9, h10, h11, rfl, rfl⟩, (H.sel [1, 2, 3] rfl).close ⟨cloE, cloE, cloE, trivial⟩⟩

theorem impl_joined_c (lists_ : List (List Int)) (lists_h : Hd) (y : List Int) (hF : F_impl_joined lists_ = some y) :
  ConF Tryz.prog 40 #[(lists_h).v] [Es (List (List Int)) lists_ lists_h] [] (fun v Γ' => ∃ z0 : Hd, v = (z0).v ∧ Γ' = [E (List Int) y z0]) := by
 intro w0 S0 fp0 hI hS
 have H : Cx w0 fp0 S0 w0 [Es (List (List Int)) lists_ lists_h] := Cx.start hI hS
 clear hI hS
 refine enterC (args := [_]) gok Tryz.func40 rfl _ rfl rfl rfl ?_
 refine lit0 (α := Int) gok rfl rfl H ?_; clear H; intro h3 w2 hx H
 clear hx
 refine sq ?_
 refine lenE (H.rs (α := List (List Int)) 1 rfl).len ?_
 have x0 := (H.rs (α := List (List Int)) 1 rfl).max
 obtain ⟨r0, e, f0⟩ := bindS hF; clear hF
 refine loopS _ lists_.length (fun (k5 : Nat) (s0 : List Int) (g0 : Hd) => [(3, (g0).v), (7, (lists_h).v), (8, (.int .i64 ((lists_.length : Nat) : Int))), (9, (.int .i64 ((k5 : Nat) : Int)))]) (fun _ (s0 : List Int) (g0 : Hd) w' => Cx w0 fp0 S0 w' [E (List Int) s0 g0, Es (List (List Int)) lists_ lists_h]) ([] : List Int) h3 e ⟨rfl, rfl, rfl, rfl, trivial⟩ (H.sel [0, 1] rfl) ?_ ?_
 ·
  clear H e
  rintro T0 k5 s0 g0 w1 o0 hk (H : Cx w0 fp0 S0 w1 [E (List Int) s0 g0, Es (List (List Int)) lists_ lists_h]) f1
  refine boolE (z := true) (ltLen hk) ?_
  refine sq ?_
  refine sq ?_
  obtain ⟨a0, e, f2⟩ := bindS f1; clear f1
  have HH := H; clear H; obtain ⟨p0, m0, h0, c0, c1, c2, c3, H⟩ := HH.elL 1 rfl e; clear HH
  clear e
  refine idxE c0 c1 c2 ?_; clear c0 c1 c2
  refine load1 c3 ?_; clear c3
  obtain ⟨a1, e, f3⟩ := bindS f2; clear f2
  replace H := H.sel [1, 0, 2] rfl
  refine appendS (α := Int) gok rfl rfl rfl rfl H (Vw.sh 0 rfl) e ?_; clear e H; intro h1 w3 H
  refine arK hk x0 ?_
  have hs := Option.some.inj f3; subst hs; clear f3
  exact ⟨h1, ⟨rfl, rfl, rfl, rfl, trivial⟩, H.sel [0, 2] rfl⟩
 ·
  clear H e
  rintro T1 g1 w4 (H : Cx w0 fp0 S0 w4 [E (List Int) r0 g1, Es (List (List Int)) lists_ lists_h])
  refine boolE (z := false) geLen ?_
  refine sq ?_
  cases f0
  exact ⟨_, _, rfl, ⟨g1, rfl, rfl⟩, (H.sel [0] rfl).close ⟨cloE, trivial⟩⟩
end Go.Proofs.YtalmpcgbghnhpaaGreatDoor
