/-
 Contracts, printed by a program (wip/y/gen.py): each function of Go computes its partial function. Condition of each: its partial function yields a value.
-/
import Derived.Test.YteimaohaeodbkaaGreatZCall
namespace Go.Proofs.YteimaohaeodbkaaGreat
open Go Go.Proofs.YteimaohaeodbkaaGreat.RW
set_option maxRecDepth 100000
set_option maxHeartbeats 1000000
set_option linter.unusedVariables false

theorem spec_hgGlue_c (g__0 : Int) (g__1 : List (Int × Int × List Int × List Int)) (g__1h : Hd) (g__2 : List Int) (g__2h : Hd) (g__3 : List Int) (g__3h : Hd) (a_ : List Int) (a_h : Hd) (b_ : List Int) (b_h : Hd) (y_0 : Int) (y_1 : List (Int × Int × List Int × List Int)) (y_2 : List Int) (y_3 : List Int) (hF : F_spec_hgGlue (g__0, g__1, g__2, g__3) a_ b_ = some (y_0, y_1, y_2, y_3)) :
  ConF Tryz.prog 90 #[(.agg #[(.int .i64 g__0), (g__1h).v, (g__2h).v, (g__3h).v]), (a_h).v, (b_h).v] [Es (List (Int × Int × List Int × List Int)) g__1 g__1h, Es (List Int) g__2 g__2h, Es (List Int) g__3 g__3h, Es (List Int) a_ a_h, Es (List Int) b_ b_h] [] (fun v Γ' => ∃ z0 z1 z2 : Hd, v = (.agg #[(.int .i64 y_0), (z0).v, (z1).v, (z2).v]) ∧ Γ' = [E (List (Int × Int × List Int × List Int)) y_1 z0, E (List Int) y_2 z1, E (List Int) y_3 z2]) := by
 intro w0 S0 fp0 hI hS
 have H : Cx w0 fp0 S0 w0 [Es (List (Int × Int × List Int × List Int)) g__1 g__1h, Es (List Int) g__2 g__2h, Es (List Int) g__3 g__3h, Es (List Int) a_ a_h, Es (List Int) b_ b_h] := Cx.start hI hS
 clear hI hS
 refine enterC (args := [_, _, _]) gok Tryz.func90 rfl _ rfl rfl rfl ?_
 refine box_ H ?_; clear H; intro b7 w6 hx H
 clear hx
 refine alloc_ gok rfl H ?_; clear H; intro b0 w9 hx H
 clear hx
 refine loadN [(.int .i64 g__0), (g__1h).v, (g__2h).v, (g__3h).v] rfl (fun j u hj => H.bx 1 rfl hj) ?_
 obtain ⟨y0, e, f0⟩ := bindS hF; clear hF
 obtain ⟨⟨y0_0_0, y0_0_1, y0_0_2, y0_0_3⟩, y0_1⟩ := y0
 have i0 := e; clear e
 refine callF (spec_hgGlued_c g__0 g__1 g__1h g__2 g__2h g__3 g__3h a_ a_h b_ b_h y0_0_0 y0_0_1 y0_0_2 y0_0_3 y0_1 i0) (Γi := []) H ⟨Vw.sh 2 rfl, Vw.sh 3 rfl, Vw.sh 4 rfl, Vw.sh 5 rfl, Vw.sh 6 rfl, trivial⟩ ?_; clear H i0
 rintro _ _ w1 ⟨h0, h1, h2, h3, rfl, rfl⟩ H
 refine alloc_ gok rfl H ?_; clear H; intro b1 w2 hx H
 clear hx
 refine stA gok [(.int .i64 y0_0_0), (h0).v, (h1).v, (h2).v] rfl H rfl rfl rfl ?_; clear H; intro w3 H
 refine loadN [(.int .i64 y0_0_0), (h0).v, (h1).v, (h2).v] rfl (fun j u hj => H.bx 0 rfl hj) ?_
 replace H := H.sel [5, 0, 1, 2, 3, 4, 6, 7, 8, 9, 10, 11] rfl
 refine stA gok [(.int .i64 y0_0_0), (h0).v, (h1).v, (h2).v] rfl H rfl rfl rfl ?_; clear H; intro w4 H
 refine loadN [(.int .i64 y0_0_0), (h0).v, (h1).v, (h2).v] rfl (fun j u hj => H.bx 0 rfl hj) ?_
 cases f0
 exact ⟨_, _, rfl, ⟨h0, h1, h2, rfl, rfl⟩, (H.sel [2, 3, 4] rfl).close ⟨cloE, cloE, cloE, trivial⟩⟩

theorem spec_hgSeq_c (a__0 : Int) (a__1 : List (Int × Int × List Int × List Int)) (a__1h : Hd) (a__2 : List Int) (a__2h : Hd) (a__3 : List Int) (a__3h : Hd) (b__0 : Int) (b__1 : List (Int × Int × List Int × List Int)) (b__1h : Hd) (b__2 : List Int) (b__2h : Hd) (b__3 : List Int) (b__3h : Hd) (y_0 : Int) (y_1 : List (Int × Int × List Int × List Int)) (y_2 : List Int) (y_3 : List Int) (hF : F_spec_hgSeq (a__0, a__1, a__2, a__3) (b__0, b__1, b__2, b__3) = some (y_0, y_1, y_2, y_3)) :
  ConF Tryz.prog 65 #[(.agg #[(.int .i64 a__0), (a__1h).v, (a__2h).v, (a__3h).v]), (.agg #[(.int .i64 b__0), (b__1h).v, (b__2h).v, (b__3h).v])] [Es (List (Int × Int × List Int × List Int)) a__1 a__1h, Es (List Int) a__2 a__2h, Es (List Int) a__3 a__3h, Es (List (Int × Int × List Int × List Int)) b__1 b__1h, Es (List Int) b__2 b__2h, Es (List Int) b__3 b__3h] [] (fun v Γ' => ∃ z0 z1 z2 : Hd, v = (.agg #[(.int .i64 y_0), (z0).v, (z1).v, (z2).v]) ∧ Γ' = [E (List (Int × Int × List Int × List Int)) y_1 z0, E (List Int) y_2 z1, E (List Int) y_3 z2]) := by
 intro w0 S0 fp0 hI hS
 have H : Cx w0 fp0 S0 w0 [Es (List (Int × Int × List Int × List Int)) a__1 a__1h, Es (List Int) a__2 a__2h, Es (List Int) a__3 a__3h, Es (List (Int × Int × List Int × List Int)) b__1 b__1h, Es (List Int) b__2 b__2h, Es (List Int) b__3 b__3h] := Cx.start hI hS
 clear hI hS
 refine enterC (args := [_, _]) gok Tryz.func65 rfl _ rfl rfl rfl ?_
 refine box_ H ?_; clear H; intro b8 w7 hx H
 clear hx
 refine box_ H ?_; clear H; intro b0 w1 hx H
 clear hx
 refine alloc_ gok rfl H ?_; clear H; intro b1 w2 hx H
 clear hx
 refine loadN [(.int .i64 a__0), (a__1h).v, (a__2h).v, (a__3h).v] rfl (fun j u hj => H.bx 2 rfl hj) ?_
 refine loadN [(.int .i64 b__0), (b__1h).v, (b__2h).v, (b__3h).v] rfl (fun j u hj => H.bx 1 rfl hj) ?_
 obtain ⟨y0, e, f0⟩ := bindS hF; clear hF
 obtain ⟨y0_0, y0_1, y0_2, y0_3⟩ := y0
 have i0 := e; clear e
 refine callF (spec_hgBeside_c a__0 a__1 a__1h a__2 a__2h a__3 a__3h b__0 b__1 b__1h b__2 b__2h b__3 b__3h y0_0 y0_1 y0_2 y0_3 i0) (Γi := []) H ⟨Vw.sh 3 rfl, Vw.sh 4 rfl, Vw.sh 5 rfl, Vw.sh 6 rfl, Vw.sh 7 rfl, Vw.sh 8 rfl, trivial⟩ ?_; clear H i0
 rintro _ _ w3 ⟨h0, h1, h2, rfl, rfl⟩ H
 refine alloc_ gok rfl H ?_; clear H; intro b2 w4 hx H
 clear hx
 refine stA gok [(.int .i64 y0_0), (h0).v, (h1).v, (h2).v] rfl H rfl rfl rfl ?_; clear H; intro w5 H
 refine heldX H [] (.fst 0 (.fst 3 (.fst 1 (.fst 2 (.fst 6 (.fst 4 (.fst 5 (.fst 7 .done)))))))) mixed [] trivial (by kernel_rfl) ?_
 clear H; intro w6 H
 have hX : Ext w6 w6 := Upd.refl _ _
 have H0 := H
 refine anyH (fun _ => fld gok rfl rfl rfl rfl ⟨rfl, rfl⟩) ?_
 refine anyH (fun _ => fld gok rfl rfl rfl rfl ⟨rfl, rfl⟩) ?_
 refine load1X (H.bx 6 rfl (j := 2) rfl) ?_
 refine lenE (H.rs (α := List Int) 8 rfl).len ?_
 refine load1X (H.bx 6 rfl (j := 3) rfl) ?_
 refine lenE (H.rs (α := List Int) 9 rfl).len ?_
 refine heldX H [] (.fst 0 (.fst 2 (.fst 5 (.fst 7 (.fst 1 (.fst 3 (.fst 6 (.fst 8 (.act 4 (.act 9 (.fst 10 (.fst 11 .done)))))))))))) mixed [] trivial (by kernel_rfl) ?_
 clear H; intro w8 H
 have hX : Ext w8 w8 := Upd.refl _ _
 have H0 := H
 refine anyH (fun _ => fld gok rfl rfl rfl rfl ⟨rfl, rfl⟩) ?_
 refine anyH (fun _ => fld gok rfl rfl rfl rfl ⟨rfl, rfl⟩) ?_
 refine load1X (H.bx 0 rfl (j := 3) rfl) ?_
 obtain ⟨a0, e, f1⟩ := bindS f0; clear f0
 replace H := H.sel [3, 0, 1, 2, 4, 5, 6, 7, 8, 9, 10, 11, 12] rfl
 replace H := H.frz
 refine slSX (α := Int) gok rfl rfl H 0 rfl e rfl rfl ?_; clear e; intro h3 HH; clear H; have H := HH; clear HH
 refine load1X (H.bx 2 rfl (j := 2) rfl) ?_
 obtain ⟨a1, e, f2⟩ := bindS f1; clear f1
 replace H := H.sel [4, 0, 1, 2, 3, 5, 6, 7, 8, 9, 10, 11, 12, 13] rfl
 replace H := H.frz
 refine slSX (α := Int) (hi := none) gok rfl rfl H 0 rfl e rfl (congrArg (fun n : Nat => some (n : Int)) (H.rs (α := List Int) 0 rfl).len) ?_; clear e; intro h4 HH; clear H; have H := HH; clear HH
 obtain ⟨y1, e, f3⟩ := bindS f2; clear f2
 have i1 := e; clear e
 refine callFx (spec_l1Own_c a0 h3 y1 i1) H ⟨Vw.sh 2 rfl, trivial⟩ ?_; clear H i1
 rintro _ _ w9 ⟨h5, rfl, rfl⟩ hx H
 replace hX := hX.trans0 hx; clear hx
 refine hold hX ?_
 obtain ⟨y2, e, f4⟩ := bindS f3; clear f3
 have i2 := e; clear e
 refine callFx (spec_l1Own_c a1 h4 y2 i2) H ⟨Vw.sh 1 rfl, trivial⟩ ?_; clear H i2
 rintro _ _ w11 ⟨h6, rfl, rfl⟩ hx H
 replace hX := hX.trans0 hx; clear hx
 refine hold hX ?_
 refine fld gok rfl rfl rfl rfl ?_
 refine load1 (H.bx 6 rfl (j := 2) rfl) ?_
 obtain ⟨a2, e, f5⟩ := bindS f4; clear f4
 refine slS (α := Int) gok rfl rfl H 3 rfl e rfl rfl ?_; clear e H; intro h7 H
 refine fld gok rfl rfl rfl rfl ?_
 replace H := H.sel [7, 0, 1, 2, 3, 4, 5, 6, 8, 9, 10, 11, 12, 13, 14, 15, 16, 17] rfl
 refine stB (j := 2) H rfl rfl ?_; clear H; intro w12 H
 refine fld gok rfl rfl rfl rfl ?_
 refine load1 (H.bx 0 rfl (j := 3) rfl) ?_
 obtain ⟨a3, e, f6⟩ := bindS f5; clear f5
 refine slS (α := Int) (hi := none) gok rfl rfl H 7 rfl e rfl (congrArg (fun n : Nat => some (n : Int)) (H.rs (α := List Int) 7 rfl).len) ?_; clear e H; intro h8 H
 refine fld gok rfl rfl rfl rfl ?_
 replace H := H.sel [1, 0, 2, 3, 4, 5, 6, 7, 8, 9, 10, 11, 12, 13, 14, 15, 16, 17, 18] rfl
 refine stB (j := 3) H rfl rfl ?_; clear H; intro w14 H
 refine loadN [(.int .i64 y0_0), (h0).v, (h7).v, (h8).v] rfl (fun j u hj => H.bx 0 rfl hj) ?_
 obtain ⟨y3, e, f7⟩ := bindS f6; clear f6
 obtain ⟨y3_0, y3_1, y3_2, y3_3⟩ := y3
 have i3 := e; clear e
 refine callF (spec_hgGlue_c y0_0 y0_1 h0 a2 h7 a3 h8 y1 h5 y2 h6 y3_0 y3_1 y3_2 y3_3 i3) (Γi := []) H ⟨Vw.own 9 rfl, Vw.sh 2 rfl, Vw.sh 1 rfl, Vw.own 4 rfl, Vw.own 3 rfl, trivial⟩ ?_; clear H i3
 rintro _ _ w15 ⟨h9, h10, h11, rfl, rfl⟩ H
 replace H := H.sel [13, 0, 1, 2, 3, 4, 5, 6, 7, 8, 9, 10, 11, 12, 14, 15, 16, 17, 18, 19, 20, 21] rfl
 refine stA gok [(.int .i64 y3_0), (h9).v, (h10).v, (h11).v] rfl H rfl rfl rfl ?_; clear H; intro w16 H
 refine loadN [(.int .i64 y3_0), (h9).v, (h10).v, (h11).v] rfl (fun j u hj => H.bx 0 rfl hj) ?_
 cases f7
 exact ⟨_, _, rfl, ⟨h9, h10, h11, rfl, rfl⟩, (H.sel [1, 2, 3] rfl).close ⟨cloE, cloE, cloE, trivial⟩⟩

theorem spec_l1All_c (l_ : List Int) (l_h : Hd) (lo_ : Int) (hi_ : Int) (y : Bool) (hF : F_spec_l1All l_ lo_ hi_ = some y) :
  ConF Tryz.prog 102 #[(l_h).v, (.int .i64 lo_), (.int .i64 hi_)] [Es (List Int) l_ l_h] [] (fun v Γ' => v = (.bool y) ∧ Γ' = []) := by
 intro w0 S0 fp0 hI hS
 have H : Cx w0 fp0 S0 w0 [Es (List Int) l_ l_h] := Cx.start hI hS
 clear hI hS
 refine enterC (args := [_, _, _]) gok Tryz.func102 rfl _ rfl rfl rfl ?_
 refine sq ?_
 refine lenE (H.rs (α := List Int) 0 rfl).len ?_
 have x0 := (H.rs (α := List Int) 0 rfl).max
 obtain ⟨r0, e, f0⟩ := bindS hF; clear hF
 refine loopO _ l_.length (fun (k2 : Nat) (_ : Unit) (_ : Unit) => [(1, (.int .i64 lo_)), (2, (.int .i64 hi_)), (9, (l_h).v), (10, (.int .i64 ((l_.length : Nat) : Int))), (11, (.int .i64 ((k2 : Nat) : Int)))]) (fun _ (_ : Unit) (_ : Unit) w' => Cx w0 fp0 S0 w' [Es (List Int) l_ l_h]) () () e ⟨rfl, rfl, rfl, rfl, rfl, trivial⟩ (H.sel [0] rfl) ?_ ?_
 ·
  clear H e
  rintro T0 k2 _ _ w1 o0 hk (H : Cx w0 fp0 S0 w1 [Es (List Int) l_ l_h]) hrt f1
  refine boolE (z := true) (ltLen hk) ?_
  refine sq ?_
  refine sq ?_
  obtain ⟨a0, e, f2⟩ := bindS f1; clear f1
  obtain ⟨p0, m0, c0, c1, c2, c3⟩ := (H.rs (α := List Int) 0 rfl).at1 e; clear e
  refine idxE c0 c1 c2 ?_; clear c0 c1 c2
  refine load1 c3 ?_; clear c3
  obtain ⟨y0, e, f3⟩ := bindS f2; clear f2
  have i0 := e; clear e
  refine callF (spec_l1In_c a0 lo_ hi_ y0 i0) (Γi := []) H trivial ?_; clear H i0
  rintro _ _ w2 ⟨rfl, rfl⟩ H
  obtain ⟨a1, e, f4⟩ := bindS f3; clear f3
  refine boolO e ?_; clear e
  cases a1
  ·
   have f5 := condF f4; clear f4
   refine arK hk x0 ?_
   have hs := Option.some.inj f5; subst hs; clear f5
   exact ⟨(), (), rfl, ⟨rfl, rfl, rfl, rfl, rfl, trivial⟩, H.sel [0] rfl⟩
  ·
   have f6 := condT f4; clear f4
   have hs := Option.some.inj f6; subst hs; clear f6
   have hr := hrt _ rfl; subst hr
   have f7 : some _ = some _ := f0
   cases f7
   exact ⟨_, _, rfl, ⟨rfl, rfl⟩, (H.sel [] rfl).close trivial⟩
 ·
  clear H e
  rintro T1 _ _ w3 hr (H : Cx w0 fp0 S0 w3 [Es (List Int) l_ l_h])
  subst hr
  refine boolE (z := false) geLen ?_
  refine sq ?_
  cases f0
  exact ⟨_, _, rfl, ⟨rfl, rfl⟩, (H.sel [] rfl).close trivial⟩

theorem spec_hgEdge_c (e__0 : Int) (e__1 : Int) (e__2 : List Int) (e__2h : Hd) (e__3 : List Int) (e__3h : Hd) (wires_ : Int) (y : Bool) (hF : F_spec_hgEdge (e__0, e__1, e__2, e__3) wires_ = some y) :
  ConF Tryz.prog 103 #[(.agg #[(.int .i64 e__0), (.int .i64 e__1), (e__2h).v, (e__3h).v]), (.int .i64 wires_)] [Es (List Int) e__2 e__2h, Es (List Int) e__3 e__3h] [] (fun v Γ' => v = (.bool y) ∧ Γ' = []) := by
 intro w0 S0 fp0 hI hS
 have H : Cx w0 fp0 S0 w0 [Es (List Int) e__2 e__2h, Es (List Int) e__3 e__3h] := Cx.start hI hS
 clear hI hS
 refine enterC (args := [_, _]) gok Tryz.func103 rfl _ rfl rfl rfl ?_
 refine box_ H ?_; clear H; intro b4 w3 hx H
 clear hx
 refine sq ?_
 obtain ⟨r0, f0, f1⟩ := bindS hF; clear hF
 refine cut (fun (q0 : Bool) => [(1, (.int .i64 wires_)), (2, (.pointer (some ⟨b4, 0, none⟩))), (19, (.bool q0))]) (fun (q0 : Bool) w' => q0 = r0 ∧ Cx w0 fp0 S0 w' [Bx b4 [(.int .i64 e__0), (.int .i64 e__1), (e__2h).v, (e__3h).v], Es (List Int) e__2 e__2h, Es (List Int) e__3 e__3h]) ?_ ?_
 ·
  refine fld gok rfl rfl rfl rfl ?_
  refine load1 (H.bx 0 rfl (j := 0) rfl) ?_
  obtain ⟨y0, e, f2⟩ := bindS f0; clear f0
  have i0 := e; clear e
  refine callF (spec_l1In_c e__0 3 14 y0 i0) (Γi := []) H trivial ?_; clear H i0
  rintro _ _ w1 ⟨rfl, rfl⟩ H
  obtain ⟨a0, e, f3⟩ := bindS f2; clear f2
  refine boolO e ?_; clear e
  cases a0
  ·
   have f4 := condF f3; clear f3
   refine fld gok rfl rfl rfl rfl ?_
   refine load1 (H.bx 0 rfl (j := 0) rfl) ?_
   refine fld gok rfl rfl rfl rfl ?_
   refine load1 (H.bx 0 rfl (j := 1) rfl) ?_
   refine build_ (cs := #[(.int .i64 e__0), (.int .i64 e__1), (.string .empty)]) gok rfl rfl rfl ?_
   obtain ⟨y1, e, f5⟩ := bindS f4; clear f4
   have i1 := e; clear e
   refine callF (spec_tmLeaf_c e__0 e__1 .empty y1 i1) (Γi := []) H trivial ?_; clear H i1
   rintro _ _ w2 ⟨rfl, rfl⟩ H
   obtain ⟨a1, e, f6⟩ := bindS f5; clear f5
   refine boolO e ?_; clear e
   exact ⟨a1, ⟨rfl, rfl, rfl, trivial⟩, Option.some.inj f6, H.sel [0, 1, 2] rfl⟩
  ·
   have f7 := condT f3; clear f3
   exact ⟨true, ⟨rfl, rfl, rfl, trivial⟩, Option.some.inj f7, H.sel [0, 1, 2] rfl⟩
 ·
  clear f0 H
  rintro T0 s0 w4 ⟨hr, (H : Cx w0 fp0 S0 w4 [Bx b4 [(.int .i64 e__0), (.int .i64 e__1), (e__2h).v, (e__3h).v], Es (List Int) e__2 e__2h, Es (List Int) e__3 e__3h])⟩
  subst hr
  cases s0
  ·
   have f8 := condF f1; clear f1
   refine fld gok rfl rfl rfl rfl ?_
   refine load1 (H.bx 0 rfl (j := 0) rfl) ?_
   obtain ⟨y2, e, f9⟩ := bindS f8; clear f8
   obtain ⟨y2_0, y2_1⟩ := y2
   have i2 := e; clear e
   refine callF (spec_tmKind_c e__0 y2_0 y2_1 i2) (Γi := []) H trivial ?_; clear H i2
   rintro _ _ w5 ⟨rfl, rfl⟩ H
   obtain ⟨r1, f10, f11⟩ := bindS f9; clear f9
   refine cut (fun (q1 : Bool) => [(4, (.bool q1))]) (fun (q1 : Bool) w' => q1 = r1 ∧ Cx w0 fp0 S0 w' []) ?_ ?_
   ·
    refine fld gok rfl rfl rfl rfl ?_
    refine load1 (H.bx 0 rfl (j := 2) rfl) ?_
    refine lenE (H.rs (α := List Int) 1 rfl).len ?_
    obtain ⟨a2, e, f12⟩ := bindS f10; clear f10
    refine boolO e ?_; clear e
    cases a2
    ·
     have f13 := condF f12; clear f12
     exact ⟨false, ⟨rfl, trivial⟩, Option.some.inj f13, H.sel [] rfl⟩
    ·
     have f14 := condT f12; clear f12
     refine fld gok rfl rfl rfl rfl ?_
     refine load1 (H.bx 0 rfl (j := 3) rfl) ?_
     refine lenE (H.rs (α := List Int) 2 rfl).len ?_
     obtain ⟨a3, e, f15⟩ := bindS f14; clear f14
     refine boolO e ?_; clear e
     cases a3
     ·
      have f16 := condF f15; clear f15
      exact ⟨false, ⟨rfl, trivial⟩, Option.some.inj f16, H.sel [] rfl⟩
     ·
      have f17 := condT f15; clear f15
      refine fld gok rfl rfl rfl rfl ?_
      refine load1 (H.bx 0 rfl (j := 2) rfl) ?_
      obtain ⟨a4, e, f18⟩ := bindS f17; clear f17
      refine arO e ?_; clear e
      obtain ⟨y3, e, f19⟩ := bindS f18; clear f18
      have i3 := e; clear e
      refine callF (spec_l1All_c e__2 e__2h 0 a4 y3 i3) (Γi := []) H ⟨Vw.sh 1 rfl, trivial⟩ ?_; clear H i3
      rintro _ _ w6 ⟨rfl, rfl⟩ H
      cases y3
      ·
       have f20 := condF f19; clear f19
       exact ⟨false, ⟨rfl, trivial⟩, Option.some.inj f20, H.sel [] rfl⟩
      ·
       have f21 := condT f19; clear f19
       refine fld gok rfl rfl rfl rfl ?_
       refine load1 (H.bx 0 rfl (j := 3) rfl) ?_
       obtain ⟨a5, e, f22⟩ := bindS f21; clear f21
       refine arO e ?_; clear e
       obtain ⟨y4, e, f23⟩ := bindS f22; clear f22
       have i4 := e; clear e
       refine callF (spec_l1All_c e__3 e__3h 0 a5 y4 i4) (Γi := []) H ⟨Vw.sh 2 rfl, trivial⟩ ?_; clear H i4
       rintro _ _ w7 ⟨rfl, rfl⟩ H
       exact ⟨y4, ⟨rfl, trivial⟩, Option.some.inj f23, H.sel [] rfl⟩
   ·
    clear f10 H
    rintro T1 s1 w8 ⟨hr, (H : Cx w0 fp0 S0 w8 [])⟩
    subst hr
    cases f11
    exact ⟨_, _, rfl, ⟨rfl, rfl⟩, (H.sel [] rfl).close trivial⟩
  ·
   have f24 := condT f1; clear f1
   cases f24
   exact ⟨_, _, rfl, ⟨rfl, rfl⟩, (H.sel [] rfl).close trivial⟩

theorem spec_hgValid_c (g__0 : Int) (g__1 : List (Int × Int × List Int × List Int)) (g__1h : Hd) (g__2 : List Int) (g__2h : Hd) (g__3 : List Int) (g__3h : Hd) (y : Bool) (hF : F_spec_hgValid (g__0, g__1, g__2, g__3) = some y) :
  ConF Tryz.prog 87 #[(.agg #[(.int .i64 g__0), (g__1h).v, (g__2h).v, (g__3h).v])] [Es (List (Int × Int × List Int × List Int)) g__1 g__1h, Es (List Int) g__2 g__2h, Es (List Int) g__3 g__3h] [] (fun v Γ' => v = (.bool y) ∧ Γ' = []) := by
 intro w0 S0 fp0 hI hS
 have H : Cx w0 fp0 S0 w0 [Es (List (Int × Int × List Int × List Int)) g__1 g__1h, Es (List Int) g__2 g__2h, Es (List Int) g__3 g__3h] := Cx.start hI hS
 clear hI hS
 refine enterC (args := [_]) gok Tryz.func87 rfl _ rfl rfl rfl ?_
 refine box_ H ?_; clear H; intro b5 w4 hx H
 clear hx
 refine sq ?_
 obtain ⟨r0, f0, f1⟩ := bindS hF; clear hF
 refine cut (fun (q0 : Bool) => [(1, (.pointer (some ⟨b5, 0, none⟩))), (47, (.bool q0))]) (fun (q0 : Bool) w' => q0 = r0 ∧ Cx w0 fp0 S0 w' [Bx b5 [(.int .i64 g__0), (g__1h).v, (g__2h).v, (g__3h).v], Es (List (Int × Int × List Int × List Int)) g__1 g__1h, Es (List Int) g__2 g__2h, Es (List Int) g__3 g__3h]) ?_ ?_
 ·
  refine fld gok rfl rfl rfl rfl ?_
  refine load1 (H.bx 0 rfl (j := 0) rfl) ?_
  obtain ⟨y0, e, f2⟩ := bindS f0; clear f0
  have i0 := e; clear e
  refine callF (spec_l1In_c g__0 0 100 y0 i0) (Γi := []) H trivial ?_; clear H i0
  rintro _ _ w1 ⟨rfl, rfl⟩ H
  obtain ⟨a0, e, f3⟩ := bindS f2; clear f2
  refine boolO e ?_; clear e
  cases a0
  ·
   have f4 := condF f3; clear f3
   refine fld gok rfl rfl rfl rfl ?_
   refine load1 (H.bx 0 rfl (j := 1) rfl) ?_
   refine lenE (H.rs (α := List (Int × Int × List Int × List Int)) 1 rfl).len ?_
   obtain ⟨a1, e, f5⟩ := bindS f4; clear f4
   refine boolO e ?_; clear e
   cases a1
   ·
    have f6 := condF f5; clear f5
    refine fld gok rfl rfl rfl rfl ?_
    refine load1 (H.bx 0 rfl (j := 2) rfl) ?_
    refine lenE (H.rs (α := List Int) 2 rfl).len ?_
    obtain ⟨a2, e, f7⟩ := bindS f6; clear f6
    refine boolO e ?_; clear e
    cases a2
    ·
     have f8 := condF f7; clear f7
     refine fld gok rfl rfl rfl rfl ?_
     refine load1 (H.bx 0 rfl (j := 3) rfl) ?_
     refine lenE (H.rs (α := List Int) 3 rfl).len ?_
     obtain ⟨a3, e, f9⟩ := bindS f8; clear f8
     refine boolO e ?_; clear e
     cases a3
     ·
      have f10 := condF f9; clear f9
      refine fld gok rfl rfl rfl rfl ?_
      refine load1 (H.bx 0 rfl (j := 2) rfl) ?_
      refine fld gok rfl rfl rfl rfl ?_
      refine load1 (H.bx 0 rfl (j := 0) rfl) ?_
      obtain ⟨a4, e, f11⟩ := bindS f10; clear f10
      refine arO e ?_; clear e
      obtain ⟨y1, e, f12⟩ := bindS f11; clear f11
      have i1 := e; clear e
      refine callF (spec_l1All_c g__2 g__2h 0 a4 y1 i1) (Γi := []) H ⟨Vw.sh 2 rfl, trivial⟩ ?_; clear H i1
      rintro _ _ w2 ⟨rfl, rfl⟩ H
      obtain ⟨a5, e, f13⟩ := bindS f12; clear f12
      refine boolO e ?_; clear e
      cases a5
      ·
       have f14 := condF f13; clear f13
       refine fld gok rfl rfl rfl rfl ?_
       refine load1 (H.bx 0 rfl (j := 3) rfl) ?_
       refine fld gok rfl rfl rfl rfl ?_
       refine load1 (H.bx 0 rfl (j := 0) rfl) ?_
       obtain ⟨a6, e, f15⟩ := bindS f14; clear f14
       refine arO e ?_; clear e
       obtain ⟨y2, e, f16⟩ := bindS f15; clear f15
       have i2 := e; clear e
       refine callF (spec_l1All_c g__3 g__3h 0 a6 y2 i2) (Γi := []) H ⟨Vw.sh 3 rfl, trivial⟩ ?_; clear H i2
       rintro _ _ w3 ⟨rfl, rfl⟩ H
       obtain ⟨a7, e, f17⟩ := bindS f16; clear f16
       refine boolO e ?_; clear e
       exact ⟨a7, ⟨rfl, rfl, trivial⟩, Option.some.inj f17, H.sel [0, 1, 2, 3] rfl⟩
      ·
       have f18 := condT f13; clear f13
       exact ⟨true, ⟨rfl, rfl, trivial⟩, Option.some.inj f18, H.sel [0, 1, 2, 3] rfl⟩
     ·
      have f19 := condT f9; clear f9
      exact ⟨true, ⟨rfl, rfl, trivial⟩, Option.some.inj f19, H.sel [0, 1, 2, 3] rfl⟩
    ·
     have f20 := condT f7; clear f7
     exact ⟨true, ⟨rfl, rfl, trivial⟩, Option.some.inj f20, H.sel [0, 1, 2, 3] rfl⟩
   ·
    have f21 := condT f5; clear f5
    exact ⟨true, ⟨rfl, rfl, trivial⟩, Option.some.inj f21, H.sel [0, 1, 2, 3] rfl⟩
  ·
   have f22 := condT f3; clear f3
   exact ⟨true, ⟨rfl, rfl, trivial⟩, Option.some.inj f22, H.sel [0, 1, 2, 3] rfl⟩
 ·
  clear f0 H
  rintro T0 s0 w5 ⟨hr, (H : Cx w0 fp0 S0 w5 [Bx b5 [(.int .i64 g__0), (g__1h).v, (g__2h).v, (g__3h).v], Es (List (Int × Int × List Int × List Int)) g__1 g__1h, Es (List Int) g__2 g__2h, Es (List Int) g__3 g__3h])⟩
  subst hr
  cases s0
  ·
   have f23 := condF f1; clear f1
   refine sq ?_
   refine fld gok rfl rfl rfl rfl ?_
   refine load1 (H.bx 0 rfl (j := 1) rfl) ?_
   refine lenE (H.rs (α := List (Int × Int × List Int × List Int)) 1 rfl).len ?_
   have x0 := (H.rs (α := List (Int × Int × List Int × List Int)) 1 rfl).max
   obtain ⟨r1, e, f24⟩ := bindS f23; clear f23
   refine loopO _ g__1.length (fun (k0 : Nat) (_ : Unit) (_ : Unit) => [(1, (.pointer (some ⟨b5, 0, none⟩))), (49, (g__1h).v), (50, (.int .i64 ((g__1.length : Nat) : Int))), (51, (.int .i64 ((k0 : Nat) : Int)))]) (fun _ (_ : Unit) (_ : Unit) w' => Cx w0 fp0 S0 w' [Bx b5 [(.int .i64 g__0), (g__1h).v, (g__2h).v, (g__3h).v], Es (List (Int × Int × List Int × List Int)) g__1 g__1h, Es (List Int) g__2 g__2h, Es (List Int) g__3 g__3h]) () () e ⟨rfl, rfl, rfl, rfl, trivial⟩ (H.sel [0, 1, 2, 3] rfl) ?_ ?_
   ·
    clear H e
    rintro T1 k0 _ _ w6 o0 hk (H : Cx w0 fp0 S0 w6 [Bx b5 [(.int .i64 g__0), (g__1h).v, (g__2h).v, (g__3h).v], Es (List (Int × Int × List Int × List Int)) g__1 g__1h, Es (List Int) g__2 g__2h, Es (List Int) g__3 g__3h]) hrt f25
    refine boolE (z := true) (ltLen hk) ?_
    refine sq ?_
    refine sq ?_
    obtain ⟨a8, e, f26⟩ := bindS f25; clear f25
    have HH := H; clear H; obtain ⟨p0, m0, g0, c0, c1, c2, c3, H⟩ := HH.el (α := Int × Int × List Int × List Int) 1 rfl e; clear HH
    clear e
    obtain ⟨a8_0, a8_1, a8_2, a8_3⟩ := a8
    obtain ⟨_, _, h0, h1⟩ := g0
    replace H := H.part (β := List Int) a8_2 (h0 : Hd) 0 rfl (fun S h => (And.left (And.right (And.right h))))
    replace H := H.part (β := List Int) a8_3 (h1 : Hd) 1 rfl (fun S h => (And.right (And.right (And.right h))))
    replace H := H.sel [0, 1, 3, 4, 5, 6] rfl
    refine idxE c0 c1 c2 ?_; clear c0 c1 c2
    refine loadN [(.int .i64 a8_0), (.int .i64 a8_1), (h0).v, (h1).v] rfl c3 ?_; clear c3
    refine alloc_ gok rfl H ?_; clear H; intro b0 w7 hx H
    clear hx
    refine stA gok [(.int .i64 a8_0), (.int .i64 a8_1), (h0).v, (h1).v] rfl H rfl rfl rfl ?_; clear H; intro w8 H
    refine loadN [(.int .i64 a8_0), (.int .i64 a8_1), (h0).v, (h1).v] rfl (fun j u hj => H.bx 0 rfl hj) ?_
    refine fld gok rfl rfl rfl rfl ?_
    refine load1 (H.bx 3 rfl (j := 0) rfl) ?_
    obtain ⟨y3, e, f27⟩ := bindS f26; clear f26
    have i3 := e; clear e
    refine callF (spec_hgEdge_c a8_0 a8_1 a8_2 h0 a8_3 h1 g__0 y3 i3) (Γi := []) H ⟨Vw.sh 2 rfl, Vw.sh 1 rfl, trivial⟩ ?_; clear H i3
    rintro _ _ w9 ⟨rfl, rfl⟩ H
    obtain ⟨a9, e, f28⟩ := bindS f27; clear f27
    refine boolO e ?_; clear e
    cases a9
    ·
     have f29 := condF f28; clear f28
     refine arK hk x0 ?_
     have hs := Option.some.inj f29; subst hs; clear f29
     exact ⟨(), (), rfl, ⟨rfl, rfl, rfl, rfl, trivial⟩, H.sel [3, 4, 5, 6] rfl⟩
    ·
     have f30 := condT f28; clear f28
     have hs := Option.some.inj f30; subst hs; clear f30
     have hr := hrt _ rfl; subst hr
     have f31 : some _ = some _ := f24
     cases f31
     exact ⟨_, _, rfl, ⟨rfl, rfl⟩, (H.sel [] rfl).close trivial⟩
   ·
    clear H e
    rintro T2 _ _ w10 hr (H : Cx w0 fp0 S0 w10 [Bx b5 [(.int .i64 g__0), (g__1h).v, (g__2h).v, (g__3h).v], Es (List (Int × Int × List Int × List Int)) g__1 g__1h, Es (List Int) g__2 g__2h, Es (List Int) g__3 g__3h])
    subst hr
    refine boolE (z := false) geLen ?_
    refine sq ?_
    refine loadN [(.int .i64 g__0), (g__1h).v, (g__2h).v, (g__3h).v] rfl (fun j u hj => H.bx 0 rfl hj) ?_
    obtain ⟨y4, e, f32⟩ := bindS f24; clear f24
    obtain ⟨y4_0, y4_1⟩ := y4
    have i4 := e; clear e
    refine callF (spec_hgCounts_c g__0 g__1 g__1h g__2 g__2h g__3 g__3h y4_0 y4_1 i4) (Γi := []) H ⟨Vw.sh 1 rfl, Vw.sh 2 rfl, Vw.sh 3 rfl, trivial⟩ ?_; clear H i4
    rintro _ _ w11 ⟨h2, h3, rfl, rfl⟩ H
    refine sq ?_
    refine lenE (H.ro (α := List Int) 0 rfl).len ?_
    have x1 := (H.ro (α := List Int) 0 rfl).max
    obtain ⟨r2, e, f33⟩ := bindS f32; clear f32
    refine loopO _ y4_0.length (fun (k1 : Nat) (_ : Unit) (_ : Unit) => [(5, (h2).v), (6, (h3).v), (67, (.int .i64 ((y4_0.length : Nat) : Int))), (68, (.int .i64 ((k1 : Nat) : Int)))]) (fun _ (_ : Unit) (_ : Unit) w' => Cx w0 fp0 S0 w' [E (List Int) y4_0 h2, E (List Int) y4_1 h3]) () () e ⟨rfl, rfl, rfl, rfl, trivial⟩ (H.sel [0, 1] rfl) ?_ ?_
    ·
     clear H e
     rintro T3 k1 _ _ w12 o1 hk (H : Cx w0 fp0 S0 w12 [E (List Int) y4_0 h2, E (List Int) y4_1 h3]) hrt f34
     refine boolE (z := true) (ltLen hk) ?_
     refine sq ?_
     refine sq ?_
     refine heldX H [] (.fst 0 (.fst 1 (.fst 2 (.fst 4 (.fst 5 (.fst 6 (.fst 3 (.fst 7 (.fst 8 (.fst 9 .done)))))))))) mixed [] trivial (by kernel_rfl) ?_
     clear H; intro w13 H
     have hX : Ext w13 w13 := Upd.refl _ _
     have H0 := H
     obtain ⟨a10, e, f35⟩ := bindS f34; clear f34
     obtain ⟨p1, m1, c4, c5, c6, c7⟩ := (H.ro (α := List Int) 0 rfl).at1 e; clear e
     refine idxE c4 c5 c6 ?_; clear c4 c5 c6
     obtain ⟨a11, e, f36⟩ := bindS f35; clear f35
     obtain ⟨p2, m2, c8, c9, c10, c11⟩ := (H.ro (α := List Int) 1 rfl).at1 e; clear e
     refine idxE c8 c9 c10 ?_; clear c8 c9 c10
     refine load1X c7 ?_; clear c7
     refine load1X c11 ?_; clear c11
     obtain ⟨a12, e, f37⟩ := bindS f36; clear f36
     refine arO e ?_; clear e
     obtain ⟨a13, e, f38⟩ := bindS f37; clear f37
     refine boolO e ?_; clear e
     cases a13
     ·
      have f39 := condF f38; clear f38
      refine arK hk x1 ?_
      have hs := Option.some.inj f39; subst hs; clear f39
      exact ⟨(), (), rfl, ⟨rfl, rfl, rfl, rfl, trivial⟩, H.sel [0, 1] rfl⟩
     ·
      have f40 := condT f38; clear f38
      have hs := Option.some.inj f40; subst hs; clear f40
      have hr := hrt _ rfl; subst hr
      have f41 : some _ = some _ := f33
      cases f41
      exact ⟨_, _, rfl, ⟨rfl, rfl⟩, (H.sel [] rfl).close trivial⟩
    ·
     clear H e
     rintro T4 _ _ w14 hr (H : Cx w0 fp0 S0 w14 [E (List Int) y4_0 h2, E (List Int) y4_1 h3])
     subst hr
     refine boolE (z := false) geLen ?_
     refine sq ?_
     cases f33
     exact ⟨_, _, rfl, ⟨rfl, rfl⟩, (H.sel [] rfl).close trivial⟩
  ·
   have f42 := condT f1; clear f1
   cases f42
   exact ⟨_, _, rfl, ⟨rfl, rfl⟩, (H.sel [] rfl).close trivial⟩

theorem spec_hgIf_c (g__0 : Int) (g__1 : List (Int × Int × List Int × List Int)) (g__1h : Hd) (g__2 : List Int) (g__2h : Hd) (g__3 : List Int) (g__3h : Hd) (y0_0 : Int) (y0_1 : List (Int × Int × List Int × List Int)) (y0_2 : List Int) (y0_3 : List Int) (y1 : Bool) (hF : F_spec_hgIf (g__0, g__1, g__2, g__3) = some ((y0_0, y0_1, y0_2, y0_3), y1)) :
  ConS Tryz.prog 64 #[(.agg #[(.int .i64 g__0), (g__1h).v, (g__2h).v, (g__3h).v])] [Es (List (Int × Int × List Int × List Int)) g__1 g__1h, Es (List Int) g__2 g__2h, Es (List Int) g__3 g__3h] [] (fun v Γ' => ∃ z0 z1 z2 : Hd, v = (.tuple #[(.agg #[(.int .i64 y0_0), (z0).v, (z1).v, (z2).v]), (.bool y1)]) ∧ Γ' = [Es (List (Int × Int × List Int × List Int)) y0_1 z0, Es (List Int) y0_2 z1, Es (List Int) y0_3 z2]) := by
 intro w0 S0 fp0 hI hS
 have H : Cx w0 fp0 S0 w0 [Es (List (Int × Int × List Int × List Int)) g__1 g__1h, Es (List Int) g__2 g__2h, Es (List Int) g__3 g__3h] := Cx.start hI hS
 clear hI hS
 refine enterC (args := [_]) gok Tryz.func64 rfl _ rfl rfl rfl ?_
 refine box_ H ?_; clear H; intro b5 w4 hx H
 clear hx
 refine alloc_ gok rfl H ?_; clear H; intro b8 w7 hx H
 clear hx
 refine sq ?_
 refine loadN [(.int .i64 g__0), (g__1h).v, (g__2h).v, (g__3h).v] rfl (fun j u hj => H.bx 1 rfl hj) ?_
 obtain ⟨y0, e, f0⟩ := bindS hF; clear hF
 have i0 := e; clear e
 refine callF (spec_hgValid_c g__0 g__1 g__1h g__2 g__2h g__3 g__3h y0 i0) (Γi := []) H ⟨Vw.sh 2 rfl, Vw.sh 3 rfl, Vw.sh 4 rfl, trivial⟩ ?_; clear H i0
 rintro _ _ w1 ⟨rfl, rfl⟩ H
 obtain ⟨a0, e, f1⟩ := bindS f0; clear f0
 refine boolO e ?_; clear e
 cases a0
 ·
  have f2 := condF f1; clear f1
  refine loadN [(.int .i64 g__0), (g__1h).v, (g__2h).v, (g__3h).v] rfl (fun j u hj => H.bx 1 rfl hj) ?_
  refine stA gok [(.int .i64 g__0), (g__1h).v, (g__2h).v, (g__3h).v] rfl H rfl rfl rfl ?_; clear H; intro w2 H
  refine loadN [(.int .i64 g__0), (g__1h).v, (g__2h).v, (g__3h).v] rfl (fun j u hj => H.bx 0 rfl hj) ?_
  cases f2
  exact ⟨_, _, rfl, ⟨g__1h, g__2h, g__3h, rfl, rfl⟩, (H.sel [2, 3, 4] rfl)⟩
 ·
  have f3 := condT f1; clear f1
  refine build_ (cs := #[(.int .i64 0), (.slice none 0 0), (.slice none 0 0), (.slice none 0 0)]) gok rfl rfl rfl ?_
  refine stA gok [(.int .i64 0), (.slice none 0 0), (.slice none 0 0), (.slice none 0 0)] rfl H rfl rfl rfl ?_; clear H; intro w3 H
  refine loadN [(.int .i64 0), (.slice none 0 0), (.slice none 0 0), (.slice none 0 0)] rfl (fun j u hj => H.bx 0 rfl hj) ?_
  replace H := H.nil (α := Int × Int × List Int × List Int)
  replace H := H.frz
  replace H := H.nil (α := Int)
  replace H := H.frz
  replace H := H.nil (α := Int)
  replace H := H.frz
  cases f3
  exact ⟨_, _, rfl, ⟨nilH, nilH, nilH, rfl, rfl⟩, (H.sel [2, 1, 0] rfl)⟩

theorem spec_hgPar_c (a__0 : Int) (a__1 : List (Int × Int × List Int × List Int)) (a__1h : Hd) (a__2 : List Int) (a__2h : Hd) (a__3 : List Int) (a__3h : Hd) (b__0 : Int) (b__1 : List (Int × Int × List Int × List Int)) (b__1h : Hd) (b__2 : List Int) (b__2h : Hd) (b__3 : List Int) (b__3h : Hd) (y_0 : Int) (y_1 : List (Int × Int × List Int × List Int)) (y_2 : List Int) (y_3 : List Int) (hF : F_spec_hgPar (a__0, a__1, a__2, a__3) (b__0, b__1, b__2, b__3) = some (y_0, y_1, y_2, y_3)) :
  ConF Tryz.prog 66 #[(.agg #[(.int .i64 a__0), (a__1h).v, (a__2h).v, (a__3h).v]), (.agg #[(.int .i64 b__0), (b__1h).v, (b__2h).v, (b__3h).v])] [Es (List (Int × Int × List Int × List Int)) a__1 a__1h, Es (List Int) a__2 a__2h, Es (List Int) a__3 a__3h, Es (List (Int × Int × List Int × List Int)) b__1 b__1h, Es (List Int) b__2 b__2h, Es (List Int) b__3 b__3h] [] (fun v Γ' => ∃ z0 z1 z2 : Hd, v = (.agg #[(.int .i64 y_0), (z0).v, (z1).v, (z2).v]) ∧ Γ' = [E (List (Int × Int × List Int × List Int)) y_1 z0, E (List Int) y_2 z1, E (List Int) y_3 z2]) := by
 intro w0 S0 fp0 hI hS
 have H : Cx w0 fp0 S0 w0 [Es (List (Int × Int × List Int × List Int)) a__1 a__1h, Es (List Int) a__2 a__2h, Es (List Int) a__3 a__3h, Es (List (Int × Int × List Int × List Int)) b__1 b__1h, Es (List Int) b__2 b__2h, Es (List Int) b__3 b__3h] := Cx.start hI hS
 clear hI hS
 refine enterC (args := [_, _]) gok Tryz.func66 rfl _ rfl rfl rfl ?_
 refine box_ H ?_; clear H; intro b8 w7 hx H
 clear hx
 refine box_ H ?_; clear H; intro b0 w1 hx H
 clear hx
 refine alloc_ gok rfl H ?_; clear H; intro b1 w2 hx H
 clear hx
 refine loadN [(.int .i64 a__0), (a__1h).v, (a__2h).v, (a__3h).v] rfl (fun j u hj => H.bx 2 rfl hj) ?_
 refine loadN [(.int .i64 b__0), (b__1h).v, (b__2h).v, (b__3h).v] rfl (fun j u hj => H.bx 1 rfl hj) ?_
 obtain ⟨y0, e, f0⟩ := bindS hF; clear hF
 obtain ⟨y0_0, y0_1, y0_2, y0_3⟩ := y0
 have i0 := e; clear e
 refine callF (spec_hgBeside_c a__0 a__1 a__1h a__2 a__2h a__3 a__3h b__0 b__1 b__1h b__2 b__2h b__3 b__3h y0_0 y0_1 y0_2 y0_3 i0) (Γi := []) H ⟨Vw.sh 3 rfl, Vw.sh 4 rfl, Vw.sh 5 rfl, Vw.sh 6 rfl, Vw.sh 7 rfl, Vw.sh 8 rfl, trivial⟩ ?_; clear H i0
 rintro _ _ w3 ⟨h0, h1, h2, rfl, rfl⟩ H
 replace H := H.sel [3, 0, 1, 2, 4, 5, 6, 7, 8, 9, 10, 11] rfl
 refine stA gok [(.int .i64 y0_0), (h0).v, (h1).v, (h2).v] rfl H rfl rfl rfl ?_; clear H; intro w4 H
 refine loadN [(.int .i64 y0_0), (h0).v, (h1).v, (h2).v] rfl (fun j u hj => H.bx 0 rfl hj) ?_
 cases f0
 exact ⟨_, _, rfl, ⟨h0, h1, h2, rfl, rfl⟩, (H.sel [1, 2, 3] rfl).close ⟨cloE, cloE, cloE, trivial⟩⟩

theorem spec_hgMade_cn : ∀ (fuel : Nat) (t__0 : List (Int × Int × ByteArray)) (t__0h : Hd) (y0_0 : Int) (y0_1 : List (Int × Int × List Int × List Int)) (y0_2 : List Int) (y0_3 : List Int) (y1 : Bool) (hF : F_spec_hgMade_n fuel t__0 = some ((y0_0, y0_1, y0_2, y0_3), y1)),
  ConS Tryz.prog 39 #[(.agg #[(t__0h).v])] [Es (List (Int × Int × ByteArray)) t__0 t__0h] [] (fun v Γ' => ∃ z0 z1 z2 : Hd, v = (.tuple #[(.agg #[(.int .i64 y0_0), (z0).v, (z1).v, (z2).v]), (.bool y1)]) ∧ Γ' = [Es (List (Int × Int × List Int × List Int)) y0_1 z0, Es (List Int) y0_2 z1, Es (List Int) y0_3 z2]) := by
 intro fuel
 induction fuel with
 | zero => intro t__0 t__0h y0_0 y0_1 y0_2 y0_3 y1 hF; cases hF
 | succ fuel ih =>
 intro t__0 t__0h y0_0 y0_1 y0_2 y0_3 y1 hF
 intro w0 S0 fp0 hI hS
 have H : Cx w0 fp0 S0 w0 [Es (List (Int × Int × ByteArray)) t__0 t__0h] := Cx.start hI hS
 clear hI hS
 refine enterC (args := [_]) gok Tryz.func39 rfl _ rfl rfl rfl ?_
 refine box_ H ?_; clear H; intro b3 w2 hx H
 clear hx
 refine alloc_ gok rfl H ?_; clear H; intro b6 w5 hx H
 clear hx
 refine loadN [(t__0h).v] rfl (fun j u hj => H.bx 1 rfl hj) ?_
 obtain ⟨y8, e, hF9⟩ := bindS hF; clear hF
 have ey8 := e; clear e
 refine callF (spec_tmTop_c t__0 t__0h y8 ey8) (Γi := []) H ⟨Vw.sh 2 rfl, trivial⟩ ?_; clear H ey8
 rintro _ _ w1 ⟨rfl, rfl⟩ H
 refine sq ?_
 obtain ⟨a0, e, f0⟩ := bindS hF9; clear hF9
 refine boolO e ?_; clear e
 cases a0
 ·
  have f1 := condF f0; clear f0
  refine loadN [(t__0h).v] rfl (fun j u hj => H.bx 1 rfl hj) ?_
  obtain ⟨y0, e, f2⟩ := bindS f1; clear f1
  obtain ⟨y0_0_0, y0_1_0⟩ := y0
  have i0 := e; clear e
  refine callF (spec_tmParts_c t__0 t__0h y0_0_0 y0_1_0 i0) (Γi := []) H ⟨Vw.sh 2 rfl, trivial⟩ ?_; clear H i0
  rintro _ _ w3 ⟨h0, h1, rfl, rfl⟩ H
  refine alloc_ gok rfl H ?_; clear H; intro b0 w4 hx H
  clear hx
  refine alloc_ gok rfl H ?_; clear H; intro b1 w6 hx H
  clear hx
  replace H := H.sel [1, 0, 2, 3, 4, 5, 6] rfl
  refine stA gok [(h0).v] rfl H rfl rfl rfl ?_; clear H; intro w7 H
  replace H := H.sel [1, 0, 2, 3, 4, 5, 6] rfl
  refine stA gok [(h1).v] rfl H rfl rfl rfl ?_; clear H; intro w8 H
  refine loadN [(h0).v] rfl (fun j u hj => H.bx 1 rfl hj) ?_
  obtain ⟨y2, e, f3⟩ := bindS f2; clear f2
  obtain ⟨⟨y2_0_0, y2_0_1, y2_0_2, y2_0_3⟩, y2_1⟩ := y2
  have i1 := e; clear e
  replace H := H.sel [2, 0, 1, 3, 4, 5, 6] rfl
  replace H := H.frz
  refine callS (ih y0_0_0 h0 y2_0_0 y2_0_1 y2_0_2 y2_0_3 y2_1 i1) (Γi := []) H [0] rfl (persC persS persN) ?_; clear H i1
  rintro _ _ w9 ⟨h2, h3, h4, rfl, rfl⟩ H
  refine alloc_ gok rfl H ?_; clear H; intro b2 w11 hx H
  clear hx
  refine stA gok [(.int .i64 y2_0_0), (h2).v, (h3).v, (h4).v] rfl H rfl rfl rfl ?_; clear H; intro w12 H
  refine loadN [(h1).v] rfl (fun j u hj => H.bx 5 rfl hj) ?_
  obtain ⟨y3, e, f4⟩ := bindS f3; clear f3
  obtain ⟨⟨y3_0_0, y3_0_1, y3_0_2, y3_0_3⟩, y3_1⟩ := y3
  have i2 := e; clear e
  replace H := H.sel [7, 0, 1, 2, 3, 4, 5, 6, 8, 9, 10] rfl
  replace H := H.frz
  refine callS (ih y0_1_0 h1 y3_0_0 y3_0_1 y3_0_2 y3_0_3 y3_1 i2) (Γi := []) H [0] rfl (persC persS persN) ?_; clear H i2
  rintro _ _ w13 ⟨h5, h6, h7, rfl, rfl⟩ H
  refine alloc_ gok rfl H ?_; clear H; intro b4 w14 hx H
  clear hx
  refine stA gok [(.int .i64 y3_0_0), (h5).v, (h6).v, (h7).v] rfl H rfl rfl rfl ?_; clear H; intro w15 H
  refine sq ?_
  obtain ⟨r0, f5, f6⟩ := bindS f4; clear f4
  refine cut (fun (q0 : Bool) => [(2, (.pointer (some ⟨b6, 0, none⟩))), (4, (.int .i64 y8)), (7, (.pointer (some ⟨b2, 0, none⟩))), (9, (.pointer (some ⟨b4, 0, none⟩))), (40, (.bool q0))]) (fun (q0 : Bool) w' => q0 = r0 ∧ Cx w0 fp0 S0 w' [Bx b6 [(.int .i64 0), (.slice none 0 0), (.slice none 0 0), (.slice none 0 0)], Bx b2 [(.int .i64 y2_0_0), (h2).v, (h3).v, (h4).v], Es (List (Int × Int × List Int × List Int)) y2_0_1 h2, Es (List Int) y2_0_2 h3, Es (List Int) y2_0_3 h4, Bx b4 [(.int .i64 y3_0_0), (h5).v, (h6).v, (h7).v], Es (List (Int × Int × List Int × List Int)) y3_0_1 h5, Es (List Int) y3_0_2 h6, Es (List Int) y3_0_3 h7]) ?_ ?_
  ·
   obtain ⟨a1, e, f7⟩ := bindS f5; clear f5
   refine boolO e ?_; clear e
   cases a1
   ·
    have f8 := condF f7; clear f7
    obtain ⟨a2, e, f9⟩ := bindS f8; clear f8
    refine boolO e ?_; clear e
    exact ⟨a2, ⟨rfl, rfl, rfl, rfl, rfl, trivial⟩, Option.some.inj f9, H.sel [12, 5, 6, 7, 8, 0, 1, 2, 3] rfl⟩
   ·
    have f10 := condT f7; clear f7
    exact ⟨true, ⟨rfl, rfl, rfl, rfl, rfl, trivial⟩, Option.some.inj f10, H.sel [12, 5, 6, 7, 8, 0, 1, 2, 3] rfl⟩
  ·
   clear f5 H
   rintro T0 s0 w17 ⟨hr, (H : Cx w0 fp0 S0 w17 [Bx b6 [(.int .i64 0), (.slice none 0 0), (.slice none 0 0), (.slice none 0 0)], Bx b2 [(.int .i64 y2_0_0), (h2).v, (h3).v, (h4).v], Es (List (Int × Int × List Int × List Int)) y2_0_1 h2, Es (List Int) y2_0_2 h3, Es (List Int) y2_0_3 h4, Bx b4 [(.int .i64 y3_0_0), (h5).v, (h6).v, (h7).v], Es (List (Int × Int × List Int × List Int)) y3_0_1 h5, Es (List Int) y3_0_2 h6, Es (List Int) y3_0_3 h7])⟩
   subst hr
   cases s0
   ·
    have f11 := condF f6; clear f6
    refine sq ?_
    obtain ⟨a3, e, f12⟩ := bindS f11; clear f11
    refine boolO e ?_; clear e
    cases a3
    ·
     have f13 := condF f12; clear f12
     refine loadN [(.int .i64 y2_0_0), (h2).v, (h3).v, (h4).v] rfl (fun j u hj => H.bx 1 rfl hj) ?_
     refine loadN [(.int .i64 y3_0_0), (h5).v, (h6).v, (h7).v] rfl (fun j u hj => H.bx 5 rfl hj) ?_
     obtain ⟨y4, e, f14⟩ := bindS f13; clear f13
     obtain ⟨y4_0, y4_1, y4_2, y4_3⟩ := y4
     have i3 := e; clear e
     refine callF (spec_hgPar_c y2_0_0 y2_0_1 h2 y2_0_2 h3 y2_0_3 h4 y3_0_0 y3_0_1 h5 y3_0_2 h6 y3_0_3 h7 y4_0 y4_1 y4_2 y4_3 i3) (Γi := []) H ⟨Vw.sh 2 rfl, Vw.sh 3 rfl, Vw.sh 4 rfl, Vw.sh 6 rfl, Vw.sh 7 rfl, Vw.sh 8 rfl, trivial⟩ ?_; clear H i3
     rintro _ _ w18 ⟨h8, h9, h10, rfl, rfl⟩ H
     obtain ⟨y5, e, f15⟩ := bindS f14; clear f14
     obtain ⟨⟨y5_0_0, y5_0_1, y5_0_2, y5_0_3⟩, y5_1⟩ := y5
     have i4 := e; clear e
     replace H := H.frz
     replace H := H.sel [1, 0, 2, 3, 4, 5, 6, 7, 8, 9, 10, 11] rfl
     replace H := H.frz
     replace H := H.sel [2, 0, 1, 3, 4, 5, 6, 7, 8, 9, 10, 11] rfl
     replace H := H.frz
     refine callS (spec_hgIf_c y4_0 y4_1 h8 y4_2 h9 y4_3 h10 y5_0_0 y5_0_1 y5_0_2 y5_0_3 y5_1 i4) (Γi := []) H [2, 1, 0] rfl (persC persS (persC persS (persC persS persN))) ?_; clear H i4
     rintro _ _ w19 ⟨h11, h12, h13, rfl, rfl⟩ H
     replace H := H.sel [6, 0, 1, 2, 3, 4, 5, 7, 8, 9, 10, 11, 12, 13, 14] rfl
     refine stA gok [(.int .i64 y5_0_0), (h11).v, (h12).v, (h13).v] rfl H rfl rfl rfl ?_; clear H; intro w20 H
     refine loadN [(.int .i64 y5_0_0), (h11).v, (h12).v, (h13).v] rfl (fun j u hj => H.bx 0 rfl hj) ?_
     cases f15
     exact ⟨_, _, rfl, ⟨h11, h12, h13, rfl, rfl⟩, (H.sel [1, 2, 3] rfl)⟩
    ·
     have f16 := condT f12; clear f12
     refine loadN [(.int .i64 y2_0_0), (h2).v, (h3).v, (h4).v] rfl (fun j u hj => H.bx 1 rfl hj) ?_
     refine loadN [(.int .i64 y3_0_0), (h5).v, (h6).v, (h7).v] rfl (fun j u hj => H.bx 5 rfl hj) ?_
     obtain ⟨y6, e, f17⟩ := bindS f16; clear f16
     obtain ⟨y6_0, y6_1, y6_2, y6_3⟩ := y6
     have i5 := e; clear e
     refine callF (spec_hgSeq_c y2_0_0 y2_0_1 h2 y2_0_2 h3 y2_0_3 h4 y3_0_0 y3_0_1 h5 y3_0_2 h6 y3_0_3 h7 y6_0 y6_1 y6_2 y6_3 i5) (Γi := []) H ⟨Vw.sh 2 rfl, Vw.sh 3 rfl, Vw.sh 4 rfl, Vw.sh 6 rfl, Vw.sh 7 rfl, Vw.sh 8 rfl, trivial⟩ ?_; clear H i5
     rintro _ _ w22 ⟨h14, h15, h16, rfl, rfl⟩ H
     obtain ⟨y7, e, f18⟩ := bindS f17; clear f17
     obtain ⟨⟨y7_0_0, y7_0_1, y7_0_2, y7_0_3⟩, y7_1⟩ := y7
     have i6 := e; clear e
     replace H := H.frz
     replace H := H.sel [1, 0, 2, 3, 4, 5, 6, 7, 8, 9, 10, 11] rfl
     replace H := H.frz
     replace H := H.sel [2, 0, 1, 3, 4, 5, 6, 7, 8, 9, 10, 11] rfl
     replace H := H.frz
     refine callS (spec_hgIf_c y6_0 y6_1 h14 y6_2 h15 y6_3 h16 y7_0_0 y7_0_1 y7_0_2 y7_0_3 y7_1 i6) (Γi := []) H [2, 1, 0] rfl (persC persS (persC persS (persC persS persN))) ?_; clear H i6
     rintro _ _ w23 ⟨h18, h20, h21, rfl, rfl⟩ H
     replace H := H.sel [6, 0, 1, 2, 3, 4, 5, 7, 8, 9, 10, 11, 12, 13, 14] rfl
     refine stA gok [(.int .i64 y7_0_0), (h18).v, (h20).v, (h21).v] rfl H rfl rfl rfl ?_; clear H; intro w25 H
     refine loadN [(.int .i64 y7_0_0), (h18).v, (h20).v, (h21).v] rfl (fun j u hj => H.bx 0 rfl hj) ?_
     cases f18
     exact ⟨_, _, rfl, ⟨h18, h20, h21, rfl, rfl⟩, (H.sel [1, 2, 3] rfl)⟩
   ·
    have f19 := condT f6; clear f6
    refine build_ (cs := #[(.int .i64 0), (.slice none 0 0), (.slice none 0 0), (.slice none 0 0)]) gok rfl rfl rfl ?_
    refine stA gok [(.int .i64 0), (.slice none 0 0), (.slice none 0 0), (.slice none 0 0)] rfl H rfl rfl rfl ?_; clear H; intro w26 H
    refine loadN [(.int .i64 0), (.slice none 0 0), (.slice none 0 0), (.slice none 0 0)] rfl (fun j u hj => H.bx 0 rfl hj) ?_
    replace H := H.nil (α := Int × Int × List Int × List Int)
    replace H := H.frz
    replace H := H.nil (α := Int)
    replace H := H.frz
    replace H := H.nil (α := Int)
    replace H := H.frz
    cases f19
    exact ⟨_, _, rfl, ⟨nilH, nilH, nilH, rfl, rfl⟩, (H.sel [2, 1, 0] rfl)⟩
 ·
  have f20 := condT f0; clear f0
  refine fld gok rfl rfl rfl rfl ?_
  refine load1 (H.bx 1 rfl (j := 0) rfl) ?_
  obtain ⟨a4, e, f21⟩ := bindS f20; clear f20
  have HH := H; clear H; obtain ⟨p0, m0, g0, c0, c1, c2, c3, H⟩ := HH.el (α := Int × Int × ByteArray) 2 rfl e; clear HH
  clear e
  obtain ⟨a4_0, a4_1, a4_2⟩ := a4
  obtain ⟨_, _, _⟩ := g0
  replace H := H.sel [1, 2, 3] rfl
  refine idxE c0 c1 c2 ?_; clear c0 c1 c2
  refine loadN [(.int .i64 a4_0), (.int .i64 a4_1), (.string a4_2)] rfl c3 ?_; clear c3
  obtain ⟨y9, e, f22⟩ := bindS f21; clear f21
  obtain ⟨y9_0, y9_1, y9_2, y9_3⟩ := y9
  have i7 := e; clear e
  refine callF (spec_hgLeaf_c a4_0 a4_1 a4_2 y9_0 y9_1 y9_2 y9_3 i7) (Γi := []) H trivial ?_; clear H i7
  rintro _ _ w29 ⟨h22, h23, h24, rfl, rfl⟩ H
  replace H := H.sel [3, 0, 1, 2, 4, 5] rfl
  refine stA gok [(.int .i64 y9_0), (h22).v, (h23).v, (h24).v] rfl H rfl rfl rfl ?_; clear H; intro w30 H
  refine loadN [(.int .i64 y9_0), (h22).v, (h23).v, (h24).v] rfl (fun j u hj => H.bx 0 rfl hj) ?_
  replace H := H.sel [1, 0, 2, 3, 4, 5] rfl
  replace H := H.frz
  replace H := H.sel [2, 0, 1, 3, 4, 5] rfl
  replace H := H.frz
  replace H := H.sel [3, 0, 1, 2, 4, 5] rfl
  replace H := H.frz
  cases f22
  exact ⟨_, _, rfl, ⟨h22, h23, h24, rfl, rfl⟩, (H.sel [2, 1, 0] rfl)⟩
theorem spec_hgMade_c (t__0 : List (Int × Int × ByteArray)) (t__0h : Hd) (y0_0 : Int) (y0_1 : List (Int × Int × List Int × List Int)) (y0_2 : List Int) (y0_3 : List Int) (y1 : Bool) (hF : F_spec_hgMade t__0 = some ((y0_0, y0_1, y0_2, y0_3), y1)) :
  ConS Tryz.prog 39 #[(.agg #[(t__0h).v])] [Es (List (Int × Int × ByteArray)) t__0 t__0h] [] (fun v Γ' => ∃ z0 z1 z2 : Hd, v = (.tuple #[(.agg #[(.int .i64 y0_0), (z0).v, (z1).v, (z2).v]), (.bool y1)]) ∧ Γ' = [Es (List (Int × Int × List Int × List Int)) y0_1 z0, Es (List Int) y0_2 z1, Es (List Int) y0_3 z2]) := spec_hgMade_cn _ t__0 t__0h y0_0 y0_1 y0_2 y0_3 y1 hF

theorem spec_rwSides_c (r__0 : ByteArray) (r__1_0 : List (Int × Int × ByteArray)) (r__1_0h : Hd) (r__2_0 : List (Int × Int × ByteArray)) (r__2_0h : Hd) (y0_0 : Int) (y0_1 : List (Int × Int × List Int × List Int)) (y0_2 : List Int) (y0_3 : List Int) (y1_0 : Int) (y1_1 : List (Int × Int × List Int × List Int)) (y1_2 : List Int) (y1_3 : List Int) (y2 : Bool) (hF : F_spec_rwSides (r__0, r__1_0, r__2_0) = some ((y0_0, y0_1, y0_2, y0_3), (y1_0, y1_1, y1_2, y1_3), y2)) :
  ConS Tryz.prog 21 #[(.agg #[(.string r__0), (r__1_0h).v, (r__2_0h).v])] [Es (List (Int × Int × ByteArray)) r__1_0 r__1_0h, Es (List (Int × Int × ByteArray)) r__2_0 r__2_0h] [] (fun v Γ' => ∃ z0 z1 z2 z3 z4 z5 : Hd, v = (.tuple #[(.agg #[(.int .i64 y0_0), (z0).v, (z1).v, (z2).v]), (.agg #[(.int .i64 y1_0), (z3).v, (z4).v, (z5).v]), (.bool y2)]) ∧ Γ' = [Es (List (Int × Int × List Int × List Int)) y0_1 z0, Es (List Int) y0_2 z1, Es (List Int) y0_3 z2, Es (List (Int × Int × List Int × List Int)) y1_1 z3, Es (List Int) y1_2 z4, Es (List Int) y1_3 z5]) := by
 intro w0 S0 fp0 hI hS
 have H : Cx w0 fp0 S0 w0 [Es (List (Int × Int × ByteArray)) r__1_0 r__1_0h, Es (List (Int × Int × ByteArray)) r__2_0 r__2_0h] := Cx.start hI hS
 clear hI hS
 refine enterC (args := [_]) gok Tryz.func21 rfl _ rfl rfl rfl ?_
 refine box_ H ?_; clear H; intro b4 w3 hx H
 clear hx
 refine alloc_ gok rfl H ?_; clear H; intro b7 w6 hx H
 clear hx
 refine alloc_ gok rfl H ?_; clear H; intro b0 w9 hx H
 clear hx
 refine fld gok rfl rfl rfl rfl ?_
 refine loadN [(r__1_0h).v] rfl (H.bxs 2 rfl 1 rfl) ?_
 obtain ⟨y0, e, f0⟩ := bindS hF; clear hF
 obtain ⟨y0_0, y0_1, y0_2⟩ := y0
 have i0 := e; clear e
 refine callF (spec_tmType_c r__1_0 r__1_0h y0_0 y0_1 y0_2 i0) (Γi := []) H ⟨Vw.sh 3 rfl, trivial⟩ ?_; clear H i0
 rintro _ _ w1 ⟨rfl, rfl⟩ H
 refine fld gok rfl rfl rfl rfl ?_
 refine loadN [(r__2_0h).v] rfl (H.bxs 2 rfl 2 rfl) ?_
 obtain ⟨y1, e, f1⟩ := bindS f0; clear f0
 obtain ⟨y1_0, y1_1, y1_2⟩ := y1
 have i1 := e; clear e
 refine callF (spec_tmType_c r__2_0 r__2_0h y1_0 y1_1 y1_2 i1) (Γi := []) H ⟨Vw.sh 4 rfl, trivial⟩ ?_; clear H i1
 rintro _ _ w2 ⟨rfl, rfl⟩ H
 refine sq ?_
 obtain ⟨r0, f2, f3⟩ := bindS f1; clear f1
 refine cut (fun (q0 : Bool) => [(1, (.pointer (some ⟨b4, 0, none⟩))), (2, (.pointer (some ⟨b7, 0, none⟩))), (3, (.pointer (some ⟨b0, 0, none⟩))), (50, (.bool q0))]) (fun (q0 : Bool) w' => q0 = r0 ∧ Cx w0 fp0 S0 w' [Bx b4 [(.string r__0), (r__1_0h).v, (r__2_0h).v], Es (List (Int × Int × ByteArray)) r__1_0 r__1_0h, Es (List (Int × Int × ByteArray)) r__2_0 r__2_0h, Bx b7 [(.int .i64 0), (.slice none 0 0), (.slice none 0 0), (.slice none 0 0)], Bx b0 [(.int .i64 0), (.slice none 0 0), (.slice none 0 0), (.slice none 0 0)]]) ?_ ?_
 ·
  refine fld gok rfl rfl rfl rfl ?_
  refine load1 (H.bx 2 rfl (j := 0) rfl) ?_
  obtain ⟨y3, e, f4⟩ := bindS f2; clear f2
  have i2 := e; clear e
  refine callF (spec_lbName_c r__0 y3 i2) (Γi := []) H trivial ?_; clear H i2
  rintro _ _ w4 ⟨rfl, rfl⟩ H
  obtain ⟨a0, e, f5⟩ := bindS f4; clear f4
  refine boolO e ?_; clear e
  cases a0
  ·
   have f6 := condF f5; clear f5
   obtain ⟨a1, e, f7⟩ := bindS f6; clear f6
   refine boolO e ?_; clear e
   cases a1
   ·
    have f8 := condF f7; clear f7
    obtain ⟨a2, e, f9⟩ := bindS f8; clear f8
    refine boolO e ?_; clear e
    cases a2
    ·
     have f10 := condF f9; clear f9
     obtain ⟨a3, e, f11⟩ := bindS f10; clear f10
     refine boolO e ?_; clear e
     cases a3
     ·
      have f12 := condF f11; clear f11
      obtain ⟨a4, e, f13⟩ := bindS f12; clear f12
      refine boolO e ?_; clear e
      exact ⟨a4, ⟨rfl, rfl, rfl, rfl, trivial⟩, Option.some.inj f13, H.sel [2, 3, 4, 1, 0] rfl⟩
     ·
      have f14 := condT f11; clear f11
      exact ⟨true, ⟨rfl, rfl, rfl, rfl, trivial⟩, Option.some.inj f14, H.sel [2, 3, 4, 1, 0] rfl⟩
    ·
     have f15 := condT f9; clear f9
     exact ⟨true, ⟨rfl, rfl, rfl, rfl, trivial⟩, Option.some.inj f15, H.sel [2, 3, 4, 1, 0] rfl⟩
   ·
    have f16 := condT f7; clear f7
    exact ⟨true, ⟨rfl, rfl, rfl, rfl, trivial⟩, Option.some.inj f16, H.sel [2, 3, 4, 1, 0] rfl⟩
  ·
   have f17 := condT f5; clear f5
   exact ⟨true, ⟨rfl, rfl, rfl, rfl, trivial⟩, Option.some.inj f17, H.sel [2, 3, 4, 1, 0] rfl⟩
 ·
  clear f2 H
  rintro T0 s0 w5 ⟨hr, (H : Cx w0 fp0 S0 w5 [Bx b4 [(.string r__0), (r__1_0h).v, (r__2_0h).v], Es (List (Int × Int × ByteArray)) r__1_0 r__1_0h, Es (List (Int × Int × ByteArray)) r__2_0 r__2_0h, Bx b7 [(.int .i64 0), (.slice none 0 0), (.slice none 0 0), (.slice none 0 0)], Bx b0 [(.int .i64 0), (.slice none 0 0), (.slice none 0 0), (.slice none 0 0)]])⟩
  subst hr
  cases s0
  ·
   have f18 := condF f3; clear f3
   refine fld gok rfl rfl rfl rfl ?_
   refine loadN [(r__1_0h).v] rfl (H.bxs 0 rfl 1 rfl) ?_
   obtain ⟨y4, e, f19⟩ := bindS f18; clear f18
   obtain ⟨⟨y4_0_0, y4_0_1, y4_0_2, y4_0_3⟩, y4_1⟩ := y4
   have i3 := e; clear e
   refine callS (spec_hgMade_c r__1_0 r__1_0h y4_0_0 y4_0_1 y4_0_2 y4_0_3 y4_1 i3) (Γi := []) H [1] rfl (persC persS persN) ?_; clear H i3
   rintro _ _ w7 ⟨h0, h1, h2, rfl, rfl⟩ H
   refine alloc_ gok rfl H ?_; clear H; intro b1 w8 hx H
   clear hx
   refine stA gok [(.int .i64 y4_0_0), (h0).v, (h1).v, (h2).v] rfl H rfl rfl rfl ?_; clear H; intro w10 H
   refine fld gok rfl rfl rfl rfl ?_
   refine loadN [(r__2_0h).v] rfl (H.bxs 4 rfl 2 rfl) ?_
   obtain ⟨y5, e, f20⟩ := bindS f19; clear f19
   obtain ⟨⟨y5_0_0, y5_0_1, y5_0_2, y5_0_3⟩, y5_1⟩ := y5
   have i4 := e; clear e
   refine callS (spec_hgMade_c r__2_0 r__2_0h y5_0_0 y5_0_1 y5_0_2 y5_0_3 y5_1 i4) (Γi := []) H [6] rfl (persC persS persN) ?_; clear H i4
   rintro _ _ w11 ⟨h3, h4, h5, rfl, rfl⟩ H
   refine alloc_ gok rfl H ?_; clear H; intro b2 w12 hx H
   clear hx
   refine stA gok [(.int .i64 y5_0_0), (h3).v, (h4).v, (h5).v] rfl H rfl rfl rfl ?_; clear H; intro w13 H
   obtain ⟨r1, f21, f22⟩ := bindS f20; clear f20
   refine cut (fun (q1 : (Int × (List (Int × Int × List Int × List Int)) × List Int × List Int × Int × (List (Int × Int × List Int × List Int)) × List Int × List Int × Bool) × (Hd × Hd × Hd × Hd × Hd × Hd)) => [(2, (.pointer (some ⟨b7, 0, none⟩))), (3, (.pointer (some ⟨b0, 0, none⟩))), (4, (.bool q1.1.2.2.2.2.2.2.2.2))]) (fun (q1 : (Int × (List (Int × Int × List Int × List Int)) × List Int × List Int × Int × (List (Int × Int × List Int × List Int)) × List Int × List Int × Bool) × (Hd × Hd × Hd × Hd × Hd × Hd)) w' => (q1.1.1, q1.1.2.1, q1.1.2.2.1, q1.1.2.2.2.1, q1.1.2.2.2.2.1, q1.1.2.2.2.2.2.1, q1.1.2.2.2.2.2.2.1, q1.1.2.2.2.2.2.2.2.1, q1.1.2.2.2.2.2.2.2.2) = r1 ∧ Cx w0 fp0 S0 w' [Bx b7 [(.int .i64 q1.1.2.2.2.2.1), (q1.2.2.2.2.1).v, (q1.2.2.2.2.2.1).v, (q1.2.2.2.2.2.2).v], Es (List (Int × Int × List Int × List Int)) q1.1.2.2.2.2.2.1 q1.2.2.2.2.1, Es (List Int) q1.1.2.2.2.2.2.2.1 q1.2.2.2.2.2.1, Es (List Int) q1.1.2.2.2.2.2.2.2.1 q1.2.2.2.2.2.2, Bx b0 [(.int .i64 q1.1.1), (q1.2.1).v, (q1.2.2.1).v, (q1.2.2.2.1).v], Es (List (Int × Int × List Int × List Int)) q1.1.2.1 q1.2.1, Es (List Int) q1.1.2.2.1 q1.2.2.1, Es (List Int) q1.1.2.2.2.1 q1.2.2.2.1]) ?_ ?_
   ·
    refine heldX H [6, 7, 8, 0, 1, 4, 5] (.pure 0 (.pure 1 (.fst 2 (.fst 3 (.pure 4 (.pure 5 (.act 6 (.act 7 (.act 8 .done))))))))) mixed [((Addr.add ⟨b1, 0, none⟩ 0), (.int .i64 y4_0_0)), ((Addr.add ⟨b1, 0, none⟩ 1), (h0).v), ((Addr.add ⟨b1, 0, none⟩ 2), (h1).v), ((Addr.add ⟨b1, 0, none⟩ 3), (h2).v), ((Addr.add ⟨b2, 0, none⟩ 0), (.int .i64 y5_0_0)), ((Addr.add ⟨b2, 0, none⟩ 1), (h3).v), ((Addr.add ⟨b2, 0, none⟩ 2), (h4).v), ((Addr.add ⟨b2, 0, none⟩ 3), (h5).v)] ⟨H.bx 4 rfl (j := 0) rfl, H.bx 4 rfl (j := 1) rfl, H.bx 4 rfl (j := 2) rfl, H.bx 4 rfl (j := 3) rfl, H.bx 0 rfl (j := 0) rfl, H.bx 0 rfl (j := 1) rfl, H.bx 0 rfl (j := 2) rfl, H.bx 0 rfl (j := 3) rfl, trivial⟩ (by kernel_rfl) ?_
    clear H; intro w15 H
    have hX : Ext w15 w15 := Upd.refl _ _
    have H0 := H
    refine loadNW 0 [(.int .i64 y4_0_0), (h0).v, (h1).v, (h2).v] rfl ⟨rfl, rfl, rfl, rfl, trivial⟩ ?_
    refine loadNW 4 [(.int .i64 y5_0_0), (h3).v, (h4).v, (h5).v] rfl ⟨rfl, rfl, rfl, rfl, trivial⟩ ?_
    cases y4_1
    ·
     have f23 := condF f21; clear f21
     replace H := H.sel [11, 0, 1, 2, 3, 4, 5, 6, 7, 8, 9, 10, 12] rfl
     refine stA gok [(.int .i64 y4_0_0), (h0).v, (h1).v, (h2).v] rfl H rfl rfl rfl ?_; clear H; intro w16 H
     refine hold ⟨H.bx 5 rfl (j := 0) rfl, H.bx 5 rfl (j := 1) rfl, H.bx 5 rfl (j := 2) rfl, H.bx 5 rfl (j := 3) rfl, H.bx 1 rfl (j := 0) rfl, H.bx 1 rfl (j := 1) rfl, H.bx 1 rfl (j := 2) rfl, H.bx 1 rfl (j := 3) rfl, trivial⟩ ?_
     replace H := H.sel [12, 0, 1, 2, 3, 4, 5, 6, 7, 8, 9, 10, 11] rfl
     refine stA gok [(.int .i64 y5_0_0), (h3).v, (h4).v, (h5).v] rfl H rfl rfl rfl ?_; clear H; intro w18 H
     refine hold ⟨H.bx 6 rfl (j := 0) rfl, H.bx 6 rfl (j := 1) rfl, H.bx 6 rfl (j := 2) rfl, H.bx 6 rfl (j := 3) rfl, H.bx 2 rfl (j := 0) rfl, H.bx 2 rfl (j := 1) rfl, H.bx 2 rfl (j := 2) rfl, H.bx 2 rfl (j := 3) rfl, trivial⟩ ?_
     refine hold ⟨H.bx 6 rfl (j := 0) rfl, H.bx 6 rfl (j := 1) rfl, H.bx 6 rfl (j := 2) rfl, H.bx 6 rfl (j := 3) rfl, H.bx 2 rfl (j := 0) rfl, H.bx 2 rfl (j := 1) rfl, H.bx 2 rfl (j := 2) rfl, H.bx 2 rfl (j := 3) rfl, trivial⟩ ?_
     exact ⟨((y5_0_0, y5_0_1, y5_0_2, y5_0_3, y4_0_0, y4_0_1, y4_0_2, y4_0_3, false), (h3, h4, h5, h0, h1, h2)), ⟨rfl, rfl, rfl, trivial⟩, Option.some.inj f23, H.sel [1, 7, 8, 9, 0, 3, 4, 5] rfl⟩
    ·
     have f24 := condT f21; clear f21
     replace H := H.sel [11, 0, 1, 2, 3, 4, 5, 6, 7, 8, 9, 10, 12] rfl
     refine stA gok [(.int .i64 y4_0_0), (h0).v, (h1).v, (h2).v] rfl H rfl rfl rfl ?_; clear H; intro w19 H
     refine hold ⟨H.bx 5 rfl (j := 0) rfl, H.bx 5 rfl (j := 1) rfl, H.bx 5 rfl (j := 2) rfl, H.bx 5 rfl (j := 3) rfl, H.bx 1 rfl (j := 0) rfl, H.bx 1 rfl (j := 1) rfl, H.bx 1 rfl (j := 2) rfl, H.bx 1 rfl (j := 3) rfl, trivial⟩ ?_
     replace H := H.sel [12, 0, 1, 2, 3, 4, 5, 6, 7, 8, 9, 10, 11] rfl
     refine stA gok [(.int .i64 y5_0_0), (h3).v, (h4).v, (h5).v] rfl H rfl rfl rfl ?_; clear H; intro w20 H
     refine hold ⟨H.bx 6 rfl (j := 0) rfl, H.bx 6 rfl (j := 1) rfl, H.bx 6 rfl (j := 2) rfl, H.bx 6 rfl (j := 3) rfl, H.bx 2 rfl (j := 0) rfl, H.bx 2 rfl (j := 1) rfl, H.bx 2 rfl (j := 2) rfl, H.bx 2 rfl (j := 3) rfl, trivial⟩ ?_
     refine hold ⟨H.bx 6 rfl (j := 0) rfl, H.bx 6 rfl (j := 1) rfl, H.bx 6 rfl (j := 2) rfl, H.bx 6 rfl (j := 3) rfl, H.bx 2 rfl (j := 0) rfl, H.bx 2 rfl (j := 1) rfl, H.bx 2 rfl (j := 2) rfl, H.bx 2 rfl (j := 3) rfl, trivial⟩ ?_
     exact ⟨((y5_0_0, y5_0_1, y5_0_2, y5_0_3, y4_0_0, y4_0_1, y4_0_2, y4_0_3, y5_1), (h3, h4, h5, h0, h1, h2)), ⟨rfl, rfl, rfl, trivial⟩, Option.some.inj f24, H.sel [1, 7, 8, 9, 0, 3, 4, 5] rfl⟩
   ·
    clear f21 H
    rintro T1 ⟨⟨s1_0, s1_1, s1_2, s1_3, s1_4, s1_5, s1_6, s1_7, s1_8⟩, ⟨g0_0, g0_1, g0_2, g0_3, g0_4, g0_5⟩⟩ w21 ⟨hr, (H : Cx w0 fp0 S0 w21 [Bx b7 [(.int .i64 s1_4), (g0_3).v, (g0_4).v, (g0_5).v], Es (List (Int × Int × List Int × List Int)) s1_5 g0_3, Es (List Int) s1_6 g0_4, Es (List Int) s1_7 g0_5, Bx b0 [(.int .i64 s1_0), (g0_0).v, (g0_1).v, (g0_2).v], Es (List (Int × Int × List Int × List Int)) s1_1 g0_0, Es (List Int) s1_2 g0_1, Es (List Int) s1_3 g0_2])⟩
    subst hr
    refine loadN [(.int .i64 s1_4), (g0_3).v, (g0_4).v, (g0_5).v] rfl (fun j u hj => H.bx 0 rfl hj) ?_
    refine loadN [(.int .i64 s1_0), (g0_0).v, (g0_1).v, (g0_2).v] rfl (fun j u hj => H.bx 4 rfl hj) ?_
    cases f22
    exact ⟨_, _, rfl, ⟨g0_3, g0_4, g0_5, g0_0, g0_1, g0_2, rfl, rfl⟩, (H.sel [1, 2, 3, 5, 6, 7] rfl)⟩
  ·
   have f25 := condT f3; clear f3
   refine build_ (cs := #[(.int .i64 0), (.slice none 0 0), (.slice none 0 0), (.slice none 0 0)]) gok rfl rfl rfl ?_
   refine build_ (cs := #[(.int .i64 0), (.slice none 0 0), (.slice none 0 0), (.slice none 0 0)]) gok rfl rfl rfl ?_
   replace H := H.sel [3, 0, 1, 2, 4] rfl
   refine stA gok [(.int .i64 0), (.slice none 0 0), (.slice none 0 0), (.slice none 0 0)] rfl H rfl rfl rfl ?_; clear H; intro w22 H
   replace H := H.sel [4, 0, 1, 2, 3] rfl
   refine stA gok [(.int .i64 0), (.slice none 0 0), (.slice none 0 0), (.slice none 0 0)] rfl H rfl rfl rfl ?_; clear H; intro w23 H
   refine loadN [(.int .i64 0), (.slice none 0 0), (.slice none 0 0), (.slice none 0 0)] rfl (fun j u hj => H.bx 1 rfl hj) ?_
   refine loadN [(.int .i64 0), (.slice none 0 0), (.slice none 0 0), (.slice none 0 0)] rfl (fun j u hj => H.bx 0 rfl hj) ?_
   replace H := H.nil (α := Int × Int × List Int × List Int)
   replace H := H.frz
   replace H := H.nil (α := Int)
   replace H := H.frz
   replace H := H.nil (α := Int)
   replace H := H.frz
   replace H := H.nil (α := Int × Int × List Int × List Int)
   replace H := H.frz
   replace H := H.nil (α := Int)
   replace H := H.frz
   replace H := H.nil (α := Int)
   replace H := H.frz
   cases f25
   exact ⟨_, _, rfl, ⟨nilH, nilH, nilH, nilH, nilH, nilH, rfl, rfl⟩, (H.sel [5, 4, 3, 2, 1, 0] rfl)⟩

theorem spec_rwIs_c (r__0 : ByteArray) (r__1_0 : List (Int × Int × ByteArray)) (r__1_0h : Hd) (r__2_0 : List (Int × Int × ByteArray)) (r__2_0h : Hd) (y : Bool) (hF : F_spec_rwIs (r__0, r__1_0, r__2_0) = some y) :
  ConF Tryz.prog 12 #[(.agg #[(.string r__0), (r__1_0h).v, (r__2_0h).v])] [Es (List (Int × Int × ByteArray)) r__1_0 r__1_0h, Es (List (Int × Int × ByteArray)) r__2_0 r__2_0h] [] (fun v Γ' => v = (.bool y) ∧ Γ' = []) := by
 intro w0 S0 fp0 hI hS
 have H : Cx w0 fp0 S0 w0 [Es (List (Int × Int × ByteArray)) r__1_0 r__1_0h, Es (List (Int × Int × ByteArray)) r__2_0 r__2_0h] := Cx.start hI hS
 clear hI hS
 refine enterC (args := [_]) gok Tryz.func12 rfl _ rfl rfl rfl ?_
 refine box_ H ?_; clear H; intro b4 w3 hx H
 clear hx
 refine loadN [(.string r__0), (r__1_0h).v, (r__2_0h).v] rfl (fun j u hj => H.bx 0 rfl hj) ?_
 obtain ⟨y6, e, hF7⟩ := bindS hF; clear hF
 obtain ⟨⟨y6_0_0, y6_0_1, y6_0_2, y6_0_3⟩, ⟨y6_1_0, y6_1_1, y6_1_2, y6_1_3⟩, y6_2⟩ := y6
 have ey6 := e; clear e
 refine callS (spec_rwSides_c r__0 r__1_0 r__1_0h r__2_0 r__2_0h y6_0_0 y6_0_1 y6_0_2 y6_0_3 y6_1_0 y6_1_1 y6_1_2 y6_1_3 y6_2 ey6) (Γi := []) H [1, 2] rfl (persC persS (persC persS persN)) ?_; clear H ey6
 rintro _ _ w8 ⟨h9, h0, h1, h2, h3, h4, rfl, rfl⟩ H
 refine alloc_ gok rfl H ?_; clear H; intro b0 w1 hx H
 clear hx
 refine alloc_ gok rfl H ?_; clear H; intro b1 w2 hx H
 clear hx
 replace H := H.sel [1, 0, 2, 3, 4, 5, 6, 7, 8, 9, 10] rfl
 refine stA gok [(.int .i64 y6_0_0), (h9).v, (h0).v, (h1).v] rfl H rfl rfl rfl ?_; clear H; intro w4 H
 replace H := H.sel [1, 0, 2, 3, 4, 5, 6, 7, 8, 9, 10] rfl
 refine stA gok [(.int .i64 y6_1_0), (h2).v, (h3).v, (h4).v] rfl H rfl rfl rfl ?_; clear H; intro w5 H
 cases hF7
 exact ⟨_, _, rfl, ⟨rfl, rfl⟩, (H.sel [] rfl).close trivial⟩

theorem spec_tmMirrorKind_c (kind_ : Int) (y : Int) (hF : F_spec_tmMirrorKind kind_ = some y) :
  ConF Tryz.prog 24 #[(.int .i64 kind_)] [] [] (fun v Γ' => v = (.int .i64 y) ∧ Γ' = []) := by
 intro w0 S0 fp0 hI hS
 have H : Cx w0 fp0 S0 w0 [] := Cx.start hI hS
 clear hI hS
 refine enterC (args := [_]) gok Tryz.func24 rfl _ rfl rfl rfl ?_
 refine sq ?_
 obtain ⟨y1, e, hF2⟩ := bindS hF; clear hF
 have ey1 := e; clear e
 refine callF (spec_l1In_c kind_ 3 8 y1 ey1) (Γi := []) H trivial ?_; clear H ey1
 rintro _ _ w3 ⟨rfl, rfl⟩ H
 cases y1
 ·
  have hF4 := condF hF2; clear hF2
  obtain ⟨y5, e, hF6⟩ := bindS hF4; clear hF4
  have ey5 := e; clear e
  refine callF (spec_l1In_c kind_ 9 14 y5 ey5) (Γi := []) H trivial ?_; clear H ey5
  rintro _ _ w7 ⟨rfl, rfl⟩ H
  cases y5
  ·
   have hF8 := condF hF6; clear hF6
   cases hF8
   exact ⟨_, _, rfl, ⟨rfl, rfl⟩, (H.sel [] rfl).close trivial⟩
  ·
   have hF9 := condT hF6; clear hF6
   obtain ⟨a0, e, f0⟩ := bindS hF9; clear hF9
   refine arO e ?_; clear e
   cases f0
   exact ⟨_, _, rfl, ⟨rfl, rfl⟩, (H.sel [] rfl).close trivial⟩
 ·
  have f1 := condT hF2; clear hF2
  obtain ⟨a1, e, f2⟩ := bindS f1; clear f1
  refine arO e ?_; clear e
  cases f2
  exact ⟨_, _, rfl, ⟨rfl, rfl⟩, (H.sel [] rfl).close trivial⟩

theorem spec_tmOne_c (kind_ : Int) (value_ : Int) (y_0 : List (Int × Int × ByteArray)) (hF : F_spec_tmOne kind_ value_ = some y_0) :
  ConF Tryz.prog 23 #[(.int .i64 kind_), (.int .i64 value_)] [] [] (fun v Γ' => ∃ z0 : Hd, v = (.agg #[(z0).v]) ∧ Γ' = [E (List (Int × Int × ByteArray)) y_0 z0]) := by
 intro w0 S0 fp0 hI hS
 have H : Cx w0 fp0 S0 w0 [] := Cx.start hI hS
 clear hI hS
 refine enterC (args := [_, _]) gok Tryz.func23 rfl _ rfl rfl rfl ?_
 refine alloc_ gok rfl H ?_; clear H; intro b2 w1 hx H
 clear hx
 refine build_ (cs := #[(.int .i64 kind_), (.int .i64 value_), (.string .empty)]) gok rfl rfl rfl ?_
 replace H := H.sc (α := ByteArray) .empty
 replace H := H.sc (α := Int) value_
 replace H := H.join (α := Int) (β := ByteArray)
 replace H := H.sc (α := Int) kind_
 replace H := H.join (α := Int) (β := Int × ByteArray)
 refine lit1 (α := Int × Int × ByteArray) (g := ((), (), ())) gok rfl rfl rfl rfl rfl H ?_; clear H; intro h5 w4 hx H
 clear hx
 refine build_ (cs := #[(h5).v]) gok rfl rfl rfl ?_
 replace H := H.sel [1, 0] rfl
 refine stA gok [(h5).v] rfl H rfl rfl rfl ?_; clear H; intro w2 H
 refine loadN [(h5).v] rfl (fun j u hj => H.bx 0 rfl hj) ?_
 cases hF
 exact ⟨_, _, rfl, ⟨h5, rfl, rfl⟩, (H.sel [1] rfl).close ⟨cloE, trivial⟩⟩

theorem spec_tmJoin_c (a__0 : List (Int × Int × ByteArray)) (a__0h : Hd) (b__0 : List (Int × Int × ByteArray)) (b__0h : Hd) (kind_ : Int) (y_0 : List (Int × Int × ByteArray)) (hF : F_spec_tmJoin a__0 b__0 kind_ = some y_0) :
  ConF Tryz.prog 43 #[(.agg #[(a__0h).v]), (.agg #[(b__0h).v]), (.int .i64 kind_)] [Es (List (Int × Int × ByteArray)) a__0 a__0h, Es (List (Int × Int × ByteArray)) b__0 b__0h] [] (fun v Γ' => ∃ z0 : Hd, v = (.agg #[(z0).v]) ∧ Γ' = [E (List (Int × Int × ByteArray)) y_0 z0]) := by
 intro w0 S0 fp0 hI hS
 have H : Cx w0 fp0 S0 w0 [Es (List (Int × Int × ByteArray)) a__0 a__0h, Es (List (Int × Int × ByteArray)) b__0 b__0h] := Cx.start hI hS
 clear hI hS
 refine enterC (args := [_, _, _]) gok Tryz.func43 rfl _ rfl rfl rfl ?_
 refine box_ H ?_; clear H; intro b4 w3 hx H
 clear hx
 refine box_ H ?_; clear H; intro b7 w6 hx H
 clear hx
 refine alloc_ gok rfl H ?_; clear H; intro b0 w9 hx H
 clear hx
 refine lit0 (α := Int × Int × ByteArray) gok rfl rfl H ?_; clear H; intro h0 w1 hx H
 clear hx
 refine fld gok rfl rfl rfl rfl ?_
 refine load1 (H.bx 3 rfl (j := 0) rfl) ?_
 obtain ⟨a0, e, f0⟩ := bindS hF; clear hF
 replace H := H.frzE (α := Int × Int × ByteArray)
 refine appendSh (α := Int × Int × ByteArray) gok rfl rfl rfl rfl rfl H 3 rfl e ?_; clear e H; intro h1 w2 H
 replace H := H.unSh
 refine fld gok rfl rfl rfl rfl ?_
 refine load1 (H.bx 2 rfl (j := 0) rfl) ?_
 obtain ⟨a1, e, f1⟩ := bindS f0; clear f0
 replace H := H.frzE (α := Int × Int × ByteArray)
 refine appendSh (α := Int × Int × ByteArray) gok rfl rfl rfl rfl rfl H 4 rfl e ?_; clear e H; intro h2 w4 H
 replace H := H.unSh
 refine build_ (cs := #[(.int .i64 kind_), (.int .i64 0), (.string .empty)]) gok rfl rfl rfl ?_
 replace H := H.sc (α := ByteArray) .empty
 replace H := H.sc (α := Int) 0
 replace H := H.join (α := Int) (β := ByteArray)
 replace H := H.sc (α := Int) kind_
 replace H := H.join (α := Int) (β := Int × ByteArray)
 refine lit1 (α := Int × Int × ByteArray) (g := ((), (), ())) gok rfl rfl rfl rfl rfl H ?_; clear H; intro h3 w5 hx H
 clear hx
 obtain ⟨a2, e, f2⟩ := bindS f1; clear f1
 replace H := H.sel [1, 0, 2, 3, 4, 5, 6] rfl
 refine append_ (α := Int × Int × ByteArray) gok rfl rfl rfl rfl H e ?_; clear e H; intro h4 w7 H
 refine build_ (cs := #[(h4).v]) gok rfl rfl rfl ?_
 replace H := H.sel [1, 0, 2, 3, 4, 5] rfl
 refine stA gok [(h4).v] rfl H rfl rfl rfl ?_; clear H; intro w8 H
 refine loadN [(h4).v] rfl (fun j u hj => H.bx 0 rfl hj) ?_
 cases f2
 exact ⟨_, _, rfl, ⟨h4, rfl, rfl⟩, (H.sel [1] rfl).close ⟨cloE, trivial⟩⟩

theorem spec_tmSeq_c (a__0 : List (Int × Int × ByteArray)) (a__0h : Hd) (b__0 : List (Int × Int × ByteArray)) (b__0h : Hd) (y_0 : List (Int × Int × ByteArray)) (hF : F_spec_tmSeq a__0 b__0 = some y_0) :
  ConF Tryz.prog 26 #[(.agg #[(a__0h).v]), (.agg #[(b__0h).v])] [Es (List (Int × Int × ByteArray)) a__0 a__0h, Es (List (Int × Int × ByteArray)) b__0 b__0h] [] (fun v Γ' => ∃ z0 : Hd, v = (.agg #[(z0).v]) ∧ Γ' = [E (List (Int × Int × ByteArray)) y_0 z0]) := by
 intro w0 S0 fp0 hI hS
 have H : Cx w0 fp0 S0 w0 [Es (List (Int × Int × ByteArray)) a__0 a__0h, Es (List (Int × Int × ByteArray)) b__0 b__0h] := Cx.start hI hS
 clear hI hS
 refine enterC (args := [_, _]) gok Tryz.func26 rfl _ rfl rfl rfl ?_
 refine box_ H ?_; clear H; intro b4 w3 hx H
 clear hx
 refine box_ H ?_; clear H; intro b7 w6 hx H
 clear hx
 refine alloc_ gok rfl H ?_; clear H; intro b0 w9 hx H
 clear hx
 refine loadN [(a__0h).v] rfl (fun j u hj => H.bx 2 rfl hj) ?_
 refine loadN [(b__0h).v] rfl (fun j u hj => H.bx 1 rfl hj) ?_
 obtain ⟨y0, e, f0⟩ := bindS hF; clear hF
 obtain ⟨y0_0, rfl⟩ : ∃ z, z = y0 := ⟨_, rfl⟩
 have i0 := e; clear e
 refine callF (spec_tmJoin_c a__0 a__0h b__0 b__0h 15 y0_0 i0) (Γi := []) H ⟨Vw.sh 3 rfl, Vw.sh 4 rfl, trivial⟩ ?_; clear H i0
 rintro _ _ w1 ⟨h0, rfl, rfl⟩ H
 replace H := H.sel [1, 0, 2, 3, 4, 5] rfl
 refine stA gok [(h0).v] rfl H rfl rfl rfl ?_; clear H; intro w2 H
 refine loadN [(h0).v] rfl (fun j u hj => H.bx 0 rfl hj) ?_
 cases f0
 exact ⟨_, _, rfl, ⟨h0, rfl, rfl⟩, (H.sel [1] rfl).close ⟨cloE, trivial⟩⟩

theorem spec_tmPar_c (a__0 : List (Int × Int × ByteArray)) (a__0h : Hd) (b__0 : List (Int × Int × ByteArray)) (b__0h : Hd) (y_0 : List (Int × Int × ByteArray)) (hF : F_spec_tmPar a__0 b__0 = some y_0) :
  ConF Tryz.prog 27 #[(.agg #[(a__0h).v]), (.agg #[(b__0h).v])] [Es (List (Int × Int × ByteArray)) a__0 a__0h, Es (List (Int × Int × ByteArray)) b__0 b__0h] [] (fun v Γ' => ∃ z0 : Hd, v = (.agg #[(z0).v]) ∧ Γ' = [E (List (Int × Int × ByteArray)) y_0 z0]) := by
 intro w0 S0 fp0 hI hS
 have H : Cx w0 fp0 S0 w0 [Es (List (Int × Int × ByteArray)) a__0 a__0h, Es (List (Int × Int × ByteArray)) b__0 b__0h] := Cx.start hI hS
 clear hI hS
 refine enterC (args := [_, _]) gok Tryz.func27 rfl _ rfl rfl rfl ?_
 refine box_ H ?_; clear H; intro b4 w3 hx H
 clear hx
 refine box_ H ?_; clear H; intro b7 w6 hx H
 clear hx
 refine alloc_ gok rfl H ?_; clear H; intro b0 w9 hx H
 clear hx
 refine loadN [(a__0h).v] rfl (fun j u hj => H.bx 2 rfl hj) ?_
 refine loadN [(b__0h).v] rfl (fun j u hj => H.bx 1 rfl hj) ?_
 obtain ⟨y0, e, f0⟩ := bindS hF; clear hF
 obtain ⟨y0_0, rfl⟩ : ∃ z, z = y0 := ⟨_, rfl⟩
 have i0 := e; clear e
 refine callF (spec_tmJoin_c a__0 a__0h b__0 b__0h 16 y0_0 i0) (Γi := []) H ⟨Vw.sh 3 rfl, Vw.sh 4 rfl, trivial⟩ ?_; clear H i0
 rintro _ _ w1 ⟨h0, rfl, rfl⟩ H
 replace H := H.sel [1, 0, 2, 3, 4, 5] rfl
 refine stA gok [(h0).v] rfl H rfl rfl rfl ?_; clear H; intro w2 H
 refine loadN [(h0).v] rfl (fun j u hj => H.bx 0 rfl hj) ?_
 cases f0
 exact ⟨_, _, rfl, ⟨h0, rfl, rfl⟩, (H.sel [1] rfl).close ⟨cloE, trivial⟩⟩

theorem spec_tmMirror_cn : ∀ (fuel : Nat) (t__0 : List (Int × Int × ByteArray)) (t__0h : Hd) (y_0 : List (Int × Int × ByteArray)) (hF : F_spec_tmMirror_n fuel t__0 = some y_0),
  ConF Tryz.prog 13 #[(.agg #[(t__0h).v])] [Es (List (Int × Int × ByteArray)) t__0 t__0h] [] (fun v Γ' => ∃ z0 : Hd, v = (.agg #[(z0).v]) ∧ Γ' = [E (List (Int × Int × ByteArray)) y_0 z0]) := by
 intro fuel
 induction fuel with
 | zero => intro t__0 t__0h y_0 hF; cases hF
 | succ fuel ih =>
 intro t__0 t__0h y_0 hF
 intro w0 S0 fp0 hI hS
 have H : Cx w0 fp0 S0 w0 [Es (List (Int × Int × ByteArray)) t__0 t__0h] := Cx.start hI hS
 clear hI hS
 refine enterC (args := [_]) gok Tryz.func13 rfl _ rfl rfl rfl ?_
 refine box_ H ?_; clear H; intro b3 w2 hx H
 clear hx
 refine alloc_ gok rfl H ?_; clear H; intro b6 w5 hx H
 clear hx
 refine loadN [(t__0h).v] rfl (fun j u hj => H.bx 1 rfl hj) ?_
 obtain ⟨y8, e, hF9⟩ := bindS hF; clear hF
 have ey8 := e; clear e
 refine callF (spec_tmTop_c t__0 t__0h y8 ey8) (Γi := []) H ⟨Vw.sh 2 rfl, trivial⟩ ?_; clear H ey8
 rintro _ _ w1 ⟨rfl, rfl⟩ H
 refine sq ?_
 obtain ⟨a0, e, f0⟩ := bindS hF9; clear hF9
 refine boolO e ?_; clear e
 cases a0
 ·
  have f1 := condF f0; clear f0
  refine loadN [(t__0h).v] rfl (fun j u hj => H.bx 1 rfl hj) ?_
  obtain ⟨y0, e, f2⟩ := bindS f1; clear f1
  obtain ⟨y0_0_0, y0_1_0⟩ := y0
  have i0 := e; clear e
  refine callF (spec_tmParts_c t__0 t__0h y0_0_0 y0_1_0 i0) (Γi := []) H ⟨Vw.sh 2 rfl, trivial⟩ ?_; clear H i0
  rintro _ _ w3 ⟨h0, h1, rfl, rfl⟩ H
  refine alloc_ gok rfl H ?_; clear H; intro b0 w4 hx H
  clear hx
  refine alloc_ gok rfl H ?_; clear H; intro b1 w6 hx H
  clear hx
  replace H := H.sel [1, 0, 2, 3, 4, 5, 6] rfl
  refine stA gok [(h0).v] rfl H rfl rfl rfl ?_; clear H; intro w7 H
  replace H := H.sel [1, 0, 2, 3, 4, 5, 6] rfl
  refine stA gok [(h1).v] rfl H rfl rfl rfl ?_; clear H; intro w8 H
  refine sq ?_
  obtain ⟨a1, e, f3⟩ := bindS f2; clear f2
  refine boolO e ?_; clear e
  cases a1
  ·
   have f4 := condF f3; clear f3
   refine heldX H [5] (.fst 0 (.fst 2 (.act 1 (.act 3 (.act 4 (.act 5 .done)))))) mixed [] trivial (by kernel_rfl) ?_
   clear H; intro w9 H
   have hX : Ext w9 w9 := Upd.refl _ _
   have H0 := H
   refine loadNX [(h0).v] rfl (fun j u hj => H.bx 1 rfl hj) ?_
   refine loadNX [(h1).v] rfl (fun j u hj => H.bx 0 rfl hj) ?_
   obtain ⟨y1, e, f5⟩ := bindS f4; clear f4
   obtain ⟨y1_0, rfl⟩ : ∃ z, z = y1 := ⟨_, rfl⟩
   have i1 := e; clear e
   refine callFx (ih y0_0_0 h0 y1_0 i1) H ⟨Vw.own 2 rfl, trivial⟩ ?_; clear H i1
   rintro _ _ w11 ⟨h2, rfl, rfl⟩ hx H
   replace hX := hX.trans0 hx; clear hx
   refine hold hX ?_
   obtain ⟨y2, e, f6⟩ := bindS f5; clear f5
   obtain ⟨y2_0, rfl⟩ : ∃ z, z = y2 := ⟨_, rfl⟩
   have i2 := e; clear e
   refine callFx (ih y0_1_0 h1 y2_0 i2) H ⟨Vw.own 4 rfl, trivial⟩ ?_; clear H i2
   rintro _ _ w12 ⟨h3, rfl, rfl⟩ hx H
   replace hX := hX.trans0 hx; clear hx
   refine hold hX ?_
   obtain ⟨y3, e, f7⟩ := bindS f6; clear f6
   obtain ⟨y3_0, rfl⟩ : ∃ z, z = y3 := ⟨_, rfl⟩
   have i3 := e; clear e
   refine callFx (spec_tmPar_c y1_0 h2 y2_0 h3 y3_0 i3) H ⟨Vw.own 1 rfl, Vw.own 0 rfl, trivial⟩ ?_; clear H i3
   rintro _ _ w13 ⟨h4, rfl, rfl⟩ hx H
   replace hX := hX.trans0 hx; clear hx
   refine hold hX ?_
   replace H := H.sel [7, 0, 1, 2, 3, 4, 5, 6, 8, 9] rfl
   refine stA gok [(h4).v] rfl H rfl rfl rfl ?_; clear H; intro w14 H
   refine hold trivial ?_
   refine loadN [(h4).v] rfl (fun j u hj => H.bx 0 rfl hj) ?_
   cases f7
   exact ⟨_, _, rfl, ⟨h4, rfl, rfl⟩, (H.sel [1] rfl).close ⟨cloE, trivial⟩⟩
  ·
   have f8 := condT f3; clear f3
   refine heldX H [5] (.fst 0 (.fst 2 (.act 1 (.act 3 (.act 4 (.act 5 .done)))))) mixed [] trivial (by kernel_rfl) ?_
   clear H; intro w15 H
   have hX : Ext w15 w15 := Upd.refl _ _
   have H0 := H
   refine loadNX [(h1).v] rfl (fun j u hj => H.bx 0 rfl hj) ?_
   refine loadNX [(h0).v] rfl (fun j u hj => H.bx 1 rfl hj) ?_
   obtain ⟨y4, e, f9⟩ := bindS f8; clear f8
   obtain ⟨y4_0, rfl⟩ : ∃ z, z = y4 := ⟨_, rfl⟩
   have i4 := e; clear e
   refine callFx (ih y0_1_0 h1 y4_0 i4) H ⟨Vw.own 3 rfl, trivial⟩ ?_; clear H i4
   rintro _ _ w17 ⟨h5, rfl, rfl⟩ hx H
   replace hX := hX.trans0 hx; clear hx
   refine hold hX ?_
   obtain ⟨y5, e, f10⟩ := bindS f9; clear f9
   obtain ⟨y5_0, rfl⟩ : ∃ z, z = y5 := ⟨_, rfl⟩
   have i5 := e; clear e
   refine callFx (ih y0_0_0 h0 y5_0 i5) H ⟨Vw.own 3 rfl, trivial⟩ ?_; clear H i5
   rintro _ _ w18 ⟨h6, rfl, rfl⟩ hx H
   replace hX := hX.trans0 hx; clear hx
   refine hold hX ?_
   obtain ⟨y6, e, f11⟩ := bindS f10; clear f10
   obtain ⟨y6_0, rfl⟩ : ∃ z, z = y6 := ⟨_, rfl⟩
   have i6 := e; clear e
   refine callFx (spec_tmSeq_c y4_0 h5 y5_0 h6 y6_0 i6) H ⟨Vw.own 1 rfl, Vw.own 0 rfl, trivial⟩ ?_; clear H i6
   rintro _ _ w19 ⟨h7, rfl, rfl⟩ hx H
   replace hX := hX.trans0 hx; clear hx
   refine hold hX ?_
   replace H := H.sel [7, 0, 1, 2, 3, 4, 5, 6, 8, 9] rfl
   refine stA gok [(h7).v] rfl H rfl rfl rfl ?_; clear H; intro w20 H
   refine hold trivial ?_
   refine loadN [(h7).v] rfl (fun j u hj => H.bx 0 rfl hj) ?_
   cases f11
   exact ⟨_, _, rfl, ⟨h7, rfl, rfl⟩, (H.sel [1] rfl).close ⟨cloE, trivial⟩⟩
 ·
  have f12 := condT f0; clear f0
  refine heldX H [8] (.fst 0 (.fst 2 (.fst 3 (.fst 4 (.fst 5 (.fst 6 (.act 1 (.act 7 (.act 8 .done))))))))) mixed [] trivial (by kernel_rfl) ?_
  clear H; intro w22 H
  have hX : Ext w22 w22 := Upd.refl _ _
  have H0 := H
  refine anyH (fun _ => fld gok rfl rfl rfl rfl ⟨rfl, rfl⟩) ?_
  refine load1X (H.bx 1 rfl (j := 0) rfl) ?_
  obtain ⟨a2, e, f13⟩ := bindS f12; clear f12
  have HH := H; clear H; obtain ⟨p0, m0, g0, c0, c1, c2, c3, H⟩ := HH.el (α := Int × Int × ByteArray) 2 rfl e; clear HH
  clear e
  obtain ⟨a2_0, a2_1, a2_2⟩ := a2
  obtain ⟨_, _, _⟩ := g0
  replace H := H.sel [1, 2, 3] rfl
  refine idxE c0 c1 c2 ?_; clear c0 c1 c2
  refine anyH (fun _ => fld gok rfl rfl rfl rfl ⟨rfl, rfl⟩) ?_
  refine load1X (c3 1 _ rfl) ?_
  obtain ⟨y7, e, f14⟩ := bindS f13; clear f13
  have i7 := e; clear e
  refine callFx (spec_tmMirrorKind_c y8 y7 i7) H trivial ?_; clear H i7
  rintro _ _ w23 ⟨rfl, rfl⟩ hx H
  replace hX := hX.trans0 hx; clear hx
  refine hold hX ?_
  obtain ⟨y9, e, f15⟩ := bindS f14; clear f14
  obtain ⟨y9_0, rfl⟩ : ∃ z, z = y9 := ⟨_, rfl⟩
  have i8 := e; clear e
  refine callFx (spec_tmOne_c y7 a2_1 y9_0 i8) H trivial ?_; clear H i8
  rintro _ _ w25 ⟨h8, rfl, rfl⟩ hx H
  replace hX := hX.trans0 hx; clear hx
  refine hold hX ?_
  replace H := H.sel [1, 0, 2, 3] rfl
  refine stA gok [(h8).v] rfl H rfl rfl rfl ?_; clear H; intro w26 H
  refine hold trivial ?_
  refine loadN [(h8).v] rfl (fun j u hj => H.bx 0 rfl hj) ?_
  cases f15
  exact ⟨_, _, rfl, ⟨h8, rfl, rfl⟩, (H.sel [1] rfl).close ⟨cloE, trivial⟩⟩
theorem spec_tmMirror_c (t__0 : List (Int × Int × ByteArray)) (t__0h : Hd) (y_0 : List (Int × Int × ByteArray)) (hF : F_spec_tmMirror t__0 = some y_0) :
  ConF Tryz.prog 13 #[(.agg #[(t__0h).v])] [Es (List (Int × Int × ByteArray)) t__0 t__0h] [] (fun v Γ' => ∃ z0 : Hd, v = (.agg #[(z0).v]) ∧ Γ' = [E (List (Int × Int × ByteArray)) y_0 z0]) := spec_tmMirror_cn _ t__0 t__0h y_0 hF

theorem spec_MirrorRule_c (r__0 : ByteArray) (r__1_0 : List (Int × Int × ByteArray)) (r__1_0h : Hd) (r__2_0 : List (Int × Int × ByteArray)) (r__2_0h : Hd) (y0_0 : ByteArray) (y0_1_0 : List (Int × Int × ByteArray)) (y0_2_0 : List (Int × Int × ByteArray)) (y1 : Bool) (hF : F_spec_MirrorRule (r__0, r__1_0, r__2_0) = some ((y0_0, y0_1_0, y0_2_0), y1)) :
  ConF Tryz.prog 5 #[(.agg #[(.string r__0), (r__1_0h).v, (r__2_0h).v])] [Es (List (Int × Int × ByteArray)) r__1_0 r__1_0h, Es (List (Int × Int × ByteArray)) r__2_0 r__2_0h] [] (fun v Γ' => ∃ z0 z1 : Hd, v = (.tuple #[(.agg #[(.string y0_0), (z0).v, (z1).v]), (.bool y1)]) ∧ Γ' = [E (List (Int × Int × ByteArray)) y0_1_0 z0, E (List (Int × Int × ByteArray)) y0_2_0 z1]) := by
 intro w0 S0 fp0 hI hS
 have H : Cx w0 fp0 S0 w0 [Es (List (Int × Int × ByteArray)) r__1_0 r__1_0h, Es (List (Int × Int × ByteArray)) r__2_0 r__2_0h] := Cx.start hI hS
 clear hI hS
 refine enterC (args := [_]) gok Tryz.func5 rfl _ rfl rfl rfl ?_
 refine box_ H ?_; clear H; intro b4 w3 hx H
 clear hx
 refine alloc_ gok rfl H ?_; clear H; intro b7 w6 hx H
 clear hx
 refine sq ?_
 refine loadN [(.string r__0), (r__1_0h).v, (r__2_0h).v] rfl (fun j u hj => H.bx 1 rfl hj) ?_
 obtain ⟨y9, e, f0⟩ := bindS hF; clear hF
 have ey9 := e; clear e
 refine callF (spec_rwIs_c r__0 r__1_0 r__1_0h r__2_0 r__2_0h y9 ey9) (Γi := []) H ⟨Vw.sh 2 rfl, Vw.sh 3 rfl, trivial⟩ ?_; clear H ey9
 rintro _ _ w1 ⟨rfl, rfl⟩ H
 obtain ⟨a0, e, f1⟩ := bindS f0; clear f0
 refine boolO e ?_; clear e
 cases a0
 ·
  have f2 := condF f1; clear f1
  refine heldX H [9, 10] (.fst 0 (.fst 2 (.fst 5 (.fst 1 (.fst 3 (.fst 6 (.act 4 (.act 7 (.fst 8 (.act 9 (.act 10 .done))))))))))) mixed [] trivial (by kernel_rfl) ?_
  clear H; intro w2 H
  have hX : Ext w2 w2 := Upd.refl _ _
  have H0 := H
  refine anyH (fun _ => fld gok rfl rfl rfl rfl ⟨rfl, rfl⟩) ?_
  refine anyH (fun _ => fld gok rfl rfl rfl rfl ⟨rfl, rfl⟩) ?_
  refine anyH (fun _ => fld gok rfl rfl rfl rfl ⟨rfl, rfl⟩) ?_
  refine load1X (H.bx 1 rfl (j := 0) rfl) ?_
  refine loadNX [(r__1_0h).v] rfl (H.bxs 1 rfl 1 rfl) ?_
  refine loadNX [(r__2_0h).v] rfl (H.bxs 1 rfl 2 rfl) ?_
  obtain ⟨y0, e, f3⟩ := bindS f2; clear f2
  obtain ⟨y0_0, rfl⟩ : ∃ z, z = y0 := ⟨_, rfl⟩
  have i0 := e; clear e
  refine callFx (spec_tmMirror_c r__1_0 r__1_0h y0_0 i0) H ⟨Vw.sh 2 rfl, trivial⟩ ?_; clear H i0
  rintro _ _ w4 ⟨h0, rfl, rfl⟩ hx H
  replace hX := hX.trans0 hx; clear hx
  refine hold hX ?_
  obtain ⟨y2, e, f4⟩ := bindS f3; clear f3
  obtain ⟨y2_0, rfl⟩ : ∃ z, z = y2 := ⟨_, rfl⟩
  have i1 := e; clear e
  refine callFx (spec_tmMirror_c r__2_0 r__2_0h y2_0 i1) H ⟨Vw.sh 4 rfl, trivial⟩ ?_; clear H i1
  rintro _ _ w5 ⟨h1, rfl, rfl⟩ hx H
  replace hX := hX.trans0 hx; clear hx
  refine hold hX ?_
  refine anyH (fun _ => build_ (cs := #[(.string r__0), (h0).v, (h1).v]) gok rfl rfl rfl ⟨rfl, rfl⟩) ?_
  replace H := H.sel [2, 0, 1, 3, 4, 5] rfl
  refine stA gok [(.string r__0), (h0).v, (h1).v] rfl H rfl rfl rfl ?_; clear H; intro w7 H
  refine hold trivial ?_
  refine hold trivial ?_
  refine loadN [(.string r__0), (h0).v, (h1).v] rfl (fun j u hj => H.bx 0 rfl hj) ?_
  cases f4
  exact ⟨_, _, rfl, ⟨h0, h1, rfl, rfl⟩, (H.sel [2, 1] rfl).close ⟨cloE, cloE, trivial⟩⟩
 ·
  have f5 := condT f1; clear f1
  refine build_ (cs := #[(.string .empty), (.slice none 0 0), (.slice none 0 0)]) gok rfl rfl rfl ?_
  refine stA gok [(.string .empty), (.slice none 0 0), (.slice none 0 0)] rfl H rfl rfl rfl ?_; clear H; intro w8 H
  refine loadN [(.string .empty), (.slice none 0 0), (.slice none 0 0)] rfl (fun j u hj => H.bx 0 rfl hj) ?_
  replace H := H.nil (α := Int × Int × ByteArray)
  replace H := H.nil (α := Int × Int × ByteArray)
  cases f5
  exact ⟨_, _, rfl, ⟨nilH, nilH, rfl, rfl⟩, (H.sel [1, 0] rfl).close ⟨cloE, cloE, trivial⟩⟩

theorem impl_within_c (n_ : Int) (low_ : Int) (high_ : Int) (y : Bool) (hF : F_impl_within n_ low_ high_ = some y) :
  ConF Tryz.prog 47 #[(.int .i64 n_), (.int .i64 low_), (.int .i64 high_)] [] [] (fun v Γ' => v = (.bool y) ∧ Γ' = []) := by
 intro w0 S0 fp0 hI hS
 have H : Cx w0 fp0 S0 w0 [] := Cx.start hI hS
 clear hI hS
 refine enterC (args := [_, _, _]) gok Tryz.func47 rfl _ rfl rfl rfl ?_
 obtain ⟨r9, f0, f1⟩ := bindS hF; clear hF
 refine cut (fun (q0 : Bool) => [(6, (.bool q0))]) (fun (q0 : Bool) w' => q0 = r9 ∧ Cx w0 fp0 S0 w' []) ?_ ?_
 ·
  obtain ⟨a0, e, f2⟩ := bindS f0; clear f0
  refine boolO e ?_; clear e
  cases a0
  ·
   have f3 := condF f2; clear f2
   exact ⟨false, ⟨rfl, trivial⟩, Option.some.inj f3, H.sel [] rfl⟩
  ·
   have f4 := condT f2; clear f2
   obtain ⟨a1, e, f5⟩ := bindS f4; clear f4
   refine boolO e ?_; clear e
   exact ⟨a1, ⟨rfl, trivial⟩, Option.some.inj f5, H.sel [] rfl⟩
 ·
  clear f0 H
  rintro T0 s7 w1 ⟨hr, (H : Cx w0 fp0 S0 w1 [])⟩
  subst hr
  cases f1
  exact ⟨_, _, rfl, ⟨rfl, rfl⟩, (H.sel [] rfl).close trivial⟩

theorem impl_wires_fit_c (w__0 : Int) (w__1 : Int) (y : Bool) (hF : F_impl_wires_fit (w__0, w__1) = some y) :
  ConF Tryz.prog 94 #[(.agg #[(.int .i64 w__0), (.int .i64 w__1)])] [] [] (fun v Γ' => v = (.bool y) ∧ Γ' = []) := by
 intro w0 S0 fp0 hI hS
 have H : Cx w0 fp0 S0 w0 [] := Cx.start hI hS
 clear hI hS
 refine enterC (args := [_]) gok Tryz.func94 rfl _ rfl rfl rfl ?_
 refine box_ H ?_; clear H; intro b2 w1 hx H
 clear hx
 obtain ⟨r0, f0, f1⟩ := bindS hF; clear hF
 refine cut (fun (q0 : Bool) => [(2, (.bool q0))]) (fun (q0 : Bool) w' => q0 = r0 ∧ Cx w0 fp0 S0 w' []) ?_ ?_
 ·
  refine fld gok rfl rfl rfl rfl ?_
  refine load1 (H.bx 0 rfl (j := 0) rfl) ?_
  obtain ⟨a0, e, f2⟩ := bindS f0; clear f0
  refine boolO e ?_; clear e
  cases a0
  ·
   have f3 := condF f2; clear f2
   exact ⟨false, ⟨rfl, trivial⟩, Option.some.inj f3, H.sel [] rfl⟩
  ·
   have f4 := condT f2; clear f2
   refine fld gok rfl rfl rfl rfl ?_
   refine load1 (H.bx 0 rfl (j := 1) rfl) ?_
   obtain ⟨a1, e, f5⟩ := bindS f4; clear f4
   refine boolO e ?_; clear e
   exact ⟨a1, ⟨rfl, trivial⟩, Option.some.inj f5, H.sel [] rfl⟩
 ·
  clear f0 H
  rintro T0 s0 w2 ⟨hr, (H : Cx w0 fp0 S0 w2 [])⟩
  subst hr
  cases f1
  exact ⟨_, _, rfl, ⟨rfl, rfl⟩, (H.sel [] rfl).close trivial⟩

theorem impl_joinWires_c (kind_ : Int) (a__0 : Int) (a__1 : Int) (b__0 : Int) (b__1 : Int) (y0_0 : Int) (y0_1 : Int) (y1 : Bool) (hF : F_impl_joinWires kind_ (a__0, a__1) (b__0, b__1) = some ((y0_0, y0_1), y1)) :
  ConF Tryz.prog 68 #[(.int .i64 kind_), (.agg #[(.int .i64 a__0), (.int .i64 a__1)]), (.agg #[(.int .i64 b__0), (.int .i64 b__1)])] [] [] (fun v Γ' => v = (.tuple #[(.agg #[(.int .i64 y0_0), (.int .i64 y0_1)]), (.bool y1)]) ∧ Γ' = []) := by
 intro w0 S0 fp0 hI hS
 have H : Cx w0 fp0 S0 w0 [] := Cx.start hI hS
 clear hI hS
 refine enterC (args := [_, _, _]) gok Tryz.func68 rfl _ rfl rfl rfl ?_
 refine box_ H ?_; clear H; intro b2 w1 hx H
 clear hx
 refine box_ H ?_; clear H; intro b5 w4 hx H
 clear hx
 refine alloc_ gok rfl H ?_; clear H; intro b8 w7 hx H
 clear hx
 refine sq ?_
 obtain ⟨a0, e, f0⟩ := bindS hF; clear hF
 refine boolO e ?_; clear e
 cases a0
 ·
  have f1 := condF f0; clear f0
  refine fld gok rfl rfl rfl rfl ?_
  refine load1 (H.bx 2 rfl (j := 0) rfl) ?_
  refine fld gok rfl rfl rfl rfl ?_
  refine load1 (H.bx 1 rfl (j := 0) rfl) ?_
  obtain ⟨a1, e, f2⟩ := bindS f1; clear f1
  refine arO e ?_; clear e
  refine fld gok rfl rfl rfl rfl ?_
  refine load1 (H.bx 2 rfl (j := 1) rfl) ?_
  refine fld gok rfl rfl rfl rfl ?_
  refine load1 (H.bx 1 rfl (j := 1) rfl) ?_
  obtain ⟨a2, e, f3⟩ := bindS f2; clear f2
  refine arO e ?_; clear e
  refine build_ (cs := #[(.int .i64 a1), (.int .i64 a2)]) gok rfl rfl rfl ?_
  refine alloc_ gok rfl H ?_; clear H; intro b0 w2 hx H
  clear hx
  refine stA gok [(.int .i64 a1), (.int .i64 a2)] rfl H rfl rfl rfl ?_; clear H; intro w3 H
  refine heldX H [3, 4] (.fst 0 (.fst 1 (.act 2 (.act 3 (.act 4 .done))))) mixed [] trivial (by kernel_rfl) ?_
  clear H; intro w5 H
  have hX : Ext w5 w5 := Upd.refl _ _
  have H0 := H
  refine loadNX [(.int .i64 a1), (.int .i64 a2)] rfl (fun j u hj => H.bx 0 rfl hj) ?_
  refine loadNX [(.int .i64 a1), (.int .i64 a2)] rfl (fun j u hj => H.bx 0 rfl hj) ?_
  obtain ⟨y0, e, f4⟩ := bindS f3; clear f3
  have i0 := e; clear e
  refine callFx (impl_wires_fit_c a1 a2 y0 i0) H trivial ?_; clear H i0
  rintro _ _ w6 ⟨rfl, rfl⟩ hx H
  replace hX := hX.trans0 hx; clear hx
  refine hold hX ?_
  replace H := H.sel [1, 0, 2, 3] rfl
  refine stA gok [(.int .i64 a1), (.int .i64 a2)] rfl H rfl rfl rfl ?_; clear H; intro w8 H
  refine hold trivial ?_
  refine hold trivial ?_
  refine loadN [(.int .i64 a1), (.int .i64 a2)] rfl (fun j u hj => H.bx 0 rfl hj) ?_
  cases f4
  exact ⟨_, _, rfl, ⟨rfl, rfl⟩, (H.sel [] rfl).close trivial⟩
 ·
  have f5 := condT f0; clear f0
  refine heldX H [10, 11, 0, 1, 2, 3, 4, 5, 6, 7, 8, 9] (.pure 0 (.pure 1 (.pure 2 (.pure 3 (.pure 4 (.pure 5 (.pure 6 (.pure 7 (.pure 8 (.pure 9 (.act 10 (.act 11 .done)))))))))))) mixed [((Addr.add ⟨b2, 0, none⟩ 0), (.int .i64 a__0)), ((Addr.add ⟨b5, 0, none⟩ 1), (.int .i64 b__1)), ((Addr.add ⟨b2, 0, none⟩ 1), (.int .i64 a__1)), ((Addr.add ⟨b5, 0, none⟩ 0), (.int .i64 b__0))] ⟨H.bx 2 rfl (j := 0) rfl, H.bx 1 rfl (j := 1) rfl, H.bx 2 rfl (j := 1) rfl, H.bx 1 rfl (j := 0) rfl, trivial⟩ (by kernel_rfl) ?_
  clear H; intro w9 H
  have hX : Ext w9 w9 := Upd.refl _ _
  have H0 := H
  refine anyH (fun _ => fld gok rfl rfl rfl rfl ⟨rfl, rfl⟩) ?_
  refine load1W 0 rfl ?_
  refine anyH (fun _ => fld gok rfl rfl rfl rfl ⟨rfl, rfl⟩) ?_
  refine load1W 1 rfl ?_
  refine anyH (fun _ => build_ (cs := #[(.int .i64 a__0), (.int .i64 b__1)]) gok rfl rfl rfl ⟨rfl, rfl⟩) ?_
  refine anyH (fun _ => fld gok rfl rfl rfl rfl ⟨rfl, rfl⟩) ?_
  refine load1W 2 rfl ?_
  refine anyH (fun _ => fld gok rfl rfl rfl rfl ⟨rfl, rfl⟩) ?_
  refine load1W 3 rfl ?_
  obtain ⟨a3, e, f6⟩ := bindS f5; clear f5
  refine boolO e ?_; clear e
  refine stA gok [(.int .i64 a__0), (.int .i64 b__1)] rfl H rfl rfl rfl ?_; clear H; intro w10 H
  refine hold ⟨H.bx 2 rfl (j := 0) rfl, H.bx 1 rfl (j := 1) rfl, H.bx 2 rfl (j := 1) rfl, H.bx 1 rfl (j := 0) rfl, trivial⟩ ?_
  refine hold ⟨H.bx 2 rfl (j := 0) rfl, H.bx 1 rfl (j := 1) rfl, H.bx 2 rfl (j := 1) rfl, H.bx 1 rfl (j := 0) rfl, trivial⟩ ?_
  refine loadN [(.int .i64 a__0), (.int .i64 b__1)] rfl (fun j u hj => H.bx 0 rfl hj) ?_
  cases f6
  exact ⟨_, _, rfl, ⟨rfl, rfl⟩, (H.sel [] rfl).close trivial⟩

theorem impl_isGenerator_c (kind_ : Int) (y : Bool) (hF : F_impl_isGenerator kind_ = some y) :
  ConF Tryz.prog 69 #[(.int .i64 kind_)] [] [] (fun v Γ' => v = (.bool y) ∧ Γ' = []) := by
 intro w0 S0 fp0 hI hS
 have H : Cx w0 fp0 S0 w0 [] := Cx.start hI hS
 clear hI hS
 refine enterC (args := [_]) gok Tryz.func69 rfl _ rfl rfl rfl ?_
 obtain ⟨y1, e, hF2⟩ := bindS hF; clear hF
 have ey1 := e; clear e
 refine callF (impl_within_c kind_ 3 14 y1 ey1) (Γi := []) H trivial ?_; clear H ey1
 rintro _ _ w3 ⟨rfl, rfl⟩ H
 cases hF2
 exact ⟨_, _, rfl, ⟨rfl, rfl⟩, (H.sel [] rfl).close trivial⟩

theorem impl_generatorWires_c (kind_ : Int) (y_0 : Int) (y_1 : Int) (hF : F_impl_generatorWires kind_ = some (y_0, y_1)) :
  ConF Tryz.prog 70 #[(.int .i64 kind_)] [] [] (fun v Γ' => v = (.agg #[(.int .i64 y_0), (.int .i64 y_1)]) ∧ Γ' = []) := by
 intro w0 S0 fp0 hI hS
 have H : Cx w0 fp0 S0 w0 [] := Cx.start hI hS
 clear hI hS
 refine enterC (args := [_]) gok Tryz.func70 rfl _ rfl rfl rfl ?_
 refine alloc_ gok rfl H ?_; clear H; intro b2 w1 hx H
 clear hx
 refine build_ (cs := #[(.int .i64 1), (.int .i64 2)]) gok rfl rfl rfl ?_
 refine build_ (cs := #[(.int .i64 1), (.int .i64 0)]) gok rfl rfl rfl ?_
 refine build_ (cs := #[(.int .i64 2), (.int .i64 1)]) gok rfl rfl rfl ?_
 refine build_ (cs := #[(.int .i64 0), (.int .i64 1)]) gok rfl rfl rfl ?_
 refine build_ (cs := #[(.int .i64 1), (.int .i64 1)]) gok rfl rfl rfl ?_
 refine build_ (cs := #[(.int .i64 1), (.int .i64 1)]) gok rfl rfl rfl ?_
 refine buildAr (cs := #[(.int .i64 1), (.int .i64 2), (.int .i64 1), (.int .i64 0), (.int .i64 2), (.int .i64 1), (.int .i64 0), (.int .i64 1), (.int .i64 1), (.int .i64 1), (.int .i64 1), (.int .i64 1)]) gok rfl rfl rfl ?_
 refine alloc_ gok rfl H ?_; clear H; intro b5 w4 hx H
 clear hx
 refine stA gok [(.int .i64 1), (.int .i64 2), (.int .i64 1), (.int .i64 0), (.int .i64 2), (.int .i64 1), (.int .i64 0), (.int .i64 1), (.int .i64 1), (.int .i64 1), (.int .i64 1), (.int .i64 1)] rfl H rfl rfl rfl ?_; clear H; intro w7 H
 refine sq ?_
 obtain ⟨a8, e, hF9⟩ := bindS hF; clear hF
 refine boolO e ?_; clear e
 cases a8
 ·
  have f0 := condF hF9; clear hF9
  obtain ⟨a0, e, f1⟩ := bindS f0; clear f0
  refine arO e ?_; clear e
  obtain ⟨a1, e, f2⟩ := bindS f1; clear f1
  obtain ⟨p0, c0, c1, c2⟩ := H.bxV (s := 2) 0 rfl [(1, 2), (1, 0), (2, 1), (0, 1), (1, 1), (1, 1)] (fun x => [.int .i64 x.1, .int .i64 x.2]) rfl (fun _ => rfl) e; clear e
  obtain ⟨a1_0, a1_1⟩ := a1
  refine idxAr gok rfl rfl c0 c1 ?_; clear c0 c1
  refine loadN [(.int .i64 a1_0), (.int .i64 a1_1)] rfl c2 ?_; clear c2
  refine alloc_ gok rfl H ?_; clear H; intro b0 w2 hx H
  clear hx
  refine stA gok [(.int .i64 a1_0), (.int .i64 a1_1)] rfl H rfl rfl rfl ?_; clear H; intro w3 H
  refine fld gok rfl rfl rfl rfl ?_
  refine load1 (H.bx 0 rfl (j := 1) rfl) ?_
  refine fld gok rfl rfl rfl rfl ?_
  refine load1 (H.bx 0 rfl (j := 0) rfl) ?_
  refine build_ (cs := #[(.int .i64 a1_1), (.int .i64 a1_0)]) gok rfl rfl rfl ?_
  replace H := H.sel [2, 0, 1] rfl
  refine stA gok [(.int .i64 a1_1), (.int .i64 a1_0)] rfl H rfl rfl rfl ?_; clear H; intro w5 H
  refine loadN [(.int .i64 a1_1), (.int .i64 a1_0)] rfl (fun j u hj => H.bx 0 rfl hj) ?_
  cases f2
  exact ⟨_, _, rfl, ⟨rfl, rfl⟩, (H.sel [] rfl).close trivial⟩
 ·
  have f3 := condT hF9; clear hF9
  obtain ⟨a2, e, f4⟩ := bindS f3; clear f3
  refine arO e ?_; clear e
  obtain ⟨a3, e, f5⟩ := bindS f4; clear f4
  obtain ⟨p1, c3, c4, c5⟩ := H.bxV (s := 2) 0 rfl [(1, 2), (1, 0), (2, 1), (0, 1), (1, 1), (1, 1)] (fun x => [.int .i64 x.1, .int .i64 x.2]) rfl (fun _ => rfl) e; clear e
  obtain ⟨a3_0, a3_1⟩ := a3
  refine idxAr gok rfl rfl c3 c4 ?_; clear c3 c4
  refine loadN [(.int .i64 a3_0), (.int .i64 a3_1)] rfl c5 ?_; clear c5
  replace H := H.sel [1, 0] rfl
  refine stA gok [(.int .i64 a3_0), (.int .i64 a3_1)] rfl H rfl rfl rfl ?_; clear H; intro w6 H
  refine loadN [(.int .i64 a3_0), (.int .i64 a3_1)] rfl (fun j u hj => H.bx 0 rfl hj) ?_
  cases f5
  exact ⟨_, _, rfl, ⟨rfl, rfl⟩, (H.sel [] rfl).close trivial⟩

theorem impl_hasValue_c (kind_ : Int) (y : Bool) (hF : F_impl_hasValue kind_ = some y) :
  ConF Tryz.prog 95 #[(.int .i64 kind_)] [] [] (fun v Γ' => v = (.bool y) ∧ Γ' = []) := by
 intro w0 S0 fp0 hI hS
 have H : Cx w0 fp0 S0 w0 [] := Cx.start hI hS
 clear hI hS
 refine enterC (args := [_]) gok Tryz.func95 rfl _ rfl rfl rfl ?_
 obtain ⟨r9, f0, f1⟩ := bindS hF; clear hF
 refine cut (fun (q0 : Bool) => [(2, (.bool q0))]) (fun (q0 : Bool) w' => q0 = r9 ∧ Cx w0 fp0 S0 w' []) ?_ ?_
 ·
  obtain ⟨a0, e, f2⟩ := bindS f0; clear f0
  refine boolO e ?_; clear e
  cases a0
  ·
   have f3 := condF f2; clear f2
   obtain ⟨a1, e, f4⟩ := bindS f3; clear f3
   refine boolO e ?_; clear e
   exact ⟨a1, ⟨rfl, trivial⟩, Option.some.inj f4, H.sel [] rfl⟩
  ·
   have f5 := condT f2; clear f2
   exact ⟨true, ⟨rfl, trivial⟩, Option.some.inj f5, H.sel [] rfl⟩
 ·
  clear f0 H
  rintro T0 s7 w1 ⟨hr, (H : Cx w0 fp0 S0 w1 [])⟩
  subst hr
  cases f1
  exact ⟨_, _, rfl, ⟨rfl, rfl⟩, (H.sel [] rfl).close trivial⟩

theorem impl_isGeneratorValue_c (kind_ : Int) (value_ : Int) (y : Bool) (hF : F_impl_isGeneratorValue kind_ value_ = some y) :
  ConF Tryz.prog 71 #[(.int .i64 kind_), (.int .i64 value_)] [] [] (fun v Γ' => v = (.bool y) ∧ Γ' = []) := by
 intro w0 S0 fp0 hI hS
 have H : Cx w0 fp0 S0 w0 [] := Cx.start hI hS
 clear hI hS
 refine enterC (args := [_, _]) gok Tryz.func71 rfl _ rfl rfl rfl ?_
 refine sq ?_
 obtain ⟨y1, e, hF2⟩ := bindS hF; clear hF
 have ey1 := e; clear e
 refine callF (impl_hasValue_c kind_ y1 ey1) (Γi := []) H trivial ?_; clear H ey1
 rintro _ _ w3 ⟨rfl, rfl⟩ H
 cases y1
 ·
  have hF4 := condF hF2; clear hF2
  obtain ⟨a5, e, hF6⟩ := bindS hF4; clear hF4
  refine boolO e ?_; clear e
  cases hF6
  exact ⟨_, _, rfl, ⟨rfl, rfl⟩, (H.sel [] rfl).close trivial⟩
 ·
  have hF7 := condT hF2; clear hF2
  obtain ⟨y8, e, hF9⟩ := bindS hF7; clear hF7
  have ey8 := e; clear e
  refine callF (impl_within_c value_ 0 96 y8 ey8) (Γi := []) H trivial ?_; clear H ey8
  rintro _ _ w1 ⟨rfl, rfl⟩ H
  cases hF9
  exact ⟨_, _, rfl, ⟨rfl, rfl⟩, (H.sel [] rfl).close trivial⟩

theorem impl_leafWires_c (n__0 : Int) (n__1 : Int) (n__2 : ByteArray) (y0_0 : Int) (y0_1 : Int) (y1 : Bool) (hF : F_impl_leafWires (n__0, n__1, n__2) = some ((y0_0, y0_1), y1)) :
  ConF Tryz.prog 46 #[(.agg #[(.int .i64 n__0), (.int .i64 n__1), (.string n__2)])] [] [] (fun v Γ' => v = (.tuple #[(.agg #[(.int .i64 y0_0), (.int .i64 y0_1)]), (.bool y1)]) ∧ Γ' = []) := by
 intro w0 S0 fp0 hI hS
 have H : Cx w0 fp0 S0 w0 [] := Cx.start hI hS
 clear hI hS
 refine enterC (args := [_]) gok Tryz.func46 rfl _ rfl rfl rfl ?_
 refine box_ H ?_; clear H; intro b2 w1 hx H
 clear hx
 refine alloc_ gok rfl H ?_; clear H; intro b5 w4 hx H
 clear hx
 refine sq ?_
 refine fld gok rfl rfl rfl rfl ?_
 refine load1 (H.bx 1 rfl (j := 2) rfl) ?_
 obtain ⟨a7, e, hF8⟩ := bindS hF; clear hF
 refine neqZ e ?_; clear e
 cases a7
 ·
  have hF9 := condF hF8; clear hF8
  refine fld gok rfl rfl rfl rfl ?_
  refine load1 (H.bx 1 rfl (j := 0) rfl) ?_
  obtain ⟨a0, e, f0⟩ := bindS hF9; clear hF9
  refine boolO e ?_; clear e
  cases a0
  ·
   have f1 := condF f0; clear f0
   refine fld gok rfl rfl rfl rfl ?_
   refine load1 (H.bx 1 rfl (j := 0) rfl) ?_
   obtain ⟨a1, e, f2⟩ := bindS f1; clear f1
   refine boolO e ?_; clear e
   cases a1
   ·
    have f3 := condF f2; clear f2
    refine fld gok rfl rfl rfl rfl ?_
    refine load1 (H.bx 1 rfl (j := 0) rfl) ?_
    obtain ⟨y0, e, f4⟩ := bindS f3; clear f3
    have i0 := e; clear e
    refine callF (impl_isGenerator_c n__0 y0 i0) (Γi := []) H trivial ?_; clear H i0
    rintro _ _ w2 ⟨rfl, rfl⟩ H
    cases y0
    ·
     have f5 := condF f4; clear f4
     refine build_ (cs := #[(.int .i64 0), (.int .i64 0)]) gok rfl rfl rfl ?_
     refine stA gok [(.int .i64 0), (.int .i64 0)] rfl H rfl rfl rfl ?_; clear H; intro w3 H
     refine loadN [(.int .i64 0), (.int .i64 0)] rfl (fun j u hj => H.bx 0 rfl hj) ?_
     cases f5
     exact ⟨_, _, rfl, ⟨rfl, rfl⟩, (H.sel [] rfl).close trivial⟩
    ·
     have f6 := condT f4; clear f4
     refine heldX H [8, 9] (.fst 0 (.fst 3 (.fst 5 (.fst 1 (.fst 4 (.fst 6 (.act 2 (.act 7 (.act 8 (.act 9 .done)))))))))) mixed [] trivial (by kernel_rfl) ?_
     clear H; intro w5 H
     have hX : Ext w5 w5 := Upd.refl _ _
     have H0 := H
     refine anyH (fun _ => fld gok rfl rfl rfl rfl ⟨rfl, rfl⟩) ?_
     refine anyH (fun _ => fld gok rfl rfl rfl rfl ⟨rfl, rfl⟩) ?_
     refine anyH (fun _ => fld gok rfl rfl rfl rfl ⟨rfl, rfl⟩) ?_
     refine load1X (H.bx 1 rfl (j := 0) rfl) ?_
     refine load1X (H.bx 1 rfl (j := 0) rfl) ?_
     refine load1X (H.bx 1 rfl (j := 1) rfl) ?_
     obtain ⟨y2, e, f7⟩ := bindS f6; clear f6
     obtain ⟨y2_0, y2_1⟩ := y2
     have i1 := e; clear e
     refine callFx (impl_generatorWires_c n__0 y2_0 y2_1 i1) H trivial ?_; clear H i1
     rintro _ _ w6 ⟨rfl, rfl⟩ hx H
     replace hX := hX.trans0 hx; clear hx
     refine hold hX ?_
     obtain ⟨y3, e, f8⟩ := bindS f7; clear f7
     have i2 := e; clear e
     refine callFx (impl_isGeneratorValue_c n__0 n__1 y3 i2) H trivial ?_; clear H i2
     rintro _ _ w7 ⟨rfl, rfl⟩ hx H
     replace hX := hX.trans0 hx; clear hx
     refine hold hX ?_
     refine stA gok [(.int .i64 y2_0), (.int .i64 y2_1)] rfl H rfl rfl rfl ?_; clear H; intro w8 H
     refine hold trivial ?_
     refine hold trivial ?_
     refine loadN [(.int .i64 y2_0), (.int .i64 y2_1)] rfl (fun j u hj => H.bx 0 rfl hj) ?_
     cases f8
     exact ⟨_, _, rfl, ⟨rfl, rfl⟩, (H.sel [] rfl).close trivial⟩
   ·
    have f9 := condT f2; clear f2
    refine heldX H [4, 5, 0, 1, 2, 3] (.pure 0 (.pure 1 (.pure 2 (.pure 3 (.act 4 (.act 5 .done)))))) mixed [((Addr.add ⟨b2, 0, none⟩ 1), (.int .i64 n__1))] ⟨H.bx 1 rfl (j := 1) rfl, trivial⟩ (by kernel_rfl) ?_
    clear H; intro w9 H
    have hX : Ext w9 w9 := Upd.refl _ _
    have H0 := H
    refine anyH (fun _ => build_ (cs := #[(.int .i64 2), (.int .i64 2)]) gok rfl rfl rfl ⟨rfl, rfl⟩) ?_
    refine anyH (fun _ => fld gok rfl rfl rfl rfl ⟨rfl, rfl⟩) ?_
    refine load1W 0 rfl ?_
    obtain ⟨a2, e, f10⟩ := bindS f9; clear f9
    refine boolO e ?_; clear e
    refine stA gok [(.int .i64 2), (.int .i64 2)] rfl H rfl rfl rfl ?_; clear H; intro w10 H
    refine hold ⟨H.bx 1 rfl (j := 1) rfl, trivial⟩ ?_
    refine hold ⟨H.bx 1 rfl (j := 1) rfl, trivial⟩ ?_
    refine loadN [(.int .i64 2), (.int .i64 2)] rfl (fun j u hj => H.bx 0 rfl hj) ?_
    cases f10
    exact ⟨_, _, rfl, ⟨rfl, rfl⟩, (H.sel [] rfl).close trivial⟩
  ·
   have f11 := condT f0; clear f0
   refine heldX H [8, 9] (.fst 0 (.fst 2 (.fst 5 (.fst 1 (.fst 3 (.fst 4 (.fst 6 (.act 7 (.act 8 (.act 9 .done)))))))))) mixed [] trivial (by kernel_rfl) ?_
   clear H; intro w11 H
   have hX : Ext w11 w11 := Upd.refl _ _
   have H0 := H
   refine anyH (fun _ => fld gok rfl rfl rfl rfl ⟨rfl, rfl⟩) ?_
   refine anyH (fun _ => fld gok rfl rfl rfl rfl ⟨rfl, rfl⟩) ?_
   refine anyH (fun _ => fld gok rfl rfl rfl rfl ⟨rfl, rfl⟩) ?_
   refine load1X (H.bx 1 rfl (j := 1) rfl) ?_
   refine load1X (H.bx 1 rfl (j := 1) rfl) ?_
   refine anyH (fun _ => build_ (cs := #[(.int .i64 n__1), (.int .i64 n__1)]) gok rfl rfl rfl ⟨rfl, rfl⟩) ?_
   refine load1X (H.bx 1 rfl (j := 1) rfl) ?_
   obtain ⟨y4, e, f12⟩ := bindS f11; clear f11
   have i3 := e; clear e
   refine callFx (impl_within_c n__1 0 12 y4 i3) H trivial ?_; clear H i3
   rintro _ _ w12 ⟨rfl, rfl⟩ hx H
   replace hX := hX.trans0 hx; clear hx
   refine hold hX ?_
   refine stA gok [(.int .i64 n__1), (.int .i64 n__1)] rfl H rfl rfl rfl ?_; clear H; intro w13 H
   refine hold trivial ?_
   refine hold trivial ?_
   refine loadN [(.int .i64 n__1), (.int .i64 n__1)] rfl (fun j u hj => H.bx 0 rfl hj) ?_
   cases f12
   exact ⟨_, _, rfl, ⟨rfl, rfl⟩, (H.sel [] rfl).close trivial⟩
 ·
  have f13 := condT hF8; clear hF8
  refine build_ (cs := #[(.int .i64 0), (.int .i64 0)]) gok rfl rfl rfl ?_
  refine stA gok [(.int .i64 0), (.int .i64 0)] rfl H rfl rfl rfl ?_; clear H; intro w14 H
  refine loadN [(.int .i64 0), (.int .i64 0)] rfl (fun j u hj => H.bx 0 rfl hj) ?_
  cases f13
  exact ⟨_, _, rfl, ⟨rfl, rfl⟩, (H.sel [] rfl).close trivial⟩

theorem impl_typed_impl_leafWires_c (nodes_ : List (Int × Int × ByteArray)) (nodes_h : Hd) (y0_0 : Int) (y0_1 : Int) (y1 : Bool) (hF : F_impl_typed_impl_leafWires nodes_ = some ((y0_0, y0_1), y1)) :
  ConF Tryz.prog 45 #[(nodes_h).v, (.func (.func 46) #[] #[])] [Es (List (Int × Int × ByteArray)) nodes_ nodes_h] [] (fun v Γ' => v = (.tuple #[(.agg #[(.int .i64 y0_0), (.int .i64 y0_1)]), (.bool y1)]) ∧ Γ' = []) := by
 intro w0 S0 fp0 hI hS
 have H : Cx w0 fp0 S0 w0 [Es (List (Int × Int × ByteArray)) nodes_ nodes_h] := Cx.start hI hS
 clear hI hS
 refine enterC (args := [_, _]) gok Tryz.func45 rfl _ rfl rfl rfl ?_
 refine alloc_ gok rfl H ?_; clear H; intro b3 w2 hx H
 clear hx
 refine sq ?_
 refine lenE (H.rs (α := List (Int × Int × ByteArray)) 1 rfl).len ?_
 obtain ⟨y5, e, hF6⟩ := bindS hF; clear hF
 have ey5 := e; clear e
 refine callF (impl_within_c ((nodes_.length : Nat) : Int) 1 400 y5 ey5) (Γi := []) H trivial ?_; clear H ey5
 rintro _ _ w7 ⟨rfl, rfl⟩ H
 obtain ⟨a8, e, hF9⟩ := bindS hF6; clear hF6
 refine boolO e ?_; clear e
 cases a8
 ·
  have f0 := condF hF9; clear hF9
  refine lit0 (α := Int × Int) gok rfl rfl H ?_; clear H; intro h0 w1 hx H
  clear hx
  refine sq ?_
  refine lenE (H.rs (α := List (Int × Int × ByteArray)) 2 rfl).len ?_
  have x0 := (H.rs (α := List (Int × Int × ByteArray)) 2 rfl).max
  obtain ⟨r0, e, f1⟩ := bindS f0; clear f0
  refine loopO _ nodes_.length (fun (k0 : Nat) (s0 : List (Int × Int)) (g0 : Hd) => [(1, (.func (.func 46) #[] #[])), (4, (.pointer (some ⟨b3, 0, none⟩))), (6, (g0).v), (20, (nodes_h).v), (21, (.int .i64 ((nodes_.length : Nat) : Int))), (22, (.int .i64 ((k0 : Nat) : Int)))]) (fun _ (s0 : List (Int × Int)) (g0 : Hd) w' => Cx w0 fp0 S0 w' [Bx b3 [(.int .i64 0), (.int .i64 0)], E (List (Int × Int)) s0 g0, Es (List (Int × Int × ByteArray)) nodes_ nodes_h]) ([] : List (Int × Int)) h0 e ⟨rfl, rfl, rfl, rfl, rfl, rfl, trivial⟩ (H.sel [1, 0, 2] rfl) ?_ ?_
  ·
   clear H e
   rintro T0 k0 s0 g0 w3 o0 hk (H : Cx w0 fp0 S0 w3 [Bx b3 [(.int .i64 0), (.int .i64 0)], E (List (Int × Int)) s0 g0, Es (List (Int × Int × ByteArray)) nodes_ nodes_h]) hrt f2
   refine boolE (z := true) (ltLen hk) ?_
   refine sq ?_
   obtain ⟨r1, f3, f4⟩ := bindS f2; clear f2
   refine cut (fun (q0 : (List (Int × Int)) × Hd) => [(1, (.func (.func 46) #[] #[])), (4, (.pointer (some ⟨b3, 0, none⟩))), (6, (q0.2).v), (20, (nodes_h).v), (21, (.int .i64 ((nodes_.length : Nat) : Int))), (22, (.int .i64 ((k0 : Nat) : Int)))]) (fun (q0 : (List (Int × Int)) × Hd) w' => .inl q0.1 = r1 ∧ Cx w0 fp0 S0 w' [Bx b3 [(.int .i64 0), (.int .i64 0)], E (List (Int × Int)) q0.1 q0.2, Es (List (Int × Int × ByteArray)) nodes_ nodes_h]) ?_ ?_
   ·
    obtain ⟨a0, e, f5⟩ := bindS f3; clear f3
    have HH := H; clear H; obtain ⟨p0, m0, g1, c0, c1, c2, c3, H⟩ := HH.el (α := Int × Int × ByteArray) 2 rfl e; clear HH
    clear e
    obtain ⟨a0_0, a0_1, a0_2⟩ := a0
    obtain ⟨_, _, _⟩ := g1
    replace H := H.sel [1, 2, 3] rfl
    refine idxE c0 c1 c2 ?_; clear c0 c1 c2
    refine loadN [(.int .i64 a0_0), (.int .i64 a0_1), (.string a0_2)] rfl c3 ?_; clear c3
    refine alloc_ gok rfl H ?_; clear H; intro b0 w4 hx H
    clear hx
    refine stA gok [(.int .i64 a0_0), (.int .i64 a0_1), (.string a0_2)] rfl H rfl rfl rfl ?_; clear H; intro w5 H
    refine sq ?_
    obtain ⟨r2, f6, f7⟩ := bindS f5; clear f5
    refine cut (fun (q1 : Bool) => [(1, (.func (.func 46) #[] #[])), (4, (.pointer (some ⟨b3, 0, none⟩))), (6, (g0).v), (8, (.pointer (some ⟨b0, 0, none⟩))), (20, (nodes_h).v), (21, (.int .i64 ((nodes_.length : Nat) : Int))), (22, (.int .i64 ((k0 : Nat) : Int))), (33, (.bool q1))]) (fun (q1 : Bool) w' => q1 = r2 ∧ Cx w0 fp0 S0 w' [Bx b3 [(.int .i64 0), (.int .i64 0)], E (List (Int × Int)) s0 g0, Bx b0 [(.int .i64 a0_0), (.int .i64 a0_1), (.string a0_2)], Es (List (Int × Int × ByteArray)) nodes_ nodes_h]) ?_ ?_
    ·
     refine fld gok rfl rfl rfl rfl ?_
     refine load1 (H.bx 0 rfl (j := 0) rfl) ?_
     obtain ⟨a1, e, f8⟩ := bindS f6; clear f6
     refine boolO e ?_; clear e
     cases a1
     ·
      have f9 := condF f8; clear f8
      exact ⟨false, ⟨rfl, rfl, rfl, rfl, rfl, rfl, rfl, rfl, trivial⟩, Option.some.inj f9, H.sel [1, 2, 0, 3] rfl⟩
     ·
      have f10 := condT f8; clear f8
      refine fld gok rfl rfl rfl rfl ?_
      refine load1 (H.bx 0 rfl (j := 0) rfl) ?_
      obtain ⟨a2, e, f11⟩ := bindS f10; clear f10
      refine boolO e ?_; clear e
      exact ⟨a2, ⟨rfl, rfl, rfl, rfl, rfl, rfl, rfl, rfl, trivial⟩, Option.some.inj f11, H.sel [1, 2, 0, 3] rfl⟩
    ·
     clear f6 H
     rintro T1 s1 w6 ⟨hr, (H : Cx w0 fp0 S0 w6 [Bx b3 [(.int .i64 0), (.int .i64 0)], E (List (Int × Int)) s0 g0, Bx b0 [(.int .i64 a0_0), (.int .i64 a0_1), (.string a0_2)], Es (List (Int × Int × ByteArray)) nodes_ nodes_h])⟩
     subst hr
     cases s1
     ·
      have f12 := condF f7; clear f7
      refine sq ?_
      obtain ⟨r3, f13, f14⟩ := bindS f12; clear f12
      refine cut (fun (q2 : Bool) => [(1, (.func (.func 46) #[] #[])), (4, (.pointer (some ⟨b3, 0, none⟩))), (6, (g0).v), (8, (.pointer (some ⟨b0, 0, none⟩))), (20, (nodes_h).v), (21, (.int .i64 ((nodes_.length : Nat) : Int))), (22, (.int .i64 ((k0 : Nat) : Int))), (59, (.bool q2))]) (fun (q2 : Bool) w' => q2 = r3 ∧ Cx w0 fp0 S0 w' [Bx b3 [(.int .i64 0), (.int .i64 0)], E (List (Int × Int)) s0 g0, Bx b0 [(.int .i64 a0_0), (.int .i64 a0_1), (.string a0_2)], Es (List (Int × Int × ByteArray)) nodes_ nodes_h]) ?_ ?_
      ·
       refine fld gok rfl rfl rfl rfl ?_
       refine load1 (H.bx 2 rfl (j := 1) rfl) ?_
       obtain ⟨a3, e, f15⟩ := bindS f13; clear f13
       refine boolO e ?_; clear e
       cases a3
       ·
        have f16 := condF f15; clear f15
        refine fld gok rfl rfl rfl rfl ?_
        refine load1 (H.bx 2 rfl (j := 2) rfl) ?_
        obtain ⟨a4, e, f17⟩ := bindS f16; clear f16
        refine neqZ e ?_; clear e
        cases a4
        ·
         have f18 := condF f17; clear f17
         refine lenE (H.ro (α := List (Int × Int)) 1 rfl).len ?_
         obtain ⟨a5, e, f19⟩ := bindS f18; clear f18
         refine boolO e ?_; clear e
         exact ⟨a5, ⟨rfl, rfl, rfl, rfl, rfl, rfl, rfl, rfl, trivial⟩, Option.some.inj f19, H.sel [0, 1, 2, 3] rfl⟩
        ·
         have f20 := condT f17; clear f17
         exact ⟨true, ⟨rfl, rfl, rfl, rfl, rfl, rfl, rfl, rfl, trivial⟩, Option.some.inj f20, H.sel [0, 1, 2, 3] rfl⟩
       ·
        have f21 := condT f15; clear f15
        exact ⟨true, ⟨rfl, rfl, rfl, rfl, rfl, rfl, rfl, rfl, trivial⟩, Option.some.inj f21, H.sel [0, 1, 2, 3] rfl⟩
      ·
       clear f13 H
       rintro T2 s2 w8 ⟨hr, (H : Cx w0 fp0 S0 w8 [Bx b3 [(.int .i64 0), (.int .i64 0)], E (List (Int × Int)) s0 g0, Bx b0 [(.int .i64 a0_0), (.int .i64 a0_1), (.string a0_2)], Es (List (Int × Int × ByteArray)) nodes_ nodes_h])⟩
       subst hr
       cases s2
       ·
        have f22 := condF f14; clear f14
        refine lenE (H.ro (α := List (Int × Int)) 1 rfl).len ?_
        obtain ⟨a6, e, f23⟩ := bindS f22; clear f22
        refine arO e ?_; clear e
        obtain ⟨r4, f24, f25⟩ := bindS f23; clear f23
        refine heldJ H [] (.fst 0 (.fst 2 (.fst 3 (.fst 4 (.fst 5 (.fst 7 (.fst 8 (.fst 9 (.fst 1 (.fst 6 (.fst 10 (.alts (.alt 11 (.fst 12 (.fst 13 (.fst 14 (.act 15 (.act 16 (.fst 17 .done)))))) (.alt 15 (.act 11 (.fst 12 (.fst 13 (.fst 14 (.act 16 (.fst 17 .done)))))) .no)))))))))))))) mixed [] trivial (by kernel_rfl) (fun (q3 : (Int × Int × Bool) × Nat) => [(1, (.func (.func 46) #[] #[])), (4, (.pointer (some ⟨b3, 0, none⟩))), (6, (g0).v), (11, (.int .i64 a6)), (12, (.pointer (some ⟨q3.2, 0, none⟩))), (13, (.bool q3.1.2.2)), (20, (nodes_h).v), (21, (.int .i64 ((nodes_.length : Nat) : Int))), (22, (.int .i64 ((k0 : Nat) : Int)))]) (fun (q3 : (Int × Int × Bool) × Nat) w' => (q3.1.1, q3.1.2.1, q3.1.2.2) = r4 ∧ Cx w0 fp0 S0 w' [Bx b3 [(.int .i64 0), (.int .i64 0)], E (List (Int × Int)) s0 g0, Bx q3.2 [(.int .i64 q3.1.1), (.int .i64 q3.1.2.1)], Es (List (Int × Int × ByteArray)) nodes_ nodes_h]) ?_ ?_
        ·
         clear H; intro w9 H
         have hX : Ext w9 w9 := Upd.refl _ _
         have H0 := H
         refine anyH (fun _ => fld gok rfl rfl rfl rfl ⟨rfl, rfl⟩) ?_
         obtain ⟨a7, e, f26⟩ := bindS f24; clear f24
         refine arO e ?_; clear e
         obtain ⟨a9, e, f27⟩ := bindS f26; clear f26
         replace H := H.sel [1, 0, 2, 3] rfl
         replace H := H.toEH (α := Int × Int)
         have HH := H; clear H; obtain ⟨p1, m1, g2, c4, c5, c6, c7, H⟩ := HH.peek e; clear HH
         clear e
         obtain ⟨a9_0, a9_1⟩ := a9
         obtain ⟨_, _⟩ := g2
         refine idxE c4 c5 c6 ?_
         obtain ⟨a10, e, f28⟩ := bindS f27; clear f27
         have HH := H; clear H; obtain ⟨p2, m2, g3, c8, c9, c10, c11, H⟩ := HH.peek e; clear HH
         clear e
         obtain ⟨a10_0, a10_1⟩ := a10
         obtain ⟨_, _⟩ := g3
         refine idxE c8 c9 c10 ?_
         refine load1X (H.bx 2 rfl (j := 0) rfl) ?_
         refine loadNX [(.int .i64 a9_0), (.int .i64 a9_1)] rfl c7 ?_; clear c7
         refine loadNX [(.int .i64 a10_0), (.int .i64 a10_1)] rfl c11 ?_; clear c11
         refine both ?_ ?_
         ·
          obtain ⟨y0, e, f29⟩ := bindS f28; clear f28
          obtain ⟨⟨y0_0_0, y0_0_1⟩, y0_1⟩ := y0
          have i0 := e; clear e
          refine callFx (impl_joinWires_c a0_0 a9_0 a9_1 a10_0 a10_1 y0_0_0 y0_0_1 y0_1 i0) H trivial ?_; clear H i0
          rintro _ _ w10 ⟨rfl, rfl⟩ hx H
          replace hX := hX.trans0 hx; clear hx
          refine hold hX ?_
          refine allocX gok rfl H ?_; clear H; intro b1 w12 hx v0 H; replace v0 := Nat.le_trans hX.size v0
          replace hX := hX.trans0 hx; clear hx
          refine hold hX ?_
          refine stAX gok [(.int .i64 y0_0_0), (.int .i64 y0_0_1)] rfl H rfl rfl rfl ?_; clear H; intro w13 hu H
          replace hX := hX.fresh hu v0; clear hu
          refine hold hX ?_
          replace H := H.sel [1, 0, 2, 3, 4] rfl
          replace H := H.ofEH
          exact ⟨((y0_0_0, y0_0_1, y0_1), b1), ⟨rfl, rfl, rfl, rfl, rfl, rfl, rfl, rfl, rfl, trivial⟩, Option.some.inj f29, H.sel [2, 0, 1, 4] rfl⟩
         ·
          refine both ?_ ?_
          ·
           obtain ⟨a11, o1, f30⟩ := bindS f28; clear f28
           refine allocX gok rfl H ?_; clear H; intro b2 w14 hx v1 H; replace v1 := Nat.le_trans hX.size v1
           replace hX := hX.trans0 hx; clear hx
           refine hold hX ?_
           have e := o1; clear o1
           obtain ⟨⟨a11_0_0, a11_0_1⟩, a11_1⟩ := a11
           have i1 := e; clear e
           refine callFx (impl_joinWires_c a0_0 a9_0 a9_1 a10_0 a10_1 a11_0_0 a11_0_1 a11_1 i1) H trivial ?_; clear H i1
           rintro _ _ w15 ⟨rfl, rfl⟩ hx H
           replace hX := hX.trans0 hx; clear hx
           refine hold hX ?_
           refine stAX gok [(.int .i64 a11_0_0), (.int .i64 a11_0_1)] rfl H rfl rfl rfl ?_; clear H; intro w16 hu H
           replace hX := hX.fresh hu v1; clear hu
           refine hold hX ?_
           replace H := H.sel [1, 0, 2, 3, 4] rfl
           replace H := H.ofEH
           exact ⟨((a11_0_0, a11_0_1, a11_1), b2), ⟨rfl, rfl, rfl, rfl, rfl, rfl, rfl, rfl, rfl, trivial⟩, Option.some.inj f30, H.sel [2, 0, 1, 4] rfl⟩
          ·
           exact trivial
        ·
         clear f24 H
         rintro T3 ⟨⟨s3_0, s3_1, s3_2⟩, g4⟩ w17 ⟨hr, (H : Cx w0 fp0 S0 w17 [Bx b3 [(.int .i64 0), (.int .i64 0)], E (List (Int × Int)) s0 g0, Bx g4 [(.int .i64 s3_0), (.int .i64 s3_1)], Es (List (Int × Int × ByteArray)) nodes_ nodes_h])⟩
         subst hr
         refine sq ?_
         obtain ⟨a12, e, f31⟩ := bindS f25; clear f25
         refine boolO e ?_; clear e
         cases a12
         ·
          have f32 := condF f31; clear f31
          refine heldX H [6, 7] (.fst 0 (.fst 1 (.fst 2 (.fst 3 (.fst 4 (.act 5 (.act 6 (.act 7 .done)))))))) mixed [] trivial (by kernel_rfl) ?_
          clear H; intro w18 H
          have hX : Ext w18 w18 := Upd.refl _ _
          have H0 := H
          obtain ⟨a13, e, f33⟩ := bindS f32; clear f32
          refine arO e ?_; clear e
          obtain ⟨a14, e, f34⟩ := bindS f33; clear f33
          replace H := H.sel [1, 0, 2, 3] rfl
          refine slOX (α := Int × Int) gok rfl rfl H e rfl rfl ?_; clear e; intro h1 HH; clear H; have H := HH; clear HH
          refine loadNX [(.int .i64 s3_0), (.int .i64 s3_1)] rfl (fun j u hj => H.bx 2 rfl hj) ?_
          replace H := H.sc (α := Int) s3_1
          replace H := H.sc (α := Int) s3_0
          replace H := H.join (α := Int) (β := Int)
          refine lit1 (α := Int × Int) (g := ((), ())) gok rfl rfl rfl rfl rfl H ?_; clear H; intro h2 w19 hx H
          replace hX := hX.trans0 hx; clear hx
          refine hold hX ?_
          obtain ⟨a15, e, f35⟩ := bindS f34; clear f34
          replace H := H.sel [1, 0, 2, 3, 4] rfl
          refine append_ (α := Int × Int) gok rfl rfl rfl rfl H e ?_; clear e H; intro h3 w20 H
          refine hold trivial ?_
          refine hold trivial ?_
          exact ⟨(a15, h3), ⟨rfl, rfl, rfl, rfl, rfl, rfl, trivial⟩, Option.some.inj f35, H.sel [1, 0, 3] rfl⟩
         ·
          have f36 := condT f31; clear f31
          refine build_ (cs := #[(.int .i64 0), (.int .i64 0)]) gok rfl rfl rfl ?_
          refine stA gok [(.int .i64 0), (.int .i64 0)] rfl H rfl rfl rfl ?_; clear H; intro w21 H
          have hs := Option.some.inj f36; subst hs; clear f36
          have f37 : some _ = some _ := f4; clear f4
          have hs := Option.some.inj f37; subst hs; clear f37
          have hr := hrt _ rfl; subst hr
          have f38 : some _ = some _ := f1
          refine loadN [(.int .i64 0), (.int .i64 0)] rfl (fun j u hj => H.bx 0 rfl hj) ?_
          cases f38
          exact ⟨_, _, rfl, ⟨rfl, rfl⟩, (H.sel [] rfl).close trivial⟩
       ·
        have f39 := condT f14; clear f14
        refine build_ (cs := #[(.int .i64 0), (.int .i64 0)]) gok rfl rfl rfl ?_
        refine stA gok [(.int .i64 0), (.int .i64 0)] rfl H rfl rfl rfl ?_; clear H; intro w22 H
        have hs := Option.some.inj f39; subst hs; clear f39
        have f40 : some _ = some _ := f4; clear f4
        have hs := Option.some.inj f40; subst hs; clear f40
        have hr := hrt _ rfl; subst hr
        have f41 : some _ = some _ := f1
        refine loadN [(.int .i64 0), (.int .i64 0)] rfl (fun j u hj => H.bx 0 rfl hj) ?_
        cases f41
        exact ⟨_, _, rfl, ⟨rfl, rfl⟩, (H.sel [] rfl).close trivial⟩
     ·
      have f42 := condT f7; clear f7
      refine loadN [(.int .i64 a0_0), (.int .i64 a0_1), (.string a0_2)] rfl (fun j u hj => H.bx 2 rfl hj) ?_
      obtain ⟨y2, e, f43⟩ := bindS f42; clear f42
      obtain ⟨⟨y2_0_0, y2_0_1⟩, y2_1⟩ := y2
      have i2 := e; clear e
      refine callF (impl_leafWires_c a0_0 a0_1 a0_2 y2_0_0 y2_0_1 y2_1 i2) (Γi := []) H trivial ?_; clear H i2
      rintro _ _ w23 ⟨rfl, rfl⟩ H
      refine alloc_ gok rfl H ?_; clear H; intro b4 w24 hx H
      clear hx
      refine stA gok [(.int .i64 y2_0_0), (.int .i64 y2_0_1)] rfl H rfl rfl rfl ?_; clear H; intro w25 H
      refine sq ?_
      obtain ⟨a16, e, f44⟩ := bindS f43; clear f43
      refine boolO e ?_; clear e
      cases a16
      ·
       have f45 := condF f44; clear f44
       refine loadN [(.int .i64 y2_0_0), (.int .i64 y2_0_1)] rfl (fun j u hj => H.bx 0 rfl hj) ?_
       replace H := H.sc (α := Int) y2_0_1
       replace H := H.sc (α := Int) y2_0_0
       replace H := H.join (α := Int) (β := Int)
       refine lit1 (α := Int × Int) (g := ((), ())) gok rfl rfl rfl rfl rfl H ?_; clear H; intro h4 w26 hx H
       clear hx
       obtain ⟨a17, e, f46⟩ := bindS f45; clear f45
       replace H := H.sel [3, 0, 1, 2, 4, 5] rfl
       refine append_ (α := Int × Int) gok rfl rfl rfl rfl H e ?_; clear e H; intro h5 w27 H
       exact ⟨(a17, h5), ⟨rfl, rfl, rfl, rfl, rfl, rfl, trivial⟩, Option.some.inj f46, H.sel [2, 0, 4] rfl⟩
      ·
       have f47 := condT f44; clear f44
       refine build_ (cs := #[(.int .i64 0), (.int .i64 0)]) gok rfl rfl rfl ?_
       replace H := H.sel [1, 0, 2, 3, 4] rfl
       refine stA gok [(.int .i64 0), (.int .i64 0)] rfl H rfl rfl rfl ?_; clear H; intro w28 H
       have hs := Option.some.inj f47; subst hs; clear f47
       have f48 : some _ = some _ := f4; clear f4
       have hs := Option.some.inj f48; subst hs; clear f48
       have hr := hrt _ rfl; subst hr
       have f49 : some _ = some _ := f1
       refine loadN [(.int .i64 0), (.int .i64 0)] rfl (fun j u hj => H.bx 0 rfl hj) ?_
       cases f49
       exact ⟨_, _, rfl, ⟨rfl, rfl⟩, (H.sel [] rfl).close trivial⟩
   ·
    clear f3 H
    rintro T4 ⟨s4, g5⟩ w29 ⟨hr, (H : Cx w0 fp0 S0 w29 [Bx b3 [(.int .i64 0), (.int .i64 0)], E (List (Int × Int)) s4 g5, Es (List (Int × Int × ByteArray)) nodes_ nodes_h])⟩
    subst hr
    refine arK hk x0 ?_
    have hs := Option.some.inj f4; subst hs; clear f4
    exact ⟨s4, g5, rfl, ⟨rfl, rfl, rfl, rfl, rfl, rfl, trivial⟩, H.sel [0, 1, 2] rfl⟩
  ·
   clear H e
   rintro T5 s5 g6 w30 hr (H : Cx w0 fp0 S0 w30 [Bx b3 [(.int .i64 0), (.int .i64 0)], E (List (Int × Int)) s5 g6, Es (List (Int × Int × ByteArray)) nodes_ nodes_h])
   subst hr
   refine boolE (z := false) geLen ?_
   refine sq ?_
   obtain ⟨a18, e, f50⟩ := bindS f1; clear f1
   replace H := H.sel [1, 0, 2] rfl
   replace H := H.toEH (α := Int × Int)
   have HH := H; clear H; obtain ⟨p3, m3, g7, c12, c13, c14, c15, H⟩ := HH.peek e; clear HH
   clear e
   obtain ⟨a18_0, a18_1⟩ := a18
   obtain ⟨_, _⟩ := g7
   refine idxE c12 c13 c14 ?_
   refine loadN [(.int .i64 a18_0), (.int .i64 a18_1)] rfl c15 ?_; clear c15
   refine lenE (H.rohd (α := Int × Int) 0 rfl).len ?_
   obtain ⟨a19, e, f51⟩ := bindS f50; clear f50
   refine boolO e ?_; clear e
   replace H := H.sel [1, 0, 2] rfl
   refine stA gok [(.int .i64 a18_0), (.int .i64 a18_1)] rfl H rfl rfl rfl ?_; clear H; intro w31 H
   replace H := H.sel [1, 0, 2] rfl
   replace H := H.ofEH
   refine loadN [(.int .i64 a18_0), (.int .i64 a18_1)] rfl (fun j u hj => H.bx 1 rfl hj) ?_
   cases f51
   exact ⟨_, _, rfl, ⟨rfl, rfl⟩, (H.sel [] rfl).close trivial⟩
 ·
  have f52 := condT hF9; clear hF9
  refine build_ (cs := #[(.int .i64 0), (.int .i64 0)]) gok rfl rfl rfl ?_
  refine stA gok [(.int .i64 0), (.int .i64 0)] rfl H rfl rfl rfl ?_; clear H; intro w32 H
  refine loadN [(.int .i64 0), (.int .i64 0)] rfl (fun j u hj => H.bx 0 rfl hj) ?_
  cases f52
  exact ⟨_, _, rfl, ⟨rfl, rfl⟩, (H.sel [] rfl).close trivial⟩

theorem impl_Term_wires_c (t__0 : List (Int × Int × ByteArray)) (t__0h : Hd) (y0_0 : Int) (y0_1 : Int) (y1 : Bool) (hF : F_impl_Term_wires t__0 = some ((y0_0, y0_1), y1)) :
  ConF Tryz.prog 29 #[(.agg #[(t__0h).v])] [Es (List (Int × Int × ByteArray)) t__0 t__0h] [] (fun v Γ' => v = (.tuple #[(.agg #[(.int .i64 y0_0), (.int .i64 y0_1)]), (.bool y1)]) ∧ Γ' = []) := by
 intro w0 S0 fp0 hI hS
 have H : Cx w0 fp0 S0 w0 [Es (List (Int × Int × ByteArray)) t__0 t__0h] := Cx.start hI hS
 clear hI hS
 refine enterC (args := [_]) gok Tryz.func29 rfl _ rfl rfl rfl ?_
 refine box_ H ?_; clear H; intro b3 w2 hx H
 clear hx
 refine alloc_ gok rfl H ?_; clear H; intro b6 w5 hx H
 clear hx
 refine fld gok rfl rfl rfl rfl ?_
 refine load1 (H.bx 1 rfl (j := 0) rfl) ?_
 obtain ⟨y8, e, hF9⟩ := bindS hF; clear hF
 obtain ⟨⟨y8_0_0, y8_0_1⟩, y8_1⟩ := y8
 have ey8 := e; clear e
 refine callF (impl_typed_impl_leafWires_c t__0 t__0h y8_0_0 y8_0_1 y8_1 ey8) (Γi := []) H ⟨Vw.sh 2 rfl, trivial⟩ ?_; clear H ey8
 rintro _ _ w1 ⟨rfl, rfl⟩ H
 refine stA gok [(.int .i64 y8_0_0), (.int .i64 y8_0_1)] rfl H rfl rfl rfl ?_; clear H; intro w3 H
 refine loadN [(.int .i64 y8_0_0), (.int .i64 y8_0_1)] rfl (fun j u hj => H.bx 0 rfl hj) ?_
 cases hF9
 exact ⟨_, _, rfl, ⟨rfl, rfl⟩, (H.sel [] rfl).close trivial⟩

theorem impl_isLower_c (b_ : Int) (y : Bool) (hF : F_impl_isLower b_ = some y) :
  ConF Tryz.prog 48 #[(.int .u8 b_)] [] [] (fun v Γ' => v = (.bool y) ∧ Γ' = []) := by
 intro w0 S0 fp0 hI hS
 have H : Cx w0 fp0 S0 w0 [] := Cx.start hI hS
 clear hI hS
 refine enterC (args := [_]) gok Tryz.func48 rfl _ rfl rfl rfl ?_
 obtain ⟨r9, f0, f1⟩ := bindS hF; clear hF
 refine cut (fun (q0 : Bool) => [(2, (.bool q0))]) (fun (q0 : Bool) w' => q0 = r9 ∧ Cx w0 fp0 S0 w' []) ?_ ?_
 ·
  obtain ⟨a0, e, f2⟩ := bindS f0; clear f0
  refine geqY e ?_; clear e
  cases a0
  ·
   have f3 := condF f2; clear f2
   exact ⟨false, ⟨rfl, trivial⟩, Option.some.inj f3, H.sel [] rfl⟩
  ·
   have f4 := condT f2; clear f2
   obtain ⟨a1, e, f5⟩ := bindS f4; clear f4
   refine leqY e ?_; clear e
   exact ⟨a1, ⟨rfl, trivial⟩, Option.some.inj f5, H.sel [] rfl⟩
 ·
  clear f0 H
  rintro T0 s7 w1 ⟨hr, (H : Cx w0 fp0 S0 w1 [])⟩
  subst hr
  cases f1
  exact ⟨_, _, rfl, ⟨rfl, rfl⟩, (H.sel [] rfl).close trivial⟩

theorem impl_kindWords_c  (y : List ByteArray) (hF : F_impl_kindWords = some y) :
  ConF Tryz.prog 72 #[] [] [] (fun v Γ' => ∃ z0 : Hd, v = (z0).v ∧ Γ' = [E (List ByteArray) y z0]) := by
 intro w0 S0 fp0 hI hS
 have H : Cx w0 fp0 S0 w0 [] := Cx.start hI hS
 clear hI hS
 refine enterC (args := []) gok Tryz.func72 rfl _ rfl rfl rfl ?_
 replace H := H.sc (α := ByteArray) ⟨#[99, 111, 100, 101, 108, 97, 121]⟩
 replace H := H.sc (α := ByteArray) ⟨#[99, 111, 115, 99, 97, 108, 101]⟩
 replace H := H.sc (α := ByteArray) ⟨#[99, 111, 122, 101, 114, 111]⟩
 replace H := H.sc (α := ByteArray) ⟨#[99, 111, 97, 100, 100]⟩
 replace H := H.sc (α := ByteArray) ⟨#[99, 111, 100, 105, 115, 99, 97, 114, 100]⟩
 replace H := H.sc (α := ByteArray) ⟨#[99, 111, 99, 111, 112, 121]⟩
 replace H := H.sc (α := ByteArray) ⟨#[100, 101, 108, 97, 121]⟩
 replace H := H.sc (α := ByteArray) ⟨#[115, 99, 97, 108, 101]⟩
 replace H := H.sc (α := ByteArray) ⟨#[122, 101, 114, 111]⟩
 replace H := H.sc (α := ByteArray) ⟨#[97, 100, 100]⟩
 replace H := H.sc (α := ByteArray) ⟨#[100, 105, 115, 99, 97, 114, 100]⟩
 replace H := H.sc (α := ByteArray) ⟨#[99, 111, 112, 121]⟩
 replace H := H.sc (α := ByteArray) ⟨#[115, 119, 97, 112]⟩
 replace H := H.sc (α := ByteArray) ⟨#[105, 100]⟩
 replace H := H.sc (α := ByteArray) .empty
 refine litN (α := ByteArray) (us := [(.string .empty), (.string ⟨#[105, 100]⟩), (.string ⟨#[115, 119, 97, 112]⟩), (.string ⟨#[99, 111, 112, 121]⟩), (.string ⟨#[100, 105, 115, 99, 97, 114, 100]⟩), (.string ⟨#[97, 100, 100]⟩), (.string ⟨#[122, 101, 114, 111]⟩), (.string ⟨#[115, 99, 97, 108, 101]⟩), (.string ⟨#[100, 101, 108, 97, 121]⟩), (.string ⟨#[99, 111, 99, 111, 112, 121]⟩), (.string ⟨#[99, 111, 100, 105, 115, 99, 97, 114, 100]⟩), (.string ⟨#[99, 111, 97, 100, 100]⟩), (.string ⟨#[99, 111, 122, 101, 114, 111]⟩), (.string ⟨#[99, 111, 115, 99, 97, 108, 101]⟩), (.string ⟨#[99, 111, 100, 101, 108, 97, 121]⟩)]) (xs := [.empty, ⟨#[105, 100]⟩, ⟨#[115, 119, 97, 112]⟩, ⟨#[99, 111, 112, 121]⟩, ⟨#[100, 105, 115, 99, 97, 114, 100]⟩, ⟨#[97, 100, 100]⟩, ⟨#[122, 101, 114, 111]⟩, ⟨#[115, 99, 97, 108, 101]⟩, ⟨#[100, 101, 108, 97, 121]⟩, ⟨#[99, 111, 99, 111, 112, 121]⟩, ⟨#[99, 111, 100, 105, 115, 99, 97, 114, 100]⟩, ⟨#[99, 111, 97, 100, 100]⟩, ⟨#[99, 111, 122, 101, 114, 111]⟩, ⟨#[99, 111, 115, 99, 97, 108, 101]⟩, ⟨#[99, 111, 100, 101, 108, 97, 121]⟩]) (gs := [(), (), (), (), (), (), (), (), (), (), (), (), (), (), ()]) gok rfl rfl rfl ⟨rfl, rfl, rfl, rfl, rfl, rfl, rfl, rfl, rfl, rfl, rfl, rfl, rfl, rfl, rfl, trivial⟩ rfl rfl H ?_; clear H; intro h2 w1 hx H
 clear hx
 cases hF
 exact ⟨_, _, rfl, ⟨h2, rfl, rfl⟩, (H.sel [0] rfl).close ⟨cloE, trivial⟩⟩

theorem impl_kindOf_c (word_ : ByteArray) (y : Int) (hF : F_impl_kindOf word_ = some y) :
  ConF Tryz.prog 49 #[(.string word_)] [] [] (fun v Γ' => v = (.int .i64 y) ∧ Γ' = []) := by
 intro w0 S0 fp0 hI hS
 have H : Cx w0 fp0 S0 w0 [] := Cx.start hI hS
 clear hI hS
 refine enterC (args := [_]) gok Tryz.func49 rfl _ rfl rfl rfl ?_
 refine sq ?_
 obtain ⟨y1, e, hF2⟩ := bindS hF; clear hF
 have ey1 := e; clear e
 refine callF (impl_kindWords_c y1 ey1) (Γi := []) H trivial ?_; clear H ey1
 rintro _ _ w3 ⟨h4, rfl, rfl⟩ H
 refine lenE (H.ro (α := List ByteArray) 0 rfl).len ?_
 have x0 := (H.ro (α := List ByteArray) 0 rfl).max
 obtain ⟨r0, e, f0⟩ := bindS hF2; clear hF2
 refine loopO _ y1.length (fun (k6 : Nat) (_ : Unit) (_ : Unit) => [(0, (.string word_)), (5, (h4).v), (6, (.int .i64 ((y1.length : Nat) : Int))), (7, (.int .i64 ((k6 : Nat) : Int)))]) (fun _ (_ : Unit) (_ : Unit) w' => Cx w0 fp0 S0 w' [E (List ByteArray) y1 h4]) () () e ⟨rfl, rfl, rfl, rfl, trivial⟩ (H.sel [0] rfl) ?_ ?_
 ·
  clear H e
  rintro T0 k6 _ _ w1 o0 hk (H : Cx w0 fp0 S0 w1 [E (List ByteArray) y1 h4]) hrt f1
  refine boolE (z := true) (ltLen hk) ?_
  refine sq ?_
  refine sq ?_
  obtain ⟨a0, e, f2⟩ := bindS f1; clear f1
  obtain ⟨p0, m0, c0, c1, c2, c3⟩ := (H.ro (α := List ByteArray) 0 rfl).at1 e; clear e
  refine idxE c0 c1 c2 ?_; clear c0 c1 c2
  refine load1 c3 ?_; clear c3
  obtain ⟨a1, e, f3⟩ := bindS f2; clear f2
  refine eqZ e ?_; clear e
  cases a1
  ·
   have f4 := condF f3; clear f3
   refine arK hk x0 ?_
   have hs := Option.some.inj f4; subst hs; clear f4
   exact ⟨(), (), rfl, ⟨rfl, rfl, rfl, rfl, trivial⟩, H.sel [0] rfl⟩
  ·
   have f5 := condT f3; clear f3
   have hs := Option.some.inj f5; subst hs; clear f5
   have hr := hrt _ rfl; subst hr
   have f6 : some _ = some _ := f0
   cases f6
   exact ⟨_, _, rfl, ⟨rfl, rfl⟩, (H.sel [] rfl).close trivial⟩
 ·
  clear H e
  rintro T1 _ _ w2 hr (H : Cx w0 fp0 S0 w2 [E (List ByteArray) y1 h4])
  subst hr
  refine boolE (z := false) geLen ?_
  refine sq ?_
  cases f0
  exact ⟨_, _, rfl, ⟨rfl, rfl⟩, (H.sel [] rfl).close trivial⟩

theorem impl_isDigit_c (b_ : Int) (y : Bool) (hF : F_impl_isDigit b_ = some y) :
  ConF Tryz.prog 50 #[(.int .u8 b_)] [] [] (fun v Γ' => v = (.bool y) ∧ Γ' = []) := by
 intro w0 S0 fp0 hI hS
 have H : Cx w0 fp0 S0 w0 [] := Cx.start hI hS
 clear hI hS
 refine enterC (args := [_]) gok Tryz.func50 rfl _ rfl rfl rfl ?_
 obtain ⟨r9, f0, f1⟩ := bindS hF; clear hF
 refine cut (fun (q0 : Bool) => [(2, (.bool q0))]) (fun (q0 : Bool) w' => q0 = r9 ∧ Cx w0 fp0 S0 w' []) ?_ ?_
 ·
  obtain ⟨a0, e, f2⟩ := bindS f0; clear f0
  refine geqY e ?_; clear e
  cases a0
  ·
   have f3 := condF f2; clear f2
   exact ⟨false, ⟨rfl, trivial⟩, Option.some.inj f3, H.sel [] rfl⟩
  ·
   have f4 := condT f2; clear f2
   obtain ⟨a1, e, f5⟩ := bindS f4; clear f4
   refine leqY e ?_; clear e
   exact ⟨a1, ⟨rfl, trivial⟩, Option.some.inj f5, H.sel [] rfl⟩
 ·
  clear f0 H
  rintro T0 s7 w1 ⟨hr, (H : Cx w0 fp0 S0 w1 [])⟩
  subst hr
  cases f1
  exact ⟨_, _, rfl, ⟨rfl, rfl⟩, (H.sel [] rfl).close trivial⟩

theorem impl_isName_c (s_ : ByteArray) (y : Bool) (hF : F_impl_isName s_ = some y) :
  ConF Tryz.prog 30 #[(.string s_)] [] [] (fun v Γ' => v = (.bool y) ∧ Γ' = []) := by
 intro w0 S0 fp0 hI hS
 have H : Cx w0 fp0 S0 w0 [] := Cx.start hI hS
 clear hI hS
 refine enterC (args := [_]) gok Tryz.func30 rfl _ rfl rfl rfl ?_
 refine sq ?_
 obtain ⟨r0, f0, f1⟩ := bindS hF; clear hF
 refine cut (fun (q0 : Bool) => [(0, (.string s_)), (18, (.bool q0))]) (fun (q0 : Bool) w' => q0 = r0 ∧ Cx w0 fp0 S0 w' []) ?_ ?_
 ·
  refine lenE (m := s_.size) rfl ?_
  obtain ⟨y0, e, f2⟩ := bindS f0; clear f0
  have i0 := e; clear e
  refine callF (impl_within_c ((s_.size : Nat) : Int) 1 8 y0 i0) (Γi := []) H trivial ?_; clear H i0
  rintro _ _ w1 ⟨rfl, rfl⟩ H
  obtain ⟨a0, e, f3⟩ := bindS f2; clear f2
  refine boolO e ?_; clear e
  cases a0
  ·
   have f4 := condF f3; clear f3
   obtain ⟨a1, e, f5⟩ := bindS f4; clear f4
   refine indexZ gok rfl e ?_; clear e
   obtain ⟨y1, e, f6⟩ := bindS f5; clear f5
   have i1 := e; clear e
   refine callF (impl_isLower_c a1 y1 i1) (Γi := []) H trivial ?_; clear H i1
   rintro _ _ w2 ⟨rfl, rfl⟩ H
   obtain ⟨a2, e, f7⟩ := bindS f6; clear f6
   refine boolO e ?_; clear e
   cases a2
   ·
    have f8 := condF f7; clear f7
    obtain ⟨y2, e, f9⟩ := bindS f8; clear f8
    have i2 := e; clear e
    refine callF (impl_kindOf_c s_ y2 i2) (Γi := []) H trivial ?_; clear H i2
    rintro _ _ w3 ⟨rfl, rfl⟩ H
    obtain ⟨a3, e, f10⟩ := bindS f9; clear f9
    refine boolO e ?_; clear e
    exact ⟨a3, ⟨rfl, rfl, trivial⟩, Option.some.inj f10, H.sel [] rfl⟩
   ·
    have f11 := condT f7; clear f7
    exact ⟨true, ⟨rfl, rfl, trivial⟩, Option.some.inj f11, H.sel [] rfl⟩
  ·
   have f12 := condT f3; clear f3
   exact ⟨true, ⟨rfl, rfl, trivial⟩, Option.some.inj f12, H.sel [] rfl⟩
 ·
  clear f0 H
  rintro T0 s0 w4 ⟨hr, (H : Cx w0 fp0 S0 w4 [])⟩
  subst hr
  cases s0
  ·
   have f13 := condF f1; clear f1
   refine sq ?_
   refine lenE (m := s_.size) rfl ?_
   obtain ⟨a4, hn, f14⟩ := bindS f13; clear f13
   obtain ⟨r1, e, f15⟩ := bindS f14; clear f14
   refine loopO _ (((s_.size : Nat) : Int).toNat) (fun (k0 : Nat) (_ : Unit) (_ : Unit) => [(0, (.string s_)), (20, (.int .i64 ((s_.size : Nat) : Int))), (21, (.int .i64 ((k0 : Nat) : Int)))]) (fun _ (_ : Unit) (_ : Unit) w' => Cx w0 fp0 S0 w' []) () () e ⟨rfl, rfl, rfl, trivial⟩ (H.sel [] rfl) ?_ ?_
   ·
    clear H e
    rintro T1 k0 _ _ w5 o0 hk (H : Cx w0 fp0 S0 w5 []) hrt f16
    refine boolE (z := true) (ltNat hk) ?_
    refine sq ?_
    refine sq ?_
    obtain ⟨r2, f17, f18⟩ := bindS f16; clear f16
    refine cut (fun (q1 : Bool) => [(0, (.string s_)), (20, (.int .i64 ((s_.size : Nat) : Int))), (21, (.int .i64 ((k0 : Nat) : Int))), (35, (.bool q1))]) (fun (q1 : Bool) w' => q1 = r2 ∧ Cx w0 fp0 S0 w' []) ?_ ?_
    ·
     obtain ⟨a5, e, f19⟩ := bindS f17; clear f17
     refine indexZ gok rfl e ?_; clear e
     obtain ⟨y3, e, f20⟩ := bindS f19; clear f19
     have i3 := e; clear e
     refine callF (impl_isLower_c a5 y3 i3) (Γi := []) H trivial ?_; clear H i3
     rintro _ _ w6 ⟨rfl, rfl⟩ H
     obtain ⟨a6, e, f21⟩ := bindS f20; clear f20
     refine boolO e ?_; clear e
     cases a6
     ·
      have f22 := condF f21; clear f21
      exact ⟨false, ⟨rfl, rfl, rfl, rfl, trivial⟩, Option.some.inj f22, H.sel [] rfl⟩
     ·
      have f23 := condT f21; clear f21
      obtain ⟨a7, e, f24⟩ := bindS f23; clear f23
      refine indexZ gok rfl e ?_; clear e
      obtain ⟨y4, e, f25⟩ := bindS f24; clear f24
      have i4 := e; clear e
      refine callF (impl_isDigit_c a7 y4 i4) (Γi := []) H trivial ?_; clear H i4
      rintro _ _ w7 ⟨rfl, rfl⟩ H
      obtain ⟨a8, e, f26⟩ := bindS f25; clear f25
      refine boolO e ?_; clear e
      exact ⟨a8, ⟨rfl, rfl, rfl, rfl, trivial⟩, Option.some.inj f26, H.sel [] rfl⟩
    ·
     clear f17 H
     rintro T2 s1 w8 ⟨hr, (H : Cx w0 fp0 S0 w8 [])⟩
     subst hr
     cases s1
     ·
      have f27 := condF f18; clear f18
      refine arK hk (maxI hn) ?_
      have hs := Option.some.inj f27; subst hs; clear f27
      exact ⟨(), (), rfl, ⟨rfl, rfl, rfl, trivial⟩, H.sel [] rfl⟩
     ·
      have f28 := condT f18; clear f18
      have hs := Option.some.inj f28; subst hs; clear f28
      have hr := hrt _ rfl; subst hr
      have f29 : some _ = some _ := f15
      cases f29
      exact ⟨_, _, rfl, ⟨rfl, rfl⟩, (H.sel [] rfl).close trivial⟩
   ·
    clear H e
    rintro T3 _ _ w9 hr (H : Cx w0 fp0 S0 w9 [])
    subst hr
    refine boolE (z := false) geNat ?_
    refine sq ?_
    cases f15
    exact ⟨_, _, rfl, ⟨rfl, rfl⟩, (H.sel [] rfl).close trivial⟩
  ·
   have f30 := condT f1; clear f1
   cases f30
   exact ⟨_, _, rfl, ⟨rfl, rfl⟩, (H.sel [] rfl).close trivial⟩

theorem impl_zeros_c (n_ : Int) (y : List Int) (hF : F_impl_zeros n_ = some y) :
  ConF Tryz.prog 101 #[(.int .i64 n_)] [] [] (fun v Γ' => ∃ z0 : Hd, v = (z0).v ∧ Γ' = [E (List Int) y z0]) := by
 intro w0 S0 fp0 hI hS
 have H : Cx w0 fp0 S0 w0 [] := Cx.start hI hS
 clear hI hS
 refine enterC (args := [_]) gok Tryz.func101 rfl _ rfl rfl rfl ?_
 obtain ⟨a1, e, hF2⟩ := bindS hF; clear hF
 refine make_ (α := Int) gok rfl rfl rfl rfl (makeCO_of e) H ?_; clear e H; intro h4 w3 hx H
 clear hx
 cases hF2
 exact ⟨_, _, rfl, ⟨h4, rfl, rfl⟩, (H.sel [0] rfl).close ⟨cloE, trivial⟩⟩

theorem impl_upTo_c (n_ : Int) (y : List Int) (hF : F_impl_upTo n_ = some y) :
  ConF Tryz.prog 80 #[(.int .i64 n_)] [] [] (fun v Γ' => ∃ z0 : Hd, v = (z0).v ∧ Γ' = [E (List Int) y z0]) := by
 intro w0 S0 fp0 hI hS
 have H : Cx w0 fp0 S0 w0 [] := Cx.start hI hS
 clear hI hS
 refine enterC (args := [_]) gok Tryz.func80 rfl _ rfl rfl rfl ?_
 obtain ⟨y1, e, hF2⟩ := bindS hF; clear hF
 have ey1 := e; clear e
 refine callF (impl_zeros_c n_ y1 ey1) (Γi := []) H trivial ?_; clear H ey1
 rintro _ _ w3 ⟨h4, rfl, rfl⟩ H
 refine sq ?_
 refine lenE (H.ro (α := List Int) 0 rfl).len ?_
 have x0 := (H.ro (α := List Int) 0 rfl).max
 obtain ⟨r0, e, f0⟩ := bindS hF2; clear hF2
 refine loopS _ y1.length (fun (k6 : Nat) (s0 : List Int) (_ : Unit) => [(3, (h4).v), (8, (.int .i64 ((y1.length : Nat) : Int))), (9, (.int .i64 ((k6 : Nat) : Int)))]) (fun _ (s0 : List Int) (_ : Unit) w' => Cx w0 fp0 S0 w' [E (List Int) s0 h4]) y1 () e ⟨rfl, rfl, rfl, trivial⟩ (H.sel [0] rfl) ?_ ?_
 ·
  clear H e
  rintro T0 k6 s0 _ w1 o0 hk (H : Cx w0 fp0 S0 w1 [E (List Int) s0 h4]) f1
  refine boolE (z := true) (ltLen hk) ?_
  refine sq ?_
  refine sq ?_
  obtain ⟨a0, e, f2⟩ := bindS f1; clear f1
  have i0 := e; clear e
  obtain ⟨p0, m0, c0, c1, c2⟩ := (H.ro (α := List Int) 0 rfl).setp i0
  refine idxE c0 c1 c2 ?_
  refine setS (α := Int) H c0 c1 i0 ?_; clear H c0 c1 c2 i0; intro w2 H
  refine arK hk x0 ?_
  have hs := Option.some.inj f2; subst hs; clear f2
  exact ⟨(), ⟨rfl, rfl, rfl, trivial⟩, H.sel [0] rfl⟩
 ·
  clear H e
  rintro T1 _ w4 (H : Cx w0 fp0 S0 w4 [E (List Int) r0 h4])
  refine boolE (z := false) geLen ?_
  refine sq ?_
  cases f0
  exact ⟨_, _, rfl, ⟨h4, rfl, rfl⟩, (H.sel [0] rfl).close ⟨cloE, trivial⟩⟩

theorem impl_chosen_c (v_ : List Int) (v_h : Hd) (at_ : List Int) (at_h : Hd) (y : List Int) (hF : F_impl_chosen v_ at_ = some y) :
  ConF Tryz.prog 97 #[(v_h).v, (at_h).v] [Es (List Int) v_ v_h, Es (List Int) at_ at_h] [] (fun v Γ' => ∃ z0 : Hd, v = (z0).v ∧ Γ' = [E (List Int) y z0]) := by
 intro w0 S0 fp0 hI hS
 have H : Cx w0 fp0 S0 w0 [Es (List Int) v_ v_h, Es (List Int) at_ at_h] := Cx.start hI hS
 clear hI hS
 refine enterC (args := [_, _]) gok Tryz.func97 rfl _ rfl rfl rfl ?_
 refine lenE (H.rs (α := List Int) 1 rfl).len ?_
 obtain ⟨a3, e, hF4⟩ := bindS hF; clear hF
 refine make_ (α := Int) gok rfl rfl rfl rfl e H ?_; clear e H; intro h6 w5 hx H
 clear hx
 refine sq ?_
 refine lenE (H.rs (α := List Int) 2 rfl).len ?_
 have x0 := (H.rs (α := List Int) 2 rfl).max
 obtain ⟨r0, e, f0⟩ := bindS hF4; clear hF4
 refine loopS _ at_.length (fun (k8 : Nat) (s0 : List Int) (g0 : Hd) => [(0, (v_h).v), (5, (g0).v), (11, (at_h).v), (12, (.int .i64 ((at_.length : Nat) : Int))), (13, (.int .i64 ((k8 : Nat) : Int)))]) (fun _ (s0 : List Int) (g0 : Hd) w' => Cx w0 fp0 S0 w' [Es (List Int) v_ v_h, E (List Int) s0 g0, Es (List Int) at_ at_h]) a3 h6 e ⟨rfl, rfl, rfl, rfl, rfl, trivial⟩ (H.sel [1, 0, 2] rfl) ?_ ?_
 ·
  clear H e
  rintro T0 k8 s0 g0 w1 o0 hk (H : Cx w0 fp0 S0 w1 [Es (List Int) v_ v_h, E (List Int) s0 g0, Es (List Int) at_ at_h]) f1
  refine boolE (z := true) (ltLen hk) ?_
  refine sq ?_
  refine sq ?_
  obtain ⟨a0, e, f2⟩ := bindS f1; clear f1
  obtain ⟨p0, m0, c0, c1, c2, c3⟩ := (H.rs (α := List Int) 2 rfl).at1 e; clear e
  refine idxE c0 c1 c2 ?_; clear c0 c1 c2
  refine load1 c3 ?_; clear c3
  obtain ⟨a1, e, f3⟩ := bindS f2; clear f2
  obtain ⟨p1, m1, c4, c5, c6, c7⟩ := (H.rs (α := List Int) 0 rfl).at1 e; clear e
  refine idxE c4 c5 c6 ?_; clear c4 c5 c6
  refine load1 c7 ?_; clear c7
  refine lit1S (α := Int) gok rfl rfl rfl rfl H ?_; clear H; intro h0 w2 hx H
  clear hx
  obtain ⟨a2, e, f4⟩ := bindS f3; clear f3
  replace H := H.sel [2, 0, 1, 3] rfl
  refine append_ (α := Int) gok rfl rfl rfl rfl H e ?_; clear e H; intro h1 w3 H
  refine arK hk x0 ?_
  have hs := Option.some.inj f4; subst hs; clear f4
  exact ⟨h1, ⟨rfl, rfl, rfl, rfl, rfl, trivial⟩, H.sel [1, 0, 2] rfl⟩
 ·
  clear H e
  rintro T1 g1 w4 (H : Cx w0 fp0 S0 w4 [Es (List Int) v_ v_h, E (List Int) r0 g1, Es (List Int) at_ at_h])
  refine boolE (z := false) geLen ?_
  refine sq ?_
  cases f0
  exact ⟨_, _, rfl, ⟨g1, rfl, rfl⟩, (H.sel [1] rfl).close ⟨cloE, trivial⟩⟩

theorem impl_mapped_c (list_ : List Int) (list_h : Hd) (to_ : List Int) (to_h : Hd) (y : List Int) (hF : F_impl_mapped list_ to_ = some y) :
  ConF Tryz.prog 75 #[(list_h).v, (to_h).v] [Es (List Int) list_ list_h, Es (List Int) to_ to_h] [] (fun v Γ' => ∃ z0 : Hd, v = (z0).v ∧ Γ' = [E (List Int) y z0]) := by
 intro w0 S0 fp0 hI hS
 have H : Cx w0 fp0 S0 w0 [Es (List Int) list_ list_h, Es (List Int) to_ to_h] := Cx.start hI hS
 clear hI hS
 refine enterC (args := [_, _]) gok Tryz.func75 rfl _ rfl rfl rfl ?_
 obtain ⟨y3, e, hF4⟩ := bindS hF; clear hF
 have ey3 := e; clear e
 refine callF (impl_chosen_c to_ to_h list_ list_h y3 ey3) (Γi := []) H ⟨Vw.sh 1 rfl, Vw.sh 0 rfl, trivial⟩ ?_; clear H ey3
 rintro _ _ w5 ⟨h6, rfl, rfl⟩ H
 cases hF4
 exact ⟨_, _, rfl, ⟨h6, rfl, rfl⟩, (H.sel [0] rfl).close ⟨cloE, trivial⟩⟩

theorem impl_Graph_moved_c (g__0 : Int) (g__1 : List (Int × Int × List Int × List Int)) (g__1h : Hd) (g__2 : List Int) (g__2h : Hd) (g__3 : List Int) (g__3h : Hd) (count_ : Int) (to_ : List Int) (to_h : Hd) (y_0 : Int) (y_1 : List (Int × Int × List Int × List Int)) (y_2 : List Int) (y_3 : List Int) (hF : F_impl_Graph_moved (g__0, g__1, g__2, g__3) count_ to_ = some (y_0, y_1, y_2, y_3)) :
  ConF Tryz.prog 96 #[(.agg #[(.int .i64 g__0), (g__1h).v, (g__2h).v, (g__3h).v]), (.int .i64 count_), (to_h).v] [Es (List (Int × Int × List Int × List Int)) g__1 g__1h, Es (List Int) g__2 g__2h, Es (List Int) g__3 g__3h, Es (List Int) to_ to_h] [] (fun v Γ' => ∃ z0 z1 z2 : Hd, v = (.agg #[(.int .i64 y_0), (z0).v, (z1).v, (z2).v]) ∧ Γ' = [E (List (Int × Int × List Int × List Int)) y_1 z0, E (List Int) y_2 z1, E (List Int) y_3 z2]) := by
 intro w0 S0 fp0 hI hS
 have H : Cx w0 fp0 S0 w0 [Es (List (Int × Int × List Int × List Int)) g__1 g__1h, Es (List Int) g__2 g__2h, Es (List Int) g__3 g__3h, Es (List Int) to_ to_h] := Cx.start hI hS
 clear hI hS
 refine enterC (args := [_, _, _]) gok Tryz.func96 rfl _ rfl rfl rfl ?_
 refine box_ H ?_; clear H; intro b6 w5 hx H
 clear hx
 refine alloc_ gok rfl H ?_; clear H; intro b9 w8 hx H
 clear hx
 obtain ⟨r0, f0, f1⟩ := bindS hF; clear hF
 refine heldJ H [] (.fst 0 (.fst 1 (.fst 3 (.fst 5 (.fst 7 (.fst 2 (.fst 6 (.alts (.alt 4 (.alts (.alt 8 (.fst 9 (.act 10 (.act 11 .done))) (.alt 10 (.act 8 (.fst 9 (.act 11 .done))) .no))) (.alt 10 (.act 4 (.act 8 (.fst 9 (.act 11 .done)))) .no)))))))))) mixed [] trivial (by kernel_rfl) (fun (q0 : (Int × List Int × List Int) × (Hd × Hd × Nat)) => [(2, (to_h).v), (3, (.pointer (some ⟨b6, 0, none⟩))), (6, (.pointer (some ⟨b9, 0, none⟩))), (7, (.pointer (some ⟨q0.2.2.2, 0, none⟩)))]) (fun (q0 : (Int × List Int × List Int) × (Hd × Hd × Nat)) w' => (q0.1.1, q0.1.2.1, q0.1.2.2) = r0 ∧ Cx w0 fp0 S0 w' [Es (List Int) to_ to_h, Bx b6 [(.int .i64 g__0), (g__1h).v, (g__2h).v, (g__3h).v], Es (List (Int × Int × List Int × List Int)) g__1 g__1h, Es (List Int) g__2 g__2h, Es (List Int) g__3 g__3h, Bx b9 [(.int .i64 0), (.slice none 0 0), (.slice none 0 0), (.slice none 0 0)], Bx q0.2.2.2 [(.int .i64 q0.1.1), (.slice none 0 0), (q0.2.1).v, (q0.2.2.1).v], E (List Int) q0.1.2.1 q0.2.1, E (List Int) q0.1.2.2 q0.2.2.1]) ?_ ?_
 ·
  clear H; intro w1 H
  have hX : Ext w1 w1 := Upd.refl _ _
  have H0 := H
  refine anyH (fun _ => fld gok rfl rfl rfl rfl ⟨rfl, rfl⟩) ?_
  refine anyH (fun _ => fld gok rfl rfl rfl rfl ⟨rfl, rfl⟩) ?_
  refine load1X (H.bx 1 rfl (j := 2) rfl) ?_
  refine load1X (H.bx 1 rfl (j := 3) rfl) ?_
  refine both ?_ ?_
  ·
   obtain ⟨y0, e, f2⟩ := bindS f0; clear f0
   have i0 := e; clear e
   refine callFx (impl_mapped_c g__2 g__2h to_ to_h y0 i0) H ⟨Vw.sh 3 rfl, Vw.sh 5 rfl, trivial⟩ ?_; clear H i0
   rintro _ _ w2 ⟨h0, rfl, rfl⟩ hx H
   replace hX := hX.trans0 hx; clear hx
   refine hold hX ?_
   refine both ?_ ?_
   ·
    obtain ⟨y1, e, f3⟩ := bindS f2; clear f2
    have i1 := e; clear e
    refine callFx (impl_mapped_c g__3 g__3h to_ to_h y1 i1) H ⟨Vw.sh 5 rfl, Vw.sh 6 rfl, trivial⟩ ?_; clear H i1
    rintro _ _ w3 ⟨h1, rfl, rfl⟩ hx H
    replace hX := hX.trans0 hx; clear hx
    refine hold hX ?_
    refine anyH (fun _ => build_ (cs := #[(.int .i64 count_), (.slice none 0 0), (h0).v, (h1).v]) gok rfl rfl rfl ⟨rfl, rfl⟩) ?_
    refine allocX gok rfl H ?_; clear H; intro b0 w4 hx v0 H; replace v0 := Nat.le_trans hX.size v0
    replace hX := hX.trans0 hx; clear hx
    refine hold hX ?_
    refine stAX gok [(.int .i64 count_), (.slice none 0 0), (h0).v, (h1).v] rfl H rfl rfl rfl ?_; clear H; intro w6 hu H
    replace hX := hX.fresh hu v0; clear hu
    refine hold hX ?_
    exact ⟨((count_, y0, y1), (h0, h1, b0)), ⟨rfl, rfl, rfl, rfl, trivial⟩, Option.some.inj f3, H.sel [8, 4, 5, 6, 7, 3, 0, 2, 1] rfl⟩
   ·
    refine both ?_ ?_
    ·
     obtain ⟨a0, o0, f4⟩ := bindS f2; clear f2
     refine allocX gok rfl H ?_; clear H; intro b1 w7 hx v1 H; replace v1 := Nat.le_trans hX.size v1
     replace hX := hX.trans0 hx; clear hx
     refine hold hX ?_
     have e := o0; clear o0
     have i2 := e; clear e
     refine callFx (impl_mapped_c g__3 g__3h to_ to_h a0 i2) H ⟨Vw.sh 6 rfl, Vw.sh 7 rfl, trivial⟩ ?_; clear H i2
     rintro _ _ w9 ⟨h2, rfl, rfl⟩ hx H
     replace hX := hX.trans0 hx; clear hx
     refine hold hX ?_
     refine anyH (fun _ => build_ (cs := #[(.int .i64 count_), (.slice none 0 0), (h0).v, (h2).v]) gok rfl rfl rfl ⟨rfl, rfl⟩) ?_
     replace H := H.sel [1, 0, 2, 3, 4, 5, 6, 7, 8] rfl
     refine stAX gok [(.int .i64 count_), (.slice none 0 0), (h0).v, (h2).v] rfl H rfl rfl rfl ?_; clear H; intro w10 hu H
     replace hX := hX.fresh hu v1; clear hu
     refine hold hX ?_
     exact ⟨((count_, y0, a0), (h0, h2, b1)), ⟨rfl, rfl, rfl, rfl, trivial⟩, Option.some.inj f4, H.sel [8, 4, 5, 6, 7, 3, 0, 2, 1] rfl⟩
    ·
     exact trivial
  ·
   refine both ?_ ?_
   ·
    obtain ⟨a1, o1, f5⟩ := bindS f0; clear f0
    obtain ⟨a2, o2, f6⟩ := bindS f5; clear f5
    refine allocX gok rfl H ?_; clear H; intro b2 w11 hx v2 H; replace v2 := Nat.le_trans hX.size v2
    replace hX := hX.trans0 hx; clear hx
    refine hold hX ?_
    have e := o1; clear o1
    have i3 := e; clear e
    refine callFx (impl_mapped_c g__2 g__2h to_ to_h a1 i3) H ⟨Vw.sh 4 rfl, Vw.sh 6 rfl, trivial⟩ ?_; clear H i3
    rintro _ _ w12 ⟨h3, rfl, rfl⟩ hx H
    replace hX := hX.trans0 hx; clear hx
    refine hold hX ?_
    have e := o2; clear o2
    have i4 := e; clear e
    refine callFx (impl_mapped_c g__3 g__3h to_ to_h a2 i4) H ⟨Vw.sh 6 rfl, Vw.sh 7 rfl, trivial⟩ ?_; clear H i4
    rintro _ _ w13 ⟨h4, rfl, rfl⟩ hx H
    replace hX := hX.trans0 hx; clear hx
    refine hold hX ?_
    refine anyH (fun _ => build_ (cs := #[(.int .i64 count_), (.slice none 0 0), (h3).v, (h4).v]) gok rfl rfl rfl ⟨rfl, rfl⟩) ?_
    replace H := H.sel [2, 0, 1, 3, 4, 5, 6, 7, 8] rfl
    refine stAX gok [(.int .i64 count_), (.slice none 0 0), (h3).v, (h4).v] rfl H rfl rfl rfl ?_; clear H; intro w14 hu H
    replace hX := hX.fresh hu v2; clear hu
    refine hold hX ?_
    exact ⟨((count_, a1, a2), (h3, h4, b2)), ⟨rfl, rfl, rfl, rfl, trivial⟩, Option.some.inj f6, H.sel [8, 4, 5, 6, 7, 3, 0, 2, 1] rfl⟩
   ·
    exact trivial
 ·
  clear f0 H
  rintro T0 ⟨⟨s0_0, s0_1, s0_2⟩, ⟨g0_0, g0_1, g0_2⟩⟩ w15 ⟨hr, (H : Cx w0 fp0 S0 w15 [Es (List Int) to_ to_h, Bx b6 [(.int .i64 g__0), (g__1h).v, (g__2h).v, (g__3h).v], Es (List (Int × Int × List Int × List Int)) g__1 g__1h, Es (List Int) g__2 g__2h, Es (List Int) g__3 g__3h, Bx b9 [(.int .i64 0), (.slice none 0 0), (.slice none 0 0), (.slice none 0 0)], Bx g0_2 [(.int .i64 s0_0), (.slice none 0 0), (g0_0).v, (g0_1).v], E (List Int) s0_1 g0_0, E (List Int) s0_2 g0_1])⟩
  subst hr
  refine sq ?_
  refine fld gok rfl rfl rfl rfl ?_
  refine load1 (H.bx 1 rfl (j := 1) rfl) ?_
  refine lenE (H.rs (α := List (Int × Int × List Int × List Int)) 2 rfl).len ?_
  have x0 := (H.rs (α := List (Int × Int × List Int × List Int)) 2 rfl).max
  obtain ⟨r1, e, f7⟩ := bindS f1; clear f1
  replace H := H.nil (α := Int × Int × List Int × List Int)
  refine loopS _ g__1.length (fun (k0 : Nat) (s1 : List (Int × Int × List Int × List Int)) (g1 : Hd) => [(2, (to_h).v), (6, (.pointer (some ⟨b9, 0, none⟩))), (7, (.pointer (some ⟨g0_2, 0, none⟩))), (21, (g__1h).v), (22, (.int .i64 ((g__1.length : Nat) : Int))), (23, (.int .i64 ((k0 : Nat) : Int)))]) (fun _ (s1 : List (Int × Int × List Int × List Int)) (g1 : Hd) w' => Cx w0 fp0 S0 w' [Es (List Int) to_ to_h, Bx b9 [(.int .i64 0), (.slice none 0 0), (.slice none 0 0), (.slice none 0 0)], Bx g0_2 [(.int .i64 s0_0), (g1).v, (g0_0).v, (g0_1).v], E (List (Int × Int × List Int × List Int)) s1 g1, E (List Int) s0_1 g0_0, E (List Int) s0_2 g0_1, Es (List (Int × Int × List Int × List Int)) g__1 g__1h]) [] nilH e ⟨rfl, rfl, rfl, rfl, rfl, rfl, trivial⟩ (H.sel [1, 6, 7, 0, 8, 9, 3] rfl) ?_ ?_
  ·
   clear H e
   rintro T1 k0 s1 g1 w16 o3 hk (H : Cx w0 fp0 S0 w16 [Es (List Int) to_ to_h, Bx b9 [(.int .i64 0), (.slice none 0 0), (.slice none 0 0), (.slice none 0 0)], Bx g0_2 [(.int .i64 s0_0), (g1).v, (g0_0).v, (g0_1).v], E (List (Int × Int × List Int × List Int)) s1 g1, E (List Int) s0_1 g0_0, E (List Int) s0_2 g0_1, Es (List (Int × Int × List Int × List Int)) g__1 g__1h]) f8
   refine boolE (z := true) (ltLen hk) ?_
   refine sq ?_
   refine sq ?_
   obtain ⟨a3, e, f9⟩ := bindS f8; clear f8
   have HH := H; clear H; obtain ⟨p0, m0, g2, c0, c1, c2, c3, H⟩ := HH.el (α := Int × Int × List Int × List Int) 6 rfl e; clear HH
   clear e
   obtain ⟨a3_0, a3_1, a3_2, a3_3⟩ := a3
   obtain ⟨_, _, h5, h6⟩ := g2
   replace H := H.part (β := List Int) a3_2 (h5 : Hd) 0 rfl (fun S h => (And.left (And.right (And.right h))))
   replace H := H.part (β := List Int) a3_3 (h6 : Hd) 1 rfl (fun S h => (And.right (And.right (And.right h))))
   replace H := H.sel [0, 1, 3, 4, 5, 6, 7, 8, 9] rfl
   refine idxE c0 c1 c2 ?_; clear c0 c1 c2
   refine loadN [(.int .i64 a3_0), (.int .i64 a3_1), (h5).v, (h6).v] rfl c3 ?_; clear c3
   refine alloc_ gok rfl H ?_; clear H; intro b3 w17 hx H
   clear hx
   refine stA gok [(.int .i64 a3_0), (.int .i64 a3_1), (h5).v, (h6).v] rfl H rfl rfl rfl ?_; clear H; intro w18 H
   refine heldX H [16, 18, 17] (.fst 0 (.fst 2 (.fst 4 (.fst 6 (.fst 8 (.fst 10 (.fst 12 (.fst 1 (.fst 3 (.fst 5 (.fst 7 (.fst 11 (.act 9 (.act 13 (.fst 14 (.act 15 (.act 16 (.act 17 (.act 18 .done))))))))))))))))))) mixed [] trivial (by kernel_rfl) ?_
   clear H; intro w19 H
   have hX : Ext w19 w19 := Upd.refl _ _
   have H0 := H
   refine anyH (fun _ => fld gok rfl rfl rfl rfl ⟨rfl, rfl⟩) ?_
   refine anyH (fun _ => fld gok rfl rfl rfl rfl ⟨rfl, rfl⟩) ?_
   refine anyH (fun _ => fld gok rfl rfl rfl rfl ⟨rfl, rfl⟩) ?_
   refine anyH (fun _ => fld gok rfl rfl rfl rfl ⟨rfl, rfl⟩) ?_
   refine anyH (fun _ => fld gok rfl rfl rfl rfl ⟨rfl, rfl⟩) ?_
   refine load1X (H.bx 5 rfl (j := 1) rfl) ?_
   refine load1X (H.bx 0 rfl (j := 0) rfl) ?_
   refine load1X (H.bx 0 rfl (j := 1) rfl) ?_
   refine load1X (H.bx 0 rfl (j := 2) rfl) ?_
   refine load1X (H.bx 0 rfl (j := 3) rfl) ?_
   obtain ⟨y2, e, f10⟩ := bindS f9; clear f9
   have i5 := e; clear e
   refine callFx (impl_mapped_c a3_2 h5 to_ to_h y2 i5) H ⟨Vw.sh 2 rfl, Vw.sh 3 rfl, trivial⟩ ?_; clear H i5
   rintro _ _ w20 ⟨h7, rfl, rfl⟩ hx H
   replace hX := hX.trans0 hx; clear hx
   refine hold hX ?_
   obtain ⟨y3, e, f11⟩ := bindS f10; clear f10
   have i6 := e; clear e
   refine callFx (impl_mapped_c a3_3 h6 to_ to_h y3 i6) H ⟨Vw.sh 2 rfl, Vw.sh 4 rfl, trivial⟩ ?_; clear H i6
   rintro _ _ w21 ⟨h8, rfl, rfl⟩ hx H
   replace hX := hX.trans0 hx; clear hx
   refine hold hX ?_
   refine anyH (fun _ => build_ (cs := #[(.int .i64 a3_0), (.int .i64 a3_1), (h7).v, (h8).v]) gok rfl rfl rfl ⟨rfl, rfl⟩) ?_
   replace H := H.sel [1, 0, 2, 3, 4, 5, 6, 7, 8, 9, 10, 11] rfl
   replace H := H.join (α := List Int) (β := List Int)
   replace H := H.sc (α := Int) a3_1
   replace H := H.join (α := Int) (β := List Int × List Int)
   replace H := H.sc (α := Int) a3_0
   replace H := H.join (α := Int) (β := Int × List Int × List Int)
   refine lit1 (α := Int × Int × List Int × List Int) (g := ((), (), h7, h8)) gok rfl rfl rfl rfl rfl H ?_; clear H; intro h9 w22 hx H
   replace hX := hX.trans0 hx; clear hx
   refine hold hX ?_
   obtain ⟨a4, e, f12⟩ := bindS f11; clear f11
   replace H := H.sel [7, 0, 1, 2, 3, 4, 5, 6, 8, 9, 10] rfl
   refine append_ (α := Int × Int × List Int × List Int) gok rfl rfl rfl rfl H e ?_; clear e H; intro h10 w23 H
   refine hold trivial ?_
   refine fld gok rfl rfl rfl rfl ?_
   refine hold trivial ?_
   replace H := H.sel [6, 0, 1, 2, 3, 4, 5, 7, 8, 9] rfl
   refine stB (j := 1) H rfl rfl ?_; clear H; intro w24 H
   refine hold trivial ?_
   refine arK hk x0 ?_
   have hs := Option.some.inj f12; subst hs; clear f12
   exact ⟨h10, ⟨rfl, rfl, rfl, rfl, rfl, rfl, trivial⟩, H.sel [5, 6, 0, 1, 7, 8, 9] rfl⟩
  ·
   clear H e
   rintro T2 g3 w25 (H : Cx w0 fp0 S0 w25 [Es (List Int) to_ to_h, Bx b9 [(.int .i64 0), (.slice none 0 0), (.slice none 0 0), (.slice none 0 0)], Bx g0_2 [(.int .i64 s0_0), (g3).v, (g0_0).v, (g0_1).v], E (List (Int × Int × List Int × List Int)) r1 g3, E (List Int) s0_1 g0_0, E (List Int) s0_2 g0_1, Es (List (Int × Int × List Int × List Int)) g__1 g__1h])
   refine boolE (z := false) geLen ?_
   refine sq ?_
   refine loadN [(.int .i64 s0_0), (g3).v, (g0_0).v, (g0_1).v] rfl (fun j u hj => H.bx 2 rfl hj) ?_
   replace H := H.sel [1, 0, 2, 3, 4, 5, 6] rfl
   refine stA gok [(.int .i64 s0_0), (g3).v, (g0_0).v, (g0_1).v] rfl H rfl rfl rfl ?_; clear H; intro w26 H
   refine loadN [(.int .i64 s0_0), (g3).v, (g0_0).v, (g0_1).v] rfl (fun j u hj => H.bx 0 rfl hj) ?_
   cases f7
   exact ⟨_, _, rfl, ⟨g3, g0_0, g0_1, rfl, rfl⟩, (H.sel [3, 4, 5] rfl).close ⟨cloE, cloE, cloE, trivial⟩⟩

theorem impl_from_c (first_ : Int) (n_ : Int) (y : List Int) (hF : F_impl_from first_ n_ = some y) :
  ConF Tryz.prog 76 #[(.int .i64 first_), (.int .i64 n_)] [] [] (fun v Γ' => ∃ z0 : Hd, v = (z0).v ∧ Γ' = [E (List Int) y z0]) := by
 intro w0 S0 fp0 hI hS
 have H : Cx w0 fp0 S0 w0 [] := Cx.start hI hS
 clear hI hS
 refine enterC (args := [_, _]) gok Tryz.func76 rfl _ rfl rfl rfl ?_
 obtain ⟨y1, e, hF2⟩ := bindS hF; clear hF
 have ey1 := e; clear e
 refine callF (impl_upTo_c n_ y1 ey1) (Γi := []) H trivial ?_; clear H ey1
 rintro _ _ w3 ⟨h4, rfl, rfl⟩ H
 refine sq ?_
 refine lenE (H.ro (α := List Int) 0 rfl).len ?_
 have x0 := (H.ro (α := List Int) 0 rfl).max
 obtain ⟨r0, e, f0⟩ := bindS hF2; clear hF2
 refine loopS _ y1.length (fun (k6 : Nat) (s0 : List Int) (_ : Unit) => [(0, (.int .i64 first_)), (5, (h4).v), (10, (.int .i64 ((y1.length : Nat) : Int))), (11, (.int .i64 ((k6 : Nat) : Int)))]) (fun _ (s0 : List Int) (_ : Unit) w' => Cx w0 fp0 S0 w' [E (List Int) s0 h4]) y1 () e ⟨rfl, rfl, rfl, rfl, trivial⟩ (H.sel [0] rfl) ?_ ?_
 ·
  clear H e
  rintro T0 k6 s0 _ w1 o0 hk (H : Cx w0 fp0 S0 w1 [E (List Int) s0 h4]) f1
  refine boolE (z := true) (ltLen hk) ?_
  refine sq ?_
  refine sq ?_
  obtain ⟨a0, e, f2⟩ := bindS f1; clear f1
  obtain ⟨p0, m0, c0, c1, c2, c3⟩ := (H.ro (α := List Int) 0 rfl).at1 e; clear e
  refine idxE c0 c1 c2 ?_; clear c0 c1 c2
  refine load1 c3 ?_; clear c3
  obtain ⟨a1, e, f3⟩ := bindS f2; clear f2
  refine arO e ?_; clear e
  obtain ⟨a2, e, f4⟩ := bindS f3; clear f3
  have i0 := e; clear e
  obtain ⟨p1, m1, c4, c5, c6⟩ := (H.ro (α := List Int) 0 rfl).setp i0
  refine idxE c4 c5 c6 ?_
  refine setS (α := Int) H c4 c5 i0 ?_; clear H c4 c5 c6 i0; intro w2 H
  refine arK hk x0 ?_
  have hs := Option.some.inj f4; subst hs; clear f4
  exact ⟨(), ⟨rfl, rfl, rfl, rfl, trivial⟩, H.sel [0] rfl⟩
 ·
  clear H e
  rintro T1 _ w4 (H : Cx w0 fp0 S0 w4 [E (List Int) r0 h4])
  refine boolE (z := false) geLen ?_
  refine sq ?_
  cases f0
  exact ⟨_, _, rfl, ⟨h4, rfl, rfl⟩, (H.sel [0] rfl).close ⟨cloE, trivial⟩⟩
end Go.Proofs.YteimaohaeodbkaaGreat
