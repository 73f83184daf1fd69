/-
 Contracts, printed by a program (wip/y/gen.py): each function of Go computes its partial function. Condition of each: its partial function yields a value.
-/
import Derived.Test.YtbofgnbanmbopaaGreatDoorZCall3
namespace Go.Proofs.YtbofgnbanmbopaaGreatDoor
open Go Go.Proofs.YtbofgnbanmbopaaGreatDoor.RW
set_option maxRecDepth 100000
set_option maxHeartbeats 1000000
set_option linter.unusedVariables false

theorem impl_MatrixGraph_c (p_ : Int) (m__0 : Int) (m__1 : List (List Int)) (m__1h : Hd) (y0_0 : Int) (y0_1 : List (Int × Int × List Int × List Int)) (y0_2 : List Int) (y0_3 : List Int) (y1 : Bool) (hF : F_impl_MatrixGraph p_ (m__0, m__1) = some ((y0_0, y0_1, y0_2, y0_3), y1)) :
  ConF Tryz.prog 17 #[(.int .i64 p_), (.agg #[(.int .i64 m__0), (m__1h).v])] [Es (List (List Int)) m__1 m__1h, Gl 0 [.int .i64 2, .int .i64 3, .int .i64 5, .int .i64 7]] [] (fun v Γ' => ∃ z0 z1 z2 : Hd, v = (.tuple #[(.agg #[(.int .i64 y0_0), (z0).v, (z1).v, (z2).v]), (.bool y1)]) ∧ Γ' = [E (List (Int × Int × List Int × List Int)) y0_1 z0, E (List Int) y0_2 z1, E (List Int) y0_3 z2]) := by
 intro w0 S0 fp0 hI hS
 have H : Cx w0 fp0 S0 w0 [Es (List (List Int)) m__1 m__1h, Gl 0 [.int .i64 2, .int .i64 3, .int .i64 5, .int .i64 7]] := Cx.start hI hS
 clear hI hS
 refine enterC (args := [_, _]) gok Tryz.func17 rfl _ rfl rfl rfl ?_
 refine box_ H ?_; clear H; intro b4 w3 hx H
 clear hx
 refine alloc_ gok rfl H ?_; clear H; intro b7 w6 hx H
 clear hx
 refine sq ?_
 obtain ⟨r0, f0, f1⟩ := bindS hF; clear hF
 refine cut (fun (q0 : Bool) => [(3, (.pointer (some ⟨b4, 0, none⟩))), (4, (.pointer (some ⟨b7, 0, none⟩))), (21, (.bool q0))]) (fun (q0 : Bool) w' => q0 = r0 ∧ Cx w0 fp0 S0 w' [Bx b4 [(.int .i64 m__0), (m__1h).v], Es (List (List Int)) m__1 m__1h, Bx b7 [(.int .i64 0), (.slice none 0 0), (.slice none 0 0), (.slice none 0 0)], Gl 0 [.int .i64 2, .int .i64 3, .int .i64 5, .int .i64 7]]) ?_ ?_
 ·
  refine loadN [(.int .i64 m__0), (m__1h).v] rfl (fun j u hj => H.bx 1 rfl hj) ?_
  obtain ⟨y0, e, f2⟩ := bindS f0; clear f0
  have i0 := e; clear e
  refine callF (impl_isMatrix_c p_ m__0 m__1 m__1h y0 i0) (Γi := []) H ⟨Vw.sh 2 rfl, Vw.gl 3 rfl, trivial⟩ ?_; clear H i0
  rintro _ _ w1 ⟨rfl, rfl⟩ H
  obtain ⟨a0, e, f3⟩ := bindS f2; clear f2
  refine boolO e ?_; clear e
  cases a0
  ·
   have f4 := condF f3; clear f3
   refine fld gok rfl rfl rfl rfl ?_
   refine load1 (H.bx 1 rfl (j := 1) rfl) ?_
   refine lenE (H.rs (α := List (List Int)) 2 rfl).len ?_
   obtain ⟨a1, e, f5⟩ := bindS f4; clear f4
   refine boolO e ?_; clear e
   cases a1
   ·
    have f6 := condF f5; clear f5
    refine fld gok rfl rfl rfl rfl ?_
    refine load1 (H.bx 1 rfl (j := 0) rfl) ?_
    obtain ⟨a2, e, f7⟩ := bindS f6; clear f6
    refine boolO e ?_; clear e
    exact ⟨a2, ⟨rfl, rfl, rfl, trivial⟩, Option.some.inj f7, H.sel [1, 2, 0, 3] rfl⟩
   ·
    have f8 := condT f5; clear f5
    exact ⟨true, ⟨rfl, rfl, rfl, trivial⟩, Option.some.inj f8, H.sel [1, 2, 0, 3] rfl⟩
  ·
   have f9 := condT f3; clear f3
   exact ⟨true, ⟨rfl, rfl, rfl, trivial⟩, Option.some.inj f9, H.sel [1, 2, 0, 3] rfl⟩
 ·
  clear f0 H
  rintro T0 s0 w2 ⟨hr, (H : Cx w0 fp0 S0 w2 [Bx b4 [(.int .i64 m__0), (m__1h).v], Es (List (List Int)) m__1 m__1h, Bx b7 [(.int .i64 0), (.slice none 0 0), (.slice none 0 0), (.slice none 0 0)], Gl 0 [.int .i64 2, .int .i64 3, .int .i64 5, .int .i64 7]])⟩
  subst hr
  cases s0
  ·
   have f10 := condF f1; clear f1
   refine build_ (cs := #[(.int .i64 0), (.slice none 0 0), (.slice none 0 0), (.slice none 0 0)]) gok rfl rfl rfl ?_
   refine box_ H ?_; clear H; intro b0 w4 hx H
   clear hx
   refine fld gok rfl rfl rfl rfl ?_
   refine load1 (H.bx 1 rfl (j := 1) rfl) ?_
   refine lenE (H.rs (α := List (List Int)) 2 rfl).len ?_
   obtain ⟨y2, e, f11⟩ := bindS f10; clear f10
   obtain ⟨⟨y2_0_0_0, y2_0_0_1, y2_0_0_2, y2_0_0_3⟩, y2_1⟩ := y2
   have i1 := e; clear e
   refine callF (impl_drawing_wires_c b0 0 [] (.slice none 0 0) [] (.slice none 0 0) [] (.slice none 0 0) ((m__1.length : Nat) : Int) y2_0_0_0 y2_0_0_1 y2_0_0_2 y2_0_0_3 y2_1 i1) (Γi := [Bx b0 [(.int .i64 0), (.slice none 0 0), (.slice none 0 0), (.slice none 0 0)]]) H trivial ?_; clear H i1
   rintro _ _ w5 ⟨h0, rfl, rfl⟩ H
   refine fld gok rfl rfl rfl rfl ?_
   refine fld gok rfl rfl rfl rfl ?_
   refine stB (j := 2) H rfl rfl ?_; clear H; intro w7 H
   refine heldX H [11, 15, 12, 13, 14, 0] (.pure 0 (.fst 1 (.fst 2 (.fst 3 (.fst 4 (.fst 5 (.fst 7 (.fst 9 (.fst 6 (.fst 8 (.fst 10 (.act 11 (.act 12 (.act 13 (.act 14 (.act 15 .done)))))))))))))))) mixed [] trivial (by kernel_rfl) ?_
   clear H; intro w8 H
   have hX : Ext w8 w8 := Upd.refl _ _
   have H0 := H
   refine anyH (fun _ => fld gok rfl rfl rfl rfl ⟨rfl, rfl⟩) ?_
   refine anyH (fun _ => fld gok rfl rfl rfl rfl ⟨rfl, rfl⟩) ?_
   refine anyH (fun _ => fld gok rfl rfl rfl rfl ⟨rfl, rfl⟩) ?_
   refine anyH (fun _ => fld gok rfl rfl rfl rfl ⟨rfl, rfl⟩) ?_
   refine load1X (H.bx 0 rfl (j := 2) rfl) ?_
   refine load1X (H.bx 2 rfl (j := 1) rfl) ?_
   refine load1X (H.bx 2 rfl (j := 0) rfl) ?_
   replace H := H.nil (α := Int × Int × List Int × List Int)
   replace H := H.frzE (α := Int × Int × List Int × List Int)
   obtain ⟨y3, e, f12⟩ := bindS f11; clear f11
   obtain ⟨⟨y3_0_0_0, y3_0_0_1, y3_0_0_2, y3_0_0_3⟩, y3_1⟩ := y3
   have i2 := e; clear e
   replace H := H.sel [2, 0, 1, 3, 4, 5, 6] rfl
   replace H := H.frz
   replace H := H.sel [2, 1, 0, 3, 4, 5, 6] rfl
   refine callS (impl_drawing_matrix_c b0 y2_0_0_0 [] nilH y2_1 ((h0).v) [] (.slice none 0 0) y2_1 h0 m__1 m__1h m__0 y3_0_0_0 y3_0_0_1 y3_0_0_2 y3_0_0_3 y3_1 i2) (Γi := [Bx b0 [(.int .i64 y2_0_0_0), (nilH).v, (h0).v, (.slice none 0 0)], E (List (Sh (Int × Int × List Int × List Int))) [] nilH]) H [0, 2] rfl (persC persS (persC persS persN)) ?_; clear H i2
   rintro _ _ w9 ⟨h1, h2, rfl, rfl⟩ H
   refine hold trivial ?_
   refine hold trivial ?_
   refine fld gok rfl rfl rfl rfl ?_
   refine hold trivial ?_
   refine fld gok rfl rfl rfl rfl ?_
   refine hold trivial ?_
   refine stB (j := 3) H rfl rfl ?_; clear H; intro w10 H
   refine hold trivial ?_
   obtain ⟨y4, e, f13⟩ := bindS f12; clear f12
   obtain ⟨⟨y4_0_0, y4_0_1, y4_0_2, y4_0_3⟩, y4_1⟩ := y4
   have i3 := e; clear e
   refine callF (impl_drawing_finish_c b0 y3_0_0_0 y3_0_0_1 h1 y2_1 h0 y3_1 h2 y4_0_0 y4_0_1 y4_0_2 y4_0_3 y4_1 i3) (Γi := [Bx b0 [(.int .i64 y3_0_0_0), (h1).v, (h0).v, (h2).v]]) H ⟨Vw.part (β := List (Int × Int × List Int × List Int)) (Vw.own (α := List (Sh (Int × Int × List Int × List Int))) 0 rfl) y3_0_0_1 h1 (fun S h => h), Vw.sh 2 rfl, Vw.sh 1 rfl, trivial⟩ ?_; clear H i3
   rintro _ _ w11 ⟨h3, h4, h5, rfl, rfl⟩ H
   replace H := H.sel [9, 0, 1, 2, 3, 4, 5, 6, 7, 8, 10] rfl
   refine stA gok [(.int .i64 y4_0_0), (h3).v, (h4).v, (h5).v] rfl H rfl rfl rfl ?_; clear H; intro w12 H
   refine loadN [(.int .i64 y4_0_0), (h3).v, (h4).v, (h5).v] rfl (fun j u hj => H.bx 0 rfl hj) ?_
   cases f13
   exact ⟨_, _, rfl, ⟨h3, h4, h5, rfl, rfl⟩, (H.sel [2, 3, 4] rfl).close ⟨cloE, cloE, cloE, trivial⟩⟩
  ·
   have f14 := condT f1; clear f1
   refine build_ (cs := #[(.int .i64 0), (.slice none 0 0), (.slice none 0 0), (.slice none 0 0)]) gok rfl rfl rfl ?_
   replace H := H.sel [2, 0, 1, 3] rfl
   refine stA gok [(.int .i64 0), (.slice none 0 0), (.slice none 0 0), (.slice none 0 0)] rfl H rfl rfl rfl ?_; clear H; intro w13 H
   refine loadN [(.int .i64 0), (.slice none 0 0), (.slice none 0 0), (.slice none 0 0)] rfl (fun j u hj => H.bx 0 rfl hj) ?_
   replace H := H.nil (α := Int × Int × List Int × List Int)
   replace H := H.nil (α := Int)
   replace H := H.nil (α := Int)
   cases f14
   exact ⟨_, _, rfl, ⟨nilH, nilH, nilH, rfl, rfl⟩, (H.sel [2, 1, 0] rfl).close ⟨cloE, cloE, cloE, trivial⟩⟩

theorem laws_eqIntS_c (a_ : List Int) (a_h : Hd) (b_ : List Int) (b_h : Hd) (y : Bool) (hF : F_laws_eqIntS a_ b_ = some y) :
  ConF Tryz.prog 27 #[(a_h).v, (b_h).v] [Es (List Int) a_ a_h, Es (List Int) b_ b_h] [] (fun v Γ' => v = (.bool y) ∧ Γ' = []) := by
 intro w0 S0 fp0 hI hS
 have H : Cx w0 fp0 S0 w0 [Es (List Int) a_ a_h, Es (List Int) b_ b_h] := Cx.start hI hS
 clear hI hS
 refine enterC (args := [_, _]) gok Tryz.func27 rfl _ rfl rfl rfl ?_
 refine sq ?_
 refine lenE (H.rs (α := List Int) 0 rfl).len ?_
 refine lenE (H.rs (α := List Int) 1 rfl).len ?_
 obtain ⟨a3, e, hF4⟩ := bindS hF; clear hF
 refine boolO e ?_; clear e
 cases a3
 ·
  have hF5 := condF hF4; clear hF4
  obtain ⟨r0, f0, f1⟩ := bindS hF5; clear hF5
  refine cut (fun (q0 : Unit) => []) (fun (q0 : Unit) w' => .inl () = r0 ∧ Cx w0 fp0 S0 w' []) ?_ ?_
  ·
   refine loopW _ (fun (s0 : Int) (_ : Unit) => [(0, (a_h).v), (1, (b_h).v), (5, (.int .i64 s0))]) (fun (s0 : Int) (_ : Unit) w' => Cx w0 fp0 S0 w' [Es (List Int) a_ a_h, Es (List Int) b_ b_h]) 0 () f0 ⟨rfl, rfl, rfl, trivial⟩ (H.sel [0, 1] rfl) ?_
   ·
    clear H
    rintro T0 s0 _ w1 o0 (H : Cx w0 fp0 S0 w1 [Es (List Int) a_ a_h, Es (List Int) b_ b_h]) hrt f2
    refine sq ?_
    refine lenE (H.rs (α := List Int) 0 rfl).len ?_
    obtain ⟨a0, e, f3⟩ := bindS f2; clear f2
    refine boolO e ?_; clear e
    cases a0
    ·
     have f4 := condF f3; clear f3
     have hs := Option.some.inj f4; subst hs; clear f4
     have f5 : some _ = some _ := congrArg some (hrt _ rfl).symm
     exact ⟨(), trivial, Option.some.inj f5, H.sel [] rfl⟩
    ·
     have f6 := condT f3; clear f3
     refine sq ?_
     refine heldX H [] (.fst 0 (.fst 1 (.fst 2 (.fst 4 (.fst 5 (.fst 6 (.fst 3 (.fst 7 (.fst 8 .done))))))))) mixed [] trivial (by kernel_rfl) ?_
     clear H; intro w2 H
     have hX : Ext w2 w2 := Upd.refl _ _
     have H0 := H
     obtain ⟨a1, e, f7⟩ := bindS f6; clear f6
     obtain ⟨p0, m0, c0, c1, c2, c3⟩ := (H.rs (α := List Int) 0 rfl).at1 e; clear e
     refine idxE c0 c1 c2 ?_; clear c0 c1 c2
     obtain ⟨a2, e, f8⟩ := bindS f7; clear f7
     obtain ⟨p1, m1, c4, c5, c6, c7⟩ := (H.rs (α := List Int) 1 rfl).at1 e; clear e
     refine idxE c4 c5 c6 ?_; clear c4 c5 c6
     refine load1X c3 ?_; clear c3
     refine load1X c7 ?_; clear c7
     obtain ⟨a4, e, f9⟩ := bindS f8; clear f8
     refine boolO e ?_; clear e
     cases a4
     ·
      have f10 := condF f9; clear f9
      obtain ⟨a5, e, f11⟩ := bindS f10; clear f10
      refine arO e ?_; clear e
      have hs := Option.some.inj f11; subst hs; clear f11
      exact ⟨a5, (), rfl, ⟨rfl, rfl, rfl, trivial⟩, H.sel [0, 1] rfl⟩
     ·
      have f12 := condT f9; clear f9
      have hs := Option.some.inj f12; subst hs; clear f12
      have f13 : some _ = some _ := congrArg some (hrt _ rfl).symm
      have hs := Option.some.inj f13; subst hs; clear f13
      have f14 : some _ = some _ := f1; clear f1
      cases f14
      exact ⟨_, _, rfl, ⟨rfl, rfl⟩, (H.sel [] rfl).close trivial⟩
  ·
   clear f0 H
   rintro T1 _ w3 ⟨hr, (H : Cx w0 fp0 S0 w3 [])⟩
   subst hr
   cases f1
   exact ⟨_, _, rfl, ⟨rfl, rfl⟩, (H.sel [] rfl).close trivial⟩
 ·
  have f15 := condT hF4; clear hF4
  cases f15
  exact ⟨_, _, rfl, ⟨rfl, rfl⟩, (H.sel [] rfl).close trivial⟩

theorem laws_eqEdge_c (a__0 : Int) (a__1 : Int) (a__2 : List Int) (a__2h : Hd) (a__3 : List Int) (a__3h : Hd) (b__0 : Int) (b__1 : Int) (b__2 : List Int) (b__2h : Hd) (b__3 : List Int) (b__3h : Hd) (y : Bool) (hF : F_laws_eqEdge (a__0, a__1, a__2, a__3) (b__0, b__1, b__2, b__3) = some y) :
  ConF Tryz.prog 56 #[(.agg #[(.int .i64 a__0), (.int .i64 a__1), (a__2h).v, (a__3h).v]), (.agg #[(.int .i64 b__0), (.int .i64 b__1), (b__2h).v, (b__3h).v])] [Es (List Int) a__2 a__2h, Es (List Int) a__3 a__3h, Es (List Int) b__2 b__2h, Es (List Int) b__3 b__3h] [] (fun v Γ' => v = (.bool y) ∧ Γ' = []) := by
 intro w0 S0 fp0 hI hS
 have H : Cx w0 fp0 S0 w0 [Es (List Int) a__2 a__2h, Es (List Int) a__3 a__3h, Es (List Int) b__2 b__2h, Es (List Int) b__3 b__3h] := Cx.start hI hS
 clear hI hS
 refine enterC (args := [_, _]) gok Tryz.func56 rfl _ rfl rfl rfl ?_
 refine box_ H ?_; clear H; intro b6 w5 hx H
 clear hx
 refine box_ H ?_; clear H; intro b9 w8 hx H
 clear hx
 refine sq ?_
 refine fld gok rfl rfl rfl rfl ?_
 refine load1 (H.bx 1 rfl (j := 0) rfl) ?_
 refine fld gok rfl rfl rfl rfl ?_
 refine load1 (H.bx 0 rfl (j := 0) rfl) ?_
 obtain ⟨a0, e, f0⟩ := bindS hF; clear hF
 refine boolO e ?_; clear e
 cases a0
 ·
  have f1 := condF f0; clear f0
  refine sq ?_
  refine fld gok rfl rfl rfl rfl ?_
  refine load1 (H.bx 1 rfl (j := 1) rfl) ?_
  refine fld gok rfl rfl rfl rfl ?_
  refine load1 (H.bx 0 rfl (j := 1) rfl) ?_
  obtain ⟨a1, e, f2⟩ := bindS f1; clear f1
  refine boolO e ?_; clear e
  cases a1
  ·
   have f3 := condF f2; clear f2
   refine sq ?_
   refine fld gok rfl rfl rfl rfl ?_
   refine load1 (H.bx 1 rfl (j := 2) rfl) ?_
   refine fld gok rfl rfl rfl rfl ?_
   refine load1 (H.bx 0 rfl (j := 2) rfl) ?_
   obtain ⟨y0, e, f4⟩ := bindS f3; clear f3
   have i0 := e; clear e
   refine callF (laws_eqIntS_c a__2 a__2h b__2 b__2h y0 i0) (Γi := []) H ⟨Vw.sh 2 rfl, Vw.sh 4 rfl, trivial⟩ ?_; clear H i0
   rintro _ _ w1 ⟨rfl, rfl⟩ H
   obtain ⟨a2, e, f5⟩ := bindS f4; clear f4
   refine boolO e ?_; clear e
   cases a2
   ·
    have f6 := condF f5; clear f5
    refine sq ?_
    refine fld gok rfl rfl rfl rfl ?_
    refine load1 (H.bx 1 rfl (j := 3) rfl) ?_
    refine fld gok rfl rfl rfl rfl ?_
    refine load1 (H.bx 0 rfl (j := 3) rfl) ?_
    obtain ⟨y1, e, f7⟩ := bindS f6; clear f6
    have i1 := e; clear e
    refine callF (laws_eqIntS_c a__3 a__3h b__3 b__3h y1 i1) (Γi := []) H ⟨Vw.sh 3 rfl, Vw.sh 5 rfl, trivial⟩ ?_; clear H i1
    rintro _ _ w2 ⟨rfl, rfl⟩ H
    obtain ⟨a3, e, f8⟩ := bindS f7; clear f7
    refine boolO e ?_; clear e
    cases a3
    ·
     have f9 := condF f8; clear f8
     cases f9
     exact ⟨_, _, rfl, ⟨rfl, rfl⟩, (H.sel [] rfl).close trivial⟩
    ·
     have f10 := condT f8; clear f8
     cases f10
     exact ⟨_, _, rfl, ⟨rfl, rfl⟩, (H.sel [] rfl).close trivial⟩
   ·
    have f11 := condT f5; clear f5
    cases f11
    exact ⟨_, _, rfl, ⟨rfl, rfl⟩, (H.sel [] rfl).close trivial⟩
  ·
   have f12 := condT f2; clear f2
   cases f12
   exact ⟨_, _, rfl, ⟨rfl, rfl⟩, (H.sel [] rfl).close trivial⟩
 ·
  have f13 := condT f0; clear f0
  cases f13
  exact ⟨_, _, rfl, ⟨rfl, rfl⟩, (H.sel [] rfl).close trivial⟩

theorem laws_eqEdgeS_c (a_ : List (Int × Int × List Int × List Int)) (a_h : Hd) (b_ : List (Int × Int × List Int × List Int)) (b_h : Hd) (y : Bool) (hF : F_laws_eqEdgeS a_ b_ = some y) :
  ConF Tryz.prog 26 #[(a_h).v, (b_h).v] [Es (List (Int × Int × List Int × List Int)) a_ a_h, Es (List (Int × Int × List Int × List Int)) b_ b_h] [] (fun v Γ' => v = (.bool y) ∧ Γ' = []) := by
 intro w0 S0 fp0 hI hS
 have H : Cx w0 fp0 S0 w0 [Es (List (Int × Int × List Int × List Int)) a_ a_h, Es (List (Int × Int × List Int × List Int)) b_ b_h] := Cx.start hI hS
 clear hI hS
 refine enterC (args := [_, _]) gok Tryz.func26 rfl _ rfl rfl rfl ?_
 refine sq ?_
 refine lenE (H.rs (α := List (Int × Int × List Int × List Int)) 0 rfl).len ?_
 refine lenE (H.rs (α := List (Int × Int × List Int × List Int)) 1 rfl).len ?_
 obtain ⟨a3, e, hF4⟩ := bindS hF; clear hF
 refine boolO e ?_; clear e
 cases a3
 ·
  have hF5 := condF hF4; clear hF4
  obtain ⟨r0, f0, f1⟩ := bindS hF5; clear hF5
  refine cut (fun (q0 : Unit) => []) (fun (q0 : Unit) w' => .inl () = r0 ∧ Cx w0 fp0 S0 w' []) ?_ ?_
  ·
   refine loopW _ (fun (s0 : Int) (_ : Unit) => [(0, (a_h).v), (1, (b_h).v), (5, (.int .i64 s0))]) (fun (s0 : Int) (_ : Unit) w' => Cx w0 fp0 S0 w' [Es (List (Int × Int × List Int × List Int)) a_ a_h, Es (List (Int × Int × List Int × List Int)) b_ b_h]) 0 () f0 ⟨rfl, rfl, rfl, trivial⟩ (H.sel [0, 1] rfl) ?_
   ·
    clear H
    rintro T0 s0 _ w1 o0 (H : Cx w0 fp0 S0 w1 [Es (List (Int × Int × List Int × List Int)) a_ a_h, Es (List (Int × Int × List Int × List Int)) b_ b_h]) hrt f2
    refine sq ?_
    refine lenE (H.rs (α := List (Int × Int × List Int × List Int)) 0 rfl).len ?_
    obtain ⟨a0, e, f3⟩ := bindS f2; clear f2
    refine boolO e ?_; clear e
    cases a0
    ·
     have f4 := condF f3; clear f3
     have hs := Option.some.inj f4; subst hs; clear f4
     have f5 : some _ = some _ := congrArg some (hrt _ rfl).symm
     exact ⟨(), trivial, Option.some.inj f5, H.sel [] rfl⟩
    ·
     have f6 := condT f3; clear f3
     refine sq ?_
     refine heldX H [] (.fst 0 (.fst 1 (.fst 2 (.fst 4 (.fst 5 (.fst 6 (.fst 3 (.fst 7 (.act 8 (.fst 9 .done)))))))))) mixed [] trivial (by kernel_rfl) ?_
     clear H; intro w2 H
     have hX : Ext w2 w2 := Upd.refl _ _
     have H0 := H
     obtain ⟨a1, e, f7⟩ := bindS f6; clear f6
     have HH := H; clear H; obtain ⟨p0, m0, g0, c0, c1, c2, c3, H⟩ := HH.el (α := Int × Int × List Int × List Int) 0 rfl e; clear HH
     clear e
     obtain ⟨a1_0, a1_1, a1_2, a1_3⟩ := a1
     obtain ⟨_, _, h0, h1⟩ := g0
     replace H := H.part (β := List Int) a1_2 (h0 : Hd) 0 rfl (fun S h => (And.left (And.right (And.right h))))
     replace H := H.part (β := List Int) a1_3 (h1 : Hd) 1 rfl (fun S h => (And.right (And.right (And.right h))))
     replace H := H.sel [0, 1, 3, 4] rfl
     refine idxE c0 c1 c2 ?_; clear c0 c1 c2
     obtain ⟨a2, e, f8⟩ := bindS f7; clear f7
     have HH := H; clear H; obtain ⟨p1, m1, g1, c4, c5, c6, c7, H⟩ := HH.el (α := Int × Int × List Int × List Int) 3 rfl e; clear HH
     clear e
     obtain ⟨a2_0, a2_1, a2_2, a2_3⟩ := a2
     obtain ⟨_, _, h2, h3⟩ := g1
     replace H := H.part (β := List Int) a2_2 (h2 : Hd) 0 rfl (fun S h => (And.left (And.right (And.right h))))
     replace H := H.part (β := List Int) a2_3 (h3 : Hd) 1 rfl (fun S h => (And.right (And.right (And.right h))))
     replace H := H.sel [0, 1, 3, 4, 5, 6] rfl
     refine idxE c4 c5 c6 ?_; clear c4 c5 c6
     refine loadNX [(.int .i64 a1_0), (.int .i64 a1_1), (h0).v, (h1).v] rfl c3 ?_; clear c3
     refine loadNX [(.int .i64 a2_0), (.int .i64 a2_1), (h2).v, (h3).v] rfl c7 ?_; clear c7
     obtain ⟨y0, e, f9⟩ := bindS f8; clear f8
     have i0 := e; clear e
     refine callFx (laws_eqEdge_c a1_0 a1_1 a1_2 h0 a1_3 h1 a2_0 a2_1 a2_2 h2 a2_3 h3 y0 i0) H ⟨Vw.sh 3 rfl, Vw.sh 2 rfl, Vw.sh 1 rfl, Vw.sh 0 rfl, trivial⟩ ?_; clear H i0
     rintro _ _ w3 ⟨rfl, rfl⟩ hx H
     replace hX := hX.trans0 hx; clear hx
     refine hold hX ?_
     obtain ⟨a4, e, f10⟩ := bindS f9; clear f9
     refine boolO e ?_; clear e
     cases a4
     ·
      have f11 := condF f10; clear f10
      obtain ⟨a5, e, f12⟩ := bindS f11; clear f11
      refine arO e ?_; clear e
      have hs := Option.some.inj f12; subst hs; clear f12
      exact ⟨a5, (), rfl, ⟨rfl, rfl, rfl, trivial⟩, H.sel [4, 5] rfl⟩
     ·
      have f13 := condT f10; clear f10
      have hs := Option.some.inj f13; subst hs; clear f13
      have f14 : some _ = some _ := congrArg some (hrt _ rfl).symm
      have hs := Option.some.inj f14; subst hs; clear f14
      have f15 : some _ = some _ := f1; clear f1
      cases f15
      exact ⟨_, _, rfl, ⟨rfl, rfl⟩, (H.sel [] rfl).close trivial⟩
  ·
   clear f0 H
   rintro T1 _ w4 ⟨hr, (H : Cx w0 fp0 S0 w4 [])⟩
   subst hr
   cases f1
   exact ⟨_, _, rfl, ⟨rfl, rfl⟩, (H.sel [] rfl).close trivial⟩
 ·
  have f16 := condT hF4; clear hF4
  cases f16
  exact ⟨_, _, rfl, ⟨rfl, rfl⟩, (H.sel [] rfl).close trivial⟩

theorem laws_eqGraph_c (a__0 : Int) (a__1 : List (Int × Int × List Int × List Int)) (a__1h : Hd) (a__2 : List Int) (a__2h : Hd) (a__3 : List Int) (a__3h : Hd) (b__0 : Int) (b__1 : List (Int × Int × List Int × List Int)) (b__1h : Hd) (b__2 : List Int) (b__2h : Hd) (b__3 : List Int) (b__3h : Hd) (y : Bool) (hF : F_laws_eqGraph (a__0, a__1, a__2, a__3) (b__0, b__1, b__2, b__3) = some y) :
  ConF Tryz.prog 9 #[(.agg #[(.int .i64 a__0), (a__1h).v, (a__2h).v, (a__3h).v]), (.agg #[(.int .i64 b__0), (b__1h).v, (b__2h).v, (b__3h).v])] [Es (List (Int × Int × List Int × List Int)) a__1 a__1h, Es (List Int) a__2 a__2h, Es (List Int) a__3 a__3h, Es (List (Int × Int × List Int × List Int)) b__1 b__1h, Es (List Int) b__2 b__2h, Es (List Int) b__3 b__3h] [] (fun v Γ' => v = (.bool y) ∧ Γ' = []) := by
 intro w0 S0 fp0 hI hS
 have H : Cx w0 fp0 S0 w0 [Es (List (Int × Int × List Int × List Int)) a__1 a__1h, Es (List Int) a__2 a__2h, Es (List Int) a__3 a__3h, Es (List (Int × Int × List Int × List Int)) b__1 b__1h, Es (List Int) b__2 b__2h, Es (List Int) b__3 b__3h] := Cx.start hI hS
 clear hI hS
 refine enterC (args := [_, _]) gok Tryz.func9 rfl _ rfl rfl rfl ?_
 refine box_ H ?_; clear H; intro b8 w7 hx H
 clear hx
 refine box_ H ?_; clear H; intro b0 w1 hx H
 clear hx
 refine sq ?_
 refine fld gok rfl rfl rfl rfl ?_
 refine load1 (H.bx 1 rfl (j := 0) rfl) ?_
 refine fld gok rfl rfl rfl rfl ?_
 refine load1 (H.bx 0 rfl (j := 0) rfl) ?_
 obtain ⟨a0, e, f0⟩ := bindS hF; clear hF
 refine boolO e ?_; clear e
 cases a0
 ·
  have f1 := condF f0; clear f0
  refine sq ?_
  refine fld gok rfl rfl rfl rfl ?_
  refine load1 (H.bx 1 rfl (j := 1) rfl) ?_
  refine fld gok rfl rfl rfl rfl ?_
  refine load1 (H.bx 0 rfl (j := 1) rfl) ?_
  obtain ⟨y0, e, f2⟩ := bindS f1; clear f1
  have i0 := e; clear e
  refine callF (laws_eqEdgeS_c a__1 a__1h b__1 b__1h y0 i0) (Γi := []) H ⟨Vw.sh 2 rfl, Vw.sh 5 rfl, trivial⟩ ?_; clear H i0
  rintro _ _ w2 ⟨rfl, rfl⟩ H
  obtain ⟨a1, e, f3⟩ := bindS f2; clear f2
  refine boolO e ?_; clear e
  cases a1
  ·
   have f4 := condF f3; clear f3
   refine sq ?_
   refine fld gok rfl rfl rfl rfl ?_
   refine load1 (H.bx 1 rfl (j := 2) rfl) ?_
   refine fld gok rfl rfl rfl rfl ?_
   refine load1 (H.bx 0 rfl (j := 2) rfl) ?_
   obtain ⟨y1, e, f5⟩ := bindS f4; clear f4
   have i1 := e; clear e
   refine callF (laws_eqIntS_c a__2 a__2h b__2 b__2h y1 i1) (Γi := []) H ⟨Vw.sh 3 rfl, Vw.sh 6 rfl, trivial⟩ ?_; clear H i1
   rintro _ _ w3 ⟨rfl, rfl⟩ H
   obtain ⟨a2, e, f6⟩ := bindS f5; clear f5
   refine boolO e ?_; clear e
   cases a2
   ·
    have f7 := condF f6; clear f6
    refine sq ?_
    refine fld gok rfl rfl rfl rfl ?_
    refine load1 (H.bx 1 rfl (j := 3) rfl) ?_
    refine fld gok rfl rfl rfl rfl ?_
    refine load1 (H.bx 0 rfl (j := 3) rfl) ?_
    obtain ⟨y2, e, f8⟩ := bindS f7; clear f7
    have i2 := e; clear e
    refine callF (laws_eqIntS_c a__3 a__3h b__3 b__3h y2 i2) (Γi := []) H ⟨Vw.sh 4 rfl, Vw.sh 7 rfl, trivial⟩ ?_; clear H i2
    rintro _ _ w4 ⟨rfl, rfl⟩ H
    obtain ⟨a3, e, f9⟩ := bindS f8; clear f8
    refine boolO e ?_; clear e
    cases a3
    ·
     have f10 := condF f9; clear f9
     cases f10
     exact ⟨_, _, rfl, ⟨rfl, rfl⟩, (H.sel [] rfl).close trivial⟩
    ·
     have f11 := condT f9; clear f9
     cases f11
     exact ⟨_, _, rfl, ⟨rfl, rfl⟩, (H.sel [] rfl).close trivial⟩
   ·
    have f12 := condT f6; clear f6
    cases f12
    exact ⟨_, _, rfl, ⟨rfl, rfl⟩, (H.sel [] rfl).close trivial⟩
  ·
   have f13 := condT f3; clear f3
   cases f13
   exact ⟨_, _, rfl, ⟨rfl, rfl⟩, (H.sel [] rfl).close trivial⟩
 ·
  have f14 := condT f0; clear f0
  cases f14
  exact ⟨_, _, rfl, ⟨rfl, rfl⟩, (H.sel [] rfl).close trivial⟩

theorem laws_eqIntSS_c (a_ : List (List Int)) (a_h : Hd) (b_ : List (List Int)) (b_h : Hd) (y : Bool) (hF : F_laws_eqIntSS a_ b_ = some y) :
  ConF Tryz.prog 28 #[(a_h).v, (b_h).v] [Es (List (List Int)) a_ a_h, Es (List (List Int)) b_ b_h] [] (fun v Γ' => v = (.bool y) ∧ Γ' = []) := by
 intro w0 S0 fp0 hI hS
 have H : Cx w0 fp0 S0 w0 [Es (List (List Int)) a_ a_h, Es (List (List Int)) b_ b_h] := Cx.start hI hS
 clear hI hS
 refine enterC (args := [_, _]) gok Tryz.func28 rfl _ rfl rfl rfl ?_
 refine sq ?_
 refine lenE (H.rs (α := List (List Int)) 0 rfl).len ?_
 refine lenE (H.rs (α := List (List Int)) 1 rfl).len ?_
 obtain ⟨a3, e, hF4⟩ := bindS hF; clear hF
 refine boolO e ?_; clear e
 cases a3
 ·
  have hF5 := condF hF4; clear hF4
  obtain ⟨r0, f0, f1⟩ := bindS hF5; clear hF5
  refine cut (fun (q0 : Unit) => []) (fun (q0 : Unit) w' => .inl () = r0 ∧ Cx w0 fp0 S0 w' []) ?_ ?_
  ·
   refine loopW _ (fun (s0 : Int) (_ : Unit) => [(0, (a_h).v), (1, (b_h).v), (5, (.int .i64 s0))]) (fun (s0 : Int) (_ : Unit) w' => Cx w0 fp0 S0 w' [Es (List (List Int)) a_ a_h, Es (List (List Int)) b_ b_h]) 0 () f0 ⟨rfl, rfl, rfl, trivial⟩ (H.sel [0, 1] rfl) ?_
   ·
    clear H
    rintro T0 s0 _ w1 o0 (H : Cx w0 fp0 S0 w1 [Es (List (List Int)) a_ a_h, Es (List (List Int)) b_ b_h]) hrt f2
    refine sq ?_
    refine lenE (H.rs (α := List (List Int)) 0 rfl).len ?_
    obtain ⟨a0, e, f3⟩ := bindS f2; clear f2
    refine boolO e ?_; clear e
    cases a0
    ·
     have f4 := condF f3; clear f3
     have hs := Option.some.inj f4; subst hs; clear f4
     have f5 : some _ = some _ := congrArg some (hrt _ rfl).symm
     exact ⟨(), trivial, Option.some.inj f5, H.sel [] rfl⟩
    ·
     have f6 := condT f3; clear f3
     refine sq ?_
     refine heldX H [] (.fst 0 (.fst 1 (.fst 2 (.fst 4 (.fst 5 (.fst 6 (.fst 3 (.fst 7 (.act 8 (.fst 9 .done)))))))))) mixed [] trivial (by kernel_rfl) ?_
     clear H; intro w2 H
     have hX : Ext w2 w2 := Upd.refl _ _
     have H0 := H
     obtain ⟨a1, e, f7⟩ := bindS f6; clear f6
     have HH := H; clear H; obtain ⟨p0, m0, h0, c0, c1, c2, c3, H⟩ := HH.elL 0 rfl e; clear HH
     clear e
     refine idxE c0 c1 c2 ?_; clear c0 c1 c2
     obtain ⟨a2, e, f8⟩ := bindS f7; clear f7
     have HH := H; clear H; obtain ⟨p1, m1, h1, c4, c5, c6, c7, H⟩ := HH.elL 2 rfl e; clear HH
     clear e
     refine idxE c4 c5 c6 ?_; clear c4 c5 c6
     refine load1X c3 ?_; clear c3
     refine load1X c7 ?_; clear c7
     obtain ⟨y0, e, f9⟩ := bindS f8; clear f8
     have i0 := e; clear e
     refine callFx (laws_eqIntS_c a1 h0 a2 h1 y0 i0) H ⟨Vw.sh 1 rfl, Vw.sh 0 rfl, trivial⟩ ?_; clear H i0
     rintro _ _ w3 ⟨rfl, rfl⟩ hx H
     replace hX := hX.trans0 hx; clear hx
     refine hold hX ?_
     obtain ⟨a4, e, f10⟩ := bindS f9; clear f9
     refine boolO e ?_; clear e
     cases a4
     ·
      have f11 := condF f10; clear f10
      obtain ⟨a5, e, f12⟩ := bindS f11; clear f11
      refine arO e ?_; clear e
      have hs := Option.some.inj f12; subst hs; clear f12
      exact ⟨a5, (), rfl, ⟨rfl, rfl, rfl, trivial⟩, H.sel [2, 3] rfl⟩
     ·
      have f13 := condT f10; clear f10
      have hs := Option.some.inj f13; subst hs; clear f13
      have f14 : some _ = some _ := congrArg some (hrt _ rfl).symm
      have hs := Option.some.inj f14; subst hs; clear f14
      have f15 : some _ = some _ := f1; clear f1
      cases f15
      exact ⟨_, _, rfl, ⟨rfl, rfl⟩, (H.sel [] rfl).close trivial⟩
  ·
   clear f0 H
   rintro T1 _ w4 ⟨hr, (H : Cx w0 fp0 S0 w4 [])⟩
   subst hr
   cases f1
   exact ⟨_, _, rfl, ⟨rfl, rfl⟩, (H.sel [] rfl).close trivial⟩
 ·
  have f16 := condT hF4; clear hF4
  cases f16
  exact ⟨_, _, rfl, ⟨rfl, rfl⟩, (H.sel [] rfl).close trivial⟩

theorem laws_eqMatrix_c (a__0 : Int) (a__1 : List (List Int)) (a__1h : Hd) (b__0 : Int) (b__1 : List (List Int)) (b__1h : Hd) (y : Bool) (hF : F_laws_eqMatrix (a__0, a__1) (b__0, b__1) = some y) :
  ConF Tryz.prog 18 #[(.agg #[(.int .i64 a__0), (a__1h).v]), (.agg #[(.int .i64 b__0), (b__1h).v])] [Es (List (List Int)) a__1 a__1h, Es (List (List Int)) b__1 b__1h] [] (fun v Γ' => v = (.bool y) ∧ Γ' = []) := by
 intro w0 S0 fp0 hI hS
 have H : Cx w0 fp0 S0 w0 [Es (List (List Int)) a__1 a__1h, Es (List (List Int)) b__1 b__1h] := Cx.start hI hS
 clear hI hS
 refine enterC (args := [_, _]) gok Tryz.func18 rfl _ rfl rfl rfl ?_
 refine box_ H ?_; clear H; intro b4 w3 hx H
 clear hx
 refine box_ H ?_; clear H; intro b7 w6 hx H
 clear hx
 refine sq ?_
 refine fld gok rfl rfl rfl rfl ?_
 refine load1 (H.bx 1 rfl (j := 0) rfl) ?_
 refine fld gok rfl rfl rfl rfl ?_
 refine load1 (H.bx 0 rfl (j := 0) rfl) ?_
 obtain ⟨a9, e, f0⟩ := bindS hF; clear hF
 refine boolO e ?_; clear e
 cases a9
 ·
  have f1 := condF f0; clear f0
  refine sq ?_
  refine fld gok rfl rfl rfl rfl ?_
  refine load1 (H.bx 1 rfl (j := 1) rfl) ?_
  refine fld gok rfl rfl rfl rfl ?_
  refine load1 (H.bx 0 rfl (j := 1) rfl) ?_
  obtain ⟨y0, e, f2⟩ := bindS f1; clear f1
  have i0 := e; clear e
  refine callF (laws_eqIntSS_c a__1 a__1h b__1 b__1h y0 i0) (Γi := []) H ⟨Vw.sh 2 rfl, Vw.sh 3 rfl, trivial⟩ ?_; clear H i0
  rintro _ _ w1 ⟨rfl, rfl⟩ H
  obtain ⟨a0, e, f3⟩ := bindS f2; clear f2
  refine boolO e ?_; clear e
  cases a0
  ·
   have f4 := condF f3; clear f3
   cases f4
   exact ⟨_, _, rfl, ⟨rfl, rfl⟩, (H.sel [] rfl).close trivial⟩
  ·
   have f5 := condT f3; clear f3
   cases f5
   exact ⟨_, _, rfl, ⟨rfl, rfl⟩, (H.sel [] rfl).close trivial⟩
 ·
  have f6 := condT f0; clear f0
  cases f6
  exact ⟨_, _, rfl, ⟨rfl, rfl⟩, (H.sel [] rfl).close trivial⟩

theorem laws_markIntS_c (a_ : List Int) (a_h : Hd) (k_ : Int) (y0 : List Int) (y1 : Int) (hF : F_laws_markIntS a_ k_ = some (y0, y1)) :
  ConF Tryz.prog 31 #[(a_h).v, (.int .i64 k_)] [] [E (List Int) a_ a_h] (fun v Γ' => v = (.int .i64 y1) ∧ Γ' = [E (List Int) y0 a_h]) := by
 intro w0 S0 fp0 hI hS
 have H : Cx w0 fp0 S0 w0 [E (List Int) a_ a_h] := Cx.start hI hS
 clear hI hS
 refine enterC (args := [_, _]) gok Tryz.func31 rfl _ rfl rfl rfl ?_
 obtain ⟨r0, f0, f1⟩ := bindS hF; clear hF
 refine cut (fun (q0 : List Int × Int) => [(1, (.int .i64 q0.2))]) (fun (q0 : List Int × Int) w' => (q0.1, q0.2) = r0 ∧ Cx w0 fp0 S0 w' [E (List Int) q0.1 a_h]) ?_ ?_
 ·
  refine loopW _ (fun (s0 : List Int × Int × Int) (_ : Unit) => [(0, (a_h).v), (1, (.int .i64 s0.2.1)), (5, (.int .i64 s0.2.2))]) (fun (s0 : List Int × Int × Int) (_ : Unit) w' => Cx w0 fp0 S0 w' [E (List Int) s0.1 a_h]) (a_, k_, 0) () f0 ⟨rfl, rfl, rfl, trivial⟩ (H.sel [0] rfl) ?_
  ·
   clear H
   rintro T0 ⟨s0_0, s0_1, s0_2⟩ _ w1 o0 (H : Cx w0 fp0 S0 w1 [E (List Int) s0_0 a_h]) hrt f2
   refine sq ?_
   refine lenE (H.ro (α := List Int) 0 rfl).len ?_
   obtain ⟨a0, e, f3⟩ := bindS f2; clear f2
   refine boolO e ?_; clear e
   cases a0
   ·
    have f4 := condF f3; clear f3
    have hs := Option.some.inj f4; subst hs; clear f4
    have f5 : some _ = some _ := congrArg some (hrt _ rfl).symm
    exact ⟨(s0_0, s0_1), ⟨rfl, trivial⟩, Option.some.inj f5, H.sel [0] rfl⟩
   ·
    have f6 := condT f3; clear f3
    refine sq ?_
    obtain ⟨a1, e, f7⟩ := bindS f6; clear f6
    have i0 := e; clear e
    obtain ⟨p0, m0, c0, c1, c2⟩ := (H.ro (α := List Int) 0 rfl).setp i0
    refine idxE c0 c1 c2 ?_
    refine setS (α := Int) H c0 c1 i0 ?_; clear H c0 c1 c2 i0; intro w2 H
    obtain ⟨a2, e, f8⟩ := bindS f7; clear f7
    refine arO e ?_; clear e
    obtain ⟨a3, e, f9⟩ := bindS f8; clear f8
    refine arO e ?_; clear e
    have hs := Option.some.inj f9; subst hs; clear f9
    exact ⟨(a1, a2, a3), (), rfl, ⟨rfl, rfl, rfl, trivial⟩, H.sel [0] rfl⟩
 ·
  clear f0 H
  rintro T1 ⟨s1_0, s1_1⟩ w3 ⟨hr, (H : Cx w0 fp0 S0 w3 [E (List Int) s1_0 a_h])⟩
  subst hr
  cases f1
  exact ⟨_, _, rfl, ⟨rfl, rfl⟩, (H.sel [0] rfl).close ⟨cloE, trivial⟩⟩

theorem laws_markIntSS_c (a_ : List (List Int)) (a_h : Hd) (k_ : Int) (y0 : List (List Int)) (y1 : Int) (hF : F_laws_markIntSS a_ k_ = some (y0, y1)) :
  ConF Tryz.prog 29 #[(a_h).v, (.int .i64 k_)] [] [E (List (List Int)) a_ a_h] (fun v Γ' => v = (.int .i64 y1) ∧ Γ' = [E (List (List Int)) y0 a_h]) := by
 intro w0 S0 fp0 hI hS
 have H : Cx w0 fp0 S0 w0 [E (List (List Int)) a_ a_h] := Cx.start hI hS
 clear hI hS
 refine enterC (args := [_, _]) gok Tryz.func29 rfl _ rfl rfl rfl ?_
 obtain ⟨r0, f0, f1⟩ := bindS hF; clear hF
 refine cut (fun (q0 : List (List Int) × Int) => [(1, (.int .i64 q0.2))]) (fun (q0 : List (List Int) × Int) w' => (q0.1, q0.2) = r0 ∧ Cx w0 fp0 S0 w' [E (List (List Int)) q0.1 a_h]) ?_ ?_
 ·
  refine loopW _ (fun (s0 : List (List Int) × Int × Int) (_ : Unit) => [(0, (a_h).v), (1, (.int .i64 s0.2.1)), (5, (.int .i64 s0.2.2))]) (fun (s0 : List (List Int) × Int × Int) (_ : Unit) w' => Cx w0 fp0 S0 w' [E (List (List Int)) s0.1 a_h]) (a_, k_, 0) () f0 ⟨rfl, rfl, rfl, trivial⟩ (H.sel [0] rfl) ?_
  ·
   clear H
   rintro T0 ⟨s0_0, s0_1, s0_2⟩ _ w1 o0 (H : Cx w0 fp0 S0 w1 [E (List (List Int)) s0_0 a_h]) hrt f2
   refine sq ?_
   refine lenE (H.ro (α := List (List Int)) 0 rfl).len ?_
   obtain ⟨a0, e, f3⟩ := bindS f2; clear f2
   refine boolO e ?_; clear e
   cases a0
   ·
    have f4 := condF f3; clear f3
    have hs := Option.some.inj f4; subst hs; clear f4
    have f5 : some _ = some _ := congrArg some (hrt _ rfl).symm
    exact ⟨(s0_0, s0_1), ⟨rfl, trivial⟩, Option.some.inj f5, H.sel [0] rfl⟩
   ·
    have f6 := condT f3; clear f3
    refine sq ?_
    obtain ⟨a1, e, f7⟩ := bindS f6; clear f6
    replace H := H.toEH (α := List Int)
    have HH := H; clear H; obtain ⟨p0, m0, h0, c0, c1, c2, c3, H⟩ := HH.peekL e; clear HH
    clear e
    refine idxE c0 c1 c2 ?_
    refine load1 c3 ?_; clear c3
    obtain ⟨y2, e, f8⟩ := bindS f7; clear f7
    obtain ⟨y2_0, y2_1⟩ := y2
    have i0 := e; clear e
    replace H := H.takeK 0 rfl
    refine callF (laws_markIntS_c a1 h0 s0_1 y2_0 y2_1 i0) (Γi := [E (List Int) a1 h0]) H trivial ?_; clear H i0
    rintro _ _ w2 ⟨rfl, rfl⟩ H
    obtain ⟨a2, e, f9⟩ := bindS f8; clear f8
    replace H := H.put c1 e; clear e
    obtain ⟨a3, e, f10⟩ := bindS f9; clear f9
    refine arO e ?_; clear e
    have hs := Option.some.inj f10; subst hs; clear f10
    exact ⟨(a2, y2_1, a3), (), rfl, ⟨rfl, rfl, rfl, trivial⟩, H.sel [0] rfl⟩
 ·
  clear f0 H
  rintro T1 ⟨s1_0, s1_1⟩ w3 ⟨hr, (H : Cx w0 fp0 S0 w3 [E (List (List Int)) s1_0 a_h])⟩
  subst hr
  cases f1
  exact ⟨_, _, rfl, ⟨rfl, rfl⟩, (H.sel [0] rfl).close ⟨cloE, trivial⟩⟩

theorem laws_markMatrix_c (a__0 : Int) (a__1 : List (List Int)) (a__1h : Hd) (k_ : Int) (y0_0 : Int) (y0_1 : List (List Int)) (y1 : Int) (hF : F_laws_markMatrix (a__0, a__1) k_ = some ((y0_0, y0_1), y1)) :
  ConF Tryz.prog 19 #[(.agg #[(.int .i64 a__0), (a__1h).v]), (.int .i64 k_)] [] [E (List (List Int)) a__1 a__1h] (fun v Γ' => v = (.int .i64 y1) ∧ Γ' = [E (List (List Int)) y0_1 a__1h]) := by
 intro w0 S0 fp0 hI hS
 have H : Cx w0 fp0 S0 w0 [E (List (List Int)) a__1 a__1h] := Cx.start hI hS
 clear hI hS
 refine enterC (args := [_, _]) gok Tryz.func19 rfl _ rfl rfl rfl ?_
 refine box_ H ?_; clear H; intro b3 w2 hx H
 clear hx
 refine fld gok rfl rfl rfl rfl ?_
 refine load1 (H.bx 0 rfl (j := 1) rfl) ?_
 obtain ⟨y5, e, hF6⟩ := bindS hF; clear hF
 obtain ⟨y5_0, y5_1⟩ := y5
 have ey5 := e; clear e
 replace H := H.sel [1, 0] rfl
 refine callF (laws_markIntSS_c a__1 a__1h k_ y5_0 y5_1 ey5) (Γi := [E (List (List Int)) a__1 a__1h]) H trivial ?_; clear H ey5
 rintro _ _ w7 ⟨rfl, rfl⟩ H
 cases hF6
 exact ⟨_, _, rfl, ⟨rfl, rfl⟩, (H.sel [0] rfl).close ⟨cloE, trivial⟩⟩

theorem laws_markEdgeS_c (a_ : List (Int × Int × List Int × List Int)) (a_h : Hd) (k_ : Int) (y0 : List (Int × Int × List Int × List Int)) (y1 : Int) (hF : F_laws_markEdgeS a_ k_ = some (y0, y1)) :
  ConF Tryz.prog 30 #[(a_h).v, (.int .i64 k_)] [] [E (List (Int × Int × List Int × List Int)) a_ a_h] (fun v Γ' => v = (.int .i64 y1) ∧ Γ' = [E (List (Int × Int × List Int × List Int)) y0 a_h]) := by
 intro w0 S0 fp0 hI hS
 have H : Cx w0 fp0 S0 w0 [E (List (Int × Int × List Int × List Int)) a_ a_h] := Cx.start hI hS
 clear hI hS
 refine enterC (args := [_, _]) gok Tryz.func30 rfl _ rfl rfl rfl ?_
 obtain ⟨r0, f0, f1⟩ := bindS hF; clear hF
 refine cut (fun (q0 : (List (Int × Int × List Int × List Int)) × Int) => [(1, (.int .i64 q0.2))]) (fun (q0 : (List (Int × Int × List Int × List Int)) × Int) w' => (q0.1, q0.2) = r0 ∧ Cx w0 fp0 S0 w' [E (List (Int × Int × List Int × List Int)) q0.1 a_h]) ?_ ?_
 ·
  refine loopW _ (fun (s0 : (List (Int × Int × List Int × List Int)) × Int × Int) (_ : Unit) => [(0, (a_h).v), (1, (.int .i64 s0.2.1)), (5, (.int .i64 s0.2.2))]) (fun (s0 : (List (Int × Int × List Int × List Int)) × Int × Int) (_ : Unit) w' => Cx w0 fp0 S0 w' [E (List (Int × Int × List Int × List Int)) s0.1 a_h]) (a_, k_, 0) () f0 ⟨rfl, rfl, rfl, trivial⟩ (H.sel [0] rfl) ?_
  ·
   clear H
   rintro T0 ⟨s0_0, s0_1, s0_2⟩ _ w1 o0 (H : Cx w0 fp0 S0 w1 [E (List (Int × Int × List Int × List Int)) s0_0 a_h]) hrt f2
   refine sq ?_
   refine lenE (H.ro (α := List (Int × Int × List Int × List Int)) 0 rfl).len ?_
   obtain ⟨a0, e, f3⟩ := bindS f2; clear f2
   refine boolO e ?_; clear e
   cases a0
   ·
    have f4 := condF f3; clear f3
    have hs := Option.some.inj f4; subst hs; clear f4
    have f5 : some _ = some _ := congrArg some (hrt _ rfl).symm
    exact ⟨(s0_0, s0_1), ⟨rfl, trivial⟩, Option.some.inj f5, H.sel [0] rfl⟩
   ·
    have f6 := condT f3; clear f3
    refine sq ?_
    obtain ⟨a1, e, f7⟩ := bindS f6; clear f6
    replace H := H.toEH (α := Int × Int × List Int × List Int)
    have HH := H; clear H; obtain ⟨p0, m0, g0, c0, c1, c2, c3, H⟩ := HH.peek e; clear HH
    clear e
    obtain ⟨a1_0, a1_1, a1_2, a1_3⟩ := a1
    obtain ⟨_, _, h0, h1⟩ := g0
    refine idxE c0 c1 c2 ?_
    refine fld gok rfl rfl rfl rfl ?_
    replace H := H.takeK 0 rfl
    replace H := H.sel [1, 0] rfl
    refine stX (α := Int × Int × List Int × List Int) (j := 0) H c0 rfl rfl ?_; clear H; intro w2 H
    replace H := H.sel [1, 0] rfl
    replace H := H.split
    replace H := H.sel [1, 2] rfl
    replace H := H.split
    replace H := H.sel [1, 2] rfl
    replace H := H.split
    replace H := H.join (α := List Int) (β := List Int)
    replace H := H.sc (α := Int) a1_1
    replace H := H.join (α := Int) (β := List Int × List Int)
    replace H := H.sc (α := Int) s0_1
    replace H := H.join (α := Int) (β := Int × List Int × List Int)
    obtain ⟨a2, e, f8⟩ := bindS f7; clear f7
    replace H := H.put c1 e; clear e
    obtain ⟨a3, e, f9⟩ := bindS f8; clear f8
    refine arO e ?_; clear e
    obtain ⟨a4, e, f10⟩ := bindS f9; clear f9
    replace H := H.toEH (α := Int × Int × List Int × List Int)
    have HH := H; clear H; obtain ⟨p1, m1, g1, c4, c5, c6, c7, H⟩ := HH.peek e; clear HH
    clear e
    obtain ⟨a4_0, a4_1, a4_2, a4_3⟩ := a4
    obtain ⟨_, _, h2, h3⟩ := g1
    refine idxE c4 c5 c6 ?_
    refine fld gok rfl rfl rfl rfl ?_
    replace H := H.takeK 0 rfl
    replace H := H.sel [1, 0] rfl
    refine stX (α := Int × Int × List Int × List Int) (j := 1) H c4 rfl rfl ?_; clear H; intro w3 H
    replace H := H.sel [1, 0] rfl
    replace H := H.split
    replace H := H.sel [1, 2] rfl
    replace H := H.split
    replace H := H.sel [1, 2] rfl
    replace H := H.split
    replace H := H.join (α := List Int) (β := List Int)
    replace H := H.sc (α := Int) a3
    replace H := H.join (α := Int) (β := List Int × List Int)
    replace H := H.sc (α := Int) a4_0
    replace H := H.join (α := Int) (β := Int × List Int × List Int)
    obtain ⟨a5, e, f11⟩ := bindS f10; clear f10
    replace H := H.put c5 e; clear e
    obtain ⟨a6, e, f12⟩ := bindS f11; clear f11
    refine arO e ?_; clear e
    obtain ⟨a7, e, f13⟩ := bindS f12; clear f12
    replace H := H.toEH (α := Int × Int × List Int × List Int)
    have HH := H; clear H; obtain ⟨p2, m2, g2, c8, c9, c10, c11, H⟩ := HH.peek e; clear HH
    clear e
    obtain ⟨a7_0, a7_1, a7_2, a7_3⟩ := a7
    obtain ⟨_, _, h4, h5⟩ := g2
    refine idxE c8 c9 c10 ?_
    refine fld gok rfl rfl rfl rfl ?_
    refine load1 (c11 2 _ rfl) ?_
    obtain ⟨y2, e, f14⟩ := bindS f13; clear f13
    obtain ⟨y2_0, y2_1⟩ := y2
    have i0 := e; clear e
    replace H := H.takeK 0 rfl
    replace H := H.split
    replace H := H.sel [1, 2] rfl
    replace H := H.split
    replace H := H.sel [1, 2] rfl
    replace H := H.split
    refine callF (laws_markIntS_c a7_2 h4 a6 y2_0 y2_1 i0) (Γi := [E (List Int) a7_2 h4]) H trivial ?_; clear H i0
    rintro _ _ w4 ⟨rfl, rfl⟩ H
    replace H := H.join (α := List Int) (β := List Int)
    replace H := H.sc (α := Int) a7_1
    replace H := H.join (α := Int) (β := List Int × List Int)
    replace H := H.sc (α := Int) a7_0
    replace H := H.join (α := Int) (β := Int × List Int × List Int)
    obtain ⟨a8, e, f15⟩ := bindS f14; clear f14
    replace H := H.put c9 e; clear e
    obtain ⟨a9, e, f16⟩ := bindS f15; clear f15
    replace H := H.toEH (α := Int × Int × List Int × List Int)
    have HH := H; clear H; obtain ⟨p3, m3, g3, c12, c13, c14, c15, H⟩ := HH.peek e; clear HH
    clear e
    obtain ⟨a9_0, a9_1, a9_2, a9_3⟩ := a9
    obtain ⟨_, _, h6, h7⟩ := g3
    refine idxE c12 c13 c14 ?_
    refine fld gok rfl rfl rfl rfl ?_
    refine load1 (c15 3 _ rfl) ?_
    obtain ⟨y3, e, f17⟩ := bindS f16; clear f16
    obtain ⟨y3_0, y3_1⟩ := y3
    have i1 := e; clear e
    replace H := H.takeK 0 rfl
    replace H := H.split
    replace H := H.sel [1, 2] rfl
    replace H := H.split
    replace H := H.sel [1, 2] rfl
    replace H := H.split
    replace H := H.sel [1, 0, 2] rfl
    refine callF (laws_markIntS_c a9_3 h7 y2_1 y3_0 y3_1 i1) (Γi := [E (List Int) a9_3 h7]) H trivial ?_; clear H i1
    rintro _ _ w5 ⟨rfl, rfl⟩ H
    replace H := H.sel [1, 0, 2] rfl
    replace H := H.join (α := List Int) (β := List Int)
    replace H := H.sc (α := Int) a9_1
    replace H := H.join (α := Int) (β := List Int × List Int)
    replace H := H.sc (α := Int) a9_0
    replace H := H.join (α := Int) (β := Int × List Int × List Int)
    obtain ⟨a10, e, f18⟩ := bindS f17; clear f17
    replace H := H.put c13 e; clear e
    obtain ⟨a11, e, f19⟩ := bindS f18; clear f18
    refine arO e ?_; clear e
    have hs := Option.some.inj f19; subst hs; clear f19
    exact ⟨(a10, y3_1, a11), (), rfl, ⟨rfl, rfl, rfl, trivial⟩, H.sel [0] rfl⟩
 ·
  clear f0 H
  rintro T1 ⟨s1_0, s1_1⟩ w6 ⟨hr, (H : Cx w0 fp0 S0 w6 [E (List (Int × Int × List Int × List Int)) s1_0 a_h])⟩
  subst hr
  cases f1
  exact ⟨_, _, rfl, ⟨rfl, rfl⟩, (H.sel [0] rfl).close ⟨cloE, trivial⟩⟩

theorem laws_markGraph_c (a__0 : Int) (a__1 : List (Int × Int × List Int × List Int)) (a__1h : Hd) (a__2 : List Int) (a__2h : Hd) (a__3 : List Int) (a__3h : Hd) (k_ : Int) (y0_0 : Int) (y0_1 : List (Int × Int × List Int × List Int)) (y0_2 : List Int) (y0_3 : List Int) (y1 : Int) (hF : F_laws_markGraph (a__0, a__1, a__2, a__3) k_ = some ((y0_0, y0_1, y0_2, y0_3), y1)) :
  ConF Tryz.prog 12 #[(.agg #[(.int .i64 a__0), (a__1h).v, (a__2h).v, (a__3h).v]), (.int .i64 k_)] [] [E (List (Int × Int × List Int × List Int)) a__1 a__1h, E (List Int) a__2 a__2h, E (List Int) a__3 a__3h] (fun v Γ' => v = (.int .i64 y1) ∧ Γ' = [E (List (Int × Int × List Int × List Int)) y0_1 a__1h, E (List Int) y0_2 a__2h, E (List Int) y0_3 a__3h]) := by
 intro w0 S0 fp0 hI hS
 have H : Cx w0 fp0 S0 w0 [E (List (Int × Int × List Int × List Int)) a__1 a__1h, E (List Int) a__2 a__2h, E (List Int) a__3 a__3h] := Cx.start hI hS
 clear hI hS
 refine enterC (args := [_, _]) gok Tryz.func12 rfl _ rfl rfl rfl ?_
 refine box_ H ?_; clear H; intro b5 w4 hx H
 clear hx
 refine fld gok rfl rfl rfl rfl ?_
 refine load1 (H.bx 0 rfl (j := 1) rfl) ?_
 obtain ⟨y7, e, hF8⟩ := bindS hF; clear hF
 obtain ⟨y7_0, y7_1⟩ := y7
 have ey7 := e; clear e
 replace H := H.sel [1, 0, 2, 3] rfl
 refine callF (laws_markEdgeS_c a__1 a__1h k_ y7_0 y7_1 ey7) (Γi := [E (List (Int × Int × List Int × List Int)) a__1 a__1h]) H trivial ?_; clear H ey7
 rintro _ _ w9 ⟨rfl, rfl⟩ H
 refine fld gok rfl rfl rfl rfl ?_
 refine load1 (H.bx 1 rfl (j := 2) rfl) ?_
 obtain ⟨y0, e, f0⟩ := bindS hF8; clear hF8
 obtain ⟨y0_0, y0_1⟩ := y0
 have i0 := e; clear e
 replace H := H.sel [2, 0, 1, 3] rfl
 refine callF (laws_markIntS_c a__2 a__2h y7_1 y0_0 y0_1 i0) (Γi := [E (List Int) a__2 a__2h]) H trivial ?_; clear H i0
 rintro _ _ w1 ⟨rfl, rfl⟩ H
 refine fld gok rfl rfl rfl rfl ?_
 refine load1 (H.bx 2 rfl (j := 3) rfl) ?_
 obtain ⟨y2, e, f1⟩ := bindS f0; clear f0
 obtain ⟨y2_0, y2_1⟩ := y2
 have i1 := e; clear e
 replace H := H.sel [3, 0, 1, 2] rfl
 refine callF (laws_markIntS_c a__3 a__3h y0_1 y2_0 y2_1 i1) (Γi := [E (List Int) a__3 a__3h]) H trivial ?_; clear H i1
 rintro _ _ w2 ⟨rfl, rfl⟩ H
 cases f1
 exact ⟨_, _, rfl, ⟨rfl, rfl⟩, (H.sel [2, 1, 0] rfl).close ⟨cloE, cloE, cloE, trivial⟩⟩

theorem laws_heldIntS_c (a_ : List Int) (a_h : Hd) (k_ : Int) (y : Int) (hF : F_laws_heldIntS a_ k_ = some y) :
  ConF Tryz.prog 33 #[(a_h).v, (.int .i64 k_)] [Es (List Int) a_ a_h] [] (fun v Γ' => v = (.int .i64 y) ∧ Γ' = []) := by
 intro w0 S0 fp0 hI hS
 have H : Cx w0 fp0 S0 w0 [Es (List Int) a_ a_h] := Cx.start hI hS
 clear hI hS
 refine enterC (args := [_, _]) gok Tryz.func33 rfl _ rfl rfl rfl ?_
 obtain ⟨r0, f0, f1⟩ := bindS hF; clear hF
 refine cut (fun (q0 : Int) => [(1, (.int .i64 q0))]) (fun (q0 : Int) w' => .inl q0 = r0 ∧ Cx w0 fp0 S0 w' []) ?_ ?_
 ·
  refine loopW _ (fun (s0 : Int × Int) (_ : Unit) => [(0, (a_h).v), (1, (.int .i64 s0.1)), (5, (.int .i64 s0.2))]) (fun (s0 : Int × Int) (_ : Unit) w' => Cx w0 fp0 S0 w' [Es (List Int) a_ a_h]) (k_, 0) () f0 ⟨rfl, rfl, rfl, trivial⟩ (H.sel [0] rfl) ?_
  ·
   clear H
   rintro T0 ⟨s0_0, s0_1⟩ _ w1 o0 (H : Cx w0 fp0 S0 w1 [Es (List Int) a_ a_h]) hrt f2
   refine sq ?_
   refine lenE (H.rs (α := List Int) 0 rfl).len ?_
   obtain ⟨a0, e, f3⟩ := bindS f2; clear f2
   refine boolO e ?_; clear e
   cases a0
   ·
    have f4 := condF f3; clear f3
    have hs := Option.some.inj f4; subst hs; clear f4
    have f5 : some _ = some _ := congrArg some (hrt _ rfl).symm
    exact ⟨s0_0, ⟨rfl, trivial⟩, Option.some.inj f5, H.sel [] rfl⟩
   ·
    have f6 := condT f3; clear f3
    refine sq ?_
    refine sq ?_
    obtain ⟨a1, e, f7⟩ := bindS f6; clear f6
    obtain ⟨p0, m0, c0, c1, c2, c3⟩ := (H.rs (α := List Int) 0 rfl).at1 e; clear e
    refine idxE c0 c1 c2 ?_; clear c0 c1 c2
    refine load1 c3 ?_; clear c3
    obtain ⟨a2, e, f8⟩ := bindS f7; clear f7
    refine boolO e ?_; clear e
    cases a2
    ·
     have f9 := condF f8; clear f8
     obtain ⟨a3, e, f10⟩ := bindS f9; clear f9
     refine arO e ?_; clear e
     obtain ⟨a4, e, f11⟩ := bindS f10; clear f10
     refine arO e ?_; clear e
     have hs := Option.some.inj f11; subst hs; clear f11
     exact ⟨(a3, a4), (), rfl, ⟨rfl, rfl, rfl, trivial⟩, H.sel [0] rfl⟩
    ·
     have f12 := condT f8; clear f8
     have hs := Option.some.inj f12; subst hs; clear f12
     have f13 : some _ = some _ := congrArg some (hrt _ rfl).symm
     have hs := Option.some.inj f13; subst hs; clear f13
     have f14 : some _ = some _ := f1; clear f1
     cases f14
     exact ⟨_, _, rfl, ⟨rfl, rfl⟩, (H.sel [] rfl).close trivial⟩
 ·
  clear f0 H
  rintro T1 s1 w2 ⟨hr, (H : Cx w0 fp0 S0 w2 [])⟩
  subst hr
  cases f1
  exact ⟨_, _, rfl, ⟨rfl, rfl⟩, (H.sel [] rfl).close trivial⟩

theorem laws_heldEdgeS_c (a_ : List (Int × Int × List Int × List Int)) (a_h : Hd) (k_ : Int) (y : Int) (hF : F_laws_heldEdgeS a_ k_ = some y) :
  ConF Tryz.prog 32 #[(a_h).v, (.int .i64 k_)] [Es (List (Int × Int × List Int × List Int)) a_ a_h] [] (fun v Γ' => v = (.int .i64 y) ∧ Γ' = []) := by
 intro w0 S0 fp0 hI hS
 have H : Cx w0 fp0 S0 w0 [Es (List (Int × Int × List Int × List Int)) a_ a_h] := Cx.start hI hS
 clear hI hS
 refine enterC (args := [_, _]) gok Tryz.func32 rfl _ rfl rfl rfl ?_
 obtain ⟨r0, f0, f1⟩ := bindS hF; clear hF
 refine cut (fun (q0 : Int) => [(1, (.int .i64 q0))]) (fun (q0 : Int) w' => .inl q0 = r0 ∧ Cx w0 fp0 S0 w' []) ?_ ?_
 ·
  refine loopW _ (fun (s0 : Int × Int) (_ : Unit) => [(0, (a_h).v), (1, (.int .i64 s0.1)), (5, (.int .i64 s0.2))]) (fun (s0 : Int × Int) (_ : Unit) w' => Cx w0 fp0 S0 w' [Es (List (Int × Int × List Int × List Int)) a_ a_h]) (k_, 0) () f0 ⟨rfl, rfl, rfl, trivial⟩ (H.sel [0] rfl) ?_
  ·
   clear H
   rintro T0 ⟨s0_0, s0_1⟩ _ w1 o0 (H : Cx w0 fp0 S0 w1 [Es (List (Int × Int × List Int × List Int)) a_ a_h]) hrt f2
   refine sq ?_
   refine lenE (H.rs (α := List (Int × Int × List Int × List Int)) 0 rfl).len ?_
   obtain ⟨a0, e, f3⟩ := bindS f2; clear f2
   refine boolO e ?_; clear e
   cases a0
   ·
    have f4 := condF f3; clear f3
    have hs := Option.some.inj f4; subst hs; clear f4
    have f5 : some _ = some _ := congrArg some (hrt _ rfl).symm
    exact ⟨s0_0, ⟨rfl, trivial⟩, Option.some.inj f5, H.sel [] rfl⟩
   ·
    have f6 := condT f3; clear f3
    refine sq ?_
    refine sq ?_
    obtain ⟨a1, e, f7⟩ := bindS f6; clear f6
    have HH := H; clear H; obtain ⟨p0, m0, g0, c0, c1, c2, c3, H⟩ := HH.el (α := Int × Int × List Int × List Int) 0 rfl e; clear HH
    clear e
    obtain ⟨a1_0, a1_1, a1_2, a1_3⟩ := a1
    obtain ⟨_, _, h0, h1⟩ := g0
    replace H := H.part (β := List Int) a1_2 (h0 : Hd) 0 rfl (fun S h => (And.left (And.right (And.right h))))
    replace H := H.part (β := List Int) a1_3 (h1 : Hd) 1 rfl (fun S h => (And.right (And.right (And.right h))))
    replace H := H.sel [0, 1, 3] rfl
    refine idxE c0 c1 c2 ?_; clear c0 c1 c2
    refine fld gok rfl rfl rfl rfl ?_
    refine load1 (c3 0 _ rfl) ?_
    obtain ⟨a2, e, f8⟩ := bindS f7; clear f7
    refine boolO e ?_; clear e
    cases a2
    ·
     have f9 := condF f8; clear f8
     obtain ⟨a3, e, f10⟩ := bindS f9; clear f9
     refine arO e ?_; clear e
     refine sq ?_
     obtain ⟨a4, e, f11⟩ := bindS f10; clear f10
     have HH := H; clear H; obtain ⟨p1, m1, g1, c4, c5, c6, c7, H⟩ := HH.el (α := Int × Int × List Int × List Int) 2 rfl e; clear HH
     clear e
     obtain ⟨a4_0, a4_1, a4_2, a4_3⟩ := a4
     obtain ⟨_, _, h2, h3⟩ := g1
     replace H := H.part (β := List Int) a4_2 (h2 : Hd) 0 rfl (fun S h => (And.left (And.right (And.right h))))
     replace H := H.part (β := List Int) a4_3 (h3 : Hd) 1 rfl (fun S h => (And.right (And.right (And.right h))))
     replace H := H.sel [0, 1, 3, 4, 5] rfl
     refine idxE c4 c5 c6 ?_; clear c4 c5 c6
     refine fld gok rfl rfl rfl rfl ?_
     refine load1 (c7 1 _ rfl) ?_
     obtain ⟨a5, e, f12⟩ := bindS f11; clear f11
     refine boolO e ?_; clear e
     cases a5
     ·
      have f13 := condF f12; clear f12
      obtain ⟨a6, e, f14⟩ := bindS f13; clear f13
      refine arO e ?_; clear e
      obtain ⟨a7, e, f15⟩ := bindS f14; clear f14
      have HH := H; clear H; obtain ⟨p2, m2, g2, c8, c9, c10, c11, H⟩ := HH.el (α := Int × Int × List Int × List Int) 4 rfl e; clear HH
      clear e
      obtain ⟨a7_0, a7_1, a7_2, a7_3⟩ := a7
      obtain ⟨_, _, h4, h5⟩ := g2
      replace H := H.part (β := List Int) a7_2 (h4 : Hd) 0 rfl (fun S h => (And.left (And.right (And.right h))))
      replace H := H.part (β := List Int) a7_3 (h5 : Hd) 1 rfl (fun S h => (And.right (And.right (And.right h))))
      replace H := H.sel [0, 1, 3, 4, 5, 6, 7] rfl
      refine idxE c8 c9 c10 ?_; clear c8 c9 c10
      refine fld gok rfl rfl rfl rfl ?_
      refine load1 (c11 2 _ rfl) ?_
      obtain ⟨y0, e, f16⟩ := bindS f15; clear f15
      have i0 := e; clear e
      refine callF (laws_heldIntS_c a7_2 h4 a6 y0 i0) (Γi := []) H ⟨Vw.sh 1 rfl, trivial⟩ ?_; clear H i0
      rintro _ _ w2 ⟨rfl, rfl⟩ H
      refine sq ?_
      obtain ⟨a8, e, f17⟩ := bindS f16; clear f16
      refine boolO e ?_; clear e
      cases a8
      ·
       have f18 := condF f17; clear f17
       obtain ⟨a9, e, f19⟩ := bindS f18; clear f18
       have HH := H; clear H; obtain ⟨p3, m3, g3, c12, c13, c14, c15, H⟩ := HH.el (α := Int × Int × List Int × List Int) 6 rfl e; clear HH
       clear e
       obtain ⟨a9_0, a9_1, a9_2, a9_3⟩ := a9
       obtain ⟨_, _, h6, h7⟩ := g3
       replace H := H.part (β := List Int) a9_2 (h6 : Hd) 0 rfl (fun S h => (And.left (And.right (And.right h))))
       replace H := H.part (β := List Int) a9_3 (h7 : Hd) 1 rfl (fun S h => (And.right (And.right (And.right h))))
       replace H := H.sel [0, 1, 3, 4, 5, 6, 7, 8, 9] rfl
       refine idxE c12 c13 c14 ?_; clear c12 c13 c14
       refine fld gok rfl rfl rfl rfl ?_
       refine load1 (c15 3 _ rfl) ?_
       obtain ⟨y1, e, f20⟩ := bindS f19; clear f19
       have i1 := e; clear e
       refine callF (laws_heldIntS_c a9_3 h7 y0 y1 i1) (Γi := []) H ⟨Vw.sh 0 rfl, trivial⟩ ?_; clear H i1
       rintro _ _ w3 ⟨rfl, rfl⟩ H
       obtain ⟨a10, e, f21⟩ := bindS f20; clear f20
       refine boolO e ?_; clear e
       cases a10
       ·
        have f22 := condF f21; clear f21
        obtain ⟨a11, e, f23⟩ := bindS f22; clear f22
        refine arO e ?_; clear e
        have hs := Option.some.inj f23; subst hs; clear f23
        exact ⟨(y1, a11), (), rfl, ⟨rfl, rfl, rfl, trivial⟩, H.sel [8] rfl⟩
       ·
        have f24 := condT f21; clear f21
        have hs := Option.some.inj f24; subst hs; clear f24
        have f25 : some _ = some _ := congrArg some (hrt _ rfl).symm
        have hs := Option.some.inj f25; subst hs; clear f25
        have f26 : some _ = some _ := f1; clear f1
        cases f26
        exact ⟨_, _, rfl, ⟨rfl, rfl⟩, (H.sel [] rfl).close trivial⟩
      ·
       have f27 := condT f17; clear f17
       have hs := Option.some.inj f27; subst hs; clear f27
       have f28 : some _ = some _ := congrArg some (hrt _ rfl).symm
       have hs := Option.some.inj f28; subst hs; clear f28
       have f29 : some _ = some _ := f1; clear f1
       cases f29
       exact ⟨_, _, rfl, ⟨rfl, rfl⟩, (H.sel [] rfl).close trivial⟩
     ·
      have f30 := condT f12; clear f12
      have hs := Option.some.inj f30; subst hs; clear f30
      have f31 : some _ = some _ := congrArg some (hrt _ rfl).symm
      have hs := Option.some.inj f31; subst hs; clear f31
      have f32 : some _ = some _ := f1; clear f1
      cases f32
      exact ⟨_, _, rfl, ⟨rfl, rfl⟩, (H.sel [] rfl).close trivial⟩
    ·
     have f33 := condT f8; clear f8
     have hs := Option.some.inj f33; subst hs; clear f33
     have f34 : some _ = some _ := congrArg some (hrt _ rfl).symm
     have hs := Option.some.inj f34; subst hs; clear f34
     have f35 : some _ = some _ := f1; clear f1
     cases f35
     exact ⟨_, _, rfl, ⟨rfl, rfl⟩, (H.sel [] rfl).close trivial⟩
 ·
  clear f0 H
  rintro T1 s1 w4 ⟨hr, (H : Cx w0 fp0 S0 w4 [])⟩
  subst hr
  cases f1
  exact ⟨_, _, rfl, ⟨rfl, rfl⟩, (H.sel [] rfl).close trivial⟩

theorem laws_heldGraph_c (a__0 : Int) (a__1 : List (Int × Int × List Int × List Int)) (a__1h : Hd) (a__2 : List Int) (a__2h : Hd) (a__3 : List Int) (a__3h : Hd) (k_ : Int) (y : Int) (hF : F_laws_heldGraph (a__0, a__1, a__2, a__3) k_ = some y) :
  ConF Tryz.prog 13 #[(.agg #[(.int .i64 a__0), (a__1h).v, (a__2h).v, (a__3h).v]), (.int .i64 k_)] [Es (List (Int × Int × List Int × List Int)) a__1 a__1h, Es (List Int) a__2 a__2h, Es (List Int) a__3 a__3h] [] (fun v Γ' => v = (.int .i64 y) ∧ Γ' = []) := by
 intro w0 S0 fp0 hI hS
 have H : Cx w0 fp0 S0 w0 [Es (List (Int × Int × List Int × List Int)) a__1 a__1h, Es (List Int) a__2 a__2h, Es (List Int) a__3 a__3h] := Cx.start hI hS
 clear hI hS
 refine enterC (args := [_, _]) gok Tryz.func13 rfl _ rfl rfl rfl ?_
 refine box_ H ?_; clear H; intro b5 w4 hx H
 clear hx
 refine fld gok rfl rfl rfl rfl ?_
 refine load1 (H.bx 0 rfl (j := 1) rfl) ?_
 obtain ⟨y7, e, hF8⟩ := bindS hF; clear hF
 have ey7 := e; clear e
 refine callF (laws_heldEdgeS_c a__1 a__1h k_ y7 ey7) (Γi := []) H ⟨Vw.sh 1 rfl, trivial⟩ ?_; clear H ey7
 rintro _ _ w9 ⟨rfl, rfl⟩ H
 refine sq ?_
 obtain ⟨a0, e, f0⟩ := bindS hF8; clear hF8
 refine boolO e ?_; clear e
 cases a0
 ·
  have f1 := condF f0; clear f0
  refine fld gok rfl rfl rfl rfl ?_
  refine load1 (H.bx 0 rfl (j := 2) rfl) ?_
  obtain ⟨y0, e, f2⟩ := bindS f1; clear f1
  have i0 := e; clear e
  refine callF (laws_heldIntS_c a__2 a__2h y7 y0 i0) (Γi := []) H ⟨Vw.sh 2 rfl, trivial⟩ ?_; clear H i0
  rintro _ _ w1 ⟨rfl, rfl⟩ H
  refine sq ?_
  obtain ⟨a1, e, f3⟩ := bindS f2; clear f2
  refine boolO e ?_; clear e
  cases a1
  ·
   have f4 := condF f3; clear f3
   refine fld gok rfl rfl rfl rfl ?_
   refine load1 (H.bx 0 rfl (j := 3) rfl) ?_
   obtain ⟨y1, e, f5⟩ := bindS f4; clear f4
   have i1 := e; clear e
   refine callF (laws_heldIntS_c a__3 a__3h y0 y1 i1) (Γi := []) H ⟨Vw.sh 3 rfl, trivial⟩ ?_; clear H i1
   rintro _ _ w2 ⟨rfl, rfl⟩ H
   refine sq ?_
   obtain ⟨a2, e, f6⟩ := bindS f5; clear f5
   refine boolO e ?_; clear e
   cases a2
   ·
    have f7 := condF f6; clear f6
    cases f7
    exact ⟨_, _, rfl, ⟨rfl, rfl⟩, (H.sel [] rfl).close trivial⟩
   ·
    have f8 := condT f6; clear f6
    cases f8
    exact ⟨_, _, rfl, ⟨rfl, rfl⟩, (H.sel [] rfl).close trivial⟩
  ·
   have f9 := condT f3; clear f3
   cases f9
   exact ⟨_, _, rfl, ⟨rfl, rfl⟩, (H.sel [] rfl).close trivial⟩
 ·
  have f10 := condT f0; clear f0
  cases f10
  exact ⟨_, _, rfl, ⟨rfl, rfl⟩, (H.sel [] rfl).close trivial⟩

theorem laws_FnExactMatrixGraph_c (aP_ : Int) (aM__0 : Int) (aM__1 : List (List Int)) (aM__1h : Hd) (y : Bool) (hF : F_laws_FnExactMatrixGraph aP_ (aM__0, aM__1) = some y) :
  ConF Tryz.prog 4 #[(.int .i64 aP_), (.agg #[(.int .i64 aM__0), (aM__1h).v])] [Es (List (List Int)) aM__1 aM__1h, Gl 0 [.int .i64 2, .int .i64 3, .int .i64 5, .int .i64 7]] [] (fun v Γ' => v = (.bool y) ∧ Γ' = []) := by
 intro w0 S0 fp0 hI hS
 have H : Cx w0 fp0 S0 w0 [Es (List (List Int)) aM__1 aM__1h, Gl 0 [.int .i64 2, .int .i64 3, .int .i64 5, .int .i64 7]] := Cx.start hI hS
 clear hI hS
 refine enterC (args := [_, _]) gok Tryz.func4 rfl _ rfl rfl rfl ?_
 refine box_ H ?_; clear H; intro b4 w3 hx H
 clear hx
 refine loadN [(.int .i64 aM__0), (aM__1h).v] rfl (fun j u hj => H.bx 0 rfl hj) ?_
 obtain ⟨y6, e, hF7⟩ := bindS hF; clear hF
 have ey6 := e; clear e
 refine callF (laws_szMatrix_c aM__0 aM__1 aM__1h 1048576 y6 ey6) (Γi := []) H ⟨Vw.sh 1 rfl, trivial⟩ ?_; clear H ey6
 rintro _ _ w8 ⟨rfl, rfl⟩ H
 refine sq ?_
 obtain ⟨a9, e, f0⟩ := bindS hF7; clear hF7
 refine boolO e ?_; clear e
 cases a9
 ·
  have f1 := condF f0; clear f0
  refine loadN [(.int .i64 aM__0), (aM__1h).v] rfl (fun j u hj => H.bx 0 rfl hj) ?_
  obtain ⟨y0, e, f2⟩ := bindS f1; clear f1
  obtain ⟨y0_0, y0_1⟩ := y0
  have i0 := e; clear e
  refine callF (laws_toMatrix_c aM__0 aM__1 aM__1h y0_0 y0_1 i0) (Γi := []) H ⟨Vw.sh 1 rfl, trivial⟩ ?_; clear H i0
  rintro _ _ w1 ⟨h0, rfl, rfl⟩ H
  obtain ⟨y1, e, f3⟩ := bindS f2; clear f2
  obtain ⟨⟨y1_0_0, y1_0_1, y1_0_2, y1_0_3⟩, y1_1⟩ := y1
  have i1 := e; clear e
  replace H := H.frz
  refine callS (spec_MatrixGraph_c aP_ y0_0 y0_1 h0 y1_0_0 y1_0_1 y1_0_2 y1_0_3 y1_1 i1) (Γi := []) H [0] rfl (persC persS persN) ?_; clear H i1
  rintro _ _ w2 ⟨h1, h2, h3, rfl, rfl⟩ H
  refine alloc_ gok rfl H ?_; clear H; intro b0 w4 hx H
  clear hx
  refine stA gok [(.int .i64 y1_0_0), (h1).v, (h2).v, (h3).v] rfl H rfl rfl rfl ?_; clear H; intro w5 H
  refine loadN [(.int .i64 aM__0), (aM__1h).v] rfl (fun j u hj => H.bx 5 rfl hj) ?_
  obtain ⟨y2, e, f4⟩ := bindS f3; clear f3
  obtain ⟨y2_0, y2_1⟩ := y2
  have i2 := e; clear e
  refine callF (laws_toMatrix_c aM__0 aM__1 aM__1h y2_0 y2_1 i2) (Γi := []) H ⟨Vw.sh 6 rfl, trivial⟩ ?_; clear H i2
  rintro _ _ w6 ⟨h4, rfl, rfl⟩ H
  refine alloc_ gok rfl H ?_; clear H; intro b1 w7 hx H
  clear hx
  refine stA gok [(.int .i64 y2_0), (h4).v] rfl H rfl rfl rfl ?_; clear H; intro w9 H
  refine loadN [(.int .i64 y2_0), (h4).v] rfl (fun j u hj => H.bx 0 rfl hj) ?_
  obtain ⟨y3, e, f5⟩ := bindS f4; clear f4
  obtain ⟨⟨y3_0_0, y3_0_1, y3_0_2, y3_0_3⟩, y3_1⟩ := y3
  have i3 := e; clear e
  refine callF (impl_MatrixGraph_c aP_ y2_0 y2_1 h4 y3_0_0 y3_0_1 y3_0_2 y3_0_3 y3_1 i3) (Γi := []) H ⟨Vw.own 1 rfl, Vw.gl 9 rfl, trivial⟩ ?_; clear H i3
  rintro _ _ w10 ⟨h5, h6, h7, rfl, rfl⟩ H
  refine alloc_ gok rfl H ?_; clear H; intro b2 w11 hx H
  clear hx
  refine stA gok [(.int .i64 y3_0_0), (h5).v, (h6).v, (h7).v] rfl H rfl rfl rfl ?_; clear H; intro w12 H
  refine sq ?_
  obtain ⟨r0, f6, f7⟩ := bindS f5; clear f5
  refine cut (fun (q0 : Bool) => [(0, (.int .i64 aP_)), (3, (.pointer (some ⟨b4, 0, none⟩))), (6, (.pointer (some ⟨b0, 0, none⟩))), (7, (.bool y1_1)), (8, (.pointer (some ⟨b1, 0, none⟩))), (9, (.pointer (some ⟨b2, 0, none⟩))), (10, (.bool y3_1)), (44, (.bool q0))]) (fun (q0 : Bool) w' => q0 = r0 ∧ Cx w0 fp0 S0 w' [Bx b4 [(.int .i64 aM__0), (aM__1h).v], Es (List (List Int)) aM__1 aM__1h, Bx b0 [(.int .i64 y1_0_0), (h1).v, (h2).v, (h3).v], Es (List (Int × Int × List Int × List Int)) y1_0_1 h1, Es (List Int) y1_0_2 h2, Es (List Int) y1_0_3 h3, Bx b1 [(.int .i64 y2_0), (h4).v], E (List (List Int)) y2_1 h4, Bx b2 [(.int .i64 y3_0_0), (h5).v, (h6).v, (h7).v], E (List (Int × Int × List Int × List Int)) y3_0_1 h5, E (List Int) y3_0_2 h6, E (List Int) y3_0_3 h7, Gl 0 [.int .i64 2, .int .i64 3, .int .i64 5, .int .i64 7]]) ?_ ?_
  ·
   refine loadN [(.int .i64 y3_0_0), (h5).v, (h6).v, (h7).v] rfl (fun j u hj => H.bx 0 rfl hj) ?_
   refine loadN [(.int .i64 y1_0_0), (h1).v, (h2).v, (h3).v] rfl (fun j u hj => H.bx 6 rfl hj) ?_
   obtain ⟨y4, e, f8⟩ := bindS f6; clear f6
   have i4 := e; clear e
   refine callF (laws_eqGraph_c y3_0_0 y3_0_1 h5 y3_0_2 h6 y3_0_3 h7 y1_0_0 y1_0_1 h1 y1_0_2 h2 y1_0_3 h3 y4 i4) (Γi := []) H ⟨Vw.own 1 rfl, Vw.own 2 rfl, Vw.own 3 rfl, Vw.sh 7 rfl, Vw.sh 8 rfl, Vw.sh 9 rfl, trivial⟩ ?_; clear H i4
   rintro _ _ w13 ⟨rfl, rfl⟩ H
   obtain ⟨a0, e, f9⟩ := bindS f8; clear f8
   refine boolO e ?_; clear e
   cases a0
   ·
    have f10 := condF f9; clear f9
    obtain ⟨a1, e, f11⟩ := bindS f10; clear f10
    refine boolO e ?_; clear e
    exact ⟨a1, ⟨rfl, rfl, rfl, rfl, rfl, rfl, rfl, rfl, trivial⟩, Option.some.inj f11, H.sel [11, 12, 6, 7, 8, 9, 4, 5, 0, 1, 2, 3, 13] rfl⟩
   ·
    have f12 := condT f9; clear f9
    exact ⟨true, ⟨rfl, rfl, rfl, rfl, rfl, rfl, rfl, rfl, trivial⟩, Option.some.inj f12, H.sel [11, 12, 6, 7, 8, 9, 4, 5, 0, 1, 2, 3, 13] rfl⟩
  ·
   clear f6 H
   rintro T0 s0 w15 ⟨hr, (H : Cx w0 fp0 S0 w15 [Bx b4 [(.int .i64 aM__0), (aM__1h).v], Es (List (List Int)) aM__1 aM__1h, Bx b0 [(.int .i64 y1_0_0), (h1).v, (h2).v, (h3).v], Es (List (Int × Int × List Int × List Int)) y1_0_1 h1, Es (List Int) y1_0_2 h2, Es (List Int) y1_0_3 h3, Bx b1 [(.int .i64 y2_0), (h4).v], E (List (List Int)) y2_1 h4, Bx b2 [(.int .i64 y3_0_0), (h5).v, (h6).v, (h7).v], E (List (Int × Int × List Int × List Int)) y3_0_1 h5, E (List Int) y3_0_2 h6, E (List Int) y3_0_3 h7, Gl 0 [.int .i64 2, .int .i64 3, .int .i64 5, .int .i64 7]])⟩
   subst hr
   cases s0
   ·
    have f13 := condF f7; clear f7
    refine sq ?_
    refine heldX H [] (.fst 0 (.fst 1 (.act 2 (.act 3 (.fst 4 .done))))) mixed [] trivial (by kernel_rfl) ?_
    clear H; intro w16 H
    have hX : Ext w16 w16 := Upd.refl _ _
    have H0 := H
    refine loadNX [(.int .i64 y2_0), (h4).v] rfl (fun j u hj => H.bx 6 rfl hj) ?_
    refine loadNX [(.int .i64 aM__0), (aM__1h).v] rfl (fun j u hj => H.bx 0 rfl hj) ?_
    obtain ⟨y5, e, f14⟩ := bindS f13; clear f13
    obtain ⟨y5_0, y5_1⟩ := y5
    have i5 := e; clear e
    refine callFx (laws_toMatrix_c aM__0 aM__1 aM__1h y5_0 y5_1 i5) H ⟨Vw.sh 1 rfl, trivial⟩ ?_; clear H i5
    rintro _ _ w17 ⟨h8, rfl, rfl⟩ hx H
    replace hX := hX.trans0 hx; clear hx
    refine hold hX ?_
    obtain ⟨y7, e, f15⟩ := bindS f14; clear f14
    have i6 := e; clear e
    refine callFx (laws_eqMatrix_c y2_0 y2_1 h4 y5_0 y5_1 h8 y7 i6) H ⟨Vw.own 8 rfl, Vw.own 0 rfl, trivial⟩ ?_; clear H i6
    rintro _ _ w18 ⟨rfl, rfl⟩ hx H
    replace hX := hX.trans0 hx; clear hx
    refine hold hX ?_
    obtain ⟨a2, e, f16⟩ := bindS f15; clear f15
    refine boolO e ?_; clear e
    cases a2
    ·
     have f17 := condF f16; clear f16
     refine loadN [(.int .i64 y2_0), (h4).v] rfl (fun j u hj => H.bx 7 rfl hj) ?_
     obtain ⟨y8, e, f18⟩ := bindS f17; clear f17
     obtain ⟨⟨y8_0_0, y8_0_1⟩, y8_1⟩ := y8
     have i7 := e; clear e
     replace H := H.sel [8, 0, 1, 2, 3, 4, 5, 6, 7, 9, 10, 11, 12, 13] rfl
     refine callF (laws_markMatrix_c y2_0 y2_1 h4 1 y8_0_0 y8_0_1 y8_1 i7) (Γi := [E (List (List Int)) y2_1 h4]) H trivial ?_; clear H i7
     rintro _ _ w20 ⟨rfl, rfl⟩ H
     refine sq ?_
     obtain ⟨r1, f19, f20⟩ := bindS f18; clear f18
     refine cut (fun (q1 : Bool) => [(0, (.int .i64 aP_)), (3, (.pointer (some ⟨b4, 0, none⟩))), (6, (.pointer (some ⟨b0, 0, none⟩))), (7, (.bool y1_1)), (9, (.pointer (some ⟨b2, 0, none⟩))), (65, (.bool q1))]) (fun (q1 : Bool) w' => q1 = r1 ∧ Cx w0 fp0 S0 w' [Bx b4 [(.int .i64 aM__0), (aM__1h).v], Es (List (List Int)) aM__1 aM__1h, Bx b0 [(.int .i64 y1_0_0), (h1).v, (h2).v, (h3).v], Es (List (Int × Int × List Int × List Int)) y1_0_1 h1, Es (List Int) y1_0_2 h2, Es (List Int) y1_0_3 h3, Bx b2 [(.int .i64 y3_0_0), (h5).v, (h6).v, (h7).v], E (List (Int × Int × List Int × List Int)) y3_0_1 h5, E (List Int) y3_0_2 h6, E (List Int) y3_0_3 h7, Gl 0 [.int .i64 2, .int .i64 3, .int .i64 5, .int .i64 7]]) ?_ ?_
     ·
      obtain ⟨a3, e, f21⟩ := bindS f19; clear f19
      refine boolO e ?_; clear e
      cases a3
      ·
       have f22 := condF f21; clear f21
       refine loadN [(.int .i64 y3_0_0), (h5).v, (h6).v, (h7).v] rfl (fun j u hj => H.bx 9 rfl hj) ?_
       refine loadN [(.int .i64 y1_0_0), (h1).v, (h2).v, (h3).v] rfl (fun j u hj => H.bx 4 rfl hj) ?_
       obtain ⟨y9, e, f23⟩ := bindS f22; clear f22
       have i8 := e; clear e
       refine callF (laws_eqGraph_c y3_0_0 y3_0_1 h5 y3_0_2 h6 y3_0_3 h7 y1_0_0 y1_0_1 h1 y1_0_2 h2 y1_0_3 h3 y9 i8) (Γi := []) H ⟨Vw.own 10 rfl, Vw.own 11 rfl, Vw.own 12 rfl, Vw.sh 5 rfl, Vw.sh 6 rfl, Vw.sh 7 rfl, trivial⟩ ?_; clear H i8
       rintro _ _ w21 ⟨rfl, rfl⟩ H
       obtain ⟨a4, e, f24⟩ := bindS f23; clear f23
       refine boolO e ?_; clear e
       cases a4
       ·
        have f25 := condF f24; clear f24
        obtain ⟨a5, e, f26⟩ := bindS f25; clear f25
        refine boolO e ?_; clear e
        exact ⟨a5, ⟨rfl, rfl, rfl, rfl, rfl, rfl, trivial⟩, Option.some.inj f26, H.sel [2, 3, 4, 5, 6, 7, 9, 10, 11, 12, 13] rfl⟩
       ·
        have f27 := condT f24; clear f24
        exact ⟨true, ⟨rfl, rfl, rfl, rfl, rfl, rfl, trivial⟩, Option.some.inj f27, H.sel [2, 3, 4, 5, 6, 7, 9, 10, 11, 12, 13] rfl⟩
      ·
       have f28 := condT f21; clear f21
       exact ⟨true, ⟨rfl, rfl, rfl, rfl, rfl, rfl, trivial⟩, Option.some.inj f28, H.sel [2, 3, 4, 5, 6, 7, 9, 10, 11, 12, 13] rfl⟩
     ·
      clear f19 H
      rintro T1 s1 w22 ⟨hr, (H : Cx w0 fp0 S0 w22 [Bx b4 [(.int .i64 aM__0), (aM__1h).v], Es (List (List Int)) aM__1 aM__1h, Bx b0 [(.int .i64 y1_0_0), (h1).v, (h2).v, (h3).v], Es (List (Int × Int × List Int × List Int)) y1_0_1 h1, Es (List Int) y1_0_2 h2, Es (List Int) y1_0_3 h3, Bx b2 [(.int .i64 y3_0_0), (h5).v, (h6).v, (h7).v], E (List (Int × Int × List Int × List Int)) y3_0_1 h5, E (List Int) y3_0_2 h6, E (List Int) y3_0_3 h7, Gl 0 [.int .i64 2, .int .i64 3, .int .i64 5, .int .i64 7]])⟩
      subst hr
      cases s1
      ·
       have f29 := condF f20; clear f20
       refine loadN [(.int .i64 y3_0_0), (h5).v, (h6).v, (h7).v] rfl (fun j u hj => H.bx 6 rfl hj) ?_
       obtain ⟨y10, e, f30⟩ := bindS f29; clear f29
       obtain ⟨⟨y10_0_0, y10_0_1, y10_0_2, y10_0_3⟩, y10_1⟩ := y10
       have i9 := e; clear e
       replace H := H.sel [7, 8, 9, 0, 1, 2, 3, 4, 5, 6, 10] rfl
       refine callF (laws_markGraph_c y3_0_0 y3_0_1 h5 y3_0_2 h6 y3_0_3 h7 1 y10_0_0 y10_0_1 y10_0_2 y10_0_3 y10_1 i9) (Γi := [E (List (Int × Int × List Int × List Int)) y3_0_1 h5, E (List Int) y3_0_2 h6, E (List Int) y3_0_3 h7]) H trivial ?_; clear H i9
       rintro _ _ w23 ⟨rfl, rfl⟩ H
       refine loadN [(.int .i64 y3_0_0), (h5).v, (h6).v, (h7).v] rfl (fun j u hj => H.bx 9 rfl hj) ?_
       obtain ⟨y11, e, f31⟩ := bindS f30; clear f30
       have i10 := e; clear e
       refine callF (laws_heldGraph_c y3_0_0 y10_0_1 h5 y10_0_2 h6 y10_0_3 h7 1 y11 i10) (Γi := []) H ⟨Vw.own 0 rfl, Vw.own 1 rfl, Vw.own 2 rfl, trivial⟩ ?_; clear H i10
       rintro _ _ w24 ⟨rfl, rfl⟩ H
       refine sq ?_
       obtain ⟨a6, e, f32⟩ := bindS f31; clear f31
       refine boolO e ?_; clear e
       cases a6
       ·
        have f33 := condF f32; clear f32
        refine sq ?_
        obtain ⟨a7, e, f34⟩ := bindS f33; clear f33
        refine boolO e ?_; clear e
        cases a7
        ·
         have f35 := condF f34; clear f34
         refine loadN [(.int .i64 aM__0), (aM__1h).v] rfl (fun j u hj => H.bx 3 rfl hj) ?_
         obtain ⟨y13, e, f36⟩ := bindS f35; clear f35
         obtain ⟨y13_0, y13_1⟩ := y13
         have i11 := e; clear e
         refine callF (laws_toMatrix_c aM__0 aM__1 aM__1h y13_0 y13_1 i11) (Γi := []) H ⟨Vw.sh 4 rfl, trivial⟩ ?_; clear H i11
         rintro _ _ w25 ⟨h9, rfl, rfl⟩ H
         obtain ⟨y14, e, f37⟩ := bindS f36; clear f36
         obtain ⟨⟨y14_0_0, y14_0_1, y14_0_2, y14_0_3⟩, y14_1⟩ := y14
         have i12 := e; clear e
         refine callF (impl_MatrixGraph_c aP_ y13_0 y13_1 h9 y14_0_0 y14_0_1 y14_0_2 y14_0_3 y14_1 i12) (Γi := []) H ⟨Vw.own 0 rfl, Vw.gl 11 rfl, trivial⟩ ?_; clear H i12
         rintro _ _ w27 ⟨h10, h11, h12, rfl, rfl⟩ H
         refine alloc_ gok rfl H ?_; clear H; intro b3 w28 hx H
         clear hx
         refine stA gok [(.int .i64 y14_0_0), (h10).v, (h11).v, (h12).v] rfl H rfl rfl rfl ?_; clear H; intro w30 H
         refine sq ?_
         obtain ⟨r2, f38, f39⟩ := bindS f37; clear f37
         refine cut (fun (q2 : Bool) => [(9, (.pointer (some ⟨b2, 0, none⟩))), (12, (.int .i64 y10_1)), (92, (.bool q2))]) (fun (q2 : Bool) w' => q2 = r2 ∧ Cx w0 fp0 S0 w' [Bx b2 [(.int .i64 y3_0_0), (h5).v, (h6).v, (h7).v], E (List (Int × Int × List Int × List Int)) y10_0_1 h5, E (List Int) y10_0_2 h6, E (List Int) y10_0_3 h7, Gl 0 [.int .i64 2, .int .i64 3, .int .i64 5, .int .i64 7]]) ?_ ?_
         ·
          refine loadN [(.int .i64 y14_0_0), (h10).v, (h11).v, (h12).v] rfl (fun j u hj => H.bx 0 rfl hj) ?_
          refine loadN [(.int .i64 y1_0_0), (h1).v, (h2).v, (h3).v] rfl (fun j u hj => H.bx 10 rfl hj) ?_
          obtain ⟨y15, e, f40⟩ := bindS f38; clear f38
          have i13 := e; clear e
          refine callF (laws_eqGraph_c y14_0_0 y14_0_1 h10 y14_0_2 h11 y14_0_3 h12 y1_0_0 y1_0_1 h1 y1_0_2 h2 y1_0_3 h3 y15 i13) (Γi := []) H ⟨Vw.own 1 rfl, Vw.own 2 rfl, Vw.own 3 rfl, Vw.sh 11 rfl, Vw.sh 12 rfl, Vw.sh 13 rfl, trivial⟩ ?_; clear H i13
          rintro _ _ w31 ⟨rfl, rfl⟩ H
          obtain ⟨a8, e, f41⟩ := bindS f40; clear f40
          refine boolO e ?_; clear e
          cases a8
          ·
           have f42 := condF f41; clear f41
           obtain ⟨a10, e, f43⟩ := bindS f42; clear f42
           refine boolO e ?_; clear e
           exact ⟨a10, ⟨rfl, rfl, rfl, trivial⟩, Option.some.inj f43, H.sel [14, 5, 6, 7, 15] rfl⟩
          ·
           have f44 := condT f41; clear f41
           exact ⟨true, ⟨rfl, rfl, rfl, trivial⟩, Option.some.inj f44, H.sel [14, 5, 6, 7, 15] rfl⟩
         ·
          clear f38 H
          rintro T2 s2 w33 ⟨hr, (H : Cx w0 fp0 S0 w33 [Bx b2 [(.int .i64 y3_0_0), (h5).v, (h6).v, (h7).v], E (List (Int × Int × List Int × List Int)) y10_0_1 h5, E (List Int) y10_0_2 h6, E (List Int) y10_0_3 h7, Gl 0 [.int .i64 2, .int .i64 3, .int .i64 5, .int .i64 7]])⟩
          subst hr
          cases s2
          ·
           have f45 := condF f39; clear f39
           refine loadN [(.int .i64 y3_0_0), (h5).v, (h6).v, (h7).v] rfl (fun j u hj => H.bx 0 rfl hj) ?_
           obtain ⟨y16, e, f46⟩ := bindS f45; clear f45
           have i14 := e; clear e
           refine callF (laws_heldGraph_c y3_0_0 y10_0_1 h5 y10_0_2 h6 y10_0_3 h7 1 y16 i14) (Γi := []) H ⟨Vw.own 1 rfl, Vw.own 2 rfl, Vw.own 3 rfl, trivial⟩ ?_; clear H i14
           rintro _ _ w34 ⟨rfl, rfl⟩ H
           refine sq ?_
           obtain ⟨a11, e, f47⟩ := bindS f46; clear f46
           refine boolO e ?_; clear e
           cases a11
           ·
            have f48 := condF f47; clear f47
            refine sq ?_
            obtain ⟨a12, e, f49⟩ := bindS f48; clear f48
            refine boolO e ?_; clear e
            cases a12
            ·
             have f50 := condF f49; clear f49
             cases f50
             exact ⟨_, _, rfl, ⟨rfl, rfl⟩, (H.sel [] rfl).close trivial⟩
            ·
             have f51 := condT f49; clear f49
             cases f51
             exact ⟨_, _, rfl, ⟨rfl, rfl⟩, (H.sel [] rfl).close trivial⟩
           ·
            have f52 := condT f47; clear f47
            cases f52
            exact ⟨_, _, rfl, ⟨rfl, rfl⟩, (H.sel [] rfl).close trivial⟩
          ·
           have f53 := condT f39; clear f39
           cases f53
           exact ⟨_, _, rfl, ⟨rfl, rfl⟩, (H.sel [] rfl).close trivial⟩
        ·
         have f54 := condT f34; clear f34
         cases f54
         exact ⟨_, _, rfl, ⟨rfl, rfl⟩, (H.sel [] rfl).close trivial⟩
       ·
        have f55 := condT f32; clear f32
        cases f55
        exact ⟨_, _, rfl, ⟨rfl, rfl⟩, (H.sel [] rfl).close trivial⟩
      ·
       have f56 := condT f20; clear f20
       cases f56
       exact ⟨_, _, rfl, ⟨rfl, rfl⟩, (H.sel [] rfl).close trivial⟩
    ·
     have f57 := condT f16; clear f16
     cases f57
     exact ⟨_, _, rfl, ⟨rfl, rfl⟩, (H.sel [] rfl).close trivial⟩
   ·
    have f58 := condT f7; clear f7
    cases f58
    exact ⟨_, _, rfl, ⟨rfl, rfl⟩, (H.sel [] rfl).close trivial⟩
 ·
  have f59 := condT f0; clear f0
  cases f59
  exact ⟨_, _, rfl, ⟨rfl, rfl⟩, (H.sel [] rfl).close trivial⟩
end Go.Proofs.YtbofgnbanmbopaaGreatDoor
