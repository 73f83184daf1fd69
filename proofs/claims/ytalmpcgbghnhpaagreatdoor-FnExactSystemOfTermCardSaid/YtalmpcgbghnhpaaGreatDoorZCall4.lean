/-
 Contracts, printed by a program (wip/y/gen.py): each function of Go computes its partial function. Condition of each: its partial function yields a value.
-/
import Derived.Test.YtalmpcgbghnhpaaGreatDoorZCall3
namespace Go.Proofs.YtalmpcgbghnhpaaGreatDoor
open Go Go.Proofs.YtalmpcgbghnhpaaGreatDoor.RW
set_option maxRecDepth 100000
set_option linter.unusedVariables false

theorem impl_parGraphs_c (a__0 : Int) (a__1 : List (Int × Int × List Int × List Int)) (a__1h : Hd) (a__2 : List Int) (a__2h : Hd) (a__3 : List Int) (a__3h : Hd) (b__0 : Int) (b__1 : List (Int × Int × List Int × List Int)) (b__1h : Hd) (b__2 : List Int) (b__2h : Hd) (b__3 : List Int) (b__3h : Hd) (y_0 : Int) (y_1 : List (Int × Int × List Int × List Int)) (y_2 : List Int) (y_3 : List Int) (hF : F_impl_parGraphs (a__0, a__1, a__2, a__3) (b__0, b__1, b__2, b__3) = some (y_0, y_1, y_2, y_3)) :
  ConF Tryz.prog 37 #[(.agg #[(.int .i64 a__0), (a__1h).v, (a__2h).v, (a__3h).v]), (.agg #[(.int .i64 b__0), (b__1h).v, (b__2h).v, (b__3h).v])] [Es (List (Int × Int × List Int × List Int)) a__1 a__1h, Es (List Int) a__2 a__2h, Es (List Int) a__3 a__3h, Es (List (Int × Int × List Int × List Int)) b__1 b__1h, Es (List Int) b__2 b__2h, Es (List Int) b__3 b__3h] [] (fun v Γ' => ∃ z0 z1 z2 : Hd, v = (.agg #[(.int .i64 y_0), (z0).v, (z1).v, (z2).v]) ∧ Γ' = [E (List (Int × Int × List Int × List Int)) y_1 z0, E (List Int) y_2 z1, E (List Int) y_3 z2]) := by
 intro w0 S0 fp0 hI hS
 have H : Cx w0 fp0 S0 w0 [Es (List (Int × Int × List Int × List Int)) a__1 a__1h, Es (List Int) a__2 a__2h, Es (List Int) a__3 a__3h, Es (List (Int × Int × List Int × List Int)) b__1 b__1h, Es (List Int) b__2 b__2h, Es (List Int) b__3 b__3h] := Cx.start hI hS
 clear hI hS
 refine enterC (args := [_, _]) gok Tryz.func37 rfl _ rfl rfl rfl ?_
 refine box_ H ?_; clear H; intro b8 w7 hx H
 clear hx
 refine box_ H ?_; clear H; intro b0 w1 hx H
 clear hx
 refine alloc_ gok rfl H ?_; clear H; intro b1 w2 hx H
 clear hx
 refine loadN [(.int .i64 a__0), (a__1h).v, (a__2h).v, (a__3h).v] rfl (fun j u hj => H.bx 2 rfl hj) ?_
 refine loadN [(.int .i64 b__0), (b__1h).v, (b__2h).v, (b__3h).v] rfl (fun j u hj => H.bx 1 rfl hj) ?_
 obtain ⟨y0, e, f0⟩ := bindS hF; clear hF
 obtain ⟨y0_0, y0_1, y0_2, y0_3⟩ := y0
 have i0 := e; clear e
 refine callF (impl_Graph_beside_c a__0 a__1 a__1h a__2 a__2h a__3 a__3h b__0 b__1 b__1h b__2 b__2h b__3 b__3h y0_0 y0_1 y0_2 y0_3 i0) (Γi := []) H ⟨Vw.sh 3 rfl, Vw.sh 4 rfl, Vw.sh 5 rfl, Vw.sh 6 rfl, Vw.sh 7 rfl, Vw.sh 8 rfl, trivial⟩ ?_; clear H i0
 rintro _ _ w3 ⟨h0, h1, h2, rfl, rfl⟩ H
 refine alloc_ gok rfl H ?_; clear H; intro b2 w4 hx H
 clear hx
 refine stA gok [(.int .i64 y0_0), (h0).v, (h1).v, (h2).v] rfl H rfl rfl rfl ?_; clear H; intro w5 H
 refine fld gok rfl rfl rfl rfl ?_
 refine load1 (H.bx 6 rfl (j := 0) rfl) ?_
 refine fld gok rfl rfl rfl rfl ?_
 refine load1 (H.bx 5 rfl (j := 0) rfl) ?_
 obtain ⟨y1, e, f1⟩ := bindS f0; clear f0
 have i1 := e; clear e
 refine callF (impl_from_c a__0 b__0 y1 i1) (Γi := []) H trivial ?_; clear H i1
 rintro _ _ w6 ⟨h3, rfl, rfl⟩ H
 refine heldX H [17, 19, 18] (.fst 0 (.fst 2 (.fst 4 (.fst 8 (.fst 10 (.fst 12 (.fst 1 (.fst 3 (.fst 9 (.fst 11 (.act 5 (.act 6 (.act 7 (.fst 16 (.act 13 (.act 14 (.act 15 (.act 17 (.act 18 (.act 19 .done)))))))))))))))))))) mixed [] trivial (by kernel_rfl) ?_
 clear H; intro w8 H
 have hX : Ext w8 w8 := Upd.refl _ _
 have H0 := H
 refine anyH (fun _ => fld gok rfl rfl rfl rfl ⟨rfl, rfl⟩) ?_
 refine anyH (fun _ => fld gok rfl rfl rfl rfl ⟨rfl, rfl⟩) ?_
 refine anyH (fun _ => fld gok rfl rfl rfl rfl ⟨rfl, rfl⟩) ?_
 refine anyH (fun _ => fld gok rfl rfl rfl rfl ⟨rfl, rfl⟩) ?_
 refine load1X (H.bx 7 rfl (j := 2) rfl) ?_
 refine load1X (H.bx 6 rfl (j := 2) rfl) ?_
 refine load1X (H.bx 7 rfl (j := 3) rfl) ?_
 refine load1X (H.bx 6 rfl (j := 3) rfl) ?_
 obtain ⟨y2, e, f2⟩ := bindS f1; clear f1
 have i2 := e; clear e
 refine callFx (impl_mapped_c b__2 b__2h y1 h3 y2 i2) H ⟨Vw.sh 12 rfl, Vw.own 0 rfl, trivial⟩ ?_; clear H i2
 rintro _ _ w9 ⟨h4, rfl, rfl⟩ hx H
 replace hX := hX.trans0 hx; clear hx
 refine hold hX ?_
 replace H := H.frz
 replace H := H.dup 0 rfl persS
 replace H := H.dup 11 rfl persS
 refine litN (α := Sh (List Int)) (us := [(a__2h).v, (h4).v]) (xs := [a__2, y2]) (gs := [a__2h, h4]) gok rfl rfl rfl ⟨rfl, rfl, trivial⟩ rfl rfl H ?_; clear H; intro h5 w11 hx H
 replace hX := hX.trans0 hx; clear hx
 refine hold hX ?_
 obtain ⟨y3, e, f3⟩ := bindS f2; clear f2
 have i3 := e; clear e
 refine callFx (impl_joined_c [a__2, y2] h5 y3 i3) H ⟨Vw.part (β := List (List Int)) (Vw.own (α := List (Sh (List Int))) 0 rfl) [a__2, y2] h5 (fun S h => h), trivial⟩ ?_; clear H i3
 rintro _ _ w12 ⟨h6, rfl, rfl⟩ hx H
 replace hX := hX.trans0 hx; clear hx
 refine hold hX ?_
 refine anyH (fun _ => fld gok rfl rfl rfl rfl ⟨rfl, rfl⟩) ?_
 obtain ⟨y4, e, f4⟩ := bindS f3; clear f3
 have i4 := e; clear e
 refine callFx (impl_mapped_c b__3 b__3h y1 h3 y4 i4) H ⟨Vw.sh 16 rfl, Vw.own 3 rfl, trivial⟩ ?_; clear H i4
 rintro _ _ w14 ⟨h7, rfl, rfl⟩ hx H
 replace hX := hX.trans0 hx; clear hx
 refine hold hX ?_
 replace H := H.frz
 replace H := H.dup 0 rfl persS
 replace H := H.dup 15 rfl persS
 refine litN (α := Sh (List Int)) (us := [(a__3h).v, (h7).v]) (xs := [a__3, y4]) (gs := [a__3h, h7]) gok rfl rfl rfl ⟨rfl, rfl, trivial⟩ rfl rfl H ?_; clear H; intro h8 w15 hx H
 replace hX := hX.trans0 hx; clear hx
 refine hold hX ?_
 obtain ⟨y5, e, f5⟩ := bindS f4; clear f4
 have i5 := e; clear e
 refine callFx (impl_joined_c [a__3, y4] h8 y5 i5) H ⟨Vw.part (β := List (List Int)) (Vw.own (α := List (Sh (List Int))) 0 rfl) [a__3, y4] h8 (fun S h => h), trivial⟩ ?_; clear H i5
 rintro _ _ w16 ⟨h9, rfl, rfl⟩ hx H
 replace hX := hX.trans0 hx; clear hx
 refine hold hX ?_
 replace H := H.sel [7, 0, 1, 2, 3, 4, 5, 6, 8, 9, 10, 11, 12, 13, 14, 15, 16, 17, 18, 19] rfl
 refine stB (j := 2) H rfl rfl ?_; clear H; intro w17 H
 refine hold trivial ?_
 refine fld gok rfl rfl rfl rfl ?_
 refine hold trivial ?_
 refine stB (j := 3) H rfl rfl ?_; clear H; intro w19 H
 refine hold trivial ?_
 refine loadN [(.int .i64 y0_0), (h0).v, (h6).v, (h9).v] rfl (fun j u hj => H.bx 0 rfl hj) ?_
 replace H := H.sel [11, 0, 1, 2, 3, 4, 5, 6, 7, 8, 9, 10, 12, 13, 14, 15, 16, 17, 18, 19] rfl
 refine stA gok [(.int .i64 y0_0), (h0).v, (h6).v, (h9).v] rfl H rfl rfl rfl ?_; clear H; intro w20 H
 refine loadN [(.int .i64 y0_0), (h0).v, (h6).v, (h9).v] rfl (fun j u hj => H.bx 0 rfl hj) ?_
 cases f5
 exact ⟨_, _, rfl, ⟨h0, h6, h9, rfl, rfl⟩, (H.sel [9, 5, 2] rfl).close ⟨cloE, cloE, cloE, trivial⟩⟩

theorem impl_identityGraph_c (n_ : Int) (y_0 : Int) (y_1 : List (Int × Int × List Int × List Int)) (y_2 : List Int) (y_3 : List Int) (hF : F_impl_identityGraph n_ = some (y_0, y_1, y_2, y_3)) :
  ConF Tryz.prog 72 #[(.int .i64 n_)] [] [] (fun v Γ' => ∃ z0 z1 z2 : Hd, v = (.agg #[(.int .i64 y_0), (z0).v, (z1).v, (z2).v]) ∧ Γ' = [E (List (Int × Int × List Int × List Int)) y_1 z0, E (List Int) y_2 z1, E (List Int) y_3 z2]) := by
 intro w0 S0 fp0 hI hS
 have H : Cx w0 fp0 S0 w0 [] := Cx.start hI hS
 clear hI hS
 refine enterC (args := [_]) gok Tryz.func72 rfl _ rfl rfl rfl ?_
 refine alloc_ gok rfl H ?_; clear H; intro b2 w1 hx H
 clear hx
 obtain ⟨y4, e, hF5⟩ := bindS hF; clear hF
 have ey4 := e; clear e
 refine callF (impl_upTo_c n_ y4 ey4) (Γi := []) H trivial ?_; clear H ey4
 rintro _ _ w6 ⟨h7, rfl, rfl⟩ H
 obtain ⟨y9, e, f0⟩ := bindS hF5; clear hF5
 have ey9 := e; clear e
 refine callF (impl_upTo_c n_ y9 ey9) (Γi := []) H trivial ?_; clear H ey9
 rintro _ _ w2 ⟨h0, rfl, rfl⟩ H
 refine build_ (cs := #[(.int .i64 n_), (.slice none 0 0), (h7).v, (h0).v]) gok rfl rfl rfl ?_
 replace H := H.sel [2, 0, 1] rfl
 refine stA gok [(.int .i64 n_), (.slice none 0 0), (h7).v, (h0).v] rfl H rfl rfl rfl ?_; clear H; intro w3 H
 refine loadN [(.int .i64 n_), (.slice none 0 0), (h7).v, (h0).v] rfl (fun j u hj => H.bx 0 rfl hj) ?_
 replace H := H.nil (α := Int × Int × List Int × List Int)
 cases f0
 exact ⟨_, _, rfl, ⟨nilH, h7, h0, rfl, rfl⟩, (H.sel [0, 3, 2] rfl).close ⟨cloE, cloE, cloE, trivial⟩⟩

theorem impl_leafGraph_c (n__0 : Int) (n__1 : Int) (n__2 : ByteArray) (y_0 : Int) (y_1 : List (Int × Int × List Int × List Int)) (y_2 : List Int) (y_3 : List Int) (hF : F_impl_leafGraph (n__0, n__1, n__2) = some (y_0, y_1, y_2, y_3)) :
  ConF Tryz.prog 38 #[(.agg #[(.int .i64 n__0), (.int .i64 n__1), (.string n__2)])] [] [] (fun v Γ' => ∃ z0 z1 z2 : Hd, v = (.agg #[(.int .i64 y_0), (z0).v, (z1).v, (z2).v]) ∧ Γ' = [E (List (Int × Int × List Int × List Int)) y_1 z0, E (List Int) y_2 z1, E (List Int) y_3 z2]) := by
 intro w0 S0 fp0 hI hS
 have H : Cx w0 fp0 S0 w0 [] := Cx.start hI hS
 clear hI hS
 refine enterC (args := [_]) gok Tryz.func38 rfl _ rfl rfl rfl ?_
 refine box_ H ?_; clear H; intro b2 w1 hx H
 clear hx
 refine alloc_ gok rfl H ?_; clear H; intro b5 w4 hx H
 clear hx
 refine sq ?_
 refine fld gok rfl rfl rfl rfl ?_
 refine load1 (H.bx 1 rfl (j := 0) rfl) ?_
 obtain ⟨a7, e, hF8⟩ := bindS hF; clear hF
 refine boolO e ?_; clear e
 cases a7
 ·
  have hF9 := condF hF8; clear hF8
  obtain ⟨a0, e, f0⟩ := bindS hF9; clear hF9
  refine boolO e ?_; clear e
  cases a0
  ·
   have f1 := condF f0; clear f0
   refine fld gok rfl rfl rfl rfl ?_
   refine load1 (H.bx 1 rfl (j := 0) rfl) ?_
   obtain ⟨y0, e, f2⟩ := bindS f1; clear f1
   obtain ⟨y0_0, y0_1⟩ := y0
   have i0 := e; clear e
   refine callF (impl_generatorWires_c n__0 y0_0 y0_1 i0) (Γi := []) H trivial ?_; clear H i0
   rintro _ _ w2 ⟨rfl, rfl⟩ H
   refine alloc_ gok rfl H ?_; clear H; intro b0 w3 hx H
   clear hx
   refine stA gok [(.int .i64 y0_0), (.int .i64 y0_1)] rfl H rfl rfl rfl ?_; clear H; intro w5 H
   refine heldX H [] (.fst 0 (.fst 3 (.fst 5 (.fst 1 (.fst 4 (.fst 6 (.act 2 (.act 7 (.fst 8 (.fst 9 .done)))))))))) mixed [] trivial (by kernel_rfl) ?_
   clear H; intro w6 H
   have hX : Ext w6 w6 := Upd.refl _ _
   have H0 := H
   refine anyH (fun _ => fld gok rfl rfl rfl rfl ⟨rfl, rfl⟩) ?_
   refine anyH (fun _ => fld gok rfl rfl rfl rfl ⟨rfl, rfl⟩) ?_
   refine anyH (fun _ => fld gok rfl rfl rfl rfl ⟨rfl, rfl⟩) ?_
   refine load1X (H.bx 0 rfl (j := 0) rfl) ?_
   refine load1X (H.bx 0 rfl (j := 0) rfl) ?_
   refine load1X (H.bx 0 rfl (j := 1) rfl) ?_
   obtain ⟨y1, e, f3⟩ := bindS f2; clear f2
   have i1 := e; clear e
   refine callFx (impl_upTo_c y0_0 y1 i1) H trivial ?_; clear H i1
   rintro _ _ w7 ⟨h0, rfl, rfl⟩ hx H
   replace hX := hX.trans0 hx; clear hx
   refine hold hX ?_
   obtain ⟨y2, e, f4⟩ := bindS f3; clear f3
   have i2 := e; clear e
   refine callFx (impl_from_c y0_0 y0_1 y2 i2) H trivial ?_; clear H i2
   rintro _ _ w8 ⟨h1, rfl, rfl⟩ hx H
   replace hX := hX.trans0 hx; clear hx
   refine hold hX ?_
   obtain ⟨r0, f5, f6⟩ := bindS f4; clear f4
   refine heldJ H [18] (.fst 0 (.fst 2 (.fst 5 (.fst 7 (.fst 9 (.fst 10 (.fst 13 (.fst 15 (.fst 1 (.fst 3 (.fst 4 (.fst 6 (.fst 8 (.fst 11 (.alts (.alt 12 (.act 14 (.act 16 (.fst 17 (.act 18 .done)))) (.alt 14 (.alts (.alt 12 (.act 16 (.fst 17 (.act 18 .done))) (.alt 16 (.act 12 (.fst 17 (.act 18 .done))) .no))) .no))))))))))))))))) mixed [] trivial (by kernel_rfl) (fun (q0 : (Int × (List (Int × Int × List Int × List Int)) × List Int × List Int) × (Hd × Hd × Hd)) => [(2, (.pointer (some ⟨b5, 0, none⟩)))]) (fun (q0 : (Int × (List (Int × Int × List Int × List Int)) × List Int × List Int) × (Hd × Hd × Hd)) w' => (q0.1.1, q0.1.2.1, q0.1.2.2.1, q0.1.2.2.2) = r0 ∧ Cx w0 fp0 S0 w' [Bx b5 [(.int .i64 q0.1.1), (q0.2.1).v, (q0.2.2.1).v, (q0.2.2.2).v], E (List (Int × Int × List Int × List Int)) q0.1.2.1 q0.2.1, E (List Int) q0.1.2.2.1 q0.2.2.1, E (List Int) q0.1.2.2.2 q0.2.2.2]) ?_ ?_
   ·
    clear H; intro w9 H
    have hX : Ext w9 w9 := Upd.refl _ _
    have H0 := H
    refine anyH (fun _ => fld gok rfl rfl rfl rfl ⟨rfl, rfl⟩) ?_
    refine anyH (fun _ => fld gok rfl rfl rfl rfl ⟨rfl, rfl⟩) ?_
    refine anyH (fun _ => fld gok rfl rfl rfl rfl ⟨rfl, rfl⟩) ?_
    refine anyH (fun _ => fld gok rfl rfl rfl rfl ⟨rfl, rfl⟩) ?_
    refine load1X (H.bx 2 rfl (j := 0) rfl) ?_
    refine load1X (H.bx 2 rfl (j := 1) rfl) ?_
    obtain ⟨a1, e, f7⟩ := bindS f5; clear f5
    refine arO e ?_; clear e
    refine load1X (H.bx 4 rfl (j := 0) rfl) ?_
    refine load1X (H.bx 4 rfl (j := 1) rfl) ?_
    refine anyH (fun _ => build_ (cs := #[(.int .i64 n__0), (.int .i64 n__1), (h0).v, (h1).v]) gok rfl rfl rfl ⟨rfl, rfl⟩) ?_
    refine both ?_ ?_
    ·
     replace H := H.sel [1, 0, 2, 3, 4] rfl
     replace H := H.join (α := List Int) (β := List Int)
     replace H := H.sc (α := Int) n__1
     replace H := H.join (α := Int) (β := List Int × List Int)
     replace H := H.sc (α := Int) n__0
     replace H := H.join (α := Int) (β := Int × List Int × List Int)
     refine lit1K (α := Int × Int × List Int × List Int) (g := ((), (), h0, h1)) gok rfl rfl rfl rfl rfl H ?_; clear H; intro h2 w10 hx H
     replace hX := hX.trans0 hx; clear hx
     refine hold hX ?_
     obtain ⟨y3, e, f8⟩ := bindS f7; clear f7
     have i3 := e; clear e
     refine callFx (impl_clone_c y1 h0 y3 i3) H ⟨Vw.part (β := List Int) (Vw.eh (α := Int × Int × List Int × List Int) (k := ⟨0, (n__0, n__1, y1, y2), ((), (), h0, h1)⟩) 0 rfl 0 rfl) y1 (h0 : Hd) (fun S h => (And.left (And.right (And.right h)))), trivial⟩ ?_; clear H i3
     rintro _ _ w11 ⟨h3, rfl, rfl⟩ hx H
     replace hX := hX.trans0 hx; clear hx
     refine hold hX ?_
     obtain ⟨y4, e, f9⟩ := bindS f8; clear f8
     have i4 := e; clear e
     refine callFx (impl_clone_c y2 h1 y4 i4) H ⟨Vw.part (β := List Int) (Vw.eh (α := Int × Int × List Int × List Int) (k := ⟨0, (n__0, n__1, y1, y2), ((), (), h0, h1)⟩) 1 rfl 0 rfl) y2 (h1 : Hd) (fun S h => (And.right (And.right (And.right h)))), trivial⟩ ?_; clear H i4
     rintro _ _ w12 ⟨h4, rfl, rfl⟩ hx H
     replace hX := hX.trans0 hx; clear hx
     refine hold hX ?_
     refine anyH (fun _ => build_ (cs := #[(.int .i64 a1), (h2).v, (h3).v, (h4).v]) gok rfl rfl rfl ⟨rfl, rfl⟩) ?_
     replace H := H.sel [4, 0, 1, 2, 3, 5] rfl
     refine stA gok [(.int .i64 a1), (h2).v, (h3).v, (h4).v] rfl H rfl rfl rfl ?_; clear H; intro w13 H
     refine hold trivial ?_
     replace H := H.sel [3, 0, 1, 2, 4, 5] rfl
     replace H := H.ofEH
     exact ⟨((a1, [(n__0, n__1, y1, y2)], y3, y4), (h2, h3, h4)), ⟨rfl, trivial⟩, Option.some.inj f9, H.sel [1, 0, 3, 2] rfl⟩
    ·
     refine both ?_ ?_
     ·
      obtain ⟨a2, o0, f10⟩ := bindS f7; clear f7
      obtain ⟨a3, o1, f11⟩ := bindS f10; clear f10
      have e := o0; clear o0
      have i5 := e; clear e
      refine callFx (impl_clone_c y1 h0 a2 i5) H ⟨Vw.own 1 rfl, trivial⟩ ?_; clear H i5
      rintro _ _ w14 ⟨h5, rfl, rfl⟩ hx H
      replace hX := hX.trans0 hx; clear hx
      refine hold hX ?_
      refine both ?_ ?_
      ·
       replace H := H.sel [2, 1, 0, 3, 4, 5] rfl
       replace H := H.join (α := List Int) (β := List Int)
       replace H := H.sc (α := Int) n__1
       replace H := H.join (α := Int) (β := List Int × List Int)
       replace H := H.sc (α := Int) n__0
       replace H := H.join (α := Int) (β := Int × List Int × List Int)
       refine lit1K (α := Int × Int × List Int × List Int) (g := ((), (), h0, h1)) gok rfl rfl rfl rfl rfl H ?_; clear H; intro h6 w17 hx H
       replace hX := hX.trans0 hx; clear hx
       refine hold hX ?_
       have e := o1; clear o1
       have i6 := e; clear e
       refine callFx (impl_clone_c y2 h1 a3 i6) H ⟨Vw.part (β := List Int) (Vw.eh (α := Int × Int × List Int × List Int) (k := ⟨0, (n__0, n__1, y1, y2), ((), (), h0, h1)⟩) 0 rfl 0 rfl) y2 (h1 : Hd) (fun S h => (And.right (And.right (And.right h)))), trivial⟩ ?_; clear H i6
       rintro _ _ w18 ⟨h7, rfl, rfl⟩ hx H
       replace hX := hX.trans0 hx; clear hx
       refine hold hX ?_
       refine anyH (fun _ => build_ (cs := #[(.int .i64 a1), (h6).v, (h5).v, (h7).v]) gok rfl rfl rfl ⟨rfl, rfl⟩) ?_
       replace H := H.sel [4, 0, 1, 2, 3, 5] rfl
       refine stA gok [(.int .i64 a1), (h6).v, (h5).v, (h7).v] rfl H rfl rfl rfl ?_; clear H; intro w21 H
       refine hold trivial ?_
       replace H := H.sel [2, 0, 1, 3, 4, 5] rfl
       replace H := H.ofEH
       exact ⟨((a1, [(n__0, n__1, y1, y2)], a2, a3), (h6, h5, h7)), ⟨rfl, trivial⟩, Option.some.inj f11, H.sel [1, 0, 3, 2] rfl⟩
      ·
       refine both ?_ ?_
       ·
        have e := o1; clear o1
        have i6 := e; clear e
        refine callFx (impl_clone_c y2 h1 a3 i6) H ⟨Vw.own 1 rfl, trivial⟩ ?_; clear H i6
        rintro _ _ w22 ⟨h8, rfl, rfl⟩ hx H
        replace hX := hX.trans0 hx; clear hx
        refine hold hX ?_
        replace H := H.sel [3, 2, 0, 1, 4, 5, 6] rfl
        replace H := H.join (α := List Int) (β := List Int)
        replace H := H.sc (α := Int) n__1
        replace H := H.join (α := Int) (β := List Int × List Int)
        replace H := H.sc (α := Int) n__0
        replace H := H.join (α := Int) (β := Int × List Int × List Int)
        refine lit1K (α := Int × Int × List Int × List Int) (g := ((), (), h0, h1)) gok rfl rfl rfl rfl rfl H ?_; clear H; intro h9 w24 hx H
        replace hX := hX.trans0 hx; clear hx
        refine hold hX ?_
        refine anyH (fun _ => build_ (cs := #[(.int .i64 a1), (h9).v, (h5).v, (h8).v]) gok rfl rfl rfl ⟨rfl, rfl⟩) ?_
        replace H := H.sel [4, 0, 1, 2, 3, 5] rfl
        refine stA gok [(.int .i64 a1), (h9).v, (h5).v, (h8).v] rfl H rfl rfl rfl ?_; clear H; intro w25 H
        refine hold trivial ?_
        replace H := H.sel [1, 0, 2, 3, 4, 5] rfl
        replace H := H.ofEH
        exact ⟨((a1, [(n__0, n__1, y1, y2)], a2, a3), (h9, h5, h8)), ⟨rfl, trivial⟩, Option.some.inj f11, H.sel [1, 0, 3, 2] rfl⟩
       ·
        exact trivial
     ·
      exact trivial
   ·
    clear f5 H
    rintro T0 ⟨⟨s0_0, s0_1, s0_2, s0_3⟩, ⟨g0_0, g0_1, g0_2⟩⟩ w26 ⟨hr, (H : Cx w0 fp0 S0 w26 [Bx b5 [(.int .i64 s0_0), (g0_0).v, (g0_1).v, (g0_2).v], E (List (Int × Int × List Int × List Int)) s0_1 g0_0, E (List Int) s0_2 g0_1, E (List Int) s0_3 g0_2])⟩
    subst hr
    refine loadN [(.int .i64 s0_0), (g0_0).v, (g0_1).v, (g0_2).v] rfl (fun j u hj => H.bx 0 rfl hj) ?_
    cases f6
    exact ⟨_, _, rfl, ⟨g0_0, g0_1, g0_2, rfl, rfl⟩, (H.sel [1, 2, 3] rfl).close ⟨cloE, cloE, cloE, trivial⟩⟩
  ·
   have f12 := condT f0; clear f0
   replace H := H.sc (α := Int) 1
   replace H := H.sc (α := Int) 0
   refine litN (α := Int) (us := [(.int .i64 0), (.int .i64 1)]) (xs := [0, 1]) (gs := [(), ()]) gok rfl rfl rfl ⟨rfl, rfl, trivial⟩ rfl rfl H ?_; clear H; intro h10 w27 hx H
   clear hx
   replace H := H.sc (α := Int) 0
   replace H := H.sc (α := Int) 1
   refine litN (α := Int) (us := [(.int .i64 1), (.int .i64 0)]) (xs := [1, 0]) (gs := [(), ()]) gok rfl rfl rfl ⟨rfl, rfl, trivial⟩ rfl rfl H ?_; clear H; intro h11 w29 hx H
   clear hx
   refine build_ (cs := #[(.int .i64 2), (.slice none 0 0), (h10).v, (h11).v]) gok rfl rfl rfl ?_
   replace H := H.sel [2, 0, 1, 3] rfl
   refine stA gok [(.int .i64 2), (.slice none 0 0), (h10).v, (h11).v] rfl H rfl rfl rfl ?_; clear H; intro w30 H
   refine loadN [(.int .i64 2), (.slice none 0 0), (h10).v, (h11).v] rfl (fun j u hj => H.bx 0 rfl hj) ?_
   replace H := H.nil (α := Int × Int × List Int × List Int)
   cases f12
   exact ⟨_, _, rfl, ⟨nilH, h10, h11, rfl, rfl⟩, (H.sel [0, 3, 2] rfl).close ⟨cloE, cloE, cloE, trivial⟩⟩
 ·
  have f13 := condT hF8; clear hF8
  refine fld gok rfl rfl rfl rfl ?_
  refine load1 (H.bx 1 rfl (j := 1) rfl) ?_
  obtain ⟨y5, e, f14⟩ := bindS f13; clear f13
  obtain ⟨y5_0, y5_1, y5_2, y5_3⟩ := y5
  have i7 := e; clear e
  refine callF (impl_identityGraph_c n__1 y5_0 y5_1 y5_2 y5_3 i7) (Γi := []) H trivial ?_; clear H i7
  rintro _ _ w31 ⟨h12, h13, h14, rfl, rfl⟩ H
  replace H := H.sel [3, 0, 1, 2, 4] rfl
  refine stA gok [(.int .i64 y5_0), (h12).v, (h13).v, (h14).v] rfl H rfl rfl rfl ?_; clear H; intro w32 H
  refine loadN [(.int .i64 y5_0), (h12).v, (h13).v, (h14).v] rfl (fun j u hj => H.bx 0 rfl hj) ?_
  cases f14
  exact ⟨_, _, rfl, ⟨h12, h13, h14, rfl, rfl⟩, (H.sel [1, 2, 3] rfl).close ⟨cloE, cloE, cloE, trivial⟩⟩

theorem impl_Edge_isEdge_c (e__0 : Int) (e__1 : Int) (e__2 : List Int) (e__2h : Hd) (e__3 : List Int) (e__3h : Hd) (y : Bool) (hF : F_impl_Edge_isEdge (e__0, e__1, e__2, e__3) = some y) :
  ConF Tryz.prog 76 #[(.agg #[(.int .i64 e__0), (.int .i64 e__1), (e__2h).v, (e__3h).v])] [Es (List Int) e__2 e__2h, Es (List Int) e__3 e__3h] [] (fun v Γ' => v = (.bool y) ∧ Γ' = []) := by
 intro w0 S0 fp0 hI hS
 have H : Cx w0 fp0 S0 w0 [Es (List Int) e__2 e__2h, Es (List Int) e__3 e__3h] := Cx.start hI hS
 clear hI hS
 refine enterC (args := [_]) gok Tryz.func76 rfl _ rfl rfl rfl ?_
 refine box_ H ?_; clear H; intro b4 w3 hx H
 clear hx
 refine sq ?_
 obtain ⟨r0, f0, f1⟩ := bindS hF; clear hF
 refine cut (fun (q0 : Bool) => [(1, (.pointer (some ⟨b4, 0, none⟩))), (14, (.bool q0))]) (fun (q0 : Bool) w' => q0 = r0 ∧ Cx w0 fp0 S0 w' [Bx b4 [(.int .i64 e__0), (.int .i64 e__1), (e__2h).v, (e__3h).v], Es (List Int) e__2 e__2h, Es (List Int) e__3 e__3h]) ?_ ?_
 ·
  refine fld gok rfl rfl rfl rfl ?_
  refine load1 (H.bx 0 rfl (j := 0) rfl) ?_
  obtain ⟨y0, e, f2⟩ := bindS f0; clear f0
  have i0 := e; clear e
  refine callF (impl_isGenerator_c e__0 y0 i0) (Γi := []) H trivial ?_; clear H i0
  rintro _ _ w1 ⟨rfl, rfl⟩ H
  obtain ⟨a0, e, f3⟩ := bindS f2; clear f2
  refine boolO e ?_; clear e
  cases a0
  ·
   have f4 := condF f3; clear f3
   refine fld gok rfl rfl rfl rfl ?_
   refine load1 (H.bx 0 rfl (j := 0) rfl) ?_
   refine fld gok rfl rfl rfl rfl ?_
   refine load1 (H.bx 0 rfl (j := 1) rfl) ?_
   obtain ⟨y1, e, f5⟩ := bindS f4; clear f4
   have i1 := e; clear e
   refine callF (impl_isGeneratorValue_c e__0 e__1 y1 i1) (Γi := []) H trivial ?_; clear H i1
   rintro _ _ w2 ⟨rfl, rfl⟩ H
   obtain ⟨a1, e, f6⟩ := bindS f5; clear f5
   refine boolO e ?_; clear e
   exact ⟨a1, ⟨rfl, rfl, trivial⟩, Option.some.inj f6, H.sel [0, 1, 2] rfl⟩
  ·
   have f7 := condT f3; clear f3
   exact ⟨true, ⟨rfl, rfl, trivial⟩, Option.some.inj f7, H.sel [0, 1, 2] rfl⟩
 ·
  clear f0 H
  rintro T0 s0 w4 ⟨hr, (H : Cx w0 fp0 S0 w4 [Bx b4 [(.int .i64 e__0), (.int .i64 e__1), (e__2h).v, (e__3h).v], Es (List Int) e__2 e__2h, Es (List Int) e__3 e__3h])⟩
  subst hr
  cases s0
  ·
   have f8 := condF f1; clear f1
   refine heldX H [] (.fst 0 (.fst 3 (.fst 6 (.fst 1 (.fst 4 (.fst 5 (.fst 7 (.fst 8 (.fst 9 (.act 2 (.act 10 (.fst 11 .done)))))))))))) mixed [] trivial (by kernel_rfl) ?_
   clear H; intro w5 H
   have hX : Ext w5 w5 := Upd.refl _ _
   have H0 := H
   refine anyH (fun _ => fld gok rfl rfl rfl rfl ⟨rfl, rfl⟩) ?_
   refine anyH (fun _ => fld gok rfl rfl rfl rfl ⟨rfl, rfl⟩) ?_
   refine anyH (fun _ => fld gok rfl rfl rfl rfl ⟨rfl, rfl⟩) ?_
   refine load1X (H.bx 0 rfl (j := 0) rfl) ?_
   refine load1X (H.bx 0 rfl (j := 2) rfl) ?_
   refine lenE (H.rs (α := List Int) 1 rfl).len ?_
   refine load1X (H.bx 0 rfl (j := 3) rfl) ?_
   refine lenE (H.rs (α := List Int) 2 rfl).len ?_
   refine anyH (fun _ => build_ (cs := #[(.int .i64 ((e__2.length : Nat) : Int)), (.int .i64 ((e__3.length : Nat) : Int))]) gok rfl rfl rfl ⟨rfl, rfl⟩) ?_
   obtain ⟨y2, e, f9⟩ := bindS f8; clear f8
   obtain ⟨y2_0, y2_1⟩ := y2
   have i2 := e; clear e
   refine callFx (impl_generatorWires_c e__0 y2_0 y2_1 i2) H trivial ?_; clear H i2
   rintro _ _ w6 ⟨rfl, rfl⟩ hx H
   replace hX := hX.trans0 hx; clear hx
   refine hold hX ?_
   obtain ⟨a2, e, f10⟩ := bindS f9; clear f9
   refine eqA gok rfl Tryz.underlying104 (by kernel_rfl) (by kernel_rfl) (by kernel_rfl) (by refine ⟨rfl, ⟨_, _, rfl⟩, rfl, ⟨_, _, rfl⟩, trivial⟩) (ls := [y2_0, y2_1]) (bs := [((e__2.length : Nat) : Int), ((e__3.length : Nat) : Int)]) rfl rfl rfl rfl e ?_; clear e
   refine hold hX ?_
   cases f10
   exact ⟨_, _, rfl, ⟨rfl, rfl⟩, (H.sel [] rfl).close trivial⟩
  ·
   have f11 := condT f1; clear f1
   cases f11
   exact ⟨_, _, rfl, ⟨rfl, rfl⟩, (H.sel [] rfl).close trivial⟩

theorem impl_Graph_isGraph_1_c (list_ : List Int) (list_h : Hd) (c0_b : Nat) (c0__0 : Int) (c0__1 : List (Int × Int × List Int × List Int)) (c0__1h : Hd) (c0__2 : List Int) (c0__2h : Hd) (c0__3 : List Int) (c0__3h : Hd) (c1_b : Nat) (c1_ : Bool) (c2_b : Nat) (c2_ : List Bool) (c2_h : Hd) (c3_b : Nat) (c3_ : Int) (y0 : Bool) (y1 : List Bool) (y2 : Int) (hF : F_impl_Graph_isGraph_1 list_ (c0__0, c0__1, c0__2, c0__3) c1_ c2_ c3_ = some (y0, y1, y2)) :
  ConF Tryz.prog 78 #[(list_h).v, (.pointer (some ⟨c0_b, 0, none⟩)), (.pointer (some ⟨c1_b, 0, none⟩)), (.pointer (some ⟨c2_b, 0, none⟩)), (.pointer (some ⟨c3_b, 0, none⟩))] [Es (List Int) list_ list_h, Es (List (Int × Int × List Int × List Int)) c0__1 c0__1h, Es (List Int) c0__2 c0__2h, Es (List Int) c0__3 c0__3h] [Bx c0_b [(.int .i64 c0__0), (c0__1h).v, (c0__2h).v, (c0__3h).v], Bx c1_b [(.bool c1_)], Bx c2_b [(c2_h).v], E (List Bool) c2_ c2_h, Bx c3_b [(.int .i64 c3_)]] (fun v Γ' => v = (.tuple #[]) ∧ Γ' = [Bx c0_b [(.int .i64 c0__0), (c0__1h).v, (c0__2h).v, (c0__3h).v], Bx c1_b [(.bool y0)], Bx c2_b [(c2_h).v], E (List Bool) y1 c2_h, Bx c3_b [(.int .i64 y2)]]) := by
 intro w0 S0 fp0 hI hS
 have H : Cx w0 fp0 S0 w0 [Es (List Int) list_ list_h, Es (List (Int × Int × List Int × List Int)) c0__1 c0__1h, Es (List Int) c0__2 c0__2h, Es (List Int) c0__3 c0__3h, Bx c0_b [(.int .i64 c0__0), (c0__1h).v, (c0__2h).v, (c0__3h).v], Bx c1_b [(.bool c1_)], Bx c2_b [(c2_h).v], E (List Bool) c2_ c2_h, Bx c3_b [(.int .i64 c3_)]] := Cx.start hI hS
 clear hI hS
 refine enterC (args := [_, _, _, _, _]) gok Tryz.func78 rfl _ rfl rfl rfl ?_
 refine lenE (H.rs (α := List Int) 0 rfl).len ?_
 have x0 := (H.rs (α := List Int) 0 rfl).max
 obtain ⟨r0, e, f0⟩ := bindS hF; clear hF
 refine loopS _ list_.length (fun (k0 : Nat) (s0 : Bool × Int × List Bool) (_ : Unit) => [(1, (.pointer (some ⟨c0_b, 0, none⟩))), (2, (.pointer (some ⟨c1_b, 0, none⟩))), (3, (.pointer (some ⟨c2_b, 0, none⟩))), (4, (.pointer (some ⟨c3_b, 0, none⟩))), (8, (list_h).v), (9, (.int .i64 ((list_.length : Nat) : Int))), (10, (.int .i64 ((k0 : Nat) : Int)))]) (fun _ (s0 : Bool × Int × List Bool) (_ : Unit) w' => Cx w0 fp0 S0 w' [Bx c0_b [(.int .i64 c0__0), (c0__1h).v, (c0__2h).v, (c0__3h).v], Es (List (Int × Int × List Int × List Int)) c0__1 c0__1h, Es (List Int) c0__2 c0__2h, Es (List Int) c0__3 c0__3h, Bx c1_b [(.bool s0.1)], Bx c2_b [(c2_h).v], E (List Bool) s0.2.2 c2_h, Bx c3_b [(.int .i64 s0.2.1)], Es (List Int) list_ list_h]) (c1_, c3_, c2_) () e ⟨rfl, rfl, rfl, rfl, rfl, rfl, rfl, trivial⟩ (H.sel [4, 1, 2, 3, 5, 6, 7, 8, 0] rfl) ?_ ?_
 ·
  clear H e
  rintro T0 k0 ⟨s0_0, s0_1, s0_2⟩ _ w1 o0 hk (H : Cx w0 fp0 S0 w1 [Bx c0_b [(.int .i64 c0__0), (c0__1h).v, (c0__2h).v, (c0__3h).v], Es (List (Int × Int × List Int × List Int)) c0__1 c0__1h, Es (List Int) c0__2 c0__2h, Es (List Int) c0__3 c0__3h, Bx c1_b [(.bool s0_0)], Bx c2_b [(c2_h).v], E (List Bool) s0_2 c2_h, Bx c3_b [(.int .i64 s0_1)], Es (List Int) list_ list_h]) f1
  refine boolE (z := true) (ltLen hk) ?_
  refine sq ?_
  obtain ⟨r1, f2, f3⟩ := bindS f1; clear f1
  refine cut (fun (q0 : Bool × Int × List Bool) => [(1, (.pointer (some ⟨c0_b, 0, none⟩))), (2, (.pointer (some ⟨c1_b, 0, none⟩))), (3, (.pointer (some ⟨c2_b, 0, none⟩))), (4, (.pointer (some ⟨c3_b, 0, none⟩))), (8, (list_h).v), (9, (.int .i64 ((list_.length : Nat) : Int))), (10, (.int .i64 ((k0 : Nat) : Int)))]) (fun (q0 : Bool × Int × List Bool) w' => (q0.1, q0.2.1, q0.2.2) = r1 ∧ Cx w0 fp0 S0 w' [Bx c0_b [(.int .i64 c0__0), (c0__1h).v, (c0__2h).v, (c0__3h).v], Es (List (Int × Int × List Int × List Int)) c0__1 c0__1h, Es (List Int) c0__2 c0__2h, Es (List Int) c0__3 c0__3h, Bx c1_b [(.bool q0.1)], Bx c2_b [(c2_h).v], E (List Bool) q0.2.2 c2_h, Bx c3_b [(.int .i64 q0.2.1)], Es (List Int) list_ list_h]) ?_ ?_
  ·
   obtain ⟨a0, e, f4⟩ := bindS f2; clear f2
   obtain ⟨p0, m0, c0, c1, c2, c3⟩ := (H.rs (α := List Int) 8 rfl).at1 e; clear e
   refine idxE c0 c1 c2 ?_; clear c0 c1 c2
   refine load1 c3 ?_; clear c3
   refine sq ?_
   refine fld gok rfl rfl rfl rfl ?_
   refine load1 (H.bx 0 rfl (j := 0) rfl) ?_
   obtain ⟨a1, e, f5⟩ := bindS f4; clear f4
   refine arO e ?_; clear e
   obtain ⟨y3, e, f6⟩ := bindS f5; clear f5
   have i0 := e; clear e
   refine callF (impl_within_c a0 0 a1 y3 i0) (Γi := []) H trivial ?_; clear H i0
   rintro _ _ w2 ⟨rfl, rfl⟩ H
   obtain ⟨a2, e, f7⟩ := bindS f6; clear f6
   refine boolO e ?_; clear e
   cases a2
   ·
    have f8 := condF f7; clear f7
    refine load1 (H.bx0 5 rfl) ?_
    obtain ⟨a3, e, f9⟩ := bindS f8; clear f8
    obtain ⟨p1, m1, c4, c5, c6, c7⟩ := (H.ro (α := List Bool) 6 rfl).at1 e; clear e
    refine idxE c4 c5 c6 ?_; clear c4 c5 c6
    refine load1 c7 ?_; clear c7
    obtain ⟨a4, e, f10⟩ := bindS f9; clear f9
    refine boolO e ?_; clear e
    cases a4
    ·
     have f11 := condF f10; clear f10
     exact ⟨(s0_0, s0_1, s0_2), ⟨rfl, rfl, rfl, rfl, rfl, rfl, rfl, trivial⟩, Option.some.inj f11, H.sel [0, 1, 2, 3, 4, 5, 6, 7, 8] rfl⟩
    ·
     have f12 := condT f10; clear f10
     refine load1 (H.bx0 5 rfl) ?_
     obtain ⟨a5, e, f13⟩ := bindS f12; clear f12
     have i1 := e; clear e
     obtain ⟨p2, m2, c8, c9, c10⟩ := (H.ro (α := List Bool) 6 rfl).setp i1
     refine idxE c8 c9 c10 ?_
     replace H := H.sel [6, 0, 1, 2, 3, 4, 5, 7, 8] rfl
     refine setS (α := Bool) H c8 c9 i1 ?_; clear H c8 c9 c10 i1; intro w3 H
     refine load1 (H.bx0 7 rfl) ?_
     obtain ⟨a6, e, f14⟩ := bindS f13; clear f13
     refine arO e ?_; clear e
     replace H := H.sel [7, 0, 1, 2, 3, 4, 5, 6, 8] rfl
     refine stB0 H rfl ?_; clear H; intro w4 H
     exact ⟨(s0_0, a6, a5), ⟨rfl, rfl, rfl, rfl, rfl, rfl, rfl, trivial⟩, Option.some.inj f14, H.sel [2, 3, 4, 5, 6, 7, 1, 0, 8] rfl⟩
   ·
    have f15 := condT f7; clear f7
    replace H := H.sel [4, 0, 1, 2, 3, 5, 6, 7, 8] rfl
    refine stB0 H rfl ?_; clear H; intro w5 H
    exact ⟨(false, s0_1, s0_2), ⟨rfl, rfl, rfl, rfl, rfl, rfl, rfl, trivial⟩, Option.some.inj f15, H.sel [1, 2, 3, 4, 0, 5, 6, 7, 8] rfl⟩
  ·
   clear f2 H
   rintro T1 ⟨s1_0, s1_1, s1_2⟩ w6 ⟨hr, (H : Cx w0 fp0 S0 w6 [Bx c0_b [(.int .i64 c0__0), (c0__1h).v, (c0__2h).v, (c0__3h).v], Es (List (Int × Int × List Int × List Int)) c0__1 c0__1h, Es (List Int) c0__2 c0__2h, Es (List Int) c0__3 c0__3h, Bx c1_b [(.bool s1_0)], Bx c2_b [(c2_h).v], E (List Bool) s1_2 c2_h, Bx c3_b [(.int .i64 s1_1)], Es (List Int) list_ list_h])⟩
   subst hr
   refine arK hk x0 ?_
   have hs := Option.some.inj f3; subst hs; clear f3
   exact ⟨(), ⟨rfl, rfl, rfl, rfl, rfl, rfl, rfl, trivial⟩, H.sel [0, 1, 2, 3, 4, 5, 6, 7, 8] rfl⟩
 ·
  clear H e
  obtain ⟨s2_0, s2_1, s2_2⟩ := r0
  rintro T2 _ w7 (H : Cx w0 fp0 S0 w7 [Bx c0_b [(.int .i64 c0__0), (c0__1h).v, (c0__2h).v, (c0__3h).v], Es (List (Int × Int × List Int × List Int)) c0__1 c0__1h, Es (List Int) c0__2 c0__2h, Es (List Int) c0__3 c0__3h, Bx c1_b [(.bool s2_0)], Bx c2_b [(c2_h).v], E (List Bool) s2_2 c2_h, Bx c3_b [(.int .i64 s2_1)], Es (List Int) list_ list_h])
  refine boolE (z := false) geLen ?_
  refine sq ?_
  cases f0
  exact ⟨_, _, rfl, ⟨rfl, rfl⟩, (H.sel [0, 4, 5, 6, 7] rfl).close ⟨cloB, cloB, cloB, cloE, cloB, trivial⟩⟩

theorem impl_Graph_lists_impl_Graph_isGraph_1_c (g__0 : Int) (g__1 : List (Int × Int × List Int × List Int)) (g__1h : Hd) (g__2 : List Int) (g__2h : Hd) (g__3 : List Int) (g__3h : Hd) (d0_b : Nat) (d0__0 : Int) (d0__1 : List (Int × Int × List Int × List Int)) (d0__1h : Hd) (d0__2 : List Int) (d0__2h : Hd) (d0__3 : List Int) (d0__3h : Hd) (d1_b : Nat) (d1_ : Bool) (d2_b : Nat) (d2_ : List Bool) (d2_h : Hd) (d3_b : Nat) (d3_ : Int) (y0 : Bool) (y1 : List Bool) (y2 : Int) (hF : F_impl_Graph_lists_impl_Graph_isGraph_1 (g__0, g__1, g__2, g__3) (d0__0, d0__1, d0__2, d0__3) d1_ d2_ d3_ = some (y0, y1, y2)) :
  ConF Tryz.prog 77 #[(.agg #[(.int .i64 g__0), (g__1h).v, (g__2h).v, (g__3h).v]), (.func (.func 78) #[] #[(.pointer (some ⟨d0_b, 0, none⟩)), (.pointer (some ⟨d1_b, 0, none⟩)), (.pointer (some ⟨d2_b, 0, none⟩)), (.pointer (some ⟨d3_b, 0, none⟩))])] [Es (List (Int × Int × List Int × List Int)) g__1 g__1h, Es (List Int) g__2 g__2h, Es (List Int) g__3 g__3h, Es (List (Int × Int × List Int × List Int)) d0__1 d0__1h, Es (List Int) d0__2 d0__2h, Es (List Int) d0__3 d0__3h] [Bx d0_b [(.int .i64 d0__0), (d0__1h).v, (d0__2h).v, (d0__3h).v], Bx d1_b [(.bool d1_)], Bx d2_b [(d2_h).v], E (List Bool) d2_ d2_h, Bx d3_b [(.int .i64 d3_)]] (fun v Γ' => v = (.tuple #[]) ∧ Γ' = [Bx d0_b [(.int .i64 d0__0), (d0__1h).v, (d0__2h).v, (d0__3h).v], Bx d1_b [(.bool y0)], Bx d2_b [(d2_h).v], E (List Bool) y1 d2_h, Bx d3_b [(.int .i64 y2)]]) := by
 intro w0 S0 fp0 hI hS
 have H : Cx w0 fp0 S0 w0 [Es (List (Int × Int × List Int × List Int)) g__1 g__1h, Es (List Int) g__2 g__2h, Es (List Int) g__3 g__3h, Es (List (Int × Int × List Int × List Int)) d0__1 d0__1h, Es (List Int) d0__2 d0__2h, Es (List Int) d0__3 d0__3h, Bx d0_b [(.int .i64 d0__0), (d0__1h).v, (d0__2h).v, (d0__3h).v], Bx d1_b [(.bool d1_)], Bx d2_b [(d2_h).v], E (List Bool) d2_ d2_h, Bx d3_b [(.int .i64 d3_)]] := Cx.start hI hS
 clear hI hS
 refine enterC (args := [_, _]) gok Tryz.func77 rfl _ rfl rfl rfl ?_
 refine box_ H ?_; clear H; intro b0 w1 hx H
 clear hx
 refine fld gok rfl rfl rfl rfl ?_
 refine load1 (H.bx 0 rfl (j := 2) rfl) ?_
 obtain ⟨y3, e, f0⟩ := bindS hF; clear hF
 obtain ⟨y3_0, y3_1, y3_2⟩ := y3
 have i0 := e; clear e
 replace H := H.sel [7, 8, 9, 10, 11, 0, 1, 2, 3, 4, 5, 6] rfl
 refine callF (impl_Graph_isGraph_1_c g__2 g__2h d0_b d0__0 d0__1 d0__1h d0__2 d0__2h d0__3 d0__3h d1_b d1_ d2_b d2_ d2_h d3_b d3_ y3_0 y3_1 y3_2 i0) (Γi := [Bx d0_b [(.int .i64 d0__0), (d0__1h).v, (d0__2h).v, (d0__3h).v], Bx d1_b [(.bool d1_)], Bx d2_b [(d2_h).v], E (List Bool) d2_ d2_h, Bx d3_b [(.int .i64 d3_)]]) H ⟨Vw.sh 2 rfl, Vw.sh 4 rfl, Vw.sh 5 rfl, Vw.sh 6 rfl, trivial⟩ ?_; clear H i0
 rintro _ _ w2 ⟨rfl, rfl⟩ H
 refine fld gok rfl rfl rfl rfl ?_
 refine load1 (H.bx 5 rfl (j := 3) rfl) ?_
 obtain ⟨y4, e, f1⟩ := bindS f0; clear f0
 obtain ⟨y4_0, y4_1, y4_2⟩ := y4
 have i1 := e; clear e
 refine callF (impl_Graph_isGraph_1_c g__3 g__3h d0_b d0__0 d0__1 d0__1h d0__2 d0__2h d0__3 d0__3h d1_b y3_0 d2_b y3_1 d2_h d3_b y3_2 y4_0 y4_1 y4_2 i1) (Γi := [Bx d0_b [(.int .i64 d0__0), (d0__1h).v, (d0__2h).v, (d0__3h).v], Bx d1_b [(.bool y3_0)], Bx d2_b [(d2_h).v], E (List Bool) y3_1 d2_h, Bx d3_b [(.int .i64 y3_2)]]) H ⟨Vw.sh 3 rfl, Vw.sh 4 rfl, Vw.sh 5 rfl, Vw.sh 6 rfl, trivial⟩ ?_; clear H i1
 rintro _ _ w3 ⟨rfl, rfl⟩ H
 refine fld gok rfl rfl rfl rfl ?_
 refine load1 (H.bx 5 rfl (j := 1) rfl) ?_
 refine lenE (H.rs (α := List (Int × Int × List Int × List Int)) 6 rfl).len ?_
 have x0 := (H.rs (α := List (Int × Int × List Int × List Int)) 6 rfl).max
 obtain ⟨r0, e, f2⟩ := bindS f1; clear f1
 refine loopS _ g__1.length (fun (k0 : Nat) (s0 : Int × Bool × List Bool) (_ : Unit) => [(1, (.func (.func 78) #[] #[(.pointer (some ⟨d0_b, 0, none⟩)), (.pointer (some ⟨d1_b, 0, none⟩)), (.pointer (some ⟨d2_b, 0, none⟩)), (.pointer (some ⟨d3_b, 0, none⟩))])), (15, (g__1h).v), (16, (.int .i64 ((g__1.length : Nat) : Int))), (17, (.int .i64 ((k0 : Nat) : Int)))]) (fun _ (s0 : Int × Bool × List Bool) (_ : Unit) w' => Cx w0 fp0 S0 w' [Bx d0_b [(.int .i64 d0__0), (d0__1h).v, (d0__2h).v, (d0__3h).v], Es (List (Int × Int × List Int × List Int)) d0__1 d0__1h, Es (List Int) d0__2 d0__2h, Es (List Int) d0__3 d0__3h, Bx d1_b [(.bool s0.2.1)], Bx d2_b [(d2_h).v], E (List Bool) s0.2.2 d2_h, Bx d3_b [(.int .i64 s0.1)], Es (List (Int × Int × List Int × List Int)) g__1 g__1h]) (y4_2, y4_0, y4_1) () e ⟨rfl, rfl, rfl, rfl, trivial⟩ (H.sel [0, 9, 10, 11, 1, 2, 3, 4, 6] rfl) ?_ ?_
 ·
  clear H e
  rintro T0 k0 ⟨s0_0, s0_1, s0_2⟩ _ w4 o0 hk (H : Cx w0 fp0 S0 w4 [Bx d0_b [(.int .i64 d0__0), (d0__1h).v, (d0__2h).v, (d0__3h).v], Es (List (Int × Int × List Int × List Int)) d0__1 d0__1h, Es (List Int) d0__2 d0__2h, Es (List Int) d0__3 d0__3h, Bx d1_b [(.bool s0_1)], Bx d2_b [(d2_h).v], E (List Bool) s0_2 d2_h, Bx d3_b [(.int .i64 s0_0)], Es (List (Int × Int × List Int × List Int)) g__1 g__1h]) f3
  refine boolE (z := true) (ltLen hk) ?_
  refine sq ?_
  refine sq ?_
  obtain ⟨a0, e, f4⟩ := bindS f3; clear f3
  have HH := H; clear H; obtain ⟨p0, m0, g0, c0, c1, c2, c3, H⟩ := HH.el (α := Int × Int × List Int × List Int) 8 rfl e; clear HH
  clear e
  obtain ⟨a0_0, a0_1, a0_2, a0_3⟩ := a0
  obtain ⟨_, _, h0, h1⟩ := g0
  replace H := H.part (β := List Int) a0_2 (h0 : Hd) 0 rfl (fun S h => (And.left (And.right (And.right h))))
  replace H := H.part (β := List Int) a0_3 (h1 : Hd) 1 rfl (fun S h => (And.right (And.right (And.right h))))
  replace H := H.sel [0, 1, 3, 4, 5, 6, 7, 8, 9, 10, 11] rfl
  refine idxE c0 c1 c2 ?_; clear c0 c1 c2
  refine loadN [(.int .i64 a0_0), (.int .i64 a0_1), (h0).v, (h1).v] rfl c3 ?_; clear c3
  refine alloc_ gok rfl H ?_; clear H; intro b1 w5 hx H
  clear hx
  refine stA gok [(.int .i64 a0_0), (.int .i64 a0_1), (h0).v, (h1).v] rfl H rfl rfl rfl ?_; clear H; intro w6 H
  refine fld gok rfl rfl rfl rfl ?_
  refine load1 (H.bx 0 rfl (j := 2) rfl) ?_
  obtain ⟨y5, e, f5⟩ := bindS f4; clear f4
  obtain ⟨y5_0, y5_1, y5_2⟩ := y5
  have i2 := e; clear e
  replace H := H.sel [3, 7, 8, 9, 10, 0, 1, 2, 4, 5, 6, 11] rfl
  refine callF (impl_Graph_isGraph_1_c a0_2 h0 d0_b d0__0 d0__1 d0__1h d0__2 d0__2h d0__3 d0__3h d1_b s0_1 d2_b s0_2 d2_h d3_b s0_0 y5_0 y5_1 y5_2 i2) (Γi := [Bx d0_b [(.int .i64 d0__0), (d0__1h).v, (d0__2h).v, (d0__3h).v], Bx d1_b [(.bool s0_1)], Bx d2_b [(d2_h).v], E (List Bool) s0_2 d2_h, Bx d3_b [(.int .i64 s0_0)]]) H ⟨Vw.sh 2 rfl, Vw.sh 3 rfl, Vw.sh 4 rfl, Vw.sh 5 rfl, trivial⟩ ?_; clear H i2
  rintro _ _ w7 ⟨rfl, rfl⟩ H
  refine fld gok rfl rfl rfl rfl ?_
  refine load1 (H.bx 5 rfl (j := 3) rfl) ?_
  obtain ⟨y6, e, f6⟩ := bindS f5; clear f5
  obtain ⟨y6_0, y6_1, y6_2⟩ := y6
  have i3 := e; clear e
  refine callF (impl_Graph_isGraph_1_c a0_3 h1 d0_b d0__0 d0__1 d0__1h d0__2 d0__2h d0__3 d0__3h d1_b y5_0 d2_b y5_1 d2_h d3_b y5_2 y6_0 y6_1 y6_2 i3) (Γi := [Bx d0_b [(.int .i64 d0__0), (d0__1h).v, (d0__2h).v, (d0__3h).v], Bx d1_b [(.bool y5_0)], Bx d2_b [(d2_h).v], E (List Bool) y5_1 d2_h, Bx d3_b [(.int .i64 y5_2)]]) H ⟨Vw.sh 1 rfl, Vw.sh 3 rfl, Vw.sh 4 rfl, Vw.sh 5 rfl, trivial⟩ ?_; clear H i3
  rintro _ _ w8 ⟨rfl, rfl⟩ H
  refine arK hk x0 ?_
  have hs := Option.some.inj f6; subst hs; clear f6
  exact ⟨(), ⟨rfl, rfl, rfl, rfl, trivial⟩, H.sel [0, 8, 9, 10, 1, 2, 3, 4, 11] rfl⟩
 ·
  clear H e
  obtain ⟨s1_0, s1_1, s1_2⟩ := r0
  rintro T1 _ w9 (H : Cx w0 fp0 S0 w9 [Bx d0_b [(.int .i64 d0__0), (d0__1h).v, (d0__2h).v, (d0__3h).v], Es (List (Int × Int × List Int × List Int)) d0__1 d0__1h, Es (List Int) d0__2 d0__2h, Es (List Int) d0__3 d0__3h, Bx d1_b [(.bool s1_1)], Bx d2_b [(d2_h).v], E (List Bool) s1_2 d2_h, Bx d3_b [(.int .i64 s1_0)], Es (List (Int × Int × List Int × List Int)) g__1 g__1h])
  refine boolE (z := false) geLen ?_
  refine sq ?_
  cases f2
  exact ⟨_, _, rfl, ⟨rfl, rfl⟩, (H.sel [0, 4, 5, 6, 7] rfl).close ⟨cloB, cloB, cloB, cloE, cloB, trivial⟩⟩

theorem impl_Graph_isGraph_c (g__0 : Int) (g__1 : List (Int × Int × List Int × List Int)) (g__1h : Hd) (g__2 : List Int) (g__2h : Hd) (g__3 : List Int) (g__3h : Hd) (y : Bool) (hF : F_impl_Graph_isGraph (g__0, g__1, g__2, g__3) = some y) :
  ConF Tryz.prog 39 #[(.agg #[(.int .i64 g__0), (g__1h).v, (g__2h).v, (g__3h).v])] [Es (List (Int × Int × List Int × List Int)) g__1 g__1h, Es (List Int) g__2 g__2h, Es (List Int) g__3 g__3h] [] (fun v Γ' => v = (.bool y) ∧ Γ' = []) := by
 intro w0 S0 fp0 hI hS
 have H : Cx w0 fp0 S0 w0 [Es (List (Int × Int × List Int × List Int)) g__1 g__1h, Es (List Int) g__2 g__2h, Es (List Int) g__3 g__3h] := Cx.start hI hS
 clear hI hS
 refine enterC (args := [_]) gok Tryz.func39 rfl _ rfl rfl rfl ?_
 refine box_ H ?_; clear H; intro b5 w4 hx H
 clear hx
 refine sq ?_
 obtain ⟨r0, f0, f1⟩ := bindS hF; clear hF
 refine cut (fun (q0 : Bool) => [(1, (.pointer (some ⟨b5, 0, none⟩))), (29, (.bool q0))]) (fun (q0 : Bool) w' => q0 = r0 ∧ Cx w0 fp0 S0 w' [Bx b5 [(.int .i64 g__0), (g__1h).v, (g__2h).v, (g__3h).v], Es (List (Int × Int × List Int × List Int)) g__1 g__1h, Es (List Int) g__2 g__2h, Es (List Int) g__3 g__3h]) ?_ ?_
 ·
  refine fld gok rfl rfl rfl rfl ?_
  refine load1 (H.bx 0 rfl (j := 0) rfl) ?_
  obtain ⟨y0, e, f2⟩ := bindS f0; clear f0
  have i0 := e; clear e
  refine callF (impl_within_c g__0 0 100 y0 i0) (Γi := []) H trivial ?_; clear H i0
  rintro _ _ w1 ⟨rfl, rfl⟩ H
  obtain ⟨a0, e, f3⟩ := bindS f2; clear f2
  refine boolO e ?_; clear e
  cases a0
  ·
   have f4 := condF f3; clear f3
   refine fld gok rfl rfl rfl rfl ?_
   refine load1 (H.bx 0 rfl (j := 1) rfl) ?_
   refine lenE (H.rs (α := List (Int × Int × List Int × List Int)) 1 rfl).len ?_
   obtain ⟨a1, e, f5⟩ := bindS f4; clear f4
   refine boolO e ?_; clear e
   cases a1
   ·
    have f6 := condF f5; clear f5
    refine fld gok rfl rfl rfl rfl ?_
    refine load1 (H.bx 0 rfl (j := 2) rfl) ?_
    refine lenE (H.rs (α := List Int) 2 rfl).len ?_
    obtain ⟨a2, e, f7⟩ := bindS f6; clear f6
    refine boolO e ?_; clear e
    cases a2
    ·
     have f8 := condF f7; clear f7
     refine fld gok rfl rfl rfl rfl ?_
     refine load1 (H.bx 0 rfl (j := 3) rfl) ?_
     refine lenE (H.rs (α := List Int) 3 rfl).len ?_
     obtain ⟨a3, e, f9⟩ := bindS f8; clear f8
     refine boolO e ?_; clear e
     exact ⟨a3, ⟨rfl, rfl, trivial⟩, Option.some.inj f9, H.sel [0, 1, 2, 3] rfl⟩
    ·
     have f10 := condT f7; clear f7
     exact ⟨true, ⟨rfl, rfl, trivial⟩, Option.some.inj f10, H.sel [0, 1, 2, 3] rfl⟩
   ·
    have f11 := condT f5; clear f5
    exact ⟨true, ⟨rfl, rfl, trivial⟩, Option.some.inj f11, H.sel [0, 1, 2, 3] rfl⟩
  ·
   have f12 := condT f3; clear f3
   exact ⟨true, ⟨rfl, rfl, trivial⟩, Option.some.inj f12, H.sel [0, 1, 2, 3] rfl⟩
 ·
  clear f0 H
  rintro T0 s0 w2 ⟨hr, (H : Cx w0 fp0 S0 w2 [Bx b5 [(.int .i64 g__0), (g__1h).v, (g__2h).v, (g__3h).v], Es (List (Int × Int × List Int × List Int)) g__1 g__1h, Es (List Int) g__2 g__2h, Es (List Int) g__3 g__3h])⟩
  subst hr
  cases s0
  ·
   have f13 := condF f1; clear f1
   refine sq ?_
   refine fld gok rfl rfl rfl rfl ?_
   refine load1 (H.bx 0 rfl (j := 1) rfl) ?_
   refine lenE (H.rs (α := List (Int × Int × List Int × List Int)) 1 rfl).len ?_
   have x0 := (H.rs (α := List (Int × Int × List Int × List Int)) 1 rfl).max
   obtain ⟨r1, e, f14⟩ := bindS f13; clear f13
   refine loopO _ g__1.length (fun (k0 : Nat) (_ : Unit) (_ : Unit) => [(1, (.pointer (some ⟨b5, 0, none⟩))), (31, (g__1h).v), (32, (.int .i64 ((g__1.length : Nat) : Int))), (33, (.int .i64 ((k0 : Nat) : Int)))]) (fun _ (_ : Unit) (_ : Unit) w' => Cx w0 fp0 S0 w' [Bx b5 [(.int .i64 g__0), (g__1h).v, (g__2h).v, (g__3h).v], Es (List (Int × Int × List Int × List Int)) g__1 g__1h, Es (List Int) g__2 g__2h, Es (List Int) g__3 g__3h]) () () e ⟨rfl, rfl, rfl, rfl, trivial⟩ (H.sel [0, 1, 2, 3] rfl) ?_ ?_
   ·
    clear H e
    rintro T1 k0 _ _ w3 o0 hk (H : Cx w0 fp0 S0 w3 [Bx b5 [(.int .i64 g__0), (g__1h).v, (g__2h).v, (g__3h).v], Es (List (Int × Int × List Int × List Int)) g__1 g__1h, Es (List Int) g__2 g__2h, Es (List Int) g__3 g__3h]) hrt f15
    refine boolE (z := true) (ltLen hk) ?_
    refine sq ?_
    refine sq ?_
    obtain ⟨a4, e, f16⟩ := bindS f15; clear f15
    have HH := H; clear H; obtain ⟨p0, m0, g0, c0, c1, c2, c3, H⟩ := HH.el (α := Int × Int × List Int × List Int) 1 rfl e; clear HH
    clear e
    obtain ⟨a4_0, a4_1, a4_2, a4_3⟩ := a4
    obtain ⟨_, _, h0, h1⟩ := g0
    replace H := H.part (β := List Int) a4_2 (h0 : Hd) 0 rfl (fun S h => (And.left (And.right (And.right h))))
    replace H := H.part (β := List Int) a4_3 (h1 : Hd) 1 rfl (fun S h => (And.right (And.right (And.right h))))
    replace H := H.sel [0, 1, 3, 4, 5, 6] rfl
    refine idxE c0 c1 c2 ?_; clear c0 c1 c2
    refine loadN [(.int .i64 a4_0), (.int .i64 a4_1), (h0).v, (h1).v] rfl c3 ?_; clear c3
    refine alloc_ gok rfl H ?_; clear H; intro b0 w5 hx H
    clear hx
    refine stA gok [(.int .i64 a4_0), (.int .i64 a4_1), (h0).v, (h1).v] rfl H rfl rfl rfl ?_; clear H; intro w6 H
    refine loadN [(.int .i64 a4_0), (.int .i64 a4_1), (h0).v, (h1).v] rfl (fun j u hj => H.bx 0 rfl hj) ?_
    obtain ⟨y1, e, f17⟩ := bindS f16; clear f16
    have i1 := e; clear e
    refine callF (impl_Edge_isEdge_c a4_0 a4_1 a4_2 h0 a4_3 h1 y1 i1) (Γi := []) H ⟨Vw.sh 2 rfl, Vw.sh 1 rfl, trivial⟩ ?_; clear H i1
    rintro _ _ w7 ⟨rfl, rfl⟩ H
    obtain ⟨a5, e, f18⟩ := bindS f17; clear f17
    refine boolO e ?_; clear e
    cases a5
    ·
     have f19 := condF f18; clear f18
     refine arK hk x0 ?_
     have hs := Option.some.inj f19; subst hs; clear f19
     exact ⟨(), (), rfl, ⟨rfl, rfl, rfl, rfl, trivial⟩, H.sel [3, 4, 5, 6] rfl⟩
    ·
     have f20 := condT f18; clear f18
     have hs := Option.some.inj f20; subst hs; clear f20
     have hr := hrt _ rfl; subst hr
     have f21 : some _ = some _ := f14
     cases f21
     exact ⟨_, _, rfl, ⟨rfl, rfl⟩, (H.sel [] rfl).close trivial⟩
   ·
    clear H e
    rintro T2 _ _ w8 hr (H : Cx w0 fp0 S0 w8 [Bx b5 [(.int .i64 g__0), (g__1h).v, (g__2h).v, (g__3h).v], Es (List (Int × Int × List Int × List Int)) g__1 g__1h, Es (List Int) g__2 g__2h, Es (List Int) g__3 g__3h])
    subst hr
    refine boolE (z := false) geLen ?_
    refine sq ?_
    refine fld gok rfl rfl rfl rfl ?_
    refine load1 (H.bx 0 rfl (j := 0) rfl) ?_
    obtain ⟨a6, e, f22⟩ := bindS f14; clear f14
    refine make_ (α := Bool) gok rfl rfl rfl rfl (makeCO_of e) H ?_; clear e H; intro h2 w9 hx H
    clear hx
    refine alloc_ gok rfl H ?_; clear H; intro b1 w10 hx H
    clear hx
    refine alloc_ gok rfl H ?_; clear H; intro b2 w11 hx H
    clear hx
    refine alloc_ gok rfl H ?_; clear H; intro b3 w12 hx H
    clear hx
    replace H := H.sel [2, 0, 1, 3, 4, 5, 6, 7] rfl
    refine stB0 H rfl ?_; clear H; intro w13 H
    replace H := H.sel [2, 0, 1, 3, 4, 5, 6, 7] rfl
    refine stB0 H rfl ?_; clear H; intro w14 H
    replace H := H.sel [2, 0, 1, 3, 4, 5, 6, 7] rfl
    refine stB0 H rfl ?_; clear H; intro w15 H
    refine loadN [(.int .i64 g__0), (g__1h).v, (g__2h).v, (g__3h).v] rfl (fun j u hj => H.bx 4 rfl hj) ?_
    obtain ⟨y2, e, f23⟩ := bindS f22; clear f22
    obtain ⟨y2_0, y2_1, y2_2⟩ := y2
    have i2 := e; clear e
    replace H := H.sel [4, 1, 2, 3, 0, 5, 6, 7] rfl
    refine callF (impl_Graph_lists_impl_Graph_isGraph_1_c g__0 g__1 g__1h g__2 g__2h g__3 g__3h b5 g__0 g__1 g__1h g__2 g__2h g__3 g__3h b2 true b1 a6 h2 b3 0 y2_0 y2_1 y2_2 i2) (Γi := [Bx b5 [(.int .i64 g__0), (g__1h).v, (g__2h).v, (g__3h).v], Bx b2 [(.bool true)], Bx b1 [(h2).v], E (List Bool) a6 h2, Bx b3 [(.int .i64 0)]]) H ⟨Vw.sh 0 rfl, Vw.sh 1 rfl, Vw.sh 2 rfl, Vw.sh 0 rfl, Vw.sh 1 rfl, Vw.sh 2 rfl, trivial⟩ ?_; clear H i2
    rintro _ _ w16 ⟨rfl, rfl⟩ H
    obtain ⟨r2, f24, f25⟩ := bindS f23; clear f23
    refine cut (fun (q1 : Bool × Bool) => [(2, (.bool q1.2))]) (fun (q1 : Bool × Bool) w' => (q1.1, q1.2) = r2 ∧ Cx w0 fp0 S0 w' []) ?_ ?_
    ·
     refine load1 (H.bx0 1 rfl) ?_
     cases y2_0
     ·
      have f26 := condF f24; clear f24
      exact ⟨(false, false), ⟨rfl, trivial⟩, Option.some.inj f26, H.sel [] rfl⟩
     ·
      have f27 := condT f24; clear f24
      refine load1 (H.bx0 4 rfl) ?_
      refine fld gok rfl rfl rfl rfl ?_
      refine load1 (H.bx 0 rfl (j := 0) rfl) ?_
      obtain ⟨a7, e, f28⟩ := bindS f27; clear f27
      refine boolO e ?_; clear e
      exact ⟨(true, a7), ⟨rfl, trivial⟩, Option.some.inj f28, H.sel [] rfl⟩
    ·
     clear f24 H
     rintro T3 ⟨s1_0, s1_1⟩ w17 ⟨hr, (H : Cx w0 fp0 S0 w17 [])⟩
     subst hr
     cases f25
     exact ⟨_, _, rfl, ⟨rfl, rfl⟩, (H.sel [] rfl).close trivial⟩
  ·
   have f29 := condT f1; clear f1
   cases f29
   exact ⟨_, _, rfl, ⟨rfl, rfl⟩, (H.sel [] rfl).close trivial⟩

theorem impl_graphOf_c (t__0 : List (Int × Int × ByteArray)) (t__0h : Hd) (y0_0 : Int) (y0_1 : List (Int × Int × List Int × List Int)) (y0_2 : List Int) (y0_3 : List Int) (y1 : Bool) (hF : F_impl_graphOf t__0 = some ((y0_0, y0_1, y0_2, y0_3), y1)) :
  ConF Tryz.prog 19 #[(.agg #[(t__0h).v])] [Es (List (Int × Int × ByteArray)) t__0 t__0h] [] (fun v Γ' => ∃ z0 z1 z2 : Hd, v = (.tuple #[(.agg #[(.int .i64 y0_0), (z0).v, (z1).v, (z2).v]), (.bool y1)]) ∧ Γ' = [E (List (Int × Int × List Int × List Int)) y0_1 z0, E (List Int) y0_2 z1, E (List Int) y0_3 z2]) := by
 intro w0 S0 fp0 hI hS
 have H : Cx w0 fp0 S0 w0 [Es (List (Int × Int × ByteArray)) t__0 t__0h] := Cx.start hI hS
 clear hI hS
 refine enterC (args := [_]) gok Tryz.func19 rfl _ rfl rfl rfl ?_
 refine box_ H ?_; clear H; intro b3 w2 hx H
 clear hx
 refine alloc_ gok rfl H ?_; clear H; intro b6 w5 hx H
 clear hx
 refine lit0 (α := Int × (List (Int × Int × List Int × List Int)) × List Int × List Int) gok rfl rfl H ?_; clear H; intro h9 w8 hx H
 clear hx
 refine sq ?_
 refine fld gok rfl rfl rfl rfl ?_
 refine load1 (H.bx 2 rfl (j := 0) rfl) ?_
 refine lenE (H.rs (α := List (Int × Int × ByteArray)) 3 rfl).len ?_
 have x0 := (H.rs (α := List (Int × Int × ByteArray)) 3 rfl).max
 obtain ⟨r0, e, f0⟩ := bindS hF; clear hF
 refine loopO _ t__0.length (fun (k0 : Nat) (s0 : List (Int × (List (Int × Int × List Int × List Int)) × List Int × List Int)) (g0 : Hd) => [(2, (.pointer (some ⟨b6, 0, none⟩))), (4, (g0).v), (11, (t__0h).v), (12, (.int .i64 ((t__0.length : Nat) : Int))), (13, (.int .i64 ((k0 : Nat) : Int)))]) (fun _ (s0 : List (Int × (List (Int × Int × List Int × List Int)) × List Int × List Int)) (g0 : Hd) w' => Cx w0 fp0 S0 w' [Bx b6 [(.int .i64 0), (.slice none 0 0), (.slice none 0 0), (.slice none 0 0)], E (List (Int × (List (Int × Int × List Int × List Int)) × List Int × List Int)) s0 g0, Es (List (Int × Int × ByteArray)) t__0 t__0h]) ([] : List (Int × (List (Int × Int × List Int × List Int)) × List Int × List Int)) h9 e ⟨rfl, rfl, rfl, rfl, rfl, trivial⟩ (H.sel [1, 0, 3] rfl) ?_ ?_
 ·
  clear H e
  rintro T0 k0 s0 g0 w1 o0 hk (H : Cx w0 fp0 S0 w1 [Bx b6 [(.int .i64 0), (.slice none 0 0), (.slice none 0 0), (.slice none 0 0)], E (List (Int × (List (Int × Int × List Int × List Int)) × List Int × List Int)) s0 g0, Es (List (Int × Int × ByteArray)) t__0 t__0h]) hrt f1
  refine boolE (z := true) (ltLen hk) ?_
  refine sq ?_
  refine sq ?_
  obtain ⟨a0, e, f2⟩ := bindS f1; clear f1
  have HH := H; clear H; obtain ⟨p0, m0, g1, c0, c1, c2, c3, H⟩ := HH.el (α := Int × Int × ByteArray) 2 rfl e; clear HH
  clear e
  obtain ⟨a0_0, a0_1, a0_2⟩ := a0
  obtain ⟨_, _, _⟩ := g1
  replace H := H.sel [1, 2, 3] rfl
  refine idxE c0 c1 c2 ?_; clear c0 c1 c2
  refine loadN [(.int .i64 a0_0), (.int .i64 a0_1), (.string a0_2)] rfl c3 ?_; clear c3
  refine alloc_ gok rfl H ?_; clear H; intro b0 w3 hx H
  clear hx
  refine stA gok [(.int .i64 a0_0), (.int .i64 a0_1), (.string a0_2)] rfl H rfl rfl rfl ?_; clear H; intro w4 H
  refine lenE (H.ro (α := List (Int × (List (Int × Int × List Int × List Int)) × List Int × List Int)) 2 rfl).len ?_
  obtain ⟨a1, e, f3⟩ := bindS f2; clear f2
  refine arO e ?_; clear e
  refine alloc_ gok rfl H ?_; clear H; intro b1 w6 hx H
  clear hx
  refine sq ?_
  refine fld gok rfl rfl rfl rfl ?_
  refine load1 (H.bx 1 rfl (j := 0) rfl) ?_
  obtain ⟨a2, e, f4⟩ := bindS f3; clear f3
  refine boolO e ?_; clear e
  cases a2
  ·
   have f5 := condF f4; clear f4
   obtain ⟨a3, e, f6⟩ := bindS f5; clear f5
   refine boolO e ?_; clear e
   cases a3
   ·
    have f7 := condF f6; clear f6
    refine loadN [(.int .i64 a0_0), (.int .i64 a0_1), (.string a0_2)] rfl (fun j u hj => H.bx 1 rfl hj) ?_
    obtain ⟨y0, e, f8⟩ := bindS f7; clear f7
    obtain ⟨y0_0, y0_1, y0_2, y0_3⟩ := y0
    have i0 := e; clear e
    refine callF (impl_leafGraph_c a0_0 a0_1 a0_2 y0_0 y0_1 y0_2 y0_3 i0) (Γi := []) H trivial ?_; clear H i0
    rintro _ _ w7 ⟨h0, h1, h2, rfl, rfl⟩ H
    replace H := H.sel [3, 0, 1, 2, 4, 5, 6, 7] rfl
    refine stA gok [(.int .i64 y0_0), (h0).v, (h1).v, (h2).v] rfl H rfl rfl rfl ?_; clear H; intro w9 H
    refine sq ?_
    refine loadN [(.int .i64 y0_0), (h0).v, (h1).v, (h2).v] rfl (fun j u hj => H.bx 0 rfl hj) ?_
    obtain ⟨y2, e, f9⟩ := bindS f8; clear f8
    have i1 := e; clear e
    refine callF (impl_Graph_isGraph_c y0_0 y0_1 h0 y0_2 h1 y0_3 h2 y2 i1) (Γi := []) H ⟨Vw.own 1 rfl, Vw.own 2 rfl, Vw.own 3 rfl, trivial⟩ ?_; clear H i1
    rintro _ _ w10 ⟨rfl, rfl⟩ H
    obtain ⟨a4, e, f10⟩ := bindS f9; clear f9
    refine boolO e ?_; clear e
    cases a4
    ·
     have f11 := condF f10; clear f10
     refine loadN [(.int .i64 y0_0), (h0).v, (h1).v, (h2).v] rfl (fun j u hj => H.bx 0 rfl hj) ?_
     replace H := H.sel [1, 2, 3, 0, 4, 5, 6, 7] rfl
     replace H := H.sel [1, 2, 0, 3, 4, 5, 6, 7] rfl
     replace H := H.join (α := List Int) (β := List Int)
     replace H := H.sel [1, 0, 2, 3, 4, 5, 6] rfl
     replace H := H.join (α := List (Int × Int × List Int × List Int)) (β := List Int × List Int)
     replace H := H.sc (α := Int) y0_0
     replace H := H.join (α := Int) (β := (List (Int × Int × List Int × List Int)) × List Int × List Int)
     refine lit1 (α := Int × (List (Int × Int × List Int × List Int)) × List Int × List Int) (g := ((), h0, h1, h2)) gok rfl rfl rfl rfl rfl H ?_; clear H; intro h3 w11 hx H
     clear hx
     obtain ⟨a5, e, f12⟩ := bindS f11; clear f11
     replace H := H.sel [4, 0, 1, 2, 3, 5] rfl
     refine append_ (α := Int × (List (Int × Int × List Int × List Int)) × List Int × List Int) gok rfl rfl rfl rfl H e ?_; clear e H; intro h4 w12 H
     refine arK hk x0 ?_
     have hs := Option.some.inj f12; subst hs; clear f12
     exact ⟨a5, h4, rfl, ⟨rfl, rfl, rfl, rfl, rfl, trivial⟩, H.sel [3, 0, 4] rfl⟩
    ·
     have f13 := condT f10; clear f10
     refine build_ (cs := #[(.int .i64 0), (.slice none 0 0), (.slice none 0 0), (.slice none 0 0)]) gok rfl rfl rfl ?_
     replace H := H.sel [5, 0, 1, 2, 3, 4, 6, 7] rfl
     refine stA gok [(.int .i64 0), (.slice none 0 0), (.slice none 0 0), (.slice none 0 0)] rfl H rfl rfl rfl ?_; clear H; intro w13 H
     have hs := Option.some.inj f13; subst hs; clear f13
     have hr := hrt _ rfl; subst hr
     have f14 : some _ = some _ := f0
     refine loadN [(.int .i64 0), (.slice none 0 0), (.slice none 0 0), (.slice none 0 0)] rfl (fun j u hj => H.bx 0 rfl hj) ?_
     replace H := H.nil (α := Int × Int × List Int × List Int)
     replace H := H.nil (α := Int)
     replace H := H.nil (α := Int)
     cases f14
     exact ⟨_, _, rfl, ⟨nilH, nilH, nilH, rfl, rfl⟩, (H.sel [2, 1, 0] rfl).close ⟨cloE, cloE, cloE, trivial⟩⟩
   ·
    have f15 := condT f6; clear f6
    refine heldX H [10] (.fst 0 (.fst 1 (.fst 2 (.fst 3 (.fst 5 (.fst 6 (.fst 7 (.fst 4 (.fst 8 (.act 9 (.act 10 .done))))))))))) mixed [] trivial (by kernel_rfl) ?_
    clear H; intro w14 H
    have hX : Ext w14 w14 := Upd.refl _ _
    have H0 := H
    obtain ⟨a6, e, f16⟩ := bindS f15; clear f15
    refine arO e ?_; clear e
    obtain ⟨a7, e, f17⟩ := bindS f16; clear f16
    replace H := H.sel [3, 0, 1, 2, 4] rfl
    replace H := H.toEH (α := Int × (List (Int × Int × List Int × List Int)) × List Int × List Int)
    have HH := H; clear H; obtain ⟨p1, m1, g2, c4, c5, c6, c7, H⟩ := HH.peek e; clear HH
    clear e
    obtain ⟨a7_0, a7_1, a7_2, a7_3⟩ := a7
    obtain ⟨_, h5, h6, h7⟩ := g2
    refine idxE c4 c5 c6 ?_
    obtain ⟨a8, e, f18⟩ := bindS f17; clear f17
    have HH := H; clear H; obtain ⟨p2, m2, g3, c8, c9, c10, c11, H⟩ := HH.peek e; clear HH
    clear e
    obtain ⟨a8_0, a8_1, a8_2, a8_3⟩ := a8
    obtain ⟨_, h8, h10, h11⟩ := g3
    refine idxE c8 c9 c10 ?_
    refine loadNX [(.int .i64 a7_0), (h5).v, (h6).v, (h7).v] rfl c7 ?_; clear c7
    refine loadNX [(.int .i64 a8_0), (h8).v, (h10).v, (h11).v] rfl c11 ?_; clear c11
    obtain ⟨y3, e, f19⟩ := bindS f18; clear f18
    obtain ⟨y3_0, y3_1, y3_2, y3_3⟩ := y3
    have i2 := e; clear e
    refine callFx (impl_parGraphs_c a7_0 a7_1 h5 a7_2 h6 a7_3 h7 a8_0 a8_1 h8 a8_2 h10 a8_3 h11 y3_0 y3_1 y3_2 y3_3 i2) H ⟨Vw.part (β := List (Int × Int × List Int × List Int)) (Vw.eh (α := Int × (List (Int × Int × List Int × List Int)) × List Int × List Int) (k := ⟨m1, (a7_0, a7_1, a7_2, a7_3), ((), h5, h6, h7)⟩) 0 rfl 1 rfl) a7_1 (h5 : Hd) (fun S h => (And.left (And.right h))), Vw.part (β := List Int) (Vw.eh (α := Int × (List (Int × Int × List Int × List Int)) × List Int × List Int) (k := ⟨m1, (a7_0, a7_1, a7_2, a7_3), ((), h5, h6, h7)⟩) 0 rfl 1 rfl) a7_2 (h6 : Hd) (fun S h => (And.left (And.right (And.right h)))), Vw.part (β := List Int) (Vw.eh (α := Int × (List (Int × Int × List Int × List Int)) × List Int × List Int) (k := ⟨m1, (a7_0, a7_1, a7_2, a7_3), ((), h5, h6, h7)⟩) 0 rfl 1 rfl) a7_3 (h7 : Hd) (fun S h => (And.right (And.right (And.right h)))), Vw.part (β := List (Int × Int × List Int × List Int)) (Vw.eh (α := Int × (List (Int × Int × List Int × List Int)) × List Int × List Int) (k := ⟨m2, (a8_0, a8_1, a8_2, a8_3), ((), h8, h10, h11)⟩) 0 rfl 0 rfl) a8_1 (h8 : Hd) (fun S h => (And.left (And.right h))), Vw.part (β := List Int) (Vw.eh (α := Int × (List (Int × Int × List Int × List Int)) × List Int × List Int) (k := ⟨m2, (a8_0, a8_1, a8_2, a8_3), ((), h8, h10, h11)⟩) 0 rfl 0 rfl) a8_2 (h10 : Hd) (fun S h => (And.left (And.right (And.right h)))), Vw.part (β := List Int) (Vw.eh (α := Int × (List (Int × Int × List Int × List Int)) × List Int × List Int) (k := ⟨m2, (a8_0, a8_1, a8_2, a8_3), ((), h8, h10, h11)⟩) 0 rfl 0 rfl) a8_3 (h11 : Hd) (fun S h => (And.right (And.right (And.right h)))), trivial⟩ ?_; clear H i2
    rintro _ _ w15 ⟨h12, h13, h14, rfl, rfl⟩ hx H
    replace hX := hX.trans0 hx; clear hx
    refine hold hX ?_
    replace H := H.sel [4, 0, 1, 2, 3, 5, 6, 7] rfl
    refine stA gok [(.int .i64 y3_0), (h12).v, (h13).v, (h14).v] rfl H rfl rfl rfl ?_; clear H; intro w16 H
    refine hold trivial ?_
    replace H := H.sel [4, 0, 1, 2, 3, 5, 6, 7] rfl
    replace H := H.ofEH
    obtain ⟨a9, e, f20⟩ := bindS f19; clear f19
    refine arO e ?_; clear e
    obtain ⟨a10, e, f21⟩ := bindS f20; clear f20
    refine slO (α := Int × (List (Int × Int × List Int × List Int)) × List Int × List Int) gok rfl rfl H e rfl rfl ?_; clear e H; intro h15 H
    refine sq ?_
    refine loadN [(.int .i64 y3_0), (h12).v, (h13).v, (h14).v] rfl (fun j u hj => H.bx 1 rfl hj) ?_
    obtain ⟨y4, e, f22⟩ := bindS f21; clear f21
    have i3 := e; clear e
    refine callF (impl_Graph_isGraph_c y3_0 y3_1 h12 y3_2 h13 y3_3 h14 y4 i3) (Γi := []) H ⟨Vw.own 2 rfl, Vw.own 3 rfl, Vw.own 4 rfl, trivial⟩ ?_; clear H i3
    rintro _ _ w17 ⟨rfl, rfl⟩ H
    obtain ⟨a11, e, f23⟩ := bindS f22; clear f22
    refine boolO e ?_; clear e
    cases a11
    ·
     have f24 := condF f23; clear f23
     refine loadN [(.int .i64 y3_0), (h12).v, (h13).v, (h14).v] rfl (fun j u hj => H.bx 1 rfl hj) ?_
     replace H := H.sel [2, 3, 4, 0, 1, 5, 6, 7] rfl
     replace H := H.sel [1, 2, 0, 3, 4, 5, 6, 7] rfl
     replace H := H.join (α := List Int) (β := List Int)
     replace H := H.sel [1, 0, 2, 3, 4, 5, 6] rfl
     replace H := H.join (α := List (Int × Int × List Int × List Int)) (β := List Int × List Int)
     replace H := H.sc (α := Int) y3_0
     replace H := H.join (α := Int) (β := (List (Int × Int × List Int × List Int)) × List Int × List Int)
     refine lit1 (α := Int × (List (Int × Int × List Int × List Int)) × List Int × List Int) (g := ((), h12, h13, h14)) gok rfl rfl rfl rfl rfl H ?_; clear H; intro h16 w18 hx H
     clear hx
     obtain ⟨a12, e, f25⟩ := bindS f24; clear f24
     replace H := H.sel [1, 0, 2, 3, 4, 5] rfl
     refine append_ (α := Int × (List (Int × Int × List Int × List Int)) × List Int × List Int) gok rfl rfl rfl rfl H e ?_; clear e H; intro h17 w19 H
     refine arK hk x0 ?_
     have hs := Option.some.inj f25; subst hs; clear f25
     exact ⟨a12, h17, rfl, ⟨rfl, rfl, rfl, rfl, rfl, trivial⟩, H.sel [3, 0, 4] rfl⟩
    ·
     have f26 := condT f23; clear f23
     refine build_ (cs := #[(.int .i64 0), (.slice none 0 0), (.slice none 0 0), (.slice none 0 0)]) gok rfl rfl rfl ?_
     replace H := H.sel [6, 0, 1, 2, 3, 4, 5, 7] rfl
     refine stA gok [(.int .i64 0), (.slice none 0 0), (.slice none 0 0), (.slice none 0 0)] rfl H rfl rfl rfl ?_; clear H; intro w20 H
     have hs := Option.some.inj f26; subst hs; clear f26
     have hr := hrt _ rfl; subst hr
     have f27 : some _ = some _ := f0
     refine loadN [(.int .i64 0), (.slice none 0 0), (.slice none 0 0), (.slice none 0 0)] rfl (fun j u hj => H.bx 0 rfl hj) ?_
     replace H := H.nil (α := Int × Int × List Int × List Int)
     replace H := H.nil (α := Int)
     replace H := H.nil (α := Int)
     cases f27
     exact ⟨_, _, rfl, ⟨nilH, nilH, nilH, rfl, rfl⟩, (H.sel [2, 1, 0] rfl).close ⟨cloE, cloE, cloE, trivial⟩⟩
  ·
   have f28 := condT f4; clear f4
   refine heldX H [10] (.fst 0 (.fst 1 (.fst 2 (.fst 3 (.fst 5 (.fst 6 (.fst 7 (.fst 4 (.fst 8 (.act 9 (.act 10 .done))))))))))) mixed [] trivial (by kernel_rfl) ?_
   clear H; intro w21 H
   have hX : Ext w21 w21 := Upd.refl _ _
   have H0 := H
   obtain ⟨a13, e, f29⟩ := bindS f28; clear f28
   refine arO e ?_; clear e
   obtain ⟨a14, e, f30⟩ := bindS f29; clear f29
   replace H := H.sel [3, 0, 1, 2, 4] rfl
   replace H := H.toEH (α := Int × (List (Int × Int × List Int × List Int)) × List Int × List Int)
   have HH := H; clear H; obtain ⟨p3, m3, g4, c12, c13, c14, c15, H⟩ := HH.peek e; clear HH
   clear e
   obtain ⟨a14_0, a14_1, a14_2, a14_3⟩ := a14
   obtain ⟨_, h18, h19, h20⟩ := g4
   refine idxE c12 c13 c14 ?_
   obtain ⟨a15, e, f31⟩ := bindS f30; clear f30
   have HH := H; clear H; obtain ⟨p4, m4, g5, c16, c17, c18, c19, H⟩ := HH.peek e; clear HH
   clear e
   obtain ⟨a15_0, a15_1, a15_2, a15_3⟩ := a15
   obtain ⟨_, h21, h22, h23⟩ := g5
   refine idxE c16 c17 c18 ?_
   refine loadNX [(.int .i64 a14_0), (h18).v, (h19).v, (h20).v] rfl c15 ?_; clear c15
   refine loadNX [(.int .i64 a15_0), (h21).v, (h22).v, (h23).v] rfl c19 ?_; clear c19
   obtain ⟨y5, e, f32⟩ := bindS f31; clear f31
   obtain ⟨y5_0, y5_1, y5_2, y5_3⟩ := y5
   have i4 := e; clear e
   refine callFx (impl_seqGraphs_c a14_0 a14_1 h18 a14_2 h19 a14_3 h20 a15_0 a15_1 h21 a15_2 h22 a15_3 h23 y5_0 y5_1 y5_2 y5_3 i4) H ⟨Vw.part (β := List (Int × Int × List Int × List Int)) (Vw.eh (α := Int × (List (Int × Int × List Int × List Int)) × List Int × List Int) (k := ⟨m3, (a14_0, a14_1, a14_2, a14_3), ((), h18, h19, h20)⟩) 0 rfl 1 rfl) a14_1 (h18 : Hd) (fun S h => (And.left (And.right h))), Vw.part (β := List Int) (Vw.eh (α := Int × (List (Int × Int × List Int × List Int)) × List Int × List Int) (k := ⟨m3, (a14_0, a14_1, a14_2, a14_3), ((), h18, h19, h20)⟩) 0 rfl 1 rfl) a14_2 (h19 : Hd) (fun S h => (And.left (And.right (And.right h)))), Vw.part (β := List Int) (Vw.eh (α := Int × (List (Int × Int × List Int × List Int)) × List Int × List Int) (k := ⟨m3, (a14_0, a14_1, a14_2, a14_3), ((), h18, h19, h20)⟩) 0 rfl 1 rfl) a14_3 (h20 : Hd) (fun S h => (And.right (And.right (And.right h)))), Vw.part (β := List (Int × Int × List Int × List Int)) (Vw.eh (α := Int × (List (Int × Int × List Int × List Int)) × List Int × List Int) (k := ⟨m4, (a15_0, a15_1, a15_2, a15_3), ((), h21, h22, h23)⟩) 0 rfl 0 rfl) a15_1 (h21 : Hd) (fun S h => (And.left (And.right h))), Vw.part (β := List Int) (Vw.eh (α := Int × (List (Int × Int × List Int × List Int)) × List Int × List Int) (k := ⟨m4, (a15_0, a15_1, a15_2, a15_3), ((), h21, h22, h23)⟩) 0 rfl 0 rfl) a15_2 (h22 : Hd) (fun S h => (And.left (And.right (And.right h)))), Vw.part (β := List Int) (Vw.eh (α := Int × (List (Int × Int × List Int × List Int)) × List Int × List Int) (k := ⟨m4, (a15_0, a15_1, a15_2, a15_3), ((), h21, h22, h23)⟩) 0 rfl 0 rfl) a15_3 (h23 : Hd) (fun S h => (And.right (And.right (And.right h)))), trivial⟩ ?_; clear H i4
   rintro _ _ w22 ⟨h24, h25, h26, rfl, rfl⟩ hx H
   replace hX := hX.trans0 hx; clear hx
   refine hold hX ?_
   replace H := H.sel [4, 0, 1, 2, 3, 5, 6, 7] rfl
   refine stA gok [(.int .i64 y5_0), (h24).v, (h25).v, (h26).v] rfl H rfl rfl rfl ?_; clear H; intro w23 H
   refine hold trivial ?_
   replace H := H.sel [4, 0, 1, 2, 3, 5, 6, 7] rfl
   replace H := H.ofEH
   obtain ⟨a16, e, f33⟩ := bindS f32; clear f32
   refine arO e ?_; clear e
   obtain ⟨a17, e, f34⟩ := bindS f33; clear f33
   refine slO (α := Int × (List (Int × Int × List Int × List Int)) × List Int × List Int) gok rfl rfl H e rfl rfl ?_; clear e H; intro h27 H
   refine sq ?_
   refine loadN [(.int .i64 y5_0), (h24).v, (h25).v, (h26).v] rfl (fun j u hj => H.bx 1 rfl hj) ?_
   obtain ⟨y6, e, f35⟩ := bindS f34; clear f34
   have i5 := e; clear e
   refine callF (impl_Graph_isGraph_c y5_0 y5_1 h24 y5_2 h25 y5_3 h26 y6 i5) (Γi := []) H ⟨Vw.own 2 rfl, Vw.own 3 rfl, Vw.own 4 rfl, trivial⟩ ?_; clear H i5
   rintro _ _ w24 ⟨rfl, rfl⟩ H
   obtain ⟨a18, e, f36⟩ := bindS f35; clear f35
   refine boolO e ?_; clear e
   cases a18
   ·
    have f37 := condF f36; clear f36
    refine loadN [(.int .i64 y5_0), (h24).v, (h25).v, (h26).v] rfl (fun j u hj => H.bx 1 rfl hj) ?_
    replace H := H.sel [2, 3, 4, 0, 1, 5, 6, 7] rfl
    replace H := H.sel [1, 2, 0, 3, 4, 5, 6, 7] rfl
    replace H := H.join (α := List Int) (β := List Int)
    replace H := H.sel [1, 0, 2, 3, 4, 5, 6] rfl
    replace H := H.join (α := List (Int × Int × List Int × List Int)) (β := List Int × List Int)
    replace H := H.sc (α := Int) y5_0
    replace H := H.join (α := Int) (β := (List (Int × Int × List Int × List Int)) × List Int × List Int)
    refine lit1 (α := Int × (List (Int × Int × List Int × List Int)) × List Int × List Int) (g := ((), h24, h25, h26)) gok rfl rfl rfl rfl rfl H ?_; clear H; intro h28 w25 hx H
    clear hx
    obtain ⟨a19, e, f38⟩ := bindS f37; clear f37
    replace H := H.sel [1, 0, 2, 3, 4, 5] rfl
    refine append_ (α := Int × (List (Int × Int × List Int × List Int)) × List Int × List Int) gok rfl rfl rfl rfl H e ?_; clear e H; intro h29 w26 H
    refine arK hk x0 ?_
    have hs := Option.some.inj f38; subst hs; clear f38
    exact ⟨a19, h29, rfl, ⟨rfl, rfl, rfl, rfl, rfl, trivial⟩, H.sel [3, 0, 4] rfl⟩
   ·
    have f39 := condT f36; clear f36
    refine build_ (cs := #[(.int .i64 0), (.slice none 0 0), (.slice none 0 0), (.slice none 0 0)]) gok rfl rfl rfl ?_
    replace H := H.sel [6, 0, 1, 2, 3, 4, 5, 7] rfl
    refine stA gok [(.int .i64 0), (.slice none 0 0), (.slice none 0 0), (.slice none 0 0)] rfl H rfl rfl rfl ?_; clear H; intro w27 H
    have hs := Option.some.inj f39; subst hs; clear f39
    have hr := hrt _ rfl; subst hr
    have f40 : some _ = some _ := f0
    refine loadN [(.int .i64 0), (.slice none 0 0), (.slice none 0 0), (.slice none 0 0)] rfl (fun j u hj => H.bx 0 rfl hj) ?_
    replace H := H.nil (α := Int × Int × List Int × List Int)
    replace H := H.nil (α := Int)
    replace H := H.nil (α := Int)
    cases f40
    exact ⟨_, _, rfl, ⟨nilH, nilH, nilH, rfl, rfl⟩, (H.sel [2, 1, 0] rfl).close ⟨cloE, cloE, cloE, trivial⟩⟩
 ·
  clear H e
  rintro T1 s1 g6 w28 hr (H : Cx w0 fp0 S0 w28 [Bx b6 [(.int .i64 0), (.slice none 0 0), (.slice none 0 0), (.slice none 0 0)], E (List (Int × (List (Int × Int × List Int × List Int)) × List Int × List Int)) s1 g6, Es (List (Int × Int × ByteArray)) t__0 t__0h])
  subst hr
  refine boolE (z := false) geLen ?_
  refine sq ?_
  obtain ⟨a20, e, f41⟩ := bindS f0; clear f0
  replace H := H.sel [1, 0, 2] rfl
  replace H := H.toEH (α := Int × (List (Int × Int × List Int × List Int)) × List Int × List Int)
  have HH := H; clear H; obtain ⟨p5, m5, g7, c20, c21, c22, c23, H⟩ := HH.peek e; clear HH
  clear e
  obtain ⟨a20_0, a20_1, a20_2, a20_3⟩ := a20
  obtain ⟨_, h30, h31, h32⟩ := g7
  refine idxE c20 c21 c22 ?_
  replace H := H.takeK 0 rfl
  replace H := H.sel [0, 2, 3] rfl
  replace H := H.split
  replace H := H.sel [1, 2, 3] rfl
  replace H := H.split
  replace H := H.sel [1, 0, 2, 3] rfl
  replace H := H.split
  refine loadN [(.int .i64 a20_0), (h30).v, (h31).v, (h32).v] rfl c23 ?_; clear c23
  replace H := H.sel [3, 0, 1, 2, 4] rfl
  refine stA gok [(.int .i64 a20_0), (h30).v, (h31).v, (h32).v] rfl H rfl rfl rfl ?_; clear H; intro w29 H
  refine loadN [(.int .i64 a20_0), (h30).v, (h31).v, (h32).v] rfl (fun j u hj => H.bx 0 rfl hj) ?_
  cases f41
  exact ⟨_, _, rfl, ⟨h30, h31, h32, rfl, rfl⟩, (H.sel [3, 1, 2] rfl).close ⟨cloE, cloE, cloE, trivial⟩⟩

theorem impl_System_size_c (s__0 : Int) (s__1 : Int) (s__2 : List (List Int)) (s__2h : Hd) (y : Int) (hF : F_impl_System_size (s__0, s__1, s__2) = some y) :
  ConF Tryz.prog 42 #[(.agg #[(.int .i64 s__0), (.int .i64 s__1), (s__2h).v])] [Es (List (List Int)) s__2 s__2h] [] (fun v Γ' => v = (.int .i64 y) ∧ Γ' = []) := by
 intro w0 S0 fp0 hI hS
 have H : Cx w0 fp0 S0 w0 [Es (List (List Int)) s__2 s__2h] := Cx.start hI hS
 clear hI hS
 refine enterC (args := [_]) gok Tryz.func42 rfl _ rfl rfl rfl ?_
 refine box_ H ?_; clear H; intro b3 w2 hx H
 clear hx
 refine fld gok rfl rfl rfl rfl ?_
 refine load1 (H.bx 0 rfl (j := 0) rfl) ?_
 refine fld gok rfl rfl rfl rfl ?_
 refine load1 (H.bx 0 rfl (j := 1) rfl) ?_
 obtain ⟨a5, e, hF6⟩ := bindS hF; clear hF
 refine arO e ?_; clear e
 cases hF6
 exact ⟨_, _, rfl, ⟨rfl, rfl⟩, (H.sel [] rfl).close trivial⟩

theorem impl_unit_c (n_ : Int) (at_ : Int) (y : List Int) (hF : F_impl_unit n_ at_ = some y) :
  ConF Tryz.prog 41 #[(.int .i64 n_), (.int .i64 at_)] [] [] (fun v Γ' => ∃ z0 : Hd, v = (z0).v ∧ Γ' = [E (List Int) y z0]) := by
 intro w0 S0 fp0 hI hS
 have H : Cx w0 fp0 S0 w0 [] := Cx.start hI hS
 clear hI hS
 refine enterC (args := [_, _]) gok Tryz.func41 rfl _ rfl rfl rfl ?_
 obtain ⟨y1, e, hF2⟩ := bindS hF; clear hF
 have ey1 := e; clear e
 refine callF (impl_zeros_c n_ y1 ey1) (Γi := []) H trivial ?_; clear H ey1
 rintro _ _ w3 ⟨h4, rfl, rfl⟩ H
 obtain ⟨a0, e, f0⟩ := bindS hF2; clear hF2
 have i0 := e; clear e
 obtain ⟨p0, m0, c6, c7, c8⟩ := (H.ro (α := List Int) 0 rfl).setp i0
 refine idxE c6 c7 c8 ?_
 refine setS (α := Int) H c6 c7 i0 ?_; clear H c6 c7 c8 i0; intro w1 H
 cases f0
 exact ⟨_, _, rfl, ⟨h4, rfl, rfl⟩, (H.sel [0] rfl).close ⟨cloE, trivial⟩⟩

theorem impl_edgeRows_1_c (one_ : Int) (others_ : List Int) (others_h : Hd) (by_ : Int) (y : MI) (hF : F_impl_edgeRows_1 one_ others_ by_ = some y) :
  ConF Tryz.prog 79 #[(.int .i64 one_), (others_h).v, (.int .i64 by_)] [Es (List Int) others_ others_h] [] (fun v Γ' => ∃ (z0 : Mh), v = (z0).v ∧ Γ' = [E MI y z0]) := by
 intro w0 S0 fp0 hI hS
 have H : Cx w0 fp0 S0 w0 [Es (List Int) others_ others_h] := Cx.start hI hS
 clear hI hS
 refine enterC (args := [_, _, _]) gok Tryz.func79 rfl _ rfl rfl rfl ?_
 refine mkM H ?_; clear H; intro h3 w2 hx H
 clear hx
 refine updM Tryz.underlying79 Tryz.underlying3 H ?_; clear H; intro w5 H
 refine sq ?_
 refine lenE (H.rs (α := List Int) 1 rfl).len ?_
 have x0 := (H.rs (α := List Int) 1 rfl).max
 obtain ⟨r0, e, f0⟩ := bindS hF; clear hF
 refine loopS _ others_.length (fun (k6 : Nat) (s0 : MI) (_ : Unit) => [(2, (.int .i64 by_)), (7, (h3).v), (13, (others_h).v), (14, (.int .i64 ((others_.length : Nat) : Int))), (15, (.int .i64 ((k6 : Nat) : Int)))]) (fun _ (s0 : MI) (_ : Unit) w' => Cx w0 fp0 S0 w' [E MI s0 h3, Es (List Int) others_ others_h]) (setM (⟨[]⟩ : MI) one_ 1) () e ⟨rfl, rfl, rfl, rfl, rfl, trivial⟩ (H.sel [0, 1] rfl) ?_ ?_
 ·
  clear H e
  rintro T0 k6 s0 _ w1 o0 hk (H : Cx w0 fp0 S0 w1 [E MI s0 h3, Es (List Int) others_ others_h]) f1
  refine boolE (z := true) (ltLen hk) ?_
  refine sq ?_
  refine sq ?_
  obtain ⟨a0, e, f2⟩ := bindS f1; clear f1
  obtain ⟨p0, m0, c0, c1, c2, c3⟩ := (H.rs (α := List Int) 1 rfl).at1 e; clear e
  refine idxE c0 c1 c2 ?_; clear c0 c1 c2
  refine load1 c3 ?_; clear c3
  refine lookM gok Tryz.underlying79 Tryz.underlying3 rfl (H.ro (α := MI) 0 rfl) ?_
  obtain ⟨a1, e, f3⟩ := bindS f2; clear f2
  refine arO e ?_; clear e
  refine updM Tryz.underlying79 Tryz.underlying3 H ?_; clear H; intro w3 H
  refine arK hk x0 ?_
  have hs := Option.some.inj f3; subst hs; clear f3
  exact ⟨(), ⟨rfl, rfl, rfl, rfl, rfl, trivial⟩, H.sel [0, 1] rfl⟩
 ·
  clear H e
  rintro T1 _ w4 (H : Cx w0 fp0 S0 w4 [E MI r0 h3, Es (List Int) others_ others_h])
  refine boolE (z := false) geLen ?_
  refine sq ?_
  cases f0
  exact ⟨_, _, rfl, ⟨h3, rfl, rfl⟩, (H.sel [0] rfl).close ⟨cloE, trivial⟩⟩

theorem impl_mirrorKind_c (kind_ : Int) (y : Int) (hF : F_impl_mirrorKind kind_ = some y) :
  ConF Tryz.prog 80 #[(.int .i64 kind_)] [] [] (fun v Γ' => v = (.int .i64 y) ∧ Γ' = []) := by
 intro w0 S0 fp0 hI hS
 have H : Cx w0 fp0 S0 w0 [] := Cx.start hI hS
 clear hI hS
 refine enterC (args := [_]) gok Tryz.func80 rfl _ rfl rfl rfl ?_
 refine sq ?_
 obtain ⟨y1, e, hF2⟩ := bindS hF; clear hF
 have ey1 := e; clear e
 refine callF (impl_within_c kind_ 3 8 y1 ey1) (Γi := []) H trivial ?_; clear H ey1
 rintro _ _ w3 ⟨rfl, rfl⟩ H
 cases y1
 ·
  have hF4 := condF hF2; clear hF2
  obtain ⟨y5, e, hF6⟩ := bindS hF4; clear hF4
  have ey5 := e; clear e
  refine callF (impl_within_c kind_ 9 14 y5 ey5) (Γi := []) H trivial ?_; clear H ey5
  rintro _ _ w7 ⟨rfl, rfl⟩ H
  cases y5
  ·
   have hF8 := condF hF6; clear hF6
   cases hF8
   exact ⟨_, _, rfl, ⟨rfl, rfl⟩, (H.sel [] rfl).close trivial⟩
  ·
   have hF9 := condT hF6; clear hF6
   obtain ⟨a0, e, f0⟩ := bindS hF9; clear hF9
   refine arO e ?_; clear e
   obtain ⟨a1, e, f1⟩ := bindS f0; clear f0
   refine arO e ?_; clear e
   cases f1
   exact ⟨_, _, rfl, ⟨rfl, rfl⟩, (H.sel [] rfl).close trivial⟩
 ·
  have f2 := condT hF2; clear hF2
  obtain ⟨a2, e, f3⟩ := bindS f2; clear f2
  refine arO e ?_; clear e
  obtain ⟨a3, e, f4⟩ := bindS f3; clear f3
  refine arO e ?_; clear e
  cases f4
  exact ⟨_, _, rfl, ⟨rfl, rfl⟩, (H.sel [] rfl).close trivial⟩

theorem impl_edgeRows_c (e__0 : Int) (e__1 : Int) (e__2 : List Int) (e__2h : Hd) (e__3 : List Int) (e__3h : Hd) (y : List MI) (hF : F_impl_edgeRows (e__0, e__1, e__2, e__3) = some y) :
  ConF Tryz.prog 43 #[(.agg #[(.int .i64 e__0), (.int .i64 e__1), (e__2h).v, (e__3h).v])] [Es (List Int) e__2 e__2h, Es (List Int) e__3 e__3h] [] (fun v Γ' => ∃ z0 : Hd, v = (z0).v ∧ Γ' = [E (List MI) y z0]) := by
 intro w0 S0 fp0 hI hS
 have H : Cx w0 fp0 S0 w0 [Es (List Int) e__2 e__2h, Es (List Int) e__3 e__3h] := Cx.start hI hS
 clear hI hS
 refine enterC (args := [_]) gok Tryz.func43 rfl _ rfl rfl rfl ?_
 refine box_ H ?_; clear H; intro b4 w3 hx H
 clear hx
 refine heldX H [] (.fst 0 (.fst 2 (.fst 1 (.fst 4 (.fst 3 (.fst 5 .done)))))) mixed [] trivial (by kernel_rfl) ?_
 clear H; intro w6 H
 have hX : Ext w6 w6 := Upd.refl _ _
 have H0 := H
 refine anyH (fun _ => fld gok rfl rfl rfl rfl ⟨rfl, rfl⟩) ?_
 refine anyH (fun _ => fld gok rfl rfl rfl rfl ⟨rfl, rfl⟩) ?_
 refine load1X (H.bx 0 rfl (j := 2) rfl) ?_
 refine load1X (H.bx 0 rfl (j := 3) rfl) ?_
 obtain ⟨r0, f0, f1⟩ := bindS hF; clear hF
 refine cut (fun (q0 : (List Int × List Int) × (Hd × Hd)) => [(1, (.pointer (some ⟨b4, 0, none⟩))), (3, (q0.2.1).v), (4, (q0.2.2).v)]) (fun (q0 : (List Int × List Int) × (Hd × Hd)) w' => (q0.1.1, q0.1.2) = r0 ∧ Cx w0 fp0 S0 w' [Bx b4 [(.int .i64 e__0), (.int .i64 e__1), (e__2h).v, (e__3h).v], Es (List Int) e__2 e__2h, Es (List Int) e__3 e__3h, Es (List Int) q0.1.1 q0.2.1, Es (List Int) q0.1.2 q0.2.2]) ?_ ?_
 ·
  refine fld gok rfl rfl rfl rfl ?_
  refine load1 (H.bx 0 rfl (j := 0) rfl) ?_
  obtain ⟨a0, e, f2⟩ := bindS f0; clear f0
  refine boolO e ?_; clear e
  cases a0
  ·
   have f3 := condF f2; clear f2
   replace H := H.dup 1 rfl persS
   replace H := H.dup 3 rfl persS
   exact ⟨((e__2, e__3), (e__2h, e__3h)), ⟨rfl, rfl, rfl, trivial⟩, Option.some.inj f3, H.sel [2, 3, 4, 1, 0] rfl⟩
  ·
   have f4 := condT f2; clear f2
   replace H := H.dup 2 rfl persS
   replace H := H.dup 2 rfl persS
   exact ⟨((e__3, e__2), (e__3h, e__2h)), ⟨rfl, rfl, rfl, trivial⟩, Option.some.inj f4, H.sel [2, 3, 4, 1, 0] rfl⟩
 ·
  clear f0 H
  rintro T0 ⟨⟨s0_0, s0_1⟩, ⟨g0_0, g0_1⟩⟩ w1 ⟨hr, (H : Cx w0 fp0 S0 w1 [Bx b4 [(.int .i64 e__0), (.int .i64 e__1), (e__2h).v, (e__3h).v], Es (List Int) e__2 e__2h, Es (List Int) e__3 e__3h, Es (List Int) s0_0 g0_0, Es (List Int) s0_1 g0_1])⟩
  subst hr
  refine sq ?_
  refine heldX H [] (.fst 0 (.fst 2 (.fst 1 (.fst 3 (.act 4 (.act 5 (.fst 6 .done))))))) mixed [] trivial (by kernel_rfl) ?_
  clear H; intro w2 H
  have hX : Ext w2 w2 := Upd.refl _ _
  have H0 := H
  refine anyH (fun _ => fld gok rfl rfl rfl rfl ⟨rfl, rfl⟩) ?_
  refine anyH (fun _ => fld gok rfl rfl rfl rfl ⟨rfl, rfl⟩) ?_
  refine load1X (H.bx 0 rfl (j := 0) rfl) ?_
  refine load1X (H.bx 0 rfl (j := 0) rfl) ?_
  obtain ⟨y0, e, f5⟩ := bindS f1; clear f1
  have i0 := e; clear e
  refine callFx (impl_mirrorKind_c e__0 y0 i0) H trivial ?_; clear H i0
  rintro _ _ w4 ⟨rfl, rfl⟩ hx H
  replace hX := hX.trans0 hx; clear hx
  refine hold hX ?_
  obtain ⟨a1, e, f6⟩ := bindS f5; clear f5
  refine min_ e ?_; clear e
  refine hold hX ?_
  obtain ⟨a2, e, f7⟩ := bindS f6; clear f6
  refine boolO e ?_; clear e
  cases a2
  ·
   have f8 := condF f7; clear f7
   obtain ⟨a3, e, f9⟩ := bindS f8; clear f8
   refine boolO e ?_; clear e
   cases a3
   ·
    have f10 := condF f9; clear f9
    obtain ⟨a4, e, f11⟩ := bindS f10; clear f10
    refine boolO e ?_; clear e
    cases a4
    ·
     have f12 := condF f11; clear f11
     obtain ⟨a5, e, f13⟩ := bindS f12; clear f12
     refine boolO e ?_; clear e
     cases a5
     ·
      have f14 := condF f13; clear f13
      replace H := H.nil (α := MI)
      cases f14
      exact ⟨_, _, rfl, ⟨nilH, rfl, rfl⟩, (H.sel [0] rfl).close ⟨cloE, trivial⟩⟩
     ·
      have f15 := condT f13; clear f13
      refine heldX H [8, 9, 10] (.fst 0 (.fst 1 (.fst 2 (.fst 4 (.fst 5 (.fst 3 (.fst 6 (.fst 7 (.act 8 (.act 9 (.act 10 .done))))))))))) mixed [] trivial (by kernel_rfl) ?_
      clear H; intro w5 H
      have hX : Ext w5 w5 := Upd.refl _ _
      have H0 := H
      obtain ⟨a6, e, f16⟩ := bindS f15; clear f15
      obtain ⟨p0, m0, c0, c1, c2, c3⟩ := (H.rs (α := List Int) 4 rfl).at1 e; clear e
      refine idxE c0 c1 c2 ?_; clear c0 c1 c2
      refine anyH (fun _ => fld gok rfl rfl rfl rfl ⟨rfl, rfl⟩) ?_
      refine load1X c3 ?_; clear c3
      refine load1X (H.bx 0 rfl (j := 1) rfl) ?_
      obtain ⟨a7, e, f17⟩ := bindS f16; clear f16
      refine arO e ?_; clear e
      obtain ⟨y1, e, f18⟩ := bindS f17; clear f17
      have i1 := e; clear e
      refine callF (impl_edgeRows_1_c a6 s0_0 g0_0 a7 y1 i1) (Γi := []) H ⟨Vw.sh 3 rfl, trivial⟩ ?_; clear H i1
      rintro _ _ w7 ⟨h0, rfl, rfl⟩ H
      refine hold trivial ?_
      refine lit1 (α := MI) (g := h0) gok rfl rfl rfl rfl rfl H ?_; clear H; intro h1 w8 hx H
      clear hx
      refine hold trivial ?_
      refine hold trivial ?_
      cases f18
      exact ⟨_, _, rfl, ⟨h1, rfl, rfl⟩, (H.sel [0] rfl).close ⟨cloE, trivial⟩⟩
    ·
     have f19 := condT f11; clear f11
     obtain ⟨a8, e, f20⟩ := bindS f19; clear f19
     obtain ⟨p1, m1, c4, c5, c6, c7⟩ := (H.rs (α := List Int) 4 rfl).at1 e; clear e
     refine idxE c4 c5 c6 ?_; clear c4 c5 c6
     refine load1 c7 ?_; clear c7
     replace H := H.nil (α := Int)
     obtain ⟨y2, e, f21⟩ := bindS f20; clear f20
     have i2 := e; clear e
     refine callF (impl_edgeRows_1_c a8 [] nilH 0 y2 i2) (Γi := []) H ⟨Vw.own 0 rfl, trivial⟩ ?_; clear H i2
     rintro _ _ w9 ⟨h2, rfl, rfl⟩ H
     refine lit1 (α := MI) (g := h2) gok rfl rfl rfl rfl rfl H ?_; clear H; intro h3 w10 hx H
     clear hx
     cases f21
     exact ⟨_, _, rfl, ⟨h3, rfl, rfl⟩, (H.sel [0] rfl).close ⟨cloE, trivial⟩⟩
   ·
    have f22 := condT f9; clear f9
    obtain ⟨a9, e, f23⟩ := bindS f22; clear f22
    obtain ⟨p2, m2, c8, c9, c10, c11⟩ := (H.rs (α := List Int) 4 rfl).at1 e; clear e
    refine idxE c8 c9 c10 ?_; clear c8 c9 c10
    refine load1 c11 ?_; clear c11
    obtain ⟨y3, e, f24⟩ := bindS f23; clear f23
    have i3 := e; clear e
    refine callF (impl_edgeRows_1_c a9 s0_0 g0_0 (-1) y3 i3) (Γi := []) H ⟨Vw.sh 3 rfl, trivial⟩ ?_; clear H i3
    rintro _ _ w11 ⟨h4, rfl, rfl⟩ H
    refine lit1 (α := MI) (g := h4) gok rfl rfl rfl rfl rfl H ?_; clear H; intro h5 w12 hx H
    clear hx
    cases f24
    exact ⟨_, _, rfl, ⟨h5, rfl, rfl⟩, (H.sel [0] rfl).close ⟨cloE, trivial⟩⟩
  ·
   have f25 := condT f7; clear f7
   refine heldX H [5, 11, 8, 9, 12, 13, 3, 2, 0, 1, 4, 6, 7, 10] (.pure 0 (.pure 1 (.pure 4 (.pure 6 (.pure 7 (.pure 10 (.alts (.alt 2 (.alts (.alt 3 (.alts (.alt 5 (.act 8 (.act 9 (.act 11 (.act 12 (.act 13 .done))))) (.alt 8 (.alts (.alt 5 (.act 9 (.act 11 (.act 12 (.act 13 .done)))) (.alt 9 (.act 5 (.act 11 (.act 12 (.act 13 .done)))) .no))) .no))) (.alt 8 (.alts (.alt 3 (.alts (.alt 5 (.act 9 (.act 11 (.act 12 (.act 13 .done)))) (.alt 9 (.act 5 (.act 11 (.act 12 (.act 13 .done)))) .no))) (.alt 9 (.act 3 (.act 5 (.act 11 (.act 12 (.act 13 .done))))) .no))) .no))) (.alt 8 (.alts (.alt 2 (.alts (.alt 3 (.alts (.alt 5 (.act 9 (.act 11 (.act 12 (.act 13 .done)))) (.alt 9 (.act 5 (.act 11 (.act 12 (.act 13 .done)))) .no))) (.alt 9 (.act 3 (.act 5 (.act 11 (.act 12 (.act 13 .done))))) .no))) (.alt 9 (.act 2 (.act 3 (.act 5 (.act 11 (.act 12 (.act 13 .done)))))) .no))) .no))))))))) mixed [] trivial (by kernel_rfl) ?_
   clear H; intro w13 H
   have hX : Ext w13 w13 := Upd.refl _ _
   have H0 := H
   refine both ?_ ?_
   ·
    obtain ⟨a10, e, f26⟩ := bindS f25; clear f25
    have d0 := e; clear e
    obtain ⟨p3, m3, c12, c13, c14, c15⟩ := (H.rs (α := List Int) 4 rfl).at1 d0; clear c15
    refine idxE c12 c13 c14 ?_; clear c14
    refine hold trivial ?_
    refine both ?_ ?_
    ·
     refine load1 ((H.rs (α := List Int) 4 rfl).at1' c12 c13 d0) ?_; clear c12 c13 d0
     refine hold trivial ?_
     refine both ?_ ?_
     ·
      obtain ⟨y4, e, f27⟩ := bindS f26; clear f26
      have i4 := e; clear e
      refine callF (impl_edgeRows_1_c a10 s0_0 g0_0 (-1) y4 i4) (Γi := []) H ⟨Vw.sh 3 rfl, trivial⟩ ?_; clear H i4
      rintro _ _ w14 ⟨h6, rfl, rfl⟩ H
      refine hold trivial ?_
      obtain ⟨a11, e, f28⟩ := bindS f27; clear f27
      have d1 := e; clear e
      obtain ⟨p4, m4, c16, c17, c18, c19⟩ := (H.rs (α := List Int) 5 rfl).at1 d1; clear c19
      refine idxE c16 c17 c18 ?_; clear c18
      refine hold trivial ?_
      refine load1 ((H.rs (α := List Int) 5 rfl).at1' c16 c17 d1) ?_; clear c16 c17 d1
      refine hold trivial ?_
      obtain ⟨y5, e, f29⟩ := bindS f28; clear f28
      have i5 := e; clear e
      refine callF (impl_edgeRows_1_c a11 s0_0 g0_0 (-1) y5 i5) (Γi := []) H ⟨Vw.sh 4 rfl, trivial⟩ ?_; clear H i5
      rintro _ _ w15 ⟨h7, rfl, rfl⟩ H
      refine hold trivial ?_
      replace H := H.sel [1, 0, 2, 3, 4, 5, 6] rfl
      refine litN (α := MI) (us := [(h6).v, (h7).v]) (xs := [y4, y5]) (gs := [h6, h7]) gok rfl rfl rfl ⟨rfl, rfl, trivial⟩ rfl rfl H ?_; clear H; intro h8 w16 hx H
      clear hx
      refine hold trivial ?_
      refine hold trivial ?_
      cases f29
      exact ⟨_, _, rfl, ⟨h8, rfl, rfl⟩, (H.sel [0] rfl).close ⟨cloE, trivial⟩⟩
     ·
      refine both ?_ ?_
      ·
       obtain ⟨a12, o0, f30⟩ := bindS f26; clear f26
       obtain ⟨a13, o1, f31⟩ := bindS f30; clear f30
       obtain ⟨a14, o2, f32⟩ := bindS f31; clear f31
       have e := o1; clear o1
       have d2 := e; clear e
       obtain ⟨p5, m5, c20, c21, c22, c23⟩ := (H.rs (α := List Int) 4 rfl).at1 d2; clear c23
       refine idxE c20 c21 c22 ?_; clear c22
       refine hold trivial ?_
       refine both ?_ ?_
       ·
        have e := o0; clear o0
        have i6 := e; clear e
        refine callF (impl_edgeRows_1_c a10 s0_0 g0_0 (-1) a12 i6) (Γi := []) H ⟨Vw.sh 3 rfl, trivial⟩ ?_; clear H i6
        rintro _ _ w17 ⟨h9, rfl, rfl⟩ H
        refine hold trivial ?_
        refine load1 ((H.rs (α := List Int) 5 rfl).at1' c20 c21 d2) ?_; clear c20 c21 d2
        refine hold trivial ?_
        have e := o2; clear o2
        have i7 := e; clear e
        refine callF (impl_edgeRows_1_c a13 s0_0 g0_0 (-1) a14 i7) (Γi := []) H ⟨Vw.sh 4 rfl, trivial⟩ ?_; clear H i7
        rintro _ _ w18 ⟨h10, rfl, rfl⟩ H
        refine hold trivial ?_
        replace H := H.sel [1, 0, 2, 3, 4, 5, 6] rfl
        refine litN (α := MI) (us := [(h9).v, (h10).v]) (xs := [a12, a14]) (gs := [h9, h10]) gok rfl rfl rfl ⟨rfl, rfl, trivial⟩ rfl rfl H ?_; clear H; intro h11 w19 hx H
        clear hx
        refine hold trivial ?_
        refine hold trivial ?_
        cases f32
        exact ⟨_, _, rfl, ⟨h11, rfl, rfl⟩, (H.sel [0] rfl).close ⟨cloE, trivial⟩⟩
       ·
        refine both ?_ ?_
        ·
         refine load1 ((H.rs (α := List Int) 4 rfl).at1' c20 c21 d2) ?_; clear c20 c21 d2
         refine hold trivial ?_
         have e := o0; clear o0
         have i6 := e; clear e
         refine callF (impl_edgeRows_1_c a10 s0_0 g0_0 (-1) a12 i6) (Γi := []) H ⟨Vw.sh 3 rfl, trivial⟩ ?_; clear H i6
         rintro _ _ w20 ⟨h12, rfl, rfl⟩ H
         refine hold trivial ?_
         have e := o2; clear o2
         have i7 := e; clear e
         refine callF (impl_edgeRows_1_c a13 s0_0 g0_0 (-1) a14 i7) (Γi := []) H ⟨Vw.sh 4 rfl, trivial⟩ ?_; clear H i7
         rintro _ _ w21 ⟨h13, rfl, rfl⟩ H
         refine hold trivial ?_
         replace H := H.sel [1, 0, 2, 3, 4, 5, 6] rfl
         refine litN (α := MI) (us := [(h12).v, (h13).v]) (xs := [a12, a14]) (gs := [h12, h13]) gok rfl rfl rfl ⟨rfl, rfl, trivial⟩ rfl rfl H ?_; clear H; intro h14 w22 hx H
         clear hx
         refine hold trivial ?_
         refine hold trivial ?_
         cases f32
         exact ⟨_, _, rfl, ⟨h14, rfl, rfl⟩, (H.sel [0] rfl).close ⟨cloE, trivial⟩⟩
        ·
         exact trivial
      ·
       exact trivial
    ·
     refine both ?_ ?_
     ·
      obtain ⟨a15, o3, f33⟩ := bindS f26; clear f26
      obtain ⟨a16, o4, f34⟩ := bindS f33; clear f33
      obtain ⟨a17, o5, f35⟩ := bindS f34; clear f34
      have e := o4; clear o4
      have d3 := e; clear e
      obtain ⟨p6, m6, c24, c25, c26, c27⟩ := (H.rs (α := List Int) 4 rfl).at1 d3; clear c27
      refine idxE c24 c25 c26 ?_; clear c26
      refine hold trivial ?_
      refine both ?_ ?_
      ·
       refine load1 ((H.rs (α := List Int) 4 rfl).at1' c12 c13 d0) ?_; clear c12 c13 d0
       refine hold trivial ?_
       refine both ?_ ?_
       ·
        have e := o3; clear o3
        have i8 := e; clear e
        refine callF (impl_edgeRows_1_c a10 s0_0 g0_0 (-1) a15 i8) (Γi := []) H ⟨Vw.sh 3 rfl, trivial⟩ ?_; clear H i8
        rintro _ _ w23 ⟨h15, rfl, rfl⟩ H
        refine hold trivial ?_
        refine load1 ((H.rs (α := List Int) 5 rfl).at1' c24 c25 d3) ?_; clear c24 c25 d3
        refine hold trivial ?_
        have e := o5; clear o5
        have i9 := e; clear e
        refine callF (impl_edgeRows_1_c a16 s0_0 g0_0 (-1) a17 i9) (Γi := []) H ⟨Vw.sh 4 rfl, trivial⟩ ?_; clear H i9
        rintro _ _ w24 ⟨h16, rfl, rfl⟩ H
        refine hold trivial ?_
        replace H := H.sel [1, 0, 2, 3, 4, 5, 6] rfl
        refine litN (α := MI) (us := [(h15).v, (h16).v]) (xs := [a15, a17]) (gs := [h15, h16]) gok rfl rfl rfl ⟨rfl, rfl, trivial⟩ rfl rfl H ?_; clear H; intro h17 w25 hx H
        clear hx
        refine hold trivial ?_
        refine hold trivial ?_
        cases f35
        exact ⟨_, _, rfl, ⟨h17, rfl, rfl⟩, (H.sel [0] rfl).close ⟨cloE, trivial⟩⟩
       ·
        refine both ?_ ?_
        ·
         refine load1 ((H.rs (α := List Int) 4 rfl).at1' c24 c25 d3) ?_; clear c24 c25 d3
         refine hold trivial ?_
         have e := o3; clear o3
         have i8 := e; clear e
         refine callF (impl_edgeRows_1_c a10 s0_0 g0_0 (-1) a15 i8) (Γi := []) H ⟨Vw.sh 3 rfl, trivial⟩ ?_; clear H i8
         rintro _ _ w26 ⟨h18, rfl, rfl⟩ H
         refine hold trivial ?_
         have e := o5; clear o5
         have i9 := e; clear e
         refine callF (impl_edgeRows_1_c a16 s0_0 g0_0 (-1) a17 i9) (Γi := []) H ⟨Vw.sh 4 rfl, trivial⟩ ?_; clear H i9
         rintro _ _ w27 ⟨h19, rfl, rfl⟩ H
         refine hold trivial ?_
         replace H := H.sel [1, 0, 2, 3, 4, 5, 6] rfl
         refine litN (α := MI) (us := [(h18).v, (h19).v]) (xs := [a15, a17]) (gs := [h18, h19]) gok rfl rfl rfl ⟨rfl, rfl, trivial⟩ rfl rfl H ?_; clear H; intro h20 w28 hx H
         clear hx
         refine hold trivial ?_
         refine hold trivial ?_
         cases f35
         exact ⟨_, _, rfl, ⟨h20, rfl, rfl⟩, (H.sel [0] rfl).close ⟨cloE, trivial⟩⟩
        ·
         exact trivial
      ·
       refine both ?_ ?_
       ·
        refine load1 ((H.rs (α := List Int) 4 rfl).at1' c24 c25 d3) ?_; clear c24 c25 d3
        refine hold trivial ?_
        refine load1 ((H.rs (α := List Int) 4 rfl).at1' c12 c13 d0) ?_; clear c12 c13 d0
        refine hold trivial ?_
        have e := o3; clear o3
        have i8 := e; clear e
        refine callF (impl_edgeRows_1_c a10 s0_0 g0_0 (-1) a15 i8) (Γi := []) H ⟨Vw.sh 3 rfl, trivial⟩ ?_; clear H i8
        rintro _ _ w29 ⟨h21, rfl, rfl⟩ H
        refine hold trivial ?_
        have e := o5; clear o5
        have i9 := e; clear e
        refine callF (impl_edgeRows_1_c a16 s0_0 g0_0 (-1) a17 i9) (Γi := []) H ⟨Vw.sh 4 rfl, trivial⟩ ?_; clear H i9
        rintro _ _ w30 ⟨h22, rfl, rfl⟩ H
        refine hold trivial ?_
        replace H := H.sel [1, 0, 2, 3, 4, 5, 6] rfl
        refine litN (α := MI) (us := [(h21).v, (h22).v]) (xs := [a15, a17]) (gs := [h21, h22]) gok rfl rfl rfl ⟨rfl, rfl, trivial⟩ rfl rfl H ?_; clear H; intro h23 w32 hx H
        clear hx
        refine hold trivial ?_
        refine hold trivial ?_
        cases f35
        exact ⟨_, _, rfl, ⟨h23, rfl, rfl⟩, (H.sel [0] rfl).close ⟨cloE, trivial⟩⟩
       ·
        exact trivial
     ·
      exact trivial
   ·
    refine both ?_ ?_
    ·
     obtain ⟨a18, o6, f36⟩ := bindS f25; clear f25
     obtain ⟨a20, o7, f37⟩ := bindS f36; clear f36
     obtain ⟨a21, o8, f38⟩ := bindS f37; clear f37
     obtain ⟨a22, o9, f39⟩ := bindS f38; clear f38
     have e := o8; clear o8
     have d4 := e; clear e
     obtain ⟨p7, m7, c28, c29, c30, c31⟩ := (H.rs (α := List Int) 4 rfl).at1 d4; clear c31
     refine idxE c28 c29 c30 ?_; clear c30
     refine hold trivial ?_
     refine both ?_ ?_
     ·
      have e := o6; clear o6
      have d5 := e; clear e
      obtain ⟨p8, m8, c32, c33, c34, c35⟩ := (H.rs (α := List Int) 4 rfl).at1 d5; clear c35
      refine idxE c32 c33 c34 ?_; clear c34
      refine hold trivial ?_
      refine both ?_ ?_
      ·
       refine load1 ((H.rs (α := List Int) 4 rfl).at1' c32 c33 d5) ?_; clear c32 c33 d5
       refine hold trivial ?_
       refine both ?_ ?_
       ·
        have e := o7; clear o7
        have i10 := e; clear e
        refine callF (impl_edgeRows_1_c a18 s0_0 g0_0 (-1) a20 i10) (Γi := []) H ⟨Vw.sh 3 rfl, trivial⟩ ?_; clear H i10
        rintro _ _ w34 ⟨h24, rfl, rfl⟩ H
        refine hold trivial ?_
        refine load1 ((H.rs (α := List Int) 5 rfl).at1' c28 c29 d4) ?_; clear c28 c29 d4
        refine hold trivial ?_
        have e := o9; clear o9
        have i11 := e; clear e
        refine callF (impl_edgeRows_1_c a21 s0_0 g0_0 (-1) a22 i11) (Γi := []) H ⟨Vw.sh 4 rfl, trivial⟩ ?_; clear H i11
        rintro _ _ w35 ⟨h25, rfl, rfl⟩ H
        refine hold trivial ?_
        replace H := H.sel [1, 0, 2, 3, 4, 5, 6] rfl
        refine litN (α := MI) (us := [(h24).v, (h25).v]) (xs := [a20, a22]) (gs := [h24, h25]) gok rfl rfl rfl ⟨rfl, rfl, trivial⟩ rfl rfl H ?_; clear H; intro h26 w37 hx H
        clear hx
        refine hold trivial ?_
        refine hold trivial ?_
        cases f39
        exact ⟨_, _, rfl, ⟨h26, rfl, rfl⟩, (H.sel [0] rfl).close ⟨cloE, trivial⟩⟩
       ·
        refine both ?_ ?_
        ·
         refine load1 ((H.rs (α := List Int) 4 rfl).at1' c28 c29 d4) ?_; clear c28 c29 d4
         refine hold trivial ?_
         have e := o7; clear o7
         have i10 := e; clear e
         refine callF (impl_edgeRows_1_c a18 s0_0 g0_0 (-1) a20 i10) (Γi := []) H ⟨Vw.sh 3 rfl, trivial⟩ ?_; clear H i10
         rintro _ _ w38 ⟨h27, rfl, rfl⟩ H
         refine hold trivial ?_
         have e := o9; clear o9
         have i11 := e; clear e
         refine callF (impl_edgeRows_1_c a21 s0_0 g0_0 (-1) a22 i11) (Γi := []) H ⟨Vw.sh 4 rfl, trivial⟩ ?_; clear H i11
         rintro _ _ w39 ⟨h28, rfl, rfl⟩ H
         refine hold trivial ?_
         replace H := H.sel [1, 0, 2, 3, 4, 5, 6] rfl
         refine litN (α := MI) (us := [(h27).v, (h28).v]) (xs := [a20, a22]) (gs := [h27, h28]) gok rfl rfl rfl ⟨rfl, rfl, trivial⟩ rfl rfl H ?_; clear H; intro h29 w40 hx H
         clear hx
         refine hold trivial ?_
         refine hold trivial ?_
         cases f39
         exact ⟨_, _, rfl, ⟨h29, rfl, rfl⟩, (H.sel [0] rfl).close ⟨cloE, trivial⟩⟩
        ·
         exact trivial
      ·
       refine both ?_ ?_
       ·
        refine load1 ((H.rs (α := List Int) 4 rfl).at1' c28 c29 d4) ?_; clear c28 c29 d4
        refine hold trivial ?_
        refine load1 ((H.rs (α := List Int) 4 rfl).at1' c32 c33 d5) ?_; clear c32 c33 d5
        refine hold trivial ?_
        have e := o7; clear o7
        have i10 := e; clear e
        refine callF (impl_edgeRows_1_c a18 s0_0 g0_0 (-1) a20 i10) (Γi := []) H ⟨Vw.sh 3 rfl, trivial⟩ ?_; clear H i10
        rintro _ _ w41 ⟨h30, rfl, rfl⟩ H
        refine hold trivial ?_
        have e := o9; clear o9
        have i11 := e; clear e
        refine callF (impl_edgeRows_1_c a21 s0_0 g0_0 (-1) a22 i11) (Γi := []) H ⟨Vw.sh 4 rfl, trivial⟩ ?_; clear H i11
        rintro _ _ w42 ⟨h31, rfl, rfl⟩ H
        refine hold trivial ?_
        replace H := H.sel [1, 0, 2, 3, 4, 5, 6] rfl
        refine litN (α := MI) (us := [(h30).v, (h31).v]) (xs := [a20, a22]) (gs := [h30, h31]) gok rfl rfl rfl ⟨rfl, rfl, trivial⟩ rfl rfl H ?_; clear H; intro h32 w43 hx H
        clear hx
        refine hold trivial ?_
        refine hold trivial ?_
        cases f39
        exact ⟨_, _, rfl, ⟨h32, rfl, rfl⟩, (H.sel [0] rfl).close ⟨cloE, trivial⟩⟩
       ·
        exact trivial
     ·
      refine both ?_ ?_
      ·
       refine load1 ((H.rs (α := List Int) 4 rfl).at1' c28 c29 d4) ?_; clear c28 c29 d4
       refine hold trivial ?_
       have e := o6; clear o6
       have d6 := e; clear e
       obtain ⟨p9, m9, c36, c37, c38, c39⟩ := (H.rs (α := List Int) 4 rfl).at1 d6; clear c39
       refine idxE c36 c37 c38 ?_; clear c38
       refine hold trivial ?_
       refine load1 ((H.rs (α := List Int) 4 rfl).at1' c36 c37 d6) ?_; clear c36 c37 d6
       refine hold trivial ?_
       have e := o7; clear o7
       have i10 := e; clear e
       refine callF (impl_edgeRows_1_c a18 s0_0 g0_0 (-1) a20 i10) (Γi := []) H ⟨Vw.sh 3 rfl, trivial⟩ ?_; clear H i10
       rintro _ _ w44 ⟨h33, rfl, rfl⟩ H
       refine hold trivial ?_
       have e := o9; clear o9
       have i11 := e; clear e
       refine callF (impl_edgeRows_1_c a21 s0_0 g0_0 (-1) a22 i11) (Γi := []) H ⟨Vw.sh 4 rfl, trivial⟩ ?_; clear H i11
       rintro _ _ w45 ⟨h34, rfl, rfl⟩ H
       refine hold trivial ?_
       replace H := H.sel [1, 0, 2, 3, 4, 5, 6] rfl
       refine litN (α := MI) (us := [(h33).v, (h34).v]) (xs := [a20, a22]) (gs := [h33, h34]) gok rfl rfl rfl ⟨rfl, rfl, trivial⟩ rfl rfl H ?_; clear H; intro h35 w46 hx H
       clear hx
       refine hold trivial ?_
       refine hold trivial ?_
       cases f39
       exact ⟨_, _, rfl, ⟨h35, rfl, rfl⟩, (H.sel [0] rfl).close ⟨cloE, trivial⟩⟩
      ·
       exact trivial
    ·
     exact trivial

theorem impl_mod_c (p_ : Int) (a_ : Int) (y : Int) (hF : F_impl_mod p_ a_ = some y) :
  ConF Tryz.prog 45 #[(.int .i64 p_), (.int .i64 a_)] [] [] (fun v Γ' => v = (.int .i64 y) ∧ Γ' = []) := by
 intro w0 S0 fp0 hI hS
 have H : Cx w0 fp0 S0 w0 [] := Cx.start hI hS
 clear hI hS
 refine enterC (args := [_, _]) gok Tryz.func45 rfl _ rfl rfl rfl ?_
 obtain ⟨a1, e, hF2⟩ := bindS hF; clear hF
 refine remO_ e ?_; clear e
 refine sq ?_
 obtain ⟨a3, e, hF4⟩ := bindS hF2; clear hF2
 refine boolO e ?_; clear e
 cases a3
 ·
  have hF5 := condF hF4; clear hF4
  cases hF5
  exact ⟨_, _, rfl, ⟨rfl, rfl⟩, (H.sel [] rfl).close trivial⟩
 ·
  have hF6 := condT hF4; clear hF4
  obtain ⟨a7, e, hF8⟩ := bindS hF6; clear hF6
  refine arO e ?_; clear e
  cases hF8
  exact ⟨_, _, rfl, ⟨rfl, rfl⟩, (H.sel [] rfl).close trivial⟩

theorem impl_systemOfGraph_c (p_ : Int) (g__0 : Int) (g__1 : List (Int × Int × List Int × List Int)) (g__1h : Hd) (g__2 : List Int) (g__2h : Hd) (g__3 : List Int) (g__3h : Hd) (y_0 : Int) (y_1 : Int) (y_2 : List (List Int)) (hF : F_impl_systemOfGraph p_ (g__0, g__1, g__2, g__3) = some (y_0, y_1, y_2)) :
  ConF Tryz.prog 20 #[(.int .i64 p_), (.agg #[(.int .i64 g__0), (g__1h).v, (g__2h).v, (g__3h).v])] [Es (List (Int × Int × List Int × List Int)) g__1 g__1h, Es (List Int) g__2 g__2h, Es (List Int) g__3 g__3h] [] (fun v Γ' => ∃ z0 : Hd, v = (.agg #[(.int .i64 y_0), (.int .i64 y_1), (z0).v]) ∧ Γ' = [E (List (List Int)) y_2 z0]) := by
 intro w0 S0 fp0 hI hS
 have H : Cx w0 fp0 S0 w0 [Es (List (Int × Int × List Int × List Int)) g__1 g__1h, Es (List Int) g__2 g__2h, Es (List Int) g__3 g__3h] := Cx.start hI hS
 clear hI hS
 refine enterC (args := [_, _]) gok Tryz.func20 rfl _ rfl rfl rfl ?_
 refine box_ H ?_; clear H; intro b5 w4 hx H
 clear hx
 refine alloc_ gok rfl H ?_; clear H; intro b8 w7 hx H
 clear hx
 refine fld gok rfl rfl rfl rfl ?_
 refine load1 (H.bx 1 rfl (j := 2) rfl) ?_
 refine fld gok rfl rfl rfl rfl ?_
 refine load1 (H.bx 1 rfl (j := 3) rfl) ?_
 replace H := H.dup 4 rfl persS
 replace H := H.dup 4 rfl persS
 refine litN (α := Sh (List Int)) (us := [(g__2h).v, (g__3h).v]) (xs := [g__2, g__3]) (gs := [g__2h, g__3h]) gok rfl rfl rfl ⟨rfl, rfl, trivial⟩ rfl rfl H ?_; clear H; intro h0 w1 hx H
 clear hx
 obtain ⟨y0, e, f0⟩ := bindS hF; clear hF
 have i0 := e; clear e
 refine callF (impl_joined_c [g__2, g__3] h0 y0 i0) (Γi := []) H ⟨Vw.part (β := List (List Int)) (Vw.own (α := List (Sh (List Int))) 0 rfl) [g__2, g__3] h0 (fun S h => h), trivial⟩ ?_; clear H i0
 rintro _ _ w2 ⟨h1, rfl, rfl⟩ H
 refine lenE (H.ro (α := List Int) 0 rfl).len ?_
 refine fld gok rfl rfl rfl rfl ?_
 refine load1 (H.bx 3 rfl (j := 0) rfl) ?_
 refine build_ (cs := #[(.int .i64 ((y0.length : Nat) : Int)), (.int .i64 g__0), (.slice none 0 0)]) gok rfl rfl rfl ?_
 refine alloc_ gok rfl H ?_; clear H; intro b0 w3 hx H
 clear hx
 refine stA gok [(.int .i64 ((y0.length : Nat) : Int)), (.int .i64 g__0), (.slice none 0 0)] rfl H rfl rfl rfl ?_; clear H; intro w5 H
 refine sq ?_
 refine lenE (H.ro (α := List Int) 1 rfl).len ?_
 have x0 := (H.ro (α := List Int) 1 rfl).max
 obtain ⟨r0, e, f1⟩ := bindS f0; clear f0
 replace H := H.nil (α := List Int)
 refine loopS _ y0.length (fun (k0 : Nat) (s0 : List (List Int)) (g0 : Hd) => [(0, (.int .i64 p_)), (3, (.pointer (some ⟨b5, 0, none⟩))), (4, (.pointer (some ⟨b8, 0, none⟩))), (6, (.pointer (some ⟨b0, 0, none⟩))), (28, (h1).v), (29, (.int .i64 ((y0.length : Nat) : Int))), (30, (.int .i64 ((k0 : Nat) : Int)))]) (fun _ (s0 : List (List Int)) (g0 : Hd) w' => Cx w0 fp0 S0 w' [Bx b5 [(.int .i64 g__0), (g__1h).v, (g__2h).v, (g__3h).v], Es (List (Int × Int × List Int × List Int)) g__1 g__1h, Es (List Int) g__2 g__2h, Es (List Int) g__3 g__3h, Bx b8 [(.int .i64 0), (.int .i64 0), (.slice none 0 0)], Bx b0 [(.int .i64 ((y0.length : Nat) : Int)), (.int .i64 g__0), (g0).v], E (List (List Int)) s0 g0, E (List Int) y0 h1]) [] nilH e ⟨rfl, rfl, rfl, rfl, rfl, rfl, rfl, trivial⟩ (H.sel [5, 6, 7, 8, 4, 1, 0, 2] rfl) ?_ ?_
 ·
  clear H e
  rintro T0 k0 s0 g0 w6 o0 hk (H : Cx w0 fp0 S0 w6 [Bx b5 [(.int .i64 g__0), (g__1h).v, (g__2h).v, (g__3h).v], Es (List (Int × Int × List Int × List Int)) g__1 g__1h, Es (List Int) g__2 g__2h, Es (List Int) g__3 g__3h, Bx b8 [(.int .i64 0), (.int .i64 0), (.slice none 0 0)], Bx b0 [(.int .i64 ((y0.length : Nat) : Int)), (.int .i64 g__0), (g0).v], E (List (List Int)) s0 g0, E (List Int) y0 h1]) f2
  refine boolE (z := true) (ltLen hk) ?_
  refine sq ?_
  refine sq ?_
  obtain ⟨a0, e, f3⟩ := bindS f2; clear f2
  obtain ⟨p0, m0, c0, c1, c2, c3⟩ := (H.ro (α := List Int) 7 rfl).at1 e; clear e
  refine idxE c0 c1 c2 ?_; clear c0 c1 c2
  refine load1 c3 ?_; clear c3
  refine loadN [(.int .i64 ((y0.length : Nat) : Int)), (.int .i64 g__0), (g0).v] rfl (fun j u hj => H.bx 5 rfl hj) ?_
  obtain ⟨y1, e, f4⟩ := bindS f3; clear f3
  have i1 := e; clear e
  refine callF (impl_System_size_c ((y0.length : Nat) : Int) g__0 s0 g0 y1 i1) (Γi := []) H ⟨Vw.own 6 rfl, trivial⟩ ?_; clear H i1
  rintro _ _ w8 ⟨rfl, rfl⟩ H
  obtain ⟨y2, e, f5⟩ := bindS f4; clear f4
  have i2 := e; clear e
  refine callF (impl_unit_c y1 ((k0 : Nat) : Int) y2 i2) (Γi := []) H trivial ?_; clear H i2
  rintro _ _ w9 ⟨h2, rfl, rfl⟩ H
  refine fld gok rfl rfl rfl rfl ?_
  refine load1 (H.bx 6 rfl (j := 0) rfl) ?_
  obtain ⟨a1, e, f6⟩ := bindS f5; clear f5
  refine arO e ?_; clear e
  obtain ⟨a2, e, f7⟩ := bindS f6; clear f6
  refine arO e ?_; clear e
  obtain ⟨a3, e, f8⟩ := bindS f7; clear f7
  have i3 := e; clear e
  obtain ⟨p1, m1, c4, c5, c6⟩ := (H.ro (α := List Int) 0 rfl).setp i3
  refine idxE c4 c5 c6 ?_
  refine setS (α := Int) H c4 c5 i3 ?_; clear H c4 c5 c6 i3; intro w11 H
  refine fld gok rfl rfl rfl rfl ?_
  refine load1 (H.bx 6 rfl (j := 2) rfl) ?_
  refine lit1 (α := List Int) (g := h2) gok rfl rfl rfl rfl rfl H ?_; clear H; intro h3 w12 hx H
  clear hx
  obtain ⟨a4, e, f9⟩ := bindS f8; clear f8
  replace H := H.sel [7, 0, 1, 2, 3, 4, 5, 6, 8] rfl
  refine append_ (α := List Int) gok rfl rfl rfl rfl H e ?_; clear e H; intro h4 w13 H
  refine fld gok rfl rfl rfl rfl ?_
  replace H := H.sel [6, 0, 1, 2, 3, 4, 5, 7] rfl
  refine stB (j := 2) H rfl rfl ?_; clear H; intro w14 H
  refine arK hk x0 ?_
  have hs := Option.some.inj f9; subst hs; clear f9
  exact ⟨h4, ⟨rfl, rfl, rfl, rfl, rfl, rfl, rfl, trivial⟩, H.sel [2, 3, 4, 5, 6, 0, 1, 7] rfl⟩
 ·
  clear H e
  rintro T1 g1 w15 (H : Cx w0 fp0 S0 w15 [Bx b5 [(.int .i64 g__0), (g__1h).v, (g__2h).v, (g__3h).v], Es (List (Int × Int × List Int × List Int)) g__1 g__1h, Es (List Int) g__2 g__2h, Es (List Int) g__3 g__3h, Bx b8 [(.int .i64 0), (.int .i64 0), (.slice none 0 0)], Bx b0 [(.int .i64 ((y0.length : Nat) : Int)), (.int .i64 g__0), (g1).v], E (List (List Int)) r0 g1, E (List Int) y0 h1])
  refine boolE (z := false) geLen ?_
  refine sq ?_
  refine sq ?_
  refine fld gok rfl rfl rfl rfl ?_
  refine load1 (H.bx 0 rfl (j := 1) rfl) ?_
  refine lenE (H.rs (α := List (Int × Int × List Int × List Int)) 1 rfl).len ?_
  have x1 := (H.rs (α := List (Int × Int × List Int × List Int)) 1 rfl).max
  obtain ⟨r1, e, f10⟩ := bindS f1; clear f1
  refine loopS _ g__1.length (fun (k1 : Nat) (s1 : List (List Int)) (g2 : Hd) => [(0, (.int .i64 p_)), (4, (.pointer (some ⟨b8, 0, none⟩))), (6, (.pointer (some ⟨b0, 0, none⟩))), (55, (g__1h).v), (56, (.int .i64 ((g__1.length : Nat) : Int))), (57, (.int .i64 ((k1 : Nat) : Int)))]) (fun _ (s1 : List (List Int)) (g2 : Hd) w' => Cx w0 fp0 S0 w' [Bx b8 [(.int .i64 0), (.int .i64 0), (.slice none 0 0)], Bx b0 [(.int .i64 ((y0.length : Nat) : Int)), (.int .i64 g__0), (g2).v], E (List (List Int)) s1 g2, Es (List (Int × Int × List Int × List Int)) g__1 g__1h]) r0 g1 e ⟨rfl, rfl, rfl, rfl, rfl, rfl, trivial⟩ (H.sel [4, 5, 6, 1] rfl) ?_ ?_
  ·
   clear H e
   rintro T2 k1 s1 g2 w16 o1 hk (H : Cx w0 fp0 S0 w16 [Bx b8 [(.int .i64 0), (.int .i64 0), (.slice none 0 0)], Bx b0 [(.int .i64 ((y0.length : Nat) : Int)), (.int .i64 g__0), (g2).v], E (List (List Int)) s1 g2, Es (List (Int × Int × List Int × List Int)) g__1 g__1h]) f11
   refine boolE (z := true) (ltLen hk) ?_
   refine sq ?_
   refine sq ?_
   obtain ⟨a5, e, f12⟩ := bindS f11; clear f11
   have HH := H; clear H; obtain ⟨p2, m2, g3, c7, c8, c9, c10, H⟩ := HH.el (α := Int × Int × List Int × List Int) 3 rfl e; clear HH
   clear e
   obtain ⟨a5_0, a5_1, a5_2, a5_3⟩ := a5
   obtain ⟨_, _, h5, h6⟩ := g3
   replace H := H.part (β := List Int) a5_2 (h5 : Hd) 0 rfl (fun S h => (And.left (And.right (And.right h))))
   replace H := H.part (β := List Int) a5_3 (h6 : Hd) 1 rfl (fun S h => (And.right (And.right (And.right h))))
   replace H := H.sel [0, 1, 3, 4, 5, 6] rfl
   refine idxE c7 c8 c9 ?_; clear c7 c8 c9
   refine loadN [(.int .i64 a5_0), (.int .i64 a5_1), (h5).v, (h6).v] rfl c10 ?_; clear c10
   refine alloc_ gok rfl H ?_; clear H; intro b1 w18 hx H
   clear hx
   refine stA gok [(.int .i64 a5_0), (.int .i64 a5_1), (h5).v, (h6).v] rfl H rfl rfl rfl ?_; clear H; intro w19 H
   refine loadN [(.int .i64 a5_0), (.int .i64 a5_1), (h5).v, (h6).v] rfl (fun j u hj => H.bx 0 rfl hj) ?_
   obtain ⟨y3, e, f13⟩ := bindS f12; clear f12
   have i4 := e; clear e
   refine callF (impl_edgeRows_c a5_0 a5_1 a5_2 h5 a5_3 h6 y3 i4) (Γi := []) H ⟨Vw.sh 2 rfl, Vw.sh 1 rfl, trivial⟩ ?_; clear H i4
   rintro _ _ w21 ⟨h7, rfl, rfl⟩ H
   refine lenE (H.ro (α := List MI) 0 rfl).len ?_
   replace H := H.frz
   have x2 := (H.rs (α := List MI) 0 rfl).max
   obtain ⟨r2, e, f14⟩ := bindS f13; clear f13
   refine loopS _ y3.length (fun (k2 : Nat) (s2 : List (List Int)) (g4 : Hd) => [(0, (.int .i64 p_)), (4, (.pointer (some ⟨b8, 0, none⟩))), (6, (.pointer (some ⟨b0, 0, none⟩))), (55, (g__1h).v), (56, (.int .i64 ((g__1.length : Nat) : Int))), (57, (.int .i64 ((k1 : Nat) : Int))), (62, (h7).v), (63, (.int .i64 ((y3.length : Nat) : Int))), (64, (.int .i64 ((k2 : Nat) : Int)))]) (fun _ (s2 : List (List Int)) (g4 : Hd) w' => Cx w0 fp0 S0 w' [Bx b8 [(.int .i64 0), (.int .i64 0), (.slice none 0 0)], Bx b0 [(.int .i64 ((y0.length : Nat) : Int)), (.int .i64 g__0), (g4).v], E (List (List Int)) s2 g4, Es (List (Int × Int × List Int × List Int)) g__1 g__1h, Es (List MI) y3 h7]) s1 g2 e ⟨rfl, rfl, rfl, rfl, rfl, rfl, rfl, rfl, rfl, trivial⟩ (H.sel [4, 5, 6, 7, 0] rfl) ?_ ?_
   ·
    clear H e
    rintro T3 k2 s2 g4 w22 o2 hk (H : Cx w0 fp0 S0 w22 [Bx b8 [(.int .i64 0), (.int .i64 0), (.slice none 0 0)], Bx b0 [(.int .i64 ((y0.length : Nat) : Int)), (.int .i64 g__0), (g4).v], E (List (List Int)) s2 g4, Es (List (Int × Int × List Int × List Int)) g__1 g__1h, Es (List MI) y3 h7]) f15
    refine boolE (z := true) (ltLen hk) ?_
    refine sq ?_
    refine sq ?_
    obtain ⟨a6, e, f16⟩ := bindS f15; clear f15
    have HH := H; clear H; obtain ⟨p3, m3, h8, c11, c12, c13, c14, H⟩ := HH.elM 4 rfl e; clear HH
    clear e
    refine idxE c11 c12 c13 ?_; clear c11 c12 c13
    refine load1 c14 ?_; clear c14
    refine loadN [(.int .i64 ((y0.length : Nat) : Int)), (.int .i64 g__0), (g4).v] rfl (fun j u hj => H.bx 2 rfl hj) ?_
    obtain ⟨y4, e, f17⟩ := bindS f16; clear f16
    have i5 := e; clear e
    refine callF (impl_System_size_c ((y0.length : Nat) : Int) g__0 s2 g4 y4 i5) (Γi := []) H ⟨Vw.own 3 rfl, trivial⟩ ?_; clear H i5
    rintro _ _ w24 ⟨rfl, rfl⟩ H
    obtain ⟨y5, e, f18⟩ := bindS f17; clear f17
    have i6 := e; clear e
    refine callF (impl_zeros_c y4 y5 i6) (Γi := []) H trivial ?_; clear H i6
    rintro _ _ w25 ⟨h9, rfl, rfl⟩ H
    obtain ⟨r3, f19, f20⟩ := bindS f18; clear f18
    refine cut (fun (q0 : List Int) => [(0, (.int .i64 p_)), (4, (.pointer (some ⟨b8, 0, none⟩))), (6, (.pointer (some ⟨b0, 0, none⟩))), (14, (h9).v), (55, (g__1h).v), (56, (.int .i64 ((g__1.length : Nat) : Int))), (57, (.int .i64 ((k1 : Nat) : Int))), (62, (h7).v), (63, (.int .i64 ((y3.length : Nat) : Int))), (64, (.int .i64 ((k2 : Nat) : Int)))]) (fun (q0 : List Int) w' => q0 = r3 ∧ Cx w0 fp0 S0 w' [Bx b8 [(.int .i64 0), (.int .i64 0), (.slice none 0 0)], Bx b0 [(.int .i64 ((y0.length : Nat) : Int)), (.int .i64 g__0), (g4).v], E (List (List Int)) s2 g4, E (List Int) q0 h9, Es (List (Int × Int × List Int × List Int)) g__1 g__1h, Es (List MI) y3 h7]) ?_ ?_
    ·
     refine rangeM Tryz.underlying79 H 1 rfl ?_; clear H; intro b2 w26 hx hk2608 H
     clear hx
     obtain ⟨r4, e, f21⟩ := bindS f19; clear f19
     refine loopKV _ (commRow _ _) a6.kvs hk2608 (fun (s3 : List Int) (_ : Unit) => [(0, (.int .i64 p_)), (4, (.pointer (some ⟨b8, 0, none⟩))), (6, (.pointer (some ⟨b0, 0, none⟩))), (14, (h9).v), (55, (g__1h).v), (56, (.int .i64 ((g__1.length : Nat) : Int))), (57, (.int .i64 ((k1 : Nat) : Int))), (62, (h7).v), (63, (.int .i64 ((y3.length : Nat) : Int))), (64, (.int .i64 ((k2 : Nat) : Int))), (72, (.pointer (some ⟨b2, 0, none⟩)))]) (fun l0 (s3 : List Int) (_ : Unit) w' => Cx w0 fp0 S0 w' [Bx b8 [(.int .i64 0), (.int .i64 0), (.slice none 0 0)], Bx b0 [(.int .i64 ((y0.length : Nat) : Int)), (.int .i64 g__0), (g4).v], E (List (List Int)) s2 g4, E (List Int) s3 h9, Es (List (Int × Int × List Int × List Int)) g__1 g__1h, Es (List MI) y3 h7, It h8 b2 none l0, Es MI a6 h8]) y5 () e ⟨rfl, rfl, rfl, rfl, rfl, rfl, rfl, rfl, rfl, rfl, rfl, trivial⟩ (H.sel [3, 4, 5, 1, 6, 7, 0, 2] rfl) ?_ ?_
     ·
      clear H e
      rintro T4 l0 s3 _ w27 J0 hne (H : Cx w0 fp0 S0 w27 [Bx b8 [(.int .i64 0), (.int .i64 0), (.slice none 0 0)], Bx b0 [(.int .i64 ((y0.length : Nat) : Int)), (.int .i64 g__0), (g4).v], E (List (List Int)) s2 g4, E (List Int) s3 h9, Es (List (Int × Int × List Int × List Int)) g__1 g__1h, Es (List MI) y3 h7, It h8 b2 none l0, Es MI a6 h8]) hgo
      replace H := H.sel [6, 0, 1, 2, 3, 4, 5, 7] rfl
      refine nextM H hne ?_; clear H; intro k3 v0 l1 w28 hp2666 H
      obtain ⟨s4, f22, hj⟩ := hgo _ _ _ hp2666
      refine sq ?_
      refine entryM H 0 rfl ?_
      refine heldX H [9] (.fst 0 (.fst 1 (.fst 3 (.fst 5 (.fst 6 (.fst 2 (.fst 4 (.act 7 (.fst 8 (.act 9 .done)))))))))) mixed [] trivial (by kernel_rfl) ?_
      clear H; intro w29 H
      have hX : Ext w29 w29 := Upd.refl _ _
      have H0 := H
      refine anyH (fun _ => fld gok rfl rfl rfl rfl ⟨rfl, rfl⟩) ?_
      refine load1X (H.bx 2 rfl (j := 0) rfl) ?_
      obtain ⟨a7, e, f23⟩ := bindS f22; clear f22
      refine arO e ?_; clear e
      obtain ⟨y6, e, f24⟩ := bindS f23; clear f23
      have i7 := e; clear e
      refine callFx (impl_mod_c p_ v0 y6 i7) H trivial ?_; clear H i7
      rintro _ _ w30 ⟨rfl, rfl⟩ hx H
      replace hX := hX.trans0 hx; clear hx
      refine hold hX ?_
      obtain ⟨a8, e, f25⟩ := bindS f24; clear f24
      have i8 := e; clear e
      obtain ⟨p4, m4, c15, c16, c17⟩ := (H.ro (α := List Int) 4 rfl).setp i8
      refine idxE c15 c16 c17 ?_
      replace H := H.sel [4, 0, 1, 2, 3, 5, 6, 7] rfl
      refine setS (α := Int) H c15 c16 i8 ?_; clear H c15 c16 c17 i8; intro w31 H
      refine hold trivial ?_
      replace H := H.sel [1, 0, 2, 3, 4, 5, 6, 7] rfl
      replace H := H.itEnd
      have hs := Option.some.inj f25; subst hs; clear f25
      exact hj () _ _ ⟨rfl, rfl, rfl, rfl, rfl, rfl, rfl, rfl, rfl, rfl, rfl, trivial⟩ (H.sel [2, 3, 4, 1, 5, 6, 0, 7] rfl)
     ·
      clear H e
      rintro T5 _ w32 (H : Cx w0 fp0 S0 w32 [Bx b8 [(.int .i64 0), (.int .i64 0), (.slice none 0 0)], Bx b0 [(.int .i64 ((y0.length : Nat) : Int)), (.int .i64 g__0), (g4).v], E (List (List Int)) s2 g4, E (List Int) r4 h9, Es (List (Int × Int × List Int × List Int)) g__1 g__1h, Es (List MI) y3 h7, It h8 b2 none [], Es MI a6 h8])
      replace H := H.sel [6, 0, 1, 2, 3, 4, 5, 7] rfl
      refine nextN H ?_
      refine sq ?_
      exact ⟨r4, ⟨rfl, rfl, rfl, rfl, rfl, rfl, rfl, rfl, rfl, rfl, trivial⟩, Option.some.inj f21, H.sel [1, 2, 3, 4, 5, 6] rfl⟩
    ·
     clear f19 H
     rintro T6 s5 w33 ⟨hr, (H : Cx w0 fp0 S0 w33 [Bx b8 [(.int .i64 0), (.int .i64 0), (.slice none 0 0)], Bx b0 [(.int .i64 ((y0.length : Nat) : Int)), (.int .i64 g__0), (g4).v], E (List (List Int)) s2 g4, E (List Int) s5 h9, Es (List (Int × Int × List Int × List Int)) g__1 g__1h, Es (List MI) y3 h7])⟩
     subst hr
     refine fld gok rfl rfl rfl rfl ?_
     refine load1 (H.bx 1 rfl (j := 2) rfl) ?_
     replace H := H.sel [3, 0, 1, 2, 4, 5] rfl
     refine lit1 (α := List Int) (g := h9) gok rfl rfl rfl rfl rfl H ?_; clear H; intro h10 w34 hx H
     clear hx
     obtain ⟨a9, e, f26⟩ := bindS f20; clear f20
     replace H := H.sel [3, 0, 1, 2, 4, 5] rfl
     refine append_ (α := List Int) gok rfl rfl rfl rfl H e ?_; clear e H; intro h12 w35 H
     refine fld gok rfl rfl rfl rfl ?_
     replace H := H.sel [2, 0, 1, 3, 4] rfl
     refine stB (j := 2) H rfl rfl ?_; clear H; intro w36 H
     refine arK hk x2 ?_
     have hs := Option.some.inj f26; subst hs; clear f26
     exact ⟨h12, ⟨rfl, rfl, rfl, rfl, rfl, rfl, rfl, rfl, rfl, trivial⟩, H.sel [2, 0, 1, 3, 4] rfl⟩
   ·
    clear H e
    rintro T7 g5 w37 (H : Cx w0 fp0 S0 w37 [Bx b8 [(.int .i64 0), (.int .i64 0), (.slice none 0 0)], Bx b0 [(.int .i64 ((y0.length : Nat) : Int)), (.int .i64 g__0), (g5).v], E (List (List Int)) r2 g5, Es (List (Int × Int × List Int × List Int)) g__1 g__1h, Es (List MI) y3 h7])
    refine boolE (z := false) geLen ?_
    refine sq ?_
    refine arK hk x1 ?_
    have hs := Option.some.inj f14; subst hs; clear f14
    exact ⟨g5, ⟨rfl, rfl, rfl, rfl, rfl, rfl, trivial⟩, H.sel [0, 1, 2, 3] rfl⟩
  ·
   clear H e
   rintro T8 g6 w38 (H : Cx w0 fp0 S0 w38 [Bx b8 [(.int .i64 0), (.int .i64 0), (.slice none 0 0)], Bx b0 [(.int .i64 ((y0.length : Nat) : Int)), (.int .i64 g__0), (g6).v], E (List (List Int)) r1 g6, Es (List (Int × Int × List Int × List Int)) g__1 g__1h])
   refine boolE (z := false) geLen ?_
   refine sq ?_
   refine loadN [(.int .i64 ((y0.length : Nat) : Int)), (.int .i64 g__0), (g6).v] rfl (fun j u hj => H.bx 1 rfl hj) ?_
   refine stA gok [(.int .i64 ((y0.length : Nat) : Int)), (.int .i64 g__0), (g6).v] rfl H rfl rfl rfl ?_; clear H; intro w39 H
   refine loadN [(.int .i64 ((y0.length : Nat) : Int)), (.int .i64 g__0), (g6).v] rfl (fun j u hj => H.bx 0 rfl hj) ?_
   cases f10
   exact ⟨_, _, rfl, ⟨g6, rfl, rfl⟩, (H.sel [2] rfl).close ⟨cloE, trivial⟩⟩

theorem impl_SystemOfTerm_c (p_ : Int) (t__0 : List (Int × Int × ByteArray)) (t__0h : Hd) (y0_0 : Int) (y0_1 : Int) (y0_2 : List (List Int)) (y1 : Bool) (hF : F_impl_SystemOfTerm p_ t__0 = some ((y0_0, y0_1, y0_2), y1)) :
  ConF Tryz.prog 7 #[(.int .i64 p_), (.agg #[(t__0h).v])] [Es (List (Int × Int × ByteArray)) t__0 t__0h, Gl 0 [.int .i64 2, .int .i64 3, .int .i64 5, .int .i64 7]] [] (fun v Γ' => ∃ z0 : Hd, v = (.tuple #[(.agg #[(.int .i64 y0_0), (.int .i64 y0_1), (z0).v]), (.bool y1)]) ∧ Γ' = [E (List (List Int)) y0_2 z0]) := by
 intro w0 S0 fp0 hI hS
 have H : Cx w0 fp0 S0 w0 [Es (List (Int × Int × ByteArray)) t__0 t__0h, Gl 0 [.int .i64 2, .int .i64 3, .int .i64 5, .int .i64 7]] := Cx.start hI hS
 clear hI hS
 refine enterC (args := [_, _]) gok Tryz.func7 rfl _ rfl rfl rfl ?_
 refine box_ H ?_; clear H; intro b4 w3 hx H
 clear hx
 refine alloc_ gok rfl H ?_; clear H; intro b7 w6 hx H
 clear hx
 refine sq ?_
 refine loadN [(t__0h).v] rfl (fun j u hj => H.bx 1 rfl hj) ?_
 obtain ⟨y9, e, f0⟩ := bindS hF; clear hF
 have ey9 := e; clear e
 refine callF (impl_Term_isStatic_c t__0 t__0h p_ y9 ey9) (Γi := []) H ⟨Vw.sh 2 rfl, Vw.gl 3 rfl, trivial⟩ ?_; clear H ey9
 rintro _ _ w1 ⟨rfl, rfl⟩ H
 obtain ⟨a0, e, f1⟩ := bindS f0; clear f0
 refine boolO e ?_; clear e
 cases a0
 ·
  have f2 := condF f1; clear f1
  refine loadN [(t__0h).v] rfl (fun j u hj => H.bx 1 rfl hj) ?_
  obtain ⟨y0, e, f3⟩ := bindS f2; clear f2
  obtain ⟨⟨y0_0_0, y0_0_1, y0_0_2, y0_0_3⟩, y0_1⟩ := y0
  have i0 := e; clear e
  refine callF (impl_graphOf_c t__0 t__0h y0_0_0 y0_0_1 y0_0_2 y0_0_3 y0_1 i0) (Γi := []) H ⟨Vw.sh 2 rfl, trivial⟩ ?_; clear H i0
  rintro _ _ w2 ⟨h0, h1, h2, rfl, rfl⟩ H
  refine alloc_ gok rfl H ?_; clear H; intro b0 w4 hx H
  clear hx
  refine stA gok [(.int .i64 y0_0_0), (h0).v, (h1).v, (h2).v] rfl H rfl rfl rfl ?_; clear H; intro w5 H
  refine sq ?_
  obtain ⟨a1, e, f4⟩ := bindS f3; clear f3
  refine boolO e ?_; clear e
  cases a1
  ·
   have f5 := condF f4; clear f4
   refine loadN [(.int .i64 y0_0_0), (h0).v, (h1).v, (h2).v] rfl (fun j u hj => H.bx 0 rfl hj) ?_
   obtain ⟨y2, e, f6⟩ := bindS f5; clear f5
   obtain ⟨y2_0, y2_1, y2_2⟩ := y2
   have i1 := e; clear e
   refine callF (impl_systemOfGraph_c p_ y0_0_0 y0_0_1 h0 y0_0_2 h1 y0_0_3 h2 y2_0 y2_1 y2_2 i1) (Γi := []) H ⟨Vw.own 1 rfl, Vw.own 2 rfl, Vw.own 3 rfl, trivial⟩ ?_; clear H i1
   rintro _ _ w7 ⟨h3, rfl, rfl⟩ H
   replace H := H.sel [5, 0, 1, 2, 3, 4, 6, 7, 8] rfl
   refine stA gok [(.int .i64 y2_0), (.int .i64 y2_1), (h3).v] rfl H rfl rfl rfl ?_; clear H; intro w8 H
   refine loadN [(.int .i64 y2_0), (.int .i64 y2_1), (h3).v] rfl (fun j u hj => H.bx 0 rfl hj) ?_
   cases f6
   exact ⟨_, _, rfl, ⟨h3, rfl, rfl⟩, (H.sel [1] rfl).close ⟨cloE, trivial⟩⟩
  ·
   have f7 := condT f4; clear f4
   refine build_ (cs := #[(.int .i64 0), (.int .i64 0), (.slice none 0 0)]) gok rfl rfl rfl ?_
   replace H := H.sel [4, 0, 1, 2, 3, 5, 6, 7] rfl
   refine stA gok [(.int .i64 0), (.int .i64 0), (.slice none 0 0)] rfl H rfl rfl rfl ?_; clear H; intro w9 H
   refine loadN [(.int .i64 0), (.int .i64 0), (.slice none 0 0)] rfl (fun j u hj => H.bx 0 rfl hj) ?_
   replace H := H.nil (α := List Int)
   cases f7
   exact ⟨_, _, rfl, ⟨nilH, rfl, rfl⟩, (H.sel [0] rfl).close ⟨cloE, trivial⟩⟩
 ·
  have f8 := condT f1; clear f1
  refine build_ (cs := #[(.int .i64 0), (.int .i64 0), (.slice none 0 0)]) gok rfl rfl rfl ?_
  refine stA gok [(.int .i64 0), (.int .i64 0), (.slice none 0 0)] rfl H rfl rfl rfl ?_; clear H; intro w10 H
  refine loadN [(.int .i64 0), (.int .i64 0), (.slice none 0 0)] rfl (fun j u hj => H.bx 0 rfl hj) ?_
  replace H := H.nil (α := List Int)
  cases f8
  exact ⟨_, _, rfl, ⟨nilH, rfl, rfl⟩, (H.sel [0] rfl).close ⟨cloE, trivial⟩⟩

theorem laws_eqIntS_c (a_ : List Int) (a_h : Hd) (b_ : List Int) (b_h : Hd) (y : Bool) (hF : F_laws_eqIntS a_ b_ = some y) :
  ConF Tryz.prog 46 #[(a_h).v, (b_h).v] [Es (List Int) a_ a_h, Es (List Int) b_ b_h] [] (fun v Γ' => v = (.bool y) ∧ Γ' = []) := by
 intro w0 S0 fp0 hI hS
 have H : Cx w0 fp0 S0 w0 [Es (List Int) a_ a_h, Es (List Int) b_ b_h] := Cx.start hI hS
 clear hI hS
 refine enterC (args := [_, _]) gok Tryz.func46 rfl _ rfl rfl rfl ?_
 refine sq ?_
 refine lenE (H.rs (α := List Int) 0 rfl).len ?_
 refine lenE (H.rs (α := List Int) 1 rfl).len ?_
 obtain ⟨a3, e, hF4⟩ := bindS hF; clear hF
 refine boolO e ?_; clear e
 cases a3
 ·
  have hF5 := condF hF4; clear hF4
  obtain ⟨r0, f0, f1⟩ := bindS hF5; clear hF5
  refine cut (fun (q0 : Unit) => []) (fun (q0 : Unit) w' => .inl () = r0 ∧ Cx w0 fp0 S0 w' []) ?_ ?_
  ·
   refine loopW _ (fun (s0 : Int) (_ : Unit) => [(0, (a_h).v), (1, (b_h).v), (5, (.int .i64 s0))]) (fun (s0 : Int) (_ : Unit) w' => Cx w0 fp0 S0 w' [Es (List Int) a_ a_h, Es (List Int) b_ b_h]) 0 () f0 ⟨rfl, rfl, rfl, trivial⟩ (H.sel [0, 1] rfl) ?_
   ·
    clear H
    rintro T0 s0 _ w1 o0 (H : Cx w0 fp0 S0 w1 [Es (List Int) a_ a_h, Es (List Int) b_ b_h]) hrt f2
    refine sq ?_
    refine lenE (H.rs (α := List Int) 0 rfl).len ?_
    obtain ⟨a0, e, f3⟩ := bindS f2; clear f2
    refine boolO e ?_; clear e
    cases a0
    ·
     have f4 := condF f3; clear f3
     have hs := Option.some.inj f4; subst hs; clear f4
     have f5 : some _ = some _ := congrArg some (hrt _ rfl).symm
     exact ⟨(), trivial, Option.some.inj f5, H.sel [] rfl⟩
    ·
     have f6 := condT f3; clear f3
     refine sq ?_
     refine heldX H [] (.fst 0 (.fst 1 (.fst 2 (.fst 4 (.fst 5 (.fst 6 (.fst 3 (.fst 7 (.fst 8 .done))))))))) mixed [] trivial (by kernel_rfl) ?_
     clear H; intro w2 H
     have hX : Ext w2 w2 := Upd.refl _ _
     have H0 := H
     obtain ⟨a1, e, f7⟩ := bindS f6; clear f6
     obtain ⟨p0, m0, c0, c1, c2, c3⟩ := (H.rs (α := List Int) 0 rfl).at1 e; clear e
     refine idxE c0 c1 c2 ?_; clear c0 c1 c2
     obtain ⟨a2, e, f8⟩ := bindS f7; clear f7
     obtain ⟨p1, m1, c4, c5, c6, c7⟩ := (H.rs (α := List Int) 1 rfl).at1 e; clear e
     refine idxE c4 c5 c6 ?_; clear c4 c5 c6
     refine load1X c3 ?_; clear c3
     refine load1X c7 ?_; clear c7
     obtain ⟨a4, e, f9⟩ := bindS f8; clear f8
     refine boolO e ?_; clear e
     cases a4
     ·
      have f10 := condF f9; clear f9
      obtain ⟨a5, e, f11⟩ := bindS f10; clear f10
      refine arO e ?_; clear e
      have hs := Option.some.inj f11; subst hs; clear f11
      exact ⟨a5, (), rfl, ⟨rfl, rfl, rfl, trivial⟩, H.sel [0, 1] rfl⟩
     ·
      have f12 := condT f9; clear f9
      have hs := Option.some.inj f12; subst hs; clear f12
      have f13 : some _ = some _ := congrArg some (hrt _ rfl).symm
      have hs := Option.some.inj f13; subst hs; clear f13
      have f14 : some _ = some _ := f1; clear f1
      cases f14
      exact ⟨_, _, rfl, ⟨rfl, rfl⟩, (H.sel [] rfl).close trivial⟩
  ·
   clear f0 H
   rintro T1 _ w3 ⟨hr, (H : Cx w0 fp0 S0 w3 [])⟩
   subst hr
   cases f1
   exact ⟨_, _, rfl, ⟨rfl, rfl⟩, (H.sel [] rfl).close trivial⟩
 ·
  have f15 := condT hF4; clear hF4
  cases f15
  exact ⟨_, _, rfl, ⟨rfl, rfl⟩, (H.sel [] rfl).close trivial⟩

theorem laws_eqIntSS_c (a_ : List (List Int)) (a_h : Hd) (b_ : List (List Int)) (b_h : Hd) (y : Bool) (hF : F_laws_eqIntSS a_ b_ = some y) :
  ConF Tryz.prog 21 #[(a_h).v, (b_h).v] [Es (List (List Int)) a_ a_h, Es (List (List Int)) b_ b_h] [] (fun v Γ' => v = (.bool y) ∧ Γ' = []) := by
 intro w0 S0 fp0 hI hS
 have H : Cx w0 fp0 S0 w0 [Es (List (List Int)) a_ a_h, Es (List (List Int)) b_ b_h] := Cx.start hI hS
 clear hI hS
 refine enterC (args := [_, _]) gok Tryz.func21 rfl _ rfl rfl rfl ?_
 refine sq ?_
 refine lenE (H.rs (α := List (List Int)) 0 rfl).len ?_
 refine lenE (H.rs (α := List (List Int)) 1 rfl).len ?_
 obtain ⟨a3, e, hF4⟩ := bindS hF; clear hF
 refine boolO e ?_; clear e
 cases a3
 ·
  have hF5 := condF hF4; clear hF4
  obtain ⟨r0, f0, f1⟩ := bindS hF5; clear hF5
  refine cut (fun (q0 : Unit) => []) (fun (q0 : Unit) w' => .inl () = r0 ∧ Cx w0 fp0 S0 w' []) ?_ ?_
  ·
   refine loopW _ (fun (s0 : Int) (_ : Unit) => [(0, (a_h).v), (1, (b_h).v), (5, (.int .i64 s0))]) (fun (s0 : Int) (_ : Unit) w' => Cx w0 fp0 S0 w' [Es (List (List Int)) a_ a_h, Es (List (List Int)) b_ b_h]) 0 () f0 ⟨rfl, rfl, rfl, trivial⟩ (H.sel [0, 1] rfl) ?_
   ·
    clear H
    rintro T0 s0 _ w1 o0 (H : Cx w0 fp0 S0 w1 [Es (List (List Int)) a_ a_h, Es (List (List Int)) b_ b_h]) hrt f2
    refine sq ?_
    refine lenE (H.rs (α := List (List Int)) 0 rfl).len ?_
    obtain ⟨a0, e, f3⟩ := bindS f2; clear f2
    refine boolO e ?_; clear e
    cases a0
    ·
     have f4 := condF f3; clear f3
     have hs := Option.some.inj f4; subst hs; clear f4
     have f5 : some _ = some _ := congrArg some (hrt _ rfl).symm
     exact ⟨(), trivial, Option.some.inj f5, H.sel [] rfl⟩
    ·
     have f6 := condT f3; clear f3
     refine sq ?_
     refine heldX H [] (.fst 0 (.fst 1 (.fst 2 (.fst 4 (.fst 5 (.fst 6 (.fst 3 (.fst 7 (.act 8 (.fst 9 .done)))))))))) mixed [] trivial (by kernel_rfl) ?_
     clear H; intro w2 H
     have hX : Ext w2 w2 := Upd.refl _ _
     have H0 := H
     obtain ⟨a1, e, f7⟩ := bindS f6; clear f6
     have HH := H; clear H; obtain ⟨p0, m0, h0, c0, c1, c2, c3, H⟩ := HH.elL 0 rfl e; clear HH
     clear e
     refine idxE c0 c1 c2 ?_; clear c0 c1 c2
     obtain ⟨a2, e, f8⟩ := bindS f7; clear f7
     have HH := H; clear H; obtain ⟨p1, m1, h1, c4, c5, c6, c7, H⟩ := HH.elL 2 rfl e; clear HH
     clear e
     refine idxE c4 c5 c6 ?_; clear c4 c5 c6
     refine load1X c3 ?_; clear c3
     refine load1X c7 ?_; clear c7
     obtain ⟨y0, e, f9⟩ := bindS f8; clear f8
     have i0 := e; clear e
     refine callFx (laws_eqIntS_c a1 h0 a2 h1 y0 i0) H ⟨Vw.sh 1 rfl, Vw.sh 0 rfl, trivial⟩ ?_; clear H i0
     rintro _ _ w3 ⟨rfl, rfl⟩ hx H
     replace hX := hX.trans0 hx; clear hx
     refine hold hX ?_
     obtain ⟨a4, e, f10⟩ := bindS f9; clear f9
     refine boolO e ?_; clear e
     cases a4
     ·
      have f11 := condF f10; clear f10
      obtain ⟨a5, e, f12⟩ := bindS f11; clear f11
      refine arO e ?_; clear e
      have hs := Option.some.inj f12; subst hs; clear f12
      exact ⟨a5, (), rfl, ⟨rfl, rfl, rfl, trivial⟩, H.sel [2, 3] rfl⟩
     ·
      have f13 := condT f10; clear f10
      have hs := Option.some.inj f13; subst hs; clear f13
      have f14 : some _ = some _ := congrArg some (hrt _ rfl).symm
      have hs := Option.some.inj f14; subst hs; clear f14
      have f15 : some _ = some _ := f1; clear f1
      cases f15
      exact ⟨_, _, rfl, ⟨rfl, rfl⟩, (H.sel [] rfl).close trivial⟩
  ·
   clear f0 H
   rintro T1 _ w4 ⟨hr, (H : Cx w0 fp0 S0 w4 [])⟩
   subst hr
   cases f1
   exact ⟨_, _, rfl, ⟨rfl, rfl⟩, (H.sel [] rfl).close trivial⟩
 ·
  have f16 := condT hF4; clear hF4
  cases f16
  exact ⟨_, _, rfl, ⟨rfl, rfl⟩, (H.sel [] rfl).close trivial⟩

theorem laws_eqSystem_c (a__0 : Int) (a__1 : Int) (a__2 : List (List Int)) (a__2h : Hd) (b__0 : Int) (b__1 : Int) (b__2 : List (List Int)) (b__2h : Hd) (y : Bool) (hF : F_laws_eqSystem (a__0, a__1, a__2) (b__0, b__1, b__2) = some y) :
  ConF Tryz.prog 8 #[(.agg #[(.int .i64 a__0), (.int .i64 a__1), (a__2h).v]), (.agg #[(.int .i64 b__0), (.int .i64 b__1), (b__2h).v])] [Es (List (List Int)) a__2 a__2h, Es (List (List Int)) b__2 b__2h] [] (fun v Γ' => v = (.bool y) ∧ Γ' = []) := by
 intro w0 S0 fp0 hI hS
 have H : Cx w0 fp0 S0 w0 [Es (List (List Int)) a__2 a__2h, Es (List (List Int)) b__2 b__2h] := Cx.start hI hS
 clear hI hS
 refine enterC (args := [_, _]) gok Tryz.func8 rfl _ rfl rfl rfl ?_
 refine box_ H ?_; clear H; intro b4 w3 hx H
 clear hx
 refine box_ H ?_; clear H; intro b7 w6 hx H
 clear hx
 refine sq ?_
 refine fld gok rfl rfl rfl rfl ?_
 refine load1 (H.bx 1 rfl (j := 0) rfl) ?_
 refine fld gok rfl rfl rfl rfl ?_
 refine load1 (H.bx 0 rfl (j := 0) rfl) ?_
 obtain ⟨a9, e, f0⟩ := bindS hF; clear hF
 refine boolO e ?_; clear e
 cases a9
 ·
  have f1 := condF f0; clear f0
  refine sq ?_
  refine fld gok rfl rfl rfl rfl ?_
  refine load1 (H.bx 1 rfl (j := 1) rfl) ?_
  refine fld gok rfl rfl rfl rfl ?_
  refine load1 (H.bx 0 rfl (j := 1) rfl) ?_
  obtain ⟨a0, e, f2⟩ := bindS f1; clear f1
  refine boolO e ?_; clear e
  cases a0
  ·
   have f3 := condF f2; clear f2
   refine sq ?_
   refine fld gok rfl rfl rfl rfl ?_
   refine load1 (H.bx 1 rfl (j := 2) rfl) ?_
   refine fld gok rfl rfl rfl rfl ?_
   refine load1 (H.bx 0 rfl (j := 2) rfl) ?_
   obtain ⟨y0, e, f4⟩ := bindS f3; clear f3
   have i0 := e; clear e
   refine callF (laws_eqIntSS_c a__2 a__2h b__2 b__2h y0 i0) (Γi := []) H ⟨Vw.sh 2 rfl, Vw.sh 3 rfl, trivial⟩ ?_; clear H i0
   rintro _ _ w1 ⟨rfl, rfl⟩ H
   obtain ⟨a1, e, f5⟩ := bindS f4; clear f4
   refine boolO e ?_; clear e
   cases a1
   ·
    have f6 := condF f5; clear f5
    cases f6
    exact ⟨_, _, rfl, ⟨rfl, rfl⟩, (H.sel [] rfl).close trivial⟩
   ·
    have f7 := condT f5; clear f5
    cases f7
    exact ⟨_, _, rfl, ⟨rfl, rfl⟩, (H.sel [] rfl).close trivial⟩
  ·
   have f8 := condT f2; clear f2
   cases f8
   exact ⟨_, _, rfl, ⟨rfl, rfl⟩, (H.sel [] rfl).close trivial⟩
 ·
  have f9 := condT f0; clear f0
  cases f9
  exact ⟨_, _, rfl, ⟨rfl, rfl⟩, (H.sel [] rfl).close trivial⟩

theorem laws_eqNode_c (a__0 : Int) (a__1 : Int) (a__2 : ByteArray) (b__0 : Int) (b__1 : Int) (b__2 : ByteArray) (y : Bool) (hF : F_laws_eqNode (a__0, a__1, a__2) (b__0, b__1, b__2) = some y) :
  ConF Tryz.prog 47 #[(.agg #[(.int .i64 a__0), (.int .i64 a__1), (.string a__2)]), (.agg #[(.int .i64 b__0), (.int .i64 b__1), (.string b__2)])] [] [] (fun v Γ' => v = (.bool y) ∧ Γ' = []) := by
 intro w0 S0 fp0 hI hS
 have H : Cx w0 fp0 S0 w0 [] := Cx.start hI hS
 clear hI hS
 refine enterC (args := [_, _]) gok Tryz.func47 rfl _ rfl rfl rfl ?_
 refine box_ H ?_; clear H; intro b2 w1 hx H
 clear hx
 refine box_ H ?_; clear H; intro b5 w4 hx H
 clear hx
 refine sq ?_
 refine fld gok rfl rfl rfl rfl ?_
 refine load1 (H.bx 1 rfl (j := 0) rfl) ?_
 refine fld gok rfl rfl rfl rfl ?_
 refine load1 (H.bx 0 rfl (j := 0) rfl) ?_
 obtain ⟨a7, e, hF8⟩ := bindS hF; clear hF
 refine boolO e ?_; clear e
 cases a7
 ·
  have hF9 := condF hF8; clear hF8
  refine sq ?_
  refine fld gok rfl rfl rfl rfl ?_
  refine load1 (H.bx 1 rfl (j := 1) rfl) ?_
  refine fld gok rfl rfl rfl rfl ?_
  refine load1 (H.bx 0 rfl (j := 1) rfl) ?_
  obtain ⟨a0, e, f0⟩ := bindS hF9; clear hF9
  refine boolO e ?_; clear e
  cases a0
  ·
   have f1 := condF f0; clear f0
   refine sq ?_
   refine fld gok rfl rfl rfl rfl ?_
   refine load1 (H.bx 1 rfl (j := 2) rfl) ?_
   refine fld gok rfl rfl rfl rfl ?_
   refine load1 (H.bx 0 rfl (j := 2) rfl) ?_
   obtain ⟨a1, e, f2⟩ := bindS f1; clear f1
   refine neqZ e ?_; clear e
   cases a1
   ·
    have f3 := condF f2; clear f2
    cases f3
    exact ⟨_, _, rfl, ⟨rfl, rfl⟩, (H.sel [] rfl).close trivial⟩
   ·
    have f4 := condT f2; clear f2
    cases f4
    exact ⟨_, _, rfl, ⟨rfl, rfl⟩, (H.sel [] rfl).close trivial⟩
  ·
   have f5 := condT f0; clear f0
   cases f5
   exact ⟨_, _, rfl, ⟨rfl, rfl⟩, (H.sel [] rfl).close trivial⟩
 ·
  have f6 := condT hF8; clear hF8
  cases f6
  exact ⟨_, _, rfl, ⟨rfl, rfl⟩, (H.sel [] rfl).close trivial⟩

theorem laws_eqNodeS_c (a_ : List (Int × Int × ByteArray)) (a_h : Hd) (b_ : List (Int × Int × ByteArray)) (b_h : Hd) (y : Bool) (hF : F_laws_eqNodeS a_ b_ = some y) :
  ConF Tryz.prog 22 #[(a_h).v, (b_h).v] [Es (List (Int × Int × ByteArray)) a_ a_h, Es (List (Int × Int × ByteArray)) b_ b_h] [] (fun v Γ' => v = (.bool y) ∧ Γ' = []) := by
 intro w0 S0 fp0 hI hS
 have H : Cx w0 fp0 S0 w0 [Es (List (Int × Int × ByteArray)) a_ a_h, Es (List (Int × Int × ByteArray)) b_ b_h] := Cx.start hI hS
 clear hI hS
 refine enterC (args := [_, _]) gok Tryz.func22 rfl _ rfl rfl rfl ?_
 refine sq ?_
 refine lenE (H.rs (α := List (Int × Int × ByteArray)) 0 rfl).len ?_
 refine lenE (H.rs (α := List (Int × Int × ByteArray)) 1 rfl).len ?_
 obtain ⟨a3, e, hF4⟩ := bindS hF; clear hF
 refine boolO e ?_; clear e
 cases a3
 ·
  have hF5 := condF hF4; clear hF4
  obtain ⟨r0, f0, f1⟩ := bindS hF5; clear hF5
  refine cut (fun (q0 : Unit) => []) (fun (q0 : Unit) w' => .inl () = r0 ∧ Cx w0 fp0 S0 w' []) ?_ ?_
  ·
   refine loopW _ (fun (s0 : Int) (_ : Unit) => [(0, (a_h).v), (1, (b_h).v), (5, (.int .i64 s0))]) (fun (s0 : Int) (_ : Unit) w' => Cx w0 fp0 S0 w' [Es (List (Int × Int × ByteArray)) a_ a_h, Es (List (Int × Int × ByteArray)) b_ b_h]) 0 () f0 ⟨rfl, rfl, rfl, trivial⟩ (H.sel [0, 1] rfl) ?_
   ·
    clear H
    rintro T0 s0 _ w1 o0 (H : Cx w0 fp0 S0 w1 [Es (List (Int × Int × ByteArray)) a_ a_h, Es (List (Int × Int × ByteArray)) b_ b_h]) hrt f2
    refine sq ?_
    refine lenE (H.rs (α := List (Int × Int × ByteArray)) 0 rfl).len ?_
    obtain ⟨a0, e, f3⟩ := bindS f2; clear f2
    refine boolO e ?_; clear e
    cases a0
    ·
     have f4 := condF f3; clear f3
     have hs := Option.some.inj f4; subst hs; clear f4
     have f5 : some _ = some _ := congrArg some (hrt _ rfl).symm
     exact ⟨(), trivial, Option.some.inj f5, H.sel [] rfl⟩
    ·
     have f6 := condT f3; clear f3
     refine sq ?_
     refine heldX H [] (.fst 0 (.fst 1 (.fst 2 (.fst 4 (.fst 5 (.fst 6 (.fst 3 (.fst 7 (.act 8 (.fst 9 .done)))))))))) mixed [] trivial (by kernel_rfl) ?_
     clear H; intro w2 H
     have hX : Ext w2 w2 := Upd.refl _ _
     have H0 := H
     obtain ⟨a1, e, f7⟩ := bindS f6; clear f6
     have HH := H; clear H; obtain ⟨p0, m0, g0, c0, c1, c2, c3, H⟩ := HH.el (α := Int × Int × ByteArray) 0 rfl e; clear HH
     clear e
     obtain ⟨a1_0, a1_1, a1_2⟩ := a1
     obtain ⟨_, _, _⟩ := g0
     replace H := H.sel [1, 2] rfl
     refine idxE c0 c1 c2 ?_; clear c0 c1 c2
     obtain ⟨a2, e, f8⟩ := bindS f7; clear f7
     have HH := H; clear H; obtain ⟨p1, m1, g1, c4, c5, c6, c7, H⟩ := HH.el (α := Int × Int × ByteArray) 1 rfl e; clear HH
     clear e
     obtain ⟨a2_0, a2_1, a2_2⟩ := a2
     obtain ⟨_, _, _⟩ := g1
     replace H := H.sel [1, 2] rfl
     refine idxE c4 c5 c6 ?_; clear c4 c5 c6
     refine loadNX [(.int .i64 a1_0), (.int .i64 a1_1), (.string a1_2)] rfl c3 ?_; clear c3
     refine loadNX [(.int .i64 a2_0), (.int .i64 a2_1), (.string a2_2)] rfl c7 ?_; clear c7
     obtain ⟨y0, e, f9⟩ := bindS f8; clear f8
     have i0 := e; clear e
     refine callFx (laws_eqNode_c a1_0 a1_1 a1_2 a2_0 a2_1 a2_2 y0 i0) H trivial ?_; clear H i0
     rintro _ _ w3 ⟨rfl, rfl⟩ hx H
     replace hX := hX.trans0 hx; clear hx
     refine hold hX ?_
     obtain ⟨a4, e, f10⟩ := bindS f9; clear f9
     refine boolO e ?_; clear e
     cases a4
     ·
      have f11 := condF f10; clear f10
      obtain ⟨a5, e, f12⟩ := bindS f11; clear f11
      refine arO e ?_; clear e
      have hs := Option.some.inj f12; subst hs; clear f12
      exact ⟨a5, (), rfl, ⟨rfl, rfl, rfl, trivial⟩, H.sel [0, 1] rfl⟩
     ·
      have f13 := condT f10; clear f10
      have hs := Option.some.inj f13; subst hs; clear f13
      have f14 : some _ = some _ := congrArg some (hrt _ rfl).symm
      have hs := Option.some.inj f14; subst hs; clear f14
      have f15 : some _ = some _ := f1; clear f1
      cases f15
      exact ⟨_, _, rfl, ⟨rfl, rfl⟩, (H.sel [] rfl).close trivial⟩
  ·
   clear f0 H
   rintro T1 _ w4 ⟨hr, (H : Cx w0 fp0 S0 w4 [])⟩
   subst hr
   cases f1
   exact ⟨_, _, rfl, ⟨rfl, rfl⟩, (H.sel [] rfl).close trivial⟩
 ·
  have f16 := condT hF4; clear hF4
  cases f16
  exact ⟨_, _, rfl, ⟨rfl, rfl⟩, (H.sel [] rfl).close trivial⟩

theorem laws_eqTerm_c (a__0 : List (Int × Int × ByteArray)) (a__0h : Hd) (b__0 : List (Int × Int × ByteArray)) (b__0h : Hd) (y : Bool) (hF : F_laws_eqTerm a__0 b__0 = some y) :
  ConF Tryz.prog 9 #[(.agg #[(a__0h).v]), (.agg #[(b__0h).v])] [Es (List (Int × Int × ByteArray)) a__0 a__0h, Es (List (Int × Int × ByteArray)) b__0 b__0h] [] (fun v Γ' => v = (.bool y) ∧ Γ' = []) := by
 intro w0 S0 fp0 hI hS
 have H : Cx w0 fp0 S0 w0 [Es (List (Int × Int × ByteArray)) a__0 a__0h, Es (List (Int × Int × ByteArray)) b__0 b__0h] := Cx.start hI hS
 clear hI hS
 refine enterC (args := [_, _]) gok Tryz.func9 rfl _ rfl rfl rfl ?_
 refine box_ H ?_; clear H; intro b4 w3 hx H
 clear hx
 refine box_ H ?_; clear H; intro b7 w6 hx H
 clear hx
 refine sq ?_
 refine fld gok rfl rfl rfl rfl ?_
 refine load1 (H.bx 1 rfl (j := 0) rfl) ?_
 refine fld gok rfl rfl rfl rfl ?_
 refine load1 (H.bx 0 rfl (j := 0) rfl) ?_
 obtain ⟨y9, e, f0⟩ := bindS hF; clear hF
 have ey9 := e; clear e
 refine callF (laws_eqNodeS_c a__0 a__0h b__0 b__0h y9 ey9) (Γi := []) H ⟨Vw.sh 2 rfl, Vw.sh 3 rfl, trivial⟩ ?_; clear H ey9
 rintro _ _ w1 ⟨rfl, rfl⟩ H
 obtain ⟨a0, e, f1⟩ := bindS f0; clear f0
 refine boolO e ?_; clear e
 cases a0
 ·
  have f2 := condF f1; clear f1
  cases f2
  exact ⟨_, _, rfl, ⟨rfl, rfl⟩, (H.sel [] rfl).close trivial⟩
 ·
  have f3 := condT f1; clear f1
  cases f3
  exact ⟨_, _, rfl, ⟨rfl, rfl⟩, (H.sel [] rfl).close trivial⟩

theorem laws_markText_c (k_ : Int) (y : ByteArray) (hF : F_laws_markText k_ = some y) :
  ConF Tryz.prog 48 #[(.int .i64 k_)] [] [] (fun v Γ' => v = (.string y) ∧ Γ' = []) := by
 intro w0 S0 fp0 hI hS
 have H : Cx w0 fp0 S0 w0 [] := Cx.start hI hS
 clear hI hS
 refine enterC (args := [_]) gok Tryz.func48 rfl _ rfl rfl rfl ?_
 refine sq ?_
 obtain ⟨a1, e, hF2⟩ := bindS hF; clear hF
 refine boolO e ?_; clear e
 cases a1
 ·
  have hF3 := condF hF2; clear hF2
  obtain ⟨r0, f0, f1⟩ := bindS hF3; clear hF3
  refine cut (fun (q0 : ByteArray) => [(3, (.string q0))]) (fun (q0 : ByteArray) w' => q0 = r0 ∧ Cx w0 fp0 S0 w' []) ?_ ?_
  ·
   refine loopW _ (fun (s0 : Int × ByteArray) (_ : Unit) => [(0, (.int .i64 s0.1)), (3, (.string s0.2))]) (fun (s0 : Int × ByteArray) (_ : Unit) w' => Cx w0 fp0 S0 w' []) (k_, .empty) () f0 ⟨rfl, rfl, trivial⟩ (H.sel [] rfl) ?_
   ·
    clear H
    rintro T0 ⟨s0_0, s0_1⟩ _ w1 o0 (H : Cx w0 fp0 S0 w1 []) hrt f2
    refine sq ?_
    obtain ⟨a0, e, f3⟩ := bindS f2; clear f2
    refine boolO e ?_; clear e
    cases a0
    ·
     have f4 := condF f3; clear f3
     have hs := Option.some.inj f4; subst hs; clear f4
     have f5 : some _ = some _ := congrArg some (hrt _ rfl).symm
     exact ⟨s0_1, ⟨rfl, trivial⟩, Option.some.inj f5, H.sel [] rfl⟩
    ·
     have f6 := condT f3; clear f3
     obtain ⟨a2, e, f7⟩ := bindS f6; clear f6
     refine remO_ e ?_; clear e
     obtain ⟨a3, e, f8⟩ := bindS f7; clear f7
     refine arO e ?_; clear e
     obtain ⟨a4, e, f9⟩ := bindS f8; clear f8
     refine convIY gok rfl rfl e ?_; clear e
     refine lit1S (α := By) gok rfl rfl rfl rfl H ?_; clear H; intro h0 w2 hx H
     clear hx
     obtain ⟨a5, e, f10⟩ := bindS f9; clear f9
     refine convBZ (xs := ([a4] : List By)) gok rfl rfl rfl (H.ro (α := List By) 0 rfl) e ?_; clear e
     obtain ⟨a6, e, f11⟩ := bindS f10; clear f10
     refine catZ e ?_; clear e
     obtain ⟨a7, e, f12⟩ := bindS f11; clear f11
     refine quoO_ e ?_; clear e
     have hs := Option.some.inj f12; subst hs; clear f12
     exact ⟨(a7, a6), (), rfl, ⟨rfl, rfl, trivial⟩, H.sel [] rfl⟩
  ·
   clear f0 H
   rintro T1 s1 w3 ⟨hr, (H : Cx w0 fp0 S0 w3 [])⟩
   subst hr
   obtain ⟨a8, e, f13⟩ := bindS f1; clear f1
   refine catZ e ?_; clear e
   cases f13
   exact ⟨_, _, rfl, ⟨rfl, rfl⟩, (H.sel [] rfl).close trivial⟩
 ·
  have f14 := condT hF2; clear hF2
  cases f14
  exact ⟨_, _, rfl, ⟨rfl, rfl⟩, (H.sel [] rfl).close trivial⟩

theorem laws_markNodeS_c (a_ : List (Int × Int × ByteArray)) (a_h : Hd) (k_ : Int) (y0 : List (Int × Int × ByteArray)) (y1 : Int) (hF : F_laws_markNodeS a_ k_ = some (y0, y1)) :
  ConF Tryz.prog 23 #[(a_h).v, (.int .i64 k_)] [] [E (List (Int × Int × ByteArray)) a_ a_h] (fun v Γ' => v = (.int .i64 y1) ∧ Γ' = [E (List (Int × Int × ByteArray)) y0 a_h]) := by
 intro w0 S0 fp0 hI hS
 have H : Cx w0 fp0 S0 w0 [E (List (Int × Int × ByteArray)) a_ a_h] := Cx.start hI hS
 clear hI hS
 refine enterC (args := [_, _]) gok Tryz.func23 rfl _ rfl rfl rfl ?_
 obtain ⟨r0, f0, f1⟩ := bindS hF; clear hF
 refine cut (fun (q0 : (List (Int × Int × ByteArray)) × Int) => [(1, (.int .i64 q0.2))]) (fun (q0 : (List (Int × Int × ByteArray)) × Int) w' => (q0.1, q0.2) = r0 ∧ Cx w0 fp0 S0 w' [E (List (Int × Int × ByteArray)) q0.1 a_h]) ?_ ?_
 ·
  refine loopW _ (fun (s0 : (List (Int × Int × ByteArray)) × Int × Int) (_ : Unit) => [(0, (a_h).v), (1, (.int .i64 s0.2.1)), (5, (.int .i64 s0.2.2))]) (fun (s0 : (List (Int × Int × ByteArray)) × Int × Int) (_ : Unit) w' => Cx w0 fp0 S0 w' [E (List (Int × Int × ByteArray)) s0.1 a_h]) (a_, k_, 0) () f0 ⟨rfl, rfl, rfl, trivial⟩ (H.sel [0] rfl) ?_
  ·
   clear H
   rintro T0 ⟨s0_0, s0_1, s0_2⟩ _ w1 o0 (H : Cx w0 fp0 S0 w1 [E (List (Int × Int × ByteArray)) s0_0 a_h]) hrt f2
   refine sq ?_
   refine lenE (H.ro (α := List (Int × Int × ByteArray)) 0 rfl).len ?_
   obtain ⟨a0, e, f3⟩ := bindS f2; clear f2
   refine boolO e ?_; clear e
   cases a0
   ·
    have f4 := condF f3; clear f3
    have hs := Option.some.inj f4; subst hs; clear f4
    have f5 : some _ = some _ := congrArg some (hrt _ rfl).symm
    exact ⟨(s0_0, s0_1), ⟨rfl, trivial⟩, Option.some.inj f5, H.sel [0] rfl⟩
   ·
    have f6 := condT f3; clear f3
    refine sq ?_
    obtain ⟨a1, e, f7⟩ := bindS f6; clear f6
    replace H := H.toEH (α := Int × Int × ByteArray)
    have HH := H; clear H; obtain ⟨p0, m0, g0, c0, c1, c2, c3, H⟩ := HH.peek e; clear HH
    clear e
    obtain ⟨a1_0, a1_1, a1_2⟩ := a1
    obtain ⟨_, _, _⟩ := g0
    refine idxE c0 c1 c2 ?_
    refine fld gok rfl rfl rfl rfl ?_
    replace H := H.takeK 0 rfl
    replace H := H.sel [1, 0] rfl
    refine stX (α := Int × Int × ByteArray) (j := 0) H c0 rfl rfl ?_; clear H; intro w2 H
    replace H := H.sel [1, 0] rfl
    replace H := H.split
    replace H := H.sel [1, 2] rfl
    replace H := H.split
    replace H := H.sel [1, 2] rfl
    replace H := H.sel [1] rfl
    replace H := H.sc (α := ByteArray) a1_2
    replace H := H.sc (α := Int) a1_1
    replace H := H.join (α := Int) (β := ByteArray)
    replace H := H.sc (α := Int) s0_1
    replace H := H.join (α := Int) (β := Int × ByteArray)
    obtain ⟨a2, e, f8⟩ := bindS f7; clear f7
    replace H := H.put c1 e; clear e
    obtain ⟨a3, e, f9⟩ := bindS f8; clear f8
    refine arO e ?_; clear e
    obtain ⟨a4, e, f10⟩ := bindS f9; clear f9
    replace H := H.toEH (α := Int × Int × ByteArray)
    have HH := H; clear H; obtain ⟨p1, m1, g1, c4, c5, c6, c7, H⟩ := HH.peek e; clear HH
    clear e
    obtain ⟨a4_0, a4_1, a4_2⟩ := a4
    obtain ⟨_, _, _⟩ := g1
    refine idxE c4 c5 c6 ?_
    refine fld gok rfl rfl rfl rfl ?_
    replace H := H.takeK 0 rfl
    replace H := H.sel [1, 0] rfl
    refine stX (α := Int × Int × ByteArray) (j := 1) H c4 rfl rfl ?_; clear H; intro w3 H
    replace H := H.sel [1, 0] rfl
    replace H := H.split
    replace H := H.sel [1, 2] rfl
    replace H := H.split
    replace H := H.sel [1, 2] rfl
    replace H := H.sel [1] rfl
    replace H := H.sc (α := ByteArray) a4_2
    replace H := H.sc (α := Int) a3
    replace H := H.join (α := Int) (β := ByteArray)
    replace H := H.sc (α := Int) a4_0
    replace H := H.join (α := Int) (β := Int × ByteArray)
    obtain ⟨a5, e, f11⟩ := bindS f10; clear f10
    replace H := H.put c5 e; clear e
    obtain ⟨a6, e, f12⟩ := bindS f11; clear f11
    refine arO e ?_; clear e
    obtain ⟨y2, e, f13⟩ := bindS f12; clear f12
    have i0 := e; clear e
    refine callF (laws_markText_c a6 y2 i0) (Γi := []) H trivial ?_; clear H i0
    rintro _ _ w4 ⟨rfl, rfl⟩ H
    obtain ⟨a7, e, f14⟩ := bindS f13; clear f13
    replace H := H.toEH (α := Int × Int × ByteArray)
    have HH := H; clear H; obtain ⟨p2, m2, g2, c8, c9, c10, c11, H⟩ := HH.peek e; clear HH
    clear e
    obtain ⟨a7_0, a7_1, a7_2⟩ := a7
    obtain ⟨_, _, _⟩ := g2
    refine idxE c8 c9 c10 ?_
    refine fld gok rfl rfl rfl rfl ?_
    replace H := H.takeK 0 rfl
    replace H := H.sel [1, 0] rfl
    refine stX (α := Int × Int × ByteArray) (j := 2) H c8 rfl rfl ?_; clear H; intro w5 H
    replace H := H.sel [1, 0] rfl
    replace H := H.split
    replace H := H.sel [1, 2] rfl
    replace H := H.split
    replace H := H.sel [1, 2] rfl
    replace H := H.sel [1] rfl
    replace H := H.sc (α := ByteArray) y2
    replace H := H.sc (α := Int) a7_1
    replace H := H.join (α := Int) (β := ByteArray)
    replace H := H.sc (α := Int) a7_0
    replace H := H.join (α := Int) (β := Int × ByteArray)
    obtain ⟨a8, e, f15⟩ := bindS f14; clear f14
    replace H := H.put c9 e; clear e
    obtain ⟨a9, e, f16⟩ := bindS f15; clear f15
    refine arO e ?_; clear e
    obtain ⟨a10, e, f17⟩ := bindS f16; clear f16
    refine arO e ?_; clear e
    have hs := Option.some.inj f17; subst hs; clear f17
    exact ⟨(a8, a9, a10), (), rfl, ⟨rfl, rfl, rfl, trivial⟩, H.sel [0] rfl⟩
 ·
  clear f0 H
  rintro T1 ⟨s1_0, s1_1⟩ w6 ⟨hr, (H : Cx w0 fp0 S0 w6 [E (List (Int × Int × ByteArray)) s1_0 a_h])⟩
  subst hr
  cases f1
  exact ⟨_, _, rfl, ⟨rfl, rfl⟩, (H.sel [0] rfl).close ⟨cloE, trivial⟩⟩

theorem laws_markTerm_c (a__0 : List (Int × Int × ByteArray)) (a__0h : Hd) (k_ : Int) (y0_0 : List (Int × Int × ByteArray)) (y1 : Int) (hF : F_laws_markTerm a__0 k_ = some (y0_0, y1)) :
  ConF Tryz.prog 10 #[(.agg #[(a__0h).v]), (.int .i64 k_)] [] [E (List (Int × Int × ByteArray)) a__0 a__0h] (fun v Γ' => v = (.int .i64 y1) ∧ Γ' = [E (List (Int × Int × ByteArray)) y0_0 a__0h]) := by
 intro w0 S0 fp0 hI hS
 have H : Cx w0 fp0 S0 w0 [E (List (Int × Int × ByteArray)) a__0 a__0h] := Cx.start hI hS
 clear hI hS
 refine enterC (args := [_, _]) gok Tryz.func10 rfl _ rfl rfl rfl ?_
 refine box_ H ?_; clear H; intro b3 w2 hx H
 clear hx
 refine fld gok rfl rfl rfl rfl ?_
 refine load1 (H.bx 0 rfl (j := 0) rfl) ?_
 obtain ⟨y5, e, hF6⟩ := bindS hF; clear hF
 obtain ⟨y5_0, y5_1⟩ := y5
 have ey5 := e; clear e
 replace H := H.sel [1, 0] rfl
 refine callF (laws_markNodeS_c a__0 a__0h k_ y5_0 y5_1 ey5) (Γi := [E (List (Int × Int × ByteArray)) a__0 a__0h]) H trivial ?_; clear H ey5
 rintro _ _ w7 ⟨rfl, rfl⟩ H
 cases hF6
 exact ⟨_, _, rfl, ⟨rfl, rfl⟩, (H.sel [0] rfl).close ⟨cloE, trivial⟩⟩

theorem laws_markIntS_c (a_ : List Int) (a_h : Hd) (k_ : Int) (y0 : List Int) (y1 : Int) (hF : F_laws_markIntS a_ k_ = some (y0, y1)) :
  ConF Tryz.prog 49 #[(a_h).v, (.int .i64 k_)] [] [E (List Int) a_ a_h] (fun v Γ' => v = (.int .i64 y1) ∧ Γ' = [E (List Int) y0 a_h]) := by
 intro w0 S0 fp0 hI hS
 have H : Cx w0 fp0 S0 w0 [E (List Int) a_ a_h] := Cx.start hI hS
 clear hI hS
 refine enterC (args := [_, _]) gok Tryz.func49 rfl _ rfl rfl rfl ?_
 obtain ⟨r0, f0, f1⟩ := bindS hF; clear hF
 refine cut (fun (q0 : List Int × Int) => [(1, (.int .i64 q0.2))]) (fun (q0 : List Int × Int) w' => (q0.1, q0.2) = r0 ∧ Cx w0 fp0 S0 w' [E (List Int) q0.1 a_h]) ?_ ?_
 ·
  refine loopW _ (fun (s0 : List Int × Int × Int) (_ : Unit) => [(0, (a_h).v), (1, (.int .i64 s0.2.1)), (5, (.int .i64 s0.2.2))]) (fun (s0 : List Int × Int × Int) (_ : Unit) w' => Cx w0 fp0 S0 w' [E (List Int) s0.1 a_h]) (a_, k_, 0) () f0 ⟨rfl, rfl, rfl, trivial⟩ (H.sel [0] rfl) ?_
  ·
   clear H
   rintro T0 ⟨s0_0, s0_1, s0_2⟩ _ w1 o0 (H : Cx w0 fp0 S0 w1 [E (List Int) s0_0 a_h]) hrt f2
   refine sq ?_
   refine lenE (H.ro (α := List Int) 0 rfl).len ?_
   obtain ⟨a0, e, f3⟩ := bindS f2; clear f2
   refine boolO e ?_; clear e
   cases a0
   ·
    have f4 := condF f3; clear f3
    have hs := Option.some.inj f4; subst hs; clear f4
    have f5 : some _ = some _ := congrArg some (hrt _ rfl).symm
    exact ⟨(s0_0, s0_1), ⟨rfl, trivial⟩, Option.some.inj f5, H.sel [0] rfl⟩
   ·
    have f6 := condT f3; clear f3
    refine sq ?_
    obtain ⟨a1, e, f7⟩ := bindS f6; clear f6
    have i0 := e; clear e
    obtain ⟨p0, m0, c0, c1, c2⟩ := (H.ro (α := List Int) 0 rfl).setp i0
    refine idxE c0 c1 c2 ?_
    refine setS (α := Int) H c0 c1 i0 ?_; clear H c0 c1 c2 i0; intro w2 H
    obtain ⟨a2, e, f8⟩ := bindS f7; clear f7
    refine arO e ?_; clear e
    obtain ⟨a3, e, f9⟩ := bindS f8; clear f8
    refine arO e ?_; clear e
    have hs := Option.some.inj f9; subst hs; clear f9
    exact ⟨(a1, a2, a3), (), rfl, ⟨rfl, rfl, rfl, trivial⟩, H.sel [0] rfl⟩
 ·
  clear f0 H
  rintro T1 ⟨s1_0, s1_1⟩ w3 ⟨hr, (H : Cx w0 fp0 S0 w3 [E (List Int) s1_0 a_h])⟩
  subst hr
  cases f1
  exact ⟨_, _, rfl, ⟨rfl, rfl⟩, (H.sel [0] rfl).close ⟨cloE, trivial⟩⟩

theorem laws_markIntSS_c (a_ : List (List Int)) (a_h : Hd) (k_ : Int) (y0 : List (List Int)) (y1 : Int) (hF : F_laws_markIntSS a_ k_ = some (y0, y1)) :
  ConF Tryz.prog 24 #[(a_h).v, (.int .i64 k_)] [] [E (List (List Int)) a_ a_h] (fun v Γ' => v = (.int .i64 y1) ∧ Γ' = [E (List (List Int)) y0 a_h]) := by
 intro w0 S0 fp0 hI hS
 have H : Cx w0 fp0 S0 w0 [E (List (List Int)) a_ a_h] := Cx.start hI hS
 clear hI hS
 refine enterC (args := [_, _]) gok Tryz.func24 rfl _ rfl rfl rfl ?_
 obtain ⟨r0, f0, f1⟩ := bindS hF; clear hF
 refine cut (fun (q0 : List (List Int) × Int) => [(1, (.int .i64 q0.2))]) (fun (q0 : List (List Int) × Int) w' => (q0.1, q0.2) = r0 ∧ Cx w0 fp0 S0 w' [E (List (List Int)) q0.1 a_h]) ?_ ?_
 ·
  refine loopW _ (fun (s0 : List (List Int) × Int × Int) (_ : Unit) => [(0, (a_h).v), (1, (.int .i64 s0.2.1)), (5, (.int .i64 s0.2.2))]) (fun (s0 : List (List Int) × Int × Int) (_ : Unit) w' => Cx w0 fp0 S0 w' [E (List (List Int)) s0.1 a_h]) (a_, k_, 0) () f0 ⟨rfl, rfl, rfl, trivial⟩ (H.sel [0] rfl) ?_
  ·
   clear H
   rintro T0 ⟨s0_0, s0_1, s0_2⟩ _ w1 o0 (H : Cx w0 fp0 S0 w1 [E (List (List Int)) s0_0 a_h]) hrt f2
   refine sq ?_
   refine lenE (H.ro (α := List (List Int)) 0 rfl).len ?_
   obtain ⟨a0, e, f3⟩ := bindS f2; clear f2
   refine boolO e ?_; clear e
   cases a0
   ·
    have f4 := condF f3; clear f3
    have hs := Option.some.inj f4; subst hs; clear f4
    have f5 : some _ = some _ := congrArg some (hrt _ rfl).symm
    exact ⟨(s0_0, s0_1), ⟨rfl, trivial⟩, Option.some.inj f5, H.sel [0] rfl⟩
   ·
    have f6 := condT f3; clear f3
    refine sq ?_
    obtain ⟨a1, e, f7⟩ := bindS f6; clear f6
    replace H := H.toEH (α := List Int)
    have HH := H; clear H; obtain ⟨p0, m0, h0, c0, c1, c2, c3, H⟩ := HH.peekL e; clear HH
    clear e
    refine idxE c0 c1 c2 ?_
    refine load1 c3 ?_; clear c3
    obtain ⟨y2, e, f8⟩ := bindS f7; clear f7
    obtain ⟨y2_0, y2_1⟩ := y2
    have i0 := e; clear e
    replace H := H.takeK 0 rfl
    refine callF (laws_markIntS_c a1 h0 s0_1 y2_0 y2_1 i0) (Γi := [E (List Int) a1 h0]) H trivial ?_; clear H i0
    rintro _ _ w2 ⟨rfl, rfl⟩ H
    obtain ⟨a2, e, f9⟩ := bindS f8; clear f8
    replace H := H.put c1 e; clear e
    obtain ⟨a3, e, f10⟩ := bindS f9; clear f9
    refine arO e ?_; clear e
    have hs := Option.some.inj f10; subst hs; clear f10
    exact ⟨(a2, y2_1, a3), (), rfl, ⟨rfl, rfl, rfl, trivial⟩, H.sel [0] rfl⟩
 ·
  clear f0 H
  rintro T1 ⟨s1_0, s1_1⟩ w3 ⟨hr, (H : Cx w0 fp0 S0 w3 [E (List (List Int)) s1_0 a_h])⟩
  subst hr
  cases f1
  exact ⟨_, _, rfl, ⟨rfl, rfl⟩, (H.sel [0] rfl).close ⟨cloE, trivial⟩⟩

theorem laws_markSystem_c (a__0 : Int) (a__1 : Int) (a__2 : List (List Int)) (a__2h : Hd) (k_ : Int) (y0_0 : Int) (y0_1 : Int) (y0_2 : List (List Int)) (y1 : Int) (hF : F_laws_markSystem (a__0, a__1, a__2) k_ = some ((y0_0, y0_1, y0_2), y1)) :
  ConF Tryz.prog 11 #[(.agg #[(.int .i64 a__0), (.int .i64 a__1), (a__2h).v]), (.int .i64 k_)] [] [E (List (List Int)) a__2 a__2h] (fun v Γ' => v = (.int .i64 y1) ∧ Γ' = [E (List (List Int)) y0_2 a__2h]) := by
 intro w0 S0 fp0 hI hS
 have H : Cx w0 fp0 S0 w0 [E (List (List Int)) a__2 a__2h] := Cx.start hI hS
 clear hI hS
 refine enterC (args := [_, _]) gok Tryz.func11 rfl _ rfl rfl rfl ?_
 refine box_ H ?_; clear H; intro b3 w2 hx H
 clear hx
 refine fld gok rfl rfl rfl rfl ?_
 refine load1 (H.bx 0 rfl (j := 2) rfl) ?_
 obtain ⟨y5, e, hF6⟩ := bindS hF; clear hF
 obtain ⟨y5_0, y5_1⟩ := y5
 have ey5 := e; clear e
 replace H := H.sel [1, 0] rfl
 refine callF (laws_markIntSS_c a__2 a__2h k_ y5_0 y5_1 ey5) (Γi := [E (List (List Int)) a__2 a__2h]) H trivial ?_; clear H ey5
 rintro _ _ w7 ⟨rfl, rfl⟩ H
 cases hF6
 exact ⟨_, _, rfl, ⟨rfl, rfl⟩, (H.sel [0] rfl).close ⟨cloE, trivial⟩⟩

theorem laws_heldIntS_c (a_ : List Int) (a_h : Hd) (k_ : Int) (y : Int) (hF : F_laws_heldIntS a_ k_ = some y) :
  ConF Tryz.prog 50 #[(a_h).v, (.int .i64 k_)] [Es (List Int) a_ a_h] [] (fun v Γ' => v = (.int .i64 y) ∧ Γ' = []) := by
 intro w0 S0 fp0 hI hS
 have H : Cx w0 fp0 S0 w0 [Es (List Int) a_ a_h] := Cx.start hI hS
 clear hI hS
 refine enterC (args := [_, _]) gok Tryz.func50 rfl _ rfl rfl rfl ?_
 obtain ⟨r0, f0, f1⟩ := bindS hF; clear hF
 refine cut (fun (q0 : Int) => [(1, (.int .i64 q0))]) (fun (q0 : Int) w' => .inl q0 = r0 ∧ Cx w0 fp0 S0 w' []) ?_ ?_
 ·
  refine loopW _ (fun (s0 : Int × Int) (_ : Unit) => [(0, (a_h).v), (1, (.int .i64 s0.1)), (5, (.int .i64 s0.2))]) (fun (s0 : Int × Int) (_ : Unit) w' => Cx w0 fp0 S0 w' [Es (List Int) a_ a_h]) (k_, 0) () f0 ⟨rfl, rfl, rfl, trivial⟩ (H.sel [0] rfl) ?_
  ·
   clear H
   rintro T0 ⟨s0_0, s0_1⟩ _ w1 o0 (H : Cx w0 fp0 S0 w1 [Es (List Int) a_ a_h]) hrt f2
   refine sq ?_
   refine lenE (H.rs (α := List Int) 0 rfl).len ?_
   obtain ⟨a0, e, f3⟩ := bindS f2; clear f2
   refine boolO e ?_; clear e
   cases a0
   ·
    have f4 := condF f3; clear f3
    have hs := Option.some.inj f4; subst hs; clear f4
    have f5 : some _ = some _ := congrArg some (hrt _ rfl).symm
    exact ⟨s0_0, ⟨rfl, trivial⟩, Option.some.inj f5, H.sel [] rfl⟩
   ·
    have f6 := condT f3; clear f3
    refine sq ?_
    refine sq ?_
    obtain ⟨a1, e, f7⟩ := bindS f6; clear f6
    obtain ⟨p0, m0, c0, c1, c2, c3⟩ := (H.rs (α := List Int) 0 rfl).at1 e; clear e
    refine idxE c0 c1 c2 ?_; clear c0 c1 c2
    refine load1 c3 ?_; clear c3
    obtain ⟨a2, e, f8⟩ := bindS f7; clear f7
    refine boolO e ?_; clear e
    cases a2
    ·
     have f9 := condF f8; clear f8
     obtain ⟨a3, e, f10⟩ := bindS f9; clear f9
     refine arO e ?_; clear e
     obtain ⟨a4, e, f11⟩ := bindS f10; clear f10
     refine arO e ?_; clear e
     have hs := Option.some.inj f11; subst hs; clear f11
     exact ⟨(a3, a4), (), rfl, ⟨rfl, rfl, rfl, trivial⟩, H.sel [0] rfl⟩
    ·
     have f12 := condT f8; clear f8
     have hs := Option.some.inj f12; subst hs; clear f12
     have f13 : some _ = some _ := congrArg some (hrt _ rfl).symm
     have hs := Option.some.inj f13; subst hs; clear f13
     have f14 : some _ = some _ := f1; clear f1
     cases f14
     exact ⟨_, _, rfl, ⟨rfl, rfl⟩, (H.sel [] rfl).close trivial⟩
 ·
  clear f0 H
  rintro T1 s1 w2 ⟨hr, (H : Cx w0 fp0 S0 w2 [])⟩
  subst hr
  cases f1
  exact ⟨_, _, rfl, ⟨rfl, rfl⟩, (H.sel [] rfl).close trivial⟩

theorem laws_heldIntSS_c (a_ : List (List Int)) (a_h : Hd) (k_ : Int) (y : Int) (hF : F_laws_heldIntSS a_ k_ = some y) :
  ConF Tryz.prog 25 #[(a_h).v, (.int .i64 k_)] [Es (List (List Int)) a_ a_h] [] (fun v Γ' => v = (.int .i64 y) ∧ Γ' = []) := by
 intro w0 S0 fp0 hI hS
 have H : Cx w0 fp0 S0 w0 [Es (List (List Int)) a_ a_h] := Cx.start hI hS
 clear hI hS
 refine enterC (args := [_, _]) gok Tryz.func25 rfl _ rfl rfl rfl ?_
 obtain ⟨r0, f0, f1⟩ := bindS hF; clear hF
 refine cut (fun (q0 : Int) => [(1, (.int .i64 q0))]) (fun (q0 : Int) w' => .inl q0 = r0 ∧ Cx w0 fp0 S0 w' []) ?_ ?_
 ·
  refine loopW _ (fun (s0 : Int × Int) (_ : Unit) => [(0, (a_h).v), (1, (.int .i64 s0.1)), (5, (.int .i64 s0.2))]) (fun (s0 : Int × Int) (_ : Unit) w' => Cx w0 fp0 S0 w' [Es (List (List Int)) a_ a_h]) (k_, 0) () f0 ⟨rfl, rfl, rfl, trivial⟩ (H.sel [0] rfl) ?_
  ·
   clear H
   rintro T0 ⟨s0_0, s0_1⟩ _ w1 o0 (H : Cx w0 fp0 S0 w1 [Es (List (List Int)) a_ a_h]) hrt f2
   refine sq ?_
   refine lenE (H.rs (α := List (List Int)) 0 rfl).len ?_
   obtain ⟨a0, e, f3⟩ := bindS f2; clear f2
   refine boolO e ?_; clear e
   cases a0
   ·
    have f4 := condF f3; clear f3
    have hs := Option.some.inj f4; subst hs; clear f4
    have f5 : some _ = some _ := congrArg some (hrt _ rfl).symm
    exact ⟨s0_0, ⟨rfl, trivial⟩, Option.some.inj f5, H.sel [] rfl⟩
   ·
    have f6 := condT f3; clear f3
    refine sq ?_
    obtain ⟨a1, e, f7⟩ := bindS f6; clear f6
    have HH := H; clear H; obtain ⟨p0, m0, h0, c0, c1, c2, c3, H⟩ := HH.elL 0 rfl e; clear HH
    clear e
    refine idxE c0 c1 c2 ?_; clear c0 c1 c2
    refine load1 c3 ?_; clear c3
    obtain ⟨y0, e, f8⟩ := bindS f7; clear f7
    have i0 := e; clear e
    refine callF (laws_heldIntS_c a1 h0 s0_0 y0 i0) (Γi := []) H ⟨Vw.sh 0 rfl, trivial⟩ ?_; clear H i0
    rintro _ _ w2 ⟨rfl, rfl⟩ H
    obtain ⟨a2, e, f9⟩ := bindS f8; clear f8
    refine boolO e ?_; clear e
    cases a2
    ·
     have f10 := condF f9; clear f9
     obtain ⟨a3, e, f11⟩ := bindS f10; clear f10
     refine arO e ?_; clear e
     have hs := Option.some.inj f11; subst hs; clear f11
     exact ⟨(y0, a3), (), rfl, ⟨rfl, rfl, rfl, trivial⟩, H.sel [1] rfl⟩
    ·
     have f12 := condT f9; clear f9
     have hs := Option.some.inj f12; subst hs; clear f12
     have f13 : some _ = some _ := congrArg some (hrt _ rfl).symm
     have hs := Option.some.inj f13; subst hs; clear f13
     have f14 : some _ = some _ := f1; clear f1
     cases f14
     exact ⟨_, _, rfl, ⟨rfl, rfl⟩, (H.sel [] rfl).close trivial⟩
 ·
  clear f0 H
  rintro T1 s1 w3 ⟨hr, (H : Cx w0 fp0 S0 w3 [])⟩
  subst hr
  cases f1
  exact ⟨_, _, rfl, ⟨rfl, rfl⟩, (H.sel [] rfl).close trivial⟩

theorem laws_heldSystem_c (a__0 : Int) (a__1 : Int) (a__2 : List (List Int)) (a__2h : Hd) (k_ : Int) (y : Int) (hF : F_laws_heldSystem (a__0, a__1, a__2) k_ = some y) :
  ConF Tryz.prog 12 #[(.agg #[(.int .i64 a__0), (.int .i64 a__1), (a__2h).v]), (.int .i64 k_)] [Es (List (List Int)) a__2 a__2h] [] (fun v Γ' => v = (.int .i64 y) ∧ Γ' = []) := by
 intro w0 S0 fp0 hI hS
 have H : Cx w0 fp0 S0 w0 [Es (List (List Int)) a__2 a__2h] := Cx.start hI hS
 clear hI hS
 refine enterC (args := [_, _]) gok Tryz.func12 rfl _ rfl rfl rfl ?_
 refine box_ H ?_; clear H; intro b3 w2 hx H
 clear hx
 refine fld gok rfl rfl rfl rfl ?_
 refine load1 (H.bx 0 rfl (j := 2) rfl) ?_
 obtain ⟨y5, e, hF6⟩ := bindS hF; clear hF
 have ey5 := e; clear e
 refine callF (laws_heldIntSS_c a__2 a__2h k_ y5 ey5) (Γi := []) H ⟨Vw.sh 1 rfl, trivial⟩ ?_; clear H ey5
 rintro _ _ w7 ⟨rfl, rfl⟩ H
 refine sq ?_
 obtain ⟨a8, e, hF9⟩ := bindS hF6; clear hF6
 refine boolO e ?_; clear e
 cases a8
 ·
  have f0 := condF hF9; clear hF9
  cases f0
  exact ⟨_, _, rfl, ⟨rfl, rfl⟩, (H.sel [] rfl).close trivial⟩
 ·
  have f1 := condT hF9; clear hF9
  cases f1
  exact ⟨_, _, rfl, ⟨rfl, rfl⟩, (H.sel [] rfl).close trivial⟩

theorem laws_FnExactSystemOfTerm_c (aP_ : Int) (aT__0 : List (Int × Int × ByteArray)) (aT__0h : Hd) (y : Bool) (hF : F_laws_FnExactSystemOfTerm aP_ aT__0 = some y) :
  ConF Tryz.prog 3 #[(.int .i64 aP_), (.agg #[(aT__0h).v])] [Es (List (Int × Int × ByteArray)) aT__0 aT__0h, Gl 0 [.int .i64 2, .int .i64 3, .int .i64 5, .int .i64 7]] [] (fun v Γ' => v = (.bool y) ∧ Γ' = []) := by
 intro w0 S0 fp0 hI hS
 have H : Cx w0 fp0 S0 w0 [Es (List (Int × Int × ByteArray)) aT__0 aT__0h, Gl 0 [.int .i64 2, .int .i64 3, .int .i64 5, .int .i64 7]] := Cx.start hI hS
 clear hI hS
 refine enterC (args := [_, _]) gok Tryz.func3 rfl _ rfl rfl rfl ?_
 refine box_ H ?_; clear H; intro b4 w3 hx H
 clear hx
 refine loadN [(aT__0h).v] rfl (fun j u hj => H.bx 0 rfl hj) ?_
 obtain ⟨y6, e, hF7⟩ := bindS hF; clear hF
 have ey6 := e; clear e
 refine callF (laws_szTerm_c aT__0 aT__0h 1048576 y6 ey6) (Γi := []) H ⟨Vw.sh 1 rfl, trivial⟩ ?_; clear H ey6
 rintro _ _ w8 ⟨rfl, rfl⟩ H
 refine sq ?_
 obtain ⟨a9, e, f0⟩ := bindS hF7; clear hF7
 refine boolO e ?_; clear e
 cases a9
 ·
  have f1 := condF f0; clear f0
  refine loadN [(aT__0h).v] rfl (fun j u hj => H.bx 0 rfl hj) ?_
  obtain ⟨y0, e, f2⟩ := bindS f1; clear f1
  obtain ⟨y0_0, rfl⟩ : ∃ z, z = y0 := ⟨_, rfl⟩
  have i0 := e; clear e
  refine callF (laws_toTerm_c aT__0 aT__0h y0_0 i0) (Γi := []) H ⟨Vw.sh 1 rfl, trivial⟩ ?_; clear H i0
  rintro _ _ w1 ⟨h0, rfl, rfl⟩ H
  obtain ⟨y1, e, f3⟩ := bindS f2; clear f2
  obtain ⟨⟨y1_0_0, y1_0_1, y1_0_2⟩, y1_1⟩ := y1
  have i1 := e; clear e
  refine callF (spec_SystemOfTerm_c aP_ y0_0 h0 y1_0_0 y1_0_1 y1_0_2 y1_1 i1) (Γi := []) H ⟨Vw.own 0 rfl, trivial⟩ ?_; clear H i1
  rintro _ _ w2 ⟨h1, rfl, rfl⟩ H
  refine alloc_ gok rfl H ?_; clear H; intro b0 w4 hx H
  clear hx
  refine stA gok [(.int .i64 y1_0_0), (.int .i64 y1_0_1), (h1).v] rfl H rfl rfl rfl ?_; clear H; intro w5 H
  refine loadN [(aT__0h).v] rfl (fun j u hj => H.bx 3 rfl hj) ?_
  obtain ⟨y2, e, f4⟩ := bindS f3; clear f3
  obtain ⟨y2_0, rfl⟩ : ∃ z, z = y2 := ⟨_, rfl⟩
  have i2 := e; clear e
  refine callF (laws_toTerm_c aT__0 aT__0h y2_0 i2) (Γi := []) H ⟨Vw.sh 4 rfl, trivial⟩ ?_; clear H i2
  rintro _ _ w6 ⟨h2, rfl, rfl⟩ H
  refine alloc_ gok rfl H ?_; clear H; intro b1 w7 hx H
  clear hx
  refine stA gok [(h2).v] rfl H rfl rfl rfl ?_; clear H; intro w9 H
  refine loadN [(h2).v] rfl (fun j u hj => H.bx 0 rfl hj) ?_
  obtain ⟨y3, e, f5⟩ := bindS f4; clear f4
  obtain ⟨⟨y3_0_0, y3_0_1, y3_0_2⟩, y3_1⟩ := y3
  have i3 := e; clear e
  refine callF (impl_SystemOfTerm_c aP_ y2_0 h2 y3_0_0 y3_0_1 y3_0_2 y3_1 i3) (Γi := []) H ⟨Vw.own 1 rfl, Vw.gl 7 rfl, trivial⟩ ?_; clear H i3
  rintro _ _ w10 ⟨h3, rfl, rfl⟩ H
  refine alloc_ gok rfl H ?_; clear H; intro b2 w11 hx H
  clear hx
  refine stA gok [(.int .i64 y3_0_0), (.int .i64 y3_0_1), (h3).v] rfl H rfl rfl rfl ?_; clear H; intro w12 H
  refine sq ?_
  obtain ⟨r0, f6, f7⟩ := bindS f5; clear f5
  refine cut (fun (q0 : Bool) => [(0, (.int .i64 aP_)), (3, (.pointer (some ⟨b4, 0, none⟩))), (6, (.pointer (some ⟨b0, 0, none⟩))), (7, (.bool y1_1)), (8, (.pointer (some ⟨b1, 0, none⟩))), (9, (.pointer (some ⟨b2, 0, none⟩))), (10, (.bool y3_1)), (44, (.bool q0))]) (fun (q0 : Bool) w' => q0 = r0 ∧ Cx w0 fp0 S0 w' [Bx b4 [(aT__0h).v], Es (List (Int × Int × ByteArray)) aT__0 aT__0h, Bx b0 [(.int .i64 y1_0_0), (.int .i64 y1_0_1), (h1).v], E (List (List Int)) y1_0_2 h1, Bx b1 [(h2).v], E (List (Int × Int × ByteArray)) y2_0 h2, Bx b2 [(.int .i64 y3_0_0), (.int .i64 y3_0_1), (h3).v], E (List (List Int)) y3_0_2 h3, Gl 0 [.int .i64 2, .int .i64 3, .int .i64 5, .int .i64 7]]) ?_ ?_
  ·
   refine loadN [(.int .i64 y3_0_0), (.int .i64 y3_0_1), (h3).v] rfl (fun j u hj => H.bx 0 rfl hj) ?_
   refine loadN [(.int .i64 y1_0_0), (.int .i64 y1_0_1), (h1).v] rfl (fun j u hj => H.bx 4 rfl hj) ?_
   obtain ⟨y4, e, f8⟩ := bindS f6; clear f6
   have i4 := e; clear e
   refine callF (laws_eqSystem_c y3_0_0 y3_0_1 y3_0_2 h3 y1_0_0 y1_0_1 y1_0_2 h1 y4 i4) (Γi := []) H ⟨Vw.own 1 rfl, Vw.own 5 rfl, trivial⟩ ?_; clear H i4
   rintro _ _ w13 ⟨rfl, rfl⟩ H
   obtain ⟨a0, e, f9⟩ := bindS f8; clear f8
   refine boolO e ?_; clear e
   cases a0
   ·
    have f10 := condF f9; clear f9
    obtain ⟨a1, e, f11⟩ := bindS f10; clear f10
    refine boolO e ?_; clear e
    exact ⟨a1, ⟨rfl, rfl, rfl, rfl, rfl, rfl, rfl, rfl, trivial⟩, Option.some.inj f11, H.sel [7, 8, 4, 5, 2, 3, 0, 1, 9] rfl⟩
   ·
    have f12 := condT f9; clear f9
    exact ⟨true, ⟨rfl, rfl, rfl, rfl, rfl, rfl, rfl, rfl, trivial⟩, Option.some.inj f12, H.sel [7, 8, 4, 5, 2, 3, 0, 1, 9] rfl⟩
  ·
   clear f6 H
   rintro T0 s0 w15 ⟨hr, (H : Cx w0 fp0 S0 w15 [Bx b4 [(aT__0h).v], Es (List (Int × Int × ByteArray)) aT__0 aT__0h, Bx b0 [(.int .i64 y1_0_0), (.int .i64 y1_0_1), (h1).v], E (List (List Int)) y1_0_2 h1, Bx b1 [(h2).v], E (List (Int × Int × ByteArray)) y2_0 h2, Bx b2 [(.int .i64 y3_0_0), (.int .i64 y3_0_1), (h3).v], E (List (List Int)) y3_0_2 h3, Gl 0 [.int .i64 2, .int .i64 3, .int .i64 5, .int .i64 7]])⟩
   subst hr
   cases s0
   ·
    have f13 := condF f7; clear f7
    refine sq ?_
    refine heldX H [] (.fst 0 (.fst 1 (.act 2 (.act 3 (.fst 4 .done))))) mixed [] trivial (by kernel_rfl) ?_
    clear H; intro w16 H
    have hX : Ext w16 w16 := Upd.refl _ _
    have H0 := H
    refine loadNX [(h2).v] rfl (fun j u hj => H.bx 4 rfl hj) ?_
    refine loadNX [(aT__0h).v] rfl (fun j u hj => H.bx 0 rfl hj) ?_
    obtain ⟨y5, e, f14⟩ := bindS f13; clear f13
    obtain ⟨y5_0, rfl⟩ : ∃ z, z = y5 := ⟨_, rfl⟩
    have i5 := e; clear e
    refine callFx (laws_toTerm_c aT__0 aT__0h y5_0 i5) H ⟨Vw.sh 1 rfl, trivial⟩ ?_; clear H i5
    rintro _ _ w17 ⟨h4, rfl, rfl⟩ hx H
    replace hX := hX.trans0 hx; clear hx
    refine hold hX ?_
    obtain ⟨y7, e, f15⟩ := bindS f14; clear f14
    have i6 := e; clear e
    refine callFx (laws_eqTerm_c y2_0 h2 y5_0 h4 y7 i6) H ⟨Vw.own 6 rfl, Vw.own 0 rfl, trivial⟩ ?_; clear H i6
    rintro _ _ w18 ⟨rfl, rfl⟩ hx H
    replace hX := hX.trans0 hx; clear hx
    refine hold hX ?_
    obtain ⟨a2, e, f16⟩ := bindS f15; clear f15
    refine boolO e ?_; clear e
    cases a2
    ·
     have f17 := condF f16; clear f16
     refine loadN [(h2).v] rfl (fun j u hj => H.bx 5 rfl hj) ?_
     obtain ⟨y8, e, f18⟩ := bindS f17; clear f17
     obtain ⟨y8_0_0, y8_1⟩ := y8
     have i7 := e; clear e
     replace H := H.sel [6, 0, 1, 2, 3, 4, 5, 7, 8, 9] rfl
     refine callF (laws_markTerm_c y2_0 h2 1 y8_0_0 y8_1 i7) (Γi := [E (List (Int × Int × ByteArray)) y2_0 h2]) H trivial ?_; clear H i7
     rintro _ _ w20 ⟨rfl, rfl⟩ H
     refine sq ?_
     obtain ⟨r1, f19, f20⟩ := bindS f18; clear f18
     refine cut (fun (q1 : Bool) => [(0, (.int .i64 aP_)), (3, (.pointer (some ⟨b4, 0, none⟩))), (6, (.pointer (some ⟨b0, 0, none⟩))), (7, (.bool y1_1)), (9, (.pointer (some ⟨b2, 0, none⟩))), (65, (.bool q1))]) (fun (q1 : Bool) w' => q1 = r1 ∧ Cx w0 fp0 S0 w' [Bx b4 [(aT__0h).v], Es (List (Int × Int × ByteArray)) aT__0 aT__0h, Bx b0 [(.int .i64 y1_0_0), (.int .i64 y1_0_1), (h1).v], E (List (List Int)) y1_0_2 h1, Bx b2 [(.int .i64 y3_0_0), (.int .i64 y3_0_1), (h3).v], E (List (List Int)) y3_0_2 h3, Gl 0 [.int .i64 2, .int .i64 3, .int .i64 5, .int .i64 7]]) ?_ ?_
     ·
      obtain ⟨a3, e, f21⟩ := bindS f19; clear f19
      refine boolO e ?_; clear e
      cases a3
      ·
       have f22 := condF f21; clear f21
       refine loadN [(.int .i64 y3_0_0), (.int .i64 y3_0_1), (h3).v] rfl (fun j u hj => H.bx 7 rfl hj) ?_
       refine loadN [(.int .i64 y1_0_0), (.int .i64 y1_0_1), (h1).v] rfl (fun j u hj => H.bx 4 rfl hj) ?_
       obtain ⟨y9, e, f23⟩ := bindS f22; clear f22
       have i8 := e; clear e
       refine callF (laws_eqSystem_c y3_0_0 y3_0_1 y3_0_2 h3 y1_0_0 y1_0_1 y1_0_2 h1 y9 i8) (Γi := []) H ⟨Vw.own 8 rfl, Vw.own 5 rfl, trivial⟩ ?_; clear H i8
       rintro _ _ w21 ⟨rfl, rfl⟩ H
       obtain ⟨a4, e, f24⟩ := bindS f23; clear f23
       refine boolO e ?_; clear e
       cases a4
       ·
        have f25 := condF f24; clear f24
        obtain ⟨a5, e, f26⟩ := bindS f25; clear f25
        refine boolO e ?_; clear e
        exact ⟨a5, ⟨rfl, rfl, rfl, rfl, rfl, rfl, trivial⟩, Option.some.inj f26, H.sel [2, 3, 4, 5, 7, 8, 9] rfl⟩
       ·
        have f27 := condT f24; clear f24
        exact ⟨true, ⟨rfl, rfl, rfl, rfl, rfl, rfl, trivial⟩, Option.some.inj f27, H.sel [2, 3, 4, 5, 7, 8, 9] rfl⟩
      ·
       have f28 := condT f21; clear f21
       exact ⟨true, ⟨rfl, rfl, rfl, rfl, rfl, rfl, trivial⟩, Option.some.inj f28, H.sel [2, 3, 4, 5, 7, 8, 9] rfl⟩
     ·
      clear f19 H
      rintro T1 s1 w23 ⟨hr, (H : Cx w0 fp0 S0 w23 [Bx b4 [(aT__0h).v], Es (List (Int × Int × ByteArray)) aT__0 aT__0h, Bx b0 [(.int .i64 y1_0_0), (.int .i64 y1_0_1), (h1).v], E (List (List Int)) y1_0_2 h1, Bx b2 [(.int .i64 y3_0_0), (.int .i64 y3_0_1), (h3).v], E (List (List Int)) y3_0_2 h3, Gl 0 [.int .i64 2, .int .i64 3, .int .i64 5, .int .i64 7]])⟩
      subst hr
      cases s1
      ·
       have f29 := condF f20; clear f20
       refine loadN [(.int .i64 y3_0_0), (.int .i64 y3_0_1), (h3).v] rfl (fun j u hj => H.bx 4 rfl hj) ?_
       obtain ⟨y10, e, f30⟩ := bindS f29; clear f29
       obtain ⟨⟨y10_0_0, y10_0_1, y10_0_2⟩, y10_1⟩ := y10
       have i9 := e; clear e
       replace H := H.sel [5, 0, 1, 2, 3, 4, 6] rfl
       refine callF (laws_markSystem_c y3_0_0 y3_0_1 y3_0_2 h3 1 y10_0_0 y10_0_1 y10_0_2 y10_1 i9) (Γi := [E (List (List Int)) y3_0_2 h3]) H trivial ?_; clear H i9
       rintro _ _ w24 ⟨rfl, rfl⟩ H
       refine loadN [(.int .i64 y3_0_0), (.int .i64 y3_0_1), (h3).v] rfl (fun j u hj => H.bx 5 rfl hj) ?_
       obtain ⟨y11, e, f31⟩ := bindS f30; clear f30
       have i10 := e; clear e
       refine callF (laws_heldSystem_c y3_0_0 y3_0_1 y10_0_2 h3 1 y11 i10) (Γi := []) H ⟨Vw.own 0 rfl, trivial⟩ ?_; clear H i10
       rintro _ _ w26 ⟨rfl, rfl⟩ H
       refine sq ?_
       obtain ⟨a6, e, f32⟩ := bindS f31; clear f31
       refine boolO e ?_; clear e
       cases a6
       ·
        have f33 := condF f32; clear f32
        refine sq ?_
        obtain ⟨a7, e, f34⟩ := bindS f33; clear f33
        refine boolO e ?_; clear e
        cases a7
        ·
         have f35 := condF f34; clear f34
         refine loadN [(aT__0h).v] rfl (fun j u hj => H.bx 1 rfl hj) ?_
         obtain ⟨y13, e, f36⟩ := bindS f35; clear f35
         obtain ⟨y13_0, rfl⟩ : ∃ z, z = y13 := ⟨_, rfl⟩
         have i11 := e; clear e
         refine callF (laws_toTerm_c aT__0 aT__0h y13_0 i11) (Γi := []) H ⟨Vw.sh 2 rfl, trivial⟩ ?_; clear H i11
         rintro _ _ w27 ⟨h5, rfl, rfl⟩ H
         obtain ⟨y14, e, f37⟩ := bindS f36; clear f36
         obtain ⟨⟨y14_0_0, y14_0_1, y14_0_2⟩, y14_1⟩ := y14
         have i12 := e; clear e
         refine callF (impl_SystemOfTerm_c aP_ y13_0 h5 y14_0_0 y14_0_1 y14_0_2 y14_1 i12) (Γi := []) H ⟨Vw.own 0 rfl, Vw.gl 7 rfl, trivial⟩ ?_; clear H i12
         rintro _ _ w29 ⟨h6, rfl, rfl⟩ H
         refine alloc_ gok rfl H ?_; clear H; intro b3 w30 hx H
         clear hx
         refine stA gok [(.int .i64 y14_0_0), (.int .i64 y14_0_1), (h6).v] rfl H rfl rfl rfl ?_; clear H; intro w32 H
         refine sq ?_
         obtain ⟨r2, f38, f39⟩ := bindS f37; clear f37
         refine cut (fun (q2 : Bool) => [(9, (.pointer (some ⟨b2, 0, none⟩))), (12, (.int .i64 y10_1)), (92, (.bool q2))]) (fun (q2 : Bool) w' => q2 = r2 ∧ Cx w0 fp0 S0 w' [Bx b2 [(.int .i64 y3_0_0), (.int .i64 y3_0_1), (h3).v], E (List (List Int)) y10_0_2 h3, Gl 0 [.int .i64 2, .int .i64 3, .int .i64 5, .int .i64 7]]) ?_ ?_
         ·
          refine loadN [(.int .i64 y14_0_0), (.int .i64 y14_0_1), (h6).v] rfl (fun j u hj => H.bx 0 rfl hj) ?_
          refine loadN [(.int .i64 y1_0_0), (.int .i64 y1_0_1), (h1).v] rfl (fun j u hj => H.bx 6 rfl hj) ?_
          obtain ⟨y15, e, f40⟩ := bindS f38; clear f38
          have i13 := e; clear e
          refine callF (laws_eqSystem_c y14_0_0 y14_0_1 y14_0_2 h6 y1_0_0 y1_0_1 y1_0_2 h1 y15 i13) (Γi := []) H ⟨Vw.own 1 rfl, Vw.own 7 rfl, trivial⟩ ?_; clear H i13
          rintro _ _ w33 ⟨rfl, rfl⟩ H
          obtain ⟨a8, e, f41⟩ := bindS f40; clear f40
          refine boolO e ?_; clear e
          cases a8
          ·
           have f42 := condF f41; clear f41
           obtain ⟨a10, e, f43⟩ := bindS f42; clear f42
           refine boolO e ?_; clear e
           exact ⟨a10, ⟨rfl, rfl, rfl, trivial⟩, Option.some.inj f43, H.sel [8, 3, 9] rfl⟩
          ·
           have f44 := condT f41; clear f41
           exact ⟨true, ⟨rfl, rfl, rfl, trivial⟩, Option.some.inj f44, H.sel [8, 3, 9] rfl⟩
         ·
          clear f38 H
          rintro T2 s2 w35 ⟨hr, (H : Cx w0 fp0 S0 w35 [Bx b2 [(.int .i64 y3_0_0), (.int .i64 y3_0_1), (h3).v], E (List (List Int)) y10_0_2 h3, Gl 0 [.int .i64 2, .int .i64 3, .int .i64 5, .int .i64 7]])⟩
          subst hr
          cases s2
          ·
           have f45 := condF f39; clear f39
           refine loadN [(.int .i64 y3_0_0), (.int .i64 y3_0_1), (h3).v] rfl (fun j u hj => H.bx 0 rfl hj) ?_
           obtain ⟨y16, e, f46⟩ := bindS f45; clear f45
           have i14 := e; clear e
           refine callF (laws_heldSystem_c y3_0_0 y3_0_1 y10_0_2 h3 1 y16 i14) (Γi := []) H ⟨Vw.own 1 rfl, trivial⟩ ?_; clear H i14
           rintro _ _ w36 ⟨rfl, rfl⟩ H
           refine sq ?_
           obtain ⟨a11, e, f47⟩ := bindS f46; clear f46
           refine boolO e ?_; clear e
           cases a11
           ·
            have f48 := condF f47; clear f47
            refine sq ?_
            obtain ⟨a12, e, f49⟩ := bindS f48; clear f48
            refine boolO e ?_; clear e
            cases a12
            ·
             have f50 := condF f49; clear f49
             cases f50
             exact ⟨_, _, rfl, ⟨rfl, rfl⟩, (H.sel [] rfl).close trivial⟩
            ·
             have f51 := condT f49; clear f49
             cases f51
             exact ⟨_, _, rfl, ⟨rfl, rfl⟩, (H.sel [] rfl).close trivial⟩
           ·
            have f52 := condT f47; clear f47
            cases f52
            exact ⟨_, _, rfl, ⟨rfl, rfl⟩, (H.sel [] rfl).close trivial⟩
          ·
           have f53 := condT f39; clear f39
           cases f53
           exact ⟨_, _, rfl, ⟨rfl, rfl⟩, (H.sel [] rfl).close trivial⟩
        ·
         have f54 := condT f34; clear f34
         cases f54
         exact ⟨_, _, rfl, ⟨rfl, rfl⟩, (H.sel [] rfl).close trivial⟩
       ·
        have f55 := condT f32; clear f32
        cases f55
        exact ⟨_, _, rfl, ⟨rfl, rfl⟩, (H.sel [] rfl).close trivial⟩
      ·
       have f56 := condT f20; clear f20
       cases f56
       exact ⟨_, _, rfl, ⟨rfl, rfl⟩, (H.sel [] rfl).close trivial⟩
    ·
     have f57 := condT f16; clear f16
     cases f57
     exact ⟨_, _, rfl, ⟨rfl, rfl⟩, (H.sel [] rfl).close trivial⟩
   ·
    have f58 := condT f7; clear f7
    cases f58
    exact ⟨_, _, rfl, ⟨rfl, rfl⟩, (H.sel [] rfl).close trivial⟩
 ·
  have f59 := condT f0; clear f0
  cases f59
  exact ⟨_, _, rfl, ⟨rfl, rfl⟩, (H.sel [] rfl).close trivial⟩
end Go.Proofs.YtalmpcgbghnhpaaGreatDoor
