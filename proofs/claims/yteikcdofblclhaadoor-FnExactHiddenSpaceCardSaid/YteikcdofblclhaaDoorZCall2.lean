/-
  Contracts, printed by a program (wip/y/gen.py): each function of Go computes its partial function. Condition of each: its partial function yields a value.
-/
import Derived.Test.YteikcdofblclhaaDoorZCall
namespace Go.Proofs.YteikcdofblclhaaDoor
open Go Go.Proofs.YteikcdofblclhaaDoor.RW
set_option maxRecDepth 100000
set_option linter.unusedVariables false

theorem impl_StateSpace_hidden_c (s__0 : Int) (s__1 : Int) (s__2 : Int) (s__3 : List (List Int)) (s__3h : Hd) (s__4 : List (List Int)) (s__4h : Hd) (s__5 : List (List Int)) (s__5h : Hd) (s__6 : List (List Int)) (s__6h : Hd) (p_ : Int) (y : List (List Int)) (hF : F_impl_StateSpace_hidden (s__0, s__1, s__2, s__3, s__4, s__5, s__6) p_ = some y) :
    ConF Tryd.prog 115 #[(.agg #[(.int .i64 s__0), (.int .i64 s__1), (.int .i64 s__2), (s__3h).v, (s__4h).v, (s__5h).v, (s__6h).v]), (.int .i64 p_)] [Es (List (List Int)) s__3 s__3h, Es (List (List Int)) s__4 s__4h, Es (List (List Int)) s__5 s__5h, Es (List (List Int)) s__6 s__6h] [] (fun v Γ' => ∃ z0 : Hd, v = (z0).v ∧ Γ' = [E (List (List Int)) y z0]) := by
  intro w0 S0 fp0 hI hS
  have H : Cx w0 fp0 S0 w0 [Es (List (List Int)) s__3 s__3h, Es (List (List Int)) s__4 s__4h, Es (List (List Int)) s__5 s__5h, Es (List (List Int)) s__6 s__6h] := Cx.start hI hS
  clear hI hS
  refine enterC (args := [_, _]) gok Tryd.func115 rfl _ rfl rfl rfl ?_
  refine box_ H ?_; clear H; intro b6 w5 hx H
  clear hx
  replace H : Cx w0 fp0 S0 w5 [Bx b6 [(.int .i64 s__0), (.int .i64 s__1), (.int .i64 s__2), (s__3h).v, (s__4h).v, (s__5h).v, (s__6h).v], Es (List (List Int)) s__3 s__3h, Es (List (List Int)) s__4 s__4h, Es (List (List Int)) s__5 s__5h, Es (List (List Int)) s__6 s__6h] := H
  refine fld gok rfl rfl rfl rfl ?_
  refine load1 (H.bx 0 rfl (j := 0) rfl) ?_
  obtain ⟨a8, e, hF9⟩ := bindS hF; clear hF
  refine make_ (α := List Int) gok rfl rfl rfl rfl (makeCO_of e) H ?_; clear e H; intro h11 w10 hx H
  clear hx
  refine fld gok rfl rfl rfl rfl ?_
  refine load1 (H.bx 1 rfl (j := 5) rfl) ?_
  obtain ⟨y13, e, hF14⟩ := bindS hF9; clear hF9
  have ey13 := e; clear e
  refine callF (impl_clones_c s__5 s__5h y13 ey13) (Γi := []) H ⟨Vw.sh 4 rfl, trivial⟩ ?_; clear H ey13
  rintro _ _ w15 ⟨h16, rfl, rfl⟩ (H : Cx w0 fp0 S0 w15 [E (List (List Int)) y13 h16, E (List (List Int)) a8 h11, Bx b6 [(.int .i64 s__0), (.int .i64 s__1), (.int .i64 s__2), (s__3h).v, (s__4h).v, (s__5h).v, (s__6h).v], Es (List (List Int)) s__3 s__3h, Es (List (List Int)) s__4 s__4h, Es (List (List Int)) s__5 s__5h, Es (List (List Int)) s__6 s__6h])
  refine sq ?_
  refine fld gok rfl rfl rfl rfl ?_
  refine load1 (H.bx 2 rfl (j := 0) rfl) ?_
  replace H := H.frz
  obtain ⟨a450, hn, hF451⟩ := bindS hF14; clear hF14
  obtain ⟨r453, e, hF454⟩ := bindS hF451; clear hF451
  refine loopS _ s__0.toNat (fun (k18 : Nat) (s447 : List (List Int) × List (List Int)) (g448 : Hd) => [(1, (.int .i64 p_)), (2, (.pointer (some ⟨b6, 0, none⟩))), (5, (h11).v), (6, (g448).v), (15, (.int .i64 s__0)), (16, (.int .i64 ((k18 : Nat) : Int)))]) (fun _ (s447 : List (List Int) × List (List Int)) (g448 : Hd) w' => Cx w0 fp0 S0 w' [Bx b6 [(.int .i64 s__0), (.int .i64 s__1), (.int .i64 s__2), (s__3h).v, (s__4h).v, (s__5h).v, (s__6h).v], Es (List (List Int)) s__3 s__3h, Es (List (List Int)) s__4 s__4h, Es (List (List Int)) s__5 s__5h, Es (List (List Int)) s__6 s__6h, E (List (List Int)) s447.1 h11, Es (List (List Int)) s447.2 g448]) (a8, y13) h16 e ⟨rfl, rfl, rfl, rfl, rfl, rfl, trivial⟩ (H.sel [2, 3, 4, 5, 6, 1, 0] rfl) ?_ ?_
  · clear H e
    rintro T456 k18 ⟨s447_0, s447_1⟩ g448 w455 o457 hk (H : Cx w0 fp0 S0 w455 [Bx b6 [(.int .i64 s__0), (.int .i64 s__1), (.int .i64 s__2), (s__3h).v, (s__4h).v, (s__5h).v, (s__6h).v], Es (List (List Int)) s__3 s__3h, Es (List (List Int)) s__4 s__4h, Es (List (List Int)) s__5 s__5h, Es (List (List Int)) s__6 s__6h, E (List (List Int)) s447_0 h11, Es (List (List Int)) s447_1 g448]) hF458
    refine boolE (z := true) (ltNat hk) ?_
    refine sq ?_
    refine sq ?_
    refine sq ?_
    refine lenE (H.ro (α := List (List Int)) 5 rfl).len ?_
    have hmx536 := (H.ro (α := List (List Int)) 5 rfl).max
    obtain ⟨r537, e, hF538⟩ := bindS hF458; clear hF458
    refine loopS _ s447_0.length (fun (k459 : Nat) (s534 : List (List Int)) (_ : Unit) => [(1, (.int .i64 p_)), (2, (.pointer (some ⟨b6, 0, none⟩))), (5, (h11).v), (6, (g448).v), (15, (.int .i64 s__0)), (16, (.int .i64 ((k18 : Nat) : Int))), (19, (.int .i64 ((s447_0.length : Nat) : Int))), (20, (.int .i64 ((k459 : Nat) : Int)))]) (fun _ (s534 : List (List Int)) (_ : Unit) w' => Cx w0 fp0 S0 w' [Bx b6 [(.int .i64 s__0), (.int .i64 s__1), (.int .i64 s__2), (s__3h).v, (s__4h).v, (s__5h).v, (s__6h).v], Es (List (List Int)) s__3 s__3h, Es (List (List Int)) s__4 s__4h, Es (List (List Int)) s__5 s__5h, Es (List (List Int)) s__6 s__6h, E (List (List Int)) s534 h11, Es (List (List Int)) s447_1 g448]) s447_0 () e ⟨rfl, rfl, rfl, rfl, rfl, rfl, rfl, rfl, trivial⟩ (H.sel [0, 1, 2, 3, 4, 5, 6] rfl) ?_ ?_
    · clear H e
      rintro T540 k459 s534 _ w539 o541 hk (H : Cx w0 fp0 S0 w539 [Bx b6 [(.int .i64 s__0), (.int .i64 s__1), (.int .i64 s__2), (s__3h).v, (s__4h).v, (s__5h).v, (s__6h).v], Es (List (List Int)) s__3 s__3h, Es (List (List Int)) s__4 s__4h, Es (List (List Int)) s__5 s__5h, Es (List (List Int)) s__6 s__6h, E (List (List Int)) s534 h11, Es (List (List Int)) s447_1 g448]) hF542
      refine boolE (z := true) (ltLen hk) ?_
      refine sq ?_
      refine sq ?_
      refine heldX H [10, 12, 11, 0, 1] (.pure 0 (.pure 1 (.fst 2 (.fst 3 (.fst 4 (.fst 6 (.fst 7 (.fst 8 (.fst 5 (.fst 9 (.act 10 (.act 11 (.act 12 .done))))))))))))) mixed [] trivial (by kernel_rfl) ?_
      clear H; intro w543 H
      have hX : Ext w543 w543 := Upd.refl _ _
      have H0 := H
      obtain ⟨a550, e, hF551⟩ := bindS hF542; clear hF542
      replace H := H.sel [5, 0, 1, 2, 3, 4, 6] rfl
      replace H := H.toEH (α := List Int)
      have HH := H; clear H; obtain ⟨p548, m549, h552, c544, c545, c546, c547, H⟩ := HH.peekL e; clear HH
      clear e
      refine idxE c544 c545 c546 ?_
      obtain ⟨a559, e, hF560⟩ := bindS hF551; clear hF551
      have HH := H; clear H; obtain ⟨p557, m558, h561, c553, c554, c555, c556, H⟩ := HH.elL 6 rfl e; clear HH
      clear e
      refine idxE c553 c554 c555 ?_; clear c553 c554 c555
      refine load1X c547 ?_; clear c547
      refine load1X c556 ?_; clear c556
      replace H := H.sel [1, 0, 2, 3, 4, 5, 6, 7] rfl
      replace H := H.takeK 0 rfl
      obtain ⟨a564, e, hF565⟩ := bindS hF560; clear hF560
      refine appendS (α := Int) gok rfl rfl rfl rfl H (Vw.sh 1 rfl) e ?_; clear e H; intro h567 w566 H
      refine hold trivial ?_
      refine idxE c544 c545 c546 ?_
      refine hold trivial ?_
      replace H := H.sel [1, 0, 2, 3, 4, 5, 6, 7, 8] rfl
      refine stX0 H c544 rfl rfl ?_; clear H; intro w575 H
      obtain ⟨a576, e, hF577⟩ := bindS hF565; clear hF565
      replace H := H.sel [1, 0, 2, 3, 4, 5, 6, 7, 8] rfl
      replace H := H.put c545 e; clear e
      refine hold trivial ?_
      refine arK hk hmx536 ?_
      have hs := Option.some.inj hF577; subst hs; clear hF577
      exact ⟨(), ⟨rfl, rfl, rfl, rfl, rfl, rfl, rfl, rfl, trivial⟩, H.sel [2, 3, 4, 5, 6, 0, 7] rfl⟩
    · clear H e
      rintro T579 _ w578 (H : Cx w0 fp0 S0 w578 [Bx b6 [(.int .i64 s__0), (.int .i64 s__1), (.int .i64 s__2), (s__3h).v, (s__4h).v, (s__5h).v, (s__6h).v], Es (List (List Int)) s__3 s__3h, Es (List (List Int)) s__4 s__4h, Es (List (List Int)) s__5 s__5h, Es (List (List Int)) s__6 s__6h, E (List (List Int)) r537 h11, Es (List (List Int)) s447_1 g448])
      refine boolE (z := false) geLen ?_
      refine sq ?_
      refine fld gok rfl rfl rfl rfl ?_
      refine load1 (H.bx 0 rfl (j := 3) rfl) ?_
      refine fld gok rfl rfl rfl rfl ?_
      refine load1 (H.bx 0 rfl (j := 2) rfl) ?_
      obtain ⟨y582, e, hF583⟩ := bindS hF538; clear hF538
      have ey582 := e; clear e
      refine callF (impl_product_c p_ s__3 s__3h s447_1 g448 s__2 y582 ey582) (Γi := []) H ⟨Vw.sh 1 rfl, Vw.sh 6 rfl, trivial⟩ ?_; clear H ey582
      rintro _ _ w584 ⟨h585, rfl, rfl⟩ (H : Cx w0 fp0 S0 w584 [E (List (List Int)) y582 h585, Bx b6 [(.int .i64 s__0), (.int .i64 s__1), (.int .i64 s__2), (s__3h).v, (s__4h).v, (s__5h).v, (s__6h).v], Es (List (List Int)) s__3 s__3h, Es (List (List Int)) s__4 s__4h, Es (List (List Int)) s__5 s__5h, Es (List (List Int)) s__6 s__6h, E (List (List Int)) r537 h11, Es (List (List Int)) s447_1 g448])
      refine arK hk (maxI hn) ?_
      replace H := H.frz
      have hs := Option.some.inj hF583; subst hs; clear hF583
      exact ⟨h585, ⟨rfl, rfl, rfl, rfl, rfl, rfl, trivial⟩, H.sel [1, 2, 3, 4, 5, 6, 0] rfl⟩
  · clear H e
    obtain ⟨s589_0, s589_1⟩ := r453
    rintro T588 g590 w587 (H : Cx w0 fp0 S0 w587 [Bx b6 [(.int .i64 s__0), (.int .i64 s__1), (.int .i64 s__2), (s__3h).v, (s__4h).v, (s__5h).v, (s__6h).v], Es (List (List Int)) s__3 s__3h, Es (List (List Int)) s__4 s__4h, Es (List (List Int)) s__5 s__5h, Es (List (List Int)) s__6 s__6h, E (List (List Int)) s589_0 h11, Es (List (List Int)) s589_1 g590])
    refine boolE (z := false) geNat ?_
    refine sq ?_
    refine fld gok rfl rfl rfl rfl ?_
    refine load1 (H.bx 0 rfl (j := 0) rfl) ?_
    refine fld gok rfl rfl rfl rfl ?_
    refine load1 (H.bx 0 rfl (j := 2) rfl) ?_
    obtain ⟨a592, e, hF593⟩ := bindS hF454; clear hF454
    refine arO e ?_; clear e
    obtain ⟨y594, e, hF595⟩ := bindS hF593; clear hF593
    have ey594 := e; clear e
    refine callF (impl_kernel_c p_ s589_0 h11 a592 y594 ey594) (Γi := []) H ⟨Vw.own 5 rfl, trivial⟩ ?_; clear H ey594
    rintro _ _ w596 ⟨h597, rfl, rfl⟩ (H : Cx w0 fp0 S0 w596 [E (List (List Int)) y594 h597, Bx b6 [(.int .i64 s__0), (.int .i64 s__1), (.int .i64 s__2), (s__3h).v, (s__4h).v, (s__5h).v, (s__6h).v], Es (List (List Int)) s__3 s__3h, Es (List (List Int)) s__4 s__4h, Es (List (List Int)) s__5 s__5h, Es (List (List Int)) s__6 s__6h, E (List (List Int)) s589_0 h11, Es (List (List Int)) s589_1 g590])
    cases hF595
    exact ⟨_, _, rfl, ⟨h597, rfl, rfl⟩, (H.sel [0] rfl).close ⟨cloE, trivial⟩⟩

theorem impl_HiddenSpace_c (p_ : Int) (s__0 : Int) (s__1 : Int) (s__2 : Int) (s__3 : List (List Int)) (s__3h : Hd) (s__4 : List (List Int)) (s__4h : Hd) (s__5 : List (List Int)) (s__5h : Hd) (s__6 : List (List Int)) (s__6h : Hd) (y0_0 : Int) (y0_1 : List (List Int)) (y1 : Bool) (hF : F_impl_HiddenSpace p_ (s__0, s__1, s__2, s__3, s__4, s__5, s__6) = some ((y0_0, y0_1), y1)) :
    ConF Tryd.prog 53 #[(.int .i64 p_), (.agg #[(.int .i64 s__0), (.int .i64 s__1), (.int .i64 s__2), (s__3h).v, (s__4h).v, (s__5h).v, (s__6h).v])] [Es (List (List Int)) s__3 s__3h, Es (List (List Int)) s__4 s__4h, Es (List (List Int)) s__5 s__5h, Es (List (List Int)) s__6 s__6h, Gl 0 [.int .i64 2, .int .i64 3, .int .i64 5, .int .i64 7]] [] (fun v Γ' => ∃ z0 : Hd, v = (.tuple #[(.agg #[(.int .i64 y0_0), (z0).v]), (.bool y1)]) ∧ Γ' = [E (List (List Int)) y0_1 z0]) := by
  intro w0 S0 fp0 hI hS
  have H : Cx w0 fp0 S0 w0 [Es (List (List Int)) s__3 s__3h, Es (List (List Int)) s__4 s__4h, Es (List (List Int)) s__5 s__5h, Es (List (List Int)) s__6 s__6h, Gl 0 [.int .i64 2, .int .i64 3, .int .i64 5, .int .i64 7]] := Cx.start hI hS
  clear hI hS
  refine enterC (args := [_, _]) gok Tryd.func53 rfl _ rfl rfl rfl ?_
  refine box_ H ?_; clear H; intro b7 w6 hx H
  clear hx
  replace H : Cx w0 fp0 S0 w6 [Bx b7 [(.int .i64 s__0), (.int .i64 s__1), (.int .i64 s__2), (s__3h).v, (s__4h).v, (s__5h).v, (s__6h).v], Es (List (List Int)) s__3 s__3h, Es (List (List Int)) s__4 s__4h, Es (List (List Int)) s__5 s__5h, Es (List (List Int)) s__6 s__6h, Gl 0 [.int .i64 2, .int .i64 3, .int .i64 5, .int .i64 7]] := H
  refine alloc_ gok rfl H ?_; clear H; intro b10 w9 hx H
  clear hx
  replace H : Cx w0 fp0 S0 w9 [Bx b10 [(.int .i64 0), (.slice none 0 0)], Bx b7 [(.int .i64 s__0), (.int .i64 s__1), (.int .i64 s__2), (s__3h).v, (s__4h).v, (s__5h).v, (s__6h).v], Es (List (List Int)) s__3 s__3h, Es (List (List Int)) s__4 s__4h, Es (List (List Int)) s__5 s__5h, Es (List (List Int)) s__6 s__6h, Gl 0 [.int .i64 2, .int .i64 3, .int .i64 5, .int .i64 7]] := H
  refine sq ?_
  refine loadN [(.int .i64 s__0), (.int .i64 s__1), (.int .i64 s__2), (s__3h).v, (s__4h).v, (s__5h).v, (s__6h).v] rfl (fun j u hj => H.bx 1 rfl hj) ?_
  obtain ⟨y12, e, hF13⟩ := bindS hF; clear hF
  have ey12 := e; clear e
  refine callF (impl_isStateSpace_c p_ s__0 s__1 s__2 s__3 s__3h s__4 s__4h s__5 s__5h s__6 s__6h y12 ey12) (Γi := []) H ⟨Vw.sh 2 rfl, Vw.sh 3 rfl, Vw.sh 4 rfl, Vw.sh 5 rfl, Vw.gl 6 rfl, trivial⟩ ?_; clear H ey12
  rintro _ _ w14 ⟨rfl, rfl⟩ (H : Cx w0 fp0 S0 w14 [Bx b10 [(.int .i64 0), (.slice none 0 0)], Bx b7 [(.int .i64 s__0), (.int .i64 s__1), (.int .i64 s__2), (s__3h).v, (s__4h).v, (s__5h).v, (s__6h).v], Es (List (List Int)) s__3 s__3h, Es (List (List Int)) s__4 s__4h, Es (List (List Int)) s__5 s__5h, Es (List (List Int)) s__6 s__6h, Gl 0 [.int .i64 2, .int .i64 3, .int .i64 5, .int .i64 7]])
  obtain ⟨a15, e, hF16⟩ := bindS hF13; clear hF13
  refine boolO e ?_; clear e
  cases a15
  · have hF17 := condF hF16; clear hF16
    refine heldX H [6, 7] (.fst 0 (.fst 3 (.fst 1 (.fst 2 (.act 4 (.fst 5 (.act 6 (.act 7 .done)))))))) mixed [] trivial (by kernel_rfl) ?_
    clear H; intro w18 H
    have hX : Ext w18 w18 := Upd.refl _ _
    have H0 := H
    refine anyH (fun _ => fld gok rfl rfl rfl rfl ⟨rfl, rfl⟩) ?_
    refine load1X (H.bx 1 rfl (j := 0) rfl) ?_
    refine loadNX [(.int .i64 s__0), (.int .i64 s__1), (.int .i64 s__2), (s__3h).v, (s__4h).v, (s__5h).v, (s__6h).v] rfl (fun j u hj => H.bx 1 rfl hj) ?_
    obtain ⟨y19, e, hF20⟩ := bindS hF17; clear hF17
    have ey19 := e; clear e
    refine callFx (impl_StateSpace_hidden_c s__0 s__1 s__2 s__3 s__3h s__4 s__4h s__5 s__5h s__6 s__6h p_ y19 ey19) H ⟨Vw.sh 2 rfl, Vw.sh 3 rfl, Vw.sh 4 rfl, Vw.sh 5 rfl, trivial⟩ ?_; clear H ey19
    rintro _ _ w21 ⟨h22, rfl, rfl⟩ hx (H : Cx w0 fp0 S0 w21 [E (List (List Int)) y19 h22, Bx b10 [(.int .i64 0), (.slice none 0 0)], Bx b7 [(.int .i64 s__0), (.int .i64 s__1), (.int .i64 s__2), (s__3h).v, (s__4h).v, (s__5h).v, (s__6h).v], Es (List (List Int)) s__3 s__3h, Es (List (List Int)) s__4 s__4h, Es (List (List Int)) s__5 s__5h, Es (List (List Int)) s__6 s__6h, Gl 0 [.int .i64 2, .int .i64 3, .int .i64 5, .int .i64 7]])
    replace hX := hX.trans0 hx; clear hx
    refine hold hX ?_
    refine anyH (fun _ => build_ (cs := #[(.int .i64 s__0), (h22).v]) gok rfl rfl rfl ⟨rfl, rfl⟩) ?_
    replace H := H.sel [1, 0, 2, 3, 4, 5, 6, 7] rfl
    refine stA gok [(.int .i64 s__0), (h22).v] rfl H rfl rfl rfl ?_; clear H; intro w24 H
    replace H : Cx w0 fp0 S0 w24 [Bx b10 [(.int .i64 s__0), (h22).v], E (List (List Int)) y19 h22, Bx b7 [(.int .i64 s__0), (.int .i64 s__1), (.int .i64 s__2), (s__3h).v, (s__4h).v, (s__5h).v, (s__6h).v], Es (List (List Int)) s__3 s__3h, Es (List (List Int)) s__4 s__4h, Es (List (List Int)) s__5 s__5h, Es (List (List Int)) s__6 s__6h, Gl 0 [.int .i64 2, .int .i64 3, .int .i64 5, .int .i64 7]] := H
    refine hold trivial ?_
    refine hold trivial ?_
    refine loadN [(.int .i64 s__0), (h22).v] rfl (fun j u hj => H.bx 0 rfl hj) ?_
    cases hF20
    exact ⟨_, _, rfl, ⟨h22, rfl, rfl⟩, (H.sel [1] rfl).close ⟨cloE, trivial⟩⟩
  · have hF25 := condT hF16; clear hF16
    refine build_ (cs := #[(.int .i64 0), (.slice none 0 0)]) gok rfl rfl rfl ?_
    refine stA gok [(.int .i64 0), (.slice none 0 0)] rfl H rfl rfl rfl ?_; clear H; intro w26 H
    replace H : Cx w0 fp0 S0 w26 [Bx b10 [(.int .i64 0), (.slice none 0 0)], Bx b7 [(.int .i64 s__0), (.int .i64 s__1), (.int .i64 s__2), (s__3h).v, (s__4h).v, (s__5h).v, (s__6h).v], Es (List (List Int)) s__3 s__3h, Es (List (List Int)) s__4 s__4h, Es (List (List Int)) s__5 s__5h, Es (List (List Int)) s__6 s__6h, Gl 0 [.int .i64 2, .int .i64 3, .int .i64 5, .int .i64 7]] := H
    refine loadN [(.int .i64 0), (.slice none 0 0)] rfl (fun j u hj => H.bx 0 rfl hj) ?_
    replace H := H.nil (α := List Int)
    cases hF25
    exact ⟨_, _, rfl, ⟨nilH, rfl, rfl⟩, (H.sel [0] rfl).close ⟨cloE, trivial⟩⟩

theorem laws_eqIntS_c (a_ : List Int) (a_h : Hd) (b_ : List Int) (b_h : Hd) (y : Bool) (hF : F_laws_eqIntS a_ b_ = some y) :
    ConF Tryd.prog 35 #[(a_h).v, (b_h).v] [Es (List Int) a_ a_h, Es (List Int) b_ b_h] [] (fun v Γ' => v = (.bool y) ∧ Γ' = []) := by
  intro w0 S0 fp0 hI hS
  have H : Cx w0 fp0 S0 w0 [Es (List Int) a_ a_h, Es (List Int) b_ b_h] := Cx.start hI hS
  clear hI hS
  refine enterC (args := [_, _]) gok Tryd.func35 rfl _ rfl rfl rfl ?_
  refine sq ?_
  refine lenE (H.rs (α := List Int) 0 rfl).len ?_
  refine lenE (H.rs (α := List Int) 1 rfl).len ?_
  obtain ⟨a3, e, hF4⟩ := bindS hF; clear hF
  refine boolO e ?_; clear e
  cases a3
  · have hF5 := condF hF4; clear hF4
    obtain ⟨r104, hF106, hF105⟩ := bindS hF5; clear hF5
    refine cut (fun (q107 : Unit) => []) (fun (q107 : Unit) w' => .inl () = r104 ∧ Cx w0 fp0 S0 w' []) ?_ ?_
    · skip
      refine loopW _ (fun (s166 : Int) (_ : Unit) => [(0, (a_h).v), (1, (b_h).v), (5, (.int .i64 s166))]) (fun (s166 : Int) (_ : Unit) w' => Cx w0 fp0 S0 w' [Es (List Int) a_ a_h, Es (List Int) b_ b_h]) 0 () hF106 ⟨rfl, rfl, rfl, trivial⟩ (H.sel [0, 1] rfl) ?_
      · clear H
        rintro T172 s166 _ w171 o173 (H : Cx w0 fp0 S0 w171 [Es (List Int) a_ a_h, Es (List Int) b_ b_h]) hrt hF174
        refine sq ?_
        refine lenE (H.rs (α := List Int) 0 rfl).len ?_
        obtain ⟨a175, e, hF176⟩ := bindS hF174; clear hF174
        refine boolO e ?_; clear e
        cases a175
        · have hF177 := condF hF176; clear hF176
          have hs := Option.some.inj hF177; subst hs; clear hF177
          have hF178 : some _ = some _ := congrArg some (hrt _ rfl).symm
          exact ⟨(), trivial, Option.some.inj hF178, H.sel [] rfl⟩
        · have hF179 := condT hF176; clear hF176
          refine sq ?_
          refine heldX H [] (.fst 0 (.fst 1 (.fst 2 (.fst 4 (.fst 5 (.fst 6 (.fst 3 (.fst 7 (.fst 8 .done))))))))) mixed [] trivial (by kernel_rfl) ?_
          clear H; intro w180 H
          have hX : Ext w180 w180 := Upd.refl _ _
          have H0 := H
          obtain ⟨a187, e, hF188⟩ := bindS hF179; clear hF179
          obtain ⟨p185, m186, c181, c182, c183, c184⟩ := (H.rs (α := List Int) 0 rfl).at1 e; clear e
          refine idxE c181 c182 c183 ?_; clear c181 c182 c183
          obtain ⟨a195, e, hF196⟩ := bindS hF188; clear hF188
          obtain ⟨p193, m194, c189, c190, c191, c192⟩ := (H.rs (α := List Int) 1 rfl).at1 e; clear e
          refine idxE c189 c190 c191 ?_; clear c189 c190 c191
          refine load1X c184 ?_; clear c184
          refine load1X c192 ?_; clear c192
          obtain ⟨a197, e, hF198⟩ := bindS hF196; clear hF196
          refine boolO e ?_; clear e
          cases a197
          · have hF199 := condF hF198; clear hF198
            obtain ⟨a200, e, hF201⟩ := bindS hF199; clear hF199
            refine arO e ?_; clear e
            have hs := Option.some.inj hF201; subst hs; clear hF201
            exact ⟨a200, (), rfl, ⟨rfl, rfl, rfl, trivial⟩, H.sel [0, 1] rfl⟩
          · have hF202 := condT hF198; clear hF198
            have hs := Option.some.inj hF202; subst hs; clear hF202
            have hF203 : some _ = some _ := congrArg some (hrt _ rfl).symm
            have hs := Option.some.inj hF203; subst hs; clear hF203
            have hF204 : some _ = some _ := hF105; clear hF105
            cases hF204
            exact ⟨_, _, rfl, ⟨rfl, rfl⟩, (H.sel [] rfl).close trivial⟩
    · clear hF106 H
      rintro T206 _ w205 ⟨hr, (H : Cx w0 fp0 S0 w205 [])⟩
      subst hr
      cases hF105
      exact ⟨_, _, rfl, ⟨rfl, rfl⟩, (H.sel [] rfl).close trivial⟩
  · have hF207 := condT hF4; clear hF4
    cases hF207
    exact ⟨_, _, rfl, ⟨rfl, rfl⟩, (H.sel [] rfl).close trivial⟩

theorem laws_eqIntSS_c (a_ : List (List Int)) (a_h : Hd) (b_ : List (List Int)) (b_h : Hd) (y : Bool) (hF : F_laws_eqIntSS a_ b_ = some y) :
    ConF Tryd.prog 75 #[(a_h).v, (b_h).v] [Es (List (List Int)) a_ a_h, Es (List (List Int)) b_ b_h] [] (fun v Γ' => v = (.bool y) ∧ Γ' = []) := by
  intro w0 S0 fp0 hI hS
  have H : Cx w0 fp0 S0 w0 [Es (List (List Int)) a_ a_h, Es (List (List Int)) b_ b_h] := Cx.start hI hS
  clear hI hS
  refine enterC (args := [_, _]) gok Tryd.func75 rfl _ rfl rfl rfl ?_
  refine sq ?_
  refine lenE (H.rs (α := List (List Int)) 0 rfl).len ?_
  refine lenE (H.rs (α := List (List Int)) 1 rfl).len ?_
  obtain ⟨a3, e, hF4⟩ := bindS hF; clear hF
  refine boolO e ?_; clear e
  cases a3
  · have hF5 := condF hF4; clear hF4
    obtain ⟨r125, hF127, hF126⟩ := bindS hF5; clear hF5
    refine cut (fun (q128 : Unit) => []) (fun (q128 : Unit) w' => .inl () = r125 ∧ Cx w0 fp0 S0 w' []) ?_ ?_
    · skip
      refine loopW _ (fun (s201 : Int) (_ : Unit) => [(0, (a_h).v), (1, (b_h).v), (5, (.int .i64 s201))]) (fun (s201 : Int) (_ : Unit) w' => Cx w0 fp0 S0 w' [Es (List (List Int)) a_ a_h, Es (List (List Int)) b_ b_h]) 0 () hF127 ⟨rfl, rfl, rfl, trivial⟩ (H.sel [0, 1] rfl) ?_
      · clear H
        rintro T207 s201 _ w206 o208 (H : Cx w0 fp0 S0 w206 [Es (List (List Int)) a_ a_h, Es (List (List Int)) b_ b_h]) hrt hF209
        refine sq ?_
        refine lenE (H.rs (α := List (List Int)) 0 rfl).len ?_
        obtain ⟨a210, e, hF211⟩ := bindS hF209; clear hF209
        refine boolO e ?_; clear e
        cases a210
        · have hF212 := condF hF211; clear hF211
          have hs := Option.some.inj hF212; subst hs; clear hF212
          have hF213 : some _ = some _ := congrArg some (hrt _ rfl).symm
          exact ⟨(), trivial, Option.some.inj hF213, H.sel [] rfl⟩
        · have hF214 := condT hF211; clear hF211
          refine sq ?_
          refine heldX H [] (.fst 0 (.fst 1 (.fst 2 (.fst 4 (.fst 5 (.fst 6 (.fst 3 (.fst 7 (.act 8 (.fst 9 .done)))))))))) mixed [] trivial (by kernel_rfl) ?_
          clear H; intro w215 H
          have hX : Ext w215 w215 := Upd.refl _ _
          have H0 := H
          obtain ⟨a222, e, hF223⟩ := bindS hF214; clear hF214
          have HH := H; clear H; obtain ⟨p220, m221, h224, c216, c217, c218, c219, H⟩ := HH.elL 0 rfl e; clear HH
          clear e
          refine idxE c216 c217 c218 ?_; clear c216 c217 c218
          obtain ⟨a232, e, hF233⟩ := bindS hF223; clear hF223
          have HH := H; clear H; obtain ⟨p230, m231, h234, c226, c227, c228, c229, H⟩ := HH.elL 2 rfl e; clear HH
          clear e
          refine idxE c226 c227 c228 ?_; clear c226 c227 c228
          refine load1X c219 ?_; clear c219
          refine load1X c229 ?_; clear c229
          obtain ⟨y236, e, hF237⟩ := bindS hF233; clear hF233
          have ey236 := e; clear e
          refine callFx (laws_eqIntS_c a222 h224 a232 h234 y236 ey236) H ⟨Vw.sh 1 rfl, Vw.sh 0 rfl, trivial⟩ ?_; clear H ey236
          rintro _ _ w238 ⟨rfl, rfl⟩ hx (H : Cx w0 fp0 S0 w238 [Es (List Int) a232 h234, Es (List Int) a222 h224, Es (List (List Int)) a_ a_h, Es (List (List Int)) b_ b_h])
          replace hX := hX.trans0 hx; clear hx
          refine hold hX ?_
          obtain ⟨a239, e, hF240⟩ := bindS hF237; clear hF237
          refine boolO e ?_; clear e
          cases a239
          · have hF241 := condF hF240; clear hF240
            obtain ⟨a242, e, hF243⟩ := bindS hF241; clear hF241
            refine arO e ?_; clear e
            have hs := Option.some.inj hF243; subst hs; clear hF243
            exact ⟨a242, (), rfl, ⟨rfl, rfl, rfl, trivial⟩, H.sel [2, 3] rfl⟩
          · have hF244 := condT hF240; clear hF240
            have hs := Option.some.inj hF244; subst hs; clear hF244
            have hF245 : some _ = some _ := congrArg some (hrt _ rfl).symm
            have hs := Option.some.inj hF245; subst hs; clear hF245
            have hF246 : some _ = some _ := hF126; clear hF126
            cases hF246
            exact ⟨_, _, rfl, ⟨rfl, rfl⟩, (H.sel [] rfl).close trivial⟩
    · clear hF127 H
      rintro T248 _ w247 ⟨hr, (H : Cx w0 fp0 S0 w247 [])⟩
      subst hr
      cases hF126
      exact ⟨_, _, rfl, ⟨rfl, rfl⟩, (H.sel [] rfl).close trivial⟩
  · have hF249 := condT hF4; clear hF4
    cases hF249
    exact ⟨_, _, rfl, ⟨rfl, rfl⟩, (H.sel [] rfl).close trivial⟩

theorem laws_eqSpace_c (a__0 : Int) (a__1 : List (List Int)) (a__1h : Hd) (b__0 : Int) (b__1 : List (List Int)) (b__1h : Hd) (y : Bool) (hF : F_laws_eqSpace (a__0, a__1) (b__0, b__1) = some y) :
    ConF Tryd.prog 25 #[(.agg #[(.int .i64 a__0), (a__1h).v]), (.agg #[(.int .i64 b__0), (b__1h).v])] [Es (List (List Int)) a__1 a__1h, Es (List (List Int)) b__1 b__1h] [] (fun v Γ' => v = (.bool y) ∧ Γ' = []) := by
  intro w0 S0 fp0 hI hS
  have H : Cx w0 fp0 S0 w0 [Es (List (List Int)) a__1 a__1h, Es (List (List Int)) b__1 b__1h] := Cx.start hI hS
  clear hI hS
  refine enterC (args := [_, _]) gok Tryd.func25 rfl _ rfl rfl rfl ?_
  refine box_ H ?_; clear H; intro b4 w3 hx H
  clear hx
  replace H : Cx w0 fp0 S0 w3 [Bx b4 [(.int .i64 a__0), (a__1h).v], Es (List (List Int)) a__1 a__1h, Es (List (List Int)) b__1 b__1h] := H
  refine box_ H ?_; clear H; intro b7 w6 hx H
  clear hx
  replace H : Cx w0 fp0 S0 w6 [Bx b7 [(.int .i64 b__0), (b__1h).v], Bx b4 [(.int .i64 a__0), (a__1h).v], Es (List (List Int)) a__1 a__1h, Es (List (List Int)) b__1 b__1h] := H
  refine sq ?_
  refine fld gok rfl rfl rfl rfl ?_
  refine load1 (H.bx 1 rfl (j := 0) rfl) ?_
  refine fld gok rfl rfl rfl rfl ?_
  refine load1 (H.bx 0 rfl (j := 0) rfl) ?_
  obtain ⟨a9, e, hF10⟩ := bindS hF; clear hF
  refine boolO e ?_; clear e
  cases a9
  · have hF11 := condF hF10; clear hF10
    refine sq ?_
    refine fld gok rfl rfl rfl rfl ?_
    refine load1 (H.bx 1 rfl (j := 1) rfl) ?_
    refine fld gok rfl rfl rfl rfl ?_
    refine load1 (H.bx 0 rfl (j := 1) rfl) ?_
    obtain ⟨y12, e, hF13⟩ := bindS hF11; clear hF11
    have ey12 := e; clear e
    refine callF (laws_eqIntSS_c a__1 a__1h b__1 b__1h y12 ey12) (Γi := []) H ⟨Vw.sh 2 rfl, Vw.sh 3 rfl, trivial⟩ ?_; clear H ey12
    rintro _ _ w14 ⟨rfl, rfl⟩ (H : Cx w0 fp0 S0 w14 [Bx b7 [(.int .i64 b__0), (b__1h).v], Bx b4 [(.int .i64 a__0), (a__1h).v], Es (List (List Int)) a__1 a__1h, Es (List (List Int)) b__1 b__1h])
    obtain ⟨a15, e, hF16⟩ := bindS hF13; clear hF13
    refine boolO e ?_; clear e
    cases a15
    · have hF17 := condF hF16; clear hF16
      cases hF17
      exact ⟨_, _, rfl, ⟨rfl, rfl⟩, (H.sel [] rfl).close trivial⟩
    · have hF18 := condT hF16; clear hF16
      cases hF18
      exact ⟨_, _, rfl, ⟨rfl, rfl⟩, (H.sel [] rfl).close trivial⟩
  · have hF19 := condT hF10; clear hF10
    cases hF19
    exact ⟨_, _, rfl, ⟨rfl, rfl⟩, (H.sel [] rfl).close trivial⟩

theorem laws_eqStateSpace_c (a__0 : Int) (a__1 : Int) (a__2 : Int) (a__3 : List (List Int)) (a__3h : Hd) (a__4 : List (List Int)) (a__4h : Hd) (a__5 : List (List Int)) (a__5h : Hd) (a__6 : List (List Int)) (a__6h : Hd) (b__0 : Int) (b__1 : Int) (b__2 : Int) (b__3 : List (List Int)) (b__3h : Hd) (b__4 : List (List Int)) (b__4h : Hd) (b__5 : List (List Int)) (b__5h : Hd) (b__6 : List (List Int)) (b__6h : Hd) (y : Bool) (hF : F_laws_eqStateSpace (a__0, a__1, a__2, a__3, a__4, a__5, a__6) (b__0, b__1, b__2, b__3, b__4, b__5, b__6) = some y) :
    ConF Tryd.prog 21 #[(.agg #[(.int .i64 a__0), (.int .i64 a__1), (.int .i64 a__2), (a__3h).v, (a__4h).v, (a__5h).v, (a__6h).v]), (.agg #[(.int .i64 b__0), (.int .i64 b__1), (.int .i64 b__2), (b__3h).v, (b__4h).v, (b__5h).v, (b__6h).v])] [Es (List (List Int)) a__3 a__3h, Es (List (List Int)) a__4 a__4h, Es (List (List Int)) a__5 a__5h, Es (List (List Int)) a__6 a__6h, Es (List (List Int)) b__3 b__3h, Es (List (List Int)) b__4 b__4h, Es (List (List Int)) b__5 b__5h, Es (List (List Int)) b__6 b__6h] [] (fun v Γ' => v = (.bool y) ∧ Γ' = []) := by
  intro w0 S0 fp0 hI hS
  have H : Cx w0 fp0 S0 w0 [Es (List (List Int)) a__3 a__3h, Es (List (List Int)) a__4 a__4h, Es (List (List Int)) a__5 a__5h, Es (List (List Int)) a__6 a__6h, Es (List (List Int)) b__3 b__3h, Es (List (List Int)) b__4 b__4h, Es (List (List Int)) b__5 b__5h, Es (List (List Int)) b__6 b__6h] := Cx.start hI hS
  clear hI hS
  refine enterC (args := [_, _]) gok Tryd.func21 rfl _ rfl rfl rfl ?_
  refine box_ H ?_; clear H; intro b10 w9 hx H
  clear hx
  replace H : Cx w0 fp0 S0 w9 [Bx b10 [(.int .i64 a__0), (.int .i64 a__1), (.int .i64 a__2), (a__3h).v, (a__4h).v, (a__5h).v, (a__6h).v], Es (List (List Int)) a__3 a__3h, Es (List (List Int)) a__4 a__4h, Es (List (List Int)) a__5 a__5h, Es (List (List Int)) a__6 a__6h, Es (List (List Int)) b__3 b__3h, Es (List (List Int)) b__4 b__4h, Es (List (List Int)) b__5 b__5h, Es (List (List Int)) b__6 b__6h] := H
  refine box_ H ?_; clear H; intro b13 w12 hx H
  clear hx
  replace H : Cx w0 fp0 S0 w12 [Bx b13 [(.int .i64 b__0), (.int .i64 b__1), (.int .i64 b__2), (b__3h).v, (b__4h).v, (b__5h).v, (b__6h).v], Bx b10 [(.int .i64 a__0), (.int .i64 a__1), (.int .i64 a__2), (a__3h).v, (a__4h).v, (a__5h).v, (a__6h).v], Es (List (List Int)) a__3 a__3h, Es (List (List Int)) a__4 a__4h, Es (List (List Int)) a__5 a__5h, Es (List (List Int)) a__6 a__6h, Es (List (List Int)) b__3 b__3h, Es (List (List Int)) b__4 b__4h, Es (List (List Int)) b__5 b__5h, Es (List (List Int)) b__6 b__6h] := H
  refine sq ?_
  refine fld gok rfl rfl rfl rfl ?_
  refine load1 (H.bx 1 rfl (j := 0) rfl) ?_
  refine fld gok rfl rfl rfl rfl ?_
  refine load1 (H.bx 0 rfl (j := 0) rfl) ?_
  obtain ⟨a15, e, hF16⟩ := bindS hF; clear hF
  refine boolO e ?_; clear e
  cases a15
  · have hF17 := condF hF16; clear hF16
    refine sq ?_
    refine fld gok rfl rfl rfl rfl ?_
    refine load1 (H.bx 1 rfl (j := 1) rfl) ?_
    refine fld gok rfl rfl rfl rfl ?_
    refine load1 (H.bx 0 rfl (j := 1) rfl) ?_
    obtain ⟨a18, e, hF19⟩ := bindS hF17; clear hF17
    refine boolO e ?_; clear e
    cases a18
    · have hF20 := condF hF19; clear hF19
      refine sq ?_
      refine fld gok rfl rfl rfl rfl ?_
      refine load1 (H.bx 1 rfl (j := 2) rfl) ?_
      refine fld gok rfl rfl rfl rfl ?_
      refine load1 (H.bx 0 rfl (j := 2) rfl) ?_
      obtain ⟨a21, e, hF22⟩ := bindS hF20; clear hF20
      refine boolO e ?_; clear e
      cases a21
      · have hF23 := condF hF22; clear hF22
        refine sq ?_
        refine fld gok rfl rfl rfl rfl ?_
        refine load1 (H.bx 1 rfl (j := 3) rfl) ?_
        refine fld gok rfl rfl rfl rfl ?_
        refine load1 (H.bx 0 rfl (j := 3) rfl) ?_
        obtain ⟨y24, e, hF25⟩ := bindS hF23; clear hF23
        have ey24 := e; clear e
        refine callF (laws_eqIntSS_c a__3 a__3h b__3 b__3h y24 ey24) (Γi := []) H ⟨Vw.sh 2 rfl, Vw.sh 6 rfl, trivial⟩ ?_; clear H ey24
        rintro _ _ w26 ⟨rfl, rfl⟩ (H : Cx w0 fp0 S0 w26 [Bx b13 [(.int .i64 b__0), (.int .i64 b__1), (.int .i64 b__2), (b__3h).v, (b__4h).v, (b__5h).v, (b__6h).v], Bx b10 [(.int .i64 a__0), (.int .i64 a__1), (.int .i64 a__2), (a__3h).v, (a__4h).v, (a__5h).v, (a__6h).v], Es (List (List Int)) a__3 a__3h, Es (List (List Int)) a__4 a__4h, Es (List (List Int)) a__5 a__5h, Es (List (List Int)) a__6 a__6h, Es (List (List Int)) b__3 b__3h, Es (List (List Int)) b__4 b__4h, Es (List (List Int)) b__5 b__5h, Es (List (List Int)) b__6 b__6h])
        obtain ⟨a27, e, hF28⟩ := bindS hF25; clear hF25
        refine boolO e ?_; clear e
        cases a27
        · have hF29 := condF hF28; clear hF28
          refine sq ?_
          refine fld gok rfl rfl rfl rfl ?_
          refine load1 (H.bx 1 rfl (j := 4) rfl) ?_
          refine fld gok rfl rfl rfl rfl ?_
          refine load1 (H.bx 0 rfl (j := 4) rfl) ?_
          obtain ⟨y30, e, hF31⟩ := bindS hF29; clear hF29
          have ey30 := e; clear e
          refine callF (laws_eqIntSS_c a__4 a__4h b__4 b__4h y30 ey30) (Γi := []) H ⟨Vw.sh 3 rfl, Vw.sh 7 rfl, trivial⟩ ?_; clear H ey30
          rintro _ _ w32 ⟨rfl, rfl⟩ (H : Cx w0 fp0 S0 w32 [Bx b13 [(.int .i64 b__0), (.int .i64 b__1), (.int .i64 b__2), (b__3h).v, (b__4h).v, (b__5h).v, (b__6h).v], Bx b10 [(.int .i64 a__0), (.int .i64 a__1), (.int .i64 a__2), (a__3h).v, (a__4h).v, (a__5h).v, (a__6h).v], Es (List (List Int)) a__3 a__3h, Es (List (List Int)) a__4 a__4h, Es (List (List Int)) a__5 a__5h, Es (List (List Int)) a__6 a__6h, Es (List (List Int)) b__3 b__3h, Es (List (List Int)) b__4 b__4h, Es (List (List Int)) b__5 b__5h, Es (List (List Int)) b__6 b__6h])
          obtain ⟨a33, e, hF34⟩ := bindS hF31; clear hF31
          refine boolO e ?_; clear e
          cases a33
          · have hF35 := condF hF34; clear hF34
            refine sq ?_
            refine fld gok rfl rfl rfl rfl ?_
            refine load1 (H.bx 1 rfl (j := 5) rfl) ?_
            refine fld gok rfl rfl rfl rfl ?_
            refine load1 (H.bx 0 rfl (j := 5) rfl) ?_
            obtain ⟨y36, e, hF37⟩ := bindS hF35; clear hF35
            have ey36 := e; clear e
            refine callF (laws_eqIntSS_c a__5 a__5h b__5 b__5h y36 ey36) (Γi := []) H ⟨Vw.sh 4 rfl, Vw.sh 8 rfl, trivial⟩ ?_; clear H ey36
            rintro _ _ w38 ⟨rfl, rfl⟩ (H : Cx w0 fp0 S0 w38 [Bx b13 [(.int .i64 b__0), (.int .i64 b__1), (.int .i64 b__2), (b__3h).v, (b__4h).v, (b__5h).v, (b__6h).v], Bx b10 [(.int .i64 a__0), (.int .i64 a__1), (.int .i64 a__2), (a__3h).v, (a__4h).v, (a__5h).v, (a__6h).v], Es (List (List Int)) a__3 a__3h, Es (List (List Int)) a__4 a__4h, Es (List (List Int)) a__5 a__5h, Es (List (List Int)) a__6 a__6h, Es (List (List Int)) b__3 b__3h, Es (List (List Int)) b__4 b__4h, Es (List (List Int)) b__5 b__5h, Es (List (List Int)) b__6 b__6h])
            obtain ⟨a39, e, hF40⟩ := bindS hF37; clear hF37
            refine boolO e ?_; clear e
            cases a39
            · have hF41 := condF hF40; clear hF40
              refine sq ?_
              refine fld gok rfl rfl rfl rfl ?_
              refine load1 (H.bx 1 rfl (j := 6) rfl) ?_
              refine fld gok rfl rfl rfl rfl ?_
              refine load1 (H.bx 0 rfl (j := 6) rfl) ?_
              obtain ⟨y42, e, hF43⟩ := bindS hF41; clear hF41
              have ey42 := e; clear e
              refine callF (laws_eqIntSS_c a__6 a__6h b__6 b__6h y42 ey42) (Γi := []) H ⟨Vw.sh 5 rfl, Vw.sh 9 rfl, trivial⟩ ?_; clear H ey42
              rintro _ _ w44 ⟨rfl, rfl⟩ (H : Cx w0 fp0 S0 w44 [Bx b13 [(.int .i64 b__0), (.int .i64 b__1), (.int .i64 b__2), (b__3h).v, (b__4h).v, (b__5h).v, (b__6h).v], Bx b10 [(.int .i64 a__0), (.int .i64 a__1), (.int .i64 a__2), (a__3h).v, (a__4h).v, (a__5h).v, (a__6h).v], Es (List (List Int)) a__3 a__3h, Es (List (List Int)) a__4 a__4h, Es (List (List Int)) a__5 a__5h, Es (List (List Int)) a__6 a__6h, Es (List (List Int)) b__3 b__3h, Es (List (List Int)) b__4 b__4h, Es (List (List Int)) b__5 b__5h, Es (List (List Int)) b__6 b__6h])
              obtain ⟨a45, e, hF46⟩ := bindS hF43; clear hF43
              refine boolO e ?_; clear e
              cases a45
              · have hF47 := condF hF46; clear hF46
                cases hF47
                exact ⟨_, _, rfl, ⟨rfl, rfl⟩, (H.sel [] rfl).close trivial⟩
              · have hF48 := condT hF46; clear hF46
                cases hF48
                exact ⟨_, _, rfl, ⟨rfl, rfl⟩, (H.sel [] rfl).close trivial⟩
            · have hF49 := condT hF40; clear hF40
              cases hF49
              exact ⟨_, _, rfl, ⟨rfl, rfl⟩, (H.sel [] rfl).close trivial⟩
          · have hF50 := condT hF34; clear hF34
            cases hF50
            exact ⟨_, _, rfl, ⟨rfl, rfl⟩, (H.sel [] rfl).close trivial⟩
        · have hF51 := condT hF28; clear hF28
          cases hF51
          exact ⟨_, _, rfl, ⟨rfl, rfl⟩, (H.sel [] rfl).close trivial⟩
      · have hF52 := condT hF22; clear hF22
        cases hF52
        exact ⟨_, _, rfl, ⟨rfl, rfl⟩, (H.sel [] rfl).close trivial⟩
    · have hF53 := condT hF19; clear hF19
      cases hF53
      exact ⟨_, _, rfl, ⟨rfl, rfl⟩, (H.sel [] rfl).close trivial⟩
  · have hF54 := condT hF16; clear hF16
    cases hF54
    exact ⟨_, _, rfl, ⟨rfl, rfl⟩, (H.sel [] rfl).close trivial⟩

theorem laws_markIntS_c (a_ : List Int) (a_h : Hd) (k_ : Int) (y0 : List Int) (y1 : Int) (hF : F_laws_markIntS a_ k_ = some (y0, y1)) :
    ConF Tryd.prog 37 #[(a_h).v, (.int .i64 k_)] [] [E (List Int) a_ a_h] (fun v Γ' => v = (.int .i64 y1) ∧ Γ' = [E (List Int) y0 a_h]) := by
  intro w0 S0 fp0 hI hS
  have H : Cx w0 fp0 S0 w0 [E (List Int) a_ a_h] := Cx.start hI hS
  clear hI hS
  refine enterC (args := [_, _]) gok Tryd.func37 rfl _ rfl rfl rfl ?_
  obtain ⟨r69, hF71, hF70⟩ := bindS hF; clear hF
  refine cut (fun (q72 : List Int × Int) => [(1, (.int .i64 q72.2))]) (fun (q72 : List Int × Int) w' => (q72.1, q72.2) = r69 ∧ Cx w0 fp0 S0 w' [E (List Int) q72.1 a_h]) ?_ ?_
  · skip
    refine loopW _ (fun (s111 : List Int × Int × Int) (_ : Unit) => [(0, (a_h).v), (1, (.int .i64 s111.2.1)), (5, (.int .i64 s111.2.2))]) (fun (s111 : List Int × Int × Int) (_ : Unit) w' => Cx w0 fp0 S0 w' [E (List Int) s111.1 a_h]) (a_, k_, 0) () hF71 ⟨rfl, rfl, rfl, trivial⟩ (H.sel [0] rfl) ?_
    · clear H
      rintro T117 ⟨s111_0, s111_1, s111_2⟩ _ w116 o118 (H : Cx w0 fp0 S0 w116 [E (List Int) s111_0 a_h]) hrt hF119
      refine sq ?_
      refine lenE (H.ro (α := List Int) 0 rfl).len ?_
      obtain ⟨a120, e, hF121⟩ := bindS hF119; clear hF119
      refine boolO e ?_; clear e
      cases a120
      · have hF122 := condF hF121; clear hF121
        have hs := Option.some.inj hF122; subst hs; clear hF122
        have hF123 : some _ = some _ := congrArg some (hrt _ rfl).symm
        exact ⟨(s111_0, s111_1), ⟨rfl, trivial⟩, Option.some.inj hF123, H.sel [0] rfl⟩
      · have hF124 := condT hF121; clear hF121
        refine sq ?_
        obtain ⟨a131, e, hF132⟩ := bindS hF124; clear hF124
        have ea131 := e; clear e
        obtain ⟨p129, m130, c125, c126, c127⟩ := (H.ro (α := List Int) 0 rfl).setp ea131
        refine idxE c125 c126 c127 ?_
        refine setS (α := Int) H c125 c126 ea131 ?_; clear H c125 c126 c127 ea131; intro w133 H
        obtain ⟨a134, e, hF135⟩ := bindS hF132; clear hF132
        refine arO e ?_; clear e
        obtain ⟨a136, e, hF137⟩ := bindS hF135; clear hF135
        refine arO e ?_; clear e
        have hs := Option.some.inj hF137; subst hs; clear hF137
        exact ⟨(a131, a134, a136), (), rfl, ⟨rfl, rfl, rfl, trivial⟩, H.sel [0] rfl⟩
  · clear hF71 H
    rintro T139 ⟨s67_0, s67_1⟩ w138 ⟨hr, (H : Cx w0 fp0 S0 w138 [E (List Int) s67_0 a_h])⟩
    subst hr
    cases hF70
    exact ⟨_, _, rfl, ⟨rfl, rfl⟩, (H.sel [0] rfl).close ⟨cloE, trivial⟩⟩

theorem laws_markIntSS_c (a_ : List (List Int)) (a_h : Hd) (k_ : Int) (y0 : List (List Int)) (y1 : Int) (hF : F_laws_markIntSS a_ k_ = some (y0, y1)) :
    ConF Tryd.prog 78 #[(a_h).v, (.int .i64 k_)] [] [E (List (List Int)) a_ a_h] (fun v Γ' => v = (.int .i64 y1) ∧ Γ' = [E (List (List Int)) y0 a_h]) := by
  intro w0 S0 fp0 hI hS
  have H : Cx w0 fp0 S0 w0 [E (List (List Int)) a_ a_h] := Cx.start hI hS
  clear hI hS
  refine enterC (args := [_, _]) gok Tryd.func78 rfl _ rfl rfl rfl ?_
  obtain ⟨r81, hF83, hF82⟩ := bindS hF; clear hF
  refine cut (fun (q84 : List (List Int) × Int) => [(1, (.int .i64 q84.2))]) (fun (q84 : List (List Int) × Int) w' => (q84.1, q84.2) = r81 ∧ Cx w0 fp0 S0 w' [E (List (List Int)) q84.1 a_h]) ?_ ?_
  · skip
    refine loopW _ (fun (s131 : List (List Int) × Int × Int) (_ : Unit) => [(0, (a_h).v), (1, (.int .i64 s131.2.1)), (5, (.int .i64 s131.2.2))]) (fun (s131 : List (List Int) × Int × Int) (_ : Unit) w' => Cx w0 fp0 S0 w' [E (List (List Int)) s131.1 a_h]) (a_, k_, 0) () hF83 ⟨rfl, rfl, rfl, trivial⟩ (H.sel [0] rfl) ?_
    · clear H
      rintro T137 ⟨s131_0, s131_1, s131_2⟩ _ w136 o138 (H : Cx w0 fp0 S0 w136 [E (List (List Int)) s131_0 a_h]) hrt hF139
      refine sq ?_
      refine lenE (H.ro (α := List (List Int)) 0 rfl).len ?_
      obtain ⟨a140, e, hF141⟩ := bindS hF139; clear hF139
      refine boolO e ?_; clear e
      cases a140
      · have hF142 := condF hF141; clear hF141
        have hs := Option.some.inj hF142; subst hs; clear hF142
        have hF143 : some _ = some _ := congrArg some (hrt _ rfl).symm
        exact ⟨(s131_0, s131_1), ⟨rfl, trivial⟩, Option.some.inj hF143, H.sel [0] rfl⟩
      · have hF144 := condT hF141; clear hF141
        refine sq ?_
        obtain ⟨a151, e, hF152⟩ := bindS hF144; clear hF144
        replace H := H.toEH (α := List Int)
        have HH := H; clear H; obtain ⟨p149, m150, h153, c145, c146, c147, c148, H⟩ := HH.peekL e; clear HH
        clear e
        refine idxE c145 c146 c147 ?_
        refine load1 c148 ?_; clear c148
        obtain ⟨y154, e, hF155⟩ := bindS hF152; clear hF152
        obtain ⟨y154_0, y154_1⟩ := y154
        have ey154 := e; clear e
        replace H := H.takeK 0 rfl
        refine callF (laws_markIntS_c a151 h153 s131_1 y154_0 y154_1 ey154) (Γi := [E (List Int) a151 h153]) H trivial ?_; clear H ey154
        rintro _ _ w157 ⟨rfl, rfl⟩ (H : Cx w0 fp0 S0 w157 [E (List Int) y154_0 h153, EX (List Int) m150 [(h153).v] s131_0 a_h])
        obtain ⟨a158, e, hF159⟩ := bindS hF155; clear hF155
        replace H := H.put c146 e; clear e
        obtain ⟨a160, e, hF161⟩ := bindS hF159; clear hF159
        refine arO e ?_; clear e
        have hs := Option.some.inj hF161; subst hs; clear hF161
        exact ⟨(a158, y154_1, a160), (), rfl, ⟨rfl, rfl, rfl, trivial⟩, H.sel [0] rfl⟩
  · clear hF83 H
    rintro T163 ⟨s79_0, s79_1⟩ w162 ⟨hr, (H : Cx w0 fp0 S0 w162 [E (List (List Int)) s79_0 a_h])⟩
    subst hr
    cases hF82
    exact ⟨_, _, rfl, ⟨rfl, rfl⟩, (H.sel [0] rfl).close ⟨cloE, trivial⟩⟩

theorem laws_markStateSpace_c (a__0 : Int) (a__1 : Int) (a__2 : Int) (a__3 : List (List Int)) (a__3h : Hd) (a__4 : List (List Int)) (a__4h : Hd) (a__5 : List (List Int)) (a__5h : Hd) (a__6 : List (List Int)) (a__6h : Hd) (k_ : Int) (y0_0 : Int) (y0_1 : Int) (y0_2 : Int) (y0_3 : List (List Int)) (y0_4 : List (List Int)) (y0_5 : List (List Int)) (y0_6 : List (List Int)) (y1 : Int) (hF : F_laws_markStateSpace (a__0, a__1, a__2, a__3, a__4, a__5, a__6) k_ = some ((y0_0, y0_1, y0_2, y0_3, y0_4, y0_5, y0_6), y1)) :
    ConF Tryd.prog 26 #[(.agg #[(.int .i64 a__0), (.int .i64 a__1), (.int .i64 a__2), (a__3h).v, (a__4h).v, (a__5h).v, (a__6h).v]), (.int .i64 k_)] [] [E (List (List Int)) a__3 a__3h, E (List (List Int)) a__4 a__4h, E (List (List Int)) a__5 a__5h, E (List (List Int)) a__6 a__6h] (fun v Γ' => v = (.int .i64 y1) ∧ Γ' = [E (List (List Int)) y0_3 a__3h, E (List (List Int)) y0_4 a__4h, E (List (List Int)) y0_5 a__5h, E (List (List Int)) y0_6 a__6h]) := by
  intro w0 S0 fp0 hI hS
  have H : Cx w0 fp0 S0 w0 [E (List (List Int)) a__3 a__3h, E (List (List Int)) a__4 a__4h, E (List (List Int)) a__5 a__5h, E (List (List Int)) a__6 a__6h] := Cx.start hI hS
  clear hI hS
  refine enterC (args := [_, _]) gok Tryd.func26 rfl _ rfl rfl rfl ?_
  refine box_ H ?_; clear H; intro b6 w5 hx H
  clear hx
  replace H : Cx w0 fp0 S0 w5 [Bx b6 [(.int .i64 a__0), (.int .i64 a__1), (.int .i64 a__2), (a__3h).v, (a__4h).v, (a__5h).v, (a__6h).v], E (List (List Int)) a__3 a__3h, E (List (List Int)) a__4 a__4h, E (List (List Int)) a__5 a__5h, E (List (List Int)) a__6 a__6h] := H
  refine fld gok rfl rfl rfl rfl ?_
  refine load1 (H.bx 0 rfl (j := 3) rfl) ?_
  obtain ⟨y8, e, hF9⟩ := bindS hF; clear hF
  obtain ⟨y8_0, y8_1⟩ := y8
  have ey8 := e; clear e
  replace H := H.sel [1, 0, 2, 3, 4] rfl
  refine callF (laws_markIntSS_c a__3 a__3h k_ y8_0 y8_1 ey8) (Γi := [E (List (List Int)) a__3 a__3h]) H trivial ?_; clear H ey8
  rintro _ _ w10 ⟨rfl, rfl⟩ (H : Cx w0 fp0 S0 w10 [E (List (List Int)) y8_0 a__3h, Bx b6 [(.int .i64 a__0), (.int .i64 a__1), (.int .i64 a__2), (a__3h).v, (a__4h).v, (a__5h).v, (a__6h).v], E (List (List Int)) a__4 a__4h, E (List (List Int)) a__5 a__5h, E (List (List Int)) a__6 a__6h])
  refine fld gok rfl rfl rfl rfl ?_
  refine load1 (H.bx 1 rfl (j := 4) rfl) ?_
  obtain ⟨y11, e, hF12⟩ := bindS hF9; clear hF9
  obtain ⟨y11_0, y11_1⟩ := y11
  have ey11 := e; clear e
  replace H := H.sel [2, 0, 1, 3, 4] rfl
  refine callF (laws_markIntSS_c a__4 a__4h y8_1 y11_0 y11_1 ey11) (Γi := [E (List (List Int)) a__4 a__4h]) H trivial ?_; clear H ey11
  rintro _ _ w13 ⟨rfl, rfl⟩ (H : Cx w0 fp0 S0 w13 [E (List (List Int)) y11_0 a__4h, E (List (List Int)) y8_0 a__3h, Bx b6 [(.int .i64 a__0), (.int .i64 a__1), (.int .i64 a__2), (a__3h).v, (a__4h).v, (a__5h).v, (a__6h).v], E (List (List Int)) a__5 a__5h, E (List (List Int)) a__6 a__6h])
  refine fld gok rfl rfl rfl rfl ?_
  refine load1 (H.bx 2 rfl (j := 5) rfl) ?_
  obtain ⟨y14, e, hF15⟩ := bindS hF12; clear hF12
  obtain ⟨y14_0, y14_1⟩ := y14
  have ey14 := e; clear e
  replace H := H.sel [3, 0, 1, 2, 4] rfl
  refine callF (laws_markIntSS_c a__5 a__5h y11_1 y14_0 y14_1 ey14) (Γi := [E (List (List Int)) a__5 a__5h]) H trivial ?_; clear H ey14
  rintro _ _ w16 ⟨rfl, rfl⟩ (H : Cx w0 fp0 S0 w16 [E (List (List Int)) y14_0 a__5h, E (List (List Int)) y11_0 a__4h, E (List (List Int)) y8_0 a__3h, Bx b6 [(.int .i64 a__0), (.int .i64 a__1), (.int .i64 a__2), (a__3h).v, (a__4h).v, (a__5h).v, (a__6h).v], E (List (List Int)) a__6 a__6h])
  refine fld gok rfl rfl rfl rfl ?_
  refine load1 (H.bx 3 rfl (j := 6) rfl) ?_
  obtain ⟨y17, e, hF18⟩ := bindS hF15; clear hF15
  obtain ⟨y17_0, y17_1⟩ := y17
  have ey17 := e; clear e
  replace H := H.sel [4, 0, 1, 2, 3] rfl
  refine callF (laws_markIntSS_c a__6 a__6h y14_1 y17_0 y17_1 ey17) (Γi := [E (List (List Int)) a__6 a__6h]) H trivial ?_; clear H ey17
  rintro _ _ w19 ⟨rfl, rfl⟩ (H : Cx w0 fp0 S0 w19 [E (List (List Int)) y17_0 a__6h, E (List (List Int)) y14_0 a__5h, E (List (List Int)) y11_0 a__4h, E (List (List Int)) y8_0 a__3h, Bx b6 [(.int .i64 a__0), (.int .i64 a__1), (.int .i64 a__2), (a__3h).v, (a__4h).v, (a__5h).v, (a__6h).v]])
  cases hF18
  exact ⟨_, _, rfl, ⟨rfl, rfl⟩, (H.sel [3, 2, 1, 0] rfl).close ⟨cloE, cloE, cloE, cloE, trivial⟩⟩

theorem laws_markSpace_c (a__0 : Int) (a__1 : List (List Int)) (a__1h : Hd) (k_ : Int) (y0_0 : Int) (y0_1 : List (List Int)) (y1 : Int) (hF : F_laws_markSpace (a__0, a__1) k_ = some ((y0_0, y0_1), y1)) :
    ConF Tryd.prog 27 #[(.agg #[(.int .i64 a__0), (a__1h).v]), (.int .i64 k_)] [] [E (List (List Int)) a__1 a__1h] (fun v Γ' => v = (.int .i64 y1) ∧ Γ' = [E (List (List Int)) y0_1 a__1h]) := by
  intro w0 S0 fp0 hI hS
  have H : Cx w0 fp0 S0 w0 [E (List (List Int)) a__1 a__1h] := Cx.start hI hS
  clear hI hS
  refine enterC (args := [_, _]) gok Tryd.func27 rfl _ rfl rfl rfl ?_
  refine box_ H ?_; clear H; intro b3 w2 hx H
  clear hx
  replace H : Cx w0 fp0 S0 w2 [Bx b3 [(.int .i64 a__0), (a__1h).v], E (List (List Int)) a__1 a__1h] := H
  refine fld gok rfl rfl rfl rfl ?_
  refine load1 (H.bx 0 rfl (j := 1) rfl) ?_
  obtain ⟨y5, e, hF6⟩ := bindS hF; clear hF
  obtain ⟨y5_0, y5_1⟩ := y5
  have ey5 := e; clear e
  replace H := H.sel [1, 0] rfl
  refine callF (laws_markIntSS_c a__1 a__1h k_ y5_0 y5_1 ey5) (Γi := [E (List (List Int)) a__1 a__1h]) H trivial ?_; clear H ey5
  rintro _ _ w7 ⟨rfl, rfl⟩ (H : Cx w0 fp0 S0 w7 [E (List (List Int)) y5_0 a__1h, Bx b3 [(.int .i64 a__0), (a__1h).v]])
  cases hF6
  exact ⟨_, _, rfl, ⟨rfl, rfl⟩, (H.sel [0] rfl).close ⟨cloE, trivial⟩⟩

theorem laws_heldIntS_c (a_ : List Int) (a_h : Hd) (k_ : Int) (y : Int) (hF : F_laws_heldIntS a_ k_ = some y) :
    ConF Tryd.prog 45 #[(a_h).v, (.int .i64 k_)] [Es (List Int) a_ a_h] [] (fun v Γ' => v = (.int .i64 y) ∧ Γ' = []) := by
  intro w0 S0 fp0 hI hS
  have H : Cx w0 fp0 S0 w0 [Es (List Int) a_ a_h] := Cx.start hI hS
  clear hI hS
  refine enterC (args := [_, _]) gok Tryd.func45 rfl _ rfl rfl rfl ?_
  obtain ⟨r79, hF81, hF80⟩ := bindS hF; clear hF
  refine cut (fun (q82 : Int) => [(1, (.int .i64 q82))]) (fun (q82 : Int) w' => .inl q82 = r79 ∧ Cx w0 fp0 S0 w' []) ?_ ?_
  · skip
    refine loopW _ (fun (s127 : Int × Int) (_ : Unit) => [(0, (a_h).v), (1, (.int .i64 s127.1)), (5, (.int .i64 s127.2))]) (fun (s127 : Int × Int) (_ : Unit) w' => Cx w0 fp0 S0 w' [Es (List Int) a_ a_h]) (k_, 0) () hF81 ⟨rfl, rfl, rfl, trivial⟩ (H.sel [0] rfl) ?_
    · clear H
      rintro T133 ⟨s127_0, s127_1⟩ _ w132 o134 (H : Cx w0 fp0 S0 w132 [Es (List Int) a_ a_h]) hrt hF135
      refine sq ?_
      refine lenE (H.rs (α := List Int) 0 rfl).len ?_
      obtain ⟨a136, e, hF137⟩ := bindS hF135; clear hF135
      refine boolO e ?_; clear e
      cases a136
      · have hF138 := condF hF137; clear hF137
        have hs := Option.some.inj hF138; subst hs; clear hF138
        have hF139 : some _ = some _ := congrArg some (hrt _ rfl).symm
        exact ⟨s127_0, ⟨rfl, trivial⟩, Option.some.inj hF139, H.sel [] rfl⟩
      · have hF140 := condT hF137; clear hF137
        refine sq ?_
        refine sq ?_
        obtain ⟨a147, e, hF148⟩ := bindS hF140; clear hF140
        obtain ⟨p145, m146, c141, c142, c143, c144⟩ := (H.rs (α := List Int) 0 rfl).at1 e; clear e
        refine idxE c141 c142 c143 ?_; clear c141 c142 c143
        refine load1 c144 ?_; clear c144
        obtain ⟨a149, e, hF150⟩ := bindS hF148; clear hF148
        refine boolO e ?_; clear e
        cases a149
        · have hF151 := condF hF150; clear hF150
          obtain ⟨a152, e, hF153⟩ := bindS hF151; clear hF151
          refine arO e ?_; clear e
          obtain ⟨a154, e, hF155⟩ := bindS hF153; clear hF153
          refine arO e ?_; clear e
          have hs := Option.some.inj hF155; subst hs; clear hF155
          exact ⟨(a152, a154), (), rfl, ⟨rfl, rfl, rfl, trivial⟩, H.sel [0] rfl⟩
        · have hF156 := condT hF150; clear hF150
          have hs := Option.some.inj hF156; subst hs; clear hF156
          have hF157 : some _ = some _ := congrArg some (hrt _ rfl).symm
          have hs := Option.some.inj hF157; subst hs; clear hF157
          have hF158 : some _ = some _ := hF80; clear hF80
          cases hF158
          exact ⟨_, _, rfl, ⟨rfl, rfl⟩, (H.sel [] rfl).close trivial⟩
  · clear hF81 H
    rintro T160 s77 w159 ⟨hr, (H : Cx w0 fp0 S0 w159 [])⟩
    subst hr
    cases hF80
    exact ⟨_, _, rfl, ⟨rfl, rfl⟩, (H.sel [] rfl).close trivial⟩

theorem laws_heldIntSS_c (a_ : List (List Int)) (a_h : Hd) (k_ : Int) (y : Int) (hF : F_laws_heldIntSS a_ k_ = some y) :
    ConF Tryd.prog 79 #[(a_h).v, (.int .i64 k_)] [Es (List (List Int)) a_ a_h] [] (fun v Γ' => v = (.int .i64 y) ∧ Γ' = []) := by
  intro w0 S0 fp0 hI hS
  have H : Cx w0 fp0 S0 w0 [Es (List (List Int)) a_ a_h] := Cx.start hI hS
  clear hI hS
  refine enterC (args := [_, _]) gok Tryd.func79 rfl _ rfl rfl rfl ?_
  obtain ⟨r88, hF90, hF89⟩ := bindS hF; clear hF
  refine cut (fun (q91 : Int) => [(1, (.int .i64 q91))]) (fun (q91 : Int) w' => .inl q91 = r88 ∧ Cx w0 fp0 S0 w' []) ?_ ?_
  · skip
    refine loopW _ (fun (s142 : Int × Int) (_ : Unit) => [(0, (a_h).v), (1, (.int .i64 s142.1)), (5, (.int .i64 s142.2))]) (fun (s142 : Int × Int) (_ : Unit) w' => Cx w0 fp0 S0 w' [Es (List (List Int)) a_ a_h]) (k_, 0) () hF90 ⟨rfl, rfl, rfl, trivial⟩ (H.sel [0] rfl) ?_
    · clear H
      rintro T148 ⟨s142_0, s142_1⟩ _ w147 o149 (H : Cx w0 fp0 S0 w147 [Es (List (List Int)) a_ a_h]) hrt hF150
      refine sq ?_
      refine lenE (H.rs (α := List (List Int)) 0 rfl).len ?_
      obtain ⟨a151, e, hF152⟩ := bindS hF150; clear hF150
      refine boolO e ?_; clear e
      cases a151
      · have hF153 := condF hF152; clear hF152
        have hs := Option.some.inj hF153; subst hs; clear hF153
        have hF154 : some _ = some _ := congrArg some (hrt _ rfl).symm
        exact ⟨s142_0, ⟨rfl, trivial⟩, Option.some.inj hF154, H.sel [] rfl⟩
      · have hF155 := condT hF152; clear hF152
        refine sq ?_
        obtain ⟨a162, e, hF163⟩ := bindS hF155; clear hF155
        have HH := H; clear H; obtain ⟨p160, m161, h164, c156, c157, c158, c159, H⟩ := HH.elL 0 rfl e; clear HH
        clear e
        refine idxE c156 c157 c158 ?_; clear c156 c157 c158
        refine load1 c159 ?_; clear c159
        obtain ⟨y166, e, hF167⟩ := bindS hF163; clear hF163
        have ey166 := e; clear e
        refine callF (laws_heldIntS_c a162 h164 s142_0 y166 ey166) (Γi := []) H ⟨Vw.sh 0 rfl, trivial⟩ ?_; clear H ey166
        rintro _ _ w168 ⟨rfl, rfl⟩ (H : Cx w0 fp0 S0 w168 [Es (List Int) a162 h164, Es (List (List Int)) a_ a_h])
        obtain ⟨a169, e, hF170⟩ := bindS hF167; clear hF167
        refine boolO e ?_; clear e
        cases a169
        · have hF171 := condF hF170; clear hF170
          obtain ⟨a172, e, hF173⟩ := bindS hF171; clear hF171
          refine arO e ?_; clear e
          have hs := Option.some.inj hF173; subst hs; clear hF173
          exact ⟨(y166, a172), (), rfl, ⟨rfl, rfl, rfl, trivial⟩, H.sel [1] rfl⟩
        · have hF174 := condT hF170; clear hF170
          have hs := Option.some.inj hF174; subst hs; clear hF174
          have hF175 : some _ = some _ := congrArg some (hrt _ rfl).symm
          have hs := Option.some.inj hF175; subst hs; clear hF175
          have hF176 : some _ = some _ := hF89; clear hF89
          cases hF176
          exact ⟨_, _, rfl, ⟨rfl, rfl⟩, (H.sel [] rfl).close trivial⟩
  · clear hF90 H
    rintro T178 s86 w177 ⟨hr, (H : Cx w0 fp0 S0 w177 [])⟩
    subst hr
    cases hF89
    exact ⟨_, _, rfl, ⟨rfl, rfl⟩, (H.sel [] rfl).close trivial⟩

theorem laws_heldSpace_c (a__0 : Int) (a__1 : List (List Int)) (a__1h : Hd) (k_ : Int) (y : Int) (hF : F_laws_heldSpace (a__0, a__1) k_ = some y) :
    ConF Tryd.prog 28 #[(.agg #[(.int .i64 a__0), (a__1h).v]), (.int .i64 k_)] [Es (List (List Int)) a__1 a__1h] [] (fun v Γ' => v = (.int .i64 y) ∧ Γ' = []) := by
  intro w0 S0 fp0 hI hS
  have H : Cx w0 fp0 S0 w0 [Es (List (List Int)) a__1 a__1h] := Cx.start hI hS
  clear hI hS
  refine enterC (args := [_, _]) gok Tryd.func28 rfl _ rfl rfl rfl ?_
  refine box_ H ?_; clear H; intro b3 w2 hx H
  clear hx
  replace H : Cx w0 fp0 S0 w2 [Bx b3 [(.int .i64 a__0), (a__1h).v], Es (List (List Int)) a__1 a__1h] := H
  refine fld gok rfl rfl rfl rfl ?_
  refine load1 (H.bx 0 rfl (j := 1) rfl) ?_
  obtain ⟨y5, e, hF6⟩ := bindS hF; clear hF
  have ey5 := e; clear e
  refine callF (laws_heldIntSS_c a__1 a__1h k_ y5 ey5) (Γi := []) H ⟨Vw.sh 1 rfl, trivial⟩ ?_; clear H ey5
  rintro _ _ w7 ⟨rfl, rfl⟩ (H : Cx w0 fp0 S0 w7 [Bx b3 [(.int .i64 a__0), (a__1h).v], Es (List (List Int)) a__1 a__1h])
  refine sq ?_
  obtain ⟨a8, e, hF9⟩ := bindS hF6; clear hF6
  refine boolO e ?_; clear e
  cases a8
  · have hF10 := condF hF9; clear hF9
    cases hF10
    exact ⟨_, _, rfl, ⟨rfl, rfl⟩, (H.sel [] rfl).close trivial⟩
  · have hF11 := condT hF9; clear hF9
    cases hF11
    exact ⟨_, _, rfl, ⟨rfl, rfl⟩, (H.sel [] rfl).close trivial⟩

theorem laws_FnExactHiddenSpace_c (aP_ : Int) (aS__0 : Int) (aS__1 : Int) (aS__2 : Int) (aS__3 : List (List Int)) (aS__3h : Hd) (aS__4 : List (List Int)) (aS__4h : Hd) (aS__5 : List (List Int)) (aS__5h : Hd) (aS__6 : List (List Int)) (aS__6h : Hd) (y : Bool) (hF : F_laws_FnExactHiddenSpace aP_ (aS__0, aS__1, aS__2, aS__3, aS__4, aS__5, aS__6) = some y) :
    ConF Tryd.prog 10 #[(.int .i64 aP_), (.agg #[(.int .i64 aS__0), (.int .i64 aS__1), (.int .i64 aS__2), (aS__3h).v, (aS__4h).v, (aS__5h).v, (aS__6h).v])] [Es (List (List Int)) aS__3 aS__3h, Es (List (List Int)) aS__4 aS__4h, Es (List (List Int)) aS__5 aS__5h, Es (List (List Int)) aS__6 aS__6h, Gl 0 [.int .i64 2, .int .i64 3, .int .i64 5, .int .i64 7]] [] (fun v Γ' => v = (.bool y) ∧ Γ' = []) := by
  intro w0 S0 fp0 hI hS
  have H : Cx w0 fp0 S0 w0 [Es (List (List Int)) aS__3 aS__3h, Es (List (List Int)) aS__4 aS__4h, Es (List (List Int)) aS__5 aS__5h, Es (List (List Int)) aS__6 aS__6h, Gl 0 [.int .i64 2, .int .i64 3, .int .i64 5, .int .i64 7]] := Cx.start hI hS
  clear hI hS
  refine enterC (args := [_, _]) gok Tryd.func10 rfl _ rfl rfl rfl ?_
  refine box_ H ?_; clear H; intro b7 w6 hx H
  clear hx
  replace H : Cx w0 fp0 S0 w6 [Bx b7 [(.int .i64 aS__0), (.int .i64 aS__1), (.int .i64 aS__2), (aS__3h).v, (aS__4h).v, (aS__5h).v, (aS__6h).v], Es (List (List Int)) aS__3 aS__3h, Es (List (List Int)) aS__4 aS__4h, Es (List (List Int)) aS__5 aS__5h, Es (List (List Int)) aS__6 aS__6h, Gl 0 [.int .i64 2, .int .i64 3, .int .i64 5, .int .i64 7]] := H
  refine loadN [(.int .i64 aS__0), (.int .i64 aS__1), (.int .i64 aS__2), (aS__3h).v, (aS__4h).v, (aS__5h).v, (aS__6h).v] rfl (fun j u hj => H.bx 0 rfl hj) ?_
  obtain ⟨y9, e, hF10⟩ := bindS hF; clear hF
  have ey9 := e; clear e
  refine callF (laws_szStateSpace_c aS__0 aS__1 aS__2 aS__3 aS__3h aS__4 aS__4h aS__5 aS__5h aS__6 aS__6h 1048576 y9 ey9) (Γi := []) H ⟨Vw.sh 1 rfl, Vw.sh 2 rfl, Vw.sh 3 rfl, Vw.sh 4 rfl, trivial⟩ ?_; clear H ey9
  rintro _ _ w11 ⟨rfl, rfl⟩ (H : Cx w0 fp0 S0 w11 [Bx b7 [(.int .i64 aS__0), (.int .i64 aS__1), (.int .i64 aS__2), (aS__3h).v, (aS__4h).v, (aS__5h).v, (aS__6h).v], Es (List (List Int)) aS__3 aS__3h, Es (List (List Int)) aS__4 aS__4h, Es (List (List Int)) aS__5 aS__5h, Es (List (List Int)) aS__6 aS__6h, Gl 0 [.int .i64 2, .int .i64 3, .int .i64 5, .int .i64 7]])
  refine sq ?_
  obtain ⟨a12, e, hF13⟩ := bindS hF10; clear hF10
  refine boolO e ?_; clear e
  cases a12
  · have hF14 := condF hF13; clear hF13
    refine loadN [(.int .i64 aS__0), (.int .i64 aS__1), (.int .i64 aS__2), (aS__3h).v, (aS__4h).v, (aS__5h).v, (aS__6h).v] rfl (fun j u hj => H.bx 0 rfl hj) ?_
    obtain ⟨y15, e, hF16⟩ := bindS hF14; clear hF14
    obtain ⟨y15_0, y15_1, y15_2, y15_3, y15_4, y15_5, y15_6⟩ := y15
    have ey15 := e; clear e
    refine callF (laws_toStateSpace_c aS__0 aS__1 aS__2 aS__3 aS__3h aS__4 aS__4h aS__5 aS__5h aS__6 aS__6h y15_0 y15_1 y15_2 y15_3 y15_4 y15_5 y15_6 ey15) (Γi := []) H ⟨Vw.sh 1 rfl, Vw.sh 2 rfl, Vw.sh 3 rfl, Vw.sh 4 rfl, trivial⟩ ?_; clear H ey15
    rintro _ _ w17 ⟨h18, h20, h22, h24, rfl, rfl⟩ (H : Cx w0 fp0 S0 w17 [E (List (List Int)) y15_3 h18, E (List (List Int)) y15_4 h20, E (List (List Int)) y15_5 h22, E (List (List Int)) y15_6 h24, Bx b7 [(.int .i64 aS__0), (.int .i64 aS__1), (.int .i64 aS__2), (aS__3h).v, (aS__4h).v, (aS__5h).v, (aS__6h).v], Es (List (List Int)) aS__3 aS__3h, Es (List (List Int)) aS__4 aS__4h, Es (List (List Int)) aS__5 aS__5h, Es (List (List Int)) aS__6 aS__6h, Gl 0 [.int .i64 2, .int .i64 3, .int .i64 5, .int .i64 7]])
    obtain ⟨y26, e, hF27⟩ := bindS hF16; clear hF16
    obtain ⟨⟨y26_0_0, y26_0_1⟩, y26_1⟩ := y26
    have ey26 := e; clear e
    refine callF (spec_HiddenSpace_c aP_ y15_0 y15_1 y15_2 y15_3 h18 y15_4 h20 y15_5 h22 y15_6 h24 y26_0_0 y26_0_1 y26_1 ey26) (Γi := []) H ⟨Vw.own 0 rfl, Vw.own 1 rfl, Vw.own 2 rfl, Vw.own 3 rfl, trivial⟩ ?_; clear H ey26
    rintro _ _ w28 ⟨h29, rfl, rfl⟩ (H : Cx w0 fp0 S0 w28 [E (List (List Int)) y26_0_1 h29, E (List (List Int)) y15_3 h18, E (List (List Int)) y15_4 h20, E (List (List Int)) y15_5 h22, E (List (List Int)) y15_6 h24, Bx b7 [(.int .i64 aS__0), (.int .i64 aS__1), (.int .i64 aS__2), (aS__3h).v, (aS__4h).v, (aS__5h).v, (aS__6h).v], Es (List (List Int)) aS__3 aS__3h, Es (List (List Int)) aS__4 aS__4h, Es (List (List Int)) aS__5 aS__5h, Es (List (List Int)) aS__6 aS__6h, Gl 0 [.int .i64 2, .int .i64 3, .int .i64 5, .int .i64 7]])
    refine alloc_ gok rfl H ?_; clear H; intro b32 w31 hx H
    clear hx
    replace H : Cx w0 fp0 S0 w31 [Bx b32 [(.int .i64 0), (.slice none 0 0)], E (List (List Int)) y26_0_1 h29, E (List (List Int)) y15_3 h18, E (List (List Int)) y15_4 h20, E (List (List Int)) y15_5 h22, E (List (List Int)) y15_6 h24, Bx b7 [(.int .i64 aS__0), (.int .i64 aS__1), (.int .i64 aS__2), (aS__3h).v, (aS__4h).v, (aS__5h).v, (aS__6h).v], Es (List (List Int)) aS__3 aS__3h, Es (List (List Int)) aS__4 aS__4h, Es (List (List Int)) aS__5 aS__5h, Es (List (List Int)) aS__6 aS__6h, Gl 0 [.int .i64 2, .int .i64 3, .int .i64 5, .int .i64 7]] := H
    refine stA gok [(.int .i64 y26_0_0), (h29).v] rfl H rfl rfl rfl ?_; clear H; intro w34 H
    replace H : Cx w0 fp0 S0 w34 [Bx b32 [(.int .i64 y26_0_0), (h29).v], E (List (List Int)) y26_0_1 h29, E (List (List Int)) y15_3 h18, E (List (List Int)) y15_4 h20, E (List (List Int)) y15_5 h22, E (List (List Int)) y15_6 h24, Bx b7 [(.int .i64 aS__0), (.int .i64 aS__1), (.int .i64 aS__2), (aS__3h).v, (aS__4h).v, (aS__5h).v, (aS__6h).v], Es (List (List Int)) aS__3 aS__3h, Es (List (List Int)) aS__4 aS__4h, Es (List (List Int)) aS__5 aS__5h, Es (List (List Int)) aS__6 aS__6h, Gl 0 [.int .i64 2, .int .i64 3, .int .i64 5, .int .i64 7]] := H
    refine loadN [(.int .i64 aS__0), (.int .i64 aS__1), (.int .i64 aS__2), (aS__3h).v, (aS__4h).v, (aS__5h).v, (aS__6h).v] rfl (fun j u hj => H.bx 6 rfl hj) ?_
    obtain ⟨y35, e, hF36⟩ := bindS hF27; clear hF27
    obtain ⟨y35_0, y35_1, y35_2, y35_3, y35_4, y35_5, y35_6⟩ := y35
    have ey35 := e; clear e
    refine callF (laws_toStateSpace_c aS__0 aS__1 aS__2 aS__3 aS__3h aS__4 aS__4h aS__5 aS__5h aS__6 aS__6h y35_0 y35_1 y35_2 y35_3 y35_4 y35_5 y35_6 ey35) (Γi := []) H ⟨Vw.sh 7 rfl, Vw.sh 8 rfl, Vw.sh 9 rfl, Vw.sh 10 rfl, trivial⟩ ?_; clear H ey35
    rintro _ _ w37 ⟨h38, h40, h42, h44, rfl, rfl⟩ (H : Cx w0 fp0 S0 w37 [E (List (List Int)) y35_3 h38, E (List (List Int)) y35_4 h40, E (List (List Int)) y35_5 h42, E (List (List Int)) y35_6 h44, Bx b32 [(.int .i64 y26_0_0), (h29).v], E (List (List Int)) y26_0_1 h29, E (List (List Int)) y15_3 h18, E (List (List Int)) y15_4 h20, E (List (List Int)) y15_5 h22, E (List (List Int)) y15_6 h24, Bx b7 [(.int .i64 aS__0), (.int .i64 aS__1), (.int .i64 aS__2), (aS__3h).v, (aS__4h).v, (aS__5h).v, (aS__6h).v], Es (List (List Int)) aS__3 aS__3h, Es (List (List Int)) aS__4 aS__4h, Es (List (List Int)) aS__5 aS__5h, Es (List (List Int)) aS__6 aS__6h, Gl 0 [.int .i64 2, .int .i64 3, .int .i64 5, .int .i64 7]])
    refine alloc_ gok rfl H ?_; clear H; intro b47 w46 hx H
    clear hx
    replace H : Cx w0 fp0 S0 w46 [Bx b47 [(.int .i64 0), (.int .i64 0), (.int .i64 0), (.slice none 0 0), (.slice none 0 0), (.slice none 0 0), (.slice none 0 0)], E (List (List Int)) y35_3 h38, E (List (List Int)) y35_4 h40, E (List (List Int)) y35_5 h42, E (List (List Int)) y35_6 h44, Bx b32 [(.int .i64 y26_0_0), (h29).v], E (List (List Int)) y26_0_1 h29, E (List (List Int)) y15_3 h18, E (List (List Int)) y15_4 h20, E (List (List Int)) y15_5 h22, E (List (List Int)) y15_6 h24, Bx b7 [(.int .i64 aS__0), (.int .i64 aS__1), (.int .i64 aS__2), (aS__3h).v, (aS__4h).v, (aS__5h).v, (aS__6h).v], Es (List (List Int)) aS__3 aS__3h, Es (List (List Int)) aS__4 aS__4h, Es (List (List Int)) aS__5 aS__5h, Es (List (List Int)) aS__6 aS__6h, Gl 0 [.int .i64 2, .int .i64 3, .int .i64 5, .int .i64 7]] := H
    refine stA gok [(.int .i64 y35_0), (.int .i64 y35_1), (.int .i64 y35_2), (h38).v, (h40).v, (h42).v, (h44).v] rfl H rfl rfl rfl ?_; clear H; intro w49 H
    replace H : Cx w0 fp0 S0 w49 [Bx b47 [(.int .i64 y35_0), (.int .i64 y35_1), (.int .i64 y35_2), (h38).v, (h40).v, (h42).v, (h44).v], E (List (List Int)) y35_3 h38, E (List (List Int)) y35_4 h40, E (List (List Int)) y35_5 h42, E (List (List Int)) y35_6 h44, Bx b32 [(.int .i64 y26_0_0), (h29).v], E (List (List Int)) y26_0_1 h29, E (List (List Int)) y15_3 h18, E (List (List Int)) y15_4 h20, E (List (List Int)) y15_5 h22, E (List (List Int)) y15_6 h24, Bx b7 [(.int .i64 aS__0), (.int .i64 aS__1), (.int .i64 aS__2), (aS__3h).v, (aS__4h).v, (aS__5h).v, (aS__6h).v], Es (List (List Int)) aS__3 aS__3h, Es (List (List Int)) aS__4 aS__4h, Es (List (List Int)) aS__5 aS__5h, Es (List (List Int)) aS__6 aS__6h, Gl 0 [.int .i64 2, .int .i64 3, .int .i64 5, .int .i64 7]] := H
    refine loadN [(.int .i64 y35_0), (.int .i64 y35_1), (.int .i64 y35_2), (h38).v, (h40).v, (h42).v, (h44).v] rfl (fun j u hj => H.bx 0 rfl hj) ?_
    obtain ⟨y50, e, hF51⟩ := bindS hF36; clear hF36
    obtain ⟨⟨y50_0_0, y50_0_1⟩, y50_1⟩ := y50
    have ey50 := e; clear e
    refine callF (impl_HiddenSpace_c aP_ y35_0 y35_1 y35_2 y35_3 h38 y35_4 h40 y35_5 h42 y35_6 h44 y50_0_0 y50_0_1 y50_1 ey50) (Γi := []) H ⟨Vw.own 1 rfl, Vw.own 2 rfl, Vw.own 3 rfl, Vw.own 4 rfl, Vw.gl 16 rfl, trivial⟩ ?_; clear H ey50
    rintro _ _ w52 ⟨h53, rfl, rfl⟩ (H : Cx w0 fp0 S0 w52 [E (List (List Int)) y50_0_1 h53, Bx b47 [(.int .i64 y35_0), (.int .i64 y35_1), (.int .i64 y35_2), (h38).v, (h40).v, (h42).v, (h44).v], E (List (List Int)) y35_3 h38, E (List (List Int)) y35_4 h40, E (List (List Int)) y35_5 h42, E (List (List Int)) y35_6 h44, Bx b32 [(.int .i64 y26_0_0), (h29).v], E (List (List Int)) y26_0_1 h29, E (List (List Int)) y15_3 h18, E (List (List Int)) y15_4 h20, E (List (List Int)) y15_5 h22, E (List (List Int)) y15_6 h24, Bx b7 [(.int .i64 aS__0), (.int .i64 aS__1), (.int .i64 aS__2), (aS__3h).v, (aS__4h).v, (aS__5h).v, (aS__6h).v], Es (List (List Int)) aS__3 aS__3h, Es (List (List Int)) aS__4 aS__4h, Es (List (List Int)) aS__5 aS__5h, Es (List (List Int)) aS__6 aS__6h, Gl 0 [.int .i64 2, .int .i64 3, .int .i64 5, .int .i64 7]])
    refine alloc_ gok rfl H ?_; clear H; intro b56 w55 hx H
    clear hx
    replace H : Cx w0 fp0 S0 w55 [Bx b56 [(.int .i64 0), (.slice none 0 0)], E (List (List Int)) y50_0_1 h53, Bx b47 [(.int .i64 y35_0), (.int .i64 y35_1), (.int .i64 y35_2), (h38).v, (h40).v, (h42).v, (h44).v], E (List (List Int)) y35_3 h38, E (List (List Int)) y35_4 h40, E (List (List Int)) y35_5 h42, E (List (List Int)) y35_6 h44, Bx b32 [(.int .i64 y26_0_0), (h29).v], E (List (List Int)) y26_0_1 h29, E (List (List Int)) y15_3 h18, E (List (List Int)) y15_4 h20, E (List (List Int)) y15_5 h22, E (List (List Int)) y15_6 h24, Bx b7 [(.int .i64 aS__0), (.int .i64 aS__1), (.int .i64 aS__2), (aS__3h).v, (aS__4h).v, (aS__5h).v, (aS__6h).v], Es (List (List Int)) aS__3 aS__3h, Es (List (List Int)) aS__4 aS__4h, Es (List (List Int)) aS__5 aS__5h, Es (List (List Int)) aS__6 aS__6h, Gl 0 [.int .i64 2, .int .i64 3, .int .i64 5, .int .i64 7]] := H
    refine stA gok [(.int .i64 y50_0_0), (h53).v] rfl H rfl rfl rfl ?_; clear H; intro w58 H
    replace H : Cx w0 fp0 S0 w58 [Bx b56 [(.int .i64 y50_0_0), (h53).v], E (List (List Int)) y50_0_1 h53, Bx b47 [(.int .i64 y35_0), (.int .i64 y35_1), (.int .i64 y35_2), (h38).v, (h40).v, (h42).v, (h44).v], E (List (List Int)) y35_3 h38, E (List (List Int)) y35_4 h40, E (List (List Int)) y35_5 h42, E (List (List Int)) y35_6 h44, Bx b32 [(.int .i64 y26_0_0), (h29).v], E (List (List Int)) y26_0_1 h29, E (List (List Int)) y15_3 h18, E (List (List Int)) y15_4 h20, E (List (List Int)) y15_5 h22, E (List (List Int)) y15_6 h24, Bx b7 [(.int .i64 aS__0), (.int .i64 aS__1), (.int .i64 aS__2), (aS__3h).v, (aS__4h).v, (aS__5h).v, (aS__6h).v], Es (List (List Int)) aS__3 aS__3h, Es (List (List Int)) aS__4 aS__4h, Es (List (List Int)) aS__5 aS__5h, Es (List (List Int)) aS__6 aS__6h, Gl 0 [.int .i64 2, .int .i64 3, .int .i64 5, .int .i64 7]] := H
    refine sq ?_
    obtain ⟨r70, hF72, hF71⟩ := bindS hF51; clear hF51
    refine cut (fun (q73 : Bool) => [(0, (.int .i64 aP_)), (3, (.pointer (some ⟨b7, 0, none⟩))), (6, (.pointer (some ⟨b32, 0, none⟩))), (7, (.bool y26_1)), (8, (.pointer (some ⟨b47, 0, none⟩))), (9, (.pointer (some ⟨b56, 0, none⟩))), (10, (.bool y50_1)), (44, (.bool q73))]) (fun (q73 : Bool) w' => q73 = r70 ∧ Cx w0 fp0 S0 w' [Bx b7 [(.int .i64 aS__0), (.int .i64 aS__1), (.int .i64 aS__2), (aS__3h).v, (aS__4h).v, (aS__5h).v, (aS__6h).v], Es (List (List Int)) aS__3 aS__3h, Es (List (List Int)) aS__4 aS__4h, Es (List (List Int)) aS__5 aS__5h, Es (List (List Int)) aS__6 aS__6h, Bx b32 [(.int .i64 y26_0_0), (h29).v], E (List (List Int)) y26_0_1 h29, Bx b47 [(.int .i64 y35_0), (.int .i64 y35_1), (.int .i64 y35_2), (h38).v, (h40).v, (h42).v, (h44).v], E (List (List Int)) y35_3 h38, E (List (List Int)) y35_4 h40, E (List (List Int)) y35_5 h42, E (List (List Int)) y35_6 h44, Bx b56 [(.int .i64 y50_0_0), (h53).v], E (List (List Int)) y50_0_1 h53, Gl 0 [.int .i64 2, .int .i64 3, .int .i64 5, .int .i64 7]]) ?_ ?_
    · skip
      refine loadN [(.int .i64 y50_0_0), (h53).v] rfl (fun j u hj => H.bx 0 rfl hj) ?_
      refine loadN [(.int .i64 y26_0_0), (h29).v] rfl (fun j u hj => H.bx 7 rfl hj) ?_
      obtain ⟨y74, e, hF75⟩ := bindS hF72; clear hF72
      have ey74 := e; clear e
      refine callF (laws_eqSpace_c y50_0_0 y50_0_1 h53 y26_0_0 y26_0_1 h29 y74 ey74) (Γi := []) H ⟨Vw.own 1 rfl, Vw.own 8 rfl, trivial⟩ ?_; clear H ey74
      rintro _ _ w76 ⟨rfl, rfl⟩ (H : Cx w0 fp0 S0 w76 [Bx b56 [(.int .i64 y50_0_0), (h53).v], E (List (List Int)) y50_0_1 h53, Bx b47 [(.int .i64 y35_0), (.int .i64 y35_1), (.int .i64 y35_2), (h38).v, (h40).v, (h42).v, (h44).v], E (List (List Int)) y35_3 h38, E (List (List Int)) y35_4 h40, E (List (List Int)) y35_5 h42, E (List (List Int)) y35_6 h44, Bx b32 [(.int .i64 y26_0_0), (h29).v], E (List (List Int)) y26_0_1 h29, E (List (List Int)) y15_3 h18, E (List (List Int)) y15_4 h20, E (List (List Int)) y15_5 h22, E (List (List Int)) y15_6 h24, Bx b7 [(.int .i64 aS__0), (.int .i64 aS__1), (.int .i64 aS__2), (aS__3h).v, (aS__4h).v, (aS__5h).v, (aS__6h).v], Es (List (List Int)) aS__3 aS__3h, Es (List (List Int)) aS__4 aS__4h, Es (List (List Int)) aS__5 aS__5h, Es (List (List Int)) aS__6 aS__6h, Gl 0 [.int .i64 2, .int .i64 3, .int .i64 5, .int .i64 7]])
      obtain ⟨a77, e, hF78⟩ := bindS hF75; clear hF75
      refine boolO e ?_; clear e
      cases a77
      · have hF79 := condF hF78; clear hF78
        obtain ⟨a80, e, hF81⟩ := bindS hF79; clear hF79
        refine boolO e ?_; clear e
        exact ⟨a80, ⟨rfl, rfl, rfl, rfl, rfl, rfl, rfl, rfl, trivial⟩, Option.some.inj hF81, H.sel [13, 14, 15, 16, 17, 7, 8, 2, 3, 4, 5, 6, 0, 1, 18] rfl⟩
      · have hF82 := condT hF78; clear hF78
        exact ⟨true, ⟨rfl, rfl, rfl, rfl, rfl, rfl, rfl, rfl, trivial⟩, Option.some.inj hF82, H.sel [13, 14, 15, 16, 17, 7, 8, 2, 3, 4, 5, 6, 0, 1, 18] rfl⟩
    · clear hF72 H
      rintro T84 s68 w83 ⟨hr, (H : Cx w0 fp0 S0 w83 [Bx b7 [(.int .i64 aS__0), (.int .i64 aS__1), (.int .i64 aS__2), (aS__3h).v, (aS__4h).v, (aS__5h).v, (aS__6h).v], Es (List (List Int)) aS__3 aS__3h, Es (List (List Int)) aS__4 aS__4h, Es (List (List Int)) aS__5 aS__5h, Es (List (List Int)) aS__6 aS__6h, Bx b32 [(.int .i64 y26_0_0), (h29).v], E (List (List Int)) y26_0_1 h29, Bx b47 [(.int .i64 y35_0), (.int .i64 y35_1), (.int .i64 y35_2), (h38).v, (h40).v, (h42).v, (h44).v], E (List (List Int)) y35_3 h38, E (List (List Int)) y35_4 h40, E (List (List Int)) y35_5 h42, E (List (List Int)) y35_6 h44, Bx b56 [(.int .i64 y50_0_0), (h53).v], E (List (List Int)) y50_0_1 h53, Gl 0 [.int .i64 2, .int .i64 3, .int .i64 5, .int .i64 7]])⟩
      subst hr
      cases s68
      · have hF85 := condF hF71; clear hF71
        refine sq ?_
        refine heldX H [] (.fst 0 (.fst 1 (.act 2 (.act 3 (.fst 4 .done))))) mixed [] trivial (by kernel_rfl) ?_
        clear H; intro w86 H
        have hX : Ext w86 w86 := Upd.refl _ _
        have H0 := H
        refine loadNX [(.int .i64 y35_0), (.int .i64 y35_1), (.int .i64 y35_2), (h38).v, (h40).v, (h42).v, (h44).v] rfl (fun j u hj => H.bx 7 rfl hj) ?_
        refine loadNX [(.int .i64 aS__0), (.int .i64 aS__1), (.int .i64 aS__2), (aS__3h).v, (aS__4h).v, (aS__5h).v, (aS__6h).v] rfl (fun j u hj => H.bx 0 rfl hj) ?_
        obtain ⟨y87, e, hF88⟩ := bindS hF85; clear hF85
        obtain ⟨y87_0, y87_1, y87_2, y87_3, y87_4, y87_5, y87_6⟩ := y87
        have ey87 := e; clear e
        refine callFx (laws_toStateSpace_c aS__0 aS__1 aS__2 aS__3 aS__3h aS__4 aS__4h aS__5 aS__5h aS__6 aS__6h y87_0 y87_1 y87_2 y87_3 y87_4 y87_5 y87_6 ey87) H ⟨Vw.sh 1 rfl, Vw.sh 2 rfl, Vw.sh 3 rfl, Vw.sh 4 rfl, trivial⟩ ?_; clear H ey87
        rintro _ _ w89 ⟨h90, h92, h94, h96, rfl, rfl⟩ hx (H : Cx w0 fp0 S0 w89 [E (List (List Int)) y87_3 h90, E (List (List Int)) y87_4 h92, E (List (List Int)) y87_5 h94, E (List (List Int)) y87_6 h96, Bx b7 [(.int .i64 aS__0), (.int .i64 aS__1), (.int .i64 aS__2), (aS__3h).v, (aS__4h).v, (aS__5h).v, (aS__6h).v], Es (List (List Int)) aS__3 aS__3h, Es (List (List Int)) aS__4 aS__4h, Es (List (List Int)) aS__5 aS__5h, Es (List (List Int)) aS__6 aS__6h, Bx b32 [(.int .i64 y26_0_0), (h29).v], E (List (List Int)) y26_0_1 h29, Bx b47 [(.int .i64 y35_0), (.int .i64 y35_1), (.int .i64 y35_2), (h38).v, (h40).v, (h42).v, (h44).v], E (List (List Int)) y35_3 h38, E (List (List Int)) y35_4 h40, E (List (List Int)) y35_5 h42, E (List (List Int)) y35_6 h44, Bx b56 [(.int .i64 y50_0_0), (h53).v], E (List (List Int)) y50_0_1 h53, Gl 0 [.int .i64 2, .int .i64 3, .int .i64 5, .int .i64 7]])
        replace hX := hX.trans0 hx; clear hx
        refine hold hX ?_
        obtain ⟨y98, e, hF99⟩ := bindS hF88; clear hF88
        have ey98 := e; clear e
        refine callFx (laws_eqStateSpace_c y35_0 y35_1 y35_2 y35_3 h38 y35_4 h40 y35_5 h42 y35_6 h44 y87_0 y87_1 y87_2 y87_3 h90 y87_4 h92 y87_5 h94 y87_6 h96 y98 ey98) H ⟨Vw.own 12 rfl, Vw.own 13 rfl, Vw.own 14 rfl, Vw.own 15 rfl, Vw.own 0 rfl, Vw.own 1 rfl, Vw.own 2 rfl, Vw.own 3 rfl, trivial⟩ ?_; clear H ey98
        rintro _ _ w100 ⟨rfl, rfl⟩ hx (H : Cx w0 fp0 S0 w100 [E (List (List Int)) y87_3 h90, E (List (List Int)) y87_4 h92, E (List (List Int)) y87_5 h94, E (List (List Int)) y87_6 h96, Bx b7 [(.int .i64 aS__0), (.int .i64 aS__1), (.int .i64 aS__2), (aS__3h).v, (aS__4h).v, (aS__5h).v, (aS__6h).v], Es (List (List Int)) aS__3 aS__3h, Es (List (List Int)) aS__4 aS__4h, Es (List (List Int)) aS__5 aS__5h, Es (List (List Int)) aS__6 aS__6h, Bx b32 [(.int .i64 y26_0_0), (h29).v], E (List (List Int)) y26_0_1 h29, Bx b47 [(.int .i64 y35_0), (.int .i64 y35_1), (.int .i64 y35_2), (h38).v, (h40).v, (h42).v, (h44).v], E (List (List Int)) y35_3 h38, E (List (List Int)) y35_4 h40, E (List (List Int)) y35_5 h42, E (List (List Int)) y35_6 h44, Bx b56 [(.int .i64 y50_0_0), (h53).v], E (List (List Int)) y50_0_1 h53, Gl 0 [.int .i64 2, .int .i64 3, .int .i64 5, .int .i64 7]])
        replace hX := hX.trans0 hx; clear hx
        refine hold hX ?_
        obtain ⟨a101, e, hF102⟩ := bindS hF99; clear hF99
        refine boolO e ?_; clear e
        cases a101
        · have hF103 := condF hF102; clear hF102
          refine loadN [(.int .i64 y35_0), (.int .i64 y35_1), (.int .i64 y35_2), (h38).v, (h40).v, (h42).v, (h44).v] rfl (fun j u hj => H.bx 11 rfl hj) ?_
          obtain ⟨y104, e, hF105⟩ := bindS hF103; clear hF103
          obtain ⟨⟨y104_0_0, y104_0_1, y104_0_2, y104_0_3, y104_0_4, y104_0_5, y104_0_6⟩, y104_1⟩ := y104
          have ey104 := e; clear e
          replace H := H.sel [12, 13, 14, 15, 0, 1, 2, 3, 4, 5, 6, 7, 8, 9, 10, 11, 16, 17, 18] rfl
          refine callF (laws_markStateSpace_c y35_0 y35_1 y35_2 y35_3 h38 y35_4 h40 y35_5 h42 y35_6 h44 1 y104_0_0 y104_0_1 y104_0_2 y104_0_3 y104_0_4 y104_0_5 y104_0_6 y104_1 ey104) (Γi := [E (List (List Int)) y35_3 h38, E (List (List Int)) y35_4 h40, E (List (List Int)) y35_5 h42, E (List (List Int)) y35_6 h44]) H trivial ?_; clear H ey104
          rintro _ _ w106 ⟨rfl, rfl⟩ (H : Cx w0 fp0 S0 w106 [E (List (List Int)) y104_0_3 h38, E (List (List Int)) y104_0_4 h40, E (List (List Int)) y104_0_5 h42, E (List (List Int)) y104_0_6 h44, E (List (List Int)) y87_3 h90, E (List (List Int)) y87_4 h92, E (List (List Int)) y87_5 h94, E (List (List Int)) y87_6 h96, Bx b7 [(.int .i64 aS__0), (.int .i64 aS__1), (.int .i64 aS__2), (aS__3h).v, (aS__4h).v, (aS__5h).v, (aS__6h).v], Es (List (List Int)) aS__3 aS__3h, Es (List (List Int)) aS__4 aS__4h, Es (List (List Int)) aS__5 aS__5h, Es (List (List Int)) aS__6 aS__6h, Bx b32 [(.int .i64 y26_0_0), (h29).v], E (List (List Int)) y26_0_1 h29, Bx b47 [(.int .i64 y35_0), (.int .i64 y35_1), (.int .i64 y35_2), (h38).v, (h40).v, (h42).v, (h44).v], Bx b56 [(.int .i64 y50_0_0), (h53).v], E (List (List Int)) y50_0_1 h53, Gl 0 [.int .i64 2, .int .i64 3, .int .i64 5, .int .i64 7]])
          refine sq ?_
          obtain ⟨r122, hF124, hF123⟩ := bindS hF105; clear hF105
          refine cut (fun (q125 : Bool) => [(0, (.int .i64 aP_)), (3, (.pointer (some ⟨b7, 0, none⟩))), (6, (.pointer (some ⟨b32, 0, none⟩))), (7, (.bool y26_1)), (9, (.pointer (some ⟨b56, 0, none⟩))), (65, (.bool q125))]) (fun (q125 : Bool) w' => q125 = r122 ∧ Cx w0 fp0 S0 w' [Bx b7 [(.int .i64 aS__0), (.int .i64 aS__1), (.int .i64 aS__2), (aS__3h).v, (aS__4h).v, (aS__5h).v, (aS__6h).v], Es (List (List Int)) aS__3 aS__3h, Es (List (List Int)) aS__4 aS__4h, Es (List (List Int)) aS__5 aS__5h, Es (List (List Int)) aS__6 aS__6h, Bx b32 [(.int .i64 y26_0_0), (h29).v], E (List (List Int)) y26_0_1 h29, Bx b56 [(.int .i64 y50_0_0), (h53).v], E (List (List Int)) y50_0_1 h53, Gl 0 [.int .i64 2, .int .i64 3, .int .i64 5, .int .i64 7]]) ?_ ?_
          · skip
            obtain ⟨a126, e, hF127⟩ := bindS hF124; clear hF124
            refine boolO e ?_; clear e
            cases a126
            · have hF128 := condF hF127; clear hF127
              refine loadN [(.int .i64 y50_0_0), (h53).v] rfl (fun j u hj => H.bx 16 rfl hj) ?_
              refine loadN [(.int .i64 y26_0_0), (h29).v] rfl (fun j u hj => H.bx 13 rfl hj) ?_
              obtain ⟨y129, e, hF130⟩ := bindS hF128; clear hF128
              have ey129 := e; clear e
              refine callF (laws_eqSpace_c y50_0_0 y50_0_1 h53 y26_0_0 y26_0_1 h29 y129 ey129) (Γi := []) H ⟨Vw.own 17 rfl, Vw.own 14 rfl, trivial⟩ ?_; clear H ey129
              rintro _ _ w131 ⟨rfl, rfl⟩ (H : Cx w0 fp0 S0 w131 [E (List (List Int)) y104_0_3 h38, E (List (List Int)) y104_0_4 h40, E (List (List Int)) y104_0_5 h42, E (List (List Int)) y104_0_6 h44, E (List (List Int)) y87_3 h90, E (List (List Int)) y87_4 h92, E (List (List Int)) y87_5 h94, E (List (List Int)) y87_6 h96, Bx b7 [(.int .i64 aS__0), (.int .i64 aS__1), (.int .i64 aS__2), (aS__3h).v, (aS__4h).v, (aS__5h).v, (aS__6h).v], Es (List (List Int)) aS__3 aS__3h, Es (List (List Int)) aS__4 aS__4h, Es (List (List Int)) aS__5 aS__5h, Es (List (List Int)) aS__6 aS__6h, Bx b32 [(.int .i64 y26_0_0), (h29).v], E (List (List Int)) y26_0_1 h29, Bx b47 [(.int .i64 y35_0), (.int .i64 y35_1), (.int .i64 y35_2), (h38).v, (h40).v, (h42).v, (h44).v], Bx b56 [(.int .i64 y50_0_0), (h53).v], E (List (List Int)) y50_0_1 h53, Gl 0 [.int .i64 2, .int .i64 3, .int .i64 5, .int .i64 7]])
              obtain ⟨a132, e, hF133⟩ := bindS hF130; clear hF130
              refine boolO e ?_; clear e
              cases a132
              · have hF134 := condF hF133; clear hF133
                obtain ⟨a135, e, hF136⟩ := bindS hF134; clear hF134
                refine boolO e ?_; clear e
                exact ⟨a135, ⟨rfl, rfl, rfl, rfl, rfl, rfl, trivial⟩, Option.some.inj hF136, H.sel [8, 9, 10, 11, 12, 13, 14, 16, 17, 18] rfl⟩
              · have hF137 := condT hF133; clear hF133
                exact ⟨true, ⟨rfl, rfl, rfl, rfl, rfl, rfl, trivial⟩, Option.some.inj hF137, H.sel [8, 9, 10, 11, 12, 13, 14, 16, 17, 18] rfl⟩
            · have hF138 := condT hF127; clear hF127
              exact ⟨true, ⟨rfl, rfl, rfl, rfl, rfl, rfl, trivial⟩, Option.some.inj hF138, H.sel [8, 9, 10, 11, 12, 13, 14, 16, 17, 18] rfl⟩
          · clear hF124 H
            rintro T140 s120 w139 ⟨hr, (H : Cx w0 fp0 S0 w139 [Bx b7 [(.int .i64 aS__0), (.int .i64 aS__1), (.int .i64 aS__2), (aS__3h).v, (aS__4h).v, (aS__5h).v, (aS__6h).v], Es (List (List Int)) aS__3 aS__3h, Es (List (List Int)) aS__4 aS__4h, Es (List (List Int)) aS__5 aS__5h, Es (List (List Int)) aS__6 aS__6h, Bx b32 [(.int .i64 y26_0_0), (h29).v], E (List (List Int)) y26_0_1 h29, Bx b56 [(.int .i64 y50_0_0), (h53).v], E (List (List Int)) y50_0_1 h53, Gl 0 [.int .i64 2, .int .i64 3, .int .i64 5, .int .i64 7]])⟩
            subst hr
            cases s120
            · have hF141 := condF hF123; clear hF123
              refine loadN [(.int .i64 y50_0_0), (h53).v] rfl (fun j u hj => H.bx 7 rfl hj) ?_
              obtain ⟨y142, e, hF143⟩ := bindS hF141; clear hF141
              obtain ⟨⟨y142_0_0, y142_0_1⟩, y142_1⟩ := y142
              have ey142 := e; clear e
              replace H := H.sel [8, 0, 1, 2, 3, 4, 5, 6, 7, 9] rfl
              refine callF (laws_markSpace_c y50_0_0 y50_0_1 h53 1 y142_0_0 y142_0_1 y142_1 ey142) (Γi := [E (List (List Int)) y50_0_1 h53]) H trivial ?_; clear H ey142
              rintro _ _ w144 ⟨rfl, rfl⟩ (H : Cx w0 fp0 S0 w144 [E (List (List Int)) y142_0_1 h53, Bx b7 [(.int .i64 aS__0), (.int .i64 aS__1), (.int .i64 aS__2), (aS__3h).v, (aS__4h).v, (aS__5h).v, (aS__6h).v], Es (List (List Int)) aS__3 aS__3h, Es (List (List Int)) aS__4 aS__4h, Es (List (List Int)) aS__5 aS__5h, Es (List (List Int)) aS__6 aS__6h, Bx b32 [(.int .i64 y26_0_0), (h29).v], E (List (List Int)) y26_0_1 h29, Bx b56 [(.int .i64 y50_0_0), (h53).v], Gl 0 [.int .i64 2, .int .i64 3, .int .i64 5, .int .i64 7]])
              refine loadN [(.int .i64 y50_0_0), (h53).v] rfl (fun j u hj => H.bx 8 rfl hj) ?_
              obtain ⟨y145, e, hF146⟩ := bindS hF143; clear hF143
              have ey145 := e; clear e
              refine callF (laws_heldSpace_c y50_0_0 y142_0_1 h53 1 y145 ey145) (Γi := []) H ⟨Vw.own 0 rfl, trivial⟩ ?_; clear H ey145
              rintro _ _ w147 ⟨rfl, rfl⟩ (H : Cx w0 fp0 S0 w147 [E (List (List Int)) y142_0_1 h53, Bx b7 [(.int .i64 aS__0), (.int .i64 aS__1), (.int .i64 aS__2), (aS__3h).v, (aS__4h).v, (aS__5h).v, (aS__6h).v], Es (List (List Int)) aS__3 aS__3h, Es (List (List Int)) aS__4 aS__4h, Es (List (List Int)) aS__5 aS__5h, Es (List (List Int)) aS__6 aS__6h, Bx b32 [(.int .i64 y26_0_0), (h29).v], E (List (List Int)) y26_0_1 h29, Bx b56 [(.int .i64 y50_0_0), (h53).v], Gl 0 [.int .i64 2, .int .i64 3, .int .i64 5, .int .i64 7]])
              refine sq ?_
              obtain ⟨a148, e, hF149⟩ := bindS hF146; clear hF146
              refine boolO e ?_; clear e
              cases a148
              · have hF150 := condF hF149; clear hF149
                refine sq ?_
                obtain ⟨a151, e, hF152⟩ := bindS hF150; clear hF150
                refine boolO e ?_; clear e
                cases a151
                · have hF153 := condF hF152; clear hF152
                  refine loadN [(.int .i64 aS__0), (.int .i64 aS__1), (.int .i64 aS__2), (aS__3h).v, (aS__4h).v, (aS__5h).v, (aS__6h).v] rfl (fun j u hj => H.bx 1 rfl hj) ?_
                  obtain ⟨y154, e, hF155⟩ := bindS hF153; clear hF153
                  obtain ⟨y154_0, y154_1, y154_2, y154_3, y154_4, y154_5, y154_6⟩ := y154
                  have ey154 := e; clear e
                  refine callF (laws_toStateSpace_c aS__0 aS__1 aS__2 aS__3 aS__3h aS__4 aS__4h aS__5 aS__5h aS__6 aS__6h y154_0 y154_1 y154_2 y154_3 y154_4 y154_5 y154_6 ey154) (Γi := []) H ⟨Vw.sh 2 rfl, Vw.sh 3 rfl, Vw.sh 4 rfl, Vw.sh 5 rfl, trivial⟩ ?_; clear H ey154
                  rintro _ _ w156 ⟨h157, h159, h161, h163, rfl, rfl⟩ (H : Cx w0 fp0 S0 w156 [E (List (List Int)) y154_3 h157, E (List (List Int)) y154_4 h159, E (List (List Int)) y154_5 h161, E (List (List Int)) y154_6 h163, E (List (List Int)) y142_0_1 h53, Bx b7 [(.int .i64 aS__0), (.int .i64 aS__1), (.int .i64 aS__2), (aS__3h).v, (aS__4h).v, (aS__5h).v, (aS__6h).v], Es (List (List Int)) aS__3 aS__3h, Es (List (List Int)) aS__4 aS__4h, Es (List (List Int)) aS__5 aS__5h, Es (List (List Int)) aS__6 aS__6h, Bx b32 [(.int .i64 y26_0_0), (h29).v], E (List (List Int)) y26_0_1 h29, Bx b56 [(.int .i64 y50_0_0), (h53).v], Gl 0 [.int .i64 2, .int .i64 3, .int .i64 5, .int .i64 7]])
                  obtain ⟨y165, e, hF166⟩ := bindS hF155; clear hF155
                  obtain ⟨⟨y165_0_0, y165_0_1⟩, y165_1⟩ := y165
                  have ey165 := e; clear e
                  refine callF (impl_HiddenSpace_c aP_ y154_0 y154_1 y154_2 y154_3 h157 y154_4 h159 y154_5 h161 y154_6 h163 y165_0_0 y165_0_1 y165_1 ey165) (Γi := []) H ⟨Vw.own 0 rfl, Vw.own 1 rfl, Vw.own 2 rfl, Vw.own 3 rfl, Vw.gl 13 rfl, trivial⟩ ?_; clear H ey165
                  rintro _ _ w167 ⟨h168, rfl, rfl⟩ (H : Cx w0 fp0 S0 w167 [E (List (List Int)) y165_0_1 h168, E (List (List Int)) y154_3 h157, E (List (List Int)) y154_4 h159, E (List (List Int)) y154_5 h161, E (List (List Int)) y154_6 h163, E (List (List Int)) y142_0_1 h53, Bx b7 [(.int .i64 aS__0), (.int .i64 aS__1), (.int .i64 aS__2), (aS__3h).v, (aS__4h).v, (aS__5h).v, (aS__6h).v], Es (List (List Int)) aS__3 aS__3h, Es (List (List Int)) aS__4 aS__4h, Es (List (List Int)) aS__5 aS__5h, Es (List (List Int)) aS__6 aS__6h, Bx b32 [(.int .i64 y26_0_0), (h29).v], E (List (List Int)) y26_0_1 h29, Bx b56 [(.int .i64 y50_0_0), (h53).v], Gl 0 [.int .i64 2, .int .i64 3, .int .i64 5, .int .i64 7]])
                  refine alloc_ gok rfl H ?_; clear H; intro b171 w170 hx H
                  clear hx
                  replace H : Cx w0 fp0 S0 w170 [Bx b171 [(.int .i64 0), (.slice none 0 0)], E (List (List Int)) y165_0_1 h168, E (List (List Int)) y154_3 h157, E (List (List Int)) y154_4 h159, E (List (List Int)) y154_5 h161, E (List (List Int)) y154_6 h163, E (List (List Int)) y142_0_1 h53, Bx b7 [(.int .i64 aS__0), (.int .i64 aS__1), (.int .i64 aS__2), (aS__3h).v, (aS__4h).v, (aS__5h).v, (aS__6h).v], Es (List (List Int)) aS__3 aS__3h, Es (List (List Int)) aS__4 aS__4h, Es (List (List Int)) aS__5 aS__5h, Es (List (List Int)) aS__6 aS__6h, Bx b32 [(.int .i64 y26_0_0), (h29).v], E (List (List Int)) y26_0_1 h29, Bx b56 [(.int .i64 y50_0_0), (h53).v], Gl 0 [.int .i64 2, .int .i64 3, .int .i64 5, .int .i64 7]] := H
                  refine stA gok [(.int .i64 y165_0_0), (h168).v] rfl H rfl rfl rfl ?_; clear H; intro w173 H
                  replace H : Cx w0 fp0 S0 w173 [Bx b171 [(.int .i64 y165_0_0), (h168).v], E (List (List Int)) y165_0_1 h168, E (List (List Int)) y154_3 h157, E (List (List Int)) y154_4 h159, E (List (List Int)) y154_5 h161, E (List (List Int)) y154_6 h163, E (List (List Int)) y142_0_1 h53, Bx b7 [(.int .i64 aS__0), (.int .i64 aS__1), (.int .i64 aS__2), (aS__3h).v, (aS__4h).v, (aS__5h).v, (aS__6h).v], Es (List (List Int)) aS__3 aS__3h, Es (List (List Int)) aS__4 aS__4h, Es (List (List Int)) aS__5 aS__5h, Es (List (List Int)) aS__6 aS__6h, Bx b32 [(.int .i64 y26_0_0), (h29).v], E (List (List Int)) y26_0_1 h29, Bx b56 [(.int .i64 y50_0_0), (h53).v], Gl 0 [.int .i64 2, .int .i64 3, .int .i64 5, .int .i64 7]] := H
                  refine sq ?_
                  obtain ⟨r185, hF187, hF186⟩ := bindS hF166; clear hF166
                  refine cut (fun (q188 : Bool) => [(9, (.pointer (some ⟨b56, 0, none⟩))), (12, (.int .i64 y142_1)), (92, (.bool q188))]) (fun (q188 : Bool) w' => q188 = r185 ∧ Cx w0 fp0 S0 w' [Bx b56 [(.int .i64 y50_0_0), (h53).v], E (List (List Int)) y142_0_1 h53, Gl 0 [.int .i64 2, .int .i64 3, .int .i64 5, .int .i64 7]]) ?_ ?_
                  · skip
                    refine loadN [(.int .i64 y165_0_0), (h168).v] rfl (fun j u hj => H.bx 0 rfl hj) ?_
                    refine loadN [(.int .i64 y26_0_0), (h29).v] rfl (fun j u hj => H.bx 12 rfl hj) ?_
                    obtain ⟨y189, e, hF190⟩ := bindS hF187; clear hF187
                    have ey189 := e; clear e
                    refine callF (laws_eqSpace_c y165_0_0 y165_0_1 h168 y26_0_0 y26_0_1 h29 y189 ey189) (Γi := []) H ⟨Vw.own 1 rfl, Vw.own 13 rfl, trivial⟩ ?_; clear H ey189
                    rintro _ _ w191 ⟨rfl, rfl⟩ (H : Cx w0 fp0 S0 w191 [Bx b171 [(.int .i64 y165_0_0), (h168).v], E (List (List Int)) y165_0_1 h168, E (List (List Int)) y154_3 h157, E (List (List Int)) y154_4 h159, E (List (List Int)) y154_5 h161, E (List (List Int)) y154_6 h163, E (List (List Int)) y142_0_1 h53, Bx b7 [(.int .i64 aS__0), (.int .i64 aS__1), (.int .i64 aS__2), (aS__3h).v, (aS__4h).v, (aS__5h).v, (aS__6h).v], Es (List (List Int)) aS__3 aS__3h, Es (List (List Int)) aS__4 aS__4h, Es (List (List Int)) aS__5 aS__5h, Es (List (List Int)) aS__6 aS__6h, Bx b32 [(.int .i64 y26_0_0), (h29).v], E (List (List Int)) y26_0_1 h29, Bx b56 [(.int .i64 y50_0_0), (h53).v], Gl 0 [.int .i64 2, .int .i64 3, .int .i64 5, .int .i64 7]])
                    obtain ⟨a192, e, hF193⟩ := bindS hF190; clear hF190
                    refine boolO e ?_; clear e
                    cases a192
                    · have hF194 := condF hF193; clear hF193
                      obtain ⟨a195, e, hF196⟩ := bindS hF194; clear hF194
                      refine boolO e ?_; clear e
                      exact ⟨a195, ⟨rfl, rfl, rfl, trivial⟩, Option.some.inj hF196, H.sel [14, 6, 15] rfl⟩
                    · have hF197 := condT hF193; clear hF193
                      exact ⟨true, ⟨rfl, rfl, rfl, trivial⟩, Option.some.inj hF197, H.sel [14, 6, 15] rfl⟩
                  · clear hF187 H
                    rintro T199 s183 w198 ⟨hr, (H : Cx w0 fp0 S0 w198 [Bx b56 [(.int .i64 y50_0_0), (h53).v], E (List (List Int)) y142_0_1 h53, Gl 0 [.int .i64 2, .int .i64 3, .int .i64 5, .int .i64 7]])⟩
                    subst hr
                    cases s183
                    · have hF200 := condF hF186; clear hF186
                      refine loadN [(.int .i64 y50_0_0), (h53).v] rfl (fun j u hj => H.bx 0 rfl hj) ?_
                      obtain ⟨y201, e, hF202⟩ := bindS hF200; clear hF200
                      have ey201 := e; clear e
                      refine callF (laws_heldSpace_c y50_0_0 y142_0_1 h53 1 y201 ey201) (Γi := []) H ⟨Vw.own 1 rfl, trivial⟩ ?_; clear H ey201
                      rintro _ _ w203 ⟨rfl, rfl⟩ (H : Cx w0 fp0 S0 w203 [Bx b56 [(.int .i64 y50_0_0), (h53).v], E (List (List Int)) y142_0_1 h53, Gl 0 [.int .i64 2, .int .i64 3, .int .i64 5, .int .i64 7]])
                      refine sq ?_
                      obtain ⟨a204, e, hF205⟩ := bindS hF202; clear hF202
                      refine boolO e ?_; clear e
                      cases a204
                      · have hF206 := condF hF205; clear hF205
                        refine sq ?_
                        obtain ⟨a207, e, hF208⟩ := bindS hF206; clear hF206
                        refine boolO e ?_; clear e
                        cases a207
                        · have hF209 := condF hF208; clear hF208
                          cases hF209
                          exact ⟨_, _, rfl, ⟨rfl, rfl⟩, (H.sel [] rfl).close trivial⟩
                        · have hF210 := condT hF208; clear hF208
                          cases hF210
                          exact ⟨_, _, rfl, ⟨rfl, rfl⟩, (H.sel [] rfl).close trivial⟩
                      · have hF211 := condT hF205; clear hF205
                        cases hF211
                        exact ⟨_, _, rfl, ⟨rfl, rfl⟩, (H.sel [] rfl).close trivial⟩
                    · have hF212 := condT hF186; clear hF186
                      cases hF212
                      exact ⟨_, _, rfl, ⟨rfl, rfl⟩, (H.sel [] rfl).close trivial⟩
                · have hF213 := condT hF152; clear hF152
                  cases hF213
                  exact ⟨_, _, rfl, ⟨rfl, rfl⟩, (H.sel [] rfl).close trivial⟩
              · have hF214 := condT hF149; clear hF149
                cases hF214
                exact ⟨_, _, rfl, ⟨rfl, rfl⟩, (H.sel [] rfl).close trivial⟩
            · have hF215 := condT hF123; clear hF123
              cases hF215
              exact ⟨_, _, rfl, ⟨rfl, rfl⟩, (H.sel [] rfl).close trivial⟩
        · have hF216 := condT hF102; clear hF102
          cases hF216
          exact ⟨_, _, rfl, ⟨rfl, rfl⟩, (H.sel [] rfl).close trivial⟩
      · have hF217 := condT hF71; clear hF71
        cases hF217
        exact ⟨_, _, rfl, ⟨rfl, rfl⟩, (H.sel [] rfl).close trivial⟩
  · have hF218 := condT hF13; clear hF13
    cases hF218
    exact ⟨_, _, rfl, ⟨rfl, rfl⟩, (H.sel [] rfl).close trivial⟩
end Go.Proofs.YteikcdofblclhaaDoor
