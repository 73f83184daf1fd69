/-
  Contracts, printed by a program (wip/y/gen.py): each function of Go computes its partial function. Condition of each: its partial function yields a value.
-/
import Derived.Test.YtnlbhdepagkjgaaDoorYCall
namespace Go.Proofs.YtnlbhdepagkjgaaDoor
open Go Go.Proofs.YtnlbhdepagkjgaaDoor.RW
set_option maxRecDepth 100000
set_option linter.unusedVariables false

theorem spec_ssTimes_c (p_ : Int) (cols_ : Int) (rows_ : List (List Int)) (rows_h : Hd) (m_ : List (List Int)) (m_h : Hd) (y : List (List Int)) (hF : F_spec_ssTimes p_ cols_ rows_ m_ = some y) :
    ConF Tryd.prog 125 #[(.int .i64 p_), (.int .i64 cols_), (rows_h).v, (m_h).v] [Es (List (List Int)) rows_ rows_h, Es (List (List Int)) m_ m_h] [] (fun v Γ' => ∃ z0 : Hd, v = (z0).v ∧ Γ' = [E (List (List Int)) y z0]) := by
  intro w0 S0 fp0 hI hS
  have H : Cx w0 fp0 S0 w0 [Es (List (List Int)) rows_ rows_h, Es (List (List Int)) m_ m_h] := Cx.start hI hS
  clear hI hS
  refine enterC (args := [_, _, _, _]) gok Tryd.func125 rfl _ rfl rfl rfl ?_
  refine sq ?_
  refine lenE (H.rs (α := List (List Int)) 0 rfl).len ?_
  have hmx59 := (H.rs (α := List (List Int)) 0 rfl).max
  obtain ⟨r60, e, hF61⟩ := bindS hF; clear hF
  replace H := H.nil (α := List Int)
  refine loopS _ rows_.length (fun (k3 : Nat) (s56 : List (List Int)) (g57 : Hd) => [(0, (.int .i64 p_)), (1, (.int .i64 cols_)), (3, (m_h).v), (9, (g57).v), (12, (rows_h).v), (13, (.int .i64 ((rows_.length : Nat) : Int))), (14, (.int .i64 ((k3 : Nat) : Int)))]) (fun _ (s56 : List (List Int)) (g57 : Hd) w' => Cx w0 fp0 S0 w' [Es (List (List Int)) m_ m_h, E (List (List Int)) s56 g57, Es (List (List Int)) rows_ rows_h]) [] nilH e ⟨rfl, rfl, rfl, rfl, rfl, rfl, rfl, trivial⟩ (H.sel [2, 0, 1] rfl) ?_ ?_
  · clear H e
    rintro T64 k3 s56 g57 w63 o65 hk (H : Cx w0 fp0 S0 w63 [Es (List (List Int)) m_ m_h, E (List (List Int)) s56 g57, Es (List (List Int)) rows_ rows_h]) hF66
    refine boolE (z := true) (ltLen hk) ?_
    refine sq ?_
    refine sq ?_
    obtain ⟨a73, e, hF74⟩ := bindS hF66; clear hF66
    have HH := H; clear H; obtain ⟨p71, m72, h75, c67, c68, c69, c70, H⟩ := HH.elL 2 rfl e; clear HH
    clear e
    refine idxE c67 c68 c69 ?_; clear c67 c68 c69
    refine load1 c70 ?_; clear c70
    obtain ⟨y77, e, hF78⟩ := bindS hF74; clear hF74
    have ey77 := e; clear e
    refine callF (spec_spSum_c p_ cols_ m_ m_h a73 h75 y77 ey77) (Γi := []) H ⟨Vw.sh 1 rfl, Vw.sh 0 rfl, trivial⟩ ?_; clear H ey77
    rintro _ _ w79 ⟨h80, rfl, rfl⟩ (H : Cx w0 fp0 S0 w79 [E (List Int) y77 h80, Es (List Int) a73 h75, Es (List (List Int)) m_ m_h, E (List (List Int)) s56 g57, Es (List (List Int)) rows_ rows_h])
    refine lit1 (α := List Int) (g := h80) gok rfl rfl rfl rfl rfl H ?_; clear H; intro h83 w82 hx H
    clear hx
    obtain ⟨a85, e, hF86⟩ := bindS hF78; clear hF78
    replace H := H.sel [3, 0, 1, 2, 4] rfl
    refine append_ (α := List Int) gok rfl rfl rfl rfl H e ?_; clear e H; intro h88 w87 H
    refine arK hk hmx59 ?_
    have hs := Option.some.inj hF86; subst hs; clear hF86
    exact ⟨h88, ⟨rfl, rfl, rfl, rfl, rfl, rfl, rfl, trivial⟩, H.sel [2, 0, 3] rfl⟩
  · clear H e
    rintro T91 g93 w90 (H : Cx w0 fp0 S0 w90 [Es (List (List Int)) m_ m_h, E (List (List Int)) r60 g93, Es (List (List Int)) rows_ rows_h])
    refine boolE (z := false) geLen ?_
    refine sq ?_
    cases hF61
    exact ⟨_, _, rfl, ⟨g93, rfl, rfl⟩, (H.sel [1] rfl).close ⟨cloE, trivial⟩⟩

theorem spec_ssMarkov_c (p_ : Int) (s__0 : Int) (s__1 : Int) (s__2 : Int) (s__3 : List (List Int)) (s__3h : Hd) (s__4 : List (List Int)) (s__4h : Hd) (s__5 : List (List Int)) (s__5h : Hd) (s__6 : List (List Int)) (s__6h : Hd) (n_ : Int) (y : List (Int × List (List Int))) (hF : F_spec_ssMarkov p_ (s__0, s__1, s__2, s__3, s__4, s__5, s__6) n_ = some y) :
    ConF Tryd.prog 76 #[(.int .i64 p_), (.agg #[(.int .i64 s__0), (.int .i64 s__1), (.int .i64 s__2), (s__3h).v, (s__4h).v, (s__5h).v, (s__6h).v]), (.int .i64 n_)] [Es (List (List Int)) s__3 s__3h, Es (List (List Int)) s__4 s__4h, Es (List (List Int)) s__5 s__5h, Es (List (List Int)) s__6 s__6h] [] (fun v Γ' => ∃ z0 : Hd, v = (z0).v ∧ Γ' = [E (List (Int × List (List Int))) y z0]) := by
  intro w0 S0 fp0 hI hS
  have H : Cx w0 fp0 S0 w0 [Es (List (List Int)) s__3 s__3h, Es (List (List Int)) s__4 s__4h, Es (List (List Int)) s__5 s__5h, Es (List (List Int)) s__6 s__6h] := Cx.start hI hS
  clear hI hS
  refine enterC (args := [_, _, _]) gok Tryd.func76 rfl _ rfl rfl rfl ?_
  refine box_ H ?_; clear H; intro b6 w5 hx H
  clear hx
  replace H : Cx w0 fp0 S0 w5 [Bx b6 [(.int .i64 s__0), (.int .i64 s__1), (.int .i64 s__2), (s__3h).v, (s__4h).v, (s__5h).v, (s__6h).v], Es (List (List Int)) s__3 s__3h, Es (List (List Int)) s__4 s__4h, Es (List (List Int)) s__5 s__5h, Es (List (List Int)) s__6 s__6h] := H
  refine fld gok rfl rfl rfl rfl ?_
  refine load1 (H.bx 0 rfl (j := 4) rfl) ?_
  obtain ⟨y8, e, hF9⟩ := bindS hF; clear hF
  have ey8 := e; clear e
  refine callF (spec_ssCopy_c s__4 s__4h y8 ey8) (Γi := []) H ⟨Vw.sh 2 rfl, trivial⟩ ?_; clear H ey8
  rintro _ _ w10 ⟨h11, rfl, rfl⟩ (H : Cx w0 fp0 S0 w10 [E (List (List Int)) y8 h11, Bx b6 [(.int .i64 s__0), (.int .i64 s__1), (.int .i64 s__2), (s__3h).v, (s__4h).v, (s__5h).v, (s__6h).v], Es (List (List Int)) s__3 s__3h, Es (List (List Int)) s__4 s__4h, Es (List (List Int)) s__5 s__5h, Es (List (List Int)) s__6 s__6h])
  obtain ⟨r333, hF335, hF334⟩ := bindS hF9; clear hF9
  refine cut (fun (q336 : (List (Int × List (List Int))) × Hd) => [(7, (q336.2).v)]) (fun (q336 : (List (Int × List (List Int))) × Hd) w' => q336.1 = r333 ∧ Cx w0 fp0 S0 w' [E (List (Int × List (List Int))) q336.1 q336.2]) ?_ ?_
  · skip
    replace H := H.nil (α := Int × List (List Int))
    refine loopW _ (fun (s543 : (List (Int × List (List Int))) × List (List Int) × Int) (g544 : Hd × Hd) => [(0, (.int .i64 p_)), (2, (.int .i64 n_)), (4, (.pointer (some ⟨b6, 0, none⟩))), (7, (g544.1).v), (8, (g544.2).v), (9, (.int .i64 s543.2.2))]) (fun (s543 : (List (Int × List (List Int))) × List (List Int) × Int) (g544 : Hd × Hd) w' => Cx w0 fp0 S0 w' [Bx b6 [(.int .i64 s__0), (.int .i64 s__1), (.int .i64 s__2), (s__3h).v, (s__4h).v, (s__5h).v, (s__6h).v], Es (List (List Int)) s__3 s__3h, Es (List (List Int)) s__4 s__4h, Es (List (List Int)) s__5 s__5h, Es (List (List Int)) s__6 s__6h, E (List (Int × List (List Int))) s543.1 g544.1, E (List (List Int)) s543.2.1 g544.2]) ([], y8, 0) (nilH, h11) hF335 ⟨rfl, rfl, rfl, rfl, rfl, rfl, trivial⟩ (H.sel [2, 3, 4, 5, 6, 0, 1] rfl) ?_
    · clear H
      rintro T552 ⟨s543_0, s543_1, s543_2⟩ ⟨g544_0, g544_1⟩ w551 o553 (H : Cx w0 fp0 S0 w551 [Bx b6 [(.int .i64 s__0), (.int .i64 s__1), (.int .i64 s__2), (s__3h).v, (s__4h).v, (s__5h).v, (s__6h).v], Es (List (List Int)) s__3 s__3h, Es (List (List Int)) s__4 s__4h, Es (List (List Int)) s__5 s__5h, Es (List (List Int)) s__6 s__6h, E (List (Int × List (List Int))) s543_0 g544_0, E (List (List Int)) s543_1 g544_1]) hrt hF554
      refine sq ?_
      obtain ⟨a555, e, hF556⟩ := bindS hF554; clear hF554
      refine boolO e ?_; clear e
      cases a555
      · have hF557 := condF hF556; clear hF556
        have hs := Option.some.inj hF557; subst hs; clear hF557
        have hF558 : some _ = some _ := congrArg some (hrt _ rfl).symm
        exact ⟨(s543_0, g544_0), ⟨rfl, trivial⟩, Option.some.inj hF558, H.sel [5] rfl⟩
      · have hF559 := condT hF556; clear hF556
        obtain ⟨r605, hF607, hF606⟩ := bindS hF559; clear hF559
        refine cut (fun (q608 : ((List (Int × List (List Int))) × List (List Int)) × (Hd × Hd)) => [(0, (.int .i64 p_)), (2, (.int .i64 n_)), (4, (.pointer (some ⟨b6, 0, none⟩))), (7, (q608.2.1).v), (8, (q608.2.2).v), (9, (.int .i64 s543_2))]) (fun (q608 : ((List (Int × List (List Int))) × List (List Int)) × (Hd × Hd)) w' => (q608.1.1, q608.1.2) = r605 ∧ Cx w0 fp0 S0 w' [Bx b6 [(.int .i64 s__0), (.int .i64 s__1), (.int .i64 s__2), (s__3h).v, (s__4h).v, (s__5h).v, (s__6h).v], Es (List (List Int)) s__3 s__3h, Es (List (List Int)) s__4 s__4h, Es (List (List Int)) s__5 s__5h, Es (List (List Int)) s__6 s__6h, E (List (Int × List (List Int))) q608.1.1 q608.2.1, E (List (List Int)) q608.1.2 q608.2.2]) ?_ ?_
        · skip
          refine sq ?_
          obtain ⟨a609, e, hF610⟩ := bindS hF607; clear hF607
          refine boolO e ?_; clear e
          cases a609
          · have hF611 := condF hF610; clear hF610
            refine heldX H [12, 13] (.fst 0 (.fst 1 (.fst 3 (.fst 4 (.fst 6 (.fst 7 (.fst 2 (.fst 5 (.fst 8 (.act 9 (.fst 10 (.act 11 (.act 12 (.act 13 .done)))))))))))))) mixed [] trivial (by kernel_rfl) ?_; clear H; intro w612 H
            have hX : Ext w612 w612 := Upd.refl _ _
            have H0 := H
            refine anyH (fun _ => fld gok rfl rfl rfl rfl ⟨rfl, rfl⟩) ?_
            refine anyH (fun _ => fld gok rfl rfl rfl rfl ⟨rfl, rfl⟩) ?_
            refine anyH (fun _ => fld gok rfl rfl rfl rfl ⟨rfl, rfl⟩) ?_
            refine load1X (H.bx 0 rfl (j := 2) rfl) ?_
            refine load1X (H.bx 0 rfl (j := 2) rfl) ?_
            refine load1X (H.bx 0 rfl (j := 5) rfl) ?_
            obtain ⟨y613, e, hF614⟩ := bindS hF611; clear hF611
            have ey613 := e; clear e
            refine callFx (spec_ssTimes_c p_ s__2 s543_1 g544_1 s__5 s__5h y613 ey613) H ⟨Vw.own 6 rfl, Vw.sh 3 rfl, trivial⟩ ?_; clear H ey613
            rintro _ _ w615 ⟨h616, rfl, rfl⟩ hx (H : Cx w0 fp0 S0 w615 [E (List (List Int)) y613 h616, Bx b6 [(.int .i64 s__0), (.int .i64 s__1), (.int .i64 s__2), (s__3h).v, (s__4h).v, (s__5h).v, (s__6h).v], Es (List (List Int)) s__3 s__3h, Es (List (List Int)) s__4 s__4h, Es (List (List Int)) s__5 s__5h, Es (List (List Int)) s__6 s__6h, E (List (Int × List (List Int))) s543_0 g544_0, E (List (List Int)) s543_1 g544_1])
            replace hX := hX.trans0 hx; clear hx
            refine hold hX ?_
            refine anyH (fun _ => build_ (cs := #[(.int .i64 s__2), (h616).v]) gok rfl rfl rfl ⟨rfl, rfl⟩) ?_
            replace H := H.sc (α := Int) s__2
            replace H := H.join (α := Int) (β := List (List Int))
            refine lit1 (α := Int × List (List Int)) (g := ((), h616)) gok rfl rfl rfl rfl rfl H ?_; clear H; intro h619 w618 hx H
            replace hX := hX.trans0 hx; clear hx
            refine hold hX ?_
            obtain ⟨a623, e, hF624⟩ := bindS hF614; clear hF614
            replace H := H.sel [6, 0, 1, 2, 3, 4, 5, 7] rfl
            refine append_ (α := Int × List (List Int)) gok rfl rfl rfl rfl H e ?_; clear e H; intro h626 w625 H
            refine hold trivial ?_
            refine hold trivial ?_
            refine fld gok rfl rfl rfl rfl ?_
            refine load1 (H.bx 1 rfl (j := 0) rfl) ?_
            refine fld gok rfl rfl rfl rfl ?_
            refine load1 (H.bx 1 rfl (j := 3) rfl) ?_
            obtain ⟨y628, e, hF629⟩ := bindS hF624; clear hF624
            have ey628 := e; clear e
            refine callF (spec_ssTimes_c p_ s__0 s543_1 g544_1 s__3 s__3h y628 ey628) (Γi := []) H ⟨Vw.own 6 rfl, Vw.sh 2 rfl, trivial⟩ ?_; clear H ey628
            rintro _ _ w630 ⟨h631, rfl, rfl⟩ (H : Cx w0 fp0 S0 w630 [E (List (List Int)) y628 h631, E (List (Int × List (List Int))) a623 h626, Bx b6 [(.int .i64 s__0), (.int .i64 s__1), (.int .i64 s__2), (s__3h).v, (s__4h).v, (s__5h).v, (s__6h).v], Es (List (List Int)) s__3 s__3h, Es (List (List Int)) s__4 s__4h, Es (List (List Int)) s__5 s__5h, Es (List (List Int)) s__6 s__6h, E (List (List Int)) s543_1 g544_1])
            exact ⟨((a623, y628), (h626, h631)), ⟨rfl, rfl, rfl, rfl, rfl, rfl, trivial⟩, Option.some.inj hF629, H.sel [2, 3, 4, 5, 6, 1, 0] rfl⟩
          · have hF633 := condT hF610; clear hF610
            refine heldX H [8, 9] (.fst 0 (.fst 1 (.fst 3 (.fst 2 (.fst 4 (.act 5 (.fst 6 (.act 7 (.act 8 (.act 9 .done)))))))))) mixed [] trivial (by kernel_rfl) ?_; clear H; intro w634 H
            have hX : Ext w634 w634 := Upd.refl _ _
            have H0 := H
            refine anyH (fun _ => fld gok rfl rfl rfl rfl ⟨rfl, rfl⟩) ?_
            refine anyH (fun _ => fld gok rfl rfl rfl rfl ⟨rfl, rfl⟩) ?_
            refine load1X (H.bx 0 rfl (j := 2) rfl) ?_
            refine load1X (H.bx 0 rfl (j := 6) rfl) ?_
            obtain ⟨y635, e, hF636⟩ := bindS hF633; clear hF633
            have ey635 := e; clear e
            refine callFx (spec_ssCopy_c s__6 s__6h y635 ey635) H ⟨Vw.sh 4 rfl, trivial⟩ ?_; clear H ey635
            rintro _ _ w637 ⟨h638, rfl, rfl⟩ hx (H : Cx w0 fp0 S0 w637 [E (List (List Int)) y635 h638, Bx b6 [(.int .i64 s__0), (.int .i64 s__1), (.int .i64 s__2), (s__3h).v, (s__4h).v, (s__5h).v, (s__6h).v], Es (List (List Int)) s__3 s__3h, Es (List (List Int)) s__4 s__4h, Es (List (List Int)) s__5 s__5h, Es (List (List Int)) s__6 s__6h, E (List (Int × List (List Int))) s543_0 g544_0, E (List (List Int)) s543_1 g544_1])
            replace hX := hX.trans0 hx; clear hx
            refine hold hX ?_
            refine anyH (fun _ => build_ (cs := #[(.int .i64 s__2), (h638).v]) gok rfl rfl rfl ⟨rfl, rfl⟩) ?_
            replace H := H.sc (α := Int) s__2
            replace H := H.join (α := Int) (β := List (List Int))
            refine lit1 (α := Int × List (List Int)) (g := ((), h638)) gok rfl rfl rfl rfl rfl H ?_; clear H; intro h641 w640 hx H
            replace hX := hX.trans0 hx; clear hx
            refine hold hX ?_
            obtain ⟨a645, e, hF646⟩ := bindS hF636; clear hF636
            replace H := H.sel [6, 0, 1, 2, 3, 4, 5, 7] rfl
            refine append_ (α := Int × List (List Int)) gok rfl rfl rfl rfl H e ?_; clear e H; intro h648 w647 H
            refine hold trivial ?_
            refine hold trivial ?_
            exact ⟨((a645, s543_1), (h648, g544_1)), ⟨rfl, rfl, rfl, rfl, rfl, rfl, trivial⟩, Option.some.inj hF646, H.sel [1, 2, 3, 4, 5, 0, 6] rfl⟩
        · clear hF607 H
          rintro T651 ⟨⟨s601_0, s601_1⟩, ⟨g602_0, g602_1⟩⟩ w650 ⟨hr, (H : Cx w0 fp0 S0 w650 [Bx b6 [(.int .i64 s__0), (.int .i64 s__1), (.int .i64 s__2), (s__3h).v, (s__4h).v, (s__5h).v, (s__6h).v], Es (List (List Int)) s__3 s__3h, Es (List (List Int)) s__4 s__4h, Es (List (List Int)) s__5 s__5h, Es (List (List Int)) s__6 s__6h, E (List (Int × List (List Int))) s601_0 g602_0, E (List (List Int)) s601_1 g602_1])⟩
          subst hr
          obtain ⟨a652, e, hF653⟩ := bindS hF606; clear hF606
          refine arO e ?_; clear e
          have hs := Option.some.inj hF653; subst hs; clear hF653
          exact ⟨(s601_0, s601_1, a652), (g602_0, g602_1), rfl, ⟨rfl, rfl, rfl, rfl, rfl, rfl, trivial⟩, H.sel [0, 1, 2, 3, 4, 5, 6] rfl⟩
  · clear hF335 H
    rintro T655 ⟨s330, g331⟩ w654 ⟨hr, (H : Cx w0 fp0 S0 w654 [E (List (Int × List (List Int))) s330 g331])⟩
    subst hr
    cases hF334
    exact ⟨_, _, rfl, ⟨g331, rfl, rfl⟩, (H.sel [0] rfl).close ⟨cloE, trivial⟩⟩

theorem spec_MarkovParameters_c (p_ : Int) (s__0 : Int) (s__1 : Int) (s__2 : Int) (s__3 : List (List Int)) (s__3h : Hd) (s__4 : List (List Int)) (s__4h : Hd) (s__5 : List (List Int)) (s__5h : Hd) (s__6 : List (List Int)) (s__6h : Hd) (n_ : Int) (y0 : List (Int × List (List Int))) (y1 : Bool) (hF : F_spec_MarkovParameters p_ (s__0, s__1, s__2, s__3, s__4, s__5, s__6) n_ = some (y0, y1)) :
    ConF Tryd.prog 24 #[(.int .i64 p_), (.agg #[(.int .i64 s__0), (.int .i64 s__1), (.int .i64 s__2), (s__3h).v, (s__4h).v, (s__5h).v, (s__6h).v]), (.int .i64 n_)] [Es (List (List Int)) s__3 s__3h, Es (List (List Int)) s__4 s__4h, Es (List (List Int)) s__5 s__5h, Es (List (List Int)) s__6 s__6h] [] (fun v Γ' => ∃ z0 : Hd, v = (.tuple #[(z0).v, (.bool y1)]) ∧ Γ' = [E (List (Int × List (List Int))) y0 z0]) := by
  intro w0 S0 fp0 hI hS
  have H : Cx w0 fp0 S0 w0 [Es (List (List Int)) s__3 s__3h, Es (List (List Int)) s__4 s__4h, Es (List (List Int)) s__5 s__5h, Es (List (List Int)) s__6 s__6h] := Cx.start hI hS
  clear hI hS
  refine enterC (args := [_, _, _]) gok Tryd.func24 rfl _ rfl rfl rfl ?_
  refine box_ H ?_; clear H; intro b6 w5 hx H
  clear hx
  replace H : Cx w0 fp0 S0 w5 [Bx b6 [(.int .i64 s__0), (.int .i64 s__1), (.int .i64 s__2), (s__3h).v, (s__4h).v, (s__5h).v, (s__6h).v], Es (List (List Int)) s__3 s__3h, Es (List (List Int)) s__4 s__4h, Es (List (List Int)) s__5 s__5h, Es (List (List Int)) s__6 s__6h] := H
  refine sq ?_
  obtain ⟨r22, hF24, hF23⟩ := bindS hF; clear hF
  refine cut (fun (q25 : Bool) => [(0, (.int .i64 p_)), (2, (.int .i64 n_)), (4, (.pointer (some ⟨b6, 0, none⟩))), (16, (.bool q25))]) (fun (q25 : Bool) w' => q25 = r22 ∧ Cx w0 fp0 S0 w' [Bx b6 [(.int .i64 s__0), (.int .i64 s__1), (.int .i64 s__2), (s__3h).v, (s__4h).v, (s__5h).v, (s__6h).v], Es (List (List Int)) s__3 s__3h, Es (List (List Int)) s__4 s__4h, Es (List (List Int)) s__5 s__5h, Es (List (List Int)) s__6 s__6h]) ?_ ?_
  · skip
    refine loadN [(.int .i64 s__0), (.int .i64 s__1), (.int .i64 s__2), (s__3h).v, (s__4h).v, (s__5h).v, (s__6h).v] rfl (fun j u hj => H.bx 0 rfl hj) ?_
    obtain ⟨y26, e, hF27⟩ := bindS hF24; clear hF24
    have ey26 := e; clear e
    refine callF (spec_ssGood_c p_ s__0 s__1 s__2 s__3 s__3h s__4 s__4h s__5 s__5h s__6 s__6h y26 ey26) (Γi := []) H ⟨Vw.sh 1 rfl, Vw.sh 2 rfl, Vw.sh 3 rfl, Vw.sh 4 rfl, trivial⟩ ?_; clear H ey26
    rintro _ _ w28 ⟨rfl, rfl⟩ (H : Cx w0 fp0 S0 w28 [Bx b6 [(.int .i64 s__0), (.int .i64 s__1), (.int .i64 s__2), (s__3h).v, (s__4h).v, (s__5h).v, (s__6h).v], Es (List (List Int)) s__3 s__3h, Es (List (List Int)) s__4 s__4h, Es (List (List Int)) s__5 s__5h, Es (List (List Int)) s__6 s__6h])
    obtain ⟨a29, e, hF30⟩ := bindS hF27; clear hF27
    refine boolO e ?_; clear e
    cases a29
    · have hF31 := condF hF30; clear hF30
      obtain ⟨y32, e, hF33⟩ := bindS hF31; clear hF31
      have ey32 := e; clear e
      refine callF (spec_l1In_c n_ 0 60 y32 ey32) (Γi := []) H trivial ?_; clear H ey32
      rintro _ _ w34 ⟨rfl, rfl⟩ (H : Cx w0 fp0 S0 w34 [Bx b6 [(.int .i64 s__0), (.int .i64 s__1), (.int .i64 s__2), (s__3h).v, (s__4h).v, (s__5h).v, (s__6h).v], Es (List (List Int)) s__3 s__3h, Es (List (List Int)) s__4 s__4h, Es (List (List Int)) s__5 s__5h, Es (List (List Int)) s__6 s__6h])
      obtain ⟨a35, e, hF36⟩ := bindS hF33; clear hF33
      refine boolO e ?_; clear e
      exact ⟨a35, ⟨rfl, rfl, rfl, rfl, trivial⟩, Option.some.inj hF36, H.sel [0, 1, 2, 3, 4] rfl⟩
    · have hF37 := condT hF30; clear hF30
      exact ⟨true, ⟨rfl, rfl, rfl, rfl, trivial⟩, Option.some.inj hF37, H.sel [0, 1, 2, 3, 4] rfl⟩
  · clear hF24 H
    rintro T39 s20 w38 ⟨hr, (H : Cx w0 fp0 S0 w38 [Bx b6 [(.int .i64 s__0), (.int .i64 s__1), (.int .i64 s__2), (s__3h).v, (s__4h).v, (s__5h).v, (s__6h).v], Es (List (List Int)) s__3 s__3h, Es (List (List Int)) s__4 s__4h, Es (List (List Int)) s__5 s__5h, Es (List (List Int)) s__6 s__6h])⟩
    subst hr
    cases s20
    · have hF40 := condF hF23; clear hF23
      refine loadN [(.int .i64 s__0), (.int .i64 s__1), (.int .i64 s__2), (s__3h).v, (s__4h).v, (s__5h).v, (s__6h).v] rfl (fun j u hj => H.bx 0 rfl hj) ?_
      obtain ⟨y41, e, hF42⟩ := bindS hF40; clear hF40
      have ey41 := e; clear e
      refine callF (spec_ssMarkov_c p_ s__0 s__1 s__2 s__3 s__3h s__4 s__4h s__5 s__5h s__6 s__6h n_ y41 ey41) (Γi := []) H ⟨Vw.sh 1 rfl, Vw.sh 2 rfl, Vw.sh 3 rfl, Vw.sh 4 rfl, trivial⟩ ?_; clear H ey41
      rintro _ _ w43 ⟨h44, rfl, rfl⟩ (H : Cx w0 fp0 S0 w43 [E (List (Int × List (List Int))) y41 h44, Bx b6 [(.int .i64 s__0), (.int .i64 s__1), (.int .i64 s__2), (s__3h).v, (s__4h).v, (s__5h).v, (s__6h).v], Es (List (List Int)) s__3 s__3h, Es (List (List Int)) s__4 s__4h, Es (List (List Int)) s__5 s__5h, Es (List (List Int)) s__6 s__6h])
      cases hF42
      exact ⟨_, _, rfl, ⟨h44, rfl, rfl⟩, (H.sel [0] rfl).close ⟨cloE, trivial⟩⟩
    · have hF46 := condT hF23; clear hF23
      replace H := H.nil (α := Int × List (List Int))
      cases hF46
      exact ⟨_, _, rfl, ⟨nilH, rfl, rfl⟩, (H.sel [0] rfl).close ⟨cloE, trivial⟩⟩

theorem impl_table_int_hasShape_c (t_ : List (List Int)) (t_h : Hd) (rows_ : Int) (cols_ : Int) (y : Bool) (hF : F_impl_table_int_hasShape t_ rows_ cols_ = some y) :
    ConF Tryd.prog 126 #[(t_h).v, (.int .i64 rows_), (.int .i64 cols_)] [Es (List (List Int)) t_ t_h] [] (fun v Γ' => v = (.bool y) ∧ Γ' = []) := by
  intro w0 S0 fp0 hI hS
  have H : Cx w0 fp0 S0 w0 [Es (List (List Int)) t_ t_h] := Cx.start hI hS
  clear hI hS
  refine enterC (args := [_, _, _]) gok Tryd.func126 rfl _ rfl rfl rfl ?_
  refine sq ?_
  refine lenE (H.rs (α := List (List Int)) 0 rfl).len ?_
  obtain ⟨a2, e, hF3⟩ := bindS hF; clear hF
  refine boolO e ?_; clear e
  cases a2
  · have hF4 := condF hF3; clear hF3
    refine sq ?_
    obtain ⟨a24, hn, hF25⟩ := bindS hF4; clear hF4
    obtain ⟨r27, e, hF28⟩ := bindS hF25; clear hF25
    refine loopO _ rows_.toNat (fun (k5 : Nat) (_ : Unit) (_ : Unit) => [(0, (t_h).v), (2, (.int .i64 cols_)), (12, (.int .i64 rows_)), (13, (.int .i64 ((k5 : Nat) : Int)))]) (fun _ (_ : Unit) (_ : Unit) w' => Cx w0 fp0 S0 w' [Es (List (List Int)) t_ t_h]) () () e ⟨rfl, rfl, rfl, rfl, trivial⟩ (H.sel [0] rfl) ?_ ?_
    · clear H e
      rintro T30 k5 _ _ w29 o31 hk (H : Cx w0 fp0 S0 w29 [Es (List (List Int)) t_ t_h]) hrt hF32
      refine boolE (z := true) (ltNat hk) ?_
      refine sq ?_
      refine sq ?_
      obtain ⟨a39, e, hF40⟩ := bindS hF32; clear hF32
      have HH := H; clear H; obtain ⟨p37, m38, h41, c33, c34, c35, c36, H⟩ := HH.elL 0 rfl e; clear HH
      clear e
      refine idxE c33 c34 c35 ?_; clear c33 c34 c35
      refine load1 c36 ?_; clear c36
      refine lenE (H.rs (α := List Int) 0 rfl).len ?_
      obtain ⟨a43, e, hF44⟩ := bindS hF40; clear hF40
      refine boolO e ?_; clear e
      cases a43
      · have hF45 := condF hF44; clear hF44
        refine arK hk (maxI hn) ?_
        have hs := Option.some.inj hF45; subst hs; clear hF45
        exact ⟨(), (), rfl, ⟨rfl, rfl, rfl, rfl, trivial⟩, H.sel [1] rfl⟩
      · have hF46 := condT hF44; clear hF44
        have hs := Option.some.inj hF46; subst hs; clear hF46
        have hr := hrt _ rfl; subst hr
        have hF47 : some _ = some _ := hF28
        cases hF47
        exact ⟨_, _, rfl, ⟨rfl, rfl⟩, (H.sel [] rfl).close trivial⟩
    · clear H e
      rintro T49 _ _ w48 hr (H : Cx w0 fp0 S0 w48 [Es (List (List Int)) t_ t_h])
      subst hr
      refine boolE (z := false) geNat ?_
      refine sq ?_
      cases hF28
      exact ⟨_, _, rfl, ⟨rfl, rfl⟩, (H.sel [] rfl).close trivial⟩
  · have hF52 := condT hF3; clear hF3
    cases hF52
    exact ⟨_, _, rfl, ⟨rfl, rfl⟩, (H.sel [] rfl).close trivial⟩

theorem impl_isStateSpace_c (p_ : Int) (s__0 : Int) (s__1 : Int) (s__2 : Int) (s__3 : List (List Int)) (s__3h : Hd) (s__4 : List (List Int)) (s__4h : Hd) (s__5 : List (List Int)) (s__5h : Hd) (s__6 : List (List Int)) (s__6h : Hd) (y : Bool) (hF : F_impl_isStateSpace p_ (s__0, s__1, s__2, s__3, s__4, s__5, s__6) = some y) :
    ConF Tryd.prog 77 #[(.int .i64 p_), (.agg #[(.int .i64 s__0), (.int .i64 s__1), (.int .i64 s__2), (s__3h).v, (s__4h).v, (s__5h).v, (s__6h).v])] [Es (List (List Int)) s__3 s__3h, Es (List (List Int)) s__4 s__4h, Es (List (List Int)) s__5 s__5h, Es (List (List Int)) s__6 s__6h, Gl 0 [.int .i64 2, .int .i64 3, .int .i64 5, .int .i64 7]] [] (fun v Γ' => v = (.bool y) ∧ Γ' = []) := by
  intro w0 S0 fp0 hI hS
  have H : Cx w0 fp0 S0 w0 [Es (List (List Int)) s__3 s__3h, Es (List (List Int)) s__4 s__4h, Es (List (List Int)) s__5 s__5h, Es (List (List Int)) s__6 s__6h, Gl 0 [.int .i64 2, .int .i64 3, .int .i64 5, .int .i64 7]] := Cx.start hI hS
  clear hI hS
  refine enterC (args := [_, _]) gok Tryd.func77 rfl _ rfl rfl rfl ?_
  refine box_ H ?_; clear H; intro b7 w6 hx H
  clear hx
  replace H : Cx w0 fp0 S0 w6 [Bx b7 [(.int .i64 s__0), (.int .i64 s__1), (.int .i64 s__2), (s__3h).v, (s__4h).v, (s__5h).v, (s__6h).v], Es (List (List Int)) s__3 s__3h, Es (List (List Int)) s__4 s__4h, Es (List (List Int)) s__5 s__5h, Es (List (List Int)) s__6 s__6h, Gl 0 [.int .i64 2, .int .i64 3, .int .i64 5, .int .i64 7]] := H
  refine sq ?_
  obtain ⟨r37, hF39, hF38⟩ := bindS hF; clear hF
  refine cut (fun (q40 : Bool) => [(0, (.int .i64 p_)), (3, (.pointer (some ⟨b7, 0, none⟩))), (25, (.bool q40))]) (fun (q40 : Bool) w' => q40 = r37 ∧ Cx w0 fp0 S0 w' [Bx b7 [(.int .i64 s__0), (.int .i64 s__1), (.int .i64 s__2), (s__3h).v, (s__4h).v, (s__5h).v, (s__6h).v], Es (List (List Int)) s__3 s__3h, Es (List (List Int)) s__4 s__4h, Es (List (List Int)) s__5 s__5h, Es (List (List Int)) s__6 s__6h, Gl 0 [.int .i64 2, .int .i64 3, .int .i64 5, .int .i64 7]]) ?_ ?_
  · skip
    obtain ⟨y41, e, hF42⟩ := bindS hF39; clear hF39
    have ey41 := e; clear e
    refine callF (impl_isField_c p_ y41 ey41) (Γi := []) H ⟨Vw.gl 5 rfl, trivial⟩ ?_; clear H ey41
    rintro _ _ w43 ⟨rfl, rfl⟩ (H : Cx w0 fp0 S0 w43 [Bx b7 [(.int .i64 s__0), (.int .i64 s__1), (.int .i64 s__2), (s__3h).v, (s__4h).v, (s__5h).v, (s__6h).v], Es (List (List Int)) s__3 s__3h, Es (List (List Int)) s__4 s__4h, Es (List (List Int)) s__5 s__5h, Es (List (List Int)) s__6 s__6h, Gl 0 [.int .i64 2, .int .i64 3, .int .i64 5, .int .i64 7]])
    obtain ⟨a44, e, hF45⟩ := bindS hF42; clear hF42
    refine boolO e ?_; clear e
    cases a44
    · have hF46 := condF hF45; clear hF45
      refine fld gok rfl rfl rfl rfl ?_
      refine load1 (H.bx 0 rfl (j := 0) rfl) ?_
      obtain ⟨y47, e, hF48⟩ := bindS hF46; clear hF46
      have ey47 := e; clear e
      refine callF (impl_within_c s__0 0 24 y47 ey47) (Γi := []) H trivial ?_; clear H ey47
      rintro _ _ w49 ⟨rfl, rfl⟩ (H : Cx w0 fp0 S0 w49 [Bx b7 [(.int .i64 s__0), (.int .i64 s__1), (.int .i64 s__2), (s__3h).v, (s__4h).v, (s__5h).v, (s__6h).v], Es (List (List Int)) s__3 s__3h, Es (List (List Int)) s__4 s__4h, Es (List (List Int)) s__5 s__5h, Es (List (List Int)) s__6 s__6h, Gl 0 [.int .i64 2, .int .i64 3, .int .i64 5, .int .i64 7]])
      obtain ⟨a50, e, hF51⟩ := bindS hF48; clear hF48
      refine boolO e ?_; clear e
      cases a50
      · have hF52 := condF hF51; clear hF51
        refine fld gok rfl rfl rfl rfl ?_
        refine load1 (H.bx 0 rfl (j := 1) rfl) ?_
        obtain ⟨y53, e, hF54⟩ := bindS hF52; clear hF52
        have ey53 := e; clear e
        refine callF (impl_within_c s__1 0 8 y53 ey53) (Γi := []) H trivial ?_; clear H ey53
        rintro _ _ w55 ⟨rfl, rfl⟩ (H : Cx w0 fp0 S0 w55 [Bx b7 [(.int .i64 s__0), (.int .i64 s__1), (.int .i64 s__2), (s__3h).v, (s__4h).v, (s__5h).v, (s__6h).v], Es (List (List Int)) s__3 s__3h, Es (List (List Int)) s__4 s__4h, Es (List (List Int)) s__5 s__5h, Es (List (List Int)) s__6 s__6h, Gl 0 [.int .i64 2, .int .i64 3, .int .i64 5, .int .i64 7]])
        obtain ⟨a56, e, hF57⟩ := bindS hF54; clear hF54
        refine boolO e ?_; clear e
        cases a56
        · have hF58 := condF hF57; clear hF57
          refine fld gok rfl rfl rfl rfl ?_
          refine load1 (H.bx 0 rfl (j := 2) rfl) ?_
          obtain ⟨y59, e, hF60⟩ := bindS hF58; clear hF58
          have ey59 := e; clear e
          refine callF (impl_within_c s__2 0 8 y59 ey59) (Γi := []) H trivial ?_; clear H ey59
          rintro _ _ w61 ⟨rfl, rfl⟩ (H : Cx w0 fp0 S0 w61 [Bx b7 [(.int .i64 s__0), (.int .i64 s__1), (.int .i64 s__2), (s__3h).v, (s__4h).v, (s__5h).v, (s__6h).v], Es (List (List Int)) s__3 s__3h, Es (List (List Int)) s__4 s__4h, Es (List (List Int)) s__5 s__5h, Es (List (List Int)) s__6 s__6h, Gl 0 [.int .i64 2, .int .i64 3, .int .i64 5, .int .i64 7]])
          obtain ⟨a62, e, hF63⟩ := bindS hF60; clear hF60
          refine boolO e ?_; clear e
          exact ⟨a62, ⟨rfl, rfl, rfl, trivial⟩, Option.some.inj hF63, H.sel [0, 1, 2, 3, 4, 5] rfl⟩
        · have hF64 := condT hF57; clear hF57
          exact ⟨true, ⟨rfl, rfl, rfl, trivial⟩, Option.some.inj hF64, H.sel [0, 1, 2, 3, 4, 5] rfl⟩
      · have hF65 := condT hF51; clear hF51
        exact ⟨true, ⟨rfl, rfl, rfl, trivial⟩, Option.some.inj hF65, H.sel [0, 1, 2, 3, 4, 5] rfl⟩
    · have hF66 := condT hF45; clear hF45
      exact ⟨true, ⟨rfl, rfl, rfl, trivial⟩, Option.some.inj hF66, H.sel [0, 1, 2, 3, 4, 5] rfl⟩
  · clear hF39 H
    rintro T68 s35 w67 ⟨hr, (H : Cx w0 fp0 S0 w67 [Bx b7 [(.int .i64 s__0), (.int .i64 s__1), (.int .i64 s__2), (s__3h).v, (s__4h).v, (s__5h).v, (s__6h).v], Es (List (List Int)) s__3 s__3h, Es (List (List Int)) s__4 s__4h, Es (List (List Int)) s__5 s__5h, Es (List (List Int)) s__6 s__6h, Gl 0 [.int .i64 2, .int .i64 3, .int .i64 5, .int .i64 7]])⟩
    subst hr
    cases s35
    · have hF69 := condF hF38; clear hF38
      refine sq ?_
      obtain ⟨r98, hF100, hF99⟩ := bindS hF69; clear hF69
      refine cut (fun (q101 : Bool) => [(0, (.int .i64 p_)), (3, (.pointer (some ⟨b7, 0, none⟩))), (63, (.bool q101))]) (fun (q101 : Bool) w' => q101 = r98 ∧ Cx w0 fp0 S0 w' [Bx b7 [(.int .i64 s__0), (.int .i64 s__1), (.int .i64 s__2), (s__3h).v, (s__4h).v, (s__5h).v, (s__6h).v], Es (List (List Int)) s__3 s__3h, Es (List (List Int)) s__4 s__4h, Es (List (List Int)) s__5 s__5h, Es (List (List Int)) s__6 s__6h, Gl 0 [.int .i64 2, .int .i64 3, .int .i64 5, .int .i64 7]]) ?_ ?_
      · skip
        refine fld gok rfl rfl rfl rfl ?_
        refine load1 (H.bx 0 rfl (j := 3) rfl) ?_
        refine fld gok rfl rfl rfl rfl ?_
        refine load1 (H.bx 0 rfl (j := 0) rfl) ?_
        refine fld gok rfl rfl rfl rfl ?_
        refine load1 (H.bx 0 rfl (j := 0) rfl) ?_
        obtain ⟨y102, e, hF103⟩ := bindS hF100; clear hF100
        have ey102 := e; clear e
        refine callF (impl_table_int_hasShape_c s__3 s__3h s__0 s__0 y102 ey102) (Γi := []) H ⟨Vw.sh 1 rfl, trivial⟩ ?_; clear H ey102
        rintro _ _ w104 ⟨rfl, rfl⟩ (H : Cx w0 fp0 S0 w104 [Bx b7 [(.int .i64 s__0), (.int .i64 s__1), (.int .i64 s__2), (s__3h).v, (s__4h).v, (s__5h).v, (s__6h).v], Es (List (List Int)) s__3 s__3h, Es (List (List Int)) s__4 s__4h, Es (List (List Int)) s__5 s__5h, Es (List (List Int)) s__6 s__6h, Gl 0 [.int .i64 2, .int .i64 3, .int .i64 5, .int .i64 7]])
        obtain ⟨a105, e, hF106⟩ := bindS hF103; clear hF103
        refine boolO e ?_; clear e
        cases a105
        · have hF107 := condF hF106; clear hF106
          refine fld gok rfl rfl rfl rfl ?_
          refine load1 (H.bx 0 rfl (j := 4) rfl) ?_
          refine fld gok rfl rfl rfl rfl ?_
          refine load1 (H.bx 0 rfl (j := 1) rfl) ?_
          refine fld gok rfl rfl rfl rfl ?_
          refine load1 (H.bx 0 rfl (j := 0) rfl) ?_
          obtain ⟨y108, e, hF109⟩ := bindS hF107; clear hF107
          have ey108 := e; clear e
          refine callF (impl_table_int_hasShape_c s__4 s__4h s__1 s__0 y108 ey108) (Γi := []) H ⟨Vw.sh 2 rfl, trivial⟩ ?_; clear H ey108
          rintro _ _ w110 ⟨rfl, rfl⟩ (H : Cx w0 fp0 S0 w110 [Bx b7 [(.int .i64 s__0), (.int .i64 s__1), (.int .i64 s__2), (s__3h).v, (s__4h).v, (s__5h).v, (s__6h).v], Es (List (List Int)) s__3 s__3h, Es (List (List Int)) s__4 s__4h, Es (List (List Int)) s__5 s__5h, Es (List (List Int)) s__6 s__6h, Gl 0 [.int .i64 2, .int .i64 3, .int .i64 5, .int .i64 7]])
          obtain ⟨a111, e, hF112⟩ := bindS hF109; clear hF109
          refine boolO e ?_; clear e
          cases a111
          · have hF113 := condF hF112; clear hF112
            refine fld gok rfl rfl rfl rfl ?_
            refine load1 (H.bx 0 rfl (j := 5) rfl) ?_
            refine fld gok rfl rfl rfl rfl ?_
            refine load1 (H.bx 0 rfl (j := 0) rfl) ?_
            refine fld gok rfl rfl rfl rfl ?_
            refine load1 (H.bx 0 rfl (j := 2) rfl) ?_
            obtain ⟨y114, e, hF115⟩ := bindS hF113; clear hF113
            have ey114 := e; clear e
            refine callF (impl_table_int_hasShape_c s__5 s__5h s__0 s__2 y114 ey114) (Γi := []) H ⟨Vw.sh 3 rfl, trivial⟩ ?_; clear H ey114
            rintro _ _ w116 ⟨rfl, rfl⟩ (H : Cx w0 fp0 S0 w116 [Bx b7 [(.int .i64 s__0), (.int .i64 s__1), (.int .i64 s__2), (s__3h).v, (s__4h).v, (s__5h).v, (s__6h).v], Es (List (List Int)) s__3 s__3h, Es (List (List Int)) s__4 s__4h, Es (List (List Int)) s__5 s__5h, Es (List (List Int)) s__6 s__6h, Gl 0 [.int .i64 2, .int .i64 3, .int .i64 5, .int .i64 7]])
            obtain ⟨a117, e, hF118⟩ := bindS hF115; clear hF115
            refine boolO e ?_; clear e
            cases a117
            · have hF119 := condF hF118; clear hF118
              refine fld gok rfl rfl rfl rfl ?_
              refine load1 (H.bx 0 rfl (j := 6) rfl) ?_
              refine fld gok rfl rfl rfl rfl ?_
              refine load1 (H.bx 0 rfl (j := 1) rfl) ?_
              refine fld gok rfl rfl rfl rfl ?_
              refine load1 (H.bx 0 rfl (j := 2) rfl) ?_
              obtain ⟨y120, e, hF121⟩ := bindS hF119; clear hF119
              have ey120 := e; clear e
              refine callF (impl_table_int_hasShape_c s__6 s__6h s__1 s__2 y120 ey120) (Γi := []) H ⟨Vw.sh 4 rfl, trivial⟩ ?_; clear H ey120
              rintro _ _ w122 ⟨rfl, rfl⟩ (H : Cx w0 fp0 S0 w122 [Bx b7 [(.int .i64 s__0), (.int .i64 s__1), (.int .i64 s__2), (s__3h).v, (s__4h).v, (s__5h).v, (s__6h).v], Es (List (List Int)) s__3 s__3h, Es (List (List Int)) s__4 s__4h, Es (List (List Int)) s__5 s__5h, Es (List (List Int)) s__6 s__6h, Gl 0 [.int .i64 2, .int .i64 3, .int .i64 5, .int .i64 7]])
              obtain ⟨a123, e, hF124⟩ := bindS hF121; clear hF121
              refine boolO e ?_; clear e
              exact ⟨a123, ⟨rfl, rfl, rfl, trivial⟩, Option.some.inj hF124, H.sel [0, 1, 2, 3, 4, 5] rfl⟩
            · have hF125 := condT hF118; clear hF118
              exact ⟨true, ⟨rfl, rfl, rfl, trivial⟩, Option.some.inj hF125, H.sel [0, 1, 2, 3, 4, 5] rfl⟩
          · have hF126 := condT hF112; clear hF112
            exact ⟨true, ⟨rfl, rfl, rfl, trivial⟩, Option.some.inj hF126, H.sel [0, 1, 2, 3, 4, 5] rfl⟩
        · have hF127 := condT hF106; clear hF106
          exact ⟨true, ⟨rfl, rfl, rfl, trivial⟩, Option.some.inj hF127, H.sel [0, 1, 2, 3, 4, 5] rfl⟩
      · clear hF100 H
        rintro T129 s96 w128 ⟨hr, (H : Cx w0 fp0 S0 w128 [Bx b7 [(.int .i64 s__0), (.int .i64 s__1), (.int .i64 s__2), (s__3h).v, (s__4h).v, (s__5h).v, (s__6h).v], Es (List (List Int)) s__3 s__3h, Es (List (List Int)) s__4 s__4h, Es (List (List Int)) s__5 s__5h, Es (List (List Int)) s__6 s__6h, Gl 0 [.int .i64 2, .int .i64 3, .int .i64 5, .int .i64 7]])⟩
        subst hr
        cases s96
        · have hF130 := condF hF99; clear hF99
          obtain ⟨r151, hF153, hF152⟩ := bindS hF130; clear hF130
          refine cut (fun (q154 : Bool) => [(4, (.bool q154))]) (fun (q154 : Bool) w' => q154 = r151 ∧ Cx w0 fp0 S0 w' [Gl 0 [.int .i64 2, .int .i64 3, .int .i64 5, .int .i64 7]]) ?_ ?_
          · skip
            refine fld gok rfl rfl rfl rfl ?_
            refine load1 (H.bx 0 rfl (j := 3) rfl) ?_
            refine fld gok rfl rfl rfl rfl ?_
            refine load1 (H.bx 0 rfl (j := 0) rfl) ?_
            obtain ⟨y155, e, hF156⟩ := bindS hF153; clear hF153
            have ey155 := e; clear e
            refine callF (impl_areVectors_c p_ s__3 s__3h s__0 y155 ey155) (Γi := []) H ⟨Vw.sh 1 rfl, trivial⟩ ?_; clear H ey155
            rintro _ _ w157 ⟨rfl, rfl⟩ (H : Cx w0 fp0 S0 w157 [Bx b7 [(.int .i64 s__0), (.int .i64 s__1), (.int .i64 s__2), (s__3h).v, (s__4h).v, (s__5h).v, (s__6h).v], Es (List (List Int)) s__3 s__3h, Es (List (List Int)) s__4 s__4h, Es (List (List Int)) s__5 s__5h, Es (List (List Int)) s__6 s__6h, Gl 0 [.int .i64 2, .int .i64 3, .int .i64 5, .int .i64 7]])
            cases y155
            · have hF158 := condF hF156; clear hF156
              exact ⟨false, ⟨rfl, trivial⟩, Option.some.inj hF158, H.sel [5] rfl⟩
            · have hF159 := condT hF156; clear hF156
              refine fld gok rfl rfl rfl rfl ?_
              refine load1 (H.bx 0 rfl (j := 4) rfl) ?_
              refine fld gok rfl rfl rfl rfl ?_
              refine load1 (H.bx 0 rfl (j := 0) rfl) ?_
              obtain ⟨y160, e, hF161⟩ := bindS hF159; clear hF159
              have ey160 := e; clear e
              refine callF (impl_areVectors_c p_ s__4 s__4h s__0 y160 ey160) (Γi := []) H ⟨Vw.sh 2 rfl, trivial⟩ ?_; clear H ey160
              rintro _ _ w162 ⟨rfl, rfl⟩ (H : Cx w0 fp0 S0 w162 [Bx b7 [(.int .i64 s__0), (.int .i64 s__1), (.int .i64 s__2), (s__3h).v, (s__4h).v, (s__5h).v, (s__6h).v], Es (List (List Int)) s__3 s__3h, Es (List (List Int)) s__4 s__4h, Es (List (List Int)) s__5 s__5h, Es (List (List Int)) s__6 s__6h, Gl 0 [.int .i64 2, .int .i64 3, .int .i64 5, .int .i64 7]])
              cases y160
              · have hF163 := condF hF161; clear hF161
                exact ⟨false, ⟨rfl, trivial⟩, Option.some.inj hF163, H.sel [5] rfl⟩
              · have hF164 := condT hF161; clear hF161
                refine fld gok rfl rfl rfl rfl ?_
                refine load1 (H.bx 0 rfl (j := 5) rfl) ?_
                refine fld gok rfl rfl rfl rfl ?_
                refine load1 (H.bx 0 rfl (j := 2) rfl) ?_
                obtain ⟨y165, e, hF166⟩ := bindS hF164; clear hF164
                have ey165 := e; clear e
                refine callF (impl_areVectors_c p_ s__5 s__5h s__2 y165 ey165) (Γi := []) H ⟨Vw.sh 3 rfl, trivial⟩ ?_; clear H ey165
                rintro _ _ w167 ⟨rfl, rfl⟩ (H : Cx w0 fp0 S0 w167 [Bx b7 [(.int .i64 s__0), (.int .i64 s__1), (.int .i64 s__2), (s__3h).v, (s__4h).v, (s__5h).v, (s__6h).v], Es (List (List Int)) s__3 s__3h, Es (List (List Int)) s__4 s__4h, Es (List (List Int)) s__5 s__5h, Es (List (List Int)) s__6 s__6h, Gl 0 [.int .i64 2, .int .i64 3, .int .i64 5, .int .i64 7]])
                cases y165
                · have hF168 := condF hF166; clear hF166
                  exact ⟨false, ⟨rfl, trivial⟩, Option.some.inj hF168, H.sel [5] rfl⟩
                · have hF169 := condT hF166; clear hF166
                  refine fld gok rfl rfl rfl rfl ?_
                  refine load1 (H.bx 0 rfl (j := 6) rfl) ?_
                  refine fld gok rfl rfl rfl rfl ?_
                  refine load1 (H.bx 0 rfl (j := 2) rfl) ?_
                  obtain ⟨y170, e, hF171⟩ := bindS hF169; clear hF169
                  have ey170 := e; clear e
                  refine callF (impl_areVectors_c p_ s__6 s__6h s__2 y170 ey170) (Γi := []) H ⟨Vw.sh 4 rfl, trivial⟩ ?_; clear H ey170
                  rintro _ _ w172 ⟨rfl, rfl⟩ (H : Cx w0 fp0 S0 w172 [Bx b7 [(.int .i64 s__0), (.int .i64 s__1), (.int .i64 s__2), (s__3h).v, (s__4h).v, (s__5h).v, (s__6h).v], Es (List (List Int)) s__3 s__3h, Es (List (List Int)) s__4 s__4h, Es (List (List Int)) s__5 s__5h, Es (List (List Int)) s__6 s__6h, Gl 0 [.int .i64 2, .int .i64 3, .int .i64 5, .int .i64 7]])
                  exact ⟨y170, ⟨rfl, trivial⟩, Option.some.inj hF171, H.sel [5] rfl⟩
          · clear hF153 H
            rintro T174 s149 w173 ⟨hr, (H : Cx w0 fp0 S0 w173 [Gl 0 [.int .i64 2, .int .i64 3, .int .i64 5, .int .i64 7]])⟩
            subst hr
            cases hF152
            exact ⟨_, _, rfl, ⟨rfl, rfl⟩, (H.sel [] rfl).close trivial⟩
        · have hF175 := condT hF99; clear hF99
          cases hF175
          exact ⟨_, _, rfl, ⟨rfl, rfl⟩, (H.sel [] rfl).close trivial⟩
    · have hF176 := condT hF38; clear hF38
      cases hF176
      exact ⟨_, _, rfl, ⟨rfl, rfl⟩, (H.sel [] rfl).close trivial⟩

theorem impl_zeros_c (n_ : Int) (y : List Int) (hF : F_impl_zeros n_ = some y) :
    ConF Tryd.prog 149 #[(.int .i64 n_)] [] [] (fun v Γ' => ∃ z0 : Hd, v = (z0).v ∧ Γ' = [E (List Int) y z0]) := by
  intro w0 S0 fp0 hI hS
  have H : Cx w0 fp0 S0 w0 [] := Cx.start hI hS
  clear hI hS
  refine enterC (args := [_]) gok Tryd.func149 rfl _ rfl rfl rfl ?_
  obtain ⟨a1, e, hF2⟩ := bindS hF; clear hF
  refine make_ (α := Int) gok rfl rfl rfl rfl (makeCO_of e) H ?_; clear e H; intro h4 w3 hx H
  clear hx
  cases hF2
  exact ⟨_, _, rfl, ⟨h4, rfl, rfl⟩, (H.sel [0] rfl).close ⟨cloE, trivial⟩⟩

theorem impl_combine_c (p_ : Int) (x_ : List Int) (x_h : Hd) (rows_ : List (List Int)) (rows_h : Hd) (n_ : Int) (y : List Int) (hF : F_impl_combine p_ x_ rows_ n_ = some y) :
    ConF Tryd.prog 112 #[(.int .i64 p_), (x_h).v, (rows_h).v, (.int .i64 n_)] [Es (List Int) x_ x_h, Es (List (List Int)) rows_ rows_h] [] (fun v Γ' => ∃ z0 : Hd, v = (z0).v ∧ Γ' = [E (List Int) y z0]) := by
  intro w0 S0 fp0 hI hS
  have H : Cx w0 fp0 S0 w0 [Es (List Int) x_ x_h, Es (List (List Int)) rows_ rows_h] := Cx.start hI hS
  clear hI hS
  refine enterC (args := [_, _, _, _]) gok Tryd.func112 rfl _ rfl rfl rfl ?_
  obtain ⟨y3, e, hF4⟩ := bindS hF; clear hF
  have ey3 := e; clear e
  refine callF (impl_zeros_c n_ y3 ey3) (Γi := []) H trivial ?_; clear H ey3
  rintro _ _ w5 ⟨h6, rfl, rfl⟩ (H : Cx w0 fp0 S0 w5 [E (List Int) y3 h6, Es (List Int) x_ x_h, Es (List (List Int)) rows_ rows_h])
  refine sq ?_
  refine lenE (H.rs (α := List (List Int)) 2 rfl).len ?_
  have hmx57 := (H.rs (α := List (List Int)) 2 rfl).max
  obtain ⟨r58, e, hF59⟩ := bindS hF4; clear hF4
  refine loopS _ rows_.length (fun (k8 : Nat) (s55 : List Int) (_ : Unit) => [(0, (.int .i64 p_)), (1, (x_h).v), (9, (h6).v), (14, (rows_h).v), (15, (.int .i64 ((rows_.length : Nat) : Int))), (16, (.int .i64 ((k8 : Nat) : Int)))]) (fun _ (s55 : List Int) (_ : Unit) w' => Cx w0 fp0 S0 w' [Es (List Int) x_ x_h, E (List Int) s55 h6, Es (List (List Int)) rows_ rows_h]) y3 () e ⟨rfl, rfl, rfl, rfl, rfl, rfl, trivial⟩ (H.sel [1, 0, 2] rfl) ?_ ?_
  · clear H e
    rintro T61 k8 s55 _ w60 o62 hk (H : Cx w0 fp0 S0 w60 [Es (List Int) x_ x_h, E (List Int) s55 h6, Es (List (List Int)) rows_ rows_h]) hF63
    refine boolE (z := true) (ltLen hk) ?_
    refine sq ?_
    refine sq ?_
    obtain ⟨a70, e, hF71⟩ := bindS hF63; clear hF63
    have HH := H; clear H; obtain ⟨p68, m69, h72, c64, c65, c66, c67, H⟩ := HH.elL 2 rfl e; clear HH
    clear e
    refine idxE c64 c65 c66 ?_; clear c64 c65 c66
    refine load1 c67 ?_; clear c67
    obtain ⟨a80, e, hF81⟩ := bindS hF71; clear hF71
    obtain ⟨p78, m79, c74, c75, c76, c77⟩ := (H.rs (α := List Int) 1 rfl).at1 e; clear e
    refine idxE c74 c75 c76 ?_; clear c74 c75 c76
    refine load1 c77 ?_; clear c77
    obtain ⟨y82, e, hF83⟩ := bindS hF81; clear hF81
    have ey82 := e; clear e
    replace H := H.sel [2, 0, 1, 3] rfl
    refine callF (impl_addTimes_c p_ s55 h6 a80 a70 h72 y82 ey82) (Γi := [E (List Int) s55 h6]) H ⟨Vw.sh 0 rfl, trivial⟩ ?_; clear H ey82
    rintro _ _ w84 ⟨rfl, rfl⟩ (H : Cx w0 fp0 S0 w84 [E (List Int) y82 h6, Es (List Int) a70 h72, Es (List Int) x_ x_h, Es (List (List Int)) rows_ rows_h])
    refine arK hk hmx57 ?_
    have hs := Option.some.inj hF83; subst hs; clear hF83
    exact ⟨(), ⟨rfl, rfl, rfl, rfl, rfl, rfl, trivial⟩, H.sel [2, 0, 3] rfl⟩
  · clear H e
    rintro T86 _ w85 (H : Cx w0 fp0 S0 w85 [Es (List Int) x_ x_h, E (List Int) r58 h6, Es (List (List Int)) rows_ rows_h])
    refine boolE (z := false) geLen ?_
    refine sq ?_
    cases hF59
    exact ⟨_, _, rfl, ⟨h6, rfl, rfl⟩, (H.sel [1] rfl).close ⟨cloE, trivial⟩⟩

theorem impl_product_c (p_ : Int) (rows_ : List (List Int)) (rows_h : Hd) (m_ : List (List Int)) (m_h : Hd) (n_ : Int) (y : List (List Int)) (hF : F_impl_product p_ rows_ m_ n_ = some y) :
    ConF Tryd.prog 128 #[(.int .i64 p_), (rows_h).v, (m_h).v, (.int .i64 n_)] [Es (List (List Int)) rows_ rows_h, Es (List (List Int)) m_ m_h] [] (fun v Γ' => ∃ z0 : Hd, v = (z0).v ∧ Γ' = [E (List (List Int)) y z0]) := by
  intro w0 S0 fp0 hI hS
  have H : Cx w0 fp0 S0 w0 [Es (List (List Int)) rows_ rows_h, Es (List (List Int)) m_ m_h] := Cx.start hI hS
  clear hI hS
  refine enterC (args := [_, _, _, _]) gok Tryd.func128 rfl _ rfl rfl rfl ?_
  refine lit0 (α := List Int) gok rfl rfl H ?_; clear H; intro h4 w3 hx H
  clear hx
  refine sq ?_
  refine lenE (H.rs (α := List (List Int)) 1 rfl).len ?_
  have hmx61 := (H.rs (α := List (List Int)) 1 rfl).max
  obtain ⟨r62, e, hF63⟩ := bindS hF; clear hF
  refine loopS _ rows_.length (fun (k6 : Nat) (s58 : List (List Int)) (g59 : Hd) => [(0, (.int .i64 p_)), (2, (m_h).v), (3, (.int .i64 n_)), (9, (g59).v), (13, (rows_h).v), (14, (.int .i64 ((rows_.length : Nat) : Int))), (15, (.int .i64 ((k6 : Nat) : Int)))]) (fun _ (s58 : List (List Int)) (g59 : Hd) w' => Cx w0 fp0 S0 w' [Es (List (List Int)) m_ m_h, E (List (List Int)) s58 g59, Es (List (List Int)) rows_ rows_h]) ([] : List (List Int)) h4 e ⟨rfl, rfl, rfl, rfl, rfl, rfl, rfl, trivial⟩ (H.sel [2, 0, 1] rfl) ?_ ?_
  · clear H e
    rintro T65 k6 s58 g59 w64 o66 hk (H : Cx w0 fp0 S0 w64 [Es (List (List Int)) m_ m_h, E (List (List Int)) s58 g59, Es (List (List Int)) rows_ rows_h]) hF67
    refine boolE (z := true) (ltLen hk) ?_
    refine sq ?_
    refine sq ?_
    obtain ⟨a74, e, hF75⟩ := bindS hF67; clear hF67
    have HH := H; clear H; obtain ⟨p72, m73, h76, c68, c69, c70, c71, H⟩ := HH.elL 2 rfl e; clear HH
    clear e
    refine idxE c68 c69 c70 ?_; clear c68 c69 c70
    refine load1 c71 ?_; clear c71
    obtain ⟨y78, e, hF79⟩ := bindS hF75; clear hF75
    have ey78 := e; clear e
    refine callF (impl_combine_c p_ a74 h76 m_ m_h n_ y78 ey78) (Γi := []) H ⟨Vw.sh 0 rfl, Vw.sh 1 rfl, trivial⟩ ?_; clear H ey78
    rintro _ _ w80 ⟨h81, rfl, rfl⟩ (H : Cx w0 fp0 S0 w80 [E (List Int) y78 h81, Es (List Int) a74 h76, Es (List (List Int)) m_ m_h, E (List (List Int)) s58 g59, Es (List (List Int)) rows_ rows_h])
    refine lit1 (α := List Int) (g := h81) gok rfl rfl rfl rfl rfl H ?_; clear H; intro h84 w83 hx H
    clear hx
    obtain ⟨a86, e, hF87⟩ := bindS hF79; clear hF79
    replace H := H.sel [3, 0, 1, 2, 4] rfl
    refine append_ (α := List Int) gok rfl rfl rfl rfl H e ?_; clear e H; intro h89 w88 H
    refine arK hk hmx61 ?_
    have hs := Option.some.inj hF87; subst hs; clear hF87
    exact ⟨h89, ⟨rfl, rfl, rfl, rfl, rfl, rfl, rfl, trivial⟩, H.sel [2, 0, 3] rfl⟩
  · clear H e
    rintro T92 g94 w91 (H : Cx w0 fp0 S0 w91 [Es (List (List Int)) m_ m_h, E (List (List Int)) r62 g94, Es (List (List Int)) rows_ rows_h])
    refine boolE (z := false) geLen ?_
    refine sq ?_
    cases hF63
    exact ⟨_, _, rfl, ⟨g94, rfl, rfl⟩, (H.sel [1] rfl).close ⟨cloE, trivial⟩⟩

theorem impl_StateSpace_markov_c (s__0 : Int) (s__1 : Int) (s__2 : Int) (s__3 : List (List Int)) (s__3h : Hd) (s__4 : List (List Int)) (s__4h : Hd) (s__5 : List (List Int)) (s__5h : Hd) (s__6 : List (List Int)) (s__6h : Hd) (p_ : Int) (n_ : Int) (y : List (Int × List (List Int))) (hF : F_impl_StateSpace_markov (s__0, s__1, s__2, s__3, s__4, s__5, s__6) p_ n_ = some y) :
    ConF Tryd.prog 79 #[(.agg #[(.int .i64 s__0), (.int .i64 s__1), (.int .i64 s__2), (s__3h).v, (s__4h).v, (s__5h).v, (s__6h).v]), (.int .i64 p_), (.int .i64 n_)] [Es (List (List Int)) s__3 s__3h, Es (List (List Int)) s__4 s__4h, Es (List (List Int)) s__5 s__5h, Es (List (List Int)) s__6 s__6h] [] (fun v Γ' => ∃ z0 : Hd, v = (z0).v ∧ Γ' = [E (List (Int × List (List Int))) y z0]) := by
  intro w0 S0 fp0 hI hS
  have H : Cx w0 fp0 S0 w0 [Es (List (List Int)) s__3 s__3h, Es (List (List Int)) s__4 s__4h, Es (List (List Int)) s__5 s__5h, Es (List (List Int)) s__6 s__6h] := Cx.start hI hS
  clear hI hS
  refine enterC (args := [_, _, _]) gok Tryd.func79 rfl _ rfl rfl rfl ?_
  refine box_ H ?_; clear H; intro b6 w5 hx H
  clear hx
  replace H : Cx w0 fp0 S0 w5 [Bx b6 [(.int .i64 s__0), (.int .i64 s__1), (.int .i64 s__2), (s__3h).v, (s__4h).v, (s__5h).v, (s__6h).v], Es (List (List Int)) s__3 s__3h, Es (List (List Int)) s__4 s__4h, Es (List (List Int)) s__5 s__5h, Es (List (List Int)) s__6 s__6h] := H
  refine lit0 (α := Int × List (List Int)) gok rfl rfl H ?_; clear H; intro h9 w8 hx H
  clear hx
  refine fld gok rfl rfl rfl rfl ?_
  refine load1 (H.bx 1 rfl (j := 4) rfl) ?_
  obtain ⟨y11, e, hF12⟩ := bindS hF; clear hF
  have ey11 := e; clear e
  refine callF (impl_clones_c s__4 s__4h y11 ey11) (Γi := []) H ⟨Vw.sh 3 rfl, trivial⟩ ?_; clear H ey11
  rintro _ _ w13 ⟨h14, rfl, rfl⟩ (H : Cx w0 fp0 S0 w13 [E (List (List Int)) y11 h14, E (List (Int × List (List Int))) ([] : List (Int × List (List Int))) h9, Bx b6 [(.int .i64 s__0), (.int .i64 s__1), (.int .i64 s__2), (s__3h).v, (s__4h).v, (s__5h).v, (s__6h).v], Es (List (List Int)) s__3 s__3h, Es (List (List Int)) s__4 s__4h, Es (List (List Int)) s__5 s__5h, Es (List (List Int)) s__6 s__6h])
  refine sq ?_
  obtain ⟨a211, hn, hF212⟩ := bindS hF12; clear hF12
  obtain ⟨r214, e, hF215⟩ := bindS hF212; clear hF212
  refine loopS _ n_.toNat (fun (k16 : Nat) (s207 : (List (Int × List (List Int))) × List (List Int)) (g208 : Hd × Hd) => [(1, (.int .i64 p_)), (3, (.pointer (some ⟨b6, 0, none⟩))), (7, (g208.1).v), (8, (g208.2).v), (14, (.int .i64 n_)), (15, (.int .i64 ((k16 : Nat) : Int)))]) (fun _ (s207 : (List (Int × List (List Int))) × List (List Int)) (g208 : Hd × Hd) w' => Cx w0 fp0 S0 w' [Bx b6 [(.int .i64 s__0), (.int .i64 s__1), (.int .i64 s__2), (s__3h).v, (s__4h).v, (s__5h).v, (s__6h).v], Es (List (List Int)) s__3 s__3h, Es (List (List Int)) s__4 s__4h, Es (List (List Int)) s__5 s__5h, Es (List (List Int)) s__6 s__6h, E (List (Int × List (List Int))) s207.1 g208.1, E (List (List Int)) s207.2 g208.2]) (([] : List (Int × List (List Int))), y11) (h9, h14) e ⟨rfl, rfl, rfl, rfl, rfl, rfl, trivial⟩ (H.sel [2, 3, 4, 5, 6, 1, 0] rfl) ?_ ?_
  · clear H e
    rintro T217 k16 ⟨s207_0, s207_1⟩ ⟨g208_0, g208_1⟩ w216 o218 hk (H : Cx w0 fp0 S0 w216 [Bx b6 [(.int .i64 s__0), (.int .i64 s__1), (.int .i64 s__2), (s__3h).v, (s__4h).v, (s__5h).v, (s__6h).v], Es (List (List Int)) s__3 s__3h, Es (List (List Int)) s__4 s__4h, Es (List (List Int)) s__5 s__5h, Es (List (List Int)) s__6 s__6h, E (List (Int × List (List Int))) s207_0 g208_0, E (List (List Int)) s207_1 g208_1]) hF219
    refine boolE (z := true) (ltNat hk) ?_
    refine sq ?_
    obtain ⟨r265, hF267, hF266⟩ := bindS hF219; clear hF219
    refine cut (fun (q268 : ((List (Int × List (List Int))) × List (List Int)) × (Hd × Hd)) => [(1, (.int .i64 p_)), (3, (.pointer (some ⟨b6, 0, none⟩))), (7, (q268.2.1).v), (8, (q268.2.2).v), (14, (.int .i64 n_)), (15, (.int .i64 ((k16 : Nat) : Int)))]) (fun (q268 : ((List (Int × List (List Int))) × List (List Int)) × (Hd × Hd)) w' => (q268.1.1, q268.1.2) = r265 ∧ Cx w0 fp0 S0 w' [Bx b6 [(.int .i64 s__0), (.int .i64 s__1), (.int .i64 s__2), (s__3h).v, (s__4h).v, (s__5h).v, (s__6h).v], Es (List (List Int)) s__3 s__3h, Es (List (List Int)) s__4 s__4h, Es (List (List Int)) s__5 s__5h, Es (List (List Int)) s__6 s__6h, E (List (Int × List (List Int))) q268.1.1 q268.2.1, E (List (List Int)) q268.1.2 q268.2.2]) ?_ ?_
    · skip
      refine sq ?_
      obtain ⟨a269, e, hF270⟩ := bindS hF267; clear hF267
      refine boolO e ?_; clear e
      cases a269
      · have hF271 := condF hF270; clear hF270
        refine heldX H [12, 13] (.fst 0 (.fst 1 (.fst 3 (.fst 4 (.fst 5 (.fst 7 (.fst 2 (.fst 6 (.fst 8 (.act 9 (.fst 10 (.act 11 (.act 12 (.act 13 .done)))))))))))))) mixed [] trivial (by kernel_rfl) ?_; clear H; intro w272 H
        have hX : Ext w272 w272 := Upd.refl _ _
        have H0 := H
        refine anyH (fun _ => fld gok rfl rfl rfl rfl ⟨rfl, rfl⟩) ?_
        refine anyH (fun _ => fld gok rfl rfl rfl rfl ⟨rfl, rfl⟩) ?_
        refine anyH (fun _ => fld gok rfl rfl rfl rfl ⟨rfl, rfl⟩) ?_
        refine load1X (H.bx 0 rfl (j := 2) rfl) ?_
        refine load1X (H.bx 0 rfl (j := 5) rfl) ?_
        refine load1X (H.bx 0 rfl (j := 2) rfl) ?_
        obtain ⟨y273, e, hF274⟩ := bindS hF271; clear hF271
        have ey273 := e; clear e
        refine callFx (impl_product_c p_ s207_1 g208_1 s__5 s__5h s__2 y273 ey273) H ⟨Vw.own 6 rfl, Vw.sh 3 rfl, trivial⟩ ?_; clear H ey273
        rintro _ _ w275 ⟨h276, rfl, rfl⟩ hx (H : Cx w0 fp0 S0 w275 [E (List (List Int)) y273 h276, Bx b6 [(.int .i64 s__0), (.int .i64 s__1), (.int .i64 s__2), (s__3h).v, (s__4h).v, (s__5h).v, (s__6h).v], Es (List (List Int)) s__3 s__3h, Es (List (List Int)) s__4 s__4h, Es (List (List Int)) s__5 s__5h, Es (List (List Int)) s__6 s__6h, E (List (Int × List (List Int))) s207_0 g208_0, E (List (List Int)) s207_1 g208_1])
        replace hX := hX.trans0 hx; clear hx
        refine hold hX ?_
        refine anyH (fun _ => build_ (cs := #[(.int .i64 s__2), (h276).v]) gok rfl rfl rfl ⟨rfl, rfl⟩) ?_
        replace H := H.sc (α := Int) s__2
        replace H := H.join (α := Int) (β := List (List Int))
        refine lit1 (α := Int × List (List Int)) (g := ((), h276)) gok rfl rfl rfl rfl rfl H ?_; clear H; intro h279 w278 hx H
        replace hX := hX.trans0 hx; clear hx
        refine hold hX ?_
        obtain ⟨a283, e, hF284⟩ := bindS hF274; clear hF274
        replace H := H.sel [6, 0, 1, 2, 3, 4, 5, 7] rfl
        refine append_ (α := Int × List (List Int)) gok rfl rfl rfl rfl H e ?_; clear e H; intro h286 w285 H
        refine hold trivial ?_
        refine hold trivial ?_
        refine fld gok rfl rfl rfl rfl ?_
        refine load1 (H.bx 1 rfl (j := 3) rfl) ?_
        refine fld gok rfl rfl rfl rfl ?_
        refine load1 (H.bx 1 rfl (j := 0) rfl) ?_
        obtain ⟨y288, e, hF289⟩ := bindS hF284; clear hF284
        have ey288 := e; clear e
        refine callF (impl_product_c p_ s207_1 g208_1 s__3 s__3h s__0 y288 ey288) (Γi := []) H ⟨Vw.own 6 rfl, Vw.sh 2 rfl, trivial⟩ ?_; clear H ey288
        rintro _ _ w290 ⟨h291, rfl, rfl⟩ (H : Cx w0 fp0 S0 w290 [E (List (List Int)) y288 h291, E (List (Int × List (List Int))) a283 h286, Bx b6 [(.int .i64 s__0), (.int .i64 s__1), (.int .i64 s__2), (s__3h).v, (s__4h).v, (s__5h).v, (s__6h).v], Es (List (List Int)) s__3 s__3h, Es (List (List Int)) s__4 s__4h, Es (List (List Int)) s__5 s__5h, Es (List (List Int)) s__6 s__6h, E (List (List Int)) s207_1 g208_1])
        exact ⟨((a283, y288), (h286, h291)), ⟨rfl, rfl, rfl, rfl, rfl, rfl, trivial⟩, Option.some.inj hF289, H.sel [2, 3, 4, 5, 6, 1, 0] rfl⟩
      · have hF293 := condT hF270; clear hF270
        refine heldX H [8, 9] (.fst 0 (.fst 1 (.fst 3 (.fst 2 (.fst 4 (.act 5 (.fst 6 (.act 7 (.act 8 (.act 9 .done)))))))))) mixed [] trivial (by kernel_rfl) ?_; clear H; intro w294 H
        have hX : Ext w294 w294 := Upd.refl _ _
        have H0 := H
        refine anyH (fun _ => fld gok rfl rfl rfl rfl ⟨rfl, rfl⟩) ?_
        refine anyH (fun _ => fld gok rfl rfl rfl rfl ⟨rfl, rfl⟩) ?_
        refine load1X (H.bx 0 rfl (j := 2) rfl) ?_
        refine load1X (H.bx 0 rfl (j := 6) rfl) ?_
        obtain ⟨y295, e, hF296⟩ := bindS hF293; clear hF293
        have ey295 := e; clear e
        refine callFx (impl_clones_c s__6 s__6h y295 ey295) H ⟨Vw.sh 4 rfl, trivial⟩ ?_; clear H ey295
        rintro _ _ w297 ⟨h298, rfl, rfl⟩ hx (H : Cx w0 fp0 S0 w297 [E (List (List Int)) y295 h298, Bx b6 [(.int .i64 s__0), (.int .i64 s__1), (.int .i64 s__2), (s__3h).v, (s__4h).v, (s__5h).v, (s__6h).v], Es (List (List Int)) s__3 s__3h, Es (List (List Int)) s__4 s__4h, Es (List (List Int)) s__5 s__5h, Es (List (List Int)) s__6 s__6h, E (List (Int × List (List Int))) s207_0 g208_0, E (List (List Int)) s207_1 g208_1])
        replace hX := hX.trans0 hx; clear hx
        refine hold hX ?_
        refine anyH (fun _ => build_ (cs := #[(.int .i64 s__2), (h298).v]) gok rfl rfl rfl ⟨rfl, rfl⟩) ?_
        replace H := H.sc (α := Int) s__2
        replace H := H.join (α := Int) (β := List (List Int))
        refine lit1 (α := Int × List (List Int)) (g := ((), h298)) gok rfl rfl rfl rfl rfl H ?_; clear H; intro h301 w300 hx H
        replace hX := hX.trans0 hx; clear hx
        refine hold hX ?_
        obtain ⟨a305, e, hF306⟩ := bindS hF296; clear hF296
        replace H := H.sel [6, 0, 1, 2, 3, 4, 5, 7] rfl
        refine append_ (α := Int × List (List Int)) gok rfl rfl rfl rfl H e ?_; clear e H; intro h308 w307 H
        refine hold trivial ?_
        refine hold trivial ?_
        exact ⟨((a305, s207_1), (h308, g208_1)), ⟨rfl, rfl, rfl, rfl, rfl, rfl, trivial⟩, Option.some.inj hF306, H.sel [1, 2, 3, 4, 5, 0, 6] rfl⟩
    · clear hF267 H
      rintro T311 ⟨⟨s261_0, s261_1⟩, ⟨g262_0, g262_1⟩⟩ w310 ⟨hr, (H : Cx w0 fp0 S0 w310 [Bx b6 [(.int .i64 s__0), (.int .i64 s__1), (.int .i64 s__2), (s__3h).v, (s__4h).v, (s__5h).v, (s__6h).v], Es (List (List Int)) s__3 s__3h, Es (List (List Int)) s__4 s__4h, Es (List (List Int)) s__5 s__5h, Es (List (List Int)) s__6 s__6h, E (List (Int × List (List Int))) s261_0 g262_0, E (List (List Int)) s261_1 g262_1])⟩
      subst hr
      refine arK hk (maxI hn) ?_
      have hs := Option.some.inj hF266; subst hs; clear hF266
      exact ⟨(g262_0, g262_1), ⟨rfl, rfl, rfl, rfl, rfl, rfl, trivial⟩, H.sel [0, 1, 2, 3, 4, 5, 6] rfl⟩
  · clear H e
    obtain ⟨s314_0, s314_1⟩ := r214
    rintro T313 ⟨g315_0, g315_1⟩ w312 (H : Cx w0 fp0 S0 w312 [Bx b6 [(.int .i64 s__0), (.int .i64 s__1), (.int .i64 s__2), (s__3h).v, (s__4h).v, (s__5h).v, (s__6h).v], Es (List (List Int)) s__3 s__3h, Es (List (List Int)) s__4 s__4h, Es (List (List Int)) s__5 s__5h, Es (List (List Int)) s__6 s__6h, E (List (Int × List (List Int))) s314_0 g315_0, E (List (List Int)) s314_1 g315_1])
    refine boolE (z := false) geNat ?_
    refine sq ?_
    cases hF215
    exact ⟨_, _, rfl, ⟨g315_0, rfl, rfl⟩, (H.sel [5] rfl).close ⟨cloE, trivial⟩⟩

theorem impl_MarkovParameters_c (p_ : Int) (s__0 : Int) (s__1 : Int) (s__2 : Int) (s__3 : List (List Int)) (s__3h : Hd) (s__4 : List (List Int)) (s__4h : Hd) (s__5 : List (List Int)) (s__5h : Hd) (s__6 : List (List Int)) (s__6h : Hd) (n_ : Int) (y0 : List (Int × List (List Int))) (y1 : Bool) (hF : F_impl_MarkovParameters p_ (s__0, s__1, s__2, s__3, s__4, s__5, s__6) n_ = some (y0, y1)) :
    ConF Tryd.prog 25 #[(.int .i64 p_), (.agg #[(.int .i64 s__0), (.int .i64 s__1), (.int .i64 s__2), (s__3h).v, (s__4h).v, (s__5h).v, (s__6h).v]), (.int .i64 n_)] [Es (List (List Int)) s__3 s__3h, Es (List (List Int)) s__4 s__4h, Es (List (List Int)) s__5 s__5h, Es (List (List Int)) s__6 s__6h, Gl 0 [.int .i64 2, .int .i64 3, .int .i64 5, .int .i64 7]] [] (fun v Γ' => ∃ z0 : Hd, v = (.tuple #[(z0).v, (.bool y1)]) ∧ Γ' = [E (List (Int × List (List Int))) y0 z0]) := by
  intro w0 S0 fp0 hI hS
  have H : Cx w0 fp0 S0 w0 [Es (List (List Int)) s__3 s__3h, Es (List (List Int)) s__4 s__4h, Es (List (List Int)) s__5 s__5h, Es (List (List Int)) s__6 s__6h, Gl 0 [.int .i64 2, .int .i64 3, .int .i64 5, .int .i64 7]] := Cx.start hI hS
  clear hI hS
  refine enterC (args := [_, _, _]) gok Tryd.func25 rfl _ rfl rfl rfl ?_
  refine box_ H ?_; clear H; intro b7 w6 hx H
  clear hx
  replace H : Cx w0 fp0 S0 w6 [Bx b7 [(.int .i64 s__0), (.int .i64 s__1), (.int .i64 s__2), (s__3h).v, (s__4h).v, (s__5h).v, (s__6h).v], Es (List (List Int)) s__3 s__3h, Es (List (List Int)) s__4 s__4h, Es (List (List Int)) s__5 s__5h, Es (List (List Int)) s__6 s__6h, Gl 0 [.int .i64 2, .int .i64 3, .int .i64 5, .int .i64 7]] := H
  refine sq ?_
  obtain ⟨r23, hF25, hF24⟩ := bindS hF; clear hF
  refine cut (fun (q26 : Bool) => [(0, (.int .i64 p_)), (2, (.int .i64 n_)), (4, (.pointer (some ⟨b7, 0, none⟩))), (16, (.bool q26))]) (fun (q26 : Bool) w' => q26 = r23 ∧ Cx w0 fp0 S0 w' [Bx b7 [(.int .i64 s__0), (.int .i64 s__1), (.int .i64 s__2), (s__3h).v, (s__4h).v, (s__5h).v, (s__6h).v], Es (List (List Int)) s__3 s__3h, Es (List (List Int)) s__4 s__4h, Es (List (List Int)) s__5 s__5h, Es (List (List Int)) s__6 s__6h, Gl 0 [.int .i64 2, .int .i64 3, .int .i64 5, .int .i64 7]]) ?_ ?_
  · skip
    refine loadN [(.int .i64 s__0), (.int .i64 s__1), (.int .i64 s__2), (s__3h).v, (s__4h).v, (s__5h).v, (s__6h).v] rfl (fun j u hj => H.bx 0 rfl hj) ?_
    obtain ⟨y27, e, hF28⟩ := bindS hF25; clear hF25
    have ey27 := e; clear e
    refine callF (impl_isStateSpace_c p_ s__0 s__1 s__2 s__3 s__3h s__4 s__4h s__5 s__5h s__6 s__6h y27 ey27) (Γi := []) H ⟨Vw.sh 1 rfl, Vw.sh 2 rfl, Vw.sh 3 rfl, Vw.sh 4 rfl, Vw.gl 5 rfl, trivial⟩ ?_; clear H ey27
    rintro _ _ w29 ⟨rfl, rfl⟩ (H : Cx w0 fp0 S0 w29 [Bx b7 [(.int .i64 s__0), (.int .i64 s__1), (.int .i64 s__2), (s__3h).v, (s__4h).v, (s__5h).v, (s__6h).v], Es (List (List Int)) s__3 s__3h, Es (List (List Int)) s__4 s__4h, Es (List (List Int)) s__5 s__5h, Es (List (List Int)) s__6 s__6h, Gl 0 [.int .i64 2, .int .i64 3, .int .i64 5, .int .i64 7]])
    obtain ⟨a30, e, hF31⟩ := bindS hF28; clear hF28
    refine boolO e ?_; clear e
    cases a30
    · have hF32 := condF hF31; clear hF31
      obtain ⟨y33, e, hF34⟩ := bindS hF32; clear hF32
      have ey33 := e; clear e
      refine callF (impl_within_c n_ 0 60 y33 ey33) (Γi := []) H trivial ?_; clear H ey33
      rintro _ _ w35 ⟨rfl, rfl⟩ (H : Cx w0 fp0 S0 w35 [Bx b7 [(.int .i64 s__0), (.int .i64 s__1), (.int .i64 s__2), (s__3h).v, (s__4h).v, (s__5h).v, (s__6h).v], Es (List (List Int)) s__3 s__3h, Es (List (List Int)) s__4 s__4h, Es (List (List Int)) s__5 s__5h, Es (List (List Int)) s__6 s__6h, Gl 0 [.int .i64 2, .int .i64 3, .int .i64 5, .int .i64 7]])
      obtain ⟨a36, e, hF37⟩ := bindS hF34; clear hF34
      refine boolO e ?_; clear e
      exact ⟨a36, ⟨rfl, rfl, rfl, rfl, trivial⟩, Option.some.inj hF37, H.sel [0, 1, 2, 3, 4, 5] rfl⟩
    · have hF38 := condT hF31; clear hF31
      exact ⟨true, ⟨rfl, rfl, rfl, rfl, trivial⟩, Option.some.inj hF38, H.sel [0, 1, 2, 3, 4, 5] rfl⟩
  · clear hF25 H
    rintro T40 s21 w39 ⟨hr, (H : Cx w0 fp0 S0 w39 [Bx b7 [(.int .i64 s__0), (.int .i64 s__1), (.int .i64 s__2), (s__3h).v, (s__4h).v, (s__5h).v, (s__6h).v], Es (List (List Int)) s__3 s__3h, Es (List (List Int)) s__4 s__4h, Es (List (List Int)) s__5 s__5h, Es (List (List Int)) s__6 s__6h, Gl 0 [.int .i64 2, .int .i64 3, .int .i64 5, .int .i64 7]])⟩
    subst hr
    cases s21
    · have hF41 := condF hF24; clear hF24
      refine loadN [(.int .i64 s__0), (.int .i64 s__1), (.int .i64 s__2), (s__3h).v, (s__4h).v, (s__5h).v, (s__6h).v] rfl (fun j u hj => H.bx 0 rfl hj) ?_
      obtain ⟨y42, e, hF43⟩ := bindS hF41; clear hF41
      have ey42 := e; clear e
      refine callF (impl_StateSpace_markov_c s__0 s__1 s__2 s__3 s__3h s__4 s__4h s__5 s__5h s__6 s__6h p_ n_ y42 ey42) (Γi := []) H ⟨Vw.sh 1 rfl, Vw.sh 2 rfl, Vw.sh 3 rfl, Vw.sh 4 rfl, trivial⟩ ?_; clear H ey42
      rintro _ _ w44 ⟨h45, rfl, rfl⟩ (H : Cx w0 fp0 S0 w44 [E (List (Int × List (List Int))) y42 h45, Bx b7 [(.int .i64 s__0), (.int .i64 s__1), (.int .i64 s__2), (s__3h).v, (s__4h).v, (s__5h).v, (s__6h).v], Es (List (List Int)) s__3 s__3h, Es (List (List Int)) s__4 s__4h, Es (List (List Int)) s__5 s__5h, Es (List (List Int)) s__6 s__6h, Gl 0 [.int .i64 2, .int .i64 3, .int .i64 5, .int .i64 7]])
      cases hF43
      exact ⟨_, _, rfl, ⟨h45, rfl, rfl⟩, (H.sel [0] rfl).close ⟨cloE, trivial⟩⟩
    · have hF47 := condT hF24; clear hF24
      replace H := H.nil (α := Int × List (List Int))
      cases hF47
      exact ⟨_, _, rfl, ⟨nilH, rfl, rfl⟩, (H.sel [0] rfl).close ⟨cloE, trivial⟩⟩

theorem laws_eqStateSpace_c (a__0 : Int) (a__1 : Int) (a__2 : Int) (a__3 : List (List Int)) (a__3h : Hd) (a__4 : List (List Int)) (a__4h : Hd) (a__5 : List (List Int)) (a__5h : Hd) (a__6 : List (List Int)) (a__6h : Hd) (b__0 : Int) (b__1 : Int) (b__2 : Int) (b__3 : List (List Int)) (b__3h : Hd) (b__4 : List (List Int)) (b__4h : Hd) (b__5 : List (List Int)) (b__5h : Hd) (b__6 : List (List Int)) (b__6h : Hd) (y : Bool) (hF : F_laws_eqStateSpace (a__0, a__1, a__2, a__3, a__4, a__5, a__6) (b__0, b__1, b__2, b__3, b__4, b__5, b__6) = some y) :
    ConF Tryd.prog 18 #[(.agg #[(.int .i64 a__0), (.int .i64 a__1), (.int .i64 a__2), (a__3h).v, (a__4h).v, (a__5h).v, (a__6h).v]), (.agg #[(.int .i64 b__0), (.int .i64 b__1), (.int .i64 b__2), (b__3h).v, (b__4h).v, (b__5h).v, (b__6h).v])] [Es (List (List Int)) a__3 a__3h, Es (List (List Int)) a__4 a__4h, Es (List (List Int)) a__5 a__5h, Es (List (List Int)) a__6 a__6h, Es (List (List Int)) b__3 b__3h, Es (List (List Int)) b__4 b__4h, Es (List (List Int)) b__5 b__5h, Es (List (List Int)) b__6 b__6h] [] (fun v Γ' => v = (.bool y) ∧ Γ' = []) := by
  intro w0 S0 fp0 hI hS
  have H : Cx w0 fp0 S0 w0 [Es (List (List Int)) a__3 a__3h, Es (List (List Int)) a__4 a__4h, Es (List (List Int)) a__5 a__5h, Es (List (List Int)) a__6 a__6h, Es (List (List Int)) b__3 b__3h, Es (List (List Int)) b__4 b__4h, Es (List (List Int)) b__5 b__5h, Es (List (List Int)) b__6 b__6h] := Cx.start hI hS
  clear hI hS
  refine enterC (args := [_, _]) gok Tryd.func18 rfl _ rfl rfl rfl ?_
  refine box_ H ?_; clear H; intro b10 w9 hx H
  clear hx
  replace H : Cx w0 fp0 S0 w9 [Bx b10 [(.int .i64 a__0), (.int .i64 a__1), (.int .i64 a__2), (a__3h).v, (a__4h).v, (a__5h).v, (a__6h).v], Es (List (List Int)) a__3 a__3h, Es (List (List Int)) a__4 a__4h, Es (List (List Int)) a__5 a__5h, Es (List (List Int)) a__6 a__6h, Es (List (List Int)) b__3 b__3h, Es (List (List Int)) b__4 b__4h, Es (List (List Int)) b__5 b__5h, Es (List (List Int)) b__6 b__6h] := H
  refine box_ H ?_; clear H; intro b13 w12 hx H
  clear hx
  replace H : Cx w0 fp0 S0 w12 [Bx b13 [(.int .i64 b__0), (.int .i64 b__1), (.int .i64 b__2), (b__3h).v, (b__4h).v, (b__5h).v, (b__6h).v], Bx b10 [(.int .i64 a__0), (.int .i64 a__1), (.int .i64 a__2), (a__3h).v, (a__4h).v, (a__5h).v, (a__6h).v], Es (List (List Int)) a__3 a__3h, Es (List (List Int)) a__4 a__4h, Es (List (List Int)) a__5 a__5h, Es (List (List Int)) a__6 a__6h, Es (List (List Int)) b__3 b__3h, Es (List (List Int)) b__4 b__4h, Es (List (List Int)) b__5 b__5h, Es (List (List Int)) b__6 b__6h] := H
  refine sq ?_
  refine fld gok rfl rfl rfl rfl ?_
  refine load1 (H.bx 1 rfl (j := 0) rfl) ?_
  refine fld gok rfl rfl rfl rfl ?_
  refine load1 (H.bx 0 rfl (j := 0) rfl) ?_
  obtain ⟨a15, e, hF16⟩ := bindS hF; clear hF
  refine boolO e ?_; clear e
  cases a15
  · have hF17 := condF hF16; clear hF16
    refine sq ?_
    refine fld gok rfl rfl rfl rfl ?_
    refine load1 (H.bx 1 rfl (j := 1) rfl) ?_
    refine fld gok rfl rfl rfl rfl ?_
    refine load1 (H.bx 0 rfl (j := 1) rfl) ?_
    obtain ⟨a18, e, hF19⟩ := bindS hF17; clear hF17
    refine boolO e ?_; clear e
    cases a18
    · have hF20 := condF hF19; clear hF19
      refine sq ?_
      refine fld gok rfl rfl rfl rfl ?_
      refine load1 (H.bx 1 rfl (j := 2) rfl) ?_
      refine fld gok rfl rfl rfl rfl ?_
      refine load1 (H.bx 0 rfl (j := 2) rfl) ?_
      obtain ⟨a21, e, hF22⟩ := bindS hF20; clear hF20
      refine boolO e ?_; clear e
      cases a21
      · have hF23 := condF hF22; clear hF22
        refine sq ?_
        refine fld gok rfl rfl rfl rfl ?_
        refine load1 (H.bx 1 rfl (j := 3) rfl) ?_
        refine fld gok rfl rfl rfl rfl ?_
        refine load1 (H.bx 0 rfl (j := 3) rfl) ?_
        obtain ⟨y24, e, hF25⟩ := bindS hF23; clear hF23
        have ey24 := e; clear e
        refine callF (laws_eqIntSS_c a__3 a__3h b__3 b__3h y24 ey24) (Γi := []) H ⟨Vw.sh 2 rfl, Vw.sh 6 rfl, trivial⟩ ?_; clear H ey24
        rintro _ _ w26 ⟨rfl, rfl⟩ (H : Cx w0 fp0 S0 w26 [Bx b13 [(.int .i64 b__0), (.int .i64 b__1), (.int .i64 b__2), (b__3h).v, (b__4h).v, (b__5h).v, (b__6h).v], Bx b10 [(.int .i64 a__0), (.int .i64 a__1), (.int .i64 a__2), (a__3h).v, (a__4h).v, (a__5h).v, (a__6h).v], Es (List (List Int)) a__3 a__3h, Es (List (List Int)) a__4 a__4h, Es (List (List Int)) a__5 a__5h, Es (List (List Int)) a__6 a__6h, Es (List (List Int)) b__3 b__3h, Es (List (List Int)) b__4 b__4h, Es (List (List Int)) b__5 b__5h, Es (List (List Int)) b__6 b__6h])
        obtain ⟨a27, e, hF28⟩ := bindS hF25; clear hF25
        refine boolO e ?_; clear e
        cases a27
        · have hF29 := condF hF28; clear hF28
          refine sq ?_
          refine fld gok rfl rfl rfl rfl ?_
          refine load1 (H.bx 1 rfl (j := 4) rfl) ?_
          refine fld gok rfl rfl rfl rfl ?_
          refine load1 (H.bx 0 rfl (j := 4) rfl) ?_
          obtain ⟨y30, e, hF31⟩ := bindS hF29; clear hF29
          have ey30 := e; clear e
          refine callF (laws_eqIntSS_c a__4 a__4h b__4 b__4h y30 ey30) (Γi := []) H ⟨Vw.sh 3 rfl, Vw.sh 7 rfl, trivial⟩ ?_; clear H ey30
          rintro _ _ w32 ⟨rfl, rfl⟩ (H : Cx w0 fp0 S0 w32 [Bx b13 [(.int .i64 b__0), (.int .i64 b__1), (.int .i64 b__2), (b__3h).v, (b__4h).v, (b__5h).v, (b__6h).v], Bx b10 [(.int .i64 a__0), (.int .i64 a__1), (.int .i64 a__2), (a__3h).v, (a__4h).v, (a__5h).v, (a__6h).v], Es (List (List Int)) a__3 a__3h, Es (List (List Int)) a__4 a__4h, Es (List (List Int)) a__5 a__5h, Es (List (List Int)) a__6 a__6h, Es (List (List Int)) b__3 b__3h, Es (List (List Int)) b__4 b__4h, Es (List (List Int)) b__5 b__5h, Es (List (List Int)) b__6 b__6h])
          obtain ⟨a33, e, hF34⟩ := bindS hF31; clear hF31
          refine boolO e ?_; clear e
          cases a33
          · have hF35 := condF hF34; clear hF34
            refine sq ?_
            refine fld gok rfl rfl rfl rfl ?_
            refine load1 (H.bx 1 rfl (j := 5) rfl) ?_
            refine fld gok rfl rfl rfl rfl ?_
            refine load1 (H.bx 0 rfl (j := 5) rfl) ?_
            obtain ⟨y36, e, hF37⟩ := bindS hF35; clear hF35
            have ey36 := e; clear e
            refine callF (laws_eqIntSS_c a__5 a__5h b__5 b__5h y36 ey36) (Γi := []) H ⟨Vw.sh 4 rfl, Vw.sh 8 rfl, trivial⟩ ?_; clear H ey36
            rintro _ _ w38 ⟨rfl, rfl⟩ (H : Cx w0 fp0 S0 w38 [Bx b13 [(.int .i64 b__0), (.int .i64 b__1), (.int .i64 b__2), (b__3h).v, (b__4h).v, (b__5h).v, (b__6h).v], Bx b10 [(.int .i64 a__0), (.int .i64 a__1), (.int .i64 a__2), (a__3h).v, (a__4h).v, (a__5h).v, (a__6h).v], Es (List (List Int)) a__3 a__3h, Es (List (List Int)) a__4 a__4h, Es (List (List Int)) a__5 a__5h, Es (List (List Int)) a__6 a__6h, Es (List (List Int)) b__3 b__3h, Es (List (List Int)) b__4 b__4h, Es (List (List Int)) b__5 b__5h, Es (List (List Int)) b__6 b__6h])
            obtain ⟨a39, e, hF40⟩ := bindS hF37; clear hF37
            refine boolO e ?_; clear e
            cases a39
            · have hF41 := condF hF40; clear hF40
              refine sq ?_
              refine fld gok rfl rfl rfl rfl ?_
              refine load1 (H.bx 1 rfl (j := 6) rfl) ?_
              refine fld gok rfl rfl rfl rfl ?_
              refine load1 (H.bx 0 rfl (j := 6) rfl) ?_
              obtain ⟨y42, e, hF43⟩ := bindS hF41; clear hF41
              have ey42 := e; clear e
              refine callF (laws_eqIntSS_c a__6 a__6h b__6 b__6h y42 ey42) (Γi := []) H ⟨Vw.sh 5 rfl, Vw.sh 9 rfl, trivial⟩ ?_; clear H ey42
              rintro _ _ w44 ⟨rfl, rfl⟩ (H : Cx w0 fp0 S0 w44 [Bx b13 [(.int .i64 b__0), (.int .i64 b__1), (.int .i64 b__2), (b__3h).v, (b__4h).v, (b__5h).v, (b__6h).v], Bx b10 [(.int .i64 a__0), (.int .i64 a__1), (.int .i64 a__2), (a__3h).v, (a__4h).v, (a__5h).v, (a__6h).v], Es (List (List Int)) a__3 a__3h, Es (List (List Int)) a__4 a__4h, Es (List (List Int)) a__5 a__5h, Es (List (List Int)) a__6 a__6h, Es (List (List Int)) b__3 b__3h, Es (List (List Int)) b__4 b__4h, Es (List (List Int)) b__5 b__5h, Es (List (List Int)) b__6 b__6h])
              obtain ⟨a45, e, hF46⟩ := bindS hF43; clear hF43
              refine boolO e ?_; clear e
              cases a45
              · have hF47 := condF hF46; clear hF46
                cases hF47
                exact ⟨_, _, rfl, ⟨rfl, rfl⟩, (H.sel [] rfl).close trivial⟩
              · have hF48 := condT hF46; clear hF46
                cases hF48
                exact ⟨_, _, rfl, ⟨rfl, rfl⟩, (H.sel [] rfl).close trivial⟩
            · have hF49 := condT hF40; clear hF40
              cases hF49
              exact ⟨_, _, rfl, ⟨rfl, rfl⟩, (H.sel [] rfl).close trivial⟩
          · have hF50 := condT hF34; clear hF34
            cases hF50
            exact ⟨_, _, rfl, ⟨rfl, rfl⟩, (H.sel [] rfl).close trivial⟩
        · have hF51 := condT hF28; clear hF28
          cases hF51
          exact ⟨_, _, rfl, ⟨rfl, rfl⟩, (H.sel [] rfl).close trivial⟩
      · have hF52 := condT hF22; clear hF22
        cases hF52
        exact ⟨_, _, rfl, ⟨rfl, rfl⟩, (H.sel [] rfl).close trivial⟩
    · have hF53 := condT hF19; clear hF19
      cases hF53
      exact ⟨_, _, rfl, ⟨rfl, rfl⟩, (H.sel [] rfl).close trivial⟩
  · have hF54 := condT hF16; clear hF16
    cases hF54
    exact ⟨_, _, rfl, ⟨rfl, rfl⟩, (H.sel [] rfl).close trivial⟩

theorem laws_markIntS_c (a_ : List Int) (a_h : Hd) (k_ : Int) (y0 : List Int) (y1 : Int) (hF : F_laws_markIntS a_ k_ = some (y0, y1)) :
    ConF Tryd.prog 42 #[(a_h).v, (.int .i64 k_)] [] [E (List Int) a_ a_h] (fun v Γ' => v = (.int .i64 y1) ∧ Γ' = [E (List Int) y0 a_h]) := by
  intro w0 S0 fp0 hI hS
  have H : Cx w0 fp0 S0 w0 [E (List Int) a_ a_h] := Cx.start hI hS
  clear hI hS
  refine enterC (args := [_, _]) gok Tryd.func42 rfl _ rfl rfl rfl ?_
  obtain ⟨r69, hF71, hF70⟩ := bindS hF; clear hF
  refine cut (fun (q72 : List Int × Int) => [(1, (.int .i64 q72.2))]) (fun (q72 : List Int × Int) w' => (q72.1, q72.2) = r69 ∧ Cx w0 fp0 S0 w' [E (List Int) q72.1 a_h]) ?_ ?_
  · skip
    refine loopW _ (fun (s111 : List Int × Int × Int) (_ : Unit) => [(0, (a_h).v), (1, (.int .i64 s111.2.1)), (5, (.int .i64 s111.2.2))]) (fun (s111 : List Int × Int × Int) (_ : Unit) w' => Cx w0 fp0 S0 w' [E (List Int) s111.1 a_h]) (a_, k_, 0) () hF71 ⟨rfl, rfl, rfl, trivial⟩ (H.sel [0] rfl) ?_
    · clear H
      rintro T117 ⟨s111_0, s111_1, s111_2⟩ _ w116 o118 (H : Cx w0 fp0 S0 w116 [E (List Int) s111_0 a_h]) hrt hF119
      refine sq ?_
      refine lenE (H.ro (α := List Int) 0 rfl).len ?_
      obtain ⟨a120, e, hF121⟩ := bindS hF119; clear hF119
      refine boolO e ?_; clear e
      cases a120
      · have hF122 := condF hF121; clear hF121
        have hs := Option.some.inj hF122; subst hs; clear hF122
        have hF123 : some _ = some _ := congrArg some (hrt _ rfl).symm
        exact ⟨(s111_0, s111_1), ⟨rfl, trivial⟩, Option.some.inj hF123, H.sel [0] rfl⟩
      · have hF124 := condT hF121; clear hF121
        refine sq ?_
        obtain ⟨a131, e, hF132⟩ := bindS hF124; clear hF124
        have ea131 := e; clear e
        obtain ⟨p129, m130, c125, c126, c127⟩ := (H.ro (α := List Int) 0 rfl).setp ea131
        refine idxE c125 c126 c127 ?_
        refine setS (α := Int) H c125 c126 ea131 ?_; clear H c125 c126 c127 ea131; intro w133 H
        obtain ⟨a134, e, hF135⟩ := bindS hF132; clear hF132
        refine arO e ?_; clear e
        obtain ⟨a136, e, hF137⟩ := bindS hF135; clear hF135
        refine arO e ?_; clear e
        have hs := Option.some.inj hF137; subst hs; clear hF137
        exact ⟨(a131, a134, a136), (), rfl, ⟨rfl, rfl, rfl, trivial⟩, H.sel [0] rfl⟩
  · clear hF71 H
    rintro T139 ⟨s67_0, s67_1⟩ w138 ⟨hr, (H : Cx w0 fp0 S0 w138 [E (List Int) s67_0 a_h])⟩
    subst hr
    cases hF70
    exact ⟨_, _, rfl, ⟨rfl, rfl⟩, (H.sel [0] rfl).close ⟨cloE, trivial⟩⟩

theorem laws_markIntSS_c (a_ : List (List Int)) (a_h : Hd) (k_ : Int) (y0 : List (List Int)) (y1 : Int) (hF : F_laws_markIntSS a_ k_ = some (y0, y1)) :
    ConF Tryd.prog 80 #[(a_h).v, (.int .i64 k_)] [] [E (List (List Int)) a_ a_h] (fun v Γ' => v = (.int .i64 y1) ∧ Γ' = [E (List (List Int)) y0 a_h]) := by
  intro w0 S0 fp0 hI hS
  have H : Cx w0 fp0 S0 w0 [E (List (List Int)) a_ a_h] := Cx.start hI hS
  clear hI hS
  refine enterC (args := [_, _]) gok Tryd.func80 rfl _ rfl rfl rfl ?_
  obtain ⟨r81, hF83, hF82⟩ := bindS hF; clear hF
  refine cut (fun (q84 : List (List Int) × Int) => [(1, (.int .i64 q84.2))]) (fun (q84 : List (List Int) × Int) w' => (q84.1, q84.2) = r81 ∧ Cx w0 fp0 S0 w' [E (List (List Int)) q84.1 a_h]) ?_ ?_
  · skip
    refine loopW _ (fun (s131 : List (List Int) × Int × Int) (_ : Unit) => [(0, (a_h).v), (1, (.int .i64 s131.2.1)), (5, (.int .i64 s131.2.2))]) (fun (s131 : List (List Int) × Int × Int) (_ : Unit) w' => Cx w0 fp0 S0 w' [E (List (List Int)) s131.1 a_h]) (a_, k_, 0) () hF83 ⟨rfl, rfl, rfl, trivial⟩ (H.sel [0] rfl) ?_
    · clear H
      rintro T137 ⟨s131_0, s131_1, s131_2⟩ _ w136 o138 (H : Cx w0 fp0 S0 w136 [E (List (List Int)) s131_0 a_h]) hrt hF139
      refine sq ?_
      refine lenE (H.ro (α := List (List Int)) 0 rfl).len ?_
      obtain ⟨a140, e, hF141⟩ := bindS hF139; clear hF139
      refine boolO e ?_; clear e
      cases a140
      · have hF142 := condF hF141; clear hF141
        have hs := Option.some.inj hF142; subst hs; clear hF142
        have hF143 : some _ = some _ := congrArg some (hrt _ rfl).symm
        exact ⟨(s131_0, s131_1), ⟨rfl, trivial⟩, Option.some.inj hF143, H.sel [0] rfl⟩
      · have hF144 := condT hF141; clear hF141
        refine sq ?_
        obtain ⟨a151, e, hF152⟩ := bindS hF144; clear hF144
        replace H := H.toEH (α := List Int)
        have HH := H; clear H; obtain ⟨p149, m150, h153, c145, c146, c147, c148, H⟩ := HH.peekL e; clear HH
        clear e
        refine idxE c145 c146 c147 ?_
        refine load1 c148 ?_; clear c148
        obtain ⟨y154, e, hF155⟩ := bindS hF152; clear hF152
        obtain ⟨y154_0, y154_1⟩ := y154
        have ey154 := e; clear e
        replace H := H.takeK 0 rfl
        refine callF (laws_markIntS_c a151 h153 s131_1 y154_0 y154_1 ey154) (Γi := [E (List Int) a151 h153]) H trivial ?_; clear H ey154
        rintro _ _ w157 ⟨rfl, rfl⟩ (H : Cx w0 fp0 S0 w157 [E (List Int) y154_0 h153, EX (List Int) m150 [(h153).v] s131_0 a_h])
        obtain ⟨a158, e, hF159⟩ := bindS hF155; clear hF155
        replace H := H.put c146 e; clear e
        obtain ⟨a160, e, hF161⟩ := bindS hF159; clear hF159
        refine arO e ?_; clear e
        have hs := Option.some.inj hF161; subst hs; clear hF161
        exact ⟨(a158, y154_1, a160), (), rfl, ⟨rfl, rfl, rfl, trivial⟩, H.sel [0] rfl⟩
  · clear hF83 H
    rintro T163 ⟨s79_0, s79_1⟩ w162 ⟨hr, (H : Cx w0 fp0 S0 w162 [E (List (List Int)) s79_0 a_h])⟩
    subst hr
    cases hF82
    exact ⟨_, _, rfl, ⟨rfl, rfl⟩, (H.sel [0] rfl).close ⟨cloE, trivial⟩⟩

theorem laws_markStateSpace_c (a__0 : Int) (a__1 : Int) (a__2 : Int) (a__3 : List (List Int)) (a__3h : Hd) (a__4 : List (List Int)) (a__4h : Hd) (a__5 : List (List Int)) (a__5h : Hd) (a__6 : List (List Int)) (a__6h : Hd) (k_ : Int) (y0_0 : Int) (y0_1 : Int) (y0_2 : Int) (y0_3 : List (List Int)) (y0_4 : List (List Int)) (y0_5 : List (List Int)) (y0_6 : List (List Int)) (y1 : Int) (hF : F_laws_markStateSpace (a__0, a__1, a__2, a__3, a__4, a__5, a__6) k_ = some ((y0_0, y0_1, y0_2, y0_3, y0_4, y0_5, y0_6), y1)) :
    ConF Tryd.prog 26 #[(.agg #[(.int .i64 a__0), (.int .i64 a__1), (.int .i64 a__2), (a__3h).v, (a__4h).v, (a__5h).v, (a__6h).v]), (.int .i64 k_)] [] [E (List (List Int)) a__3 a__3h, E (List (List Int)) a__4 a__4h, E (List (List Int)) a__5 a__5h, E (List (List Int)) a__6 a__6h] (fun v Γ' => v = (.int .i64 y1) ∧ Γ' = [E (List (List Int)) y0_3 a__3h, E (List (List Int)) y0_4 a__4h, E (List (List Int)) y0_5 a__5h, E (List (List Int)) y0_6 a__6h]) := by
  intro w0 S0 fp0 hI hS
  have H : Cx w0 fp0 S0 w0 [E (List (List Int)) a__3 a__3h, E (List (List Int)) a__4 a__4h, E (List (List Int)) a__5 a__5h, E (List (List Int)) a__6 a__6h] := Cx.start hI hS
  clear hI hS
  refine enterC (args := [_, _]) gok Tryd.func26 rfl _ rfl rfl rfl ?_
  refine box_ H ?_; clear H; intro b6 w5 hx H
  clear hx
  replace H : Cx w0 fp0 S0 w5 [Bx b6 [(.int .i64 a__0), (.int .i64 a__1), (.int .i64 a__2), (a__3h).v, (a__4h).v, (a__5h).v, (a__6h).v], E (List (List Int)) a__3 a__3h, E (List (List Int)) a__4 a__4h, E (List (List Int)) a__5 a__5h, E (List (List Int)) a__6 a__6h] := H
  refine fld gok rfl rfl rfl rfl ?_
  refine load1 (H.bx 0 rfl (j := 3) rfl) ?_
  obtain ⟨y8, e, hF9⟩ := bindS hF; clear hF
  obtain ⟨y8_0, y8_1⟩ := y8
  have ey8 := e; clear e
  replace H := H.sel [1, 0, 2, 3, 4] rfl
  refine callF (laws_markIntSS_c a__3 a__3h k_ y8_0 y8_1 ey8) (Γi := [E (List (List Int)) a__3 a__3h]) H trivial ?_; clear H ey8
  rintro _ _ w10 ⟨rfl, rfl⟩ (H : Cx w0 fp0 S0 w10 [E (List (List Int)) y8_0 a__3h, Bx b6 [(.int .i64 a__0), (.int .i64 a__1), (.int .i64 a__2), (a__3h).v, (a__4h).v, (a__5h).v, (a__6h).v], E (List (List Int)) a__4 a__4h, E (List (List Int)) a__5 a__5h, E (List (List Int)) a__6 a__6h])
  refine fld gok rfl rfl rfl rfl ?_
  refine load1 (H.bx 1 rfl (j := 4) rfl) ?_
  obtain ⟨y11, e, hF12⟩ := bindS hF9; clear hF9
  obtain ⟨y11_0, y11_1⟩ := y11
  have ey11 := e; clear e
  replace H := H.sel [2, 0, 1, 3, 4] rfl
  refine callF (laws_markIntSS_c a__4 a__4h y8_1 y11_0 y11_1 ey11) (Γi := [E (List (List Int)) a__4 a__4h]) H trivial ?_; clear H ey11
  rintro _ _ w13 ⟨rfl, rfl⟩ (H : Cx w0 fp0 S0 w13 [E (List (List Int)) y11_0 a__4h, E (List (List Int)) y8_0 a__3h, Bx b6 [(.int .i64 a__0), (.int .i64 a__1), (.int .i64 a__2), (a__3h).v, (a__4h).v, (a__5h).v, (a__6h).v], E (List (List Int)) a__5 a__5h, E (List (List Int)) a__6 a__6h])
  refine fld gok rfl rfl rfl rfl ?_
  refine load1 (H.bx 2 rfl (j := 5) rfl) ?_
  obtain ⟨y14, e, hF15⟩ := bindS hF12; clear hF12
  obtain ⟨y14_0, y14_1⟩ := y14
  have ey14 := e; clear e
  replace H := H.sel [3, 0, 1, 2, 4] rfl
  refine callF (laws_markIntSS_c a__5 a__5h y11_1 y14_0 y14_1 ey14) (Γi := [E (List (List Int)) a__5 a__5h]) H trivial ?_; clear H ey14
  rintro _ _ w16 ⟨rfl, rfl⟩ (H : Cx w0 fp0 S0 w16 [E (List (List Int)) y14_0 a__5h, E (List (List Int)) y11_0 a__4h, E (List (List Int)) y8_0 a__3h, Bx b6 [(.int .i64 a__0), (.int .i64 a__1), (.int .i64 a__2), (a__3h).v, (a__4h).v, (a__5h).v, (a__6h).v], E (List (List Int)) a__6 a__6h])
  refine fld gok rfl rfl rfl rfl ?_
  refine load1 (H.bx 3 rfl (j := 6) rfl) ?_
  obtain ⟨y17, e, hF18⟩ := bindS hF15; clear hF15
  obtain ⟨y17_0, y17_1⟩ := y17
  have ey17 := e; clear e
  replace H := H.sel [4, 0, 1, 2, 3] rfl
  refine callF (laws_markIntSS_c a__6 a__6h y14_1 y17_0 y17_1 ey17) (Γi := [E (List (List Int)) a__6 a__6h]) H trivial ?_; clear H ey17
  rintro _ _ w19 ⟨rfl, rfl⟩ (H : Cx w0 fp0 S0 w19 [E (List (List Int)) y17_0 a__6h, E (List (List Int)) y14_0 a__5h, E (List (List Int)) y11_0 a__4h, E (List (List Int)) y8_0 a__3h, Bx b6 [(.int .i64 a__0), (.int .i64 a__1), (.int .i64 a__2), (a__3h).v, (a__4h).v, (a__5h).v, (a__6h).v]])
  cases hF18
  exact ⟨_, _, rfl, ⟨rfl, rfl⟩, (H.sel [3, 2, 1, 0] rfl).close ⟨cloE, cloE, cloE, cloE, trivial⟩⟩

theorem laws_markMatrixS_c (a_ : List (Int × List (List Int))) (a_h : Hd) (k_ : Int) (y0 : List (Int × List (List Int))) (y1 : Int) (hF : F_laws_markMatrixS a_ k_ = some (y0, y1)) :
    ConF Tryd.prog 27 #[(a_h).v, (.int .i64 k_)] [] [E (List (Int × List (List Int))) a_ a_h] (fun v Γ' => v = (.int .i64 y1) ∧ Γ' = [E (List (Int × List (List Int))) y0 a_h]) := by
  intro w0 S0 fp0 hI hS
  have H : Cx w0 fp0 S0 w0 [E (List (Int × List (List Int))) a_ a_h] := Cx.start hI hS
  clear hI hS
  refine enterC (args := [_, _]) gok Tryd.func27 rfl _ rfl rfl rfl ?_
  obtain ⟨r156, hF158, hF157⟩ := bindS hF; clear hF
  refine cut (fun (q159 : (List (Int × List (List Int))) × Int) => [(1, (.int .i64 q159.2))]) (fun (q159 : (List (Int × List (List Int))) × Int) w' => (q159.1, q159.2) = r156 ∧ Cx w0 fp0 S0 w' [E (List (Int × List (List Int))) q159.1 a_h]) ?_ ?_
  · skip
    refine loopW _ (fun (s256 : (List (Int × List (List Int))) × Int × Int) (_ : Unit) => [(0, (a_h).v), (1, (.int .i64 s256.2.1)), (5, (.int .i64 s256.2.2))]) (fun (s256 : (List (Int × List (List Int))) × Int × Int) (_ : Unit) w' => Cx w0 fp0 S0 w' [E (List (Int × List (List Int))) s256.1 a_h]) (a_, k_, 0) () hF158 ⟨rfl, rfl, rfl, trivial⟩ (H.sel [0] rfl) ?_
    · clear H
      rintro T262 ⟨s256_0, s256_1, s256_2⟩ _ w261 o263 (H : Cx w0 fp0 S0 w261 [E (List (Int × List (List Int))) s256_0 a_h]) hrt hF264
      refine sq ?_
      refine lenE (H.ro (α := List (Int × List (List Int))) 0 rfl).len ?_
      obtain ⟨a265, e, hF266⟩ := bindS hF264; clear hF264
      refine boolO e ?_; clear e
      cases a265
      · have hF267 := condF hF266; clear hF266
        have hs := Option.some.inj hF267; subst hs; clear hF267
        have hF268 : some _ = some _ := congrArg some (hrt _ rfl).symm
        exact ⟨(s256_0, s256_1), ⟨rfl, trivial⟩, Option.some.inj hF268, H.sel [0] rfl⟩
      · have hF269 := condT hF266; clear hF266
        refine sq ?_
        obtain ⟨a276, e, hF277⟩ := bindS hF269; clear hF269
        replace H := H.toEH (α := Int × List (List Int))
        have HH := H; clear H; obtain ⟨p274, m275, g278, c270, c271, c272, c273, H⟩ := HH.peek e; clear HH
        clear e
        obtain ⟨a276_0, a276_1⟩ := a276
        obtain ⟨_, h279⟩ := g278
        refine idxE c270 c271 c272 ?_
        refine fld gok rfl rfl rfl rfl ?_
        replace H := H.takeK 0 rfl
        replace H := H.sel [1, 0] rfl
        refine stX (α := Int × List (List Int)) (j := 0) H c270 rfl rfl ?_; clear H; intro w281 H
        replace H := H.sel [1, 0] rfl
        replace H := H.split
        replace H := H.sel [1, 2] rfl
        replace H := H.sc (α := Int) s256_1
        replace H := H.join (α := Int) (β := List (List Int))
        obtain ⟨a286, e, hF287⟩ := bindS hF277; clear hF277
        replace H := H.put c271 e; clear e
        obtain ⟨a288, e, hF289⟩ := bindS hF287; clear hF287
        refine arO e ?_; clear e
        obtain ⟨a296, e, hF297⟩ := bindS hF289; clear hF289
        replace H := H.toEH (α := Int × List (List Int))
        have HH := H; clear H; obtain ⟨p294, m295, g298, c290, c291, c292, c293, H⟩ := HH.peek e; clear HH
        clear e
        obtain ⟨a296_0, a296_1⟩ := a296
        obtain ⟨_, h299⟩ := g298
        refine idxE c290 c291 c292 ?_
        refine fld gok rfl rfl rfl rfl ?_
        refine load1 (c293 1 _ rfl) ?_
        obtain ⟨y300, e, hF301⟩ := bindS hF297; clear hF297
        obtain ⟨y300_0, y300_1⟩ := y300
        have ey300 := e; clear e
        replace H := H.takeK 0 rfl
        replace H := H.split
        replace H := H.sel [1, 2] rfl
        refine callF (laws_markIntSS_c a296_1 h299 a288 y300_0 y300_1 ey300) (Γi := [E (List (List Int)) a296_1 h299]) H trivial ?_; clear H ey300
        rintro _ _ w305 ⟨rfl, rfl⟩ (H : Cx w0 fp0 S0 w305 [E (List (List Int)) y300_0 h299, EX (Int × List (List Int)) m295 [(.int .i64 a296_0), (h299).v] a286 a_h])
        replace H := H.sc (α := Int) a296_0
        replace H := H.join (α := Int) (β := List (List Int))
        obtain ⟨a308, e, hF309⟩ := bindS hF301; clear hF301
        replace H := H.put c291 e; clear e
        obtain ⟨a310, e, hF311⟩ := bindS hF309; clear hF309
        refine arO e ?_; clear e
        have hs := Option.some.inj hF311; subst hs; clear hF311
        exact ⟨(a308, y300_1, a310), (), rfl, ⟨rfl, rfl, rfl, trivial⟩, H.sel [0] rfl⟩
  · clear hF158 H
    rintro T313 ⟨s154_0, s154_1⟩ w312 ⟨hr, (H : Cx w0 fp0 S0 w312 [E (List (Int × List (List Int))) s154_0 a_h])⟩
    subst hr
    cases hF157
    exact ⟨_, _, rfl, ⟨rfl, rfl⟩, (H.sel [0] rfl).close ⟨cloE, trivial⟩⟩

theorem laws_heldIntS_c (a_ : List Int) (a_h : Hd) (k_ : Int) (y : Int) (hF : F_laws_heldIntS a_ k_ = some y) :
    ConF Tryd.prog 43 #[(a_h).v, (.int .i64 k_)] [Es (List Int) a_ a_h] [] (fun v Γ' => v = (.int .i64 y) ∧ Γ' = []) := by
  intro w0 S0 fp0 hI hS
  have H : Cx w0 fp0 S0 w0 [Es (List Int) a_ a_h] := Cx.start hI hS
  clear hI hS
  refine enterC (args := [_, _]) gok Tryd.func43 rfl _ rfl rfl rfl ?_
  obtain ⟨r79, hF81, hF80⟩ := bindS hF; clear hF
  refine cut (fun (q82 : Int) => [(1, (.int .i64 q82))]) (fun (q82 : Int) w' => .inl q82 = r79 ∧ Cx w0 fp0 S0 w' []) ?_ ?_
  · skip
    refine loopW _ (fun (s127 : Int × Int) (_ : Unit) => [(0, (a_h).v), (1, (.int .i64 s127.1)), (5, (.int .i64 s127.2))]) (fun (s127 : Int × Int) (_ : Unit) w' => Cx w0 fp0 S0 w' [Es (List Int) a_ a_h]) (k_, 0) () hF81 ⟨rfl, rfl, rfl, trivial⟩ (H.sel [0] rfl) ?_
    · clear H
      rintro T133 ⟨s127_0, s127_1⟩ _ w132 o134 (H : Cx w0 fp0 S0 w132 [Es (List Int) a_ a_h]) hrt hF135
      refine sq ?_
      refine lenE (H.rs (α := List Int) 0 rfl).len ?_
      obtain ⟨a136, e, hF137⟩ := bindS hF135; clear hF135
      refine boolO e ?_; clear e
      cases a136
      · have hF138 := condF hF137; clear hF137
        have hs := Option.some.inj hF138; subst hs; clear hF138
        have hF139 : some _ = some _ := congrArg some (hrt _ rfl).symm
        exact ⟨s127_0, ⟨rfl, trivial⟩, Option.some.inj hF139, H.sel [] rfl⟩
      · have hF140 := condT hF137; clear hF137
        refine sq ?_
        refine sq ?_
        obtain ⟨a147, e, hF148⟩ := bindS hF140; clear hF140
        obtain ⟨p145, m146, c141, c142, c143, c144⟩ := (H.rs (α := List Int) 0 rfl).at1 e; clear e
        refine idxE c141 c142 c143 ?_; clear c141 c142 c143
        refine load1 c144 ?_; clear c144
        obtain ⟨a149, e, hF150⟩ := bindS hF148; clear hF148
        refine boolO e ?_; clear e
        cases a149
        · have hF151 := condF hF150; clear hF150
          obtain ⟨a152, e, hF153⟩ := bindS hF151; clear hF151
          refine arO e ?_; clear e
          obtain ⟨a154, e, hF155⟩ := bindS hF153; clear hF153
          refine arO e ?_; clear e
          have hs := Option.some.inj hF155; subst hs; clear hF155
          exact ⟨(a152, a154), (), rfl, ⟨rfl, rfl, rfl, trivial⟩, H.sel [0] rfl⟩
        · have hF156 := condT hF150; clear hF150
          have hs := Option.some.inj hF156; subst hs; clear hF156
          have hF157 : some _ = some _ := congrArg some (hrt _ rfl).symm
          have hs := Option.some.inj hF157; subst hs; clear hF157
          have hF158 : some _ = some _ := hF80; clear hF80
          cases hF158
          exact ⟨_, _, rfl, ⟨rfl, rfl⟩, (H.sel [] rfl).close trivial⟩
  · clear hF81 H
    rintro T160 s77 w159 ⟨hr, (H : Cx w0 fp0 S0 w159 [])⟩
    subst hr
    cases hF80
    exact ⟨_, _, rfl, ⟨rfl, rfl⟩, (H.sel [] rfl).close trivial⟩

theorem laws_heldIntSS_c (a_ : List (List Int)) (a_h : Hd) (k_ : Int) (y : Int) (hF : F_laws_heldIntSS a_ k_ = some y) :
    ConF Tryd.prog 81 #[(a_h).v, (.int .i64 k_)] [Es (List (List Int)) a_ a_h] [] (fun v Γ' => v = (.int .i64 y) ∧ Γ' = []) := by
  intro w0 S0 fp0 hI hS
  have H : Cx w0 fp0 S0 w0 [Es (List (List Int)) a_ a_h] := Cx.start hI hS
  clear hI hS
  refine enterC (args := [_, _]) gok Tryd.func81 rfl _ rfl rfl rfl ?_
  obtain ⟨r88, hF90, hF89⟩ := bindS hF; clear hF
  refine cut (fun (q91 : Int) => [(1, (.int .i64 q91))]) (fun (q91 : Int) w' => .inl q91 = r88 ∧ Cx w0 fp0 S0 w' []) ?_ ?_
  · skip
    refine loopW _ (fun (s142 : Int × Int) (_ : Unit) => [(0, (a_h).v), (1, (.int .i64 s142.1)), (5, (.int .i64 s142.2))]) (fun (s142 : Int × Int) (_ : Unit) w' => Cx w0 fp0 S0 w' [Es (List (List Int)) a_ a_h]) (k_, 0) () hF90 ⟨rfl, rfl, rfl, trivial⟩ (H.sel [0] rfl) ?_
    · clear H
      rintro T148 ⟨s142_0, s142_1⟩ _ w147 o149 (H : Cx w0 fp0 S0 w147 [Es (List (List Int)) a_ a_h]) hrt hF150
      refine sq ?_
      refine lenE (H.rs (α := List (List Int)) 0 rfl).len ?_
      obtain ⟨a151, e, hF152⟩ := bindS hF150; clear hF150
      refine boolO e ?_; clear e
      cases a151
      · have hF153 := condF hF152; clear hF152
        have hs := Option.some.inj hF153; subst hs; clear hF153
        have hF154 : some _ = some _ := congrArg some (hrt _ rfl).symm
        exact ⟨s142_0, ⟨rfl, trivial⟩, Option.some.inj hF154, H.sel [] rfl⟩
      · have hF155 := condT hF152; clear hF152
        refine sq ?_
        obtain ⟨a162, e, hF163⟩ := bindS hF155; clear hF155
        have HH := H; clear H; obtain ⟨p160, m161, h164, c156, c157, c158, c159, H⟩ := HH.elL 0 rfl e; clear HH
        clear e
        refine idxE c156 c157 c158 ?_; clear c156 c157 c158
        refine load1 c159 ?_; clear c159
        obtain ⟨y166, e, hF167⟩ := bindS hF163; clear hF163
        have ey166 := e; clear e
        refine callF (laws_heldIntS_c a162 h164 s142_0 y166 ey166) (Γi := []) H ⟨Vw.sh 0 rfl, trivial⟩ ?_; clear H ey166
        rintro _ _ w168 ⟨rfl, rfl⟩ (H : Cx w0 fp0 S0 w168 [Es (List Int) a162 h164, Es (List (List Int)) a_ a_h])
        obtain ⟨a169, e, hF170⟩ := bindS hF167; clear hF167
        refine boolO e ?_; clear e
        cases a169
        · have hF171 := condF hF170; clear hF170
          obtain ⟨a172, e, hF173⟩ := bindS hF171; clear hF171
          refine arO e ?_; clear e
          have hs := Option.some.inj hF173; subst hs; clear hF173
          exact ⟨(y166, a172), (), rfl, ⟨rfl, rfl, rfl, trivial⟩, H.sel [1] rfl⟩
        · have hF174 := condT hF170; clear hF170
          have hs := Option.some.inj hF174; subst hs; clear hF174
          have hF175 : some _ = some _ := congrArg some (hrt _ rfl).symm
          have hs := Option.some.inj hF175; subst hs; clear hF175
          have hF176 : some _ = some _ := hF89; clear hF89
          cases hF176
          exact ⟨_, _, rfl, ⟨rfl, rfl⟩, (H.sel [] rfl).close trivial⟩
  · clear hF90 H
    rintro T178 s86 w177 ⟨hr, (H : Cx w0 fp0 S0 w177 [])⟩
    subst hr
    cases hF89
    exact ⟨_, _, rfl, ⟨rfl, rfl⟩, (H.sel [] rfl).close trivial⟩

theorem laws_heldMatrixS_c (a_ : List (Int × List (List Int))) (a_h : Hd) (k_ : Int) (y : Int) (hF : F_laws_heldMatrixS a_ k_ = some y) :
    ConF Tryd.prog 28 #[(a_h).v, (.int .i64 k_)] [Es (List (Int × List (List Int))) a_ a_h] [] (fun v Γ' => v = (.int .i64 y) ∧ Γ' = []) := by
  intro w0 S0 fp0 hI hS
  have H : Cx w0 fp0 S0 w0 [Es (List (Int × List (List Int))) a_ a_h] := Cx.start hI hS
  clear hI hS
  refine enterC (args := [_, _]) gok Tryd.func28 rfl _ rfl rfl rfl ?_
  obtain ⟨r149, hF151, hF150⟩ := bindS hF; clear hF
  refine cut (fun (q152 : Int) => [(1, (.int .i64 q152))]) (fun (q152 : Int) w' => .inl q152 = r149 ∧ Cx w0 fp0 S0 w' []) ?_ ?_
  · skip
    refine loopW _ (fun (s243 : Int × Int) (_ : Unit) => [(0, (a_h).v), (1, (.int .i64 s243.1)), (5, (.int .i64 s243.2))]) (fun (s243 : Int × Int) (_ : Unit) w' => Cx w0 fp0 S0 w' [Es (List (Int × List (List Int))) a_ a_h]) (k_, 0) () hF151 ⟨rfl, rfl, rfl, trivial⟩ (H.sel [0] rfl) ?_
    · clear H
      rintro T249 ⟨s243_0, s243_1⟩ _ w248 o250 (H : Cx w0 fp0 S0 w248 [Es (List (Int × List (List Int))) a_ a_h]) hrt hF251
      refine sq ?_
      refine lenE (H.rs (α := List (Int × List (List Int))) 0 rfl).len ?_
      obtain ⟨a252, e, hF253⟩ := bindS hF251; clear hF251
      refine boolO e ?_; clear e
      cases a252
      · have hF254 := condF hF253; clear hF253
        have hs := Option.some.inj hF254; subst hs; clear hF254
        have hF255 : some _ = some _ := congrArg some (hrt _ rfl).symm
        exact ⟨s243_0, ⟨rfl, trivial⟩, Option.some.inj hF255, H.sel [] rfl⟩
      · have hF256 := condT hF253; clear hF253
        refine sq ?_
        refine sq ?_
        obtain ⟨a263, e, hF264⟩ := bindS hF256; clear hF256
        have HH := H; clear H; obtain ⟨p261, m262, g265, c257, c258, c259, c260, H⟩ := HH.el (α := Int × List (List Int)) 0 rfl e; clear HH
        clear e
        obtain ⟨a263_0, a263_1⟩ := a263
        obtain ⟨_, h267⟩ := g265
        replace H := H.part (β := List (List Int)) a263_1 (h267 : Hd) 0 rfl (fun S h => (And.right h))
        replace H := H.sel [0, 2] rfl
        refine idxE c257 c258 c259 ?_; clear c257 c258 c259
        refine fld gok rfl rfl rfl rfl ?_
        refine load1 (c260 0 _ rfl) ?_
        obtain ⟨a269, e, hF270⟩ := bindS hF264; clear hF264
        refine boolO e ?_; clear e
        cases a269
        · have hF271 := condF hF270; clear hF270
          obtain ⟨a272, e, hF273⟩ := bindS hF271; clear hF271
          refine arO e ?_; clear e
          obtain ⟨a280, e, hF281⟩ := bindS hF273; clear hF273
          have HH := H; clear H; obtain ⟨p278, m279, g282, c274, c275, c276, c277, H⟩ := HH.el (α := Int × List (List Int)) 1 rfl e; clear HH
          clear e
          obtain ⟨a280_0, a280_1⟩ := a280
          obtain ⟨_, h284⟩ := g282
          replace H := H.part (β := List (List Int)) a280_1 (h284 : Hd) 0 rfl (fun S h => (And.right h))
          replace H := H.sel [0, 2, 3] rfl
          refine idxE c274 c275 c276 ?_; clear c274 c275 c276
          refine fld gok rfl rfl rfl rfl ?_
          refine load1 (c277 1 _ rfl) ?_
          obtain ⟨y286, e, hF287⟩ := bindS hF281; clear hF281
          have ey286 := e; clear e
          refine callF (laws_heldIntSS_c a280_1 h284 a272 y286 ey286) (Γi := []) H ⟨Vw.sh 0 rfl, trivial⟩ ?_; clear H ey286
          rintro _ _ w288 ⟨rfl, rfl⟩ (H : Cx w0 fp0 S0 w288 [Es (List (List Int)) a280_1 h284, Es (List (List Int)) a263_1 h267, Es (List (Int × List (List Int))) a_ a_h])
          obtain ⟨a289, e, hF290⟩ := bindS hF287; clear hF287
          refine boolO e ?_; clear e
          cases a289
          · have hF291 := condF hF290; clear hF290
            obtain ⟨a292, e, hF293⟩ := bindS hF291; clear hF291
            refine arO e ?_; clear e
            have hs := Option.some.inj hF293; subst hs; clear hF293
            exact ⟨(y286, a292), (), rfl, ⟨rfl, rfl, rfl, trivial⟩, H.sel [2] rfl⟩
          · have hF294 := condT hF290; clear hF290
            have hs := Option.some.inj hF294; subst hs; clear hF294
            have hF295 : some _ = some _ := congrArg some (hrt _ rfl).symm
            have hs := Option.some.inj hF295; subst hs; clear hF295
            have hF296 : some _ = some _ := hF150; clear hF150
            cases hF296
            exact ⟨_, _, rfl, ⟨rfl, rfl⟩, (H.sel [] rfl).close trivial⟩
        · have hF297 := condT hF270; clear hF270
          have hs := Option.some.inj hF297; subst hs; clear hF297
          have hF298 : some _ = some _ := congrArg some (hrt _ rfl).symm
          have hs := Option.some.inj hF298; subst hs; clear hF298
          have hF299 : some _ = some _ := hF150; clear hF150
          cases hF299
          exact ⟨_, _, rfl, ⟨rfl, rfl⟩, (H.sel [] rfl).close trivial⟩
  · clear hF151 H
    rintro T301 s147 w300 ⟨hr, (H : Cx w0 fp0 S0 w300 [])⟩
    subst hr
    cases hF150
    exact ⟨_, _, rfl, ⟨rfl, rfl⟩, (H.sel [] rfl).close trivial⟩

theorem laws_FnExactMarkovParameters_c (aP_ : Int) (aS__0 : Int) (aS__1 : Int) (aS__2 : Int) (aS__3 : List (List Int)) (aS__3h : Hd) (aS__4 : List (List Int)) (aS__4h : Hd) (aS__5 : List (List Int)) (aS__5h : Hd) (aS__6 : List (List Int)) (aS__6h : Hd) (aN_ : Int) (y : Bool) (hF : F_laws_FnExactMarkovParameters aP_ (aS__0, aS__1, aS__2, aS__3, aS__4, aS__5, aS__6) aN_ = some y) :
    ConF Tryd.prog 5 #[(.int .i64 aP_), (.agg #[(.int .i64 aS__0), (.int .i64 aS__1), (.int .i64 aS__2), (aS__3h).v, (aS__4h).v, (aS__5h).v, (aS__6h).v]), (.int .i64 aN_)] [Es (List (List Int)) aS__3 aS__3h, Es (List (List Int)) aS__4 aS__4h, Es (List (List Int)) aS__5 aS__5h, Es (List (List Int)) aS__6 aS__6h, Gl 0 [.int .i64 2, .int .i64 3, .int .i64 5, .int .i64 7]] [] (fun v Γ' => v = (.bool y) ∧ Γ' = []) := by
  intro w0 S0 fp0 hI hS
  have H : Cx w0 fp0 S0 w0 [Es (List (List Int)) aS__3 aS__3h, Es (List (List Int)) aS__4 aS__4h, Es (List (List Int)) aS__5 aS__5h, Es (List (List Int)) aS__6 aS__6h, Gl 0 [.int .i64 2, .int .i64 3, .int .i64 5, .int .i64 7]] := Cx.start hI hS
  clear hI hS
  refine enterC (args := [_, _, _]) gok Tryd.func5 rfl _ rfl rfl rfl ?_
  refine box_ H ?_; clear H; intro b7 w6 hx H
  clear hx
  replace H : Cx w0 fp0 S0 w6 [Bx b7 [(.int .i64 aS__0), (.int .i64 aS__1), (.int .i64 aS__2), (aS__3h).v, (aS__4h).v, (aS__5h).v, (aS__6h).v], Es (List (List Int)) aS__3 aS__3h, Es (List (List Int)) aS__4 aS__4h, Es (List (List Int)) aS__5 aS__5h, Es (List (List Int)) aS__6 aS__6h, Gl 0 [.int .i64 2, .int .i64 3, .int .i64 5, .int .i64 7]] := H
  refine loadN [(.int .i64 aS__0), (.int .i64 aS__1), (.int .i64 aS__2), (aS__3h).v, (aS__4h).v, (aS__5h).v, (aS__6h).v] rfl (fun j u hj => H.bx 0 rfl hj) ?_
  obtain ⟨y9, e, hF10⟩ := bindS hF; clear hF
  have ey9 := e; clear e
  refine callF (laws_szStateSpace_c aS__0 aS__1 aS__2 aS__3 aS__3h aS__4 aS__4h aS__5 aS__5h aS__6 aS__6h 1048576 y9 ey9) (Γi := []) H ⟨Vw.sh 1 rfl, Vw.sh 2 rfl, Vw.sh 3 rfl, Vw.sh 4 rfl, trivial⟩ ?_; clear H ey9
  rintro _ _ w11 ⟨rfl, rfl⟩ (H : Cx w0 fp0 S0 w11 [Bx b7 [(.int .i64 aS__0), (.int .i64 aS__1), (.int .i64 aS__2), (aS__3h).v, (aS__4h).v, (aS__5h).v, (aS__6h).v], Es (List (List Int)) aS__3 aS__3h, Es (List (List Int)) aS__4 aS__4h, Es (List (List Int)) aS__5 aS__5h, Es (List (List Int)) aS__6 aS__6h, Gl 0 [.int .i64 2, .int .i64 3, .int .i64 5, .int .i64 7]])
  refine sq ?_
  obtain ⟨a12, e, hF13⟩ := bindS hF10; clear hF10
  refine boolO e ?_; clear e
  cases a12
  · have hF14 := condF hF13; clear hF13
    refine loadN [(.int .i64 aS__0), (.int .i64 aS__1), (.int .i64 aS__2), (aS__3h).v, (aS__4h).v, (aS__5h).v, (aS__6h).v] rfl (fun j u hj => H.bx 0 rfl hj) ?_
    obtain ⟨y15, e, hF16⟩ := bindS hF14; clear hF14
    obtain ⟨y15_0, y15_1, y15_2, y15_3, y15_4, y15_5, y15_6⟩ := y15
    have ey15 := e; clear e
    refine callF (laws_toStateSpace_c aS__0 aS__1 aS__2 aS__3 aS__3h aS__4 aS__4h aS__5 aS__5h aS__6 aS__6h y15_0 y15_1 y15_2 y15_3 y15_4 y15_5 y15_6 ey15) (Γi := []) H ⟨Vw.sh 1 rfl, Vw.sh 2 rfl, Vw.sh 3 rfl, Vw.sh 4 rfl, trivial⟩ ?_; clear H ey15
    rintro _ _ w17 ⟨h18, h20, h22, h24, rfl, rfl⟩ (H : Cx w0 fp0 S0 w17 [E (List (List Int)) y15_3 h18, E (List (List Int)) y15_4 h20, E (List (List Int)) y15_5 h22, E (List (List Int)) y15_6 h24, Bx b7 [(.int .i64 aS__0), (.int .i64 aS__1), (.int .i64 aS__2), (aS__3h).v, (aS__4h).v, (aS__5h).v, (aS__6h).v], Es (List (List Int)) aS__3 aS__3h, Es (List (List Int)) aS__4 aS__4h, Es (List (List Int)) aS__5 aS__5h, Es (List (List Int)) aS__6 aS__6h, Gl 0 [.int .i64 2, .int .i64 3, .int .i64 5, .int .i64 7]])
    obtain ⟨y26, e, hF27⟩ := bindS hF16; clear hF16
    obtain ⟨y26_0, y26_1⟩ := y26
    have ey26 := e; clear e
    refine callF (spec_MarkovParameters_c aP_ y15_0 y15_1 y15_2 y15_3 h18 y15_4 h20 y15_5 h22 y15_6 h24 aN_ y26_0 y26_1 ey26) (Γi := []) H ⟨Vw.own 0 rfl, Vw.own 1 rfl, Vw.own 2 rfl, Vw.own 3 rfl, trivial⟩ ?_; clear H ey26
    rintro _ _ w28 ⟨h29, rfl, rfl⟩ (H : Cx w0 fp0 S0 w28 [E (List (Int × List (List Int))) y26_0 h29, E (List (List Int)) y15_3 h18, E (List (List Int)) y15_4 h20, E (List (List Int)) y15_5 h22, E (List (List Int)) y15_6 h24, Bx b7 [(.int .i64 aS__0), (.int .i64 aS__1), (.int .i64 aS__2), (aS__3h).v, (aS__4h).v, (aS__5h).v, (aS__6h).v], Es (List (List Int)) aS__3 aS__3h, Es (List (List Int)) aS__4 aS__4h, Es (List (List Int)) aS__5 aS__5h, Es (List (List Int)) aS__6 aS__6h, Gl 0 [.int .i64 2, .int .i64 3, .int .i64 5, .int .i64 7]])
    refine loadN [(.int .i64 aS__0), (.int .i64 aS__1), (.int .i64 aS__2), (aS__3h).v, (aS__4h).v, (aS__5h).v, (aS__6h).v] rfl (fun j u hj => H.bx 5 rfl hj) ?_
    obtain ⟨y31, e, hF32⟩ := bindS hF27; clear hF27
    obtain ⟨y31_0, y31_1, y31_2, y31_3, y31_4, y31_5, y31_6⟩ := y31
    have ey31 := e; clear e
    refine callF (laws_toStateSpace_c aS__0 aS__1 aS__2 aS__3 aS__3h aS__4 aS__4h aS__5 aS__5h aS__6 aS__6h y31_0 y31_1 y31_2 y31_3 y31_4 y31_5 y31_6 ey31) (Γi := []) H ⟨Vw.sh 6 rfl, Vw.sh 7 rfl, Vw.sh 8 rfl, Vw.sh 9 rfl, trivial⟩ ?_; clear H ey31
    rintro _ _ w33 ⟨h34, h36, h38, h40, rfl, rfl⟩ (H : Cx w0 fp0 S0 w33 [E (List (List Int)) y31_3 h34, E (List (List Int)) y31_4 h36, E (List (List Int)) y31_5 h38, E (List (List Int)) y31_6 h40, E (List (Int × List (List Int))) y26_0 h29, E (List (List Int)) y15_3 h18, E (List (List Int)) y15_4 h20, E (List (List Int)) y15_5 h22, E (List (List Int)) y15_6 h24, Bx b7 [(.int .i64 aS__0), (.int .i64 aS__1), (.int .i64 aS__2), (aS__3h).v, (aS__4h).v, (aS__5h).v, (aS__6h).v], Es (List (List Int)) aS__3 aS__3h, Es (List (List Int)) aS__4 aS__4h, Es (List (List Int)) aS__5 aS__5h, Es (List (List Int)) aS__6 aS__6h, Gl 0 [.int .i64 2, .int .i64 3, .int .i64 5, .int .i64 7]])
    refine alloc_ gok rfl H ?_; clear H; intro b43 w42 hx H
    clear hx
    replace H : Cx w0 fp0 S0 w42 [Bx b43 [(.int .i64 0), (.int .i64 0), (.int .i64 0), (.slice none 0 0), (.slice none 0 0), (.slice none 0 0), (.slice none 0 0)], E (List (List Int)) y31_3 h34, E (List (List Int)) y31_4 h36, E (List (List Int)) y31_5 h38, E (List (List Int)) y31_6 h40, E (List (Int × List (List Int))) y26_0 h29, E (List (List Int)) y15_3 h18, E (List (List Int)) y15_4 h20, E (List (List Int)) y15_5 h22, E (List (List Int)) y15_6 h24, Bx b7 [(.int .i64 aS__0), (.int .i64 aS__1), (.int .i64 aS__2), (aS__3h).v, (aS__4h).v, (aS__5h).v, (aS__6h).v], Es (List (List Int)) aS__3 aS__3h, Es (List (List Int)) aS__4 aS__4h, Es (List (List Int)) aS__5 aS__5h, Es (List (List Int)) aS__6 aS__6h, Gl 0 [.int .i64 2, .int .i64 3, .int .i64 5, .int .i64 7]] := H
    refine stA gok [(.int .i64 y31_0), (.int .i64 y31_1), (.int .i64 y31_2), (h34).v, (h36).v, (h38).v, (h40).v] rfl H rfl rfl rfl ?_; clear H; intro w45 H
    replace H : Cx w0 fp0 S0 w45 [Bx b43 [(.int .i64 y31_0), (.int .i64 y31_1), (.int .i64 y31_2), (h34).v, (h36).v, (h38).v, (h40).v], E (List (List Int)) y31_3 h34, E (List (List Int)) y31_4 h36, E (List (List Int)) y31_5 h38, E (List (List Int)) y31_6 h40, E (List (Int × List (List Int))) y26_0 h29, E (List (List Int)) y15_3 h18, E (List (List Int)) y15_4 h20, E (List (List Int)) y15_5 h22, E (List (List Int)) y15_6 h24, Bx b7 [(.int .i64 aS__0), (.int .i64 aS__1), (.int .i64 aS__2), (aS__3h).v, (aS__4h).v, (aS__5h).v, (aS__6h).v], Es (List (List Int)) aS__3 aS__3h, Es (List (List Int)) aS__4 aS__4h, Es (List (List Int)) aS__5 aS__5h, Es (List (List Int)) aS__6 aS__6h, Gl 0 [.int .i64 2, .int .i64 3, .int .i64 5, .int .i64 7]] := H
    refine loadN [(.int .i64 y31_0), (.int .i64 y31_1), (.int .i64 y31_2), (h34).v, (h36).v, (h38).v, (h40).v] rfl (fun j u hj => H.bx 0 rfl hj) ?_
    obtain ⟨y46, e, hF47⟩ := bindS hF32; clear hF32
    obtain ⟨y46_0, y46_1⟩ := y46
    have ey46 := e; clear e
    refine callF (impl_MarkovParameters_c aP_ y31_0 y31_1 y31_2 y31_3 h34 y31_4 h36 y31_5 h38 y31_6 h40 aN_ y46_0 y46_1 ey46) (Γi := []) H ⟨Vw.own 1 rfl, Vw.own 2 rfl, Vw.own 3 rfl, Vw.own 4 rfl, Vw.gl 15 rfl, trivial⟩ ?_; clear H ey46
    rintro _ _ w48 ⟨h49, rfl, rfl⟩ (H : Cx w0 fp0 S0 w48 [E (List (Int × List (List Int))) y46_0 h49, Bx b43 [(.int .i64 y31_0), (.int .i64 y31_1), (.int .i64 y31_2), (h34).v, (h36).v, (h38).v, (h40).v], E (List (List Int)) y31_3 h34, E (List (List Int)) y31_4 h36, E (List (List Int)) y31_5 h38, E (List (List Int)) y31_6 h40, E (List (Int × List (List Int))) y26_0 h29, E (List (List Int)) y15_3 h18, E (List (List Int)) y15_4 h20, E (List (List Int)) y15_5 h22, E (List (List Int)) y15_6 h24, Bx b7 [(.int .i64 aS__0), (.int .i64 aS__1), (.int .i64 aS__2), (aS__3h).v, (aS__4h).v, (aS__5h).v, (aS__6h).v], Es (List (List Int)) aS__3 aS__3h, Es (List (List Int)) aS__4 aS__4h, Es (List (List Int)) aS__5 aS__5h, Es (List (List Int)) aS__6 aS__6h, Gl 0 [.int .i64 2, .int .i64 3, .int .i64 5, .int .i64 7]])
    refine sq ?_
    obtain ⟨r62, hF64, hF63⟩ := bindS hF47; clear hF47
    refine cut (fun (q65 : Bool) => [(0, (.int .i64 aP_)), (2, (.int .i64 aN_)), (4, (.pointer (some ⟨b7, 0, none⟩))), (8, (h29).v), (9, (.bool y26_1)), (10, (.pointer (some ⟨b43, 0, none⟩))), (11, (h49).v), (12, (.bool y46_1)), (48, (.bool q65))]) (fun (q65 : Bool) w' => q65 = r62 ∧ Cx w0 fp0 S0 w' [Bx b7 [(.int .i64 aS__0), (.int .i64 aS__1), (.int .i64 aS__2), (aS__3h).v, (aS__4h).v, (aS__5h).v, (aS__6h).v], Es (List (List Int)) aS__3 aS__3h, Es (List (List Int)) aS__4 aS__4h, Es (List (List Int)) aS__5 aS__5h, Es (List (List Int)) aS__6 aS__6h, E (List (Int × List (List Int))) y26_0 h29, Bx b43 [(.int .i64 y31_0), (.int .i64 y31_1), (.int .i64 y31_2), (h34).v, (h36).v, (h38).v, (h40).v], E (List (List Int)) y31_3 h34, E (List (List Int)) y31_4 h36, E (List (List Int)) y31_5 h38, E (List (List Int)) y31_6 h40, E (List (Int × List (List Int))) y46_0 h49, Gl 0 [.int .i64 2, .int .i64 3, .int .i64 5, .int .i64 7]]) ?_ ?_
    · skip
      obtain ⟨y66, e, hF67⟩ := bindS hF64; clear hF64
      have ey66 := e; clear e
      refine callF (laws_eqMatrixS_c y46_0 h49 y26_0 h29 y66 ey66) (Γi := []) H ⟨Vw.own 0 rfl, Vw.own 6 rfl, trivial⟩ ?_; clear H ey66
      rintro _ _ w68 ⟨rfl, rfl⟩ (H : Cx w0 fp0 S0 w68 [E (List (Int × List (List Int))) y46_0 h49, Bx b43 [(.int .i64 y31_0), (.int .i64 y31_1), (.int .i64 y31_2), (h34).v, (h36).v, (h38).v, (h40).v], E (List (List Int)) y31_3 h34, E (List (List Int)) y31_4 h36, E (List (List Int)) y31_5 h38, E (List (List Int)) y31_6 h40, E (List (Int × List (List Int))) y26_0 h29, E (List (List Int)) y15_3 h18, E (List (List Int)) y15_4 h20, E (List (List Int)) y15_5 h22, E (List (List Int)) y15_6 h24, Bx b7 [(.int .i64 aS__0), (.int .i64 aS__1), (.int .i64 aS__2), (aS__3h).v, (aS__4h).v, (aS__5h).v, (aS__6h).v], Es (List (List Int)) aS__3 aS__3h, Es (List (List Int)) aS__4 aS__4h, Es (List (List Int)) aS__5 aS__5h, Es (List (List Int)) aS__6 aS__6h, Gl 0 [.int .i64 2, .int .i64 3, .int .i64 5, .int .i64 7]])
      obtain ⟨a69, e, hF70⟩ := bindS hF67; clear hF67
      refine boolO e ?_; clear e
      cases a69
      · have hF71 := condF hF70; clear hF70
        obtain ⟨a72, e, hF73⟩ := bindS hF71; clear hF71
        refine boolO e ?_; clear e
        exact ⟨a72, ⟨rfl, rfl, rfl, rfl, rfl, rfl, rfl, rfl, rfl, trivial⟩, Option.some.inj hF73, H.sel [11, 12, 13, 14, 15, 6, 1, 2, 3, 4, 5, 0, 16] rfl⟩
      · have hF74 := condT hF70; clear hF70
        exact ⟨true, ⟨rfl, rfl, rfl, rfl, rfl, rfl, rfl, rfl, rfl, trivial⟩, Option.some.inj hF74, H.sel [11, 12, 13, 14, 15, 6, 1, 2, 3, 4, 5, 0, 16] rfl⟩
    · clear hF64 H
      rintro T76 s60 w75 ⟨hr, (H : Cx w0 fp0 S0 w75 [Bx b7 [(.int .i64 aS__0), (.int .i64 aS__1), (.int .i64 aS__2), (aS__3h).v, (aS__4h).v, (aS__5h).v, (aS__6h).v], Es (List (List Int)) aS__3 aS__3h, Es (List (List Int)) aS__4 aS__4h, Es (List (List Int)) aS__5 aS__5h, Es (List (List Int)) aS__6 aS__6h, E (List (Int × List (List Int))) y26_0 h29, Bx b43 [(.int .i64 y31_0), (.int .i64 y31_1), (.int .i64 y31_2), (h34).v, (h36).v, (h38).v, (h40).v], E (List (List Int)) y31_3 h34, E (List (List Int)) y31_4 h36, E (List (List Int)) y31_5 h38, E (List (List Int)) y31_6 h40, E (List (Int × List (List Int))) y46_0 h49, Gl 0 [.int .i64 2, .int .i64 3, .int .i64 5, .int .i64 7]])⟩
      subst hr
      cases s60
      · have hF77 := condF hF63; clear hF63
        refine sq ?_
        refine heldX H [] (.fst 0 (.fst 1 (.act 2 (.act 3 (.fst 4 .done))))) mixed [] trivial (by kernel_rfl) ?_; clear H; intro w78 H
        have hX : Ext w78 w78 := Upd.refl _ _
        have H0 := H
        refine loadNX [(.int .i64 y31_0), (.int .i64 y31_1), (.int .i64 y31_2), (h34).v, (h36).v, (h38).v, (h40).v] rfl (fun j u hj => H.bx 6 rfl hj) ?_
        refine loadNX [(.int .i64 aS__0), (.int .i64 aS__1), (.int .i64 aS__2), (aS__3h).v, (aS__4h).v, (aS__5h).v, (aS__6h).v] rfl (fun j u hj => H.bx 0 rfl hj) ?_
        obtain ⟨y79, e, hF80⟩ := bindS hF77; clear hF77
        obtain ⟨y79_0, y79_1, y79_2, y79_3, y79_4, y79_5, y79_6⟩ := y79
        have ey79 := e; clear e
        refine callFx (laws_toStateSpace_c aS__0 aS__1 aS__2 aS__3 aS__3h aS__4 aS__4h aS__5 aS__5h aS__6 aS__6h y79_0 y79_1 y79_2 y79_3 y79_4 y79_5 y79_6 ey79) H ⟨Vw.sh 1 rfl, Vw.sh 2 rfl, Vw.sh 3 rfl, Vw.sh 4 rfl, trivial⟩ ?_; clear H ey79
        rintro _ _ w81 ⟨h82, h84, h86, h88, rfl, rfl⟩ hx (H : Cx w0 fp0 S0 w81 [E (List (List Int)) y79_3 h82, E (List (List Int)) y79_4 h84, E (List (List Int)) y79_5 h86, E (List (List Int)) y79_6 h88, Bx b7 [(.int .i64 aS__0), (.int .i64 aS__1), (.int .i64 aS__2), (aS__3h).v, (aS__4h).v, (aS__5h).v, (aS__6h).v], Es (List (List Int)) aS__3 aS__3h, Es (List (List Int)) aS__4 aS__4h, Es (List (List Int)) aS__5 aS__5h, Es (List (List Int)) aS__6 aS__6h, E (List (Int × List (List Int))) y26_0 h29, Bx b43 [(.int .i64 y31_0), (.int .i64 y31_1), (.int .i64 y31_2), (h34).v, (h36).v, (h38).v, (h40).v], E (List (List Int)) y31_3 h34, E (List (List Int)) y31_4 h36, E (List (List Int)) y31_5 h38, E (List (List Int)) y31_6 h40, E (List (Int × List (List Int))) y46_0 h49, Gl 0 [.int .i64 2, .int .i64 3, .int .i64 5, .int .i64 7]])
        replace hX := hX.trans0 hx; clear hx
        refine hold hX ?_
        obtain ⟨y90, e, hF91⟩ := bindS hF80; clear hF80
        have ey90 := e; clear e
        refine callFx (laws_eqStateSpace_c y31_0 y31_1 y31_2 y31_3 h34 y31_4 h36 y31_5 h38 y31_6 h40 y79_0 y79_1 y79_2 y79_3 h82 y79_4 h84 y79_5 h86 y79_6 h88 y90 ey90) H ⟨Vw.own 11 rfl, Vw.own 12 rfl, Vw.own 13 rfl, Vw.own 14 rfl, Vw.own 0 rfl, Vw.own 1 rfl, Vw.own 2 rfl, Vw.own 3 rfl, trivial⟩ ?_; clear H ey90
        rintro _ _ w92 ⟨rfl, rfl⟩ hx (H : Cx w0 fp0 S0 w92 [E (List (List Int)) y79_3 h82, E (List (List Int)) y79_4 h84, E (List (List Int)) y79_5 h86, E (List (List Int)) y79_6 h88, Bx b7 [(.int .i64 aS__0), (.int .i64 aS__1), (.int .i64 aS__2), (aS__3h).v, (aS__4h).v, (aS__5h).v, (aS__6h).v], Es (List (List Int)) aS__3 aS__3h, Es (List (List Int)) aS__4 aS__4h, Es (List (List Int)) aS__5 aS__5h, Es (List (List Int)) aS__6 aS__6h, E (List (Int × List (List Int))) y26_0 h29, Bx b43 [(.int .i64 y31_0), (.int .i64 y31_1), (.int .i64 y31_2), (h34).v, (h36).v, (h38).v, (h40).v], E (List (List Int)) y31_3 h34, E (List (List Int)) y31_4 h36, E (List (List Int)) y31_5 h38, E (List (List Int)) y31_6 h40, E (List (Int × List (List Int))) y46_0 h49, Gl 0 [.int .i64 2, .int .i64 3, .int .i64 5, .int .i64 7]])
        replace hX := hX.trans0 hx; clear hx
        refine hold hX ?_
        obtain ⟨a93, e, hF94⟩ := bindS hF91; clear hF91
        refine boolO e ?_; clear e
        cases a93
        · have hF95 := condF hF94; clear hF94
          refine loadN [(.int .i64 y31_0), (.int .i64 y31_1), (.int .i64 y31_2), (h34).v, (h36).v, (h38).v, (h40).v] rfl (fun j u hj => H.bx 10 rfl hj) ?_
          obtain ⟨y96, e, hF97⟩ := bindS hF95; clear hF95
          obtain ⟨⟨y96_0_0, y96_0_1, y96_0_2, y96_0_3, y96_0_4, y96_0_5, y96_0_6⟩, y96_1⟩ := y96
          have ey96 := e; clear e
          replace H := H.sel [11, 12, 13, 14, 0, 1, 2, 3, 4, 5, 6, 7, 8, 9, 10, 15, 16] rfl
          refine callF (laws_markStateSpace_c y31_0 y31_1 y31_2 y31_3 h34 y31_4 h36 y31_5 h38 y31_6 h40 1 y96_0_0 y96_0_1 y96_0_2 y96_0_3 y96_0_4 y96_0_5 y96_0_6 y96_1 ey96) (Γi := [E (List (List Int)) y31_3 h34, E (List (List Int)) y31_4 h36, E (List (List Int)) y31_5 h38, E (List (List Int)) y31_6 h40]) H trivial ?_; clear H ey96
          rintro _ _ w98 ⟨rfl, rfl⟩ (H : Cx w0 fp0 S0 w98 [E (List (List Int)) y96_0_3 h34, E (List (List Int)) y96_0_4 h36, E (List (List Int)) y96_0_5 h38, E (List (List Int)) y96_0_6 h40, E (List (List Int)) y79_3 h82, E (List (List Int)) y79_4 h84, E (List (List Int)) y79_5 h86, E (List (List Int)) y79_6 h88, Bx b7 [(.int .i64 aS__0), (.int .i64 aS__1), (.int .i64 aS__2), (aS__3h).v, (aS__4h).v, (aS__5h).v, (aS__6h).v], Es (List (List Int)) aS__3 aS__3h, Es (List (List Int)) aS__4 aS__4h, Es (List (List Int)) aS__5 aS__5h, Es (List (List Int)) aS__6 aS__6h, E (List (Int × List (List Int))) y26_0 h29, Bx b43 [(.int .i64 y31_0), (.int .i64 y31_1), (.int .i64 y31_2), (h34).v, (h36).v, (h38).v, (h40).v], E (List (Int × List (List Int))) y46_0 h49, Gl 0 [.int .i64 2, .int .i64 3, .int .i64 5, .int .i64 7]])
          refine sq ?_
          obtain ⟨r114, hF116, hF115⟩ := bindS hF97; clear hF97
          refine cut (fun (q117 : Bool) => [(0, (.int .i64 aP_)), (2, (.int .i64 aN_)), (4, (.pointer (some ⟨b7, 0, none⟩))), (8, (h29).v), (9, (.bool y26_1)), (11, (h49).v), (69, (.bool q117))]) (fun (q117 : Bool) w' => q117 = r114 ∧ Cx w0 fp0 S0 w' [Bx b7 [(.int .i64 aS__0), (.int .i64 aS__1), (.int .i64 aS__2), (aS__3h).v, (aS__4h).v, (aS__5h).v, (aS__6h).v], Es (List (List Int)) aS__3 aS__3h, Es (List (List Int)) aS__4 aS__4h, Es (List (List Int)) aS__5 aS__5h, Es (List (List Int)) aS__6 aS__6h, E (List (Int × List (List Int))) y26_0 h29, E (List (Int × List (List Int))) y46_0 h49, Gl 0 [.int .i64 2, .int .i64 3, .int .i64 5, .int .i64 7]]) ?_ ?_
          · skip
            obtain ⟨a118, e, hF119⟩ := bindS hF116; clear hF116
            refine boolO e ?_; clear e
            cases a118
            · have hF120 := condF hF119; clear hF119
              obtain ⟨y121, e, hF122⟩ := bindS hF120; clear hF120
              have ey121 := e; clear e
              refine callF (laws_eqMatrixS_c y46_0 h49 y26_0 h29 y121 ey121) (Γi := []) H ⟨Vw.own 15 rfl, Vw.own 13 rfl, trivial⟩ ?_; clear H ey121
              rintro _ _ w123 ⟨rfl, rfl⟩ (H : Cx w0 fp0 S0 w123 [E (List (List Int)) y96_0_3 h34, E (List (List Int)) y96_0_4 h36, E (List (List Int)) y96_0_5 h38, E (List (List Int)) y96_0_6 h40, E (List (List Int)) y79_3 h82, E (List (List Int)) y79_4 h84, E (List (List Int)) y79_5 h86, E (List (List Int)) y79_6 h88, Bx b7 [(.int .i64 aS__0), (.int .i64 aS__1), (.int .i64 aS__2), (aS__3h).v, (aS__4h).v, (aS__5h).v, (aS__6h).v], Es (List (List Int)) aS__3 aS__3h, Es (List (List Int)) aS__4 aS__4h, Es (List (List Int)) aS__5 aS__5h, Es (List (List Int)) aS__6 aS__6h, E (List (Int × List (List Int))) y26_0 h29, Bx b43 [(.int .i64 y31_0), (.int .i64 y31_1), (.int .i64 y31_2), (h34).v, (h36).v, (h38).v, (h40).v], E (List (Int × List (List Int))) y46_0 h49, Gl 0 [.int .i64 2, .int .i64 3, .int .i64 5, .int .i64 7]])
              obtain ⟨a124, e, hF125⟩ := bindS hF122; clear hF122
              refine boolO e ?_; clear e
              cases a124
              · have hF126 := condF hF125; clear hF125
                obtain ⟨a127, e, hF128⟩ := bindS hF126; clear hF126
                refine boolO e ?_; clear e
                exact ⟨a127, ⟨rfl, rfl, rfl, rfl, rfl, rfl, rfl, trivial⟩, Option.some.inj hF128, H.sel [8, 9, 10, 11, 12, 13, 15, 16] rfl⟩
              · have hF129 := condT hF125; clear hF125
                exact ⟨true, ⟨rfl, rfl, rfl, rfl, rfl, rfl, rfl, trivial⟩, Option.some.inj hF129, H.sel [8, 9, 10, 11, 12, 13, 15, 16] rfl⟩
            · have hF130 := condT hF119; clear hF119
              exact ⟨true, ⟨rfl, rfl, rfl, rfl, rfl, rfl, rfl, trivial⟩, Option.some.inj hF130, H.sel [8, 9, 10, 11, 12, 13, 15, 16] rfl⟩
          · clear hF116 H
            rintro T132 s112 w131 ⟨hr, (H : Cx w0 fp0 S0 w131 [Bx b7 [(.int .i64 aS__0), (.int .i64 aS__1), (.int .i64 aS__2), (aS__3h).v, (aS__4h).v, (aS__5h).v, (aS__6h).v], Es (List (List Int)) aS__3 aS__3h, Es (List (List Int)) aS__4 aS__4h, Es (List (List Int)) aS__5 aS__5h, Es (List (List Int)) aS__6 aS__6h, E (List (Int × List (List Int))) y26_0 h29, E (List (Int × List (List Int))) y46_0 h49, Gl 0 [.int .i64 2, .int .i64 3, .int .i64 5, .int .i64 7]])⟩
            subst hr
            cases s112
            · have hF133 := condF hF115; clear hF115
              obtain ⟨y134, e, hF135⟩ := bindS hF133; clear hF133
              obtain ⟨y134_0, y134_1⟩ := y134
              have ey134 := e; clear e
              replace H := H.sel [6, 0, 1, 2, 3, 4, 5, 7] rfl
              refine callF (laws_markMatrixS_c y46_0 h49 1 y134_0 y134_1 ey134) (Γi := [E (List (Int × List (List Int))) y46_0 h49]) H trivial ?_; clear H ey134
              rintro _ _ w136 ⟨rfl, rfl⟩ (H : Cx w0 fp0 S0 w136 [E (List (Int × List (List Int))) y134_0 h49, Bx b7 [(.int .i64 aS__0), (.int .i64 aS__1), (.int .i64 aS__2), (aS__3h).v, (aS__4h).v, (aS__5h).v, (aS__6h).v], Es (List (List Int)) aS__3 aS__3h, Es (List (List Int)) aS__4 aS__4h, Es (List (List Int)) aS__5 aS__5h, Es (List (List Int)) aS__6 aS__6h, E (List (Int × List (List Int))) y26_0 h29, Gl 0 [.int .i64 2, .int .i64 3, .int .i64 5, .int .i64 7]])
              obtain ⟨y137, e, hF138⟩ := bindS hF135; clear hF135
              have ey137 := e; clear e
              refine callF (laws_heldMatrixS_c y134_0 h49 1 y137 ey137) (Γi := []) H ⟨Vw.own 0 rfl, trivial⟩ ?_; clear H ey137
              rintro _ _ w139 ⟨rfl, rfl⟩ (H : Cx w0 fp0 S0 w139 [E (List (Int × List (List Int))) y134_0 h49, Bx b7 [(.int .i64 aS__0), (.int .i64 aS__1), (.int .i64 aS__2), (aS__3h).v, (aS__4h).v, (aS__5h).v, (aS__6h).v], Es (List (List Int)) aS__3 aS__3h, Es (List (List Int)) aS__4 aS__4h, Es (List (List Int)) aS__5 aS__5h, Es (List (List Int)) aS__6 aS__6h, E (List (Int × List (List Int))) y26_0 h29, Gl 0 [.int .i64 2, .int .i64 3, .int .i64 5, .int .i64 7]])
              refine sq ?_
              obtain ⟨a140, e, hF141⟩ := bindS hF138; clear hF138
              refine boolO e ?_; clear e
              cases a140
              · have hF142 := condF hF141; clear hF141
                refine sq ?_
                obtain ⟨a143, e, hF144⟩ := bindS hF142; clear hF142
                refine boolO e ?_; clear e
                cases a143
                · have hF145 := condF hF144; clear hF144
                  refine loadN [(.int .i64 aS__0), (.int .i64 aS__1), (.int .i64 aS__2), (aS__3h).v, (aS__4h).v, (aS__5h).v, (aS__6h).v] rfl (fun j u hj => H.bx 1 rfl hj) ?_
                  obtain ⟨y146, e, hF147⟩ := bindS hF145; clear hF145
                  obtain ⟨y146_0, y146_1, y146_2, y146_3, y146_4, y146_5, y146_6⟩ := y146
                  have ey146 := e; clear e
                  refine callF (laws_toStateSpace_c aS__0 aS__1 aS__2 aS__3 aS__3h aS__4 aS__4h aS__5 aS__5h aS__6 aS__6h y146_0 y146_1 y146_2 y146_3 y146_4 y146_5 y146_6 ey146) (Γi := []) H ⟨Vw.sh 2 rfl, Vw.sh 3 rfl, Vw.sh 4 rfl, Vw.sh 5 rfl, trivial⟩ ?_; clear H ey146
                  rintro _ _ w148 ⟨h149, h151, h153, h155, rfl, rfl⟩ (H : Cx w0 fp0 S0 w148 [E (List (List Int)) y146_3 h149, E (List (List Int)) y146_4 h151, E (List (List Int)) y146_5 h153, E (List (List Int)) y146_6 h155, E (List (Int × List (List Int))) y134_0 h49, Bx b7 [(.int .i64 aS__0), (.int .i64 aS__1), (.int .i64 aS__2), (aS__3h).v, (aS__4h).v, (aS__5h).v, (aS__6h).v], Es (List (List Int)) aS__3 aS__3h, Es (List (List Int)) aS__4 aS__4h, Es (List (List Int)) aS__5 aS__5h, Es (List (List Int)) aS__6 aS__6h, E (List (Int × List (List Int))) y26_0 h29, Gl 0 [.int .i64 2, .int .i64 3, .int .i64 5, .int .i64 7]])
                  obtain ⟨y157, e, hF158⟩ := bindS hF147; clear hF147
                  obtain ⟨y157_0, y157_1⟩ := y157
                  have ey157 := e; clear e
                  refine callF (impl_MarkovParameters_c aP_ y146_0 y146_1 y146_2 y146_3 h149 y146_4 h151 y146_5 h153 y146_6 h155 aN_ y157_0 y157_1 ey157) (Γi := []) H ⟨Vw.own 0 rfl, Vw.own 1 rfl, Vw.own 2 rfl, Vw.own 3 rfl, Vw.gl 11 rfl, trivial⟩ ?_; clear H ey157
                  rintro _ _ w159 ⟨h160, rfl, rfl⟩ (H : Cx w0 fp0 S0 w159 [E (List (Int × List (List Int))) y157_0 h160, E (List (List Int)) y146_3 h149, E (List (List Int)) y146_4 h151, E (List (List Int)) y146_5 h153, E (List (List Int)) y146_6 h155, E (List (Int × List (List Int))) y134_0 h49, Bx b7 [(.int .i64 aS__0), (.int .i64 aS__1), (.int .i64 aS__2), (aS__3h).v, (aS__4h).v, (aS__5h).v, (aS__6h).v], Es (List (List Int)) aS__3 aS__3h, Es (List (List Int)) aS__4 aS__4h, Es (List (List Int)) aS__5 aS__5h, Es (List (List Int)) aS__6 aS__6h, E (List (Int × List (List Int))) y26_0 h29, Gl 0 [.int .i64 2, .int .i64 3, .int .i64 5, .int .i64 7]])
                  refine sq ?_
                  obtain ⟨r173, hF175, hF174⟩ := bindS hF158; clear hF158
                  refine cut (fun (q176 : Bool) => [(11, (h49).v), (14, (.int .i64 y134_1)), (97, (.bool q176))]) (fun (q176 : Bool) w' => q176 = r173 ∧ Cx w0 fp0 S0 w' [E (List (Int × List (List Int))) y134_0 h49, Gl 0 [.int .i64 2, .int .i64 3, .int .i64 5, .int .i64 7]]) ?_ ?_
                  · skip
                    obtain ⟨y177, e, hF178⟩ := bindS hF175; clear hF175
                    have ey177 := e; clear e
                    refine callF (laws_eqMatrixS_c y157_0 h160 y26_0 h29 y177 ey177) (Γi := []) H ⟨Vw.own 0 rfl, Vw.own 11 rfl, trivial⟩ ?_; clear H ey177
                    rintro _ _ w179 ⟨rfl, rfl⟩ (H : Cx w0 fp0 S0 w179 [E (List (Int × List (List Int))) y157_0 h160, E (List (List Int)) y146_3 h149, E (List (List Int)) y146_4 h151, E (List (List Int)) y146_5 h153, E (List (List Int)) y146_6 h155, E (List (Int × List (List Int))) y134_0 h49, Bx b7 [(.int .i64 aS__0), (.int .i64 aS__1), (.int .i64 aS__2), (aS__3h).v, (aS__4h).v, (aS__5h).v, (aS__6h).v], Es (List (List Int)) aS__3 aS__3h, Es (List (List Int)) aS__4 aS__4h, Es (List (List Int)) aS__5 aS__5h, Es (List (List Int)) aS__6 aS__6h, E (List (Int × List (List Int))) y26_0 h29, Gl 0 [.int .i64 2, .int .i64 3, .int .i64 5, .int .i64 7]])
                    obtain ⟨a180, e, hF181⟩ := bindS hF178; clear hF178
                    refine boolO e ?_; clear e
                    cases a180
                    · have hF182 := condF hF181; clear hF181
                      obtain ⟨a183, e, hF184⟩ := bindS hF182; clear hF182
                      refine boolO e ?_; clear e
                      exact ⟨a183, ⟨rfl, rfl, rfl, trivial⟩, Option.some.inj hF184, H.sel [5, 12] rfl⟩
                    · have hF185 := condT hF181; clear hF181
                      exact ⟨true, ⟨rfl, rfl, rfl, trivial⟩, Option.some.inj hF185, H.sel [5, 12] rfl⟩
                  · clear hF175 H
                    rintro T187 s171 w186 ⟨hr, (H : Cx w0 fp0 S0 w186 [E (List (Int × List (List Int))) y134_0 h49, Gl 0 [.int .i64 2, .int .i64 3, .int .i64 5, .int .i64 7]])⟩
                    subst hr
                    cases s171
                    · have hF188 := condF hF174; clear hF174
                      obtain ⟨y189, e, hF190⟩ := bindS hF188; clear hF188
                      have ey189 := e; clear e
                      refine callF (laws_heldMatrixS_c y134_0 h49 1 y189 ey189) (Γi := []) H ⟨Vw.own 0 rfl, trivial⟩ ?_; clear H ey189
                      rintro _ _ w191 ⟨rfl, rfl⟩ (H : Cx w0 fp0 S0 w191 [E (List (Int × List (List Int))) y134_0 h49, Gl 0 [.int .i64 2, .int .i64 3, .int .i64 5, .int .i64 7]])
                      refine sq ?_
                      obtain ⟨a192, e, hF193⟩ := bindS hF190; clear hF190
                      refine boolO e ?_; clear e
                      cases a192
                      · have hF194 := condF hF193; clear hF193
                        refine sq ?_
                        obtain ⟨a195, e, hF196⟩ := bindS hF194; clear hF194
                        refine boolO e ?_; clear e
                        cases a195
                        · have hF197 := condF hF196; clear hF196
                          cases hF197
                          exact ⟨_, _, rfl, ⟨rfl, rfl⟩, (H.sel [] rfl).close trivial⟩
                        · have hF198 := condT hF196; clear hF196
                          cases hF198
                          exact ⟨_, _, rfl, ⟨rfl, rfl⟩, (H.sel [] rfl).close trivial⟩
                      · have hF199 := condT hF193; clear hF193
                        cases hF199
                        exact ⟨_, _, rfl, ⟨rfl, rfl⟩, (H.sel [] rfl).close trivial⟩
                    · have hF200 := condT hF174; clear hF174
                      cases hF200
                      exact ⟨_, _, rfl, ⟨rfl, rfl⟩, (H.sel [] rfl).close trivial⟩
                · have hF201 := condT hF144; clear hF144
                  cases hF201
                  exact ⟨_, _, rfl, ⟨rfl, rfl⟩, (H.sel [] rfl).close trivial⟩
              · have hF202 := condT hF141; clear hF141
                cases hF202
                exact ⟨_, _, rfl, ⟨rfl, rfl⟩, (H.sel [] rfl).close trivial⟩
            · have hF203 := condT hF115; clear hF115
              cases hF203
              exact ⟨_, _, rfl, ⟨rfl, rfl⟩, (H.sel [] rfl).close trivial⟩
        · have hF204 := condT hF94; clear hF94
          cases hF204
          exact ⟨_, _, rfl, ⟨rfl, rfl⟩, (H.sel [] rfl).close trivial⟩
      · have hF205 := condT hF63; clear hF63
        cases hF205
        exact ⟨_, _, rfl, ⟨rfl, rfl⟩, (H.sel [] rfl).close trivial⟩
  · have hF206 := condT hF13; clear hF13
    cases hF206
    exact ⟨_, _, rfl, ⟨rfl, rfl⟩, (H.sel [] rfl).close trivial⟩

theorem spec_ssTwo_c (p_ : Int) (a__0 : Int) (a__1 : Int) (a__2 : Int) (a__3 : List (List Int)) (a__3h : Hd) (a__4 : List (List Int)) (a__4h : Hd) (a__5 : List (List Int)) (a__5h : Hd) (a__6 : List (List Int)) (a__6h : Hd) (b__0 : Int) (b__1 : Int) (b__2 : Int) (b__3 : List (List Int)) (b__3h : Hd) (b__4 : List (List Int)) (b__4h : Hd) (b__5 : List (List Int)) (b__5h : Hd) (b__6 : List (List Int)) (b__6h : Hd) (y : Bool) (hF : F_spec_ssTwo p_ (a__0, a__1, a__2, a__3, a__4, a__5, a__6) (b__0, b__1, b__2, b__3, b__4, b__5, b__6) = some y) :
    ConF Tryd.prog 62 #[(.int .i64 p_), (.agg #[(.int .i64 a__0), (.int .i64 a__1), (.int .i64 a__2), (a__3h).v, (a__4h).v, (a__5h).v, (a__6h).v]), (.agg #[(.int .i64 b__0), (.int .i64 b__1), (.int .i64 b__2), (b__3h).v, (b__4h).v, (b__5h).v, (b__6h).v])] [Es (List (List Int)) a__3 a__3h, Es (List (List Int)) a__4 a__4h, Es (List (List Int)) a__5 a__5h, Es (List (List Int)) a__6 a__6h, Es (List (List Int)) b__3 b__3h, Es (List (List Int)) b__4 b__4h, Es (List (List Int)) b__5 b__5h, Es (List (List Int)) b__6 b__6h] [] (fun v Γ' => v = (.bool y) ∧ Γ' = []) := by
  intro w0 S0 fp0 hI hS
  have H : Cx w0 fp0 S0 w0 [Es (List (List Int)) a__3 a__3h, Es (List (List Int)) a__4 a__4h, Es (List (List Int)) a__5 a__5h, Es (List (List Int)) a__6 a__6h, Es (List (List Int)) b__3 b__3h, Es (List (List Int)) b__4 b__4h, Es (List (List Int)) b__5 b__5h, Es (List (List Int)) b__6 b__6h] := Cx.start hI hS
  clear hI hS
  refine enterC (args := [_, _, _]) gok Tryd.func62 rfl _ rfl rfl rfl ?_
  refine box_ H ?_; clear H; intro b10 w9 hx H
  clear hx
  replace H : Cx w0 fp0 S0 w9 [Bx b10 [(.int .i64 a__0), (.int .i64 a__1), (.int .i64 a__2), (a__3h).v, (a__4h).v, (a__5h).v, (a__6h).v], Es (List (List Int)) a__3 a__3h, Es (List (List Int)) a__4 a__4h, Es (List (List Int)) a__5 a__5h, Es (List (List Int)) a__6 a__6h, Es (List (List Int)) b__3 b__3h, Es (List (List Int)) b__4 b__4h, Es (List (List Int)) b__5 b__5h, Es (List (List Int)) b__6 b__6h] := H
  refine box_ H ?_; clear H; intro b13 w12 hx H
  clear hx
  replace H : Cx w0 fp0 S0 w12 [Bx b13 [(.int .i64 b__0), (.int .i64 b__1), (.int .i64 b__2), (b__3h).v, (b__4h).v, (b__5h).v, (b__6h).v], Bx b10 [(.int .i64 a__0), (.int .i64 a__1), (.int .i64 a__2), (a__3h).v, (a__4h).v, (a__5h).v, (a__6h).v], Es (List (List Int)) a__3 a__3h, Es (List (List Int)) a__4 a__4h, Es (List (List Int)) a__5 a__5h, Es (List (List Int)) a__6 a__6h, Es (List (List Int)) b__3 b__3h, Es (List (List Int)) b__4 b__4h, Es (List (List Int)) b__5 b__5h, Es (List (List Int)) b__6 b__6h] := H
  obtain ⟨r33, hF35, hF34⟩ := bindS hF; clear hF
  refine cut (fun (q36 : Bool) => [(6, (.bool q36))]) (fun (q36 : Bool) w' => q36 = r33 ∧ Cx w0 fp0 S0 w' []) ?_ ?_
  · skip
    refine loadN [(.int .i64 a__0), (.int .i64 a__1), (.int .i64 a__2), (a__3h).v, (a__4h).v, (a__5h).v, (a__6h).v] rfl (fun j u hj => H.bx 1 rfl hj) ?_
    obtain ⟨y37, e, hF38⟩ := bindS hF35; clear hF35
    have ey37 := e; clear e
    refine callF (spec_ssGood_c p_ a__0 a__1 a__2 a__3 a__3h a__4 a__4h a__5 a__5h a__6 a__6h y37 ey37) (Γi := []) H ⟨Vw.sh 2 rfl, Vw.sh 3 rfl, Vw.sh 4 rfl, Vw.sh 5 rfl, trivial⟩ ?_; clear H ey37
    rintro _ _ w39 ⟨rfl, rfl⟩ (H : Cx w0 fp0 S0 w39 [Bx b13 [(.int .i64 b__0), (.int .i64 b__1), (.int .i64 b__2), (b__3h).v, (b__4h).v, (b__5h).v, (b__6h).v], Bx b10 [(.int .i64 a__0), (.int .i64 a__1), (.int .i64 a__2), (a__3h).v, (a__4h).v, (a__5h).v, (a__6h).v], Es (List (List Int)) a__3 a__3h, Es (List (List Int)) a__4 a__4h, Es (List (List Int)) a__5 a__5h, Es (List (List Int)) a__6 a__6h, Es (List (List Int)) b__3 b__3h, Es (List (List Int)) b__4 b__4h, Es (List (List Int)) b__5 b__5h, Es (List (List Int)) b__6 b__6h])
    cases y37
    · have hF40 := condF hF38; clear hF38
      exact ⟨false, ⟨rfl, trivial⟩, Option.some.inj hF40, H.sel [] rfl⟩
    · have hF41 := condT hF38; clear hF38
      refine loadN [(.int .i64 b__0), (.int .i64 b__1), (.int .i64 b__2), (b__3h).v, (b__4h).v, (b__5h).v, (b__6h).v] rfl (fun j u hj => H.bx 0 rfl hj) ?_
      obtain ⟨y42, e, hF43⟩ := bindS hF41; clear hF41
      have ey42 := e; clear e
      refine callF (spec_ssGood_c p_ b__0 b__1 b__2 b__3 b__3h b__4 b__4h b__5 b__5h b__6 b__6h y42 ey42) (Γi := []) H ⟨Vw.sh 6 rfl, Vw.sh 7 rfl, Vw.sh 8 rfl, Vw.sh 9 rfl, trivial⟩ ?_; clear H ey42
      rintro _ _ w44 ⟨rfl, rfl⟩ (H : Cx w0 fp0 S0 w44 [Bx b13 [(.int .i64 b__0), (.int .i64 b__1), (.int .i64 b__2), (b__3h).v, (b__4h).v, (b__5h).v, (b__6h).v], Bx b10 [(.int .i64 a__0), (.int .i64 a__1), (.int .i64 a__2), (a__3h).v, (a__4h).v, (a__5h).v, (a__6h).v], Es (List (List Int)) a__3 a__3h, Es (List (List Int)) a__4 a__4h, Es (List (List Int)) a__5 a__5h, Es (List (List Int)) a__6 a__6h, Es (List (List Int)) b__3 b__3h, Es (List (List Int)) b__4 b__4h, Es (List (List Int)) b__5 b__5h, Es (List (List Int)) b__6 b__6h])
      cases y42
      · have hF45 := condF hF43; clear hF43
        exact ⟨false, ⟨rfl, trivial⟩, Option.some.inj hF45, H.sel [] rfl⟩
      · have hF46 := condT hF43; clear hF43
        refine fld gok rfl rfl rfl rfl ?_
        refine load1 (H.bx 1 rfl (j := 1) rfl) ?_
        refine fld gok rfl rfl rfl rfl ?_
        refine load1 (H.bx 0 rfl (j := 1) rfl) ?_
        obtain ⟨a47, e, hF48⟩ := bindS hF46; clear hF46
        refine boolO e ?_; clear e
        cases a47
        · have hF49 := condF hF48; clear hF48
          exact ⟨false, ⟨rfl, trivial⟩, Option.some.inj hF49, H.sel [] rfl⟩
        · have hF50 := condT hF48; clear hF48
          refine fld gok rfl rfl rfl rfl ?_
          refine load1 (H.bx 1 rfl (j := 2) rfl) ?_
          refine fld gok rfl rfl rfl rfl ?_
          refine load1 (H.bx 0 rfl (j := 2) rfl) ?_
          obtain ⟨a51, e, hF52⟩ := bindS hF50; clear hF50
          refine boolO e ?_; clear e
          exact ⟨a51, ⟨rfl, trivial⟩, Option.some.inj hF52, H.sel [] rfl⟩
  · clear hF35 H
    rintro T54 s31 w53 ⟨hr, (H : Cx w0 fp0 S0 w53 [])⟩
    subst hr
    cases hF34
    exact ⟨_, _, rfl, ⟨rfl, rfl⟩, (H.sel [] rfl).close trivial⟩

theorem spec_l1Same_c (a_ : List Int) (a_h : Hd) (b_ : List Int) (b_h : Hd) (y : Bool) (hF : F_spec_l1Same a_ b_ = some y) :
    ConF Tryd.prog 130 #[(a_h).v, (b_h).v] [Es (List Int) a_ a_h, Es (List Int) b_ b_h] [] (fun v Γ' => v = (.bool y) ∧ Γ' = []) := by
  intro w0 S0 fp0 hI hS
  have H : Cx w0 fp0 S0 w0 [Es (List Int) a_ a_h, Es (List Int) b_ b_h] := Cx.start hI hS
  clear hI hS
  refine enterC (args := [_, _]) gok Tryd.func130 rfl _ rfl rfl rfl ?_
  refine sq ?_
  refine lenE (H.rs (α := List Int) 0 rfl).len ?_
  refine lenE (H.rs (α := List Int) 1 rfl).len ?_
  obtain ⟨a3, e, hF4⟩ := bindS hF; clear hF
  refine boolO e ?_; clear e
  cases a3
  · have hF5 := condF hF4; clear hF4
    refine sq ?_
    refine lenE (H.rs (α := List Int) 0 rfl).len ?_
    have hmx32 := (H.rs (α := List Int) 0 rfl).max
    obtain ⟨r33, e, hF34⟩ := bindS hF5; clear hF5
    refine loopO _ a_.length (fun (k6 : Nat) (_ : Unit) (_ : Unit) => [(0, (a_h).v), (1, (b_h).v), (12, (.int .i64 ((a_.length : Nat) : Int))), (13, (.int .i64 ((k6 : Nat) : Int)))]) (fun _ (_ : Unit) (_ : Unit) w' => Cx w0 fp0 S0 w' [Es (List Int) a_ a_h, Es (List Int) b_ b_h]) () () e ⟨rfl, rfl, rfl, rfl, trivial⟩ (H.sel [0, 1] rfl) ?_ ?_
    · clear H e
      rintro T36 k6 _ _ w35 o37 hk (H : Cx w0 fp0 S0 w35 [Es (List Int) a_ a_h, Es (List Int) b_ b_h]) hrt hF38
      refine boolE (z := true) (ltLen hk) ?_
      refine sq ?_
      refine sq ?_
      refine heldX H [] (.fst 0 (.fst 1 (.fst 2 (.fst 4 (.fst 5 (.fst 6 (.fst 3 (.fst 7 (.fst 8 .done))))))))) mixed [] trivial (by kernel_rfl) ?_; clear H; intro w39 H
      have hX : Ext w39 w39 := Upd.refl _ _
      have H0 := H
      obtain ⟨a46, e, hF47⟩ := bindS hF38; clear hF38
      obtain ⟨p44, m45, c40, c41, c42, c43⟩ := (H.rs (α := List Int) 0 rfl).at1 e; clear e
      refine idxE c40 c41 c42 ?_; clear c40 c41 c42
      obtain ⟨a54, e, hF55⟩ := bindS hF47; clear hF47
      obtain ⟨p52, m53, c48, c49, c50, c51⟩ := (H.rs (α := List Int) 1 rfl).at1 e; clear e
      refine idxE c48 c49 c50 ?_; clear c48 c49 c50
      refine load1X c43 ?_; clear c43
      refine load1X c51 ?_; clear c51
      obtain ⟨a56, e, hF57⟩ := bindS hF55; clear hF55
      refine boolO e ?_; clear e
      cases a56
      · have hF58 := condF hF57; clear hF57
        refine arK hk hmx32 ?_
        have hs := Option.some.inj hF58; subst hs; clear hF58
        exact ⟨(), (), rfl, ⟨rfl, rfl, rfl, rfl, trivial⟩, H.sel [0, 1] rfl⟩
      · have hF59 := condT hF57; clear hF57
        have hs := Option.some.inj hF59; subst hs; clear hF59
        have hr := hrt _ rfl; subst hr
        have hF60 : some _ = some _ := hF34
        cases hF60
        exact ⟨_, _, rfl, ⟨rfl, rfl⟩, (H.sel [] rfl).close trivial⟩
    · clear H e
      rintro T62 _ _ w61 hr (H : Cx w0 fp0 S0 w61 [Es (List Int) a_ a_h, Es (List Int) b_ b_h])
      subst hr
      refine boolE (z := false) geLen ?_
      refine sq ?_
      cases hF34
      exact ⟨_, _, rfl, ⟨rfl, rfl⟩, (H.sel [] rfl).close trivial⟩
  · have hF65 := condT hF4; clear hF4
    cases hF65
    exact ⟨_, _, rfl, ⟨rfl, rfl⟩, (H.sel [] rfl).close trivial⟩

theorem spec_spSame_c (a_ : List (List Int)) (a_h : Hd) (b_ : List (List Int)) (b_h : Hd) (y : Bool) (hF : F_spec_spSame a_ b_ = some y) :
    ConF Tryd.prog 114 #[(a_h).v, (b_h).v] [Es (List (List Int)) a_ a_h, Es (List (List Int)) b_ b_h] [] (fun v Γ' => v = (.bool y) ∧ Γ' = []) := by
  intro w0 S0 fp0 hI hS
  have H : Cx w0 fp0 S0 w0 [Es (List (List Int)) a_ a_h, Es (List (List Int)) b_ b_h] := Cx.start hI hS
  clear hI hS
  refine enterC (args := [_, _]) gok Tryd.func114 rfl _ rfl rfl rfl ?_
  refine sq ?_
  refine lenE (H.rs (α := List (List Int)) 0 rfl).len ?_
  refine lenE (H.rs (α := List (List Int)) 1 rfl).len ?_
  obtain ⟨a3, e, hF4⟩ := bindS hF; clear hF
  refine boolO e ?_; clear e
  cases a3
  · have hF5 := condF hF4; clear hF4
    refine sq ?_
    refine lenE (H.rs (α := List (List Int)) 0 rfl).len ?_
    have hmx39 := (H.rs (α := List (List Int)) 0 rfl).max
    obtain ⟨r40, e, hF41⟩ := bindS hF5; clear hF5
    refine loopO _ a_.length (fun (k6 : Nat) (_ : Unit) (_ : Unit) => [(0, (a_h).v), (1, (b_h).v), (12, (.int .i64 ((a_.length : Nat) : Int))), (13, (.int .i64 ((k6 : Nat) : Int)))]) (fun _ (_ : Unit) (_ : Unit) w' => Cx w0 fp0 S0 w' [Es (List (List Int)) a_ a_h, Es (List (List Int)) b_ b_h]) () () e ⟨rfl, rfl, rfl, rfl, trivial⟩ (H.sel [0, 1] rfl) ?_ ?_
    · clear H e
      rintro T43 k6 _ _ w42 o44 hk (H : Cx w0 fp0 S0 w42 [Es (List (List Int)) a_ a_h, Es (List (List Int)) b_ b_h]) hrt hF45
      refine boolE (z := true) (ltLen hk) ?_
      refine sq ?_
      refine sq ?_
      refine heldX H [] (.fst 0 (.fst 1 (.fst 2 (.fst 4 (.fst 5 (.fst 6 (.fst 3 (.fst 7 (.act 8 (.fst 9 .done)))))))))) mixed [] trivial (by kernel_rfl) ?_; clear H; intro w46 H
      have hX : Ext w46 w46 := Upd.refl _ _
      have H0 := H
      obtain ⟨a53, e, hF54⟩ := bindS hF45; clear hF45
      have HH := H; clear H; obtain ⟨p51, m52, h55, c47, c48, c49, c50, H⟩ := HH.elL 0 rfl e; clear HH
      clear e
      refine idxE c47 c48 c49 ?_; clear c47 c48 c49
      obtain ⟨a63, e, hF64⟩ := bindS hF54; clear hF54
      have HH := H; clear H; obtain ⟨p61, m62, h65, c57, c58, c59, c60, H⟩ := HH.elL 2 rfl e; clear HH
      clear e
      refine idxE c57 c58 c59 ?_; clear c57 c58 c59
      refine load1X c50 ?_; clear c50
      refine load1X c60 ?_; clear c60
      obtain ⟨y67, e, hF68⟩ := bindS hF64; clear hF64
      have ey67 := e; clear e
      refine callFx (spec_l1Same_c a53 h55 a63 h65 y67 ey67) H ⟨Vw.sh 1 rfl, Vw.sh 0 rfl, trivial⟩ ?_; clear H ey67
      rintro _ _ w69 ⟨rfl, rfl⟩ hx (H : Cx w0 fp0 S0 w69 [Es (List Int) a63 h65, Es (List Int) a53 h55, Es (List (List Int)) a_ a_h, Es (List (List Int)) b_ b_h])
      replace hX := hX.trans0 hx; clear hx
      refine hold hX ?_
      obtain ⟨a70, e, hF71⟩ := bindS hF68; clear hF68
      refine boolO e ?_; clear e
      cases a70
      · have hF72 := condF hF71; clear hF71
        refine arK hk hmx39 ?_
        have hs := Option.some.inj hF72; subst hs; clear hF72
        exact ⟨(), (), rfl, ⟨rfl, rfl, rfl, rfl, trivial⟩, H.sel [2, 3] rfl⟩
      · have hF73 := condT hF71; clear hF71
        have hs := Option.some.inj hF73; subst hs; clear hF73
        have hr := hrt _ rfl; subst hr
        have hF74 : some _ = some _ := hF41
        cases hF74
        exact ⟨_, _, rfl, ⟨rfl, rfl⟩, (H.sel [] rfl).close trivial⟩
    · clear H e
      rintro T76 _ _ w75 hr (H : Cx w0 fp0 S0 w75 [Es (List (List Int)) a_ a_h, Es (List (List Int)) b_ b_h])
      subst hr
      refine boolE (z := false) geLen ?_
      refine sq ?_
      cases hF41
      exact ⟨_, _, rfl, ⟨rfl, rfl⟩, (H.sel [] rfl).close trivial⟩
  · have hF79 := condT hF4; clear hF4
    cases hF79
    exact ⟨_, _, rfl, ⟨rfl, rfl⟩, (H.sel [] rfl).close trivial⟩

theorem spec_ssSame_c (p_ : Int) (a__0 : Int) (a__1 : Int) (a__2 : Int) (a__3 : List (List Int)) (a__3h : Hd) (a__4 : List (List Int)) (a__4h : Hd) (a__5 : List (List Int)) (a__5h : Hd) (a__6 : List (List Int)) (a__6h : Hd) (b__0 : Int) (b__1 : Int) (b__2 : Int) (b__3 : List (List Int)) (b__3h : Hd) (b__4 : List (List Int)) (b__4h : Hd) (b__5 : List (List Int)) (b__5h : Hd) (b__6 : List (List Int)) (b__6h : Hd) (y : Bool) (hF : F_spec_ssSame p_ (a__0, a__1, a__2, a__3, a__4, a__5, a__6) (b__0, b__1, b__2, b__3, b__4, b__5, b__6) = some y) :
    ConF Tryd.prog 63 #[(.int .i64 p_), (.agg #[(.int .i64 a__0), (.int .i64 a__1), (.int .i64 a__2), (a__3h).v, (a__4h).v, (a__5h).v, (a__6h).v]), (.agg #[(.int .i64 b__0), (.int .i64 b__1), (.int .i64 b__2), (b__3h).v, (b__4h).v, (b__5h).v, (b__6h).v])] [Es (List (List Int)) a__3 a__3h, Es (List (List Int)) a__4 a__4h, Es (List (List Int)) a__5 a__5h, Es (List (List Int)) a__6 a__6h, Es (List (List Int)) b__3 b__3h, Es (List (List Int)) b__4 b__4h, Es (List (List Int)) b__5 b__5h, Es (List (List Int)) b__6 b__6h] [] (fun v Γ' => v = (.bool y) ∧ Γ' = []) := by
  intro w0 S0 fp0 hI hS
  have H : Cx w0 fp0 S0 w0 [Es (List (List Int)) a__3 a__3h, Es (List (List Int)) a__4 a__4h, Es (List (List Int)) a__5 a__5h, Es (List (List Int)) a__6 a__6h, Es (List (List Int)) b__3 b__3h, Es (List (List Int)) b__4 b__4h, Es (List (List Int)) b__5 b__5h, Es (List (List Int)) b__6 b__6h] := Cx.start hI hS
  clear hI hS
  refine enterC (args := [_, _, _]) gok Tryd.func63 rfl _ rfl rfl rfl ?_
  refine box_ H ?_; clear H; intro b10 w9 hx H
  clear hx
  replace H : Cx w0 fp0 S0 w9 [Bx b10 [(.int .i64 a__0), (.int .i64 a__1), (.int .i64 a__2), (a__3h).v, (a__4h).v, (a__5h).v, (a__6h).v], Es (List (List Int)) a__3 a__3h, Es (List (List Int)) a__4 a__4h, Es (List (List Int)) a__5 a__5h, Es (List (List Int)) a__6 a__6h, Es (List (List Int)) b__3 b__3h, Es (List (List Int)) b__4 b__4h, Es (List (List Int)) b__5 b__5h, Es (List (List Int)) b__6 b__6h] := H
  refine box_ H ?_; clear H; intro b13 w12 hx H
  clear hx
  replace H : Cx w0 fp0 S0 w12 [Bx b13 [(.int .i64 b__0), (.int .i64 b__1), (.int .i64 b__2), (b__3h).v, (b__4h).v, (b__5h).v, (b__6h).v], Bx b10 [(.int .i64 a__0), (.int .i64 a__1), (.int .i64 a__2), (a__3h).v, (a__4h).v, (a__5h).v, (a__6h).v], Es (List (List Int)) a__3 a__3h, Es (List (List Int)) a__4 a__4h, Es (List (List Int)) a__5 a__5h, Es (List (List Int)) a__6 a__6h, Es (List (List Int)) b__3 b__3h, Es (List (List Int)) b__4 b__4h, Es (List (List Int)) b__5 b__5h, Es (List (List Int)) b__6 b__6h] := H
  refine fld gok rfl rfl rfl rfl ?_
  refine load1 (H.bx 1 rfl (j := 0) rfl) ?_
  refine fld gok rfl rfl rfl rfl ?_
  refine load1 (H.bx 0 rfl (j := 0) rfl) ?_
  obtain ⟨a15, e, hF16⟩ := bindS hF; clear hF
  refine arO e ?_; clear e
  obtain ⟨a17, e, hF18⟩ := bindS hF16; clear hF16
  refine arO e ?_; clear e
  refine heldX H [] (.fst 0 (.fst 2 (.fst 4 (.fst 6 (.fst 1 (.fst 5 (.act 3 (.act 7 (.fst 8 (.fst 9 .done)))))))))) mixed [] trivial (by kernel_rfl) ?_; clear H; intro w19 H
  have hX : Ext w19 w19 := Upd.refl _ _
  have H0 := H
  refine loadNX [(.int .i64 a__0), (.int .i64 a__1), (.int .i64 a__2), (a__3h).v, (a__4h).v, (a__5h).v, (a__6h).v] rfl (fun j u hj => H.bx 1 rfl hj) ?_
  refine loadNX [(.int .i64 b__0), (.int .i64 b__1), (.int .i64 b__2), (b__3h).v, (b__4h).v, (b__5h).v, (b__6h).v] rfl (fun j u hj => H.bx 0 rfl hj) ?_
  obtain ⟨y20, e, hF21⟩ := bindS hF18; clear hF18
  have ey20 := e; clear e
  refine callFx (spec_ssMarkov_c p_ a__0 a__1 a__2 a__3 a__3h a__4 a__4h a__5 a__5h a__6 a__6h a17 y20 ey20) H ⟨Vw.sh 2 rfl, Vw.sh 3 rfl, Vw.sh 4 rfl, Vw.sh 5 rfl, trivial⟩ ?_; clear H ey20
  rintro _ _ w22 ⟨h23, rfl, rfl⟩ hx (H : Cx w0 fp0 S0 w22 [E (List (Int × List (List Int))) y20 h23, Bx b13 [(.int .i64 b__0), (.int .i64 b__1), (.int .i64 b__2), (b__3h).v, (b__4h).v, (b__5h).v, (b__6h).v], Bx b10 [(.int .i64 a__0), (.int .i64 a__1), (.int .i64 a__2), (a__3h).v, (a__4h).v, (a__5h).v, (a__6h).v], Es (List (List Int)) a__3 a__3h, Es (List (List Int)) a__4 a__4h, Es (List (List Int)) a__5 a__5h, Es (List (List Int)) a__6 a__6h, Es (List (List Int)) b__3 b__3h, Es (List (List Int)) b__4 b__4h, Es (List (List Int)) b__5 b__5h, Es (List (List Int)) b__6 b__6h])
  replace hX := hX.trans0 hx; clear hx
  refine hold hX ?_
  obtain ⟨y25, e, hF26⟩ := bindS hF21; clear hF21
  have ey25 := e; clear e
  refine callFx (spec_ssMarkov_c p_ b__0 b__1 b__2 b__3 b__3h b__4 b__4h b__5 b__5h b__6 b__6h a17 y25 ey25) H ⟨Vw.sh 7 rfl, Vw.sh 8 rfl, Vw.sh 9 rfl, Vw.sh 10 rfl, trivial⟩ ?_; clear H ey25
  rintro _ _ w27 ⟨h28, rfl, rfl⟩ hx (H : Cx w0 fp0 S0 w27 [E (List (Int × List (List Int))) y25 h28, E (List (Int × List (List Int))) y20 h23, Bx b13 [(.int .i64 b__0), (.int .i64 b__1), (.int .i64 b__2), (b__3h).v, (b__4h).v, (b__5h).v, (b__6h).v], Bx b10 [(.int .i64 a__0), (.int .i64 a__1), (.int .i64 a__2), (a__3h).v, (a__4h).v, (a__5h).v, (a__6h).v], Es (List (List Int)) a__3 a__3h, Es (List (List Int)) a__4 a__4h, Es (List (List Int)) a__5 a__5h, Es (List (List Int)) a__6 a__6h, Es (List (List Int)) b__3 b__3h, Es (List (List Int)) b__4 b__4h, Es (List (List Int)) b__5 b__5h, Es (List (List Int)) b__6 b__6h])
  replace hX := hX.trans0 hx; clear hx
  refine hold hX ?_
  refine sq ?_
  refine lenE (H.ro (α := List (Int × List (List Int))) 1 rfl).len ?_
  have hmx63 := (H.ro (α := List (Int × List (List Int))) 1 rfl).max
  obtain ⟨r64, e, hF65⟩ := bindS hF26; clear hF26
  refine loopO _ y20.length (fun (k30 : Nat) (_ : Unit) (_ : Unit) => [(8, (h23).v), (9, (h28).v), (26, (.int .i64 ((y20.length : Nat) : Int))), (27, (.int .i64 ((k30 : Nat) : Int)))]) (fun _ (_ : Unit) (_ : Unit) w' => Cx w0 fp0 S0 w' [E (List (Int × List (List Int))) y20 h23, E (List (Int × List (List Int))) y25 h28]) () () e ⟨rfl, rfl, rfl, rfl, trivial⟩ (H.sel [1, 0] rfl) ?_ ?_
  · clear H e
    rintro T67 k30 _ _ w66 o68 hk (H : Cx w0 fp0 S0 w66 [E (List (Int × List (List Int))) y20 h23, E (List (Int × List (List Int))) y25 h28]) hrt hF69
    refine boolE (z := true) (ltLen hk) ?_
    refine sq ?_
    refine sq ?_
    refine heldX H [] (.fst 0 (.fst 1 (.fst 2 (.fst 3 (.fst 5 (.fst 6 (.fst 7 (.fst 8 (.fst 4 (.fst 9 (.act 10 (.fst 11 .done)))))))))))) mixed [] trivial (by kernel_rfl) ?_; clear H; intro w70 H
    have hX : Ext w70 w70 := Upd.refl _ _
    have H0 := H
    obtain ⟨a77, e, hF78⟩ := bindS hF69; clear hF69
    replace H := H.toEH (α := Int × List (List Int))
    have HH := H; clear H; obtain ⟨p75, m76, g79, c71, c72, c73, c74, H⟩ := HH.peek e; clear HH
    clear e
    obtain ⟨a77_0, a77_1⟩ := a77
    obtain ⟨_, h80⟩ := g79
    refine idxE c71 c72 c73 ?_
    refine anyH (fun _ => fld gok rfl rfl rfl rfl ⟨rfl, rfl⟩) ?_
    obtain ⟨a87, e, hF88⟩ := bindS hF78; clear hF78
    replace H := H.sel [1, 0] rfl
    replace H := H.toEH (α := Int × List (List Int))
    have HH := H; clear H; obtain ⟨p85, m86, g89, c81, c82, c83, c84, H⟩ := HH.peek e; clear HH
    clear e
    obtain ⟨a87_0, a87_1⟩ := a87
    obtain ⟨_, h90⟩ := g89
    refine idxE c81 c82 c83 ?_
    refine anyH (fun _ => fld gok rfl rfl rfl rfl ⟨rfl, rfl⟩) ?_
    refine load1X (c74 1 _ rfl) ?_
    refine load1X (c84 1 _ rfl) ?_
    obtain ⟨y91, e, hF92⟩ := bindS hF88; clear hF88
    have ey91 := e; clear e
    refine callFx (spec_spSame_c a77_1 h80 a87_1 h90 y91 ey91) H ⟨Vw.part (β := List (List Int)) (Vw.eh (α := Int × List (List Int)) 1 rfl 0 rfl) a77_1 (h80 : Hd) (fun S h => (And.right h)), Vw.part (β := List (List Int)) (Vw.eh (α := Int × List (List Int)) 0 rfl 0 rfl) a87_1 (h90 : Hd) (fun S h => (And.right h)), trivial⟩ ?_; clear H ey91
    rintro _ _ w93 ⟨rfl, rfl⟩ hx (H : Cx w0 fp0 S0 w93 [EH (Int × List (List Int)) y25 h28 [⟨m86, (a87_0, a87_1), ((), h90)⟩], EH (Int × List (List Int)) y20 h23 [⟨m76, (a77_0, a77_1), ((), h80)⟩]])
    replace hX := hX.trans0 hx; clear hx
    refine hold hX ?_
    obtain ⟨a94, e, hF95⟩ := bindS hF92; clear hF92
    refine boolO e ?_; clear e
    replace H := H.ofEH
    replace H := H.sel [1, 0] rfl
    replace H := H.ofEH
    cases a94
    · have hF96 := condF hF95; clear hF95
      refine arK hk hmx63 ?_
      have hs := Option.some.inj hF96; subst hs; clear hF96
      exact ⟨(), (), rfl, ⟨rfl, rfl, rfl, rfl, trivial⟩, H.sel [0, 1] rfl⟩
    · have hF97 := condT hF95; clear hF95
      have hs := Option.some.inj hF97; subst hs; clear hF97
      have hr := hrt _ rfl; subst hr
      have hF98 : some _ = some _ := hF65
      cases hF98
      exact ⟨_, _, rfl, ⟨rfl, rfl⟩, (H.sel [] rfl).close trivial⟩
  · clear H e
    rintro T100 _ _ w99 hr (H : Cx w0 fp0 S0 w99 [E (List (Int × List (List Int))) y20 h23, E (List (Int × List (List Int))) y25 h28])
    subst hr
    refine boolE (z := false) geLen ?_
    refine sq ?_
    cases hF65
    exact ⟨_, _, rfl, ⟨rfl, rfl⟩, (H.sel [] rfl).close trivial⟩

theorem spec_SameOutputs_c (p_ : Int) (a__0 : Int) (a__1 : Int) (a__2 : Int) (a__3 : List (List Int)) (a__3h : Hd) (a__4 : List (List Int)) (a__4h : Hd) (a__5 : List (List Int)) (a__5h : Hd) (a__6 : List (List Int)) (a__6h : Hd) (b__0 : Int) (b__1 : Int) (b__2 : Int) (b__3 : List (List Int)) (b__3h : Hd) (b__4 : List (List Int)) (b__4h : Hd) (b__5 : List (List Int)) (b__5h : Hd) (b__6 : List (List Int)) (b__6h : Hd) (y0 : Bool) (y1 : Bool) (hF : F_spec_SameOutputs p_ (a__0, a__1, a__2, a__3, a__4, a__5, a__6) (b__0, b__1, b__2, b__3, b__4, b__5, b__6) = some (y0, y1)) :
    ConF Tryd.prog 15 #[(.int .i64 p_), (.agg #[(.int .i64 a__0), (.int .i64 a__1), (.int .i64 a__2), (a__3h).v, (a__4h).v, (a__5h).v, (a__6h).v]), (.agg #[(.int .i64 b__0), (.int .i64 b__1), (.int .i64 b__2), (b__3h).v, (b__4h).v, (b__5h).v, (b__6h).v])] [Es (List (List Int)) a__3 a__3h, Es (List (List Int)) a__4 a__4h, Es (List (List Int)) a__5 a__5h, Es (List (List Int)) a__6 a__6h, Es (List (List Int)) b__3 b__3h, Es (List (List Int)) b__4 b__4h, Es (List (List Int)) b__5 b__5h, Es (List (List Int)) b__6 b__6h] [] (fun v Γ' => v = (.tuple #[(.bool y0), (.bool y1)]) ∧ Γ' = []) := by
  intro w0 S0 fp0 hI hS
  have H : Cx w0 fp0 S0 w0 [Es (List (List Int)) a__3 a__3h, Es (List (List Int)) a__4 a__4h, Es (List (List Int)) a__5 a__5h, Es (List (List Int)) a__6 a__6h, Es (List (List Int)) b__3 b__3h, Es (List (List Int)) b__4 b__4h, Es (List (List Int)) b__5 b__5h, Es (List (List Int)) b__6 b__6h] := Cx.start hI hS
  clear hI hS
  refine enterC (args := [_, _, _]) gok Tryd.func15 rfl _ rfl rfl rfl ?_
  refine box_ H ?_; clear H; intro b10 w9 hx H
  clear hx
  replace H : Cx w0 fp0 S0 w9 [Bx b10 [(.int .i64 a__0), (.int .i64 a__1), (.int .i64 a__2), (a__3h).v, (a__4h).v, (a__5h).v, (a__6h).v], Es (List (List Int)) a__3 a__3h, Es (List (List Int)) a__4 a__4h, Es (List (List Int)) a__5 a__5h, Es (List (List Int)) a__6 a__6h, Es (List (List Int)) b__3 b__3h, Es (List (List Int)) b__4 b__4h, Es (List (List Int)) b__5 b__5h, Es (List (List Int)) b__6 b__6h] := H
  refine box_ H ?_; clear H; intro b13 w12 hx H
  clear hx
  replace H : Cx w0 fp0 S0 w12 [Bx b13 [(.int .i64 b__0), (.int .i64 b__1), (.int .i64 b__2), (b__3h).v, (b__4h).v, (b__5h).v, (b__6h).v], Bx b10 [(.int .i64 a__0), (.int .i64 a__1), (.int .i64 a__2), (a__3h).v, (a__4h).v, (a__5h).v, (a__6h).v], Es (List (List Int)) a__3 a__3h, Es (List (List Int)) a__4 a__4h, Es (List (List Int)) a__5 a__5h, Es (List (List Int)) a__6 a__6h, Es (List (List Int)) b__3 b__3h, Es (List (List Int)) b__4 b__4h, Es (List (List Int)) b__5 b__5h, Es (List (List Int)) b__6 b__6h] := H
  refine sq ?_
  refine loadN [(.int .i64 a__0), (.int .i64 a__1), (.int .i64 a__2), (a__3h).v, (a__4h).v, (a__5h).v, (a__6h).v] rfl (fun j u hj => H.bx 1 rfl hj) ?_
  refine loadN [(.int .i64 b__0), (.int .i64 b__1), (.int .i64 b__2), (b__3h).v, (b__4h).v, (b__5h).v, (b__6h).v] rfl (fun j u hj => H.bx 0 rfl hj) ?_
  obtain ⟨y15, e, hF16⟩ := bindS hF; clear hF
  have ey15 := e; clear e
  refine callF (spec_ssTwo_c p_ a__0 a__1 a__2 a__3 a__3h a__4 a__4h a__5 a__5h a__6 a__6h b__0 b__1 b__2 b__3 b__3h b__4 b__4h b__5 b__5h b__6 b__6h y15 ey15) (Γi := []) H ⟨Vw.sh 2 rfl, Vw.sh 3 rfl, Vw.sh 4 rfl, Vw.sh 5 rfl, Vw.sh 6 rfl, Vw.sh 7 rfl, Vw.sh 8 rfl, Vw.sh 9 rfl, trivial⟩ ?_; clear H ey15
  rintro _ _ w17 ⟨rfl, rfl⟩ (H : Cx w0 fp0 S0 w17 [Bx b13 [(.int .i64 b__0), (.int .i64 b__1), (.int .i64 b__2), (b__3h).v, (b__4h).v, (b__5h).v, (b__6h).v], Bx b10 [(.int .i64 a__0), (.int .i64 a__1), (.int .i64 a__2), (a__3h).v, (a__4h).v, (a__5h).v, (a__6h).v], Es (List (List Int)) a__3 a__3h, Es (List (List Int)) a__4 a__4h, Es (List (List Int)) a__5 a__5h, Es (List (List Int)) a__6 a__6h, Es (List (List Int)) b__3 b__3h, Es (List (List Int)) b__4 b__4h, Es (List (List Int)) b__5 b__5h, Es (List (List Int)) b__6 b__6h])
  obtain ⟨a18, e, hF19⟩ := bindS hF16; clear hF16
  refine boolO e ?_; clear e
  cases a18
  · have hF20 := condF hF19; clear hF19
    refine loadN [(.int .i64 a__0), (.int .i64 a__1), (.int .i64 a__2), (a__3h).v, (a__4h).v, (a__5h).v, (a__6h).v] rfl (fun j u hj => H.bx 1 rfl hj) ?_
    refine loadN [(.int .i64 b__0), (.int .i64 b__1), (.int .i64 b__2), (b__3h).v, (b__4h).v, (b__5h).v, (b__6h).v] rfl (fun j u hj => H.bx 0 rfl hj) ?_
    obtain ⟨y21, e, hF22⟩ := bindS hF20; clear hF20
    have ey21 := e; clear e
    refine callF (spec_ssSame_c p_ a__0 a__1 a__2 a__3 a__3h a__4 a__4h a__5 a__5h a__6 a__6h b__0 b__1 b__2 b__3 b__3h b__4 b__4h b__5 b__5h b__6 b__6h y21 ey21) (Γi := []) H ⟨Vw.sh 2 rfl, Vw.sh 3 rfl, Vw.sh 4 rfl, Vw.sh 5 rfl, Vw.sh 6 rfl, Vw.sh 7 rfl, Vw.sh 8 rfl, Vw.sh 9 rfl, trivial⟩ ?_; clear H ey21
    rintro _ _ w23 ⟨rfl, rfl⟩ (H : Cx w0 fp0 S0 w23 [Bx b13 [(.int .i64 b__0), (.int .i64 b__1), (.int .i64 b__2), (b__3h).v, (b__4h).v, (b__5h).v, (b__6h).v], Bx b10 [(.int .i64 a__0), (.int .i64 a__1), (.int .i64 a__2), (a__3h).v, (a__4h).v, (a__5h).v, (a__6h).v], Es (List (List Int)) a__3 a__3h, Es (List (List Int)) a__4 a__4h, Es (List (List Int)) a__5 a__5h, Es (List (List Int)) a__6 a__6h, Es (List (List Int)) b__3 b__3h, Es (List (List Int)) b__4 b__4h, Es (List (List Int)) b__5 b__5h, Es (List (List Int)) b__6 b__6h])
    cases hF22
    exact ⟨_, _, rfl, ⟨rfl, rfl⟩, (H.sel [] rfl).close trivial⟩
  · have hF24 := condT hF19; clear hF19
    cases hF24
    exact ⟨_, _, rfl, ⟨rfl, rfl⟩, (H.sel [] rfl).close trivial⟩

theorem impl_twoStateSpaces_c (p_ : Int) (a__0 : Int) (a__1 : Int) (a__2 : Int) (a__3 : List (List Int)) (a__3h : Hd) (a__4 : List (List Int)) (a__4h : Hd) (a__5 : List (List Int)) (a__5h : Hd) (a__6 : List (List Int)) (a__6h : Hd) (b__0 : Int) (b__1 : Int) (b__2 : Int) (b__3 : List (List Int)) (b__3h : Hd) (b__4 : List (List Int)) (b__4h : Hd) (b__5 : List (List Int)) (b__5h : Hd) (b__6 : List (List Int)) (b__6h : Hd) (y : Bool) (hF : F_impl_twoStateSpaces p_ (a__0, a__1, a__2, a__3, a__4, a__5, a__6) (b__0, b__1, b__2, b__3, b__4, b__5, b__6) = some y) :
    ConF Tryd.prog 65 #[(.int .i64 p_), (.agg #[(.int .i64 a__0), (.int .i64 a__1), (.int .i64 a__2), (a__3h).v, (a__4h).v, (a__5h).v, (a__6h).v]), (.agg #[(.int .i64 b__0), (.int .i64 b__1), (.int .i64 b__2), (b__3h).v, (b__4h).v, (b__5h).v, (b__6h).v])] [Es (List (List Int)) a__3 a__3h, Es (List (List Int)) a__4 a__4h, Es (List (List Int)) a__5 a__5h, Es (List (List Int)) a__6 a__6h, Es (List (List Int)) b__3 b__3h, Es (List (List Int)) b__4 b__4h, Es (List (List Int)) b__5 b__5h, Es (List (List Int)) b__6 b__6h, Gl 0 [.int .i64 2, .int .i64 3, .int .i64 5, .int .i64 7]] [] (fun v Γ' => v = (.bool y) ∧ Γ' = []) := by
  intro w0 S0 fp0 hI hS
  have H : Cx w0 fp0 S0 w0 [Es (List (List Int)) a__3 a__3h, Es (List (List Int)) a__4 a__4h, Es (List (List Int)) a__5 a__5h, Es (List (List Int)) a__6 a__6h, Es (List (List Int)) b__3 b__3h, Es (List (List Int)) b__4 b__4h, Es (List (List Int)) b__5 b__5h, Es (List (List Int)) b__6 b__6h, Gl 0 [.int .i64 2, .int .i64 3, .int .i64 5, .int .i64 7]] := Cx.start hI hS
  clear hI hS
  refine enterC (args := [_, _, _]) gok Tryd.func65 rfl _ rfl rfl rfl ?_
  refine box_ H ?_; clear H; intro b11 w10 hx H
  clear hx
  replace H : Cx w0 fp0 S0 w10 [Bx b11 [(.int .i64 a__0), (.int .i64 a__1), (.int .i64 a__2), (a__3h).v, (a__4h).v, (a__5h).v, (a__6h).v], Es (List (List Int)) a__3 a__3h, Es (List (List Int)) a__4 a__4h, Es (List (List Int)) a__5 a__5h, Es (List (List Int)) a__6 a__6h, Es (List (List Int)) b__3 b__3h, Es (List (List Int)) b__4 b__4h, Es (List (List Int)) b__5 b__5h, Es (List (List Int)) b__6 b__6h, Gl 0 [.int .i64 2, .int .i64 3, .int .i64 5, .int .i64 7]] := H
  refine box_ H ?_; clear H; intro b14 w13 hx H
  clear hx
  replace H : Cx w0 fp0 S0 w13 [Bx b14 [(.int .i64 b__0), (.int .i64 b__1), (.int .i64 b__2), (b__3h).v, (b__4h).v, (b__5h).v, (b__6h).v], Bx b11 [(.int .i64 a__0), (.int .i64 a__1), (.int .i64 a__2), (a__3h).v, (a__4h).v, (a__5h).v, (a__6h).v], Es (List (List Int)) a__3 a__3h, Es (List (List Int)) a__4 a__4h, Es (List (List Int)) a__5 a__5h, Es (List (List Int)) a__6 a__6h, Es (List (List Int)) b__3 b__3h, Es (List (List Int)) b__4 b__4h, Es (List (List Int)) b__5 b__5h, Es (List (List Int)) b__6 b__6h, Gl 0 [.int .i64 2, .int .i64 3, .int .i64 5, .int .i64 7]] := H
  obtain ⟨r34, hF36, hF35⟩ := bindS hF; clear hF
  refine cut (fun (q37 : Bool) => [(6, (.bool q37))]) (fun (q37 : Bool) w' => q37 = r34 ∧ Cx w0 fp0 S0 w' [Gl 0 [.int .i64 2, .int .i64 3, .int .i64 5, .int .i64 7]]) ?_ ?_
  · skip
    refine loadN [(.int .i64 a__0), (.int .i64 a__1), (.int .i64 a__2), (a__3h).v, (a__4h).v, (a__5h).v, (a__6h).v] rfl (fun j u hj => H.bx 1 rfl hj) ?_
    obtain ⟨y38, e, hF39⟩ := bindS hF36; clear hF36
    have ey38 := e; clear e
    refine callF (impl_isStateSpace_c p_ a__0 a__1 a__2 a__3 a__3h a__4 a__4h a__5 a__5h a__6 a__6h y38 ey38) (Γi := []) H ⟨Vw.sh 2 rfl, Vw.sh 3 rfl, Vw.sh 4 rfl, Vw.sh 5 rfl, Vw.gl 10 rfl, trivial⟩ ?_; clear H ey38
    rintro _ _ w40 ⟨rfl, rfl⟩ (H : Cx w0 fp0 S0 w40 [Bx b14 [(.int .i64 b__0), (.int .i64 b__1), (.int .i64 b__2), (b__3h).v, (b__4h).v, (b__5h).v, (b__6h).v], Bx b11 [(.int .i64 a__0), (.int .i64 a__1), (.int .i64 a__2), (a__3h).v, (a__4h).v, (a__5h).v, (a__6h).v], Es (List (List Int)) a__3 a__3h, Es (List (List Int)) a__4 a__4h, Es (List (List Int)) a__5 a__5h, Es (List (List Int)) a__6 a__6h, Es (List (List Int)) b__3 b__3h, Es (List (List Int)) b__4 b__4h, Es (List (List Int)) b__5 b__5h, Es (List (List Int)) b__6 b__6h, Gl 0 [.int .i64 2, .int .i64 3, .int .i64 5, .int .i64 7]])
    cases y38
    · have hF41 := condF hF39; clear hF39
      exact ⟨false, ⟨rfl, trivial⟩, Option.some.inj hF41, H.sel [10] rfl⟩
    · have hF42 := condT hF39; clear hF39
      refine loadN [(.int .i64 b__0), (.int .i64 b__1), (.int .i64 b__2), (b__3h).v, (b__4h).v, (b__5h).v, (b__6h).v] rfl (fun j u hj => H.bx 0 rfl hj) ?_
      obtain ⟨y43, e, hF44⟩ := bindS hF42; clear hF42
      have ey43 := e; clear e
      refine callF (impl_isStateSpace_c p_ b__0 b__1 b__2 b__3 b__3h b__4 b__4h b__5 b__5h b__6 b__6h y43 ey43) (Γi := []) H ⟨Vw.sh 6 rfl, Vw.sh 7 rfl, Vw.sh 8 rfl, Vw.sh 9 rfl, Vw.gl 10 rfl, trivial⟩ ?_; clear H ey43
      rintro _ _ w45 ⟨rfl, rfl⟩ (H : Cx w0 fp0 S0 w45 [Bx b14 [(.int .i64 b__0), (.int .i64 b__1), (.int .i64 b__2), (b__3h).v, (b__4h).v, (b__5h).v, (b__6h).v], Bx b11 [(.int .i64 a__0), (.int .i64 a__1), (.int .i64 a__2), (a__3h).v, (a__4h).v, (a__5h).v, (a__6h).v], Es (List (List Int)) a__3 a__3h, Es (List (List Int)) a__4 a__4h, Es (List (List Int)) a__5 a__5h, Es (List (List Int)) a__6 a__6h, Es (List (List Int)) b__3 b__3h, Es (List (List Int)) b__4 b__4h, Es (List (List Int)) b__5 b__5h, Es (List (List Int)) b__6 b__6h, Gl 0 [.int .i64 2, .int .i64 3, .int .i64 5, .int .i64 7]])
      cases y43
      · have hF46 := condF hF44; clear hF44
        exact ⟨false, ⟨rfl, trivial⟩, Option.some.inj hF46, H.sel [10] rfl⟩
      · have hF47 := condT hF44; clear hF44
        refine fld gok rfl rfl rfl rfl ?_
        refine load1 (H.bx 1 rfl (j := 1) rfl) ?_
        refine fld gok rfl rfl rfl rfl ?_
        refine load1 (H.bx 0 rfl (j := 1) rfl) ?_
        obtain ⟨a48, e, hF49⟩ := bindS hF47; clear hF47
        refine boolO e ?_; clear e
        cases a48
        · have hF50 := condF hF49; clear hF49
          exact ⟨false, ⟨rfl, trivial⟩, Option.some.inj hF50, H.sel [10] rfl⟩
        · have hF51 := condT hF49; clear hF49
          refine fld gok rfl rfl rfl rfl ?_
          refine load1 (H.bx 1 rfl (j := 2) rfl) ?_
          refine fld gok rfl rfl rfl rfl ?_
          refine load1 (H.bx 0 rfl (j := 2) rfl) ?_
          obtain ⟨a52, e, hF53⟩ := bindS hF51; clear hF51
          refine boolO e ?_; clear e
          exact ⟨a52, ⟨rfl, trivial⟩, Option.some.inj hF53, H.sel [10] rfl⟩
  · clear hF36 H
    rintro T55 s32 w54 ⟨hr, (H : Cx w0 fp0 S0 w54 [Gl 0 [.int .i64 2, .int .i64 3, .int .i64 5, .int .i64 7]])⟩
    subst hr
    cases hF35
    exact ⟨_, _, rfl, ⟨rfl, rfl⟩, (H.sel [] rfl).close trivial⟩

theorem slices_Equal_int_int_c (s1_ : List Int) (s1_h : Hd) (s2_ : List Int) (s2_h : Hd) (y : Bool) (hF : F_slices_Equal_int_int s1_ s2_ = some y) :
    ConF Tryd.prog 159 #[(s1_h).v, (s2_h).v] [Es (List Int) s1_ s1_h, Es (List Int) s2_ s2_h] [] (fun v Γ' => v = (.bool y) ∧ Γ' = []) := by
  intro w0 S0 fp0 hI hS
  have H : Cx w0 fp0 S0 w0 [Es (List Int) s1_ s1_h, Es (List Int) s2_ s2_h] := Cx.start hI hS
  clear hI hS
  refine enterC (args := [_, _]) gok Tryd.func159 rfl _ rfl rfl rfl ?_
  refine sq ?_
  refine lenE (H.rs (α := List Int) 0 rfl).len ?_
  refine lenE (H.rs (α := List Int) 1 rfl).len ?_
  obtain ⟨a3, e, hF4⟩ := bindS hF; clear hF
  refine boolO e ?_; clear e
  cases a3
  · have hF5 := condF hF4; clear hF4
    refine sq ?_
    refine lenE (H.rs (α := List Int) 0 rfl).len ?_
    have hmx32 := (H.rs (α := List Int) 0 rfl).max
    obtain ⟨r33, e, hF34⟩ := bindS hF5; clear hF5
    refine loopO _ s1_.length (fun (k6 : Nat) (_ : Unit) (_ : Unit) => [(0, (s1_h).v), (1, (s2_h).v), (12, (.int .i64 ((s1_.length : Nat) : Int))), (13, (.int .i64 ((k6 : Nat) : Int)))]) (fun _ (_ : Unit) (_ : Unit) w' => Cx w0 fp0 S0 w' [Es (List Int) s1_ s1_h, Es (List Int) s2_ s2_h]) () () e ⟨rfl, rfl, rfl, rfl, trivial⟩ (H.sel [0, 1] rfl) ?_ ?_
    · clear H e
      rintro T36 k6 _ _ w35 o37 hk (H : Cx w0 fp0 S0 w35 [Es (List Int) s1_ s1_h, Es (List Int) s2_ s2_h]) hrt hF38
      refine boolE (z := true) (ltLen hk) ?_
      refine sq ?_
      refine sq ?_
      refine heldX H [] (.fst 0 (.fst 1 (.fst 2 (.fst 4 (.fst 5 (.fst 6 (.fst 3 (.fst 7 (.fst 8 .done))))))))) mixed [] trivial (by kernel_rfl) ?_; clear H; intro w39 H
      have hX : Ext w39 w39 := Upd.refl _ _
      have H0 := H
      obtain ⟨a46, e, hF47⟩ := bindS hF38; clear hF38
      obtain ⟨p44, m45, c40, c41, c42, c43⟩ := (H.rs (α := List Int) 0 rfl).at1 e; clear e
      refine idxE c40 c41 c42 ?_; clear c40 c41 c42
      obtain ⟨a54, e, hF55⟩ := bindS hF47; clear hF47
      obtain ⟨p52, m53, c48, c49, c50, c51⟩ := (H.rs (α := List Int) 1 rfl).at1 e; clear e
      refine idxE c48 c49 c50 ?_; clear c48 c49 c50
      refine load1X c43 ?_; clear c43
      refine load1X c51 ?_; clear c51
      obtain ⟨a56, e, hF57⟩ := bindS hF55; clear hF55
      refine boolO e ?_; clear e
      cases a56
      · have hF58 := condF hF57; clear hF57
        refine arK hk hmx32 ?_
        have hs := Option.some.inj hF58; subst hs; clear hF58
        exact ⟨(), (), rfl, ⟨rfl, rfl, rfl, rfl, trivial⟩, H.sel [0, 1] rfl⟩
      · have hF59 := condT hF57; clear hF57
        have hs := Option.some.inj hF59; subst hs; clear hF59
        have hr := hrt _ rfl; subst hr
        have hF60 : some _ = some _ := hF34
        cases hF60
        exact ⟨_, _, rfl, ⟨rfl, rfl⟩, (H.sel [] rfl).close trivial⟩
    · clear H e
      rintro T62 _ _ w61 hr (H : Cx w0 fp0 S0 w61 [Es (List Int) s1_ s1_h, Es (List Int) s2_ s2_h])
      subst hr
      refine boolE (z := false) geLen ?_
      refine sq ?_
      cases hF34
      exact ⟨_, _, rfl, ⟨rfl, rfl⟩, (H.sel [] rfl).close trivial⟩
  · have hF65 := condT hF4; clear hF4
    cases hF65
    exact ⟨_, _, rfl, ⟨rfl, rfl⟩, (H.sel [] rfl).close trivial⟩

theorem slices_EqualFunc_int_int_int_int_slices_Equal_int_int_c (s1_ : List (List Int)) (s1_h : Hd) (s2_ : List (List Int)) (s2_h : Hd) (y : Bool) (hF : F_slices_EqualFunc_int_int_int_int_slices_Equal_int_int s1_ s2_ = some y) :
    ConF Tryd.prog 158 #[(s1_h).v, (s2_h).v, (.func (.func 159) #[] #[])] [Es (List (List Int)) s1_ s1_h, Es (List (List Int)) s2_ s2_h] [] (fun v Γ' => v = (.bool y) ∧ Γ' = []) := by
  intro w0 S0 fp0 hI hS
  have H : Cx w0 fp0 S0 w0 [Es (List (List Int)) s1_ s1_h, Es (List (List Int)) s2_ s2_h] := Cx.start hI hS
  clear hI hS
  refine enterC (args := [_, _, _]) gok Tryd.func158 rfl _ rfl rfl rfl ?_
  refine sq ?_
  refine lenE (H.rs (α := List (List Int)) 0 rfl).len ?_
  refine lenE (H.rs (α := List (List Int)) 1 rfl).len ?_
  obtain ⟨a3, e, hF4⟩ := bindS hF; clear hF
  refine boolO e ?_; clear e
  cases a3
  · have hF5 := condF hF4; clear hF4
    refine sq ?_
    refine lenE (H.rs (α := List (List Int)) 0 rfl).len ?_
    have hmx38 := (H.rs (α := List (List Int)) 0 rfl).max
    obtain ⟨r39, e, hF40⟩ := bindS hF5; clear hF5
    refine loopO _ s1_.length (fun (k6 : Nat) (_ : Unit) (_ : Unit) => [(1, (s2_h).v), (2, (.func (.func 159) #[] #[])), (15, (s1_h).v), (16, (.int .i64 ((s1_.length : Nat) : Int))), (17, (.int .i64 ((k6 : Nat) : Int)))]) (fun _ (_ : Unit) (_ : Unit) w' => Cx w0 fp0 S0 w' [Es (List (List Int)) s2_ s2_h, Es (List (List Int)) s1_ s1_h]) () () e ⟨rfl, rfl, rfl, rfl, rfl, trivial⟩ (H.sel [1, 0] rfl) ?_ ?_
    · clear H e
      rintro T42 k6 _ _ w41 o43 hk (H : Cx w0 fp0 S0 w41 [Es (List (List Int)) s2_ s2_h, Es (List (List Int)) s1_ s1_h]) hrt hF44
      refine boolE (z := true) (ltLen hk) ?_
      refine sq ?_
      refine sq ?_
      obtain ⟨a51, e, hF52⟩ := bindS hF44; clear hF44
      have HH := H; clear H; obtain ⟨p49, m50, h53, c45, c46, c47, c48, H⟩ := HH.elL 1 rfl e; clear HH
      clear e
      refine idxE c45 c46 c47 ?_; clear c45 c46 c47
      refine load1 c48 ?_; clear c48
      obtain ⟨a61, e, hF62⟩ := bindS hF52; clear hF52
      have HH := H; clear H; obtain ⟨p59, m60, h63, c55, c56, c57, c58, H⟩ := HH.elL 1 rfl e; clear HH
      clear e
      refine idxE c55 c56 c57 ?_; clear c55 c56 c57
      refine load1 c58 ?_; clear c58
      obtain ⟨y65, e, hF66⟩ := bindS hF62; clear hF62
      have ey65 := e; clear e
      refine callF (slices_Equal_int_int_c a51 h53 a61 h63 y65 ey65) (Γi := []) H ⟨Vw.sh 1 rfl, Vw.sh 0 rfl, trivial⟩ ?_; clear H ey65
      rintro _ _ w67 ⟨rfl, rfl⟩ (H : Cx w0 fp0 S0 w67 [Es (List Int) a61 h63, Es (List Int) a51 h53, Es (List (List Int)) s2_ s2_h, Es (List (List Int)) s1_ s1_h])
      obtain ⟨a68, e, hF69⟩ := bindS hF66; clear hF66
      refine boolO e ?_; clear e
      cases a68
      · have hF70 := condF hF69; clear hF69
        refine arK hk hmx38 ?_
        have hs := Option.some.inj hF70; subst hs; clear hF70
        exact ⟨(), (), rfl, ⟨rfl, rfl, rfl, rfl, rfl, trivial⟩, H.sel [2, 3] rfl⟩
      · have hF71 := condT hF69; clear hF69
        have hs := Option.some.inj hF71; subst hs; clear hF71
        have hr := hrt _ rfl; subst hr
        have hF72 : some _ = some _ := hF40
        cases hF72
        exact ⟨_, _, rfl, ⟨rfl, rfl⟩, (H.sel [] rfl).close trivial⟩
    · clear H e
      rintro T74 _ _ w73 hr (H : Cx w0 fp0 S0 w73 [Es (List (List Int)) s2_ s2_h, Es (List (List Int)) s1_ s1_h])
      subst hr
      refine boolE (z := false) geLen ?_
      refine sq ?_
      cases hF40
      exact ⟨_, _, rfl, ⟨rfl, rfl⟩, (H.sel [] rfl).close trivial⟩
  · have hF77 := condT hF4; clear hF4
    cases hF77
    exact ⟨_, _, rfl, ⟨rfl, rfl⟩, (H.sel [] rfl).close trivial⟩

theorem impl_sameRows_c (a_ : List (List Int)) (a_h : Hd) (b_ : List (List Int)) (b_h : Hd) (y : Bool) (hF : F_impl_sameRows a_ b_ = some y) :
    ConF Tryd.prog 150 #[(a_h).v, (b_h).v] [Es (List (List Int)) a_ a_h, Es (List (List Int)) b_ b_h] [] (fun v Γ' => v = (.bool y) ∧ Γ' = []) := by
  intro w0 S0 fp0 hI hS
  have H : Cx w0 fp0 S0 w0 [Es (List (List Int)) a_ a_h, Es (List (List Int)) b_ b_h] := Cx.start hI hS
  clear hI hS
  refine enterC (args := [_, _]) gok Tryd.func150 rfl _ rfl rfl rfl ?_
  obtain ⟨y3, e, hF4⟩ := bindS hF; clear hF
  have ey3 := e; clear e
  refine callF (slices_EqualFunc_int_int_int_int_slices_Equal_int_int_c a_ a_h b_ b_h y3 ey3) (Γi := []) H ⟨Vw.sh 0 rfl, Vw.sh 1 rfl, trivial⟩ ?_; clear H ey3
  rintro _ _ w5 ⟨rfl, rfl⟩ (H : Cx w0 fp0 S0 w5 [Es (List (List Int)) a_ a_h, Es (List (List Int)) b_ b_h])
  cases hF4
  exact ⟨_, _, rfl, ⟨rfl, rfl⟩, (H.sel [] rfl).close trivial⟩

theorem impl_equalMatrices_c (a__0 : Int) (a__1 : List (List Int)) (a__1h : Hd) (b__0 : Int) (b__1 : List (List Int)) (b__1h : Hd) (y : Bool) (hF : F_impl_equalMatrices (a__0, a__1) (b__0, b__1) = some y) :
    ConF Tryd.prog 116 #[(.agg #[(.int .i64 a__0), (a__1h).v]), (.agg #[(.int .i64 b__0), (b__1h).v])] [Es (List (List Int)) a__1 a__1h, Es (List (List Int)) b__1 b__1h] [] (fun v Γ' => v = (.bool y) ∧ Γ' = []) := by
  intro w0 S0 fp0 hI hS
  have H : Cx w0 fp0 S0 w0 [Es (List (List Int)) a__1 a__1h, Es (List (List Int)) b__1 b__1h] := Cx.start hI hS
  clear hI hS
  refine enterC (args := [_, _]) gok Tryd.func116 rfl _ rfl rfl rfl ?_
  refine box_ H ?_; clear H; intro b4 w3 hx H
  clear hx
  replace H : Cx w0 fp0 S0 w3 [Bx b4 [(.int .i64 a__0), (a__1h).v], Es (List (List Int)) a__1 a__1h, Es (List (List Int)) b__1 b__1h] := H
  refine box_ H ?_; clear H; intro b7 w6 hx H
  clear hx
  replace H : Cx w0 fp0 S0 w6 [Bx b7 [(.int .i64 b__0), (b__1h).v], Bx b4 [(.int .i64 a__0), (a__1h).v], Es (List (List Int)) a__1 a__1h, Es (List (List Int)) b__1 b__1h] := H
  obtain ⟨r18, hF20, hF19⟩ := bindS hF; clear hF
  refine cut (fun (q21 : Bool) => [(4, (.bool q21))]) (fun (q21 : Bool) w' => q21 = r18 ∧ Cx w0 fp0 S0 w' []) ?_ ?_
  · skip
    refine fld gok rfl rfl rfl rfl ?_
    refine load1 (H.bx 1 rfl (j := 0) rfl) ?_
    refine fld gok rfl rfl rfl rfl ?_
    refine load1 (H.bx 0 rfl (j := 0) rfl) ?_
    obtain ⟨a22, e, hF23⟩ := bindS hF20; clear hF20
    refine boolO e ?_; clear e
    cases a22
    · have hF24 := condF hF23; clear hF23
      exact ⟨false, ⟨rfl, trivial⟩, Option.some.inj hF24, H.sel [] rfl⟩
    · have hF25 := condT hF23; clear hF23
      refine fld gok rfl rfl rfl rfl ?_
      refine load1 (H.bx 1 rfl (j := 1) rfl) ?_
      refine fld gok rfl rfl rfl rfl ?_
      refine load1 (H.bx 0 rfl (j := 1) rfl) ?_
      obtain ⟨y26, e, hF27⟩ := bindS hF25; clear hF25
      have ey26 := e; clear e
      refine callF (impl_sameRows_c a__1 a__1h b__1 b__1h y26 ey26) (Γi := []) H ⟨Vw.sh 2 rfl, Vw.sh 3 rfl, trivial⟩ ?_; clear H ey26
      rintro _ _ w28 ⟨rfl, rfl⟩ (H : Cx w0 fp0 S0 w28 [Bx b7 [(.int .i64 b__0), (b__1h).v], Bx b4 [(.int .i64 a__0), (a__1h).v], Es (List (List Int)) a__1 a__1h, Es (List (List Int)) b__1 b__1h])
      exact ⟨y26, ⟨rfl, trivial⟩, Option.some.inj hF27, H.sel [] rfl⟩
  · clear hF20 H
    rintro T30 s16 w29 ⟨hr, (H : Cx w0 fp0 S0 w29 [])⟩
    subst hr
    cases hF19
    exact ⟨_, _, rfl, ⟨rfl, rfl⟩, (H.sel [] rfl).close trivial⟩

theorem slices_EqualFunc_impl_Matrix_impl_Matrix_impl_Matrix_impl_Matrix_impl_equalMatrices_c (s1_ : List (Int × List (List Int))) (s1_h : Hd) (s2_ : List (Int × List (List Int))) (s2_h : Hd) (y : Bool) (hF : F_slices_EqualFunc_impl_Matrix_impl_Matrix_impl_Matrix_impl_Matrix_impl_equalMatrices s1_ s2_ = some y) :
    ConF Tryd.prog 115 #[(s1_h).v, (s2_h).v, (.func (.func 116) #[] #[])] [Es (List (Int × List (List Int))) s1_ s1_h, Es (List (Int × List (List Int))) s2_ s2_h] [] (fun v Γ' => v = (.bool y) ∧ Γ' = []) := by
  intro w0 S0 fp0 hI hS
  have H : Cx w0 fp0 S0 w0 [Es (List (Int × List (List Int))) s1_ s1_h, Es (List (Int × List (List Int))) s2_ s2_h] := Cx.start hI hS
  clear hI hS
  refine enterC (args := [_, _, _]) gok Tryd.func115 rfl _ rfl rfl rfl ?_
  refine sq ?_
  refine lenE (H.rs (α := List (Int × List (List Int))) 0 rfl).len ?_
  refine lenE (H.rs (α := List (Int × List (List Int))) 1 rfl).len ?_
  obtain ⟨a3, e, hF4⟩ := bindS hF; clear hF
  refine boolO e ?_; clear e
  cases a3
  · have hF5 := condF hF4; clear hF4
    refine sq ?_
    refine lenE (H.rs (α := List (Int × List (List Int))) 0 rfl).len ?_
    have hmx50 := (H.rs (α := List (Int × List (List Int))) 0 rfl).max
    obtain ⟨r51, e, hF52⟩ := bindS hF5; clear hF5
    refine loopO _ s1_.length (fun (k6 : Nat) (_ : Unit) (_ : Unit) => [(1, (s2_h).v), (2, (.func (.func 116) #[] #[])), (15, (s1_h).v), (16, (.int .i64 ((s1_.length : Nat) : Int))), (17, (.int .i64 ((k6 : Nat) : Int)))]) (fun _ (_ : Unit) (_ : Unit) w' => Cx w0 fp0 S0 w' [Es (List (Int × List (List Int))) s2_ s2_h, Es (List (Int × List (List Int))) s1_ s1_h]) () () e ⟨rfl, rfl, rfl, rfl, rfl, trivial⟩ (H.sel [1, 0] rfl) ?_ ?_
    · clear H e
      rintro T54 k6 _ _ w53 o55 hk (H : Cx w0 fp0 S0 w53 [Es (List (Int × List (List Int))) s2_ s2_h, Es (List (Int × List (List Int))) s1_ s1_h]) hrt hF56
      refine boolE (z := true) (ltLen hk) ?_
      refine sq ?_
      refine sq ?_
      obtain ⟨a63, e, hF64⟩ := bindS hF56; clear hF56
      have HH := H; clear H; obtain ⟨p61, m62, g65, c57, c58, c59, c60, H⟩ := HH.el (α := Int × List (List Int)) 1 rfl e; clear HH
      clear e
      obtain ⟨a63_0, a63_1⟩ := a63
      obtain ⟨_, h67⟩ := g65
      replace H := H.part (β := List (List Int)) a63_1 (h67 : Hd) 0 rfl (fun S h => (And.right h))
      replace H := H.sel [0, 2, 3] rfl
      refine idxE c57 c58 c59 ?_; clear c57 c58 c59
      refine loadN [(.int .i64 a63_0), (h67).v] rfl c60 ?_; clear c60
      refine alloc_ gok rfl H ?_; clear H; intro b70 w69 hx H
      clear hx
      replace H : Cx w0 fp0 S0 w69 [Bx b70 [(.int .i64 0), (.slice none 0 0)], Es (List (List Int)) a63_1 h67, Es (List (Int × List (List Int))) s2_ s2_h, Es (List (Int × List (List Int))) s1_ s1_h] := H
      refine stA gok [(.int .i64 a63_0), (h67).v] rfl H rfl rfl rfl ?_; clear H; intro w72 H
      replace H : Cx w0 fp0 S0 w72 [Bx b70 [(.int .i64 a63_0), (h67).v], Es (List (List Int)) a63_1 h67, Es (List (Int × List (List Int))) s2_ s2_h, Es (List (Int × List (List Int))) s1_ s1_h] := H
      obtain ⟨a79, e, hF80⟩ := bindS hF64; clear hF64
      have HH := H; clear H; obtain ⟨p77, m78, g81, c73, c74, c75, c76, H⟩ := HH.el (α := Int × List (List Int)) 2 rfl e; clear HH
      clear e
      obtain ⟨a79_0, a79_1⟩ := a79
      obtain ⟨_, h83⟩ := g81
      replace H := H.part (β := List (List Int)) a79_1 (h83 : Hd) 0 rfl (fun S h => (And.right h))
      replace H := H.sel [0, 2, 3, 4, 5] rfl
      refine idxE c73 c74 c75 ?_; clear c73 c74 c75
      refine loadN [(.int .i64 a79_0), (h83).v] rfl c76 ?_; clear c76
      refine alloc_ gok rfl H ?_; clear H; intro b86 w85 hx H
      clear hx
      replace H : Cx w0 fp0 S0 w85 [Bx b86 [(.int .i64 0), (.slice none 0 0)], Es (List (List Int)) a79_1 h83, Bx b70 [(.int .i64 a63_0), (h67).v], Es (List (List Int)) a63_1 h67, Es (List (Int × List (List Int))) s2_ s2_h, Es (List (Int × List (List Int))) s1_ s1_h] := H
      refine stA gok [(.int .i64 a79_0), (h83).v] rfl H rfl rfl rfl ?_; clear H; intro w88 H
      replace H : Cx w0 fp0 S0 w88 [Bx b86 [(.int .i64 a79_0), (h83).v], Es (List (List Int)) a79_1 h83, Bx b70 [(.int .i64 a63_0), (h67).v], Es (List (List Int)) a63_1 h67, Es (List (Int × List (List Int))) s2_ s2_h, Es (List (Int × List (List Int))) s1_ s1_h] := H
      refine loadN [(.int .i64 a63_0), (h67).v] rfl (fun j u hj => H.bx 2 rfl hj) ?_
      refine loadN [(.int .i64 a79_0), (h83).v] rfl (fun j u hj => H.bx 0 rfl hj) ?_
      obtain ⟨y89, e, hF90⟩ := bindS hF80; clear hF80
      have ey89 := e; clear e
      refine callF (impl_equalMatrices_c a63_0 a63_1 h67 a79_0 a79_1 h83 y89 ey89) (Γi := []) H ⟨Vw.sh 3 rfl, Vw.sh 1 rfl, trivial⟩ ?_; clear H ey89
      rintro _ _ w91 ⟨rfl, rfl⟩ (H : Cx w0 fp0 S0 w91 [Bx b86 [(.int .i64 a79_0), (h83).v], Es (List (List Int)) a79_1 h83, Bx b70 [(.int .i64 a63_0), (h67).v], Es (List (List Int)) a63_1 h67, Es (List (Int × List (List Int))) s2_ s2_h, Es (List (Int × List (List Int))) s1_ s1_h])
      obtain ⟨a92, e, hF93⟩ := bindS hF90; clear hF90
      refine boolO e ?_; clear e
      cases a92
      · have hF94 := condF hF93; clear hF93
        refine arK hk hmx50 ?_
        have hs := Option.some.inj hF94; subst hs; clear hF94
        exact ⟨(), (), rfl, ⟨rfl, rfl, rfl, rfl, rfl, trivial⟩, H.sel [4, 5] rfl⟩
      · have hF95 := condT hF93; clear hF93
        have hs := Option.some.inj hF95; subst hs; clear hF95
        have hr := hrt _ rfl; subst hr
        have hF96 : some _ = some _ := hF52
        cases hF96
        exact ⟨_, _, rfl, ⟨rfl, rfl⟩, (H.sel [] rfl).close trivial⟩
    · clear H e
      rintro T98 _ _ w97 hr (H : Cx w0 fp0 S0 w97 [Es (List (Int × List (List Int))) s2_ s2_h, Es (List (Int × List (List Int))) s1_ s1_h])
      subst hr
      refine boolE (z := false) geLen ?_
      refine sq ?_
      cases hF52
      exact ⟨_, _, rfl, ⟨rfl, rfl⟩, (H.sel [] rfl).close trivial⟩
  · have hF101 := condT hF4; clear hF4
    cases hF101
    exact ⟨_, _, rfl, ⟨rfl, rfl⟩, (H.sel [] rfl).close trivial⟩

theorem impl_sameOutputs_c (p_ : Int) (a__0 : Int) (a__1 : Int) (a__2 : Int) (a__3 : List (List Int)) (a__3h : Hd) (a__4 : List (List Int)) (a__4h : Hd) (a__5 : List (List Int)) (a__5h : Hd) (a__6 : List (List Int)) (a__6h : Hd) (b__0 : Int) (b__1 : Int) (b__2 : Int) (b__3 : List (List Int)) (b__3h : Hd) (b__4 : List (List Int)) (b__4h : Hd) (b__5 : List (List Int)) (b__5h : Hd) (b__6 : List (List Int)) (b__6h : Hd) (y : Bool) (hF : F_impl_sameOutputs p_ (a__0, a__1, a__2, a__3, a__4, a__5, a__6) (b__0, b__1, b__2, b__3, b__4, b__5, b__6) = some y) :
    ConF Tryd.prog 66 #[(.int .i64 p_), (.agg #[(.int .i64 a__0), (.int .i64 a__1), (.int .i64 a__2), (a__3h).v, (a__4h).v, (a__5h).v, (a__6h).v]), (.agg #[(.int .i64 b__0), (.int .i64 b__1), (.int .i64 b__2), (b__3h).v, (b__4h).v, (b__5h).v, (b__6h).v])] [Es (List (List Int)) a__3 a__3h, Es (List (List Int)) a__4 a__4h, Es (List (List Int)) a__5 a__5h, Es (List (List Int)) a__6 a__6h, Es (List (List Int)) b__3 b__3h, Es (List (List Int)) b__4 b__4h, Es (List (List Int)) b__5 b__5h, Es (List (List Int)) b__6 b__6h] [] (fun v Γ' => v = (.bool y) ∧ Γ' = []) := by
  intro w0 S0 fp0 hI hS
  have H : Cx w0 fp0 S0 w0 [Es (List (List Int)) a__3 a__3h, Es (List (List Int)) a__4 a__4h, Es (List (List Int)) a__5 a__5h, Es (List (List Int)) a__6 a__6h, Es (List (List Int)) b__3 b__3h, Es (List (List Int)) b__4 b__4h, Es (List (List Int)) b__5 b__5h, Es (List (List Int)) b__6 b__6h] := Cx.start hI hS
  clear hI hS
  refine enterC (args := [_, _, _]) gok Tryd.func66 rfl _ rfl rfl rfl ?_
  refine box_ H ?_; clear H; intro b10 w9 hx H
  clear hx
  replace H : Cx w0 fp0 S0 w9 [Bx b10 [(.int .i64 a__0), (.int .i64 a__1), (.int .i64 a__2), (a__3h).v, (a__4h).v, (a__5h).v, (a__6h).v], Es (List (List Int)) a__3 a__3h, Es (List (List Int)) a__4 a__4h, Es (List (List Int)) a__5 a__5h, Es (List (List Int)) a__6 a__6h, Es (List (List Int)) b__3 b__3h, Es (List (List Int)) b__4 b__4h, Es (List (List Int)) b__5 b__5h, Es (List (List Int)) b__6 b__6h] := H
  refine box_ H ?_; clear H; intro b13 w12 hx H
  clear hx
  replace H : Cx w0 fp0 S0 w12 [Bx b13 [(.int .i64 b__0), (.int .i64 b__1), (.int .i64 b__2), (b__3h).v, (b__4h).v, (b__5h).v, (b__6h).v], Bx b10 [(.int .i64 a__0), (.int .i64 a__1), (.int .i64 a__2), (a__3h).v, (a__4h).v, (a__5h).v, (a__6h).v], Es (List (List Int)) a__3 a__3h, Es (List (List Int)) a__4 a__4h, Es (List (List Int)) a__5 a__5h, Es (List (List Int)) a__6 a__6h, Es (List (List Int)) b__3 b__3h, Es (List (List Int)) b__4 b__4h, Es (List (List Int)) b__5 b__5h, Es (List (List Int)) b__6 b__6h] := H
  refine fld gok rfl rfl rfl rfl ?_
  refine load1 (H.bx 1 rfl (j := 0) rfl) ?_
  refine fld gok rfl rfl rfl rfl ?_
  refine load1 (H.bx 0 rfl (j := 0) rfl) ?_
  obtain ⟨a15, e, hF16⟩ := bindS hF; clear hF
  refine arO e ?_; clear e
  obtain ⟨a17, e, hF18⟩ := bindS hF16; clear hF16
  refine arO e ?_; clear e
  refine heldX H [] (.fst 1 (.fst 2 (.fst 5 (.fst 6 (.fst 0 (.fst 4 (.act 3 (.act 7 (.act 8 (.fst 9 .done)))))))))) mixed [] trivial (by kernel_rfl) ?_; clear H; intro w19 H
  have hX : Ext w19 w19 := Upd.refl _ _
  have H0 := H
  refine loadNX [(.int .i64 a__0), (.int .i64 a__1), (.int .i64 a__2), (a__3h).v, (a__4h).v, (a__5h).v, (a__6h).v] rfl (fun j u hj => H.bx 1 rfl hj) ?_
  refine loadNX [(.int .i64 b__0), (.int .i64 b__1), (.int .i64 b__2), (b__3h).v, (b__4h).v, (b__5h).v, (b__6h).v] rfl (fun j u hj => H.bx 0 rfl hj) ?_
  obtain ⟨y20, e, hF21⟩ := bindS hF18; clear hF18
  have ey20 := e; clear e
  refine callFx (impl_StateSpace_markov_c a__0 a__1 a__2 a__3 a__3h a__4 a__4h a__5 a__5h a__6 a__6h p_ a17 y20 ey20) H ⟨Vw.sh 2 rfl, Vw.sh 3 rfl, Vw.sh 4 rfl, Vw.sh 5 rfl, trivial⟩ ?_; clear H ey20
  rintro _ _ w22 ⟨h23, rfl, rfl⟩ hx (H : Cx w0 fp0 S0 w22 [E (List (Int × List (List Int))) y20 h23, Bx b13 [(.int .i64 b__0), (.int .i64 b__1), (.int .i64 b__2), (b__3h).v, (b__4h).v, (b__5h).v, (b__6h).v], Bx b10 [(.int .i64 a__0), (.int .i64 a__1), (.int .i64 a__2), (a__3h).v, (a__4h).v, (a__5h).v, (a__6h).v], Es (List (List Int)) a__3 a__3h, Es (List (List Int)) a__4 a__4h, Es (List (List Int)) a__5 a__5h, Es (List (List Int)) a__6 a__6h, Es (List (List Int)) b__3 b__3h, Es (List (List Int)) b__4 b__4h, Es (List (List Int)) b__5 b__5h, Es (List (List Int)) b__6 b__6h])
  replace hX := hX.trans0 hx; clear hx
  refine hold hX ?_
  obtain ⟨y25, e, hF26⟩ := bindS hF21; clear hF21
  have ey25 := e; clear e
  refine callFx (impl_StateSpace_markov_c b__0 b__1 b__2 b__3 b__3h b__4 b__4h b__5 b__5h b__6 b__6h p_ a17 y25 ey25) H ⟨Vw.sh 7 rfl, Vw.sh 8 rfl, Vw.sh 9 rfl, Vw.sh 10 rfl, trivial⟩ ?_; clear H ey25
  rintro _ _ w27 ⟨h28, rfl, rfl⟩ hx (H : Cx w0 fp0 S0 w27 [E (List (Int × List (List Int))) y25 h28, E (List (Int × List (List Int))) y20 h23, Bx b13 [(.int .i64 b__0), (.int .i64 b__1), (.int .i64 b__2), (b__3h).v, (b__4h).v, (b__5h).v, (b__6h).v], Bx b10 [(.int .i64 a__0), (.int .i64 a__1), (.int .i64 a__2), (a__3h).v, (a__4h).v, (a__5h).v, (a__6h).v], Es (List (List Int)) a__3 a__3h, Es (List (List Int)) a__4 a__4h, Es (List (List Int)) a__5 a__5h, Es (List (List Int)) a__6 a__6h, Es (List (List Int)) b__3 b__3h, Es (List (List Int)) b__4 b__4h, Es (List (List Int)) b__5 b__5h, Es (List (List Int)) b__6 b__6h])
  replace hX := hX.trans0 hx; clear hx
  refine hold hX ?_
  obtain ⟨y30, e, hF31⟩ := bindS hF26; clear hF26
  have ey30 := e; clear e
  refine callFx (slices_EqualFunc_impl_Matrix_impl_Matrix_impl_Matrix_impl_Matrix_impl_equalMatrices_c y20 h23 y25 h28 y30 ey30) H ⟨Vw.own 1 rfl, Vw.own 0 rfl, trivial⟩ ?_; clear H ey30
  rintro _ _ w32 ⟨rfl, rfl⟩ hx (H : Cx w0 fp0 S0 w32 [E (List (Int × List (List Int))) y25 h28, E (List (Int × List (List Int))) y20 h23, Bx b13 [(.int .i64 b__0), (.int .i64 b__1), (.int .i64 b__2), (b__3h).v, (b__4h).v, (b__5h).v, (b__6h).v], Bx b10 [(.int .i64 a__0), (.int .i64 a__1), (.int .i64 a__2), (a__3h).v, (a__4h).v, (a__5h).v, (a__6h).v], Es (List (List Int)) a__3 a__3h, Es (List (List Int)) a__4 a__4h, Es (List (List Int)) a__5 a__5h, Es (List (List Int)) a__6 a__6h, Es (List (List Int)) b__3 b__3h, Es (List (List Int)) b__4 b__4h, Es (List (List Int)) b__5 b__5h, Es (List (List Int)) b__6 b__6h])
  replace hX := hX.trans0 hx; clear hx
  refine hold hX ?_
  cases hF31
  exact ⟨_, _, rfl, ⟨rfl, rfl⟩, (H.sel [] rfl).close trivial⟩

theorem impl_SameOutputs_c (p_ : Int) (a__0 : Int) (a__1 : Int) (a__2 : Int) (a__3 : List (List Int)) (a__3h : Hd) (a__4 : List (List Int)) (a__4h : Hd) (a__5 : List (List Int)) (a__5h : Hd) (a__6 : List (List Int)) (a__6h : Hd) (b__0 : Int) (b__1 : Int) (b__2 : Int) (b__3 : List (List Int)) (b__3h : Hd) (b__4 : List (List Int)) (b__4h : Hd) (b__5 : List (List Int)) (b__5h : Hd) (b__6 : List (List Int)) (b__6h : Hd) (y0 : Bool) (y1 : Bool) (hF : F_impl_SameOutputs p_ (a__0, a__1, a__2, a__3, a__4, a__5, a__6) (b__0, b__1, b__2, b__3, b__4, b__5, b__6) = some (y0, y1)) :
    ConF Tryd.prog 17 #[(.int .i64 p_), (.agg #[(.int .i64 a__0), (.int .i64 a__1), (.int .i64 a__2), (a__3h).v, (a__4h).v, (a__5h).v, (a__6h).v]), (.agg #[(.int .i64 b__0), (.int .i64 b__1), (.int .i64 b__2), (b__3h).v, (b__4h).v, (b__5h).v, (b__6h).v])] [Es (List (List Int)) a__3 a__3h, Es (List (List Int)) a__4 a__4h, Es (List (List Int)) a__5 a__5h, Es (List (List Int)) a__6 a__6h, Es (List (List Int)) b__3 b__3h, Es (List (List Int)) b__4 b__4h, Es (List (List Int)) b__5 b__5h, Es (List (List Int)) b__6 b__6h, Gl 0 [.int .i64 2, .int .i64 3, .int .i64 5, .int .i64 7]] [] (fun v Γ' => v = (.tuple #[(.bool y0), (.bool y1)]) ∧ Γ' = []) := by
  intro w0 S0 fp0 hI hS
  have H : Cx w0 fp0 S0 w0 [Es (List (List Int)) a__3 a__3h, Es (List (List Int)) a__4 a__4h, Es (List (List Int)) a__5 a__5h, Es (List (List Int)) a__6 a__6h, Es (List (List Int)) b__3 b__3h, Es (List (List Int)) b__4 b__4h, Es (List (List Int)) b__5 b__5h, Es (List (List Int)) b__6 b__6h, Gl 0 [.int .i64 2, .int .i64 3, .int .i64 5, .int .i64 7]] := Cx.start hI hS
  clear hI hS
  refine enterC (args := [_, _, _]) gok Tryd.func17 rfl _ rfl rfl rfl ?_
  refine box_ H ?_; clear H; intro b11 w10 hx H
  clear hx
  replace H : Cx w0 fp0 S0 w10 [Bx b11 [(.int .i64 a__0), (.int .i64 a__1), (.int .i64 a__2), (a__3h).v, (a__4h).v, (a__5h).v, (a__6h).v], Es (List (List Int)) a__3 a__3h, Es (List (List Int)) a__4 a__4h, Es (List (List Int)) a__5 a__5h, Es (List (List Int)) a__6 a__6h, Es (List (List Int)) b__3 b__3h, Es (List (List Int)) b__4 b__4h, Es (List (List Int)) b__5 b__5h, Es (List (List Int)) b__6 b__6h, Gl 0 [.int .i64 2, .int .i64 3, .int .i64 5, .int .i64 7]] := H
  refine box_ H ?_; clear H; intro b14 w13 hx H
  clear hx
  replace H : Cx w0 fp0 S0 w13 [Bx b14 [(.int .i64 b__0), (.int .i64 b__1), (.int .i64 b__2), (b__3h).v, (b__4h).v, (b__5h).v, (b__6h).v], Bx b11 [(.int .i64 a__0), (.int .i64 a__1), (.int .i64 a__2), (a__3h).v, (a__4h).v, (a__5h).v, (a__6h).v], Es (List (List Int)) a__3 a__3h, Es (List (List Int)) a__4 a__4h, Es (List (List Int)) a__5 a__5h, Es (List (List Int)) a__6 a__6h, Es (List (List Int)) b__3 b__3h, Es (List (List Int)) b__4 b__4h, Es (List (List Int)) b__5 b__5h, Es (List (List Int)) b__6 b__6h, Gl 0 [.int .i64 2, .int .i64 3, .int .i64 5, .int .i64 7]] := H
  refine sq ?_
  refine loadN [(.int .i64 a__0), (.int .i64 a__1), (.int .i64 a__2), (a__3h).v, (a__4h).v, (a__5h).v, (a__6h).v] rfl (fun j u hj => H.bx 1 rfl hj) ?_
  refine loadN [(.int .i64 b__0), (.int .i64 b__1), (.int .i64 b__2), (b__3h).v, (b__4h).v, (b__5h).v, (b__6h).v] rfl (fun j u hj => H.bx 0 rfl hj) ?_
  obtain ⟨y16, e, hF17⟩ := bindS hF; clear hF
  have ey16 := e; clear e
  refine callF (impl_twoStateSpaces_c p_ a__0 a__1 a__2 a__3 a__3h a__4 a__4h a__5 a__5h a__6 a__6h b__0 b__1 b__2 b__3 b__3h b__4 b__4h b__5 b__5h b__6 b__6h y16 ey16) (Γi := []) H ⟨Vw.sh 2 rfl, Vw.sh 3 rfl, Vw.sh 4 rfl, Vw.sh 5 rfl, Vw.sh 6 rfl, Vw.sh 7 rfl, Vw.sh 8 rfl, Vw.sh 9 rfl, Vw.gl 10 rfl, trivial⟩ ?_; clear H ey16
  rintro _ _ w18 ⟨rfl, rfl⟩ (H : Cx w0 fp0 S0 w18 [Bx b14 [(.int .i64 b__0), (.int .i64 b__1), (.int .i64 b__2), (b__3h).v, (b__4h).v, (b__5h).v, (b__6h).v], Bx b11 [(.int .i64 a__0), (.int .i64 a__1), (.int .i64 a__2), (a__3h).v, (a__4h).v, (a__5h).v, (a__6h).v], Es (List (List Int)) a__3 a__3h, Es (List (List Int)) a__4 a__4h, Es (List (List Int)) a__5 a__5h, Es (List (List Int)) a__6 a__6h, Es (List (List Int)) b__3 b__3h, Es (List (List Int)) b__4 b__4h, Es (List (List Int)) b__5 b__5h, Es (List (List Int)) b__6 b__6h, Gl 0 [.int .i64 2, .int .i64 3, .int .i64 5, .int .i64 7]])
  obtain ⟨a19, e, hF20⟩ := bindS hF17; clear hF17
  refine boolO e ?_; clear e
  cases a19
  · have hF21 := condF hF20; clear hF20
    refine loadN [(.int .i64 a__0), (.int .i64 a__1), (.int .i64 a__2), (a__3h).v, (a__4h).v, (a__5h).v, (a__6h).v] rfl (fun j u hj => H.bx 1 rfl hj) ?_
    refine loadN [(.int .i64 b__0), (.int .i64 b__1), (.int .i64 b__2), (b__3h).v, (b__4h).v, (b__5h).v, (b__6h).v] rfl (fun j u hj => H.bx 0 rfl hj) ?_
    obtain ⟨y22, e, hF23⟩ := bindS hF21; clear hF21
    have ey22 := e; clear e
    refine callF (impl_sameOutputs_c p_ a__0 a__1 a__2 a__3 a__3h a__4 a__4h a__5 a__5h a__6 a__6h b__0 b__1 b__2 b__3 b__3h b__4 b__4h b__5 b__5h b__6 b__6h y22 ey22) (Γi := []) H ⟨Vw.sh 2 rfl, Vw.sh 3 rfl, Vw.sh 4 rfl, Vw.sh 5 rfl, Vw.sh 6 rfl, Vw.sh 7 rfl, Vw.sh 8 rfl, Vw.sh 9 rfl, trivial⟩ ?_; clear H ey22
    rintro _ _ w24 ⟨rfl, rfl⟩ (H : Cx w0 fp0 S0 w24 [Bx b14 [(.int .i64 b__0), (.int .i64 b__1), (.int .i64 b__2), (b__3h).v, (b__4h).v, (b__5h).v, (b__6h).v], Bx b11 [(.int .i64 a__0), (.int .i64 a__1), (.int .i64 a__2), (a__3h).v, (a__4h).v, (a__5h).v, (a__6h).v], Es (List (List Int)) a__3 a__3h, Es (List (List Int)) a__4 a__4h, Es (List (List Int)) a__5 a__5h, Es (List (List Int)) a__6 a__6h, Es (List (List Int)) b__3 b__3h, Es (List (List Int)) b__4 b__4h, Es (List (List Int)) b__5 b__5h, Es (List (List Int)) b__6 b__6h, Gl 0 [.int .i64 2, .int .i64 3, .int .i64 5, .int .i64 7]])
    cases hF23
    exact ⟨_, _, rfl, ⟨rfl, rfl⟩, (H.sel [] rfl).close trivial⟩
  · have hF25 := condT hF20; clear hF20
    cases hF25
    exact ⟨_, _, rfl, ⟨rfl, rfl⟩, (H.sel [] rfl).close trivial⟩

theorem laws_FnExactSameOutputs_c (aP_ : Int) (aA__0 : Int) (aA__1 : Int) (aA__2 : Int) (aA__3 : List (List Int)) (aA__3h : Hd) (aA__4 : List (List Int)) (aA__4h : Hd) (aA__5 : List (List Int)) (aA__5h : Hd) (aA__6 : List (List Int)) (aA__6h : Hd) (aB__0 : Int) (aB__1 : Int) (aB__2 : Int) (aB__3 : List (List Int)) (aB__3h : Hd) (aB__4 : List (List Int)) (aB__4h : Hd) (aB__5 : List (List Int)) (aB__5h : Hd) (aB__6 : List (List Int)) (aB__6h : Hd) (y : Bool) (hF : F_laws_FnExactSameOutputs aP_ (aA__0, aA__1, aA__2, aA__3, aA__4, aA__5, aA__6) (aB__0, aB__1, aB__2, aB__3, aB__4, aB__5, aB__6) = some y) :
    ConF Tryd.prog 3 #[(.int .i64 aP_), (.agg #[(.int .i64 aA__0), (.int .i64 aA__1), (.int .i64 aA__2), (aA__3h).v, (aA__4h).v, (aA__5h).v, (aA__6h).v]), (.agg #[(.int .i64 aB__0), (.int .i64 aB__1), (.int .i64 aB__2), (aB__3h).v, (aB__4h).v, (aB__5h).v, (aB__6h).v])] [Es (List (List Int)) aA__3 aA__3h, Es (List (List Int)) aA__4 aA__4h, Es (List (List Int)) aA__5 aA__5h, Es (List (List Int)) aA__6 aA__6h, Es (List (List Int)) aB__3 aB__3h, Es (List (List Int)) aB__4 aB__4h, Es (List (List Int)) aB__5 aB__5h, Es (List (List Int)) aB__6 aB__6h, Gl 0 [.int .i64 2, .int .i64 3, .int .i64 5, .int .i64 7]] [] (fun v Γ' => v = (.bool y) ∧ Γ' = []) := by
  intro w0 S0 fp0 hI hS
  have H : Cx w0 fp0 S0 w0 [Es (List (List Int)) aA__3 aA__3h, Es (List (List Int)) aA__4 aA__4h, Es (List (List Int)) aA__5 aA__5h, Es (List (List Int)) aA__6 aA__6h, Es (List (List Int)) aB__3 aB__3h, Es (List (List Int)) aB__4 aB__4h, Es (List (List Int)) aB__5 aB__5h, Es (List (List Int)) aB__6 aB__6h, Gl 0 [.int .i64 2, .int .i64 3, .int .i64 5, .int .i64 7]] := Cx.start hI hS
  clear hI hS
  refine enterC (args := [_, _, _]) gok Tryd.func3 rfl _ rfl rfl rfl ?_
  refine box_ H ?_; clear H; intro b11 w10 hx H
  clear hx
  replace H : Cx w0 fp0 S0 w10 [Bx b11 [(.int .i64 aA__0), (.int .i64 aA__1), (.int .i64 aA__2), (aA__3h).v, (aA__4h).v, (aA__5h).v, (aA__6h).v], Es (List (List Int)) aA__3 aA__3h, Es (List (List Int)) aA__4 aA__4h, Es (List (List Int)) aA__5 aA__5h, Es (List (List Int)) aA__6 aA__6h, Es (List (List Int)) aB__3 aB__3h, Es (List (List Int)) aB__4 aB__4h, Es (List (List Int)) aB__5 aB__5h, Es (List (List Int)) aB__6 aB__6h, Gl 0 [.int .i64 2, .int .i64 3, .int .i64 5, .int .i64 7]] := H
  refine box_ H ?_; clear H; intro b14 w13 hx H
  clear hx
  replace H : Cx w0 fp0 S0 w13 [Bx b14 [(.int .i64 aB__0), (.int .i64 aB__1), (.int .i64 aB__2), (aB__3h).v, (aB__4h).v, (aB__5h).v, (aB__6h).v], Bx b11 [(.int .i64 aA__0), (.int .i64 aA__1), (.int .i64 aA__2), (aA__3h).v, (aA__4h).v, (aA__5h).v, (aA__6h).v], Es (List (List Int)) aA__3 aA__3h, Es (List (List Int)) aA__4 aA__4h, Es (List (List Int)) aA__5 aA__5h, Es (List (List Int)) aA__6 aA__6h, Es (List (List Int)) aB__3 aB__3h, Es (List (List Int)) aB__4 aB__4h, Es (List (List Int)) aB__5 aB__5h, Es (List (List Int)) aB__6 aB__6h, Gl 0 [.int .i64 2, .int .i64 3, .int .i64 5, .int .i64 7]] := H
  refine loadN [(.int .i64 aA__0), (.int .i64 aA__1), (.int .i64 aA__2), (aA__3h).v, (aA__4h).v, (aA__5h).v, (aA__6h).v] rfl (fun j u hj => H.bx 1 rfl hj) ?_
  obtain ⟨y16, e, hF17⟩ := bindS hF; clear hF
  have ey16 := e; clear e
  refine callF (laws_szStateSpace_c aA__0 aA__1 aA__2 aA__3 aA__3h aA__4 aA__4h aA__5 aA__5h aA__6 aA__6h 1048576 y16 ey16) (Γi := []) H ⟨Vw.sh 2 rfl, Vw.sh 3 rfl, Vw.sh 4 rfl, Vw.sh 5 rfl, trivial⟩ ?_; clear H ey16
  rintro _ _ w18 ⟨rfl, rfl⟩ (H : Cx w0 fp0 S0 w18 [Bx b14 [(.int .i64 aB__0), (.int .i64 aB__1), (.int .i64 aB__2), (aB__3h).v, (aB__4h).v, (aB__5h).v, (aB__6h).v], Bx b11 [(.int .i64 aA__0), (.int .i64 aA__1), (.int .i64 aA__2), (aA__3h).v, (aA__4h).v, (aA__5h).v, (aA__6h).v], Es (List (List Int)) aA__3 aA__3h, Es (List (List Int)) aA__4 aA__4h, Es (List (List Int)) aA__5 aA__5h, Es (List (List Int)) aA__6 aA__6h, Es (List (List Int)) aB__3 aB__3h, Es (List (List Int)) aB__4 aB__4h, Es (List (List Int)) aB__5 aB__5h, Es (List (List Int)) aB__6 aB__6h, Gl 0 [.int .i64 2, .int .i64 3, .int .i64 5, .int .i64 7]])
  refine sq ?_
  obtain ⟨a19, e, hF20⟩ := bindS hF17; clear hF17
  refine boolO e ?_; clear e
  cases a19
  · have hF21 := condF hF20; clear hF20
    refine loadN [(.int .i64 aB__0), (.int .i64 aB__1), (.int .i64 aB__2), (aB__3h).v, (aB__4h).v, (aB__5h).v, (aB__6h).v] rfl (fun j u hj => H.bx 0 rfl hj) ?_
    obtain ⟨y22, e, hF23⟩ := bindS hF21; clear hF21
    have ey22 := e; clear e
    refine callF (laws_szStateSpace_c aB__0 aB__1 aB__2 aB__3 aB__3h aB__4 aB__4h aB__5 aB__5h aB__6 aB__6h y16 y22 ey22) (Γi := []) H ⟨Vw.sh 6 rfl, Vw.sh 7 rfl, Vw.sh 8 rfl, Vw.sh 9 rfl, trivial⟩ ?_; clear H ey22
    rintro _ _ w24 ⟨rfl, rfl⟩ (H : Cx w0 fp0 S0 w24 [Bx b14 [(.int .i64 aB__0), (.int .i64 aB__1), (.int .i64 aB__2), (aB__3h).v, (aB__4h).v, (aB__5h).v, (aB__6h).v], Bx b11 [(.int .i64 aA__0), (.int .i64 aA__1), (.int .i64 aA__2), (aA__3h).v, (aA__4h).v, (aA__5h).v, (aA__6h).v], Es (List (List Int)) aA__3 aA__3h, Es (List (List Int)) aA__4 aA__4h, Es (List (List Int)) aA__5 aA__5h, Es (List (List Int)) aA__6 aA__6h, Es (List (List Int)) aB__3 aB__3h, Es (List (List Int)) aB__4 aB__4h, Es (List (List Int)) aB__5 aB__5h, Es (List (List Int)) aB__6 aB__6h, Gl 0 [.int .i64 2, .int .i64 3, .int .i64 5, .int .i64 7]])
    refine sq ?_
    obtain ⟨a25, e, hF26⟩ := bindS hF23; clear hF23
    refine boolO e ?_; clear e
    cases a25
    · have hF27 := condF hF26; clear hF26
      refine heldX H [] (.fst 0 (.fst 1 (.fst 3 (.act 2 (.act 4 (.act 5 (.fst 6 (.fst 7 (.fst 8 (.fst 9 (.fst 10 .done))))))))))) mixed [] trivial (by kernel_rfl) ?_; clear H; intro w28 H
      have hX : Ext w28 w28 := Upd.refl _ _
      have H0 := H
      refine loadNX [(.int .i64 aA__0), (.int .i64 aA__1), (.int .i64 aA__2), (aA__3h).v, (aA__4h).v, (aA__5h).v, (aA__6h).v] rfl (fun j u hj => H.bx 1 rfl hj) ?_
      refine loadNX [(.int .i64 aB__0), (.int .i64 aB__1), (.int .i64 aB__2), (aB__3h).v, (aB__4h).v, (aB__5h).v, (aB__6h).v] rfl (fun j u hj => H.bx 0 rfl hj) ?_
      obtain ⟨y29, e, hF30⟩ := bindS hF27; clear hF27
      obtain ⟨y29_0, y29_1, y29_2, y29_3, y29_4, y29_5, y29_6⟩ := y29
      have ey29 := e; clear e
      refine callFx (laws_toStateSpace_c aA__0 aA__1 aA__2 aA__3 aA__3h aA__4 aA__4h aA__5 aA__5h aA__6 aA__6h y29_0 y29_1 y29_2 y29_3 y29_4 y29_5 y29_6 ey29) H ⟨Vw.sh 2 rfl, Vw.sh 3 rfl, Vw.sh 4 rfl, Vw.sh 5 rfl, trivial⟩ ?_; clear H ey29
      rintro _ _ w31 ⟨h32, h34, h36, h38, rfl, rfl⟩ hx (H : Cx w0 fp0 S0 w31 [E (List (List Int)) y29_3 h32, E (List (List Int)) y29_4 h34, E (List (List Int)) y29_5 h36, E (List (List Int)) y29_6 h38, Bx b14 [(.int .i64 aB__0), (.int .i64 aB__1), (.int .i64 aB__2), (aB__3h).v, (aB__4h).v, (aB__5h).v, (aB__6h).v], Bx b11 [(.int .i64 aA__0), (.int .i64 aA__1), (.int .i64 aA__2), (aA__3h).v, (aA__4h).v, (aA__5h).v, (aA__6h).v], Es (List (List Int)) aA__3 aA__3h, Es (List (List Int)) aA__4 aA__4h, Es (List (List Int)) aA__5 aA__5h, Es (List (List Int)) aA__6 aA__6h, Es (List (List Int)) aB__3 aB__3h, Es (List (List Int)) aB__4 aB__4h, Es (List (List Int)) aB__5 aB__5h, Es (List (List Int)) aB__6 aB__6h, Gl 0 [.int .i64 2, .int .i64 3, .int .i64 5, .int .i64 7]])
      replace hX := hX.trans0 hx; clear hx
      refine hold hX ?_
      obtain ⟨y40, e, hF41⟩ := bindS hF30; clear hF30
      obtain ⟨y40_0, y40_1, y40_2, y40_3, y40_4, y40_5, y40_6⟩ := y40
      have ey40 := e; clear e
      refine callFx (laws_toStateSpace_c aB__0 aB__1 aB__2 aB__3 aB__3h aB__4 aB__4h aB__5 aB__5h aB__6 aB__6h y40_0 y40_1 y40_2 y40_3 y40_4 y40_5 y40_6 ey40) H ⟨Vw.sh 10 rfl, Vw.sh 11 rfl, Vw.sh 12 rfl, Vw.sh 13 rfl, trivial⟩ ?_; clear H ey40
      rintro _ _ w42 ⟨h43, h45, h47, h49, rfl, rfl⟩ hx (H : Cx w0 fp0 S0 w42 [E (List (List Int)) y40_3 h43, E (List (List Int)) y40_4 h45, E (List (List Int)) y40_5 h47, E (List (List Int)) y40_6 h49, E (List (List Int)) y29_3 h32, E (List (List Int)) y29_4 h34, E (List (List Int)) y29_5 h36, E (List (List Int)) y29_6 h38, Bx b14 [(.int .i64 aB__0), (.int .i64 aB__1), (.int .i64 aB__2), (aB__3h).v, (aB__4h).v, (aB__5h).v, (aB__6h).v], Bx b11 [(.int .i64 aA__0), (.int .i64 aA__1), (.int .i64 aA__2), (aA__3h).v, (aA__4h).v, (aA__5h).v, (aA__6h).v], Es (List (List Int)) aA__3 aA__3h, Es (List (List Int)) aA__4 aA__4h, Es (List (List Int)) aA__5 aA__5h, Es (List (List Int)) aA__6 aA__6h, Es (List (List Int)) aB__3 aB__3h, Es (List (List Int)) aB__4 aB__4h, Es (List (List Int)) aB__5 aB__5h, Es (List (List Int)) aB__6 aB__6h, Gl 0 [.int .i64 2, .int .i64 3, .int .i64 5, .int .i64 7]])
      replace hX := hX.trans0 hx; clear hx
      refine hold hX ?_
      obtain ⟨y51, e, hF52⟩ := bindS hF41; clear hF41
      obtain ⟨y51_0, y51_1⟩ := y51
      have ey51 := e; clear e
      refine callFx (spec_SameOutputs_c aP_ y29_0 y29_1 y29_2 y29_3 h32 y29_4 h34 y29_5 h36 y29_6 h38 y40_0 y40_1 y40_2 y40_3 h43 y40_4 h45 y40_5 h47 y40_6 h49 y51_0 y51_1 ey51) H ⟨Vw.own 4 rfl, Vw.own 5 rfl, Vw.own 6 rfl, Vw.own 7 rfl, Vw.own 0 rfl, Vw.own 1 rfl, Vw.own 2 rfl, Vw.own 3 rfl, trivial⟩ ?_; clear H ey51
      rintro _ _ w53 ⟨rfl, rfl⟩ hx (H : Cx w0 fp0 S0 w53 [E (List (List Int)) y40_3 h43, E (List (List Int)) y40_4 h45, E (List (List Int)) y40_5 h47, E (List (List Int)) y40_6 h49, E (List (List Int)) y29_3 h32, E (List (List Int)) y29_4 h34, E (List (List Int)) y29_5 h36, E (List (List Int)) y29_6 h38, Bx b14 [(.int .i64 aB__0), (.int .i64 aB__1), (.int .i64 aB__2), (aB__3h).v, (aB__4h).v, (aB__5h).v, (aB__6h).v], Bx b11 [(.int .i64 aA__0), (.int .i64 aA__1), (.int .i64 aA__2), (aA__3h).v, (aA__4h).v, (aA__5h).v, (aA__6h).v], Es (List (List Int)) aA__3 aA__3h, Es (List (List Int)) aA__4 aA__4h, Es (List (List Int)) aA__5 aA__5h, Es (List (List Int)) aA__6 aA__6h, Es (List (List Int)) aB__3 aB__3h, Es (List (List Int)) aB__4 aB__4h, Es (List (List Int)) aB__5 aB__5h, Es (List (List Int)) aB__6 aB__6h, Gl 0 [.int .i64 2, .int .i64 3, .int .i64 5, .int .i64 7]])
      replace hX := hX.trans0 hx; clear hx
      refine hold hX ?_
      refine loadN [(.int .i64 aA__0), (.int .i64 aA__1), (.int .i64 aA__2), (aA__3h).v, (aA__4h).v, (aA__5h).v, (aA__6h).v] rfl (fun j u hj => H.bx 9 rfl hj) ?_
      obtain ⟨y54, e, hF55⟩ := bindS hF52; clear hF52
      obtain ⟨y54_0, y54_1, y54_2, y54_3, y54_4, y54_5, y54_6⟩ := y54
      have ey54 := e; clear e
      refine callF (laws_toStateSpace_c aA__0 aA__1 aA__2 aA__3 aA__3h aA__4 aA__4h aA__5 aA__5h aA__6 aA__6h y54_0 y54_1 y54_2 y54_3 y54_4 y54_5 y54_6 ey54) (Γi := []) H ⟨Vw.sh 10 rfl, Vw.sh 11 rfl, Vw.sh 12 rfl, Vw.sh 13 rfl, trivial⟩ ?_; clear H ey54
      rintro _ _ w56 ⟨h57, h59, h61, h63, rfl, rfl⟩ (H : Cx w0 fp0 S0 w56 [E (List (List Int)) y54_3 h57, E (List (List Int)) y54_4 h59, E (List (List Int)) y54_5 h61, E (List (List Int)) y54_6 h63, E (List (List Int)) y40_3 h43, E (List (List Int)) y40_4 h45, E (List (List Int)) y40_5 h47, E (List (List Int)) y40_6 h49, E (List (List Int)) y29_3 h32, E (List (List Int)) y29_4 h34, E (List (List Int)) y29_5 h36, E (List (List Int)) y29_6 h38, Bx b14 [(.int .i64 aB__0), (.int .i64 aB__1), (.int .i64 aB__2), (aB__3h).v, (aB__4h).v, (aB__5h).v, (aB__6h).v], Bx b11 [(.int .i64 aA__0), (.int .i64 aA__1), (.int .i64 aA__2), (aA__3h).v, (aA__4h).v, (aA__5h).v, (aA__6h).v], Es (List (List Int)) aA__3 aA__3h, Es (List (List Int)) aA__4 aA__4h, Es (List (List Int)) aA__5 aA__5h, Es (List (List Int)) aA__6 aA__6h, Es (List (List Int)) aB__3 aB__3h, Es (List (List Int)) aB__4 aB__4h, Es (List (List Int)) aB__5 aB__5h, Es (List (List Int)) aB__6 aB__6h, Gl 0 [.int .i64 2, .int .i64 3, .int .i64 5, .int .i64 7]])
      refine alloc_ gok rfl H ?_; clear H; intro b66 w65 hx H
      clear hx
      replace H : Cx w0 fp0 S0 w65 [Bx b66 [(.int .i64 0), (.int .i64 0), (.int .i64 0), (.slice none 0 0), (.slice none 0 0), (.slice none 0 0), (.slice none 0 0)], E (List (List Int)) y54_3 h57, E (List (List Int)) y54_4 h59, E (List (List Int)) y54_5 h61, E (List (List Int)) y54_6 h63, E (List (List Int)) y40_3 h43, E (List (List Int)) y40_4 h45, E (List (List Int)) y40_5 h47, E (List (List Int)) y40_6 h49, E (List (List Int)) y29_3 h32, E (List (List Int)) y29_4 h34, E (List (List Int)) y29_5 h36, E (List (List Int)) y29_6 h38, Bx b14 [(.int .i64 aB__0), (.int .i64 aB__1), (.int .i64 aB__2), (aB__3h).v, (aB__4h).v, (aB__5h).v, (aB__6h).v], Bx b11 [(.int .i64 aA__0), (.int .i64 aA__1), (.int .i64 aA__2), (aA__3h).v, (aA__4h).v, (aA__5h).v, (aA__6h).v], Es (List (List Int)) aA__3 aA__3h, Es (List (List Int)) aA__4 aA__4h, Es (List (List Int)) aA__5 aA__5h, Es (List (List Int)) aA__6 aA__6h, Es (List (List Int)) aB__3 aB__3h, Es (List (List Int)) aB__4 aB__4h, Es (List (List Int)) aB__5 aB__5h, Es (List (List Int)) aB__6 aB__6h, Gl 0 [.int .i64 2, .int .i64 3, .int .i64 5, .int .i64 7]] := H
      refine stA gok [(.int .i64 y54_0), (.int .i64 y54_1), (.int .i64 y54_2), (h57).v, (h59).v, (h61).v, (h63).v] rfl H rfl rfl rfl ?_; clear H; intro w68 H
      replace H : Cx w0 fp0 S0 w68 [Bx b66 [(.int .i64 y54_0), (.int .i64 y54_1), (.int .i64 y54_2), (h57).v, (h59).v, (h61).v, (h63).v], E (List (List Int)) y54_3 h57, E (List (List Int)) y54_4 h59, E (List (List Int)) y54_5 h61, E (List (List Int)) y54_6 h63, E (List (List Int)) y40_3 h43, E (List (List Int)) y40_4 h45, E (List (List Int)) y40_5 h47, E (List (List Int)) y40_6 h49, E (List (List Int)) y29_3 h32, E (List (List Int)) y29_4 h34, E (List (List Int)) y29_5 h36, E (List (List Int)) y29_6 h38, Bx b14 [(.int .i64 aB__0), (.int .i64 aB__1), (.int .i64 aB__2), (aB__3h).v, (aB__4h).v, (aB__5h).v, (aB__6h).v], Bx b11 [(.int .i64 aA__0), (.int .i64 aA__1), (.int .i64 aA__2), (aA__3h).v, (aA__4h).v, (aA__5h).v, (aA__6h).v], Es (List (List Int)) aA__3 aA__3h, Es (List (List Int)) aA__4 aA__4h, Es (List (List Int)) aA__5 aA__5h, Es (List (List Int)) aA__6 aA__6h, Es (List (List Int)) aB__3 aB__3h, Es (List (List Int)) aB__4 aB__4h, Es (List (List Int)) aB__5 aB__5h, Es (List (List Int)) aB__6 aB__6h, Gl 0 [.int .i64 2, .int .i64 3, .int .i64 5, .int .i64 7]] := H
      refine loadN [(.int .i64 aB__0), (.int .i64 aB__1), (.int .i64 aB__2), (aB__3h).v, (aB__4h).v, (aB__5h).v, (aB__6h).v] rfl (fun j u hj => H.bx 13 rfl hj) ?_
      obtain ⟨y69, e, hF70⟩ := bindS hF55; clear hF55
      obtain ⟨y69_0, y69_1, y69_2, y69_3, y69_4, y69_5, y69_6⟩ := y69
      have ey69 := e; clear e
      refine callF (laws_toStateSpace_c aB__0 aB__1 aB__2 aB__3 aB__3h aB__4 aB__4h aB__5 aB__5h aB__6 aB__6h y69_0 y69_1 y69_2 y69_3 y69_4 y69_5 y69_6 ey69) (Γi := []) H ⟨Vw.sh 19 rfl, Vw.sh 20 rfl, Vw.sh 21 rfl, Vw.sh 22 rfl, trivial⟩ ?_; clear H ey69
      rintro _ _ w71 ⟨h72, h74, h76, h78, rfl, rfl⟩ (H : Cx w0 fp0 S0 w71 [E (List (List Int)) y69_3 h72, E (List (List Int)) y69_4 h74, E (List (List Int)) y69_5 h76, E (List (List Int)) y69_6 h78, Bx b66 [(.int .i64 y54_0), (.int .i64 y54_1), (.int .i64 y54_2), (h57).v, (h59).v, (h61).v, (h63).v], E (List (List Int)) y54_3 h57, E (List (List Int)) y54_4 h59, E (List (List Int)) y54_5 h61, E (List (List Int)) y54_6 h63, E (List (List Int)) y40_3 h43, E (List (List Int)) y40_4 h45, E (List (List Int)) y40_5 h47, E (List (List Int)) y40_6 h49, E (List (List Int)) y29_3 h32, E (List (List Int)) y29_4 h34, E (List (List Int)) y29_5 h36, E (List (List Int)) y29_6 h38, Bx b14 [(.int .i64 aB__0), (.int .i64 aB__1), (.int .i64 aB__2), (aB__3h).v, (aB__4h).v, (aB__5h).v, (aB__6h).v], Bx b11 [(.int .i64 aA__0), (.int .i64 aA__1), (.int .i64 aA__2), (aA__3h).v, (aA__4h).v, (aA__5h).v, (aA__6h).v], Es (List (List Int)) aA__3 aA__3h, Es (List (List Int)) aA__4 aA__4h, Es (List (List Int)) aA__5 aA__5h, Es (List (List Int)) aA__6 aA__6h, Es (List (List Int)) aB__3 aB__3h, Es (List (List Int)) aB__4 aB__4h, Es (List (List Int)) aB__5 aB__5h, Es (List (List Int)) aB__6 aB__6h, Gl 0 [.int .i64 2, .int .i64 3, .int .i64 5, .int .i64 7]])
      refine alloc_ gok rfl H ?_; clear H; intro b81 w80 hx H
      clear hx
      replace H : Cx w0 fp0 S0 w80 [Bx b81 [(.int .i64 0), (.int .i64 0), (.int .i64 0), (.slice none 0 0), (.slice none 0 0), (.slice none 0 0), (.slice none 0 0)], E (List (List Int)) y69_3 h72, E (List (List Int)) y69_4 h74, E (List (List Int)) y69_5 h76, E (List (List Int)) y69_6 h78, Bx b66 [(.int .i64 y54_0), (.int .i64 y54_1), (.int .i64 y54_2), (h57).v, (h59).v, (h61).v, (h63).v], E (List (List Int)) y54_3 h57, E (List (List Int)) y54_4 h59, E (List (List Int)) y54_5 h61, E (List (List Int)) y54_6 h63, E (List (List Int)) y40_3 h43, E (List (List Int)) y40_4 h45, E (List (List Int)) y40_5 h47, E (List (List Int)) y40_6 h49, E (List (List Int)) y29_3 h32, E (List (List Int)) y29_4 h34, E (List (List Int)) y29_5 h36, E (List (List Int)) y29_6 h38, Bx b14 [(.int .i64 aB__0), (.int .i64 aB__1), (.int .i64 aB__2), (aB__3h).v, (aB__4h).v, (aB__5h).v, (aB__6h).v], Bx b11 [(.int .i64 aA__0), (.int .i64 aA__1), (.int .i64 aA__2), (aA__3h).v, (aA__4h).v, (aA__5h).v, (aA__6h).v], Es (List (List Int)) aA__3 aA__3h, Es (List (List Int)) aA__4 aA__4h, Es (List (List Int)) aA__5 aA__5h, Es (List (List Int)) aA__6 aA__6h, Es (List (List Int)) aB__3 aB__3h, Es (List (List Int)) aB__4 aB__4h, Es (List (List Int)) aB__5 aB__5h, Es (List (List Int)) aB__6 aB__6h, Gl 0 [.int .i64 2, .int .i64 3, .int .i64 5, .int .i64 7]] := H
      refine stA gok [(.int .i64 y69_0), (.int .i64 y69_1), (.int .i64 y69_2), (h72).v, (h74).v, (h76).v, (h78).v] rfl H rfl rfl rfl ?_; clear H; intro w83 H
      replace H : Cx w0 fp0 S0 w83 [Bx b81 [(.int .i64 y69_0), (.int .i64 y69_1), (.int .i64 y69_2), (h72).v, (h74).v, (h76).v, (h78).v], E (List (List Int)) y69_3 h72, E (List (List Int)) y69_4 h74, E (List (List Int)) y69_5 h76, E (List (List Int)) y69_6 h78, Bx b66 [(.int .i64 y54_0), (.int .i64 y54_1), (.int .i64 y54_2), (h57).v, (h59).v, (h61).v, (h63).v], E (List (List Int)) y54_3 h57, E (List (List Int)) y54_4 h59, E (List (List Int)) y54_5 h61, E (List (List Int)) y54_6 h63, E (List (List Int)) y40_3 h43, E (List (List Int)) y40_4 h45, E (List (List Int)) y40_5 h47, E (List (List Int)) y40_6 h49, E (List (List Int)) y29_3 h32, E (List (List Int)) y29_4 h34, E (List (List Int)) y29_5 h36, E (List (List Int)) y29_6 h38, Bx b14 [(.int .i64 aB__0), (.int .i64 aB__1), (.int .i64 aB__2), (aB__3h).v, (aB__4h).v, (aB__5h).v, (aB__6h).v], Bx b11 [(.int .i64 aA__0), (.int .i64 aA__1), (.int .i64 aA__2), (aA__3h).v, (aA__4h).v, (aA__5h).v, (aA__6h).v], Es (List (List Int)) aA__3 aA__3h, Es (List (List Int)) aA__4 aA__4h, Es (List (List Int)) aA__5 aA__5h, Es (List (List Int)) aA__6 aA__6h, Es (List (List Int)) aB__3 aB__3h, Es (List (List Int)) aB__4 aB__4h, Es (List (List Int)) aB__5 aB__5h, Es (List (List Int)) aB__6 aB__6h, Gl 0 [.int .i64 2, .int .i64 3, .int .i64 5, .int .i64 7]] := H
      refine loadN [(.int .i64 y54_0), (.int .i64 y54_1), (.int .i64 y54_2), (h57).v, (h59).v, (h61).v, (h63).v] rfl (fun j u hj => H.bx 5 rfl hj) ?_
      refine loadN [(.int .i64 y69_0), (.int .i64 y69_1), (.int .i64 y69_2), (h72).v, (h74).v, (h76).v, (h78).v] rfl (fun j u hj => H.bx 0 rfl hj) ?_
      obtain ⟨y84, e, hF85⟩ := bindS hF70; clear hF70
      obtain ⟨y84_0, y84_1⟩ := y84
      have ey84 := e; clear e
      refine callF (impl_SameOutputs_c aP_ y54_0 y54_1 y54_2 y54_3 h57 y54_4 h59 y54_5 h61 y54_6 h63 y69_0 y69_1 y69_2 y69_3 h72 y69_4 h74 y69_5 h76 y69_6 h78 y84_0 y84_1 ey84) (Γi := []) H ⟨Vw.own 6 rfl, Vw.own 7 rfl, Vw.own 8 rfl, Vw.own 9 rfl, Vw.own 1 rfl, Vw.own 2 rfl, Vw.own 3 rfl, Vw.own 4 rfl, Vw.gl 28 rfl, trivial⟩ ?_; clear H ey84
      rintro _ _ w86 ⟨rfl, rfl⟩ (H : Cx w0 fp0 S0 w86 [Bx b81 [(.int .i64 y69_0), (.int .i64 y69_1), (.int .i64 y69_2), (h72).v, (h74).v, (h76).v, (h78).v], E (List (List Int)) y69_3 h72, E (List (List Int)) y69_4 h74, E (List (List Int)) y69_5 h76, E (List (List Int)) y69_6 h78, Bx b66 [(.int .i64 y54_0), (.int .i64 y54_1), (.int .i64 y54_2), (h57).v, (h59).v, (h61).v, (h63).v], E (List (List Int)) y54_3 h57, E (List (List Int)) y54_4 h59, E (List (List Int)) y54_5 h61, E (List (List Int)) y54_6 h63, E (List (List Int)) y40_3 h43, E (List (List Int)) y40_4 h45, E (List (List Int)) y40_5 h47, E (List (List Int)) y40_6 h49, E (List (List Int)) y29_3 h32, E (List (List Int)) y29_4 h34, E (List (List Int)) y29_5 h36, E (List (List Int)) y29_6 h38, Bx b14 [(.int .i64 aB__0), (.int .i64 aB__1), (.int .i64 aB__2), (aB__3h).v, (aB__4h).v, (aB__5h).v, (aB__6h).v], Bx b11 [(.int .i64 aA__0), (.int .i64 aA__1), (.int .i64 aA__2), (aA__3h).v, (aA__4h).v, (aA__5h).v, (aA__6h).v], Es (List (List Int)) aA__3 aA__3h, Es (List (List Int)) aA__4 aA__4h, Es (List (List Int)) aA__5 aA__5h, Es (List (List Int)) aA__6 aA__6h, Es (List (List Int)) aB__3 aB__3h, Es (List (List Int)) aB__4 aB__4h, Es (List (List Int)) aB__5 aB__5h, Es (List (List Int)) aB__6 aB__6h, Gl 0 [.int .i64 2, .int .i64 3, .int .i64 5, .int .i64 7]])
      refine sq ?_
      obtain ⟨r95, hF97, hF96⟩ := bindS hF85; clear hF85
      refine cut (fun (q98 : Bool) => [(4, (.pointer (some ⟨b11, 0, none⟩))), (5, (.pointer (some ⟨b14, 0, none⟩))), (10, (.pointer (some ⟨b66, 0, none⟩))), (11, (.pointer (some ⟨b81, 0, none⟩))), (51, (.bool q98))]) (fun (q98 : Bool) w' => q98 = r95 ∧ Cx w0 fp0 S0 w' [Bx b11 [(.int .i64 aA__0), (.int .i64 aA__1), (.int .i64 aA__2), (aA__3h).v, (aA__4h).v, (aA__5h).v, (aA__6h).v], Es (List (List Int)) aA__3 aA__3h, Es (List (List Int)) aA__4 aA__4h, Es (List (List Int)) aA__5 aA__5h, Es (List (List Int)) aA__6 aA__6h, Bx b14 [(.int .i64 aB__0), (.int .i64 aB__1), (.int .i64 aB__2), (aB__3h).v, (aB__4h).v, (aB__5h).v, (aB__6h).v], Es (List (List Int)) aB__3 aB__3h, Es (List (List Int)) aB__4 aB__4h, Es (List (List Int)) aB__5 aB__5h, Es (List (List Int)) aB__6 aB__6h, Bx b66 [(.int .i64 y54_0), (.int .i64 y54_1), (.int .i64 y54_2), (h57).v, (h59).v, (h61).v, (h63).v], E (List (List Int)) y54_3 h57, E (List (List Int)) y54_4 h59, E (List (List Int)) y54_5 h61, E (List (List Int)) y54_6 h63, Bx b81 [(.int .i64 y69_0), (.int .i64 y69_1), (.int .i64 y69_2), (h72).v, (h74).v, (h76).v, (h78).v], E (List (List Int)) y69_3 h72, E (List (List Int)) y69_4 h74, E (List (List Int)) y69_5 h76, E (List (List Int)) y69_6 h78, Gl 0 [.int .i64 2, .int .i64 3, .int .i64 5, .int .i64 7]]) ?_ ?_
      · skip
        obtain ⟨a99, e, hF100⟩ := bindS hF97; clear hF97
        refine boolO e ?_; clear e
        cases a99
        · have hF101 := condF hF100; clear hF100
          obtain ⟨a102, e, hF103⟩ := bindS hF101; clear hF101
          refine boolO e ?_; clear e
          exact ⟨a102, ⟨rfl, rfl, rfl, rfl, rfl, trivial⟩, Option.some.inj hF103, H.sel [19, 20, 21, 22, 23, 18, 24, 25, 26, 27, 5, 6, 7, 8, 9, 0, 1, 2, 3, 4, 28] rfl⟩
        · have hF104 := condT hF100; clear hF100
          exact ⟨true, ⟨rfl, rfl, rfl, rfl, rfl, trivial⟩, Option.some.inj hF104, H.sel [19, 20, 21, 22, 23, 18, 24, 25, 26, 27, 5, 6, 7, 8, 9, 0, 1, 2, 3, 4, 28] rfl⟩
      · clear hF97 H
        rintro T106 s93 w105 ⟨hr, (H : Cx w0 fp0 S0 w105 [Bx b11 [(.int .i64 aA__0), (.int .i64 aA__1), (.int .i64 aA__2), (aA__3h).v, (aA__4h).v, (aA__5h).v, (aA__6h).v], Es (List (List Int)) aA__3 aA__3h, Es (List (List Int)) aA__4 aA__4h, Es (List (List Int)) aA__5 aA__5h, Es (List (List Int)) aA__6 aA__6h, Bx b14 [(.int .i64 aB__0), (.int .i64 aB__1), (.int .i64 aB__2), (aB__3h).v, (aB__4h).v, (aB__5h).v, (aB__6h).v], Es (List (List Int)) aB__3 aB__3h, Es (List (List Int)) aB__4 aB__4h, Es (List (List Int)) aB__5 aB__5h, Es (List (List Int)) aB__6 aB__6h, Bx b66 [(.int .i64 y54_0), (.int .i64 y54_1), (.int .i64 y54_2), (h57).v, (h59).v, (h61).v, (h63).v], E (List (List Int)) y54_3 h57, E (List (List Int)) y54_4 h59, E (List (List Int)) y54_5 h61, E (List (List Int)) y54_6 h63, Bx b81 [(.int .i64 y69_0), (.int .i64 y69_1), (.int .i64 y69_2), (h72).v, (h74).v, (h76).v, (h78).v], E (List (List Int)) y69_3 h72, E (List (List Int)) y69_4 h74, E (List (List Int)) y69_5 h76, E (List (List Int)) y69_6 h78, Gl 0 [.int .i64 2, .int .i64 3, .int .i64 5, .int .i64 7]])⟩
        subst hr
        cases s93
        · have hF107 := condF hF96; clear hF96
          refine sq ?_
          refine heldX H [] (.fst 0 (.fst 1 (.act 2 (.act 3 (.fst 4 .done))))) mixed [] trivial (by kernel_rfl) ?_; clear H; intro w108 H
          have hX : Ext w108 w108 := Upd.refl _ _
          have H0 := H
          refine loadNX [(.int .i64 y54_0), (.int .i64 y54_1), (.int .i64 y54_2), (h57).v, (h59).v, (h61).v, (h63).v] rfl (fun j u hj => H.bx 10 rfl hj) ?_
          refine loadNX [(.int .i64 aA__0), (.int .i64 aA__1), (.int .i64 aA__2), (aA__3h).v, (aA__4h).v, (aA__5h).v, (aA__6h).v] rfl (fun j u hj => H.bx 0 rfl hj) ?_
          obtain ⟨y109, e, hF110⟩ := bindS hF107; clear hF107
          obtain ⟨y109_0, y109_1, y109_2, y109_3, y109_4, y109_5, y109_6⟩ := y109
          have ey109 := e; clear e
          refine callFx (laws_toStateSpace_c aA__0 aA__1 aA__2 aA__3 aA__3h aA__4 aA__4h aA__5 aA__5h aA__6 aA__6h y109_0 y109_1 y109_2 y109_3 y109_4 y109_5 y109_6 ey109) H ⟨Vw.sh 1 rfl, Vw.sh 2 rfl, Vw.sh 3 rfl, Vw.sh 4 rfl, trivial⟩ ?_; clear H ey109
          rintro _ _ w111 ⟨h112, h114, h116, h118, rfl, rfl⟩ hx (H : Cx w0 fp0 S0 w111 [E (List (List Int)) y109_3 h112, E (List (List Int)) y109_4 h114, E (List (List Int)) y109_5 h116, E (List (List Int)) y109_6 h118, Bx b11 [(.int .i64 aA__0), (.int .i64 aA__1), (.int .i64 aA__2), (aA__3h).v, (aA__4h).v, (aA__5h).v, (aA__6h).v], Es (List (List Int)) aA__3 aA__3h, Es (List (List Int)) aA__4 aA__4h, Es (List (List Int)) aA__5 aA__5h, Es (List (List Int)) aA__6 aA__6h, Bx b14 [(.int .i64 aB__0), (.int .i64 aB__1), (.int .i64 aB__2), (aB__3h).v, (aB__4h).v, (aB__5h).v, (aB__6h).v], Es (List (List Int)) aB__3 aB__3h, Es (List (List Int)) aB__4 aB__4h, Es (List (List Int)) aB__5 aB__5h, Es (List (List Int)) aB__6 aB__6h, Bx b66 [(.int .i64 y54_0), (.int .i64 y54_1), (.int .i64 y54_2), (h57).v, (h59).v, (h61).v, (h63).v], E (List (List Int)) y54_3 h57, E (List (List Int)) y54_4 h59, E (List (List Int)) y54_5 h61, E (List (List Int)) y54_6 h63, Bx b81 [(.int .i64 y69_0), (.int .i64 y69_1), (.int .i64 y69_2), (h72).v, (h74).v, (h76).v, (h78).v], E (List (List Int)) y69_3 h72, E (List (List Int)) y69_4 h74, E (List (List Int)) y69_5 h76, E (List (List Int)) y69_6 h78, Gl 0 [.int .i64 2, .int .i64 3, .int .i64 5, .int .i64 7]])
          replace hX := hX.trans0 hx; clear hx
          refine hold hX ?_
          obtain ⟨y120, e, hF121⟩ := bindS hF110; clear hF110
          have ey120 := e; clear e
          refine callFx (laws_eqStateSpace_c y54_0 y54_1 y54_2 y54_3 h57 y54_4 h59 y54_5 h61 y54_6 h63 y109_0 y109_1 y109_2 y109_3 h112 y109_4 h114 y109_5 h116 y109_6 h118 y120 ey120) H ⟨Vw.own 15 rfl, Vw.own 16 rfl, Vw.own 17 rfl, Vw.own 18 rfl, Vw.own 0 rfl, Vw.own 1 rfl, Vw.own 2 rfl, Vw.own 3 rfl, trivial⟩ ?_; clear H ey120
          rintro _ _ w122 ⟨rfl, rfl⟩ hx (H : Cx w0 fp0 S0 w122 [E (List (List Int)) y109_3 h112, E (List (List Int)) y109_4 h114, E (List (List Int)) y109_5 h116, E (List (List Int)) y109_6 h118, Bx b11 [(.int .i64 aA__0), (.int .i64 aA__1), (.int .i64 aA__2), (aA__3h).v, (aA__4h).v, (aA__5h).v, (aA__6h).v], Es (List (List Int)) aA__3 aA__3h, Es (List (List Int)) aA__4 aA__4h, Es (List (List Int)) aA__5 aA__5h, Es (List (List Int)) aA__6 aA__6h, Bx b14 [(.int .i64 aB__0), (.int .i64 aB__1), (.int .i64 aB__2), (aB__3h).v, (aB__4h).v, (aB__5h).v, (aB__6h).v], Es (List (List Int)) aB__3 aB__3h, Es (List (List Int)) aB__4 aB__4h, Es (List (List Int)) aB__5 aB__5h, Es (List (List Int)) aB__6 aB__6h, Bx b66 [(.int .i64 y54_0), (.int .i64 y54_1), (.int .i64 y54_2), (h57).v, (h59).v, (h61).v, (h63).v], E (List (List Int)) y54_3 h57, E (List (List Int)) y54_4 h59, E (List (List Int)) y54_5 h61, E (List (List Int)) y54_6 h63, Bx b81 [(.int .i64 y69_0), (.int .i64 y69_1), (.int .i64 y69_2), (h72).v, (h74).v, (h76).v, (h78).v], E (List (List Int)) y69_3 h72, E (List (List Int)) y69_4 h74, E (List (List Int)) y69_5 h76, E (List (List Int)) y69_6 h78, Gl 0 [.int .i64 2, .int .i64 3, .int .i64 5, .int .i64 7]])
          replace hX := hX.trans0 hx; clear hx
          refine hold hX ?_
          obtain ⟨a123, e, hF124⟩ := bindS hF121; clear hF121
          refine boolO e ?_; clear e
          cases a123
          · have hF125 := condF hF124; clear hF124
            refine sq ?_
            refine heldX H [] (.fst 0 (.fst 1 (.act 2 (.act 3 (.fst 4 .done))))) mixed [] trivial (by kernel_rfl) ?_; clear H; intro w126 H
            have hX : Ext w126 w126 := Upd.refl _ _
            have H0 := H
            refine loadNX [(.int .i64 y69_0), (.int .i64 y69_1), (.int .i64 y69_2), (h72).v, (h74).v, (h76).v, (h78).v] rfl (fun j u hj => H.bx 19 rfl hj) ?_
            refine loadNX [(.int .i64 aB__0), (.int .i64 aB__1), (.int .i64 aB__2), (aB__3h).v, (aB__4h).v, (aB__5h).v, (aB__6h).v] rfl (fun j u hj => H.bx 9 rfl hj) ?_
            obtain ⟨y127, e, hF128⟩ := bindS hF125; clear hF125
            obtain ⟨y127_0, y127_1, y127_2, y127_3, y127_4, y127_5, y127_6⟩ := y127
            have ey127 := e; clear e
            refine callFx (laws_toStateSpace_c aB__0 aB__1 aB__2 aB__3 aB__3h aB__4 aB__4h aB__5 aB__5h aB__6 aB__6h y127_0 y127_1 y127_2 y127_3 y127_4 y127_5 y127_6 ey127) H ⟨Vw.sh 10 rfl, Vw.sh 11 rfl, Vw.sh 12 rfl, Vw.sh 13 rfl, trivial⟩ ?_; clear H ey127
            rintro _ _ w129 ⟨h130, h132, h134, h136, rfl, rfl⟩ hx (H : Cx w0 fp0 S0 w129 [E (List (List Int)) y127_3 h130, E (List (List Int)) y127_4 h132, E (List (List Int)) y127_5 h134, E (List (List Int)) y127_6 h136, E (List (List Int)) y109_3 h112, E (List (List Int)) y109_4 h114, E (List (List Int)) y109_5 h116, E (List (List Int)) y109_6 h118, Bx b11 [(.int .i64 aA__0), (.int .i64 aA__1), (.int .i64 aA__2), (aA__3h).v, (aA__4h).v, (aA__5h).v, (aA__6h).v], Es (List (List Int)) aA__3 aA__3h, Es (List (List Int)) aA__4 aA__4h, Es (List (List Int)) aA__5 aA__5h, Es (List (List Int)) aA__6 aA__6h, Bx b14 [(.int .i64 aB__0), (.int .i64 aB__1), (.int .i64 aB__2), (aB__3h).v, (aB__4h).v, (aB__5h).v, (aB__6h).v], Es (List (List Int)) aB__3 aB__3h, Es (List (List Int)) aB__4 aB__4h, Es (List (List Int)) aB__5 aB__5h, Es (List (List Int)) aB__6 aB__6h, Bx b66 [(.int .i64 y54_0), (.int .i64 y54_1), (.int .i64 y54_2), (h57).v, (h59).v, (h61).v, (h63).v], E (List (List Int)) y54_3 h57, E (List (List Int)) y54_4 h59, E (List (List Int)) y54_5 h61, E (List (List Int)) y54_6 h63, Bx b81 [(.int .i64 y69_0), (.int .i64 y69_1), (.int .i64 y69_2), (h72).v, (h74).v, (h76).v, (h78).v], E (List (List Int)) y69_3 h72, E (List (List Int)) y69_4 h74, E (List (List Int)) y69_5 h76, E (List (List Int)) y69_6 h78, Gl 0 [.int .i64 2, .int .i64 3, .int .i64 5, .int .i64 7]])
            replace hX := hX.trans0 hx; clear hx
            refine hold hX ?_
            obtain ⟨y138, e, hF139⟩ := bindS hF128; clear hF128
            have ey138 := e; clear e
            refine callFx (laws_eqStateSpace_c y69_0 y69_1 y69_2 y69_3 h72 y69_4 h74 y69_5 h76 y69_6 h78 y127_0 y127_1 y127_2 y127_3 h130 y127_4 h132 y127_5 h134 y127_6 h136 y138 ey138) H ⟨Vw.own 24 rfl, Vw.own 25 rfl, Vw.own 26 rfl, Vw.own 27 rfl, Vw.own 0 rfl, Vw.own 1 rfl, Vw.own 2 rfl, Vw.own 3 rfl, trivial⟩ ?_; clear H ey138
            rintro _ _ w140 ⟨rfl, rfl⟩ hx (H : Cx w0 fp0 S0 w140 [E (List (List Int)) y127_3 h130, E (List (List Int)) y127_4 h132, E (List (List Int)) y127_5 h134, E (List (List Int)) y127_6 h136, E (List (List Int)) y109_3 h112, E (List (List Int)) y109_4 h114, E (List (List Int)) y109_5 h116, E (List (List Int)) y109_6 h118, Bx b11 [(.int .i64 aA__0), (.int .i64 aA__1), (.int .i64 aA__2), (aA__3h).v, (aA__4h).v, (aA__5h).v, (aA__6h).v], Es (List (List Int)) aA__3 aA__3h, Es (List (List Int)) aA__4 aA__4h, Es (List (List Int)) aA__5 aA__5h, Es (List (List Int)) aA__6 aA__6h, Bx b14 [(.int .i64 aB__0), (.int .i64 aB__1), (.int .i64 aB__2), (aB__3h).v, (aB__4h).v, (aB__5h).v, (aB__6h).v], Es (List (List Int)) aB__3 aB__3h, Es (List (List Int)) aB__4 aB__4h, Es (List (List Int)) aB__5 aB__5h, Es (List (List Int)) aB__6 aB__6h, Bx b66 [(.int .i64 y54_0), (.int .i64 y54_1), (.int .i64 y54_2), (h57).v, (h59).v, (h61).v, (h63).v], E (List (List Int)) y54_3 h57, E (List (List Int)) y54_4 h59, E (List (List Int)) y54_5 h61, E (List (List Int)) y54_6 h63, Bx b81 [(.int .i64 y69_0), (.int .i64 y69_1), (.int .i64 y69_2), (h72).v, (h74).v, (h76).v, (h78).v], E (List (List Int)) y69_3 h72, E (List (List Int)) y69_4 h74, E (List (List Int)) y69_5 h76, E (List (List Int)) y69_6 h78, Gl 0 [.int .i64 2, .int .i64 3, .int .i64 5, .int .i64 7]])
            replace hX := hX.trans0 hx; clear hx
            refine hold hX ?_
            obtain ⟨a141, e, hF142⟩ := bindS hF139; clear hF139
            refine boolO e ?_; clear e
            cases a141
            · have hF143 := condF hF142; clear hF142
              cases hF143
              exact ⟨_, _, rfl, ⟨rfl, rfl⟩, (H.sel [] rfl).close trivial⟩
            · have hF144 := condT hF142; clear hF142
              cases hF144
              exact ⟨_, _, rfl, ⟨rfl, rfl⟩, (H.sel [] rfl).close trivial⟩
          · have hF145 := condT hF124; clear hF124
            cases hF145
            exact ⟨_, _, rfl, ⟨rfl, rfl⟩, (H.sel [] rfl).close trivial⟩
        · have hF146 := condT hF96; clear hF96
          cases hF146
          exact ⟨_, _, rfl, ⟨rfl, rfl⟩, (H.sel [] rfl).close trivial⟩
    · have hF147 := condT hF26; clear hF26
      cases hF147
      exact ⟨_, _, rfl, ⟨rfl, rfl⟩, (H.sel [] rfl).close trivial⟩
  · have hF148 := condT hF20; clear hF20
    cases hF148
    exact ⟨_, _, rfl, ⟨rfl, rfl⟩, (H.sel [] rfl).close trivial⟩
end Go.Proofs.YtnlbhdepagkjgaaDoor
