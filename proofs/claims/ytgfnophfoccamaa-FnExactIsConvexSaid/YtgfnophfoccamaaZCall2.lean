/-
  Contracts, printed by a program (wip/y/gen.py): each function of Go computes its partial function. Condition of each: its partial function yields a value.
-/
import Derived.Test.YtgfnophfoccamaaZCall
namespace Go.Proofs.Ytgfnophfoccamaa
open Go Go.Proofs.Ytgfnophfoccamaa.RW
set_option maxRecDepth 100000
set_option linter.unusedVariables false

theorem impl_Graph_isGraph_c (g__0 : Int) (g__1 : List (Int × Int × List Int × List Int)) (g__1h : Hd) (g__2 : List Int) (g__2h : Hd) (g__3 : List Int) (g__3h : Hd) (y : Bool) (hF : F_impl_Graph_isGraph (g__0, g__1, g__2, g__3) = some y) :
    ConF Try.prog 45 #[(.agg #[(.int .i64 g__0), (g__1h).v, (g__2h).v, (g__3h).v])] [Es (List (Int × Int × List Int × List Int)) g__1 g__1h, Es (List Int) g__2 g__2h, Es (List Int) g__3 g__3h] [] (fun v Γ' => v = (.bool y) ∧ Γ' = []) := by
  intro w0 S0 fp0 hI hS
  have H : Cx w0 fp0 S0 w0 [Es (List (Int × Int × List Int × List Int)) g__1 g__1h, Es (List Int) g__2 g__2h, Es (List Int) g__3 g__3h] := Cx.start hI hS
  clear hI hS
  refine enterC (args := [_]) gok Try.func45 rfl _ rfl rfl rfl ?_
  refine box_ H ?_; clear H; intro b5 w4 hx H
  clear hx
  replace H : Cx w0 fp0 S0 w4 [Bx b5 [(.int .i64 g__0), (g__1h).v, (g__2h).v, (g__3h).v], Es (List (Int × Int × List Int × List Int)) g__1 g__1h, Es (List Int) g__2 g__2h, Es (List Int) g__3 g__3h] := H
  refine sq ?_
  obtain ⟨r26, hF28, hF27⟩ := bindS hF; clear hF
  refine cut (fun (q29 : Bool) => [(1, (.pointer (some ⟨b5, 0, none⟩))), (29, (.bool q29))]) (fun (q29 : Bool) w' => q29 = r26 ∧ Cx w0 fp0 S0 w' [Bx b5 [(.int .i64 g__0), (g__1h).v, (g__2h).v, (g__3h).v], Es (List (Int × Int × List Int × List Int)) g__1 g__1h, Es (List Int) g__2 g__2h, Es (List Int) g__3 g__3h]) ?_ ?_
  · skip
    refine fld gok rfl rfl rfl rfl ?_
    refine load1 (H.bx 0 rfl (j := 0) rfl) ?_
    obtain ⟨y30, e, hF31⟩ := bindS hF28; clear hF28
    have ey30 := e; clear e
    refine callF (impl_within_c g__0 0 100 y30 ey30) (Γi := []) H trivial ?_; clear H ey30
    rintro _ _ w32 ⟨rfl, rfl⟩ (H : Cx w0 fp0 S0 w32 [Bx b5 [(.int .i64 g__0), (g__1h).v, (g__2h).v, (g__3h).v], Es (List (Int × Int × List Int × List Int)) g__1 g__1h, Es (List Int) g__2 g__2h, Es (List Int) g__3 g__3h])
    obtain ⟨a33, e, hF34⟩ := bindS hF31; clear hF31
    refine boolO e ?_; clear e
    cases a33
    · have hF35 := condF hF34; clear hF34
      refine fld gok rfl rfl rfl rfl ?_
      refine load1 (H.bx 0 rfl (j := 1) rfl) ?_
      refine lenE (H.rs (α := List (Int × Int × List Int × List Int)) 1 rfl).len ?_
      obtain ⟨a36, e, hF37⟩ := bindS hF35; clear hF35
      refine boolO e ?_; clear e
      cases a36
      · have hF38 := condF hF37; clear hF37
        refine fld gok rfl rfl rfl rfl ?_
        refine load1 (H.bx 0 rfl (j := 2) rfl) ?_
        refine lenE (H.rs (α := List Int) 2 rfl).len ?_
        obtain ⟨a39, e, hF40⟩ := bindS hF38; clear hF38
        refine boolO e ?_; clear e
        cases a39
        · have hF41 := condF hF40; clear hF40
          refine fld gok rfl rfl rfl rfl ?_
          refine load1 (H.bx 0 rfl (j := 3) rfl) ?_
          refine lenE (H.rs (α := List Int) 3 rfl).len ?_
          obtain ⟨a42, e, hF43⟩ := bindS hF41; clear hF41
          refine boolO e ?_; clear e
          exact ⟨a42, ⟨rfl, rfl, trivial⟩, Option.some.inj hF43, H.sel [0, 1, 2, 3] rfl⟩
        · have hF44 := condT hF40; clear hF40
          exact ⟨true, ⟨rfl, rfl, trivial⟩, Option.some.inj hF44, H.sel [0, 1, 2, 3] rfl⟩
      · have hF45 := condT hF37; clear hF37
        exact ⟨true, ⟨rfl, rfl, trivial⟩, Option.some.inj hF45, H.sel [0, 1, 2, 3] rfl⟩
    · have hF46 := condT hF34; clear hF34
      exact ⟨true, ⟨rfl, rfl, trivial⟩, Option.some.inj hF46, H.sel [0, 1, 2, 3] rfl⟩
  · clear hF28 H
    rintro T48 s24 w47 ⟨hr, (H : Cx w0 fp0 S0 w47 [Bx b5 [(.int .i64 g__0), (g__1h).v, (g__2h).v, (g__3h).v], Es (List (Int × Int × List Int × List Int)) g__1 g__1h, Es (List Int) g__2 g__2h, Es (List Int) g__3 g__3h])⟩
    subst hr
    cases s24
    · have hF49 := condF hF27; clear hF27
      refine sq ?_
      refine fld gok rfl rfl rfl rfl ?_
      refine load1 (H.bx 0 rfl (j := 1) rfl) ?_
      refine lenE (H.rs (α := List (Int × Int × List Int × List Int)) 1 rfl).len ?_
      have hmx80 := (H.rs (α := List (Int × Int × List Int × List Int)) 1 rfl).max
      obtain ⟨r81, e, hF82⟩ := bindS hF49; clear hF49
      refine loopO _ g__1.length (fun (k50 : Nat) (_ : Unit) (_ : Unit) => [(1, (.pointer (some ⟨b5, 0, none⟩))), (31, (g__1h).v), (32, (.int .i64 ((g__1.length : Nat) : Int))), (33, (.int .i64 ((k50 : Nat) : Int)))]) (fun _ (_ : Unit) (_ : Unit) w' => Cx w0 fp0 S0 w' [Bx b5 [(.int .i64 g__0), (g__1h).v, (g__2h).v, (g__3h).v], Es (List (Int × Int × List Int × List Int)) g__1 g__1h, Es (List Int) g__2 g__2h, Es (List Int) g__3 g__3h]) () () e ⟨rfl, rfl, rfl, rfl, trivial⟩ (H.sel [0, 1, 2, 3] rfl) ?_ ?_
      · clear H e
        rintro T84 k50 _ _ w83 o85 hk (H : Cx w0 fp0 S0 w83 [Bx b5 [(.int .i64 g__0), (g__1h).v, (g__2h).v, (g__3h).v], Es (List (Int × Int × List Int × List Int)) g__1 g__1h, Es (List Int) g__2 g__2h, Es (List Int) g__3 g__3h]) hrt hF86
        refine boolE (z := true) (ltLen hk) ?_
        refine sq ?_
        refine sq ?_
        obtain ⟨a93, e, hF94⟩ := bindS hF86; clear hF86
        have HH := H; clear H; obtain ⟨p91, m92, g95, c87, c88, c89, c90, H⟩ := HH.el (α := Int × Int × List Int × List Int) 1 rfl e; clear HH
        clear e
        obtain ⟨a93_0, a93_1, a93_2, a93_3⟩ := a93
        obtain ⟨_, _, h97, h98⟩ := g95
        replace H := H.part (β := List Int) a93_2 (h97 : Hd) 0 rfl (fun S h => (And.left (And.right (And.right h))))
        replace H := H.part (β := List Int) a93_3 (h98 : Hd) 1 rfl (fun S h => (And.right (And.right (And.right h))))
        replace H := H.sel [0, 1, 3, 4, 5, 6] rfl
        refine idxE c87 c88 c89 ?_; clear c87 c88 c89
        refine loadN [(.int .i64 a93_0), (.int .i64 a93_1), (h97).v, (h98).v] rfl c90 ?_; clear c90
        refine alloc_ gok rfl H ?_; clear H; intro b102 w101 hx H
        clear hx
        replace H : Cx w0 fp0 S0 w101 [Bx b102 [(.int .i64 0), (.int .i64 0), (.slice none 0 0), (.slice none 0 0)], Es (List Int) a93_3 h98, Es (List Int) a93_2 h97, Bx b5 [(.int .i64 g__0), (g__1h).v, (g__2h).v, (g__3h).v], Es (List (Int × Int × List Int × List Int)) g__1 g__1h, Es (List Int) g__2 g__2h, Es (List Int) g__3 g__3h] := H
        refine stA gok [(.int .i64 a93_0), (.int .i64 a93_1), (h97).v, (h98).v] rfl H rfl rfl rfl ?_; clear H; intro w104 H
        replace H : Cx w0 fp0 S0 w104 [Bx b102 [(.int .i64 a93_0), (.int .i64 a93_1), (h97).v, (h98).v], Es (List Int) a93_3 h98, Es (List Int) a93_2 h97, Bx b5 [(.int .i64 g__0), (g__1h).v, (g__2h).v, (g__3h).v], Es (List (Int × Int × List Int × List Int)) g__1 g__1h, Es (List Int) g__2 g__2h, Es (List Int) g__3 g__3h] := H
        refine loadN [(.int .i64 a93_0), (.int .i64 a93_1), (h97).v, (h98).v] rfl (fun j u hj => H.bx 0 rfl hj) ?_
        obtain ⟨y105, e, hF106⟩ := bindS hF94; clear hF94
        have ey105 := e; clear e
        refine callF (impl_Edge_isEdge_c a93_0 a93_1 a93_2 h97 a93_3 h98 y105 ey105) (Γi := []) H ⟨Vw.sh 2 rfl, Vw.sh 1 rfl, trivial⟩ ?_; clear H ey105
        rintro _ _ w107 ⟨rfl, rfl⟩ (H : Cx w0 fp0 S0 w107 [Bx b102 [(.int .i64 a93_0), (.int .i64 a93_1), (h97).v, (h98).v], Es (List Int) a93_3 h98, Es (List Int) a93_2 h97, Bx b5 [(.int .i64 g__0), (g__1h).v, (g__2h).v, (g__3h).v], Es (List (Int × Int × List Int × List Int)) g__1 g__1h, Es (List Int) g__2 g__2h, Es (List Int) g__3 g__3h])
        obtain ⟨a108, e, hF109⟩ := bindS hF106; clear hF106
        refine boolO e ?_; clear e
        cases a108
        · have hF110 := condF hF109; clear hF109
          refine arK hk hmx80 ?_
          have hs := Option.some.inj hF110; subst hs; clear hF110
          exact ⟨(), (), rfl, ⟨rfl, rfl, rfl, rfl, trivial⟩, H.sel [3, 4, 5, 6] rfl⟩
        · have hF111 := condT hF109; clear hF109
          have hs := Option.some.inj hF111; subst hs; clear hF111
          have hr := hrt _ rfl; subst hr
          have hF112 : some _ = some _ := hF82
          cases hF112
          exact ⟨_, _, rfl, ⟨rfl, rfl⟩, (H.sel [] rfl).close trivial⟩
      · clear H e
        rintro T114 _ _ w113 hr (H : Cx w0 fp0 S0 w113 [Bx b5 [(.int .i64 g__0), (g__1h).v, (g__2h).v, (g__3h).v], Es (List (Int × Int × List Int × List Int)) g__1 g__1h, Es (List Int) g__2 g__2h, Es (List Int) g__3 g__3h])
        subst hr
        refine boolE (z := false) geLen ?_
        refine sq ?_
        refine fld gok rfl rfl rfl rfl ?_
        refine load1 (H.bx 0 rfl (j := 0) rfl) ?_
        obtain ⟨a117, e, hF118⟩ := bindS hF82; clear hF82
        refine make_ (α := Bool) gok rfl rfl rfl rfl (makeCO_of e) H ?_; clear e H; intro h120 w119 hx H
        clear hx
        refine alloc_ gok rfl H ?_; clear H; intro b123 w122 hx H
        clear hx
        replace H : Cx w0 fp0 S0 w122 [Bx b123 [(.slice none 0 0)], E (List Bool) a117 h120, Bx b5 [(.int .i64 g__0), (g__1h).v, (g__2h).v, (g__3h).v], Es (List (Int × Int × List Int × List Int)) g__1 g__1h, Es (List Int) g__2 g__2h, Es (List Int) g__3 g__3h] := H
        refine alloc_ gok rfl H ?_; clear H; intro b126 w125 hx H
        clear hx
        replace H : Cx w0 fp0 S0 w125 [Bx b126 [(.bool false)], Bx b123 [(.slice none 0 0)], E (List Bool) a117 h120, Bx b5 [(.int .i64 g__0), (g__1h).v, (g__2h).v, (g__3h).v], Es (List (Int × Int × List Int × List Int)) g__1 g__1h, Es (List Int) g__2 g__2h, Es (List Int) g__3 g__3h] := H
        refine alloc_ gok rfl H ?_; clear H; intro b129 w128 hx H
        clear hx
        replace H : Cx w0 fp0 S0 w128 [Bx b129 [(.int .i64 0)], Bx b126 [(.bool false)], Bx b123 [(.slice none 0 0)], E (List Bool) a117 h120, Bx b5 [(.int .i64 g__0), (g__1h).v, (g__2h).v, (g__3h).v], Es (List (Int × Int × List Int × List Int)) g__1 g__1h, Es (List Int) g__2 g__2h, Es (List Int) g__3 g__3h] := H
        replace H := H.sel [2, 0, 1, 3, 4, 5, 6, 7] rfl
        refine stB0 H rfl ?_; clear H; intro w131 H
        replace H : Cx w0 fp0 S0 w131 [Bx b123 [(h120).v], Bx b129 [(.int .i64 0)], Bx b126 [(.bool false)], E (List Bool) a117 h120, Bx b5 [(.int .i64 g__0), (g__1h).v, (g__2h).v, (g__3h).v], Es (List (Int × Int × List Int × List Int)) g__1 g__1h, Es (List Int) g__2 g__2h, Es (List Int) g__3 g__3h] := H
        replace H := H.sel [2, 0, 1, 3, 4, 5, 6, 7] rfl
        refine stB0 H rfl ?_; clear H; intro w132 H
        replace H : Cx w0 fp0 S0 w132 [Bx b126 [(.bool true)], Bx b123 [(h120).v], Bx b129 [(.int .i64 0)], E (List Bool) a117 h120, Bx b5 [(.int .i64 g__0), (g__1h).v, (g__2h).v, (g__3h).v], Es (List (Int × Int × List Int × List Int)) g__1 g__1h, Es (List Int) g__2 g__2h, Es (List Int) g__3 g__3h] := H
        replace H := H.sel [2, 0, 1, 3, 4, 5, 6, 7] rfl
        refine stB0 H rfl ?_; clear H; intro w133 H
        replace H : Cx w0 fp0 S0 w133 [Bx b129 [(.int .i64 0)], Bx b126 [(.bool true)], Bx b123 [(h120).v], E (List Bool) a117 h120, Bx b5 [(.int .i64 g__0), (g__1h).v, (g__2h).v, (g__3h).v], Es (List (Int × Int × List Int × List Int)) g__1 g__1h, Es (List Int) g__2 g__2h, Es (List Int) g__3 g__3h] := H
        refine loadN [(.int .i64 g__0), (g__1h).v, (g__2h).v, (g__3h).v] rfl (fun j u hj => H.bx 4 rfl hj) ?_
        obtain ⟨y134, e, hF135⟩ := bindS hF118; clear hF118
        obtain ⟨y134_0, y134_1, y134_2⟩ := y134
        have ey134 := e; clear e
        replace H := H.sel [4, 1, 2, 3, 0, 5, 6, 7] rfl
        refine callF (impl_Graph_lists_impl_Graph_isGraph_1_c g__0 g__1 g__1h g__2 g__2h g__3 g__3h b5 g__0 g__1 g__1h g__2 g__2h g__3 g__3h b126 true b123 a117 h120 b129 0 y134_0 y134_1 y134_2 ey134) (Γi := [Bx b5 [(.int .i64 g__0), (g__1h).v, (g__2h).v, (g__3h).v], Bx b126 [(.bool true)], Bx b123 [(h120).v], E (List Bool) a117 h120, Bx b129 [(.int .i64 0)]]) H ⟨Vw.sh 0 rfl, Vw.sh 1 rfl, Vw.sh 2 rfl, Vw.sh 0 rfl, Vw.sh 1 rfl, Vw.sh 2 rfl, trivial⟩ ?_; clear H ey134
        rintro _ _ w136 ⟨rfl, rfl⟩ (H : Cx w0 fp0 S0 w136 [Bx b5 [(.int .i64 g__0), (g__1h).v, (g__2h).v, (g__3h).v], Bx b126 [(.bool y134_0)], Bx b123 [(h120).v], E (List Bool) y134_1 h120, Bx b129 [(.int .i64 y134_2)], Es (List (Int × Int × List Int × List Int)) g__1 g__1h, Es (List Int) g__2 g__2h, Es (List Int) g__3 g__3h])
        obtain ⟨r143, hF145, hF144⟩ := bindS hF135; clear hF135
        refine cut (fun (q146 : Bool × Bool) => [(2, (.bool q146.2))]) (fun (q146 : Bool × Bool) w' => (q146.1, q146.2) = r143 ∧ Cx w0 fp0 S0 w' []) ?_ ?_
        · skip
          refine load1 (H.bx0 1 rfl) ?_
          cases y134_0
          · have hF147 := condF hF145; clear hF145
            exact ⟨(false, false), ⟨rfl, trivial⟩, Option.some.inj hF147, H.sel [] rfl⟩
          · have hF148 := condT hF145; clear hF145
            refine load1 (H.bx0 4 rfl) ?_
            refine fld gok rfl rfl rfl rfl ?_
            refine load1 (H.bx 0 rfl (j := 0) rfl) ?_
            obtain ⟨a149, e, hF150⟩ := bindS hF148; clear hF148
            refine boolO e ?_; clear e
            exact ⟨(true, a149), ⟨rfl, trivial⟩, Option.some.inj hF150, H.sel [] rfl⟩
        · clear hF145 H
          rintro T152 ⟨s141_0, s141_1⟩ w151 ⟨hr, (H : Cx w0 fp0 S0 w151 [])⟩
          subst hr
          cases hF144
          exact ⟨_, _, rfl, ⟨rfl, rfl⟩, (H.sel [] rfl).close trivial⟩
    · have hF153 := condT hF27; clear hF27
      cases hF153
      exact ⟨_, _, rfl, ⟨rfl, rfl⟩, (H.sel [] rfl).close trivial⟩

theorem impl_joined_c (lists_ : List (List Int)) (lists_h : Hd) (y : List Int) (hF : F_impl_joined lists_ = some y) :
    ConF Try.prog 95 #[(lists_h).v] [Es (List (List Int)) lists_ lists_h] [] (fun v Γ' => ∃ z0 : Hd, v = (z0).v ∧ Γ' = [E (List Int) y z0]) := by
  intro w0 S0 fp0 hI hS
  have H : Cx w0 fp0 S0 w0 [Es (List (List Int)) lists_ lists_h] := Cx.start hI hS
  clear hI hS
  refine enterC (args := [_]) gok Try.func95 rfl _ rfl rfl rfl ?_
  refine lit0 (α := Int) gok rfl rfl H ?_; clear H; intro h3 w2 hx H
  clear hx
  refine sq ?_
  refine lenE (H.rs (α := List (List Int)) 1 rfl).len ?_
  have hmx44 := (H.rs (α := List (List Int)) 1 rfl).max
  obtain ⟨r45, e, hF46⟩ := bindS hF; clear hF
  refine loopS _ lists_.length (fun (k5 : Nat) (s41 : List Int) (g42 : Hd) => [(3, (g42).v), (7, (lists_h).v), (8, (.int .i64 ((lists_.length : Nat) : Int))), (9, (.int .i64 ((k5 : Nat) : Int)))]) (fun _ (s41 : List Int) (g42 : Hd) w' => Cx w0 fp0 S0 w' [E (List Int) s41 g42, Es (List (List Int)) lists_ lists_h]) ([] : List Int) h3 e ⟨rfl, rfl, rfl, rfl, trivial⟩ (H.sel [0, 1] rfl) ?_ ?_
  · clear H e
    rintro T48 k5 s41 g42 w47 o49 hk (H : Cx w0 fp0 S0 w47 [E (List Int) s41 g42, Es (List (List Int)) lists_ lists_h]) hF50
    refine boolE (z := true) (ltLen hk) ?_
    refine sq ?_
    refine sq ?_
    obtain ⟨a57, e, hF58⟩ := bindS hF50; clear hF50
    have HH := H; clear H; obtain ⟨p55, m56, h59, c51, c52, c53, c54, H⟩ := HH.elL 1 rfl e; clear HH
    clear e
    refine idxE c51 c52 c53 ?_; clear c51 c52 c53
    refine load1 c54 ?_; clear c54
    obtain ⟨a61, e, hF62⟩ := bindS hF58; clear hF58
    replace H := H.sel [1, 0, 2] rfl
    refine appendS (α := Int) gok rfl rfl rfl rfl H (Vw.sh 0 rfl) e ?_; clear e H; intro h64 w63 H
    refine arK hk hmx44 ?_
    have hs := Option.some.inj hF62; subst hs; clear hF62
    exact ⟨h64, ⟨rfl, rfl, rfl, rfl, trivial⟩, H.sel [0, 2] rfl⟩
  · clear H e
    rintro T67 g69 w66 (H : Cx w0 fp0 S0 w66 [E (List Int) r45 g69, Es (List (List Int)) lists_ lists_h])
    refine boolE (z := false) geLen ?_
    refine sq ?_
    cases hF46
    exact ⟨_, _, rfl, ⟨g69, rfl, rfl⟩, (H.sel [0] rfl).close ⟨cloE, trivial⟩⟩

theorem impl_isPermutation_c (list_ : List Int) (list_h : Hd) (n_ : Int) (y : Bool) (hF : F_impl_isPermutation list_ n_ = some y) :
    ConF Try.prog 124 #[(list_h).v, (.int .i64 n_)] [Es (List Int) list_ list_h] [] (fun v Γ' => v = (.bool y) ∧ Γ' = []) := by
  intro w0 S0 fp0 hI hS
  have H : Cx w0 fp0 S0 w0 [Es (List Int) list_ list_h] := Cx.start hI hS
  clear hI hS
  refine enterC (args := [_, _]) gok Try.func124 rfl _ rfl rfl rfl ?_
  refine sq ?_
  refine lenE (H.rs (α := List Int) 0 rfl).len ?_
  obtain ⟨a2, e, hF3⟩ := bindS hF; clear hF
  refine boolO e ?_; clear e
  cases a2
  · have hF4 := condF hF3; clear hF3
    obtain ⟨a5, e, hF6⟩ := bindS hF4; clear hF4
    refine make_ (α := Bool) gok rfl rfl rfl rfl (makeCO_of e) H ?_; clear e H; intro h8 w7 hx H
    clear hx
    refine sq ?_
    refine lenE (H.rs (α := List Int) 1 rfl).len ?_
    have hmx139 := (H.rs (α := List Int) 1 rfl).max
    obtain ⟨r140, e, hF141⟩ := bindS hF6; clear hF6
    refine loopO _ list_.length (fun (k10 : Nat) (s137 : List Bool) (_ : Unit) => [(1, (.int .i64 n_)), (5, (h8).v), (14, (list_h).v), (15, (.int .i64 ((list_.length : Nat) : Int))), (16, (.int .i64 ((k10 : Nat) : Int)))]) (fun _ (s137 : List Bool) (_ : Unit) w' => Cx w0 fp0 S0 w' [E (List Bool) s137 h8, Es (List Int) list_ list_h]) a5 () e ⟨rfl, rfl, rfl, rfl, rfl, trivial⟩ (H.sel [0, 1] rfl) ?_ ?_
    · clear H e
      rintro T143 k10 s137 _ w142 o144 hk (H : Cx w0 fp0 S0 w142 [E (List Bool) s137 h8, Es (List Int) list_ list_h]) hrt hF145
      refine boolE (z := true) (ltLen hk) ?_
      refine sq ?_
      refine sq ?_
      obtain ⟨a152, e, hF153⟩ := bindS hF145; clear hF145
      obtain ⟨p150, m151, c146, c147, c148, c149⟩ := (H.rs (α := List Int) 1 rfl).at1 e; clear e
      refine idxE c146 c147 c148 ?_; clear c146 c147 c148
      refine load1 c149 ?_; clear c149
      refine sq ?_
      obtain ⟨r173, hF175, hF174⟩ := bindS hF153; clear hF153
      refine cut (fun (q176 : Bool) => [(1, (.int .i64 n_)), (5, (h8).v), (7, (.int .i64 a152)), (14, (list_h).v), (15, (.int .i64 ((list_.length : Nat) : Int))), (16, (.int .i64 ((k10 : Nat) : Int))), (30, (.bool q176))]) (fun (q176 : Bool) w' => q176 = r173 ∧ Cx w0 fp0 S0 w' [E (List Bool) s137 h8, Es (List Int) list_ list_h]) ?_ ?_
      · skip
        obtain ⟨a177, e, hF178⟩ := bindS hF175; clear hF175
        refine arO e ?_; clear e
        obtain ⟨y179, e, hF180⟩ := bindS hF178; clear hF178
        have ey179 := e; clear e
        refine callF (impl_within_c a152 0 a177 y179 ey179) (Γi := []) H trivial ?_; clear H ey179
        rintro _ _ w181 ⟨rfl, rfl⟩ (H : Cx w0 fp0 S0 w181 [E (List Bool) s137 h8, Es (List Int) list_ list_h])
        obtain ⟨a182, e, hF183⟩ := bindS hF180; clear hF180
        refine boolO e ?_; clear e
        cases a182
        · have hF184 := condF hF183; clear hF183
          obtain ⟨a191, e, hF192⟩ := bindS hF184; clear hF184
          obtain ⟨p189, m190, c185, c186, c187, c188⟩ := (H.ro (α := List Bool) 0 rfl).at1 e; clear e
          refine idxE c185 c186 c187 ?_; clear c185 c186 c187
          refine load1 c188 ?_; clear c188
          exact ⟨a191, ⟨rfl, rfl, rfl, rfl, rfl, rfl, rfl, trivial⟩, Option.some.inj hF192, H.sel [0, 1] rfl⟩
        · have hF193 := condT hF183; clear hF183
          exact ⟨true, ⟨rfl, rfl, rfl, rfl, rfl, rfl, rfl, trivial⟩, Option.some.inj hF193, H.sel [0, 1] rfl⟩
      · clear hF175 H
        rintro T195 s171 w194 ⟨hr, (H : Cx w0 fp0 S0 w194 [E (List Bool) s137 h8, Es (List Int) list_ list_h])⟩
        subst hr
        cases s171
        · have hF196 := condF hF174; clear hF174
          obtain ⟨a203, e, hF204⟩ := bindS hF196; clear hF196
          have ea203 := e; clear e
          obtain ⟨p201, m202, c197, c198, c199⟩ := (H.ro (α := List Bool) 0 rfl).setp ea203
          refine idxE c197 c198 c199 ?_
          refine setS (α := Bool) H c197 c198 ea203 ?_; clear H c197 c198 c199 ea203; intro w205 H
          refine arK hk hmx139 ?_
          have hs := Option.some.inj hF204; subst hs; clear hF204
          exact ⟨a203, (), rfl, ⟨rfl, rfl, rfl, rfl, rfl, trivial⟩, H.sel [0, 1] rfl⟩
        · have hF206 := condT hF174; clear hF174
          have hs := Option.some.inj hF206; subst hs; clear hF206
          have hr := hrt _ rfl; subst hr
          have hF207 : some _ = some _ := hF141
          cases hF207
          exact ⟨_, _, rfl, ⟨rfl, rfl⟩, (H.sel [] rfl).close trivial⟩
    · clear H e
      rintro T209 s210 _ w208 hr (H : Cx w0 fp0 S0 w208 [E (List Bool) s210 h8, Es (List Int) list_ list_h])
      subst hr
      refine boolE (z := false) geLen ?_
      refine sq ?_
      cases hF141
      exact ⟨_, _, rfl, ⟨rfl, rfl⟩, (H.sel [] rfl).close trivial⟩
  · have hF212 := condT hF3; clear hF3
    cases hF212
    exact ⟨_, _, rfl, ⟨rfl, rfl⟩, (H.sel [] rfl).close trivial⟩

theorem impl_occursOnce_c (n_ : Int) (lists_ : List (List Int)) (lists_h : Hd) (y : Bool) (hF : F_impl_occursOnce n_ lists_ = some y) :
    ConF Try.prog 91 #[(.int .i64 n_), (lists_h).v] [Es (List (List Int)) lists_ lists_h] [] (fun v Γ' => v = (.bool y) ∧ Γ' = []) := by
  intro w0 S0 fp0 hI hS
  have H : Cx w0 fp0 S0 w0 [Es (List (List Int)) lists_ lists_h] := Cx.start hI hS
  clear hI hS
  refine enterC (args := [_, _]) gok Try.func91 rfl _ rfl rfl rfl ?_
  obtain ⟨y2, e, hF3⟩ := bindS hF; clear hF
  have ey2 := e; clear e
  refine callF (impl_joined_c lists_ lists_h y2 ey2) (Γi := []) H ⟨Vw.sh 0 rfl, trivial⟩ ?_; clear H ey2
  rintro _ _ w4 ⟨h5, rfl, rfl⟩ (H : Cx w0 fp0 S0 w4 [E (List Int) y2 h5, Es (List (List Int)) lists_ lists_h])
  obtain ⟨y7, e, hF8⟩ := bindS hF3; clear hF3
  have ey7 := e; clear e
  refine callF (impl_isPermutation_c y2 h5 n_ y7 ey7) (Γi := []) H ⟨Vw.own 0 rfl, trivial⟩ ?_; clear H ey7
  rintro _ _ w9 ⟨rfl, rfl⟩ (H : Cx w0 fp0 S0 w9 [E (List Int) y2 h5, Es (List (List Int)) lists_ lists_h])
  cases hF8
  exact ⟨_, _, rfl, ⟨rfl, rfl⟩, (H.sel [] rfl).close trivial⟩

theorem impl_Graph_isMonogamous_c (g__0 : Int) (g__1 : List (Int × Int × List Int × List Int)) (g__1h : Hd) (g__2 : List Int) (g__2h : Hd) (g__3 : List Int) (g__3h : Hd) (y : Bool) (hF : F_impl_Graph_isMonogamous (g__0, g__1, g__2, g__3) = some y) :
    ConF Try.prog 52 #[(.agg #[(.int .i64 g__0), (g__1h).v, (g__2h).v, (g__3h).v])] [Es (List (Int × Int × List Int × List Int)) g__1 g__1h, Es (List Int) g__2 g__2h, Es (List Int) g__3 g__3h] [] (fun v Γ' => v = (.bool y) ∧ Γ' = []) := by
  intro w0 S0 fp0 hI hS
  have H : Cx w0 fp0 S0 w0 [Es (List (Int × Int × List Int × List Int)) g__1 g__1h, Es (List Int) g__2 g__2h, Es (List Int) g__3 g__3h] := Cx.start hI hS
  clear hI hS
  refine enterC (args := [_]) gok Try.func52 rfl _ rfl rfl rfl ?_
  refine box_ H ?_; clear H; intro b5 w4 hx H
  clear hx
  replace H : Cx w0 fp0 S0 w4 [Bx b5 [(.int .i64 g__0), (g__1h).v, (g__2h).v, (g__3h).v], Es (List (Int × Int × List Int × List Int)) g__1 g__1h, Es (List Int) g__2 g__2h, Es (List Int) g__3 g__3h] := H
  refine sq ?_
  refine loadN [(.int .i64 g__0), (g__1h).v, (g__2h).v, (g__3h).v] rfl (fun j u hj => H.bx 0 rfl hj) ?_
  obtain ⟨y7, e, hF8⟩ := bindS hF; clear hF
  have ey7 := e; clear e
  refine callF (impl_Graph_isGraph_c g__0 g__1 g__1h g__2 g__2h g__3 g__3h y7 ey7) (Γi := []) H ⟨Vw.sh 1 rfl, Vw.sh 2 rfl, Vw.sh 3 rfl, trivial⟩ ?_; clear H ey7
  rintro _ _ w9 ⟨rfl, rfl⟩ (H : Cx w0 fp0 S0 w9 [Bx b5 [(.int .i64 g__0), (g__1h).v, (g__2h).v, (g__3h).v], Es (List (Int × Int × List Int × List Int)) g__1 g__1h, Es (List Int) g__2 g__2h, Es (List Int) g__3 g__3h])
  obtain ⟨a10, e, hF11⟩ := bindS hF8; clear hF8
  refine boolO e ?_; clear e
  cases a10
  · have hF12 := condF hF11; clear hF11
    obtain ⟨r42, hF44, hF43⟩ := bindS hF12; clear hF12
    refine heldJ H [] (.fst 0 (.fst 3 (.fst 1 (.fst 4 (.alts (.alt 2 (.fst 6 (.act 5 (.fst 7 .done))) (.alt 5 (.act 2 (.fst 6 (.fst 7 .done))) .no))))))) mixed [] trivial (by kernel_rfl) (fun (q45 : (List (List Int) × List (List Int)) × (Hd × Hd)) => [(1, (.pointer (some ⟨b5, 0, none⟩))), (3, (q45.2.1).v), (4, (q45.2.2).v)]) (fun (q45 : (List (List Int) × List (List Int)) × (Hd × Hd)) w' => (q45.1.1, q45.1.2) = r42 ∧ Cx w0 fp0 S0 w' [Bx b5 [(.int .i64 g__0), (g__1h).v, (g__2h).v, (g__3h).v], Es (List (Int × Int × List Int × List Int)) g__1 g__1h, Es (List Int) g__2 g__2h, Es (List Int) g__3 g__3h, E (List (Sh (List Int))) q45.1.1 q45.2.1, E (List (Sh (List Int))) q45.1.2 q45.2.2]) ?_ ?_
    · skip
      clear H; intro w46 H
      have hX : Ext w46 w46 := Upd.refl _ _
      have H0 := H
      refine anyH (fun _ => fld gok rfl rfl rfl rfl ⟨rfl, rfl⟩) ?_
      refine anyH (fun _ => fld gok rfl rfl rfl rfl ⟨rfl, rfl⟩) ?_
      refine load1X (H.bx 0 rfl (j := 2) rfl) ?_
      refine load1X (H.bx 0 rfl (j := 3) rfl) ?_
      refine both ?_ ?_
      · skip
        replace H := H.dup 2 rfl persS
        refine lit1 (α := Sh (List Int)) (g := g__2h) gok rfl rfl rfl rfl rfl H ?_; clear H; intro h56 w55 hx H
        replace hX := hX.trans0 hx; clear hx
        refine hold hX ?_
        replace H := H.dup 4 rfl persS
        refine lit1 (α := Sh (List Int)) (g := g__3h) gok rfl rfl rfl rfl rfl H ?_; clear H; intro h60 w59 hx H
        replace hX := hX.trans0 hx; clear hx
        refine hold hX ?_
        exact ⟨(([g__2], [g__3]), (h56, h60)), ⟨rfl, rfl, rfl, trivial⟩, Option.some.inj hF44, H.sel [2, 3, 4, 5, 1, 0] rfl⟩
      · skip
        refine both ?_ ?_
        · skip
          replace H := H.dup 3 rfl persS
          refine lit1 (α := Sh (List Int)) (g := g__3h) gok rfl rfl rfl rfl rfl H ?_; clear H; intro h64 w63 hx H
          replace hX := hX.trans0 hx; clear hx
          refine hold hX ?_
          replace H := H.dup 3 rfl persS
          refine lit1 (α := Sh (List Int)) (g := g__2h) gok rfl rfl rfl rfl rfl H ?_; clear H; intro h68 w67 hx H
          replace hX := hX.trans0 hx; clear hx
          refine hold hX ?_
          exact ⟨(([g__2], [g__3]), (h68, h64)), ⟨rfl, rfl, rfl, trivial⟩, Option.some.inj hF44, H.sel [2, 3, 4, 5, 0, 1] rfl⟩
        · skip
          exact trivial
    · clear hF44 H
      rintro T72 ⟨⟨s38_0, s38_1⟩, ⟨g39_0, g39_1⟩⟩ w71 ⟨hr, (H : Cx w0 fp0 S0 w71 [Bx b5 [(.int .i64 g__0), (g__1h).v, (g__2h).v, (g__3h).v], Es (List (Int × Int × List Int × List Int)) g__1 g__1h, Es (List Int) g__2 g__2h, Es (List Int) g__3 g__3h, E (List (Sh (List Int))) s38_0 g39_0, E (List (Sh (List Int))) s38_1 g39_1])⟩
      subst hr
      refine sq ?_
      refine fld gok rfl rfl rfl rfl ?_
      refine load1 (H.bx 0 rfl (j := 1) rfl) ?_
      refine lenE (H.rs (α := List (Int × Int × List Int × List Int)) 1 rfl).len ?_
      have hmx156 := (H.rs (α := List (Int × Int × List Int × List Int)) 1 rfl).max
      obtain ⟨r157, e, hF158⟩ := bindS hF43; clear hF43
      refine loopS _ g__1.length (fun (k73 : Nat) (s152 : List (List Int) × List (List Int)) (g153 : Hd × Hd) => [(1, (.pointer (some ⟨b5, 0, none⟩))), (3, (g153.1).v), (4, (g153.2).v), (17, (g__1h).v), (18, (.int .i64 ((g__1.length : Nat) : Int))), (19, (.int .i64 ((k73 : Nat) : Int)))]) (fun _ (s152 : List (List Int) × List (List Int)) (g153 : Hd × Hd) w' => Cx w0 fp0 S0 w' [Bx b5 [(.int .i64 g__0), (g__1h).v, (g__2h).v, (g__3h).v], Es (List (Int × Int × List Int × List Int)) g__1 g__1h, Es (List Int) g__2 g__2h, Es (List Int) g__3 g__3h, E (List (Sh (List Int))) s152.1 g153.1, E (List (Sh (List Int))) s152.2 g153.2]) (s38_0, s38_1) (g39_0, g39_1) e ⟨rfl, rfl, rfl, rfl, rfl, rfl, trivial⟩ (H.sel [0, 1, 2, 3, 4, 5] rfl) ?_ ?_
      · clear H e
        rintro T160 k73 ⟨s152_0, s152_1⟩ ⟨g153_0, g153_1⟩ w159 o161 hk (H : Cx w0 fp0 S0 w159 [Bx b5 [(.int .i64 g__0), (g__1h).v, (g__2h).v, (g__3h).v], Es (List (Int × Int × List Int × List Int)) g__1 g__1h, Es (List Int) g__2 g__2h, Es (List Int) g__3 g__3h, E (List (Sh (List Int))) s152_0 g153_0, E (List (Sh (List Int))) s152_1 g153_1]) hF162
        refine boolE (z := true) (ltLen hk) ?_
        refine sq ?_
        refine sq ?_
        obtain ⟨a169, e, hF170⟩ := bindS hF162; clear hF162
        have HH := H; clear H; obtain ⟨p167, m168, g171, c163, c164, c165, c166, H⟩ := HH.el (α := Int × Int × List Int × List Int) 1 rfl e; clear HH
        clear e
        obtain ⟨a169_0, a169_1, a169_2, a169_3⟩ := a169
        obtain ⟨_, _, h173, h174⟩ := g171
        replace H := H.part (β := List Int) a169_2 (h173 : Hd) 0 rfl (fun S h => (And.left (And.right (And.right h))))
        replace H := H.part (β := List Int) a169_3 (h174 : Hd) 1 rfl (fun S h => (And.right (And.right (And.right h))))
        replace H := H.sel [0, 1, 3, 4, 5, 6, 7, 8] rfl
        refine idxE c163 c164 c165 ?_; clear c163 c164 c165
        refine loadN [(.int .i64 a169_0), (.int .i64 a169_1), (h173).v, (h174).v] rfl c166 ?_; clear c166
        refine alloc_ gok rfl H ?_; clear H; intro b178 w177 hx H
        clear hx
        replace H : Cx w0 fp0 S0 w177 [Bx b178 [(.int .i64 0), (.int .i64 0), (.slice none 0 0), (.slice none 0 0)], Es (List Int) a169_3 h174, Es (List Int) a169_2 h173, Bx b5 [(.int .i64 g__0), (g__1h).v, (g__2h).v, (g__3h).v], Es (List (Int × Int × List Int × List Int)) g__1 g__1h, Es (List Int) g__2 g__2h, Es (List Int) g__3 g__3h, E (List (Sh (List Int))) s152_0 g153_0, E (List (Sh (List Int))) s152_1 g153_1] := H
        refine stA gok [(.int .i64 a169_0), (.int .i64 a169_1), (h173).v, (h174).v] rfl H rfl rfl rfl ?_; clear H; intro w180 H
        replace H : Cx w0 fp0 S0 w180 [Bx b178 [(.int .i64 a169_0), (.int .i64 a169_1), (h173).v, (h174).v], Es (List Int) a169_3 h174, Es (List Int) a169_2 h173, Bx b5 [(.int .i64 g__0), (g__1h).v, (g__2h).v, (g__3h).v], Es (List (Int × Int × List Int × List Int)) g__1 g__1h, Es (List Int) g__2 g__2h, Es (List Int) g__3 g__3h, E (List (Sh (List Int))) s152_0 g153_0, E (List (Sh (List Int))) s152_1 g153_1] := H
        refine fld gok rfl rfl rfl rfl ?_
        refine load1 (H.bx 0 rfl (j := 3) rfl) ?_
        replace H := H.dup 1 rfl persS
        refine lit1 (α := Sh (List Int)) (g := h174) gok rfl rfl rfl rfl rfl H ?_; clear H; intro h182 w181 hx H
        clear hx
        obtain ⟨a185, e, hF186⟩ := bindS hF170; clear hF170
        replace H := H.sel [8, 0, 1, 2, 3, 4, 5, 6, 7, 9] rfl
        refine append_ (α := Sh (List Int)) gok rfl rfl rfl rfl H e ?_; clear e H; intro h188 w187 H
        refine fld gok rfl rfl rfl rfl ?_
        refine load1 (H.bx 1 rfl (j := 2) rfl) ?_
        replace H := H.dup 3 rfl persS
        refine lit1 (α := Sh (List Int)) (g := h173) gok rfl rfl rfl rfl rfl H ?_; clear H; intro h191 w190 hx H
        clear hx
        obtain ⟨a194, e, hF195⟩ := bindS hF186; clear hF186
        replace H := H.sel [9, 0, 1, 2, 3, 4, 5, 6, 7, 8] rfl
        refine append_ (α := Sh (List Int)) gok rfl rfl rfl rfl H e ?_; clear e H; intro h197 w196 H
        refine arK hk hmx156 ?_
        have hs := Option.some.inj hF195; subst hs; clear hF195
        exact ⟨(h188, h197), ⟨rfl, rfl, rfl, rfl, rfl, rfl, trivial⟩, H.sel [5, 6, 7, 8, 1, 0] rfl⟩
      · clear H e
        obtain ⟨s201_0, s201_1⟩ := r157
        rintro T200 ⟨g202_0, g202_1⟩ w199 (H : Cx w0 fp0 S0 w199 [Bx b5 [(.int .i64 g__0), (g__1h).v, (g__2h).v, (g__3h).v], Es (List (Int × Int × List Int × List Int)) g__1 g__1h, Es (List Int) g__2 g__2h, Es (List Int) g__3 g__3h, E (List (Sh (List Int))) s201_0 g202_0, E (List (Sh (List Int))) s201_1 g202_1])
        refine boolE (z := false) geLen ?_
        refine sq ?_
        obtain ⟨r215, hF217, hF216⟩ := bindS hF158; clear hF158
        refine cut (fun (q218 : Bool) => [(2, (.bool q218))]) (fun (q218 : Bool) w' => q218 = r215 ∧ Cx w0 fp0 S0 w' []) ?_ ?_
        · skip
          refine fld gok rfl rfl rfl rfl ?_
          refine load1 (H.bx 0 rfl (j := 0) rfl) ?_
          obtain ⟨y219, e, hF220⟩ := bindS hF217; clear hF217
          have ey219 := e; clear e
          refine callF (impl_occursOnce_c g__0 s201_0 g202_0 y219 ey219) (Γi := []) H ⟨Vw.part (β := List (List Int)) (Vw.own (α := List (Sh (List Int))) 4 rfl) s201_0 g202_0 (fun S h => h), trivial⟩ ?_; clear H ey219
          rintro _ _ w221 ⟨rfl, rfl⟩ (H : Cx w0 fp0 S0 w221 [Bx b5 [(.int .i64 g__0), (g__1h).v, (g__2h).v, (g__3h).v], Es (List (Int × Int × List Int × List Int)) g__1 g__1h, Es (List Int) g__2 g__2h, Es (List Int) g__3 g__3h, E (List (Sh (List Int))) s201_0 g202_0, E (List (Sh (List Int))) s201_1 g202_1])
          cases y219
          · have hF222 := condF hF220; clear hF220
            exact ⟨false, ⟨rfl, trivial⟩, Option.some.inj hF222, H.sel [] rfl⟩
          · have hF223 := condT hF220; clear hF220
            refine fld gok rfl rfl rfl rfl ?_
            refine load1 (H.bx 0 rfl (j := 0) rfl) ?_
            obtain ⟨y224, e, hF225⟩ := bindS hF223; clear hF223
            have ey224 := e; clear e
            refine callF (impl_occursOnce_c g__0 s201_1 g202_1 y224 ey224) (Γi := []) H ⟨Vw.part (β := List (List Int)) (Vw.own (α := List (Sh (List Int))) 5 rfl) s201_1 g202_1 (fun S h => h), trivial⟩ ?_; clear H ey224
            rintro _ _ w226 ⟨rfl, rfl⟩ (H : Cx w0 fp0 S0 w226 [Bx b5 [(.int .i64 g__0), (g__1h).v, (g__2h).v, (g__3h).v], Es (List (Int × Int × List Int × List Int)) g__1 g__1h, Es (List Int) g__2 g__2h, Es (List Int) g__3 g__3h, E (List (Sh (List Int))) s201_0 g202_0, E (List (Sh (List Int))) s201_1 g202_1])
            exact ⟨y224, ⟨rfl, trivial⟩, Option.some.inj hF225, H.sel [] rfl⟩
        · clear hF217 H
          rintro T228 s213 w227 ⟨hr, (H : Cx w0 fp0 S0 w227 [])⟩
          subst hr
          cases hF216
          exact ⟨_, _, rfl, ⟨rfl, rfl⟩, (H.sel [] rfl).close trivial⟩
  · have hF229 := condT hF11; clear hF11
    cases hF229
    exact ⟨_, _, rfl, ⟨rfl, rfl⟩, (H.sel [] rfl).close trivial⟩

theorem impl_areMonogamous_c (list_ : List (Int × (List (Int × Int × List Int × List Int)) × List Int × List Int)) (list_h : Hd) (y : Bool) (hF : F_impl_areMonogamous list_ = some y) :
    ConF Try.prog 65 #[(list_h).v] [Es (List (Int × (List (Int × Int × List Int × List Int)) × List Int × List Int)) list_ list_h] [] (fun v Γ' => v = (.bool y) ∧ Γ' = []) := by
  intro w0 S0 fp0 hI hS
  have H : Cx w0 fp0 S0 w0 [Es (List (Int × (List (Int × Int × List Int × List Int)) × List Int × List Int)) list_ list_h] := Cx.start hI hS
  clear hI hS
  refine enterC (args := [_]) gok Try.func65 rfl _ rfl rfl rfl ?_
  refine sq ?_
  refine lenE (H.rs (α := List (Int × (List (Int × Int × List Int × List Int)) × List Int × List Int)) 0 rfl).len ?_
  have hmx34 := (H.rs (α := List (Int × (List (Int × Int × List Int × List Int)) × List Int × List Int)) 0 rfl).max
  obtain ⟨r35, e, hF36⟩ := bindS hF; clear hF
  refine loopO _ list_.length (fun (k2 : Nat) (_ : Unit) (_ : Unit) => [(5, (list_h).v), (6, (.int .i64 ((list_.length : Nat) : Int))), (7, (.int .i64 ((k2 : Nat) : Int)))]) (fun _ (_ : Unit) (_ : Unit) w' => Cx w0 fp0 S0 w' [Es (List (Int × (List (Int × Int × List Int × List Int)) × List Int × List Int)) list_ list_h]) () () e ⟨rfl, rfl, rfl, trivial⟩ (H.sel [0] rfl) ?_ ?_
  · clear H e
    rintro T38 k2 _ _ w37 o39 hk (H : Cx w0 fp0 S0 w37 [Es (List (Int × (List (Int × Int × List Int × List Int)) × List Int × List Int)) list_ list_h]) hrt hF40
    refine boolE (z := true) (ltLen hk) ?_
    refine sq ?_
    refine sq ?_
    obtain ⟨a47, e, hF48⟩ := bindS hF40; clear hF40
    have HH := H; clear H; obtain ⟨p45, m46, g49, c41, c42, c43, c44, H⟩ := HH.el (α := Int × (List (Int × Int × List Int × List Int)) × List Int × List Int) 0 rfl e; clear HH
    clear e
    obtain ⟨a47_0, a47_1, a47_2, a47_3⟩ := a47
    obtain ⟨_, h51, h52, h53⟩ := g49
    replace H := H.part (β := List (Int × Int × List Int × List Int)) a47_1 (h51 : Hd) 0 rfl (fun S h => (And.left (And.right h)))
    replace H := H.part (β := List Int) a47_2 (h52 : Hd) 1 rfl (fun S h => (And.left (And.right (And.right h))))
    replace H := H.part (β := List Int) a47_3 (h53 : Hd) 2 rfl (fun S h => (And.right (And.right (And.right h))))
    replace H := H.sel [0, 1, 2, 4] rfl
    refine idxE c41 c42 c43 ?_; clear c41 c42 c43
    refine loadN [(.int .i64 a47_0), (h51).v, (h52).v, (h53).v] rfl c44 ?_; clear c44
    refine alloc_ gok rfl H ?_; clear H; intro b58 w57 hx H
    clear hx
    replace H : Cx w0 fp0 S0 w57 [Bx b58 [(.int .i64 0), (.slice none 0 0), (.slice none 0 0), (.slice none 0 0)], Es (List Int) a47_3 h53, Es (List Int) a47_2 h52, Es (List (Int × Int × List Int × List Int)) a47_1 h51, Es (List (Int × (List (Int × Int × List Int × List Int)) × List Int × List Int)) list_ list_h] := H
    refine stA gok [(.int .i64 a47_0), (h51).v, (h52).v, (h53).v] rfl H rfl rfl rfl ?_; clear H; intro w60 H
    replace H : Cx w0 fp0 S0 w60 [Bx b58 [(.int .i64 a47_0), (h51).v, (h52).v, (h53).v], Es (List Int) a47_3 h53, Es (List Int) a47_2 h52, Es (List (Int × Int × List Int × List Int)) a47_1 h51, Es (List (Int × (List (Int × Int × List Int × List Int)) × List Int × List Int)) list_ list_h] := H
    refine loadN [(.int .i64 a47_0), (h51).v, (h52).v, (h53).v] rfl (fun j u hj => H.bx 0 rfl hj) ?_
    obtain ⟨y61, e, hF62⟩ := bindS hF48; clear hF48
    have ey61 := e; clear e
    refine callF (impl_Graph_isMonogamous_c a47_0 a47_1 h51 a47_2 h52 a47_3 h53 y61 ey61) (Γi := []) H ⟨Vw.sh 3 rfl, Vw.sh 2 rfl, Vw.sh 1 rfl, trivial⟩ ?_; clear H ey61
    rintro _ _ w63 ⟨rfl, rfl⟩ (H : Cx w0 fp0 S0 w63 [Bx b58 [(.int .i64 a47_0), (h51).v, (h52).v, (h53).v], Es (List Int) a47_3 h53, Es (List Int) a47_2 h52, Es (List (Int × Int × List Int × List Int)) a47_1 h51, Es (List (Int × (List (Int × Int × List Int × List Int)) × List Int × List Int)) list_ list_h])
    obtain ⟨a64, e, hF65⟩ := bindS hF62; clear hF62
    refine boolO e ?_; clear e
    cases a64
    · have hF66 := condF hF65; clear hF65
      refine arK hk hmx34 ?_
      have hs := Option.some.inj hF66; subst hs; clear hF66
      exact ⟨(), (), rfl, ⟨rfl, rfl, rfl, trivial⟩, H.sel [4] rfl⟩
    · have hF67 := condT hF65; clear hF65
      have hs := Option.some.inj hF67; subst hs; clear hF67
      have hr := hrt _ rfl; subst hr
      have hF68 : some _ = some _ := hF36
      cases hF68
      exact ⟨_, _, rfl, ⟨rfl, rfl⟩, (H.sel [] rfl).close trivial⟩
  · clear H e
    rintro T70 _ _ w69 hr (H : Cx w0 fp0 S0 w69 [Es (List (Int × (List (Int × Int × List Int × List Int)) × List Int × List Int)) list_ list_h])
    subst hr
    refine boolE (z := false) geLen ?_
    refine sq ?_
    cases hF36
    exact ⟨_, _, rfl, ⟨rfl, rfl⟩, (H.sel [] rfl).close trivial⟩

theorem impl_areDifferent_c (list_ : List Int) (list_h : Hd) (n_ : Int) (y : Bool) (hF : F_impl_areDifferent list_ n_ = some y) :
    ConF Try.prog 104 #[(list_h).v, (.int .i64 n_)] [Es (List Int) list_ list_h] [] (fun v Γ' => v = (.bool y) ∧ Γ' = []) := by
  intro w0 S0 fp0 hI hS
  have H : Cx w0 fp0 S0 w0 [Es (List Int) list_ list_h] := Cx.start hI hS
  clear hI hS
  refine enterC (args := [_, _]) gok Try.func104 rfl _ rfl rfl rfl ?_
  obtain ⟨a2, e, hF3⟩ := bindS hF; clear hF
  refine make_ (α := Bool) gok rfl rfl rfl rfl (makeCO_of e) H ?_; clear e H; intro h5 w4 hx H
  clear hx
  refine sq ?_
  refine lenE (H.rs (α := List Int) 1 rfl).len ?_
  have hmx136 := (H.rs (α := List Int) 1 rfl).max
  obtain ⟨r137, e, hF138⟩ := bindS hF3; clear hF3
  refine loopO _ list_.length (fun (k7 : Nat) (s134 : List Bool) (_ : Unit) => [(1, (.int .i64 n_)), (5, (h5).v), (10, (list_h).v), (11, (.int .i64 ((list_.length : Nat) : Int))), (12, (.int .i64 ((k7 : Nat) : Int)))]) (fun _ (s134 : List Bool) (_ : Unit) w' => Cx w0 fp0 S0 w' [E (List Bool) s134 h5, Es (List Int) list_ list_h]) a2 () e ⟨rfl, rfl, rfl, rfl, rfl, trivial⟩ (H.sel [0, 1] rfl) ?_ ?_
  · clear H e
    rintro T140 k7 s134 _ w139 o141 hk (H : Cx w0 fp0 S0 w139 [E (List Bool) s134 h5, Es (List Int) list_ list_h]) hrt hF142
    refine boolE (z := true) (ltLen hk) ?_
    refine sq ?_
    refine sq ?_
    obtain ⟨a149, e, hF150⟩ := bindS hF142; clear hF142
    obtain ⟨p147, m148, c143, c144, c145, c146⟩ := (H.rs (α := List Int) 1 rfl).at1 e; clear e
    refine idxE c143 c144 c145 ?_; clear c143 c144 c145
    refine load1 c146 ?_; clear c146
    refine sq ?_
    obtain ⟨r170, hF172, hF171⟩ := bindS hF150; clear hF150
    refine cut (fun (q173 : Bool) => [(1, (.int .i64 n_)), (5, (h5).v), (7, (.int .i64 a149)), (10, (list_h).v), (11, (.int .i64 ((list_.length : Nat) : Int))), (12, (.int .i64 ((k7 : Nat) : Int))), (26, (.bool q173))]) (fun (q173 : Bool) w' => q173 = r170 ∧ Cx w0 fp0 S0 w' [E (List Bool) s134 h5, Es (List Int) list_ list_h]) ?_ ?_
    · skip
      obtain ⟨a174, e, hF175⟩ := bindS hF172; clear hF172
      refine arO e ?_; clear e
      obtain ⟨y176, e, hF177⟩ := bindS hF175; clear hF175
      have ey176 := e; clear e
      refine callF (impl_within_c a149 0 a174 y176 ey176) (Γi := []) H trivial ?_; clear H ey176
      rintro _ _ w178 ⟨rfl, rfl⟩ (H : Cx w0 fp0 S0 w178 [E (List Bool) s134 h5, Es (List Int) list_ list_h])
      obtain ⟨a179, e, hF180⟩ := bindS hF177; clear hF177
      refine boolO e ?_; clear e
      cases a179
      · have hF181 := condF hF180; clear hF180
        obtain ⟨a188, e, hF189⟩ := bindS hF181; clear hF181
        obtain ⟨p186, m187, c182, c183, c184, c185⟩ := (H.ro (α := List Bool) 0 rfl).at1 e; clear e
        refine idxE c182 c183 c184 ?_; clear c182 c183 c184
        refine load1 c185 ?_; clear c185
        exact ⟨a188, ⟨rfl, rfl, rfl, rfl, rfl, rfl, rfl, trivial⟩, Option.some.inj hF189, H.sel [0, 1] rfl⟩
      · have hF190 := condT hF180; clear hF180
        exact ⟨true, ⟨rfl, rfl, rfl, rfl, rfl, rfl, rfl, trivial⟩, Option.some.inj hF190, H.sel [0, 1] rfl⟩
    · clear hF172 H
      rintro T192 s168 w191 ⟨hr, (H : Cx w0 fp0 S0 w191 [E (List Bool) s134 h5, Es (List Int) list_ list_h])⟩
      subst hr
      cases s168
      · have hF193 := condF hF171; clear hF171
        obtain ⟨a200, e, hF201⟩ := bindS hF193; clear hF193
        have ea200 := e; clear e
        obtain ⟨p198, m199, c194, c195, c196⟩ := (H.ro (α := List Bool) 0 rfl).setp ea200
        refine idxE c194 c195 c196 ?_
        refine setS (α := Bool) H c194 c195 ea200 ?_; clear H c194 c195 c196 ea200; intro w202 H
        refine arK hk hmx136 ?_
        have hs := Option.some.inj hF201; subst hs; clear hF201
        exact ⟨a200, (), rfl, ⟨rfl, rfl, rfl, rfl, rfl, trivial⟩, H.sel [0, 1] rfl⟩
      · have hF203 := condT hF171; clear hF171
        have hs := Option.some.inj hF203; subst hs; clear hF203
        have hr := hrt _ rfl; subst hr
        have hF204 : some _ = some _ := hF138
        cases hF204
        exact ⟨_, _, rfl, ⟨rfl, rfl⟩, (H.sel [] rfl).close trivial⟩
  · clear H e
    rintro T206 s207 _ w205 hr (H : Cx w0 fp0 S0 w205 [E (List Bool) s207 h5, Es (List Int) list_ list_h])
    subst hr
    refine boolE (z := false) geLen ?_
    refine sq ?_
    cases hF138
    exact ⟨_, _, rfl, ⟨rfl, rfl⟩, (H.sel [] rfl).close trivial⟩

theorem impl_chosen_c (v_ : List Int) (v_h : Hd) (at_ : List Int) (at_h : Hd) (y : List Int) (hF : F_impl_chosen v_ at_ = some y) :
    ConF Try.prog 129 #[(v_h).v, (at_h).v] [Es (List Int) v_ v_h, Es (List Int) at_ at_h] [] (fun v Γ' => ∃ z0 : Hd, v = (z0).v ∧ Γ' = [E (List Int) y z0]) := by
  intro w0 S0 fp0 hI hS
  have H : Cx w0 fp0 S0 w0 [Es (List Int) v_ v_h, Es (List Int) at_ at_h] := Cx.start hI hS
  clear hI hS
  refine enterC (args := [_, _]) gok Try.func129 rfl _ rfl rfl rfl ?_
  refine lenE (H.rs (α := List Int) 1 rfl).len ?_
  obtain ⟨a3, e, hF4⟩ := bindS hF; clear hF
  refine make_ (α := Int) gok rfl rfl rfl rfl e H ?_; clear e H; intro h6 w5 hx H
  clear hx
  refine sq ?_
  refine lenE (H.rs (α := List Int) 2 rfl).len ?_
  have hmx65 := (H.rs (α := List Int) 2 rfl).max
  obtain ⟨r66, e, hF67⟩ := bindS hF4; clear hF4
  refine loopS _ at_.length (fun (k8 : Nat) (s62 : List Int) (g63 : Hd) => [(0, (v_h).v), (5, (g63).v), (11, (at_h).v), (12, (.int .i64 ((at_.length : Nat) : Int))), (13, (.int .i64 ((k8 : Nat) : Int)))]) (fun _ (s62 : List Int) (g63 : Hd) w' => Cx w0 fp0 S0 w' [Es (List Int) v_ v_h, E (List Int) s62 g63, Es (List Int) at_ at_h]) a3 h6 e ⟨rfl, rfl, rfl, rfl, rfl, trivial⟩ (H.sel [1, 0, 2] rfl) ?_ ?_
  · clear H e
    rintro T69 k8 s62 g63 w68 o70 hk (H : Cx w0 fp0 S0 w68 [Es (List Int) v_ v_h, E (List Int) s62 g63, Es (List Int) at_ at_h]) hF71
    refine boolE (z := true) (ltLen hk) ?_
    refine sq ?_
    refine sq ?_
    obtain ⟨a78, e, hF79⟩ := bindS hF71; clear hF71
    obtain ⟨p76, m77, c72, c73, c74, c75⟩ := (H.rs (α := List Int) 2 rfl).at1 e; clear e
    refine idxE c72 c73 c74 ?_; clear c72 c73 c74
    refine load1 c75 ?_; clear c75
    obtain ⟨a86, e, hF87⟩ := bindS hF79; clear hF79
    obtain ⟨p84, m85, c80, c81, c82, c83⟩ := (H.rs (α := List Int) 0 rfl).at1 e; clear e
    refine idxE c80 c81 c82 ?_; clear c80 c81 c82
    refine load1 c83 ?_; clear c83
    refine lit1S (α := Int) gok rfl rfl rfl rfl H ?_; clear H; intro h89 w88 hx H
    clear hx
    obtain ⟨a91, e, hF92⟩ := bindS hF87; clear hF87
    replace H := H.sel [2, 0, 1, 3] rfl
    refine append_ (α := Int) gok rfl rfl rfl rfl H e ?_; clear e H; intro h94 w93 H
    refine arK hk hmx65 ?_
    have hs := Option.some.inj hF92; subst hs; clear hF92
    exact ⟨h94, ⟨rfl, rfl, rfl, rfl, rfl, trivial⟩, H.sel [1, 0, 2] rfl⟩
  · clear H e
    rintro T97 g99 w96 (H : Cx w0 fp0 S0 w96 [Es (List Int) v_ v_h, E (List Int) r66 g99, Es (List Int) at_ at_h])
    refine boolE (z := false) geLen ?_
    refine sq ?_
    cases hF67
    exact ⟨_, _, rfl, ⟨g99, rfl, rfl⟩, (H.sel [1] rfl).close ⟨cloE, trivial⟩⟩

theorem impl_mapped_c (list_ : List Int) (list_h : Hd) (to_ : List Int) (to_h : Hd) (y : List Int) (hF : F_impl_mapped list_ to_ = some y) :
    ConF Try.prog 96 #[(list_h).v, (to_h).v] [Es (List Int) list_ list_h, Es (List Int) to_ to_h] [] (fun v Γ' => ∃ z0 : Hd, v = (z0).v ∧ Γ' = [E (List Int) y z0]) := by
  intro w0 S0 fp0 hI hS
  have H : Cx w0 fp0 S0 w0 [Es (List Int) list_ list_h, Es (List Int) to_ to_h] := Cx.start hI hS
  clear hI hS
  refine enterC (args := [_, _]) gok Try.func96 rfl _ rfl rfl rfl ?_
  obtain ⟨y3, e, hF4⟩ := bindS hF; clear hF
  have ey3 := e; clear e
  refine callF (impl_chosen_c to_ to_h list_ list_h y3 ey3) (Γi := []) H ⟨Vw.sh 1 rfl, Vw.sh 0 rfl, trivial⟩ ?_; clear H ey3
  rintro _ _ w5 ⟨h6, rfl, rfl⟩ (H : Cx w0 fp0 S0 w5 [E (List Int) y3 h6, Es (List Int) list_ list_h, Es (List Int) to_ to_h])
  cases hF4
  exact ⟨_, _, rfl, ⟨h6, rfl, rfl⟩, (H.sel [0] rfl).close ⟨cloE, trivial⟩⟩

theorem slices_Equal_int_int_c (s1_ : List Int) (s1_h : Hd) (s2_ : List Int) (s2_h : Hd) (y : Bool) (hF : F_slices_Equal_int_int s1_ s2_ = some y) :
    ConF Try.prog 136 #[(s1_h).v, (s2_h).v] [Es (List Int) s1_ s1_h, Es (List Int) s2_ s2_h] [] (fun v Γ' => v = (.bool y) ∧ Γ' = []) := by
  intro w0 S0 fp0 hI hS
  have H : Cx w0 fp0 S0 w0 [Es (List Int) s1_ s1_h, Es (List Int) s2_ s2_h] := Cx.start hI hS
  clear hI hS
  refine enterC (args := [_, _]) gok Try.func136 rfl _ rfl rfl rfl ?_
  refine sq ?_
  refine lenE (H.rs (α := List Int) 0 rfl).len ?_
  refine lenE (H.rs (α := List Int) 1 rfl).len ?_
  obtain ⟨a3, e, hF4⟩ := bindS hF; clear hF
  refine boolO e ?_; clear e
  cases a3
  · have hF5 := condF hF4; clear hF4
    refine sq ?_
    refine lenE (H.rs (α := List Int) 0 rfl).len ?_
    have hmx32 := (H.rs (α := List Int) 0 rfl).max
    obtain ⟨r33, e, hF34⟩ := bindS hF5; clear hF5
    refine loopO _ s1_.length (fun (k6 : Nat) (_ : Unit) (_ : Unit) => [(0, (s1_h).v), (1, (s2_h).v), (12, (.int .i64 ((s1_.length : Nat) : Int))), (13, (.int .i64 ((k6 : Nat) : Int)))]) (fun _ (_ : Unit) (_ : Unit) w' => Cx w0 fp0 S0 w' [Es (List Int) s1_ s1_h, Es (List Int) s2_ s2_h]) () () e ⟨rfl, rfl, rfl, rfl, trivial⟩ (H.sel [0, 1] rfl) ?_ ?_
    · clear H e
      rintro T36 k6 _ _ w35 o37 hk (H : Cx w0 fp0 S0 w35 [Es (List Int) s1_ s1_h, Es (List Int) s2_ s2_h]) hrt hF38
      refine boolE (z := true) (ltLen hk) ?_
      refine sq ?_
      refine sq ?_
      refine heldX H [] (.fst 0 (.fst 1 (.fst 2 (.fst 4 (.fst 5 (.fst 6 (.fst 3 (.fst 7 (.fst 8 .done))))))))) mixed [] trivial (by kernel_rfl) ?_
      clear H; intro w39 H
      have hX : Ext w39 w39 := Upd.refl _ _
      have H0 := H
      obtain ⟨a46, e, hF47⟩ := bindS hF38; clear hF38
      obtain ⟨p44, m45, c40, c41, c42, c43⟩ := (H.rs (α := List Int) 0 rfl).at1 e; clear e
      refine idxE c40 c41 c42 ?_; clear c40 c41 c42
      obtain ⟨a54, e, hF55⟩ := bindS hF47; clear hF47
      obtain ⟨p52, m53, c48, c49, c50, c51⟩ := (H.rs (α := List Int) 1 rfl).at1 e; clear e
      refine idxE c48 c49 c50 ?_; clear c48 c49 c50
      refine load1X c43 ?_; clear c43
      refine load1X c51 ?_; clear c51
      obtain ⟨a56, e, hF57⟩ := bindS hF55; clear hF55
      refine boolO e ?_; clear e
      cases a56
      · have hF58 := condF hF57; clear hF57
        refine arK hk hmx32 ?_
        have hs := Option.some.inj hF58; subst hs; clear hF58
        exact ⟨(), (), rfl, ⟨rfl, rfl, rfl, rfl, trivial⟩, H.sel [0, 1] rfl⟩
      · have hF59 := condT hF57; clear hF57
        have hs := Option.some.inj hF59; subst hs; clear hF59
        have hr := hrt _ rfl; subst hr
        have hF60 : some _ = some _ := hF34
        cases hF60
        exact ⟨_, _, rfl, ⟨rfl, rfl⟩, (H.sel [] rfl).close trivial⟩
    · clear H e
      rintro T62 _ _ w61 hr (H : Cx w0 fp0 S0 w61 [Es (List Int) s1_ s1_h, Es (List Int) s2_ s2_h])
      subst hr
      refine boolE (z := false) geLen ?_
      refine sq ?_
      cases hF34
      exact ⟨_, _, rfl, ⟨rfl, rfl⟩, (H.sel [] rfl).close trivial⟩
  · have hF65 := condT hF4; clear hF4
    cases hF65
    exact ⟨_, _, rfl, ⟨rfl, rfl⟩, (H.sel [] rfl).close trivial⟩

theorem impl_equalEdges_c (a__0 : Int) (a__1 : Int) (a__2 : List Int) (a__2h : Hd) (a__3 : List Int) (a__3h : Hd) (b__0 : Int) (b__1 : Int) (b__2 : List Int) (b__2h : Hd) (b__3 : List Int) (b__3h : Hd) (y : Bool) (hF : F_impl_equalEdges (a__0, a__1, a__2, a__3) (b__0, b__1, b__2, b__3) = some y) :
    ConF Try.prog 105 #[(.agg #[(.int .i64 a__0), (.int .i64 a__1), (a__2h).v, (a__3h).v]), (.agg #[(.int .i64 b__0), (.int .i64 b__1), (b__2h).v, (b__3h).v])] [Es (List Int) a__2 a__2h, Es (List Int) a__3 a__3h, Es (List Int) b__2 b__2h, Es (List Int) b__3 b__3h] [] (fun v Γ' => v = (.bool y) ∧ Γ' = []) := by
  intro w0 S0 fp0 hI hS
  have H : Cx w0 fp0 S0 w0 [Es (List Int) a__2 a__2h, Es (List Int) a__3 a__3h, Es (List Int) b__2 b__2h, Es (List Int) b__3 b__3h] := Cx.start hI hS
  clear hI hS
  refine enterC (args := [_, _]) gok Try.func105 rfl _ rfl rfl rfl ?_
  refine box_ H ?_; clear H; intro b6 w5 hx H
  clear hx
  replace H : Cx w0 fp0 S0 w5 [Bx b6 [(.int .i64 a__0), (.int .i64 a__1), (a__2h).v, (a__3h).v], Es (List Int) a__2 a__2h, Es (List Int) a__3 a__3h, Es (List Int) b__2 b__2h, Es (List Int) b__3 b__3h] := H
  refine box_ H ?_; clear H; intro b9 w8 hx H
  clear hx
  replace H : Cx w0 fp0 S0 w8 [Bx b9 [(.int .i64 b__0), (.int .i64 b__1), (b__2h).v, (b__3h).v], Bx b6 [(.int .i64 a__0), (.int .i64 a__1), (a__2h).v, (a__3h).v], Es (List Int) a__2 a__2h, Es (List Int) a__3 a__3h, Es (List Int) b__2 b__2h, Es (List Int) b__3 b__3h] := H
  obtain ⟨r29, hF31, hF30⟩ := bindS hF; clear hF
  refine cut (fun (q32 : Bool) => [(4, (.bool q32))]) (fun (q32 : Bool) w' => q32 = r29 ∧ Cx w0 fp0 S0 w' []) ?_ ?_
  · skip
    refine fld gok rfl rfl rfl rfl ?_
    refine load1 (H.bx 1 rfl (j := 0) rfl) ?_
    refine fld gok rfl rfl rfl rfl ?_
    refine load1 (H.bx 0 rfl (j := 0) rfl) ?_
    obtain ⟨a33, e, hF34⟩ := bindS hF31; clear hF31
    refine boolO e ?_; clear e
    cases a33
    · have hF35 := condF hF34; clear hF34
      exact ⟨false, ⟨rfl, trivial⟩, Option.some.inj hF35, H.sel [] rfl⟩
    · have hF36 := condT hF34; clear hF34
      refine fld gok rfl rfl rfl rfl ?_
      refine load1 (H.bx 1 rfl (j := 1) rfl) ?_
      refine fld gok rfl rfl rfl rfl ?_
      refine load1 (H.bx 0 rfl (j := 1) rfl) ?_
      obtain ⟨a37, e, hF38⟩ := bindS hF36; clear hF36
      refine boolO e ?_; clear e
      cases a37
      · have hF39 := condF hF38; clear hF38
        exact ⟨false, ⟨rfl, trivial⟩, Option.some.inj hF39, H.sel [] rfl⟩
      · have hF40 := condT hF38; clear hF38
        refine fld gok rfl rfl rfl rfl ?_
        refine load1 (H.bx 1 rfl (j := 2) rfl) ?_
        refine fld gok rfl rfl rfl rfl ?_
        refine load1 (H.bx 0 rfl (j := 2) rfl) ?_
        obtain ⟨y41, e, hF42⟩ := bindS hF40; clear hF40
        have ey41 := e; clear e
        refine callF (slices_Equal_int_int_c a__2 a__2h b__2 b__2h y41 ey41) (Γi := []) H ⟨Vw.sh 2 rfl, Vw.sh 4 rfl, trivial⟩ ?_; clear H ey41
        rintro _ _ w43 ⟨rfl, rfl⟩ (H : Cx w0 fp0 S0 w43 [Bx b9 [(.int .i64 b__0), (.int .i64 b__1), (b__2h).v, (b__3h).v], Bx b6 [(.int .i64 a__0), (.int .i64 a__1), (a__2h).v, (a__3h).v], Es (List Int) a__2 a__2h, Es (List Int) a__3 a__3h, Es (List Int) b__2 b__2h, Es (List Int) b__3 b__3h])
        cases y41
        · have hF44 := condF hF42; clear hF42
          exact ⟨false, ⟨rfl, trivial⟩, Option.some.inj hF44, H.sel [] rfl⟩
        · have hF45 := condT hF42; clear hF42
          refine fld gok rfl rfl rfl rfl ?_
          refine load1 (H.bx 1 rfl (j := 3) rfl) ?_
          refine fld gok rfl rfl rfl rfl ?_
          refine load1 (H.bx 0 rfl (j := 3) rfl) ?_
          obtain ⟨y46, e, hF47⟩ := bindS hF45; clear hF45
          have ey46 := e; clear e
          refine callF (slices_Equal_int_int_c a__3 a__3h b__3 b__3h y46 ey46) (Γi := []) H ⟨Vw.sh 3 rfl, Vw.sh 5 rfl, trivial⟩ ?_; clear H ey46
          rintro _ _ w48 ⟨rfl, rfl⟩ (H : Cx w0 fp0 S0 w48 [Bx b9 [(.int .i64 b__0), (.int .i64 b__1), (b__2h).v, (b__3h).v], Bx b6 [(.int .i64 a__0), (.int .i64 a__1), (a__2h).v, (a__3h).v], Es (List Int) a__2 a__2h, Es (List Int) a__3 a__3h, Es (List Int) b__2 b__2h, Es (List Int) b__3 b__3h])
          exact ⟨y46, ⟨rfl, trivial⟩, Option.some.inj hF47, H.sel [] rfl⟩
  · clear hF31 H
    rintro T50 s27 w49 ⟨hr, (H : Cx w0 fp0 S0 w49 [])⟩
    subst hr
    cases hF30
    exact ⟨_, _, rfl, ⟨rfl, rfl⟩, (H.sel [] rfl).close trivial⟩

theorem impl_isMatch_c (g__0 : Int) (g__1 : List (Int × Int × List Int × List Int)) (g__1h : Hd) (g__2 : List Int) (g__2h : Hd) (g__3 : List Int) (g__3h : Hd) (pattern__0 : Int) (pattern__1 : List (Int × Int × List Int × List Int)) (pattern__1h : Hd) (pattern__2 : List Int) (pattern__2h : Hd) (pattern__3 : List Int) (pattern__3h : Hd) (m__0 : List Int) (m__0h : Hd) (m__1 : List Int) (m__1h : Hd) (y : Bool) (hF : F_impl_isMatch (g__0, g__1, g__2, g__3) (pattern__0, pattern__1, pattern__2, pattern__3) (m__0, m__1) = some y) :
    ConF Try.prog 66 #[(.agg #[(.int .i64 g__0), (g__1h).v, (g__2h).v, (g__3h).v]), (.agg #[(.int .i64 pattern__0), (pattern__1h).v, (pattern__2h).v, (pattern__3h).v]), (.agg #[(m__0h).v, (m__1h).v])] [Es (List (Int × Int × List Int × List Int)) g__1 g__1h, Es (List Int) g__2 g__2h, Es (List Int) g__3 g__3h, Es (List (Int × Int × List Int × List Int)) pattern__1 pattern__1h, Es (List Int) pattern__2 pattern__2h, Es (List Int) pattern__3 pattern__3h, Es (List Int) m__0 m__0h, Es (List Int) m__1 m__1h] [] (fun v Γ' => v = (.bool y) ∧ Γ' = []) := by
  intro w0 S0 fp0 hI hS
  have H : Cx w0 fp0 S0 w0 [Es (List (Int × Int × List Int × List Int)) g__1 g__1h, Es (List Int) g__2 g__2h, Es (List Int) g__3 g__3h, Es (List (Int × Int × List Int × List Int)) pattern__1 pattern__1h, Es (List Int) pattern__2 pattern__2h, Es (List Int) pattern__3 pattern__3h, Es (List Int) m__0 m__0h, Es (List Int) m__1 m__1h] := Cx.start hI hS
  clear hI hS
  refine enterC (args := [_, _, _]) gok Try.func66 rfl _ rfl rfl rfl ?_
  refine box_ H ?_; clear H; intro b10 w9 hx H
  clear hx
  replace H : Cx w0 fp0 S0 w9 [Bx b10 [(.int .i64 g__0), (g__1h).v, (g__2h).v, (g__3h).v], Es (List (Int × Int × List Int × List Int)) g__1 g__1h, Es (List Int) g__2 g__2h, Es (List Int) g__3 g__3h, Es (List (Int × Int × List Int × List Int)) pattern__1 pattern__1h, Es (List Int) pattern__2 pattern__2h, Es (List Int) pattern__3 pattern__3h, Es (List Int) m__0 m__0h, Es (List Int) m__1 m__1h] := H
  refine box_ H ?_; clear H; intro b13 w12 hx H
  clear hx
  replace H : Cx w0 fp0 S0 w12 [Bx b13 [(.int .i64 pattern__0), (pattern__1h).v, (pattern__2h).v, (pattern__3h).v], Bx b10 [(.int .i64 g__0), (g__1h).v, (g__2h).v, (g__3h).v], Es (List (Int × Int × List Int × List Int)) g__1 g__1h, Es (List Int) g__2 g__2h, Es (List Int) g__3 g__3h, Es (List (Int × Int × List Int × List Int)) pattern__1 pattern__1h, Es (List Int) pattern__2 pattern__2h, Es (List Int) pattern__3 pattern__3h, Es (List Int) m__0 m__0h, Es (List Int) m__1 m__1h] := H
  refine box_ H ?_; clear H; intro b16 w15 hx H
  clear hx
  replace H : Cx w0 fp0 S0 w15 [Bx b16 [(m__0h).v, (m__1h).v], Bx b13 [(.int .i64 pattern__0), (pattern__1h).v, (pattern__2h).v, (pattern__3h).v], Bx b10 [(.int .i64 g__0), (g__1h).v, (g__2h).v, (g__3h).v], Es (List (Int × Int × List Int × List Int)) g__1 g__1h, Es (List Int) g__2 g__2h, Es (List Int) g__3 g__3h, Es (List (Int × Int × List Int × List Int)) pattern__1 pattern__1h, Es (List Int) pattern__2 pattern__2h, Es (List Int) pattern__3 pattern__3h, Es (List Int) m__0 m__0h, Es (List Int) m__1 m__1h] := H
  refine sq ?_
  obtain ⟨r40, hF42, hF41⟩ := bindS hF; clear hF
  refine cut (fun (q43 : Bool) => [(3, (.pointer (some ⟨b10, 0, none⟩))), (4, (.pointer (some ⟨b13, 0, none⟩))), (5, (.pointer (some ⟨b16, 0, none⟩))), (41, (.bool q43))]) (fun (q43 : Bool) w' => q43 = r40 ∧ Cx w0 fp0 S0 w' [Bx b10 [(.int .i64 g__0), (g__1h).v, (g__2h).v, (g__3h).v], Es (List (Int × Int × List Int × List Int)) g__1 g__1h, Es (List Int) g__2 g__2h, Es (List Int) g__3 g__3h, Bx b13 [(.int .i64 pattern__0), (pattern__1h).v, (pattern__2h).v, (pattern__3h).v], Es (List (Int × Int × List Int × List Int)) pattern__1 pattern__1h, Es (List Int) pattern__2 pattern__2h, Es (List Int) pattern__3 pattern__3h, Bx b16 [(m__0h).v, (m__1h).v], Es (List Int) m__0 m__0h, Es (List Int) m__1 m__1h]) ?_ ?_
  · skip
    refine fld gok rfl rfl rfl rfl ?_
    refine load1 (H.bx 0 rfl (j := 0) rfl) ?_
    refine lenE (H.rs (α := List Int) 9 rfl).len ?_
    refine fld gok rfl rfl rfl rfl ?_
    refine load1 (H.bx 1 rfl (j := 0) rfl) ?_
    obtain ⟨a44, e, hF45⟩ := bindS hF42; clear hF42
    refine boolO e ?_; clear e
    cases a44
    · have hF46 := condF hF45; clear hF45
      refine fld gok rfl rfl rfl rfl ?_
      refine load1 (H.bx 0 rfl (j := 1) rfl) ?_
      refine lenE (H.rs (α := List Int) 10 rfl).len ?_
      refine fld gok rfl rfl rfl rfl ?_
      refine load1 (H.bx 1 rfl (j := 1) rfl) ?_
      refine lenE (H.rs (α := List (Int × Int × List Int × List Int)) 6 rfl).len ?_
      obtain ⟨a47, e, hF48⟩ := bindS hF46; clear hF46
      refine boolO e ?_; clear e
      cases a47
      · have hF49 := condF hF48; clear hF48
        refine fld gok rfl rfl rfl rfl ?_
        refine load1 (H.bx 0 rfl (j := 0) rfl) ?_
        refine fld gok rfl rfl rfl rfl ?_
        refine load1 (H.bx 2 rfl (j := 0) rfl) ?_
        obtain ⟨y50, e, hF51⟩ := bindS hF49; clear hF49
        have ey50 := e; clear e
        refine callF (impl_areDifferent_c m__0 m__0h g__0 y50 ey50) (Γi := []) H ⟨Vw.sh 9 rfl, trivial⟩ ?_; clear H ey50
        rintro _ _ w52 ⟨rfl, rfl⟩ (H : Cx w0 fp0 S0 w52 [Bx b16 [(m__0h).v, (m__1h).v], Bx b13 [(.int .i64 pattern__0), (pattern__1h).v, (pattern__2h).v, (pattern__3h).v], Bx b10 [(.int .i64 g__0), (g__1h).v, (g__2h).v, (g__3h).v], Es (List (Int × Int × List Int × List Int)) g__1 g__1h, Es (List Int) g__2 g__2h, Es (List Int) g__3 g__3h, Es (List (Int × Int × List Int × List Int)) pattern__1 pattern__1h, Es (List Int) pattern__2 pattern__2h, Es (List Int) pattern__3 pattern__3h, Es (List Int) m__0 m__0h, Es (List Int) m__1 m__1h])
        obtain ⟨a53, e, hF54⟩ := bindS hF51; clear hF51
        refine boolO e ?_; clear e
        cases a53
        · have hF55 := condF hF54; clear hF54
          refine fld gok rfl rfl rfl rfl ?_
          refine load1 (H.bx 0 rfl (j := 1) rfl) ?_
          refine fld gok rfl rfl rfl rfl ?_
          refine load1 (H.bx 2 rfl (j := 1) rfl) ?_
          refine lenE (H.rs (α := List (Int × Int × List Int × List Int)) 3 rfl).len ?_
          obtain ⟨y56, e, hF57⟩ := bindS hF55; clear hF55
          have ey56 := e; clear e
          refine callF (impl_areDifferent_c m__1 m__1h ((g__1.length : Nat) : Int) y56 ey56) (Γi := []) H ⟨Vw.sh 10 rfl, trivial⟩ ?_; clear H ey56
          rintro _ _ w58 ⟨rfl, rfl⟩ (H : Cx w0 fp0 S0 w58 [Bx b16 [(m__0h).v, (m__1h).v], Bx b13 [(.int .i64 pattern__0), (pattern__1h).v, (pattern__2h).v, (pattern__3h).v], Bx b10 [(.int .i64 g__0), (g__1h).v, (g__2h).v, (g__3h).v], Es (List (Int × Int × List Int × List Int)) g__1 g__1h, Es (List Int) g__2 g__2h, Es (List Int) g__3 g__3h, Es (List (Int × Int × List Int × List Int)) pattern__1 pattern__1h, Es (List Int) pattern__2 pattern__2h, Es (List Int) pattern__3 pattern__3h, Es (List Int) m__0 m__0h, Es (List Int) m__1 m__1h])
          obtain ⟨a59, e, hF60⟩ := bindS hF57; clear hF57
          refine boolO e ?_; clear e
          exact ⟨a59, ⟨rfl, rfl, rfl, rfl, trivial⟩, Option.some.inj hF60, H.sel [2, 3, 4, 5, 1, 6, 7, 8, 0, 9, 10] rfl⟩
        · have hF61 := condT hF54; clear hF54
          exact ⟨true, ⟨rfl, rfl, rfl, rfl, trivial⟩, Option.some.inj hF61, H.sel [2, 3, 4, 5, 1, 6, 7, 8, 0, 9, 10] rfl⟩
      · have hF62 := condT hF48; clear hF48
        exact ⟨true, ⟨rfl, rfl, rfl, rfl, trivial⟩, Option.some.inj hF62, H.sel [2, 3, 4, 5, 1, 6, 7, 8, 0, 9, 10] rfl⟩
    · have hF63 := condT hF45; clear hF45
      exact ⟨true, ⟨rfl, rfl, rfl, rfl, trivial⟩, Option.some.inj hF63, H.sel [2, 3, 4, 5, 1, 6, 7, 8, 0, 9, 10] rfl⟩
  · clear hF42 H
    rintro T65 s38 w64 ⟨hr, (H : Cx w0 fp0 S0 w64 [Bx b10 [(.int .i64 g__0), (g__1h).v, (g__2h).v, (g__3h).v], Es (List (Int × Int × List Int × List Int)) g__1 g__1h, Es (List Int) g__2 g__2h, Es (List Int) g__3 g__3h, Bx b13 [(.int .i64 pattern__0), (pattern__1h).v, (pattern__2h).v, (pattern__3h).v], Es (List (Int × Int × List Int × List Int)) pattern__1 pattern__1h, Es (List Int) pattern__2 pattern__2h, Es (List Int) pattern__3 pattern__3h, Bx b16 [(m__0h).v, (m__1h).v], Es (List Int) m__0 m__0h, Es (List Int) m__1 m__1h])⟩
    subst hr
    cases s38
    · have hF66 := condF hF41; clear hF41
      refine sq ?_
      refine fld gok rfl rfl rfl rfl ?_
      refine load1 (H.bx 4 rfl (j := 1) rfl) ?_
      refine lenE (H.rs (α := List (Int × Int × List Int × List Int)) 5 rfl).len ?_
      have hmx259 := (H.rs (α := List (Int × Int × List Int × List Int)) 5 rfl).max
      obtain ⟨r260, e, hF261⟩ := bindS hF66; clear hF66
      refine loopO _ pattern__1.length (fun (k67 : Nat) (_ : Unit) (_ : Unit) => [(3, (.pointer (some ⟨b10, 0, none⟩))), (5, (.pointer (some ⟨b16, 0, none⟩))), (43, (pattern__1h).v), (44, (.int .i64 ((pattern__1.length : Nat) : Int))), (45, (.int .i64 ((k67 : Nat) : Int)))]) (fun _ (_ : Unit) (_ : Unit) w' => Cx w0 fp0 S0 w' [Bx b10 [(.int .i64 g__0), (g__1h).v, (g__2h).v, (g__3h).v], Es (List (Int × Int × List Int × List Int)) g__1 g__1h, Es (List Int) g__2 g__2h, Es (List Int) g__3 g__3h, Bx b16 [(m__0h).v, (m__1h).v], Es (List Int) m__0 m__0h, Es (List Int) m__1 m__1h, Es (List (Int × Int × List Int × List Int)) pattern__1 pattern__1h]) () () e ⟨rfl, rfl, rfl, rfl, rfl, trivial⟩ (H.sel [0, 1, 2, 3, 8, 9, 10, 5] rfl) ?_ ?_
      · clear H e
        rintro T263 k67 _ _ w262 o264 hk (H : Cx w0 fp0 S0 w262 [Bx b10 [(.int .i64 g__0), (g__1h).v, (g__2h).v, (g__3h).v], Es (List (Int × Int × List Int × List Int)) g__1 g__1h, Es (List Int) g__2 g__2h, Es (List Int) g__3 g__3h, Bx b16 [(m__0h).v, (m__1h).v], Es (List Int) m__0 m__0h, Es (List Int) m__1 m__1h, Es (List (Int × Int × List Int × List Int)) pattern__1 pattern__1h]) hrt hF265
        refine boolE (z := true) (ltLen hk) ?_
        refine sq ?_
        refine sq ?_
        obtain ⟨a272, e, hF273⟩ := bindS hF265; clear hF265
        have HH := H; clear H; obtain ⟨p270, m271, g274, c266, c267, c268, c269, H⟩ := HH.el (α := Int × Int × List Int × List Int) 7 rfl e; clear HH
        clear e
        obtain ⟨a272_0, a272_1, a272_2, a272_3⟩ := a272
        obtain ⟨_, _, h276, h277⟩ := g274
        replace H := H.part (β := List Int) a272_2 (h276 : Hd) 0 rfl (fun S h => (And.left (And.right (And.right h))))
        replace H := H.part (β := List Int) a272_3 (h277 : Hd) 1 rfl (fun S h => (And.right (And.right (And.right h))))
        replace H := H.sel [0, 1, 3, 4, 5, 6, 7, 8, 9, 10] rfl
        refine idxE c266 c267 c268 ?_; clear c266 c267 c268
        refine loadN [(.int .i64 a272_0), (.int .i64 a272_1), (h276).v, (h277).v] rfl c269 ?_; clear c269
        refine alloc_ gok rfl H ?_; clear H; intro b281 w280 hx H
        clear hx
        replace H : Cx w0 fp0 S0 w280 [Bx b281 [(.int .i64 0), (.int .i64 0), (.slice none 0 0), (.slice none 0 0)], Es (List Int) a272_3 h277, Es (List Int) a272_2 h276, Bx b10 [(.int .i64 g__0), (g__1h).v, (g__2h).v, (g__3h).v], Es (List (Int × Int × List Int × List Int)) g__1 g__1h, Es (List Int) g__2 g__2h, Es (List Int) g__3 g__3h, Bx b16 [(m__0h).v, (m__1h).v], Es (List Int) m__0 m__0h, Es (List Int) m__1 m__1h, Es (List (Int × Int × List Int × List Int)) pattern__1 pattern__1h] := H
        refine stA gok [(.int .i64 a272_0), (.int .i64 a272_1), (h276).v, (h277).v] rfl H rfl rfl rfl ?_; clear H; intro w283 H
        replace H : Cx w0 fp0 S0 w283 [Bx b281 [(.int .i64 a272_0), (.int .i64 a272_1), (h276).v, (h277).v], Es (List Int) a272_3 h277, Es (List Int) a272_2 h276, Bx b10 [(.int .i64 g__0), (g__1h).v, (g__2h).v, (g__3h).v], Es (List (Int × Int × List Int × List Int)) g__1 g__1h, Es (List Int) g__2 g__2h, Es (List Int) g__3 g__3h, Bx b16 [(m__0h).v, (m__1h).v], Es (List Int) m__0 m__0h, Es (List Int) m__1 m__1h, Es (List (Int × Int × List Int × List Int)) pattern__1 pattern__1h] := H
        obtain ⟨r353, hF355, hF354⟩ := bindS hF273; clear hF273
        refine heldJ H [16] (.fst 0 (.fst 2 (.fst 4 (.fst 6 (.fst 9 (.fst 11 (.fst 1 (.fst 3 (.fst 5 (.fst 7 (.fst 10 (.fst 12 (.alts (.alt 8 (.alts (.alt 13 (.fst 14 (.act 15 (.act 16 .done))) (.alt 15 (.act 13 (.fst 14 (.act 16 .done))) .no))) (.alt 15 (.act 8 (.act 13 (.fst 14 (.act 16 .done)))) .no))))))))))))))) mixed [] trivial (by kernel_rfl) (fun (q356 : (Int × Int × List Int × List Int) × (Hd × Hd × Nat)) => [(3, (.pointer (some ⟨b10, 0, none⟩))), (5, (.pointer (some ⟨b16, 0, none⟩))), (7, (.int .i64 ((k67 : Nat) : Int))), (9, (.pointer (some ⟨q356.2.2.2, 0, none⟩))), (43, (pattern__1h).v), (44, (.int .i64 ((pattern__1.length : Nat) : Int))), (45, (.int .i64 ((k67 : Nat) : Int)))]) (fun (q356 : (Int × Int × List Int × List Int) × (Hd × Hd × Nat)) w' => (q356.1.1, q356.1.2.1, q356.1.2.2.1, q356.1.2.2.2) = r353 ∧ Cx w0 fp0 S0 w' [Bx b10 [(.int .i64 g__0), (g__1h).v, (g__2h).v, (g__3h).v], Es (List (Int × Int × List Int × List Int)) g__1 g__1h, Es (List Int) g__2 g__2h, Es (List Int) g__3 g__3h, Bx b16 [(m__0h).v, (m__1h).v], Es (List Int) m__0 m__0h, Es (List Int) m__1 m__1h, Bx q356.2.2.2 [(.int .i64 q356.1.1), (.int .i64 q356.1.2.1), (q356.2.1).v, (q356.2.2.1).v], E (List Int) q356.1.2.2.1 q356.2.1, E (List Int) q356.1.2.2.2 q356.2.2.1, Es (List (Int × Int × List Int × List Int)) pattern__1 pattern__1h]) ?_ ?_
        · skip
          clear H; intro w357 H
          have hX : Ext w357 w357 := Upd.refl _ _
          have H0 := H
          refine anyH (fun _ => fld gok rfl rfl rfl rfl ⟨rfl, rfl⟩) ?_
          refine anyH (fun _ => fld gok rfl rfl rfl rfl ⟨rfl, rfl⟩) ?_
          refine anyH (fun _ => fld gok rfl rfl rfl rfl ⟨rfl, rfl⟩) ?_
          refine anyH (fun _ => fld gok rfl rfl rfl rfl ⟨rfl, rfl⟩) ?_
          refine anyH (fun _ => fld gok rfl rfl rfl rfl ⟨rfl, rfl⟩) ?_
          refine anyH (fun _ => fld gok rfl rfl rfl rfl ⟨rfl, rfl⟩) ?_
          refine load1X (H.bx 0 rfl (j := 0) rfl) ?_
          refine load1X (H.bx 0 rfl (j := 1) rfl) ?_
          refine load1X (H.bx 0 rfl (j := 2) rfl) ?_
          refine load1X (H.bx 7 rfl (j := 0) rfl) ?_
          refine load1X (H.bx 0 rfl (j := 3) rfl) ?_
          refine load1X (H.bx 7 rfl (j := 0) rfl) ?_
          refine both ?_ ?_
          · skip
            obtain ⟨y372, e, hF373⟩ := bindS hF355; clear hF355
            have ey372 := e; clear e
            refine callFx (impl_mapped_c a272_2 h276 m__0 m__0h y372 ey372) H ⟨Vw.sh 2 rfl, Vw.sh 8 rfl, trivial⟩ ?_; clear H ey372
            rintro _ _ w374 ⟨h375, rfl, rfl⟩ hx (H : Cx w0 fp0 S0 w374 [E (List Int) y372 h375, Bx b281 [(.int .i64 a272_0), (.int .i64 a272_1), (h276).v, (h277).v], Es (List Int) a272_3 h277, Es (List Int) a272_2 h276, Bx b10 [(.int .i64 g__0), (g__1h).v, (g__2h).v, (g__3h).v], Es (List (Int × Int × List Int × List Int)) g__1 g__1h, Es (List Int) g__2 g__2h, Es (List Int) g__3 g__3h, Bx b16 [(m__0h).v, (m__1h).v], Es (List Int) m__0 m__0h, Es (List Int) m__1 m__1h, Es (List (Int × Int × List Int × List Int)) pattern__1 pattern__1h])
            replace hX := hX.trans0 hx; clear hx
            refine hold hX ?_
            refine both ?_ ?_
            · skip
              obtain ⟨y386, e, hF387⟩ := bindS hF373; clear hF373
              have ey386 := e; clear e
              refine callFx (impl_mapped_c a272_3 h277 m__0 m__0h y386 ey386) H ⟨Vw.sh 2 rfl, Vw.sh 9 rfl, trivial⟩ ?_; clear H ey386
              rintro _ _ w388 ⟨h389, rfl, rfl⟩ hx (H : Cx w0 fp0 S0 w388 [E (List Int) y386 h389, E (List Int) y372 h375, Bx b281 [(.int .i64 a272_0), (.int .i64 a272_1), (h276).v, (h277).v], Es (List Int) a272_3 h277, Es (List Int) a272_2 h276, Bx b10 [(.int .i64 g__0), (g__1h).v, (g__2h).v, (g__3h).v], Es (List (Int × Int × List Int × List Int)) g__1 g__1h, Es (List Int) g__2 g__2h, Es (List Int) g__3 g__3h, Bx b16 [(m__0h).v, (m__1h).v], Es (List Int) m__0 m__0h, Es (List Int) m__1 m__1h, Es (List (Int × Int × List Int × List Int)) pattern__1 pattern__1h])
              replace hX := hX.trans0 hx; clear hx
              refine hold hX ?_
              refine anyH (fun _ => build_ (cs := #[(.int .i64 a272_0), (.int .i64 a272_1), (h375).v, (h389).v]) gok rfl rfl rfl ⟨rfl, rfl⟩) ?_
              refine alloc_ gok rfl H ?_; clear H; intro b392 w391 hx H
              replace hX := hX.trans0 hx; clear hx
              replace H : Cx w0 fp0 S0 w391 [Bx b392 [(.int .i64 0), (.int .i64 0), (.slice none 0 0), (.slice none 0 0)], E (List Int) y386 h389, E (List Int) y372 h375, Bx b281 [(.int .i64 a272_0), (.int .i64 a272_1), (h276).v, (h277).v], Es (List Int) a272_3 h277, Es (List Int) a272_2 h276, Bx b10 [(.int .i64 g__0), (g__1h).v, (g__2h).v, (g__3h).v], Es (List (Int × Int × List Int × List Int)) g__1 g__1h, Es (List Int) g__2 g__2h, Es (List Int) g__3 g__3h, Bx b16 [(m__0h).v, (m__1h).v], Es (List Int) m__0 m__0h, Es (List Int) m__1 m__1h, Es (List (Int × Int × List Int × List Int)) pattern__1 pattern__1h] := H
              refine hold hX ?_
              refine stA gok [(.int .i64 a272_0), (.int .i64 a272_1), (h375).v, (h389).v] rfl H rfl rfl rfl ?_; clear H; intro w394 H
              replace H : Cx w0 fp0 S0 w394 [Bx b392 [(.int .i64 a272_0), (.int .i64 a272_1), (h375).v, (h389).v], E (List Int) y386 h389, E (List Int) y372 h375, Bx b281 [(.int .i64 a272_0), (.int .i64 a272_1), (h276).v, (h277).v], Es (List Int) a272_3 h277, Es (List Int) a272_2 h276, Bx b10 [(.int .i64 g__0), (g__1h).v, (g__2h).v, (g__3h).v], Es (List (Int × Int × List Int × List Int)) g__1 g__1h, Es (List Int) g__2 g__2h, Es (List Int) g__3 g__3h, Bx b16 [(m__0h).v, (m__1h).v], Es (List Int) m__0 m__0h, Es (List Int) m__1 m__1h, Es (List (Int × Int × List Int × List Int)) pattern__1 pattern__1h] := H
              refine hold trivial ?_
              exact ⟨((a272_0, a272_1, y372, y386), (h375, h389, b392)), ⟨rfl, rfl, rfl, rfl, rfl, rfl, rfl, trivial⟩, Option.some.inj hF387, H.sel [6, 7, 8, 9, 10, 11, 12, 0, 2, 1, 13] rfl⟩
            · skip
              refine both ?_ ?_
              · skip
                obtain ⟨a395, eq396, hF397⟩ := bindS hF373; clear hF373
                refine alloc_ gok rfl H ?_; clear H; intro b399 w398 hx H
                replace hX := hX.trans0 hx; clear hx
                replace H : Cx w0 fp0 S0 w398 [Bx b399 [(.int .i64 0), (.int .i64 0), (.slice none 0 0), (.slice none 0 0)], E (List Int) y372 h375, Bx b281 [(.int .i64 a272_0), (.int .i64 a272_1), (h276).v, (h277).v], Es (List Int) a272_3 h277, Es (List Int) a272_2 h276, Bx b10 [(.int .i64 g__0), (g__1h).v, (g__2h).v, (g__3h).v], Es (List (Int × Int × List Int × List Int)) g__1 g__1h, Es (List Int) g__2 g__2h, Es (List Int) g__3 g__3h, Bx b16 [(m__0h).v, (m__1h).v], Es (List Int) m__0 m__0h, Es (List Int) m__1 m__1h, Es (List (Int × Int × List Int × List Int)) pattern__1 pattern__1h] := H
                refine hold hX ?_
                have e := eq396; clear eq396
                have ea395 := e; clear e
                refine callFx (impl_mapped_c a272_3 h277 m__0 m__0h a395 ea395) H ⟨Vw.sh 3 rfl, Vw.sh 10 rfl, trivial⟩ ?_; clear H ea395
                rintro _ _ w401 ⟨h402, rfl, rfl⟩ hx (H : Cx w0 fp0 S0 w401 [E (List Int) a395 h402, Bx b399 [(.int .i64 0), (.int .i64 0), (.slice none 0 0), (.slice none 0 0)], E (List Int) y372 h375, Bx b281 [(.int .i64 a272_0), (.int .i64 a272_1), (h276).v, (h277).v], Es (List Int) a272_3 h277, Es (List Int) a272_2 h276, Bx b10 [(.int .i64 g__0), (g__1h).v, (g__2h).v, (g__3h).v], Es (List (Int × Int × List Int × List Int)) g__1 g__1h, Es (List Int) g__2 g__2h, Es (List Int) g__3 g__3h, Bx b16 [(m__0h).v, (m__1h).v], Es (List Int) m__0 m__0h, Es (List Int) m__1 m__1h, Es (List (Int × Int × List Int × List Int)) pattern__1 pattern__1h])
                replace hX := hX.trans0 hx; clear hx
                refine hold hX ?_
                refine anyH (fun _ => build_ (cs := #[(.int .i64 a272_0), (.int .i64 a272_1), (h375).v, (h402).v]) gok rfl rfl rfl ⟨rfl, rfl⟩) ?_
                replace H := H.sel [1, 0, 2, 3, 4, 5, 6, 7, 8, 9, 10, 11, 12, 13] rfl
                refine stA gok [(.int .i64 a272_0), (.int .i64 a272_1), (h375).v, (h402).v] rfl H rfl rfl rfl ?_; clear H; intro w404 H
                replace H : Cx w0 fp0 S0 w404 [Bx b399 [(.int .i64 a272_0), (.int .i64 a272_1), (h375).v, (h402).v], E (List Int) a395 h402, E (List Int) y372 h375, Bx b281 [(.int .i64 a272_0), (.int .i64 a272_1), (h276).v, (h277).v], Es (List Int) a272_3 h277, Es (List Int) a272_2 h276, Bx b10 [(.int .i64 g__0), (g__1h).v, (g__2h).v, (g__3h).v], Es (List (Int × Int × List Int × List Int)) g__1 g__1h, Es (List Int) g__2 g__2h, Es (List Int) g__3 g__3h, Bx b16 [(m__0h).v, (m__1h).v], Es (List Int) m__0 m__0h, Es (List Int) m__1 m__1h, Es (List (Int × Int × List Int × List Int)) pattern__1 pattern__1h] := H
                refine hold trivial ?_
                exact ⟨((a272_0, a272_1, y372, a395), (h375, h402, b399)), ⟨rfl, rfl, rfl, rfl, rfl, rfl, rfl, trivial⟩, Option.some.inj hF397, H.sel [6, 7, 8, 9, 10, 11, 12, 0, 2, 1, 13] rfl⟩
              · skip
                exact trivial
          · skip
            refine both ?_ ?_
            · skip
              obtain ⟨a405, eq406, hF407⟩ := bindS hF355; clear hF355
              obtain ⟨a408, eq409, hF410⟩ := bindS hF407; clear hF407
              refine alloc_ gok rfl H ?_; clear H; intro b412 w411 hx H
              replace hX := hX.trans0 hx; clear hx
              replace H : Cx w0 fp0 S0 w411 [Bx b412 [(.int .i64 0), (.int .i64 0), (.slice none 0 0), (.slice none 0 0)], Bx b281 [(.int .i64 a272_0), (.int .i64 a272_1), (h276).v, (h277).v], Es (List Int) a272_3 h277, Es (List Int) a272_2 h276, Bx b10 [(.int .i64 g__0), (g__1h).v, (g__2h).v, (g__3h).v], Es (List (Int × Int × List Int × List Int)) g__1 g__1h, Es (List Int) g__2 g__2h, Es (List Int) g__3 g__3h, Bx b16 [(m__0h).v, (m__1h).v], Es (List Int) m__0 m__0h, Es (List Int) m__1 m__1h, Es (List (Int × Int × List Int × List Int)) pattern__1 pattern__1h] := H
              refine hold hX ?_
              have e := eq406; clear eq406
              have ea405 := e; clear e
              refine callFx (impl_mapped_c a272_2 h276 m__0 m__0h a405 ea405) H ⟨Vw.sh 3 rfl, Vw.sh 9 rfl, trivial⟩ ?_; clear H ea405
              rintro _ _ w414 ⟨h415, rfl, rfl⟩ hx (H : Cx w0 fp0 S0 w414 [E (List Int) a405 h415, Bx b412 [(.int .i64 0), (.int .i64 0), (.slice none 0 0), (.slice none 0 0)], Bx b281 [(.int .i64 a272_0), (.int .i64 a272_1), (h276).v, (h277).v], Es (List Int) a272_3 h277, Es (List Int) a272_2 h276, Bx b10 [(.int .i64 g__0), (g__1h).v, (g__2h).v, (g__3h).v], Es (List (Int × Int × List Int × List Int)) g__1 g__1h, Es (List Int) g__2 g__2h, Es (List Int) g__3 g__3h, Bx b16 [(m__0h).v, (m__1h).v], Es (List Int) m__0 m__0h, Es (List Int) m__1 m__1h, Es (List (Int × Int × List Int × List Int)) pattern__1 pattern__1h])
              replace hX := hX.trans0 hx; clear hx
              refine hold hX ?_
              have e := eq409; clear eq409
              have ea408 := e; clear e
              refine callFx (impl_mapped_c a272_3 h277 m__0 m__0h a408 ea408) H ⟨Vw.sh 3 rfl, Vw.sh 10 rfl, trivial⟩ ?_; clear H ea408
              rintro _ _ w417 ⟨h418, rfl, rfl⟩ hx (H : Cx w0 fp0 S0 w417 [E (List Int) a408 h418, E (List Int) a405 h415, Bx b412 [(.int .i64 0), (.int .i64 0), (.slice none 0 0), (.slice none 0 0)], Bx b281 [(.int .i64 a272_0), (.int .i64 a272_1), (h276).v, (h277).v], Es (List Int) a272_3 h277, Es (List Int) a272_2 h276, Bx b10 [(.int .i64 g__0), (g__1h).v, (g__2h).v, (g__3h).v], Es (List (Int × Int × List Int × List Int)) g__1 g__1h, Es (List Int) g__2 g__2h, Es (List Int) g__3 g__3h, Bx b16 [(m__0h).v, (m__1h).v], Es (List Int) m__0 m__0h, Es (List Int) m__1 m__1h, Es (List (Int × Int × List Int × List Int)) pattern__1 pattern__1h])
              replace hX := hX.trans0 hx; clear hx
              refine hold hX ?_
              refine anyH (fun _ => build_ (cs := #[(.int .i64 a272_0), (.int .i64 a272_1), (h415).v, (h418).v]) gok rfl rfl rfl ⟨rfl, rfl⟩) ?_
              replace H := H.sel [2, 0, 1, 3, 4, 5, 6, 7, 8, 9, 10, 11, 12, 13] rfl
              refine stA gok [(.int .i64 a272_0), (.int .i64 a272_1), (h415).v, (h418).v] rfl H rfl rfl rfl ?_; clear H; intro w420 H
              replace H : Cx w0 fp0 S0 w420 [Bx b412 [(.int .i64 a272_0), (.int .i64 a272_1), (h415).v, (h418).v], E (List Int) a408 h418, E (List Int) a405 h415, Bx b281 [(.int .i64 a272_0), (.int .i64 a272_1), (h276).v, (h277).v], Es (List Int) a272_3 h277, Es (List Int) a272_2 h276, Bx b10 [(.int .i64 g__0), (g__1h).v, (g__2h).v, (g__3h).v], Es (List (Int × Int × List Int × List Int)) g__1 g__1h, Es (List Int) g__2 g__2h, Es (List Int) g__3 g__3h, Bx b16 [(m__0h).v, (m__1h).v], Es (List Int) m__0 m__0h, Es (List Int) m__1 m__1h, Es (List (Int × Int × List Int × List Int)) pattern__1 pattern__1h] := H
              refine hold trivial ?_
              exact ⟨((a272_0, a272_1, a405, a408), (h415, h418, b412)), ⟨rfl, rfl, rfl, rfl, rfl, rfl, rfl, trivial⟩, Option.some.inj hF410, H.sel [6, 7, 8, 9, 10, 11, 12, 0, 2, 1, 13] rfl⟩
            · skip
              exact trivial
        · clear hF355 H
          rintro T422 ⟨⟨s348_0, s348_1, s348_2, s348_3⟩, ⟨g349_0, g349_1, g349_2⟩⟩ w421 ⟨hr, (H : Cx w0 fp0 S0 w421 [Bx b10 [(.int .i64 g__0), (g__1h).v, (g__2h).v, (g__3h).v], Es (List (Int × Int × List Int × List Int)) g__1 g__1h, Es (List Int) g__2 g__2h, Es (List Int) g__3 g__3h, Bx b16 [(m__0h).v, (m__1h).v], Es (List Int) m__0 m__0h, Es (List Int) m__1 m__1h, Bx g349_2 [(.int .i64 s348_0), (.int .i64 s348_1), (g349_0).v, (g349_1).v], E (List Int) s348_2 g349_0, E (List Int) s348_3 g349_1, Es (List (Int × Int × List Int × List Int)) pattern__1 pattern__1h])⟩
          subst hr
          refine heldX H [] (.fst 1 (.fst 3 (.fst 5 (.fst 0 (.fst 2 (.fst 4 (.fst 6 (.fst 7 (.fst 8 (.fst 9 (.act 10 (.fst 11 .done)))))))))))) mixed [] trivial (by kernel_rfl) ?_
          clear H; intro w423 H
          have hX : Ext w423 w423 := Upd.refl _ _
          have H0 := H
          refine anyH (fun _ => fld gok rfl rfl rfl rfl ⟨rfl, rfl⟩) ?_
          refine anyH (fun _ => fld gok rfl rfl rfl rfl ⟨rfl, rfl⟩) ?_
          refine loadNX [(.int .i64 s348_0), (.int .i64 s348_1), (g349_0).v, (g349_1).v] rfl (fun j u hj => H.bx 7 rfl hj) ?_
          refine load1X (H.bx 0 rfl (j := 1) rfl) ?_
          refine load1X (H.bx 4 rfl (j := 1) rfl) ?_
          obtain ⟨a430, e, hF431⟩ := bindS hF354; clear hF354
          obtain ⟨p428, m429, c424, c425, c426, c427⟩ := (H.rs (α := List Int) 6 rfl).at1 e; clear e
          refine idxE c424 c425 c426 ?_; clear c424 c425 c426
          refine load1X c427 ?_; clear c427
          obtain ⟨a438, e, hF439⟩ := bindS hF431; clear hF431
          have HH := H; clear H; obtain ⟨p436, m437, g440, c432, c433, c434, c435, H⟩ := HH.el (α := Int × Int × List Int × List Int) 1 rfl e; clear HH
          clear e
          obtain ⟨a438_0, a438_1, a438_2, a438_3⟩ := a438
          obtain ⟨_, _, h442, h443⟩ := g440
          replace H := H.part (β := List Int) a438_2 (h442 : Hd) 0 rfl (fun S h => (And.left (And.right (And.right h))))
          replace H := H.part (β := List Int) a438_3 (h443 : Hd) 1 rfl (fun S h => (And.right (And.right (And.right h))))
          replace H := H.sel [0, 1, 3, 4, 5, 6, 7, 8, 9, 10, 11, 12, 13] rfl
          refine idxE c432 c433 c434 ?_; clear c432 c433 c434
          refine loadNX [(.int .i64 a438_0), (.int .i64 a438_1), (h442).v, (h443).v] rfl c435 ?_; clear c435
          obtain ⟨y446, e, hF447⟩ := bindS hF439; clear hF439
          have ey446 := e; clear e
          refine callFx (impl_equalEdges_c s348_0 s348_1 s348_2 g349_0 s348_3 g349_1 a438_0 a438_1 a438_2 h442 a438_3 h443 y446 ey446) H ⟨Vw.own 10 rfl, Vw.own 11 rfl, Vw.sh 1 rfl, Vw.sh 0 rfl, trivial⟩ ?_; clear H ey446
          rintro _ _ w448 ⟨rfl, rfl⟩ hx (H : Cx w0 fp0 S0 w448 [Es (List Int) a438_3 h443, Es (List Int) a438_2 h442, Bx b10 [(.int .i64 g__0), (g__1h).v, (g__2h).v, (g__3h).v], Es (List (Int × Int × List Int × List Int)) g__1 g__1h, Es (List Int) g__2 g__2h, Es (List Int) g__3 g__3h, Bx b16 [(m__0h).v, (m__1h).v], Es (List Int) m__0 m__0h, Es (List Int) m__1 m__1h, Bx g349_2 [(.int .i64 s348_0), (.int .i64 s348_1), (g349_0).v, (g349_1).v], E (List Int) s348_2 g349_0, E (List Int) s348_3 g349_1, Es (List (Int × Int × List Int × List Int)) pattern__1 pattern__1h])
          replace hX := hX.trans0 hx; clear hx
          refine hold hX ?_
          obtain ⟨a449, e, hF450⟩ := bindS hF447; clear hF447
          refine boolO e ?_; clear e
          cases a449
          · have hF451 := condF hF450; clear hF450
            refine arK hk hmx259 ?_
            have hs := Option.some.inj hF451; subst hs; clear hF451
            exact ⟨(), (), rfl, ⟨rfl, rfl, rfl, rfl, rfl, trivial⟩, H.sel [2, 3, 4, 5, 6, 7, 8, 12] rfl⟩
          · have hF452 := condT hF450; clear hF450
            have hs := Option.some.inj hF452; subst hs; clear hF452
            have hr := hrt _ rfl; subst hr
            have hF453 : some _ = some _ := hF261
            cases hF453
            exact ⟨_, _, rfl, ⟨rfl, rfl⟩, (H.sel [] rfl).close trivial⟩
      · clear H e
        rintro T455 _ _ w454 hr (H : Cx w0 fp0 S0 w454 [Bx b10 [(.int .i64 g__0), (g__1h).v, (g__2h).v, (g__3h).v], Es (List (Int × Int × List Int × List Int)) g__1 g__1h, Es (List Int) g__2 g__2h, Es (List Int) g__3 g__3h, Bx b16 [(m__0h).v, (m__1h).v], Es (List Int) m__0 m__0h, Es (List Int) m__1 m__1h, Es (List (Int × Int × List Int × List Int)) pattern__1 pattern__1h])
        subst hr
        refine boolE (z := false) geLen ?_
        refine sq ?_
        cases hF261
        exact ⟨_, _, rfl, ⟨rfl, rfl⟩, (H.sel [] rfl).close trivial⟩
    · have hF458 := condT hF41; clear hF41
      cases hF458
      exact ⟨_, _, rfl, ⟨rfl, rfl⟩, (H.sel [] rfl).close trivial⟩

theorem impl_clone_c (list_ : List Int) (list_h : Hd) (y : List Int) (hF : F_impl_clone list_ = some y) :
    ConF Try.prog 84 #[(list_h).v] [Es (List Int) list_ list_h] [] (fun v Γ' => ∃ z0 : Hd, v = (z0).v ∧ Γ' = [E (List Int) y z0]) := by
  intro w0 S0 fp0 hI hS
  have H : Cx w0 fp0 S0 w0 [Es (List Int) list_ list_h] := Cx.start hI hS
  clear hI hS
  refine enterC (args := [_]) gok Try.func84 rfl _ rfl rfl rfl ?_
  refine lit0 (α := Int) gok rfl rfl H ?_; clear H; intro h3 w2 hx H
  clear hx
  obtain ⟨a5, e, hF6⟩ := bindS hF; clear hF
  refine appendS (α := Int) gok rfl rfl rfl rfl H (Vw.sh 0 rfl) e ?_; clear e H; intro h8 w7 H
  cases hF6
  exact ⟨_, _, rfl, ⟨h8, rfl, rfl⟩, (H.sel [0] rfl).close ⟨cloE, trivial⟩⟩

theorem slices_Index_int_int_c (s_ : List Int) (s_h : Hd) (v_ : Int) (y : Int) (hF : F_slices_Index_int_int s_ v_ = some y) :
    ConF Try.prog 123 #[(s_h).v, (.int .i64 v_)] [Es (List Int) s_ s_h] [] (fun v Γ' => v = (.int .i64 y) ∧ Γ' = []) := by
  intro w0 S0 fp0 hI hS
  have H : Cx w0 fp0 S0 w0 [Es (List Int) s_ s_h] := Cx.start hI hS
  clear hI hS
  refine enterC (args := [_, _]) gok Try.func123 rfl _ rfl rfl rfl ?_
  refine sq ?_
  refine lenE (H.rs (α := List Int) 0 rfl).len ?_
  have hmx19 := (H.rs (α := List Int) 0 rfl).max
  obtain ⟨r20, e, hF21⟩ := bindS hF; clear hF
  refine loopO _ s_.length (fun (k2 : Nat) (_ : Unit) (_ : Unit) => [(0, (s_h).v), (1, (.int .i64 v_)), (7, (.int .i64 ((s_.length : Nat) : Int))), (8, (.int .i64 ((k2 : Nat) : Int)))]) (fun _ (_ : Unit) (_ : Unit) w' => Cx w0 fp0 S0 w' [Es (List Int) s_ s_h]) () () e ⟨rfl, rfl, rfl, rfl, trivial⟩ (H.sel [0] rfl) ?_ ?_
  · clear H e
    rintro T23 k2 _ _ w22 o24 hk (H : Cx w0 fp0 S0 w22 [Es (List Int) s_ s_h]) hrt hF25
    refine boolE (z := true) (ltLen hk) ?_
    refine sq ?_
    refine sq ?_
    obtain ⟨a32, e, hF33⟩ := bindS hF25; clear hF25
    obtain ⟨p30, m31, c26, c27, c28, c29⟩ := (H.rs (α := List Int) 0 rfl).at1 e; clear e
    refine idxE c26 c27 c28 ?_; clear c26 c27 c28
    refine load1 c29 ?_; clear c29
    obtain ⟨a34, e, hF35⟩ := bindS hF33; clear hF33
    refine boolO e ?_; clear e
    cases a34
    · have hF36 := condF hF35; clear hF35
      refine arK hk hmx19 ?_
      have hs := Option.some.inj hF36; subst hs; clear hF36
      exact ⟨(), (), rfl, ⟨rfl, rfl, rfl, rfl, trivial⟩, H.sel [0] rfl⟩
    · have hF37 := condT hF35; clear hF35
      have hs := Option.some.inj hF37; subst hs; clear hF37
      have hr := hrt _ rfl; subst hr
      have hF38 : some _ = some _ := hF21
      cases hF38
      exact ⟨_, _, rfl, ⟨rfl, rfl⟩, (H.sel [] rfl).close trivial⟩
  · clear H e
    rintro T40 _ _ w39 hr (H : Cx w0 fp0 S0 w39 [Es (List Int) s_ s_h])
    subst hr
    refine boolE (z := false) geLen ?_
    refine sq ?_
    cases hF21
    exact ⟨_, _, rfl, ⟨rfl, rfl⟩, (H.sel [] rfl).close trivial⟩

theorem slices_Contains_int_int_c (s_ : List Int) (s_h : Hd) (v_ : Int) (y : Bool) (hF : F_slices_Contains_int_int s_ v_ = some y) :
    ConF Try.prog 85 #[(s_h).v, (.int .i64 v_)] [Es (List Int) s_ s_h] [] (fun v Γ' => v = (.bool y) ∧ Γ' = []) := by
  intro w0 S0 fp0 hI hS
  have H : Cx w0 fp0 S0 w0 [Es (List Int) s_ s_h] := Cx.start hI hS
  clear hI hS
  refine enterC (args := [_, _]) gok Try.func85 rfl _ rfl rfl rfl ?_
  obtain ⟨y2, e, hF3⟩ := bindS hF; clear hF
  have ey2 := e; clear e
  refine callF (slices_Index_int_int_c s_ s_h v_ y2 ey2) (Γi := []) H ⟨Vw.sh 0 rfl, trivial⟩ ?_; clear H ey2
  rintro _ _ w4 ⟨rfl, rfl⟩ (H : Cx w0 fp0 S0 w4 [Es (List Int) s_ s_h])
  obtain ⟨a5, e, hF6⟩ := bindS hF3; clear hF3
  refine boolO e ?_; clear e
  cases hF6
  exact ⟨_, _, rfl, ⟨rfl, rfl⟩, (H.sel [] rfl).close trivial⟩

theorem impl_Graph_reachable_c (g__0 : Int) (g__1 : List (Int × Int × List Int × List Int)) (g__1h : Hd) (g__2 : List Int) (g__2h : Hd) (g__3 : List Int) (g__3h : Hd) (wires_ : List Int) (wires_h : Hd) (y : List Bool) (hF : F_impl_Graph_reachable (g__0, g__1, g__2, g__3) wires_ = some y) :
    ConF Try.prog 46 #[(.agg #[(.int .i64 g__0), (g__1h).v, (g__2h).v, (g__3h).v]), (wires_h).v] [Es (List (Int × Int × List Int × List Int)) g__1 g__1h, Es (List Int) g__2 g__2h, Es (List Int) g__3 g__3h, Es (List Int) wires_ wires_h] [] (fun v Γ' => ∃ z0 : Hd, v = (z0).v ∧ Γ' = [E (List Bool) y z0]) := by
  intro w0 S0 fp0 hI hS
  have H : Cx w0 fp0 S0 w0 [Es (List (Int × Int × List Int × List Int)) g__1 g__1h, Es (List Int) g__2 g__2h, Es (List Int) g__3 g__3h, Es (List Int) wires_ wires_h] := Cx.start hI hS
  clear hI hS
  refine enterC (args := [_, _]) gok Try.func46 rfl _ rfl rfl rfl ?_
  refine box_ H ?_; clear H; intro b6 w5 hx H
  clear hx
  replace H : Cx w0 fp0 S0 w5 [Bx b6 [(.int .i64 g__0), (g__1h).v, (g__2h).v, (g__3h).v], Es (List (Int × Int × List Int × List Int)) g__1 g__1h, Es (List Int) g__2 g__2h, Es (List Int) g__3 g__3h, Es (List Int) wires_ wires_h] := H
  refine fld gok rfl rfl rfl rfl ?_
  refine load1 (H.bx 0 rfl (j := 0) rfl) ?_
  obtain ⟨a8, e, hF9⟩ := bindS hF; clear hF
  refine make_ (α := Bool) gok rfl rfl rfl rfl (makeCO_of e) H ?_; clear e H; intro h11 w10 hx H
  clear hx
  obtain ⟨y13, e, hF14⟩ := bindS hF9; clear hF9
  have ey13 := e; clear e
  refine callF (impl_clone_c wires_ wires_h y13 ey13) (Γi := []) H ⟨Vw.sh 5 rfl, trivial⟩ ?_; clear H ey13
  rintro _ _ w15 ⟨h16, rfl, rfl⟩ (H : Cx w0 fp0 S0 w15 [E (List Int) y13 h16, E (List Bool) a8 h11, Bx b6 [(.int .i64 g__0), (g__1h).v, (g__2h).v, (g__3h).v], Es (List (Int × Int × List Int × List Int)) g__1 g__1h, Es (List Int) g__2 g__2h, Es (List Int) g__3 g__3h, Es (List Int) wires_ wires_h])
  obtain ⟨r456, hF458, hF457⟩ := bindS hF14; clear hF14
  refine cut (fun (q459 : List Bool) => [(5, (h11).v)]) (fun (q459 : List Bool) w' => q459 = r456 ∧ Cx w0 fp0 S0 w' [E (List Bool) q459 h11]) ?_ ?_
  · skip
    refine loopW _ (fun (s745 : List Bool × List Int) (g746 : Hd) => [(2, (.pointer (some ⟨b6, 0, none⟩))), (5, (h11).v), (6, (g746).v)]) (fun (s745 : List Bool × List Int) (g746 : Hd) w' => Cx w0 fp0 S0 w' [Bx b6 [(.int .i64 g__0), (g__1h).v, (g__2h).v, (g__3h).v], Es (List (Int × Int × List Int × List Int)) g__1 g__1h, Es (List Int) g__2 g__2h, Es (List Int) g__3 g__3h, E (List Bool) s745.1 h11, E (List Int) s745.2 g746]) (a8, y13) h16 hF458 ⟨rfl, rfl, rfl, trivial⟩ (H.sel [2, 3, 4, 5, 1, 0] rfl) ?_
    · clear H
      rintro T752 ⟨s745_0, s745_1⟩ g746 w751 o753 (H : Cx w0 fp0 S0 w751 [Bx b6 [(.int .i64 g__0), (g__1h).v, (g__2h).v, (g__3h).v], Es (List (Int × Int × List Int × List Int)) g__1 g__1h, Es (List Int) g__2 g__2h, Es (List Int) g__3 g__3h, E (List Bool) s745_0 h11, E (List Int) s745_1 g746]) hrt hF754
      refine sq ?_
      refine lenE (H.ro (α := List Int) 5 rfl).len ?_
      obtain ⟨a755, e, hF756⟩ := bindS hF754; clear hF754
      refine boolO e ?_; clear e
      cases a755
      · have hF757 := condF hF756; clear hF756
        have hs := Option.some.inj hF757; subst hs; clear hF757
        have hF758 : some _ = some _ := congrArg some (hrt _ rfl).symm
        exact ⟨s745_0, ⟨rfl, trivial⟩, Option.some.inj hF758, H.sel [4] rfl⟩
      · have hF759 := condT hF756; clear hF756
        obtain ⟨a766, e, hF767⟩ := bindS hF759; clear hF759
        obtain ⟨p764, m765, c760, c761, c762, c763⟩ := (H.ro (α := List Int) 5 rfl).at1 e; clear e
        refine idxE c760 c761 c762 ?_; clear c760 c761 c762
        refine load1 c763 ?_; clear c763
        obtain ⟨a768, e, hF769⟩ := bindS hF767; clear hF767
        replace H := H.sel [5, 0, 1, 2, 3, 4] rfl
        refine slO (α := Int) (hi := none) gok rfl rfl H e rfl (congrArg (fun n : Nat => some (n : Int)) (H.ro (α := List Int) 0 rfl).len) ?_; clear e H; intro h770 H
        refine sq ?_
        obtain ⟨a778, e, hF779⟩ := bindS hF769; clear hF769
        obtain ⟨p776, m777, c772, c773, c774, c775⟩ := (H.ro (α := List Bool) 5 rfl).at1 e; clear e
        refine idxE c772 c773 c774 ?_; clear c772 c773 c774
        refine load1 c775 ?_; clear c775
        cases a778
        · have hF780 := condF hF779; clear hF779
          obtain ⟨a787, e, hF788⟩ := bindS hF780; clear hF780
          have ea787 := e; clear e
          obtain ⟨p785, m786, c781, c782, c783⟩ := (H.ro (α := List Bool) 5 rfl).setp ea787
          refine idxE c781 c782 c783 ?_
          replace H := H.sel [5, 0, 1, 2, 3, 4] rfl
          refine setS (α := Bool) H c781 c782 ea787 ?_; clear H c781 c782 c783 ea787; intro w789 H
          refine fld gok rfl rfl rfl rfl ?_
          refine load1 (H.bx 2 rfl (j := 1) rfl) ?_
          refine lenE (H.rs (α := List (Int × Int × List Int × List Int)) 3 rfl).len ?_
          have hmx855 := (H.rs (α := List (Int × Int × List Int × List Int)) 3 rfl).max
          obtain ⟨r856, e, hF857⟩ := bindS hF788; clear hF788
          refine loopS _ g__1.length (fun (k790 : Nat) (s852 : List Int) (g853 : Hd) => [(2, (.pointer (some ⟨b6, 0, none⟩))), (5, (h11).v), (6, (g853).v), (7, (.int .i64 a766)), (31, (g__1h).v), (32, (.int .i64 ((g__1.length : Nat) : Int))), (33, (.int .i64 ((k790 : Nat) : Int)))]) (fun _ (s852 : List Int) (g853 : Hd) w' => Cx w0 fp0 S0 w' [Bx b6 [(.int .i64 g__0), (g__1h).v, (g__2h).v, (g__3h).v], Es (List (Int × Int × List Int × List Int)) g__1 g__1h, Es (List Int) g__2 g__2h, Es (List Int) g__3 g__3h, E (List Bool) a787 h11, E (List Int) s852 g853]) a768 h770 e ⟨rfl, rfl, rfl, rfl, rfl, rfl, rfl, trivial⟩ (H.sel [2, 3, 4, 5, 0, 1] rfl) ?_ ?_
          · clear H e
            rintro T859 k790 s852 g853 w858 o860 hk (H : Cx w0 fp0 S0 w858 [Bx b6 [(.int .i64 g__0), (g__1h).v, (g__2h).v, (g__3h).v], Es (List (Int × Int × List Int × List Int)) g__1 g__1h, Es (List Int) g__2 g__2h, Es (List Int) g__3 g__3h, E (List Bool) a787 h11, E (List Int) s852 g853]) hF861
            refine boolE (z := true) (ltLen hk) ?_
            refine sq ?_
            refine sq ?_
            obtain ⟨a868, e, hF869⟩ := bindS hF861; clear hF861
            have HH := H; clear H; obtain ⟨p866, m867, g870, c862, c863, c864, c865, H⟩ := HH.el (α := Int × Int × List Int × List Int) 1 rfl e; clear HH
            clear e
            obtain ⟨a868_0, a868_1, a868_2, a868_3⟩ := a868
            obtain ⟨_, _, h872, h873⟩ := g870
            replace H := H.part (β := List Int) a868_2 (h872 : Hd) 0 rfl (fun S h => (And.left (And.right (And.right h))))
            replace H := H.part (β := List Int) a868_3 (h873 : Hd) 1 rfl (fun S h => (And.right (And.right (And.right h))))
            replace H := H.sel [0, 1, 3, 4, 5, 6, 7, 8] rfl
            refine idxE c862 c863 c864 ?_; clear c862 c863 c864
            refine loadN [(.int .i64 a868_0), (.int .i64 a868_1), (h872).v, (h873).v] rfl c865 ?_; clear c865
            refine alloc_ gok rfl H ?_; clear H; intro b877 w876 hx H
            clear hx
            replace H : Cx w0 fp0 S0 w876 [Bx b877 [(.int .i64 0), (.int .i64 0), (.slice none 0 0), (.slice none 0 0)], Es (List Int) a868_3 h873, Es (List Int) a868_2 h872, Bx b6 [(.int .i64 g__0), (g__1h).v, (g__2h).v, (g__3h).v], Es (List (Int × Int × List Int × List Int)) g__1 g__1h, Es (List Int) g__2 g__2h, Es (List Int) g__3 g__3h, E (List Bool) a787 h11, E (List Int) s852 g853] := H
            refine stA gok [(.int .i64 a868_0), (.int .i64 a868_1), (h872).v, (h873).v] rfl H rfl rfl rfl ?_; clear H; intro w879 H
            replace H : Cx w0 fp0 S0 w879 [Bx b877 [(.int .i64 a868_0), (.int .i64 a868_1), (h872).v, (h873).v], Es (List Int) a868_3 h873, Es (List Int) a868_2 h872, Bx b6 [(.int .i64 g__0), (g__1h).v, (g__2h).v, (g__3h).v], Es (List (Int × Int × List Int × List Int)) g__1 g__1h, Es (List Int) g__2 g__2h, Es (List Int) g__3 g__3h, E (List Bool) a787 h11, E (List Int) s852 g853] := H
            refine fld gok rfl rfl rfl rfl ?_
            refine load1 (H.bx 0 rfl (j := 2) rfl) ?_
            obtain ⟨y880, e, hF881⟩ := bindS hF869; clear hF869
            have ey880 := e; clear e
            refine callF (slices_Contains_int_int_c a868_2 h872 a766 y880 ey880) (Γi := []) H ⟨Vw.sh 2 rfl, trivial⟩ ?_; clear H ey880
            rintro _ _ w882 ⟨rfl, rfl⟩ (H : Cx w0 fp0 S0 w882 [Bx b877 [(.int .i64 a868_0), (.int .i64 a868_1), (h872).v, (h873).v], Es (List Int) a868_3 h873, Es (List Int) a868_2 h872, Bx b6 [(.int .i64 g__0), (g__1h).v, (g__2h).v, (g__3h).v], Es (List (Int × Int × List Int × List Int)) g__1 g__1h, Es (List Int) g__2 g__2h, Es (List Int) g__3 g__3h, E (List Bool) a787 h11, E (List Int) s852 g853])
            cases y880
            · have hF883 := condF hF881; clear hF881
              refine arK hk hmx855 ?_
              have hs := Option.some.inj hF883; subst hs; clear hF883
              exact ⟨g853, ⟨rfl, rfl, rfl, rfl, rfl, rfl, rfl, trivial⟩, H.sel [3, 4, 5, 6, 7, 8] rfl⟩
            · have hF884 := condT hF881; clear hF881
              refine fld gok rfl rfl rfl rfl ?_
              refine load1 (H.bx 0 rfl (j := 3) rfl) ?_
              obtain ⟨a885, e, hF886⟩ := bindS hF884; clear hF884
              replace H := H.sel [8, 0, 1, 2, 3, 4, 5, 6, 7] rfl
              refine appendS (α := Int) gok rfl rfl rfl rfl H (Vw.sh 1 rfl) e ?_; clear e H; intro h888 w887 H
              refine arK hk hmx855 ?_
              have hs := Option.some.inj hF886; subst hs; clear hF886
              exact ⟨h888, ⟨rfl, rfl, rfl, rfl, rfl, rfl, rfl, trivial⟩, H.sel [4, 5, 6, 7, 8, 0] rfl⟩
          · clear H e
            rintro T891 g893 w890 (H : Cx w0 fp0 S0 w890 [Bx b6 [(.int .i64 g__0), (g__1h).v, (g__2h).v, (g__3h).v], Es (List (Int × Int × List Int × List Int)) g__1 g__1h, Es (List Int) g__2 g__2h, Es (List Int) g__3 g__3h, E (List Bool) a787 h11, E (List Int) r856 g893])
            refine boolE (z := false) geLen ?_
            refine sq ?_
            have hs := Option.some.inj hF857; subst hs; clear hF857
            exact ⟨(a787, r856), g893, rfl, ⟨rfl, rfl, rfl, trivial⟩, H.sel [0, 1, 2, 3, 4, 5] rfl⟩
        · have hF895 := condT hF779; clear hF779
          have hs := Option.some.inj hF895; subst hs; clear hF895
          exact ⟨(s745_0, a768), h770, rfl, ⟨rfl, rfl, rfl, trivial⟩, H.sel [1, 2, 3, 4, 5, 0] rfl⟩
  · clear hF458 H
    rintro T897 s454 w896 ⟨hr, (H : Cx w0 fp0 S0 w896 [E (List Bool) s454 h11])⟩
    subst hr
    cases hF457
    exact ⟨_, _, rfl, ⟨h11, rfl, rfl⟩, (H.sel [0] rfl).close ⟨cloE, trivial⟩⟩

theorem impl_isConvex_1_c (w_ : Int) (c0_b : Nat) (c0_ : List Bool) (c0_h : Hd) (y : Bool) (hF : F_impl_isConvex_1 w_ c0_ = some y) :
    ConF Try.prog 107 #[(.int .i64 w_), (.pointer (some ⟨c0_b, 0, none⟩))] [Es (List Bool) c0_ c0_h] [Bx c0_b [(c0_h).v]] (fun v Γ' => v = (.bool y) ∧ Γ' = [Bx c0_b [(c0_h).v]]) := by
  intro w0 S0 fp0 hI hS
  have H : Cx w0 fp0 S0 w0 [Es (List Bool) c0_ c0_h, Bx c0_b [(c0_h).v]] := Cx.start hI hS
  clear hI hS
  refine enterC (args := [_, _]) gok Try.func107 rfl _ rfl rfl rfl ?_
  refine load1 (H.bx0 1 rfl) ?_
  obtain ⟨a9, e, hF10⟩ := bindS hF; clear hF
  obtain ⟨p7, m8, c3, c4, c5, c6⟩ := (H.rs (α := List Bool) 0 rfl).at1 e; clear e
  refine idxE c3 c4 c5 ?_; clear c3 c4 c5
  refine load1 c6 ?_; clear c6
  cases hF10
  exact ⟨_, _, rfl, ⟨rfl, rfl⟩, (H.sel [1] rfl).close ⟨cloB, trivial⟩⟩

theorem slices_IndexFunc_int_int_impl_isConvex_1_c (s_ : List Int) (s_h : Hd) (d0_b : Nat) (d0_ : List Bool) (d0_h : Hd) (y : Int) (hF : F_slices_IndexFunc_int_int_impl_isConvex_1 s_ d0_ = some y) :
    ConF Try.prog 137 #[(s_h).v, (.func (.func 107) #[] #[(.pointer (some ⟨d0_b, 0, none⟩))])] [Es (List Int) s_ s_h, Es (List Bool) d0_ d0_h] [Bx d0_b [(d0_h).v]] (fun v Γ' => v = (.int .i64 y) ∧ Γ' = [Bx d0_b [(d0_h).v]]) := by
  intro w0 S0 fp0 hI hS
  have H : Cx w0 fp0 S0 w0 [Es (List Int) s_ s_h, Es (List Bool) d0_ d0_h, Bx d0_b [(d0_h).v]] := Cx.start hI hS
  clear hI hS
  refine enterC (args := [_, _]) gok Try.func137 rfl _ rfl rfl rfl ?_
  refine sq ?_
  refine lenE (H.rs (α := List Int) 0 rfl).len ?_
  have hmx22 := (H.rs (α := List Int) 0 rfl).max
  obtain ⟨r23, e, hF24⟩ := bindS hF; clear hF
  refine loopO _ s_.length (fun (k4 : Nat) (_ : Unit) (_ : Unit) => [(0, (s_h).v), (1, (.func (.func 107) #[] #[(.pointer (some ⟨d0_b, 0, none⟩))])), (7, (.int .i64 ((s_.length : Nat) : Int))), (8, (.int .i64 ((k4 : Nat) : Int)))]) (fun _ (_ : Unit) (_ : Unit) w' => Cx w0 fp0 S0 w' [Es (List Int) s_ s_h, Bx d0_b [(d0_h).v], Es (List Bool) d0_ d0_h]) () () e ⟨rfl, rfl, rfl, rfl, trivial⟩ (H.sel [0, 2, 1] rfl) ?_ ?_
  · clear H e
    rintro T26 k4 _ _ w25 o27 hk (H : Cx w0 fp0 S0 w25 [Es (List Int) s_ s_h, Bx d0_b [(d0_h).v], Es (List Bool) d0_ d0_h]) hrt hF28
    refine boolE (z := true) (ltLen hk) ?_
    refine sq ?_
    refine sq ?_
    obtain ⟨a35, e, hF36⟩ := bindS hF28; clear hF28
    obtain ⟨p33, m34, c29, c30, c31, c32⟩ := (H.rs (α := List Int) 0 rfl).at1 e; clear e
    refine idxE c29 c30 c31 ?_; clear c29 c30 c31
    refine load1 c32 ?_; clear c32
    obtain ⟨y37, e, hF38⟩ := bindS hF36; clear hF36
    have ey37 := e; clear e
    replace H := H.sel [1, 0, 2] rfl
    refine callF (impl_isConvex_1_c a35 d0_b d0_ d0_h y37 ey37) (Γi := [Bx d0_b [(d0_h).v]]) H ⟨Vw.sh 1 rfl, trivial⟩ ?_; clear H ey37
    rintro _ _ w39 ⟨rfl, rfl⟩ (H : Cx w0 fp0 S0 w39 [Bx d0_b [(d0_h).v], Es (List Int) s_ s_h, Es (List Bool) d0_ d0_h])
    cases y37
    · have hF40 := condF hF38; clear hF38
      refine arK hk hmx22 ?_
      have hs := Option.some.inj hF40; subst hs; clear hF40
      exact ⟨(), (), rfl, ⟨rfl, rfl, rfl, rfl, trivial⟩, H.sel [1, 0, 2] rfl⟩
    · have hF41 := condT hF38; clear hF38
      have hs := Option.some.inj hF41; subst hs; clear hF41
      have hr := hrt _ rfl; subst hr
      have hF42 : some _ = some _ := hF24
      cases hF42
      exact ⟨_, _, rfl, ⟨rfl, rfl⟩, (H.sel [0] rfl).close ⟨cloB, trivial⟩⟩
  · clear H e
    rintro T44 _ _ w43 hr (H : Cx w0 fp0 S0 w43 [Es (List Int) s_ s_h, Bx d0_b [(d0_h).v], Es (List Bool) d0_ d0_h])
    subst hr
    refine boolE (z := false) geLen ?_
    refine sq ?_
    cases hF24
    exact ⟨_, _, rfl, ⟨rfl, rfl⟩, (H.sel [1] rfl).close ⟨cloB, trivial⟩⟩

theorem slices_ContainsFunc_int_int_impl_isConvex_1_c (s_ : List Int) (s_h : Hd) (d0_b : Nat) (d0_ : List Bool) (d0_h : Hd) (y : Bool) (hF : F_slices_ContainsFunc_int_int_impl_isConvex_1 s_ d0_ = some y) :
    ConF Try.prog 106 #[(s_h).v, (.func (.func 107) #[] #[(.pointer (some ⟨d0_b, 0, none⟩))])] [Es (List Int) s_ s_h, Es (List Bool) d0_ d0_h] [Bx d0_b [(d0_h).v]] (fun v Γ' => v = (.bool y) ∧ Γ' = [Bx d0_b [(d0_h).v]]) := by
  intro w0 S0 fp0 hI hS
  have H : Cx w0 fp0 S0 w0 [Es (List Int) s_ s_h, Es (List Bool) d0_ d0_h, Bx d0_b [(d0_h).v]] := Cx.start hI hS
  clear hI hS
  refine enterC (args := [_, _]) gok Try.func106 rfl _ rfl rfl rfl ?_
  obtain ⟨y4, e, hF5⟩ := bindS hF; clear hF
  have ey4 := e; clear e
  replace H := H.sel [2, 0, 1] rfl
  refine callF (slices_IndexFunc_int_int_impl_isConvex_1_c s_ s_h d0_b d0_ d0_h y4 ey4) (Γi := [Bx d0_b [(d0_h).v]]) H ⟨Vw.sh 0 rfl, Vw.sh 1 rfl, trivial⟩ ?_; clear H ey4
  rintro _ _ w6 ⟨rfl, rfl⟩ (H : Cx w0 fp0 S0 w6 [Bx d0_b [(d0_h).v], Es (List Int) s_ s_h, Es (List Bool) d0_ d0_h])
  obtain ⟨a7, e, hF8⟩ := bindS hF5; clear hF5
  refine boolO e ?_; clear e
  cases hF8
  exact ⟨_, _, rfl, ⟨rfl, rfl⟩, (H.sel [0] rfl).close ⟨cloB, trivial⟩⟩

theorem impl_isConvex_c (g__0 : Int) (g__1 : List (Int × Int × List Int × List Int)) (g__1h : Hd) (g__2 : List Int) (g__2h : Hd) (g__3 : List Int) (g__3h : Hd) (m__0 : List Int) (m__0h : Hd) (m__1 : List Int) (m__1h : Hd) (y : Bool) (hF : F_impl_isConvex (g__0, g__1, g__2, g__3) (m__0, m__1) = some y) :
    ConF Try.prog 67 #[(.agg #[(.int .i64 g__0), (g__1h).v, (g__2h).v, (g__3h).v]), (.agg #[(m__0h).v, (m__1h).v])] [Es (List (Int × Int × List Int × List Int)) g__1 g__1h, Es (List Int) g__2 g__2h, Es (List Int) g__3 g__3h, Es (List Int) m__0 m__0h, Es (List Int) m__1 m__1h] [] (fun v Γ' => v = (.bool y) ∧ Γ' = []) := by
  intro w0 S0 fp0 hI hS
  have H : Cx w0 fp0 S0 w0 [Es (List (Int × Int × List Int × List Int)) g__1 g__1h, Es (List Int) g__2 g__2h, Es (List Int) g__3 g__3h, Es (List Int) m__0 m__0h, Es (List Int) m__1 m__1h] := Cx.start hI hS
  clear hI hS
  refine enterC (args := [_, _]) gok Try.func67 rfl _ rfl rfl rfl ?_
  refine box_ H ?_; clear H; intro b7 w6 hx H
  clear hx
  replace H : Cx w0 fp0 S0 w6 [Bx b7 [(.int .i64 g__0), (g__1h).v, (g__2h).v, (g__3h).v], Es (List (Int × Int × List Int × List Int)) g__1 g__1h, Es (List Int) g__2 g__2h, Es (List Int) g__3 g__3h, Es (List Int) m__0 m__0h, Es (List Int) m__1 m__1h] := H
  refine box_ H ?_; clear H; intro b10 w9 hx H
  clear hx
  replace H : Cx w0 fp0 S0 w9 [Bx b10 [(m__0h).v, (m__1h).v], Bx b7 [(.int .i64 g__0), (g__1h).v, (g__2h).v, (g__3h).v], Es (List (Int × Int × List Int × List Int)) g__1 g__1h, Es (List Int) g__2 g__2h, Es (List Int) g__3 g__3h, Es (List Int) m__0 m__0h, Es (List Int) m__1 m__1h] := H
  refine loadN [(.int .i64 g__0), (g__1h).v, (g__2h).v, (g__3h).v] rfl (fun j u hj => H.bx 1 rfl hj) ?_
  refine fld gok rfl rfl rfl rfl ?_
  refine load1 (H.bx 0 rfl (j := 0) rfl) ?_
  obtain ⟨y12, e, hF13⟩ := bindS hF; clear hF
  have ey12 := e; clear e
  refine callF (impl_Graph_reachable_c g__0 g__1 g__1h g__2 g__2h g__3 g__3h m__0 m__0h y12 ey12) (Γi := []) H ⟨Vw.sh 2 rfl, Vw.sh 3 rfl, Vw.sh 4 rfl, Vw.sh 5 rfl, trivial⟩ ?_; clear H ey12
  rintro _ _ w14 ⟨h15, rfl, rfl⟩ (H : Cx w0 fp0 S0 w14 [E (List Bool) y12 h15, Bx b10 [(m__0h).v, (m__1h).v], Bx b7 [(.int .i64 g__0), (g__1h).v, (g__2h).v, (g__3h).v], Es (List (Int × Int × List Int × List Int)) g__1 g__1h, Es (List Int) g__2 g__2h, Es (List Int) g__3 g__3h, Es (List Int) m__0 m__0h, Es (List Int) m__1 m__1h])
  refine alloc_ gok rfl H ?_; clear H; intro b18 w17 hx H
  clear hx
  replace H : Cx w0 fp0 S0 w17 [Bx b18 [(.slice none 0 0)], E (List Bool) y12 h15, Bx b10 [(m__0h).v, (m__1h).v], Bx b7 [(.int .i64 g__0), (g__1h).v, (g__2h).v, (g__3h).v], Es (List (Int × Int × List Int × List Int)) g__1 g__1h, Es (List Int) g__2 g__2h, Es (List Int) g__3 g__3h, Es (List Int) m__0 m__0h, Es (List Int) m__1 m__1h] := H
  refine stB0 H rfl ?_; clear H; intro w20 H
  replace H : Cx w0 fp0 S0 w20 [Bx b18 [(h15).v], E (List Bool) y12 h15, Bx b10 [(m__0h).v, (m__1h).v], Bx b7 [(.int .i64 g__0), (g__1h).v, (g__2h).v, (g__3h).v], Es (List (Int × Int × List Int × List Int)) g__1 g__1h, Es (List Int) g__2 g__2h, Es (List Int) g__3 g__3h, Es (List Int) m__0 m__0h, Es (List Int) m__1 m__1h] := H
  refine sq ?_
  refine fld gok rfl rfl rfl rfl ?_
  refine load1 (H.bx 3 rfl (j := 1) rfl) ?_
  refine lenE (H.rs (α := List (Int × Int × List Int × List Int)) 4 rfl).len ?_
  have hmx287 := (H.rs (α := List (Int × Int × List Int × List Int)) 4 rfl).max
  obtain ⟨r288, e, hF289⟩ := bindS hF13; clear hF13
  refine loopO _ g__1.length (fun (k21 : Nat) (_ : Unit) (_ : Unit) => [(2, (.pointer (some ⟨b7, 0, none⟩))), (3, (.pointer (some ⟨b10, 0, none⟩))), (5, (.pointer (some ⟨b18, 0, none⟩))), (15, (g__1h).v), (16, (.int .i64 ((g__1.length : Nat) : Int))), (17, (.int .i64 ((k21 : Nat) : Int)))]) (fun _ (_ : Unit) (_ : Unit) w' => Cx w0 fp0 S0 w' [Bx b7 [(.int .i64 g__0), (g__1h).v, (g__2h).v, (g__3h).v], Es (List (Int × Int × List Int × List Int)) g__1 g__1h, Es (List Int) g__2 g__2h, Es (List Int) g__3 g__3h, Bx b10 [(m__0h).v, (m__1h).v], Es (List Int) m__0 m__0h, Es (List Int) m__1 m__1h, Bx b18 [(h15).v], E (List Bool) y12 h15]) () () e ⟨rfl, rfl, rfl, rfl, rfl, rfl, trivial⟩ (H.sel [3, 4, 5, 6, 2, 7, 8, 0, 1] rfl) ?_ ?_
  · clear H e
    rintro T291 k21 _ _ w290 o292 hk (H : Cx w0 fp0 S0 w290 [Bx b7 [(.int .i64 g__0), (g__1h).v, (g__2h).v, (g__3h).v], Es (List (Int × Int × List Int × List Int)) g__1 g__1h, Es (List Int) g__2 g__2h, Es (List Int) g__3 g__3h, Bx b10 [(m__0h).v, (m__1h).v], Es (List Int) m__0 m__0h, Es (List Int) m__1 m__1h, Bx b18 [(h15).v], E (List Bool) y12 h15]) hrt hF293
    refine boolE (z := true) (ltLen hk) ?_
    refine sq ?_
    obtain ⟨r422, hF424, hF423⟩ := bindS hF293; clear hF293
    refine cut (fun (q425 : Unit) => [(2, (.pointer (some ⟨b7, 0, none⟩))), (3, (.pointer (some ⟨b10, 0, none⟩))), (5, (.pointer (some ⟨b18, 0, none⟩))), (15, (g__1h).v), (16, (.int .i64 ((g__1.length : Nat) : Int))), (17, (.int .i64 ((k21 : Nat) : Int)))]) (fun (q425 : Unit) w' => .inl () = r422 ∧ Cx w0 fp0 S0 w' [Bx b7 [(.int .i64 g__0), (g__1h).v, (g__2h).v, (g__3h).v], Es (List (Int × Int × List Int × List Int)) g__1 g__1h, Es (List Int) g__2 g__2h, Es (List Int) g__3 g__3h, Bx b10 [(m__0h).v, (m__1h).v], Es (List Int) m__0 m__0h, Es (List Int) m__1 m__1h, Bx b18 [(h15).v], E (List Bool) y12 h15]) ?_ ?_
    · skip
      obtain ⟨a432, e, hF433⟩ := bindS hF424; clear hF424
      have HH := H; clear H; obtain ⟨p430, m431, g434, c426, c427, c428, c429, H⟩ := HH.el (α := Int × Int × List Int × List Int) 1 rfl e; clear HH
      clear e
      obtain ⟨a432_0, a432_1, a432_2, a432_3⟩ := a432
      obtain ⟨_, _, h436, h437⟩ := g434
      replace H := H.part (β := List Int) a432_2 (h436 : Hd) 0 rfl (fun S h => (And.left (And.right (And.right h))))
      replace H := H.part (β := List Int) a432_3 (h437 : Hd) 1 rfl (fun S h => (And.right (And.right (And.right h))))
      replace H := H.sel [0, 1, 3, 4, 5, 6, 7, 8, 9, 10, 11] rfl
      refine idxE c426 c427 c428 ?_; clear c426 c427 c428
      refine loadN [(.int .i64 a432_0), (.int .i64 a432_1), (h436).v, (h437).v] rfl c429 ?_; clear c429
      refine alloc_ gok rfl H ?_; clear H; intro b441 w440 hx H
      clear hx
      replace H : Cx w0 fp0 S0 w440 [Bx b441 [(.int .i64 0), (.int .i64 0), (.slice none 0 0), (.slice none 0 0)], Es (List Int) a432_3 h437, Es (List Int) a432_2 h436, Bx b7 [(.int .i64 g__0), (g__1h).v, (g__2h).v, (g__3h).v], Es (List (Int × Int × List Int × List Int)) g__1 g__1h, Es (List Int) g__2 g__2h, Es (List Int) g__3 g__3h, Bx b10 [(m__0h).v, (m__1h).v], Es (List Int) m__0 m__0h, Es (List Int) m__1 m__1h, Bx b18 [(h15).v], E (List Bool) y12 h15] := H
      refine stA gok [(.int .i64 a432_0), (.int .i64 a432_1), (h436).v, (h437).v] rfl H rfl rfl rfl ?_; clear H; intro w443 H
      replace H : Cx w0 fp0 S0 w443 [Bx b441 [(.int .i64 a432_0), (.int .i64 a432_1), (h436).v, (h437).v], Es (List Int) a432_3 h437, Es (List Int) a432_2 h436, Bx b7 [(.int .i64 g__0), (g__1h).v, (g__2h).v, (g__3h).v], Es (List (Int × Int × List Int × List Int)) g__1 g__1h, Es (List Int) g__2 g__2h, Es (List Int) g__3 g__3h, Bx b10 [(m__0h).v, (m__1h).v], Es (List Int) m__0 m__0h, Es (List Int) m__1 m__1h, Bx b18 [(h15).v], E (List Bool) y12 h15] := H
      refine sq ?_
      obtain ⟨r456, hF458, hF457⟩ := bindS hF433; clear hF433
      refine cut (fun (q459 : Bool) => [(2, (.pointer (some ⟨b7, 0, none⟩))), (3, (.pointer (some ⟨b10, 0, none⟩))), (5, (.pointer (some ⟨b18, 0, none⟩))), (7, (.pointer (some ⟨b441, 0, none⟩))), (15, (g__1h).v), (16, (.int .i64 ((g__1.length : Nat) : Int))), (17, (.int .i64 ((k21 : Nat) : Int))), (32, (.bool q459))]) (fun (q459 : Bool) w' => q459 = r456 ∧ Cx w0 fp0 S0 w' [Bx b7 [(.int .i64 g__0), (g__1h).v, (g__2h).v, (g__3h).v], Es (List (Int × Int × List Int × List Int)) g__1 g__1h, Es (List Int) g__2 g__2h, Es (List Int) g__3 g__3h, Bx b10 [(m__0h).v, (m__1h).v], Es (List Int) m__0 m__0h, Es (List Int) m__1 m__1h, Bx b18 [(h15).v], E (List Bool) y12 h15, Bx b441 [(.int .i64 a432_0), (.int .i64 a432_1), (h436).v, (h437).v], Es (List Int) a432_2 h436, Es (List Int) a432_3 h437]) ?_ ?_
      · skip
        refine fld gok rfl rfl rfl rfl ?_
        refine load1 (H.bx 7 rfl (j := 1) rfl) ?_
        obtain ⟨y460, e, hF461⟩ := bindS hF458; clear hF458
        have ey460 := e; clear e
        refine callF (slices_Contains_int_int_c m__1 m__1h ((k21 : Nat) : Int) y460 ey460) (Γi := []) H ⟨Vw.sh 9 rfl, trivial⟩ ?_; clear H ey460
        rintro _ _ w462 ⟨rfl, rfl⟩ (H : Cx w0 fp0 S0 w462 [Bx b441 [(.int .i64 a432_0), (.int .i64 a432_1), (h436).v, (h437).v], Es (List Int) a432_3 h437, Es (List Int) a432_2 h436, Bx b7 [(.int .i64 g__0), (g__1h).v, (g__2h).v, (g__3h).v], Es (List (Int × Int × List Int × List Int)) g__1 g__1h, Es (List Int) g__2 g__2h, Es (List Int) g__3 g__3h, Bx b10 [(m__0h).v, (m__1h).v], Es (List Int) m__0 m__0h, Es (List Int) m__1 m__1h, Bx b18 [(h15).v], E (List Bool) y12 h15])
        cases y460
        · have hF463 := condF hF461; clear hF461
          refine fld gok rfl rfl rfl rfl ?_
          refine load1 (H.bx 0 rfl (j := 2) rfl) ?_
          obtain ⟨y464, e, hF465⟩ := bindS hF463; clear hF463
          have ey464 := e; clear e
          replace H := H.sel [10, 0, 1, 2, 3, 4, 5, 6, 7, 8, 9, 11] rfl
          refine callF (slices_ContainsFunc_int_int_impl_isConvex_1_c a432_2 h436 b18 y12 h15 y464 ey464) (Γi := [Bx b18 [(h15).v]]) H ⟨Vw.sh 2 rfl, Vw.own 10 rfl, trivial⟩ ?_; clear H ey464
          rintro _ _ w466 ⟨rfl, rfl⟩ (H : Cx w0 fp0 S0 w466 [Bx b18 [(h15).v], Bx b441 [(.int .i64 a432_0), (.int .i64 a432_1), (h436).v, (h437).v], Es (List Int) a432_3 h437, Es (List Int) a432_2 h436, Bx b7 [(.int .i64 g__0), (g__1h).v, (g__2h).v, (g__3h).v], Es (List (Int × Int × List Int × List Int)) g__1 g__1h, Es (List Int) g__2 g__2h, Es (List Int) g__3 g__3h, Bx b10 [(m__0h).v, (m__1h).v], Es (List Int) m__0 m__0h, Es (List Int) m__1 m__1h, E (List Bool) y12 h15])
          obtain ⟨a467, e, hF468⟩ := bindS hF465; clear hF465
          refine boolO e ?_; clear e
          exact ⟨a467, ⟨rfl, rfl, rfl, rfl, rfl, rfl, rfl, rfl, trivial⟩, Option.some.inj hF468, H.sel [4, 5, 6, 7, 8, 9, 10, 0, 11, 1, 3, 2] rfl⟩
        · have hF469 := condT hF461; clear hF461
          exact ⟨true, ⟨rfl, rfl, rfl, rfl, rfl, rfl, rfl, rfl, trivial⟩, Option.some.inj hF469, H.sel [3, 4, 5, 6, 7, 8, 9, 10, 11, 0, 2, 1] rfl⟩
      · clear hF458 H
        rintro T471 s454 w470 ⟨hr, (H : Cx w0 fp0 S0 w470 [Bx b7 [(.int .i64 g__0), (g__1h).v, (g__2h).v, (g__3h).v], Es (List (Int × Int × List Int × List Int)) g__1 g__1h, Es (List Int) g__2 g__2h, Es (List Int) g__3 g__3h, Bx b10 [(m__0h).v, (m__1h).v], Es (List Int) m__0 m__0h, Es (List Int) m__1 m__1h, Bx b18 [(h15).v], E (List Bool) y12 h15, Bx b441 [(.int .i64 a432_0), (.int .i64 a432_1), (h436).v, (h437).v], Es (List Int) a432_2 h436, Es (List Int) a432_3 h437])⟩
        subst hr
        cases s454
        · have hF472 := condF hF457; clear hF457
          refine loadN [(.int .i64 g__0), (g__1h).v, (g__2h).v, (g__3h).v] rfl (fun j u hj => H.bx 0 rfl hj) ?_
          refine fld gok rfl rfl rfl rfl ?_
          refine load1 (H.bx 9 rfl (j := 3) rfl) ?_
          obtain ⟨y473, e, hF474⟩ := bindS hF472; clear hF472
          have ey473 := e; clear e
          refine callF (impl_Graph_reachable_c g__0 g__1 g__1h g__2 g__2h g__3 g__3h a432_3 h437 y473 ey473) (Γi := []) H ⟨Vw.sh 1 rfl, Vw.sh 2 rfl, Vw.sh 3 rfl, Vw.sh 11 rfl, trivial⟩ ?_; clear H ey473
          rintro _ _ w475 ⟨h476, rfl, rfl⟩ (H : Cx w0 fp0 S0 w475 [E (List Bool) y473 h476, Bx b7 [(.int .i64 g__0), (g__1h).v, (g__2h).v, (g__3h).v], Es (List (Int × Int × List Int × List Int)) g__1 g__1h, Es (List Int) g__2 g__2h, Es (List Int) g__3 g__3h, Bx b10 [(m__0h).v, (m__1h).v], Es (List Int) m__0 m__0h, Es (List Int) m__1 m__1h, Bx b18 [(h15).v], E (List Bool) y12 h15, Bx b441 [(.int .i64 a432_0), (.int .i64 a432_1), (h436).v, (h437).v], Es (List Int) a432_2 h436, Es (List Int) a432_3 h437])
          refine lenE (H.ro (α := List Bool) 0 rfl).len ?_
          have hmx511 := (H.ro (α := List Bool) 0 rfl).max
          obtain ⟨r512, e, hF513⟩ := bindS hF474; clear hF474
          refine loopO _ y473.length (fun (k478 : Nat) (_ : Unit) (_ : Unit) => [(2, (.pointer (some ⟨b7, 0, none⟩))), (3, (.pointer (some ⟨b10, 0, none⟩))), (5, (.pointer (some ⟨b18, 0, none⟩))), (15, (g__1h).v), (16, (.int .i64 ((g__1.length : Nat) : Int))), (17, (.int .i64 ((k21 : Nat) : Int))), (36, (h476).v), (37, (.int .i64 ((y473.length : Nat) : Int))), (38, (.int .i64 ((k478 : Nat) : Int)))]) (fun _ (_ : Unit) (_ : Unit) w' => Cx w0 fp0 S0 w' [Bx b7 [(.int .i64 g__0), (g__1h).v, (g__2h).v, (g__3h).v], Es (List (Int × Int × List Int × List Int)) g__1 g__1h, Es (List Int) g__2 g__2h, Es (List Int) g__3 g__3h, Bx b10 [(m__0h).v, (m__1h).v], Es (List Int) m__0 m__0h, Es (List Int) m__1 m__1h, Bx b18 [(h15).v], E (List Bool) y12 h15, E (List Bool) y473 h476]) () () e ⟨rfl, rfl, rfl, rfl, rfl, rfl, rfl, rfl, rfl, trivial⟩ (H.sel [1, 2, 3, 4, 5, 6, 7, 8, 9, 0] rfl) ?_ ?_
          · clear H e
            rintro T515 k478 _ _ w514 o516 hk (H : Cx w0 fp0 S0 w514 [Bx b7 [(.int .i64 g__0), (g__1h).v, (g__2h).v, (g__3h).v], Es (List (Int × Int × List Int × List Int)) g__1 g__1h, Es (List Int) g__2 g__2h, Es (List Int) g__3 g__3h, Bx b10 [(m__0h).v, (m__1h).v], Es (List Int) m__0 m__0h, Es (List Int) m__1 m__1h, Bx b18 [(h15).v], E (List Bool) y12 h15, E (List Bool) y473 h476]) hrt hF517
            refine boolE (z := true) (ltLen hk) ?_
            refine sq ?_
            refine sq ?_
            obtain ⟨a524, e, hF525⟩ := bindS hF517; clear hF517
            obtain ⟨p522, m523, c518, c519, c520, c521⟩ := (H.ro (α := List Bool) 9 rfl).at1 e; clear e
            refine idxE c518 c519 c520 ?_; clear c518 c519 c520
            refine load1 c521 ?_; clear c521
            obtain ⟨r533, hF535, hF534⟩ := bindS hF525; clear hF525
            refine cut (fun (q536 : Bool) => [(2, (.pointer (some ⟨b7, 0, none⟩))), (3, (.pointer (some ⟨b10, 0, none⟩))), (5, (.pointer (some ⟨b18, 0, none⟩))), (15, (g__1h).v), (16, (.int .i64 ((g__1.length : Nat) : Int))), (17, (.int .i64 ((k21 : Nat) : Int))), (36, (h476).v), (37, (.int .i64 ((y473.length : Nat) : Int))), (38, (.int .i64 ((k478 : Nat) : Int))), (49, (.bool q536))]) (fun (q536 : Bool) w' => q536 = r533 ∧ Cx w0 fp0 S0 w' [Bx b7 [(.int .i64 g__0), (g__1h).v, (g__2h).v, (g__3h).v], Es (List (Int × Int × List Int × List Int)) g__1 g__1h, Es (List Int) g__2 g__2h, Es (List Int) g__3 g__3h, Bx b10 [(m__0h).v, (m__1h).v], Es (List Int) m__0 m__0h, Es (List Int) m__1 m__1h, Bx b18 [(h15).v], E (List Bool) y12 h15, E (List Bool) y473 h476]) ?_ ?_
            · skip
              cases a524
              · have hF537 := condF hF535; clear hF535
                exact ⟨false, ⟨rfl, rfl, rfl, rfl, rfl, rfl, rfl, rfl, rfl, rfl, trivial⟩, Option.some.inj hF537, H.sel [0, 1, 2, 3, 4, 5, 6, 7, 8, 9] rfl⟩
              · have hF538 := condT hF535; clear hF535
                refine fld gok rfl rfl rfl rfl ?_
                refine load1 (H.bx 4 rfl (j := 0) rfl) ?_
                obtain ⟨y539, e, hF540⟩ := bindS hF538; clear hF538
                have ey539 := e; clear e
                refine callF (slices_Contains_int_int_c m__0 m__0h ((k478 : Nat) : Int) y539 ey539) (Γi := []) H ⟨Vw.sh 5 rfl, trivial⟩ ?_; clear H ey539
                rintro _ _ w541 ⟨rfl, rfl⟩ (H : Cx w0 fp0 S0 w541 [Bx b7 [(.int .i64 g__0), (g__1h).v, (g__2h).v, (g__3h).v], Es (List (Int × Int × List Int × List Int)) g__1 g__1h, Es (List Int) g__2 g__2h, Es (List Int) g__3 g__3h, Bx b10 [(m__0h).v, (m__1h).v], Es (List Int) m__0 m__0h, Es (List Int) m__1 m__1h, Bx b18 [(h15).v], E (List Bool) y12 h15, E (List Bool) y473 h476])
                exact ⟨y539, ⟨rfl, rfl, rfl, rfl, rfl, rfl, rfl, rfl, rfl, rfl, trivial⟩, Option.some.inj hF540, H.sel [0, 1, 2, 3, 4, 5, 6, 7, 8, 9] rfl⟩
            · clear hF535 H
              rintro T543 s531 w542 ⟨hr, (H : Cx w0 fp0 S0 w542 [Bx b7 [(.int .i64 g__0), (g__1h).v, (g__2h).v, (g__3h).v], Es (List (Int × Int × List Int × List Int)) g__1 g__1h, Es (List Int) g__2 g__2h, Es (List Int) g__3 g__3h, Bx b10 [(m__0h).v, (m__1h).v], Es (List Int) m__0 m__0h, Es (List Int) m__1 m__1h, Bx b18 [(h15).v], E (List Bool) y12 h15, E (List Bool) y473 h476])⟩
              subst hr
              cases s531
              · have hF544 := condF hF534; clear hF534
                refine arK hk hmx511 ?_
                have hs := Option.some.inj hF544; subst hs; clear hF544
                exact ⟨(), (), rfl, ⟨rfl, rfl, rfl, rfl, rfl, rfl, rfl, rfl, rfl, trivial⟩, H.sel [0, 1, 2, 3, 4, 5, 6, 7, 8, 9] rfl⟩
              · have hF545 := condT hF534; clear hF534
                have hs := Option.some.inj hF545; subst hs; clear hF545
                have hr := hrt _ rfl; subst hr
                have hF546 : some _ = some _ := hF513
                have hs := Option.some.inj hF546; subst hs; clear hF546
                have hF547 : some _ = some _ := hF423; clear hF423
                have hs := Option.some.inj hF547; subst hs; clear hF547
                have hr := hrt _ rfl; subst hr
                have hF548 : some _ = some _ := hF289
                cases hF548
                exact ⟨_, _, rfl, ⟨rfl, rfl⟩, (H.sel [] rfl).close trivial⟩
          · clear H e
            rintro T550 _ _ w549 hr (H : Cx w0 fp0 S0 w549 [Bx b7 [(.int .i64 g__0), (g__1h).v, (g__2h).v, (g__3h).v], Es (List (Int × Int × List Int × List Int)) g__1 g__1h, Es (List Int) g__2 g__2h, Es (List Int) g__3 g__3h, Bx b10 [(m__0h).v, (m__1h).v], Es (List Int) m__0 m__0h, Es (List Int) m__1 m__1h, Bx b18 [(h15).v], E (List Bool) y12 h15, E (List Bool) y473 h476])
            subst hr
            refine boolE (z := false) geLen ?_
            refine sq ?_
            exact ⟨(), ⟨rfl, rfl, rfl, rfl, rfl, rfl, trivial⟩, Option.some.inj hF513, H.sel [0, 1, 2, 3, 4, 5, 6, 7, 8] rfl⟩
        · have hF553 := condT hF457; clear hF457
          exact ⟨(), ⟨rfl, rfl, rfl, rfl, rfl, rfl, trivial⟩, Option.some.inj hF553, H.sel [0, 1, 2, 3, 4, 5, 6, 7, 8] rfl⟩
    · clear hF424 H
      rintro T555 _ w554 ⟨hr, (H : Cx w0 fp0 S0 w554 [Bx b7 [(.int .i64 g__0), (g__1h).v, (g__2h).v, (g__3h).v], Es (List (Int × Int × List Int × List Int)) g__1 g__1h, Es (List Int) g__2 g__2h, Es (List Int) g__3 g__3h, Bx b10 [(m__0h).v, (m__1h).v], Es (List Int) m__0 m__0h, Es (List Int) m__1 m__1h, Bx b18 [(h15).v], E (List Bool) y12 h15])⟩
      subst hr
      refine arK hk hmx287 ?_
      have hs := Option.some.inj hF423; subst hs; clear hF423
      exact ⟨(), (), rfl, ⟨rfl, rfl, rfl, rfl, rfl, rfl, trivial⟩, H.sel [0, 1, 2, 3, 4, 5, 6, 7, 8] rfl⟩
  · clear H e
    rintro T557 _ _ w556 hr (H : Cx w0 fp0 S0 w556 [Bx b7 [(.int .i64 g__0), (g__1h).v, (g__2h).v, (g__3h).v], Es (List (Int × Int × List Int × List Int)) g__1 g__1h, Es (List Int) g__2 g__2h, Es (List Int) g__3 g__3h, Bx b10 [(m__0h).v, (m__1h).v], Es (List Int) m__0 m__0h, Es (List Int) m__1 m__1h, Bx b18 [(h15).v], E (List Bool) y12 h15])
    subst hr
    refine boolE (z := false) geLen ?_
    refine sq ?_
    cases hF289
    exact ⟨_, _, rfl, ⟨rfl, rfl⟩, (H.sel [] rfl).close trivial⟩

theorem impl_IsConvex_c (g__0 : Int) (g__1 : List (Int × Int × List Int × List Int)) (g__1h : Hd) (g__2 : List Int) (g__2h : Hd) (g__3 : List Int) (g__3h : Hd) (pattern__0 : Int) (pattern__1 : List (Int × Int × List Int × List Int)) (pattern__1h : Hd) (pattern__2 : List Int) (pattern__2h : Hd) (pattern__3 : List Int) (pattern__3h : Hd) (m__0 : List Int) (m__0h : Hd) (m__1 : List Int) (m__1h : Hd) (y0 : Bool) (y1 : Bool) (hF : F_impl_IsConvex (g__0, g__1, g__2, g__3) (pattern__0, pattern__1, pattern__2, pattern__3) (m__0, m__1) = some (y0, y1)) :
    ConF Try.prog 31 #[(.agg #[(.int .i64 g__0), (g__1h).v, (g__2h).v, (g__3h).v]), (.agg #[(.int .i64 pattern__0), (pattern__1h).v, (pattern__2h).v, (pattern__3h).v]), (.agg #[(m__0h).v, (m__1h).v])] [Es (List (Int × Int × List Int × List Int)) g__1 g__1h, Es (List Int) g__2 g__2h, Es (List Int) g__3 g__3h, Es (List (Int × Int × List Int × List Int)) pattern__1 pattern__1h, Es (List Int) pattern__2 pattern__2h, Es (List Int) pattern__3 pattern__3h, Es (List Int) m__0 m__0h, Es (List Int) m__1 m__1h] [] (fun v Γ' => v = (.tuple #[(.bool y0), (.bool y1)]) ∧ Γ' = []) := by
  intro w0 S0 fp0 hI hS
  have H : Cx w0 fp0 S0 w0 [Es (List (Int × Int × List Int × List Int)) g__1 g__1h, Es (List Int) g__2 g__2h, Es (List Int) g__3 g__3h, Es (List (Int × Int × List Int × List Int)) pattern__1 pattern__1h, Es (List Int) pattern__2 pattern__2h, Es (List Int) pattern__3 pattern__3h, Es (List Int) m__0 m__0h, Es (List Int) m__1 m__1h] := Cx.start hI hS
  clear hI hS
  refine enterC (args := [_, _, _]) gok Try.func31 rfl _ rfl rfl rfl ?_
  refine box_ H ?_; clear H; intro b10 w9 hx H
  clear hx
  replace H : Cx w0 fp0 S0 w9 [Bx b10 [(.int .i64 g__0), (g__1h).v, (g__2h).v, (g__3h).v], Es (List (Int × Int × List Int × List Int)) g__1 g__1h, Es (List Int) g__2 g__2h, Es (List Int) g__3 g__3h, Es (List (Int × Int × List Int × List Int)) pattern__1 pattern__1h, Es (List Int) pattern__2 pattern__2h, Es (List Int) pattern__3 pattern__3h, Es (List Int) m__0 m__0h, Es (List Int) m__1 m__1h] := H
  refine box_ H ?_; clear H; intro b13 w12 hx H
  clear hx
  replace H : Cx w0 fp0 S0 w12 [Bx b13 [(.int .i64 pattern__0), (pattern__1h).v, (pattern__2h).v, (pattern__3h).v], Bx b10 [(.int .i64 g__0), (g__1h).v, (g__2h).v, (g__3h).v], Es (List (Int × Int × List Int × List Int)) g__1 g__1h, Es (List Int) g__2 g__2h, Es (List Int) g__3 g__3h, Es (List (Int × Int × List Int × List Int)) pattern__1 pattern__1h, Es (List Int) pattern__2 pattern__2h, Es (List Int) pattern__3 pattern__3h, Es (List Int) m__0 m__0h, Es (List Int) m__1 m__1h] := H
  refine box_ H ?_; clear H; intro b16 w15 hx H
  clear hx
  replace H : Cx w0 fp0 S0 w15 [Bx b16 [(m__0h).v, (m__1h).v], Bx b13 [(.int .i64 pattern__0), (pattern__1h).v, (pattern__2h).v, (pattern__3h).v], Bx b10 [(.int .i64 g__0), (g__1h).v, (g__2h).v, (g__3h).v], Es (List (Int × Int × List Int × List Int)) g__1 g__1h, Es (List Int) g__2 g__2h, Es (List Int) g__3 g__3h, Es (List (Int × Int × List Int × List Int)) pattern__1 pattern__1h, Es (List Int) pattern__2 pattern__2h, Es (List Int) pattern__3 pattern__3h, Es (List Int) m__0 m__0h, Es (List Int) m__1 m__1h] := H
  refine sq ?_
  obtain ⟨r49, hF51, hF50⟩ := bindS hF; clear hF
  refine cut (fun (q52 : Bool) => [(3, (.pointer (some ⟨b10, 0, none⟩))), (5, (.pointer (some ⟨b16, 0, none⟩))), (19, (.bool q52))]) (fun (q52 : Bool) w' => q52 = r49 ∧ Cx w0 fp0 S0 w' [Bx b10 [(.int .i64 g__0), (g__1h).v, (g__2h).v, (g__3h).v], Es (List (Int × Int × List Int × List Int)) g__1 g__1h, Es (List Int) g__2 g__2h, Es (List Int) g__3 g__3h, Bx b16 [(m__0h).v, (m__1h).v], Es (List Int) m__0 m__0h, Es (List Int) m__1 m__1h]) ?_ ?_
  · skip
    refine loadN [(.int .i64 g__0), (g__1h).v, (g__2h).v, (g__3h).v] rfl (fun j u hj => H.bx 2 rfl hj) ?_
    refine loadN [(.int .i64 pattern__0), (pattern__1h).v, (pattern__2h).v, (pattern__3h).v] rfl (fun j u hj => H.bx 1 rfl hj) ?_
    replace H := H.dup 3 rfl persS
    replace H := H.dup 5 rfl persS
    replace H := H.dup 7 rfl persS
    replace H := H.sel [2, 1, 0, 3, 4, 5, 6, 7, 8, 9, 10, 11, 12, 13] rfl
    replace H := H.sel [1, 2, 0, 3, 4, 5, 6, 7, 8, 9, 10, 11, 12, 13] rfl
    replace H := H.join (α := Sh (List Int)) (β := Sh (List Int))
    replace H := H.sel [1, 0, 2, 3, 4, 5, 6, 7, 8, 9, 10, 11, 12] rfl
    replace H := H.join (α := Sh (List (Int × Int × List Int × List Int))) (β := Sh (List Int) × Sh (List Int))
    replace H := H.sc (α := Int) g__0
    replace H := H.join (α := Int) (β := (Sh (List (Int × Int × List Int × List Int))) × Sh (List Int) × Sh (List Int))
    replace H := H.dup 7 rfl persS
    replace H := H.dup 9 rfl persS
    replace H := H.dup 11 rfl persS
    replace H := H.sel [2, 1, 0, 3, 4, 5, 6, 7, 8, 9, 10, 11, 12, 13, 14] rfl
    replace H := H.sel [1, 2, 0, 3, 4, 5, 6, 7, 8, 9, 10, 11, 12, 13, 14] rfl
    replace H := H.join (α := Sh (List Int)) (β := Sh (List Int))
    replace H := H.sel [1, 0, 2, 3, 4, 5, 6, 7, 8, 9, 10, 11, 12, 13] rfl
    replace H := H.join (α := Sh (List (Int × Int × List Int × List Int))) (β := Sh (List Int) × Sh (List Int))
    replace H := H.sc (α := Int) pattern__0
    replace H := H.join (α := Int) (β := (Sh (List (Int × Int × List Int × List Int))) × Sh (List Int) × Sh (List Int))
    replace H := H.sel [1, 0, 2, 3, 4, 5, 6, 7, 8, 9, 10, 11, 12] rfl
    refine litN (α := Int × (Sh (List (Int × Int × List Int × List Int))) × Sh (List Int) × Sh (List Int)) (us := [(.agg #[(.int .i64 g__0), (g__1h).v, (g__2h).v, (g__3h).v]), (.agg #[(.int .i64 pattern__0), (pattern__1h).v, (pattern__2h).v, (pattern__3h).v])]) (xs := [(g__0, g__1, g__2, g__3), (pattern__0, pattern__1, pattern__2, pattern__3)]) (gs := [((), g__1h, g__2h, g__3h), ((), pattern__1h, pattern__2h, pattern__3h)]) gok rfl rfl rfl ⟨rfl, rfl, trivial⟩ rfl rfl H ?_; clear H; intro h54 w53 hx H
    clear hx
    obtain ⟨y70, e, hF71⟩ := bindS hF51; clear hF51
    have ey70 := e; clear e
    refine callF (impl_areMonogamous_c [(g__0, g__1, g__2, g__3), (pattern__0, pattern__1, pattern__2, pattern__3)] h54 y70 ey70) (Γi := []) H ⟨Vw.part (β := List (Int × (List (Int × Int × List Int × List Int)) × (List Int) × (List Int))) (Vw.own (α := List (Int × (Sh (List (Int × Int × List Int × List Int))) × Sh (List Int) × Sh (List Int))) 0 rfl) [(g__0, g__1, g__2, g__3), (pattern__0, pattern__1, pattern__2, pattern__3)] h54 (fun S h => h), trivial⟩ ?_; clear H ey70
    rintro _ _ w72 ⟨rfl, rfl⟩ (H : Cx w0 fp0 S0 w72 [E (List (Int × (Sh (List (Int × Int × List Int × List Int))) × Sh (List Int) × Sh (List Int))) [(g__0, g__1, g__2, g__3), (pattern__0, pattern__1, pattern__2, pattern__3)] h54, Bx b16 [(m__0h).v, (m__1h).v], Bx b13 [(.int .i64 pattern__0), (pattern__1h).v, (pattern__2h).v, (pattern__3h).v], Bx b10 [(.int .i64 g__0), (g__1h).v, (g__2h).v, (g__3h).v], Es (List (Int × Int × List Int × List Int)) g__1 g__1h, Es (List Int) g__2 g__2h, Es (List Int) g__3 g__3h, Es (List (Int × Int × List Int × List Int)) pattern__1 pattern__1h, Es (List Int) pattern__2 pattern__2h, Es (List Int) pattern__3 pattern__3h, Es (List Int) m__0 m__0h, Es (List Int) m__1 m__1h])
    obtain ⟨a73, e, hF74⟩ := bindS hF71; clear hF71
    refine boolO e ?_; clear e
    cases a73
    · have hF75 := condF hF74; clear hF74
      refine loadN [(.int .i64 g__0), (g__1h).v, (g__2h).v, (g__3h).v] rfl (fun j u hj => H.bx 3 rfl hj) ?_
      refine loadN [(.int .i64 pattern__0), (pattern__1h).v, (pattern__2h).v, (pattern__3h).v] rfl (fun j u hj => H.bx 2 rfl hj) ?_
      refine loadN [(m__0h).v, (m__1h).v] rfl (fun j u hj => H.bx 1 rfl hj) ?_
      obtain ⟨y76, e, hF77⟩ := bindS hF75; clear hF75
      have ey76 := e; clear e
      refine callF (impl_isMatch_c g__0 g__1 g__1h g__2 g__2h g__3 g__3h pattern__0 pattern__1 pattern__1h pattern__2 pattern__2h pattern__3 pattern__3h m__0 m__0h m__1 m__1h y76 ey76) (Γi := []) H ⟨Vw.sh 4 rfl, Vw.sh 5 rfl, Vw.sh 6 rfl, Vw.sh 7 rfl, Vw.sh 8 rfl, Vw.sh 9 rfl, Vw.sh 10 rfl, Vw.sh 11 rfl, trivial⟩ ?_; clear H ey76
      rintro _ _ w78 ⟨rfl, rfl⟩ (H : Cx w0 fp0 S0 w78 [E (List (Int × (Sh (List (Int × Int × List Int × List Int))) × Sh (List Int) × Sh (List Int))) [(g__0, g__1, g__2, g__3), (pattern__0, pattern__1, pattern__2, pattern__3)] h54, Bx b16 [(m__0h).v, (m__1h).v], Bx b13 [(.int .i64 pattern__0), (pattern__1h).v, (pattern__2h).v, (pattern__3h).v], Bx b10 [(.int .i64 g__0), (g__1h).v, (g__2h).v, (g__3h).v], Es (List (Int × Int × List Int × List Int)) g__1 g__1h, Es (List Int) g__2 g__2h, Es (List Int) g__3 g__3h, Es (List (Int × Int × List Int × List Int)) pattern__1 pattern__1h, Es (List Int) pattern__2 pattern__2h, Es (List Int) pattern__3 pattern__3h, Es (List Int) m__0 m__0h, Es (List Int) m__1 m__1h])
      obtain ⟨a79, e, hF80⟩ := bindS hF77; clear hF77
      refine boolO e ?_; clear e
      exact ⟨a79, ⟨rfl, rfl, rfl, trivial⟩, Option.some.inj hF80, H.sel [3, 4, 5, 6, 1, 10, 11] rfl⟩
    · have hF81 := condT hF74; clear hF74
      exact ⟨true, ⟨rfl, rfl, rfl, trivial⟩, Option.some.inj hF81, H.sel [3, 4, 5, 6, 1, 10, 11] rfl⟩
  · clear hF51 H
    rintro T83 s47 w82 ⟨hr, (H : Cx w0 fp0 S0 w82 [Bx b10 [(.int .i64 g__0), (g__1h).v, (g__2h).v, (g__3h).v], Es (List (Int × Int × List Int × List Int)) g__1 g__1h, Es (List Int) g__2 g__2h, Es (List Int) g__3 g__3h, Bx b16 [(m__0h).v, (m__1h).v], Es (List Int) m__0 m__0h, Es (List Int) m__1 m__1h])⟩
    subst hr
    cases s47
    · have hF84 := condF hF50; clear hF50
      refine loadN [(.int .i64 g__0), (g__1h).v, (g__2h).v, (g__3h).v] rfl (fun j u hj => H.bx 0 rfl hj) ?_
      refine loadN [(m__0h).v, (m__1h).v] rfl (fun j u hj => H.bx 4 rfl hj) ?_
      obtain ⟨y85, e, hF86⟩ := bindS hF84; clear hF84
      have ey85 := e; clear e
      refine callF (impl_isConvex_c g__0 g__1 g__1h g__2 g__2h g__3 g__3h m__0 m__0h m__1 m__1h y85 ey85) (Γi := []) H ⟨Vw.sh 1 rfl, Vw.sh 2 rfl, Vw.sh 3 rfl, Vw.sh 5 rfl, Vw.sh 6 rfl, trivial⟩ ?_; clear H ey85
      rintro _ _ w87 ⟨rfl, rfl⟩ (H : Cx w0 fp0 S0 w87 [Bx b10 [(.int .i64 g__0), (g__1h).v, (g__2h).v, (g__3h).v], Es (List (Int × Int × List Int × List Int)) g__1 g__1h, Es (List Int) g__2 g__2h, Es (List Int) g__3 g__3h, Bx b16 [(m__0h).v, (m__1h).v], Es (List Int) m__0 m__0h, Es (List Int) m__1 m__1h])
      cases hF86
      exact ⟨_, _, rfl, ⟨rfl, rfl⟩, (H.sel [] rfl).close trivial⟩
    · have hF88 := condT hF50; clear hF50
      cases hF88
      exact ⟨_, _, rfl, ⟨rfl, rfl⟩, (H.sel [] rfl).close trivial⟩

theorem laws_eqIntS_c (a_ : List Int) (a_h : Hd) (b_ : List Int) (b_h : Hd) (y : Bool) (hF : F_laws_eqIntS a_ b_ = some y) :
    ConF Try.prog 20 #[(a_h).v, (b_h).v] [Es (List Int) a_ a_h, Es (List Int) b_ b_h] [] (fun v Γ' => v = (.bool y) ∧ Γ' = []) := by
  intro w0 S0 fp0 hI hS
  have H : Cx w0 fp0 S0 w0 [Es (List Int) a_ a_h, Es (List Int) b_ b_h] := Cx.start hI hS
  clear hI hS
  refine enterC (args := [_, _]) gok Try.func20 rfl _ rfl rfl rfl ?_
  refine sq ?_
  refine lenE (H.rs (α := List Int) 0 rfl).len ?_
  refine lenE (H.rs (α := List Int) 1 rfl).len ?_
  obtain ⟨a3, e, hF4⟩ := bindS hF; clear hF
  refine boolO e ?_; clear e
  cases a3
  · have hF5 := condF hF4; clear hF4
    obtain ⟨r104, hF106, hF105⟩ := bindS hF5; clear hF5
    refine cut (fun (q107 : Unit) => []) (fun (q107 : Unit) w' => .inl () = r104 ∧ Cx w0 fp0 S0 w' []) ?_ ?_
    · skip
      refine loopW _ (fun (s166 : Int) (_ : Unit) => [(0, (a_h).v), (1, (b_h).v), (5, (.int .i64 s166))]) (fun (s166 : Int) (_ : Unit) w' => Cx w0 fp0 S0 w' [Es (List Int) a_ a_h, Es (List Int) b_ b_h]) 0 () hF106 ⟨rfl, rfl, rfl, trivial⟩ (H.sel [0, 1] rfl) ?_
      · clear H
        rintro T172 s166 _ w171 o173 (H : Cx w0 fp0 S0 w171 [Es (List Int) a_ a_h, Es (List Int) b_ b_h]) hrt hF174
        refine sq ?_
        refine lenE (H.rs (α := List Int) 0 rfl).len ?_
        obtain ⟨a175, e, hF176⟩ := bindS hF174; clear hF174
        refine boolO e ?_; clear e
        cases a175
        · have hF177 := condF hF176; clear hF176
          have hs := Option.some.inj hF177; subst hs; clear hF177
          have hF178 : some _ = some _ := congrArg some (hrt _ rfl).symm
          exact ⟨(), trivial, Option.some.inj hF178, H.sel [] rfl⟩
        · have hF179 := condT hF176; clear hF176
          refine sq ?_
          refine heldX H [] (.fst 0 (.fst 1 (.fst 2 (.fst 4 (.fst 5 (.fst 6 (.fst 3 (.fst 7 (.fst 8 .done))))))))) mixed [] trivial (by kernel_rfl) ?_
          clear H; intro w180 H
          have hX : Ext w180 w180 := Upd.refl _ _
          have H0 := H
          obtain ⟨a187, e, hF188⟩ := bindS hF179; clear hF179
          obtain ⟨p185, m186, c181, c182, c183, c184⟩ := (H.rs (α := List Int) 0 rfl).at1 e; clear e
          refine idxE c181 c182 c183 ?_; clear c181 c182 c183
          obtain ⟨a195, e, hF196⟩ := bindS hF188; clear hF188
          obtain ⟨p193, m194, c189, c190, c191, c192⟩ := (H.rs (α := List Int) 1 rfl).at1 e; clear e
          refine idxE c189 c190 c191 ?_; clear c189 c190 c191
          refine load1X c184 ?_; clear c184
          refine load1X c192 ?_; clear c192
          obtain ⟨a197, e, hF198⟩ := bindS hF196; clear hF196
          refine boolO e ?_; clear e
          cases a197
          · have hF199 := condF hF198; clear hF198
            obtain ⟨a200, e, hF201⟩ := bindS hF199; clear hF199
            refine arO e ?_; clear e
            have hs := Option.some.inj hF201; subst hs; clear hF201
            exact ⟨a200, (), rfl, ⟨rfl, rfl, rfl, trivial⟩, H.sel [0, 1] rfl⟩
          · have hF202 := condT hF198; clear hF198
            have hs := Option.some.inj hF202; subst hs; clear hF202
            have hF203 : some _ = some _ := congrArg some (hrt _ rfl).symm
            have hs := Option.some.inj hF203; subst hs; clear hF203
            have hF204 : some _ = some _ := hF105; clear hF105
            cases hF204
            exact ⟨_, _, rfl, ⟨rfl, rfl⟩, (H.sel [] rfl).close trivial⟩
    · clear hF106 H
      rintro T206 _ w205 ⟨hr, (H : Cx w0 fp0 S0 w205 [])⟩
      subst hr
      cases hF105
      exact ⟨_, _, rfl, ⟨rfl, rfl⟩, (H.sel [] rfl).close trivial⟩
  · have hF207 := condT hF4; clear hF4
    cases hF207
    exact ⟨_, _, rfl, ⟨rfl, rfl⟩, (H.sel [] rfl).close trivial⟩

theorem laws_eqEdge_c (a__0 : Int) (a__1 : Int) (a__2 : List Int) (a__2h : Hd) (a__3 : List Int) (a__3h : Hd) (b__0 : Int) (b__1 : Int) (b__2 : List Int) (b__2h : Hd) (b__3 : List Int) (b__3h : Hd) (y : Bool) (hF : F_laws_eqEdge (a__0, a__1, a__2, a__3) (b__0, b__1, b__2, b__3) = some y) :
    ConF Try.prog 86 #[(.agg #[(.int .i64 a__0), (.int .i64 a__1), (a__2h).v, (a__3h).v]), (.agg #[(.int .i64 b__0), (.int .i64 b__1), (b__2h).v, (b__3h).v])] [Es (List Int) a__2 a__2h, Es (List Int) a__3 a__3h, Es (List Int) b__2 b__2h, Es (List Int) b__3 b__3h] [] (fun v Γ' => v = (.bool y) ∧ Γ' = []) := by
  intro w0 S0 fp0 hI hS
  have H : Cx w0 fp0 S0 w0 [Es (List Int) a__2 a__2h, Es (List Int) a__3 a__3h, Es (List Int) b__2 b__2h, Es (List Int) b__3 b__3h] := Cx.start hI hS
  clear hI hS
  refine enterC (args := [_, _]) gok Try.func86 rfl _ rfl rfl rfl ?_
  refine box_ H ?_; clear H; intro b6 w5 hx H
  clear hx
  replace H : Cx w0 fp0 S0 w5 [Bx b6 [(.int .i64 a__0), (.int .i64 a__1), (a__2h).v, (a__3h).v], Es (List Int) a__2 a__2h, Es (List Int) a__3 a__3h, Es (List Int) b__2 b__2h, Es (List Int) b__3 b__3h] := H
  refine box_ H ?_; clear H; intro b9 w8 hx H
  clear hx
  replace H : Cx w0 fp0 S0 w8 [Bx b9 [(.int .i64 b__0), (.int .i64 b__1), (b__2h).v, (b__3h).v], Bx b6 [(.int .i64 a__0), (.int .i64 a__1), (a__2h).v, (a__3h).v], Es (List Int) a__2 a__2h, Es (List Int) a__3 a__3h, Es (List Int) b__2 b__2h, Es (List Int) b__3 b__3h] := H
  refine sq ?_
  refine fld gok rfl rfl rfl rfl ?_
  refine load1 (H.bx 1 rfl (j := 0) rfl) ?_
  refine fld gok rfl rfl rfl rfl ?_
  refine load1 (H.bx 0 rfl (j := 0) rfl) ?_
  obtain ⟨a11, e, hF12⟩ := bindS hF; clear hF
  refine boolO e ?_; clear e
  cases a11
  · have hF13 := condF hF12; clear hF12
    refine sq ?_
    refine fld gok rfl rfl rfl rfl ?_
    refine load1 (H.bx 1 rfl (j := 1) rfl) ?_
    refine fld gok rfl rfl rfl rfl ?_
    refine load1 (H.bx 0 rfl (j := 1) rfl) ?_
    obtain ⟨a14, e, hF15⟩ := bindS hF13; clear hF13
    refine boolO e ?_; clear e
    cases a14
    · have hF16 := condF hF15; clear hF15
      refine sq ?_
      refine fld gok rfl rfl rfl rfl ?_
      refine load1 (H.bx 1 rfl (j := 2) rfl) ?_
      refine fld gok rfl rfl rfl rfl ?_
      refine load1 (H.bx 0 rfl (j := 2) rfl) ?_
      obtain ⟨y17, e, hF18⟩ := bindS hF16; clear hF16
      have ey17 := e; clear e
      refine callF (laws_eqIntS_c a__2 a__2h b__2 b__2h y17 ey17) (Γi := []) H ⟨Vw.sh 2 rfl, Vw.sh 4 rfl, trivial⟩ ?_; clear H ey17
      rintro _ _ w19 ⟨rfl, rfl⟩ (H : Cx w0 fp0 S0 w19 [Bx b9 [(.int .i64 b__0), (.int .i64 b__1), (b__2h).v, (b__3h).v], Bx b6 [(.int .i64 a__0), (.int .i64 a__1), (a__2h).v, (a__3h).v], Es (List Int) a__2 a__2h, Es (List Int) a__3 a__3h, Es (List Int) b__2 b__2h, Es (List Int) b__3 b__3h])
      obtain ⟨a20, e, hF21⟩ := bindS hF18; clear hF18
      refine boolO e ?_; clear e
      cases a20
      · have hF22 := condF hF21; clear hF21
        refine sq ?_
        refine fld gok rfl rfl rfl rfl ?_
        refine load1 (H.bx 1 rfl (j := 3) rfl) ?_
        refine fld gok rfl rfl rfl rfl ?_
        refine load1 (H.bx 0 rfl (j := 3) rfl) ?_
        obtain ⟨y23, e, hF24⟩ := bindS hF22; clear hF22
        have ey23 := e; clear e
        refine callF (laws_eqIntS_c a__3 a__3h b__3 b__3h y23 ey23) (Γi := []) H ⟨Vw.sh 3 rfl, Vw.sh 5 rfl, trivial⟩ ?_; clear H ey23
        rintro _ _ w25 ⟨rfl, rfl⟩ (H : Cx w0 fp0 S0 w25 [Bx b9 [(.int .i64 b__0), (.int .i64 b__1), (b__2h).v, (b__3h).v], Bx b6 [(.int .i64 a__0), (.int .i64 a__1), (a__2h).v, (a__3h).v], Es (List Int) a__2 a__2h, Es (List Int) a__3 a__3h, Es (List Int) b__2 b__2h, Es (List Int) b__3 b__3h])
        obtain ⟨a26, e, hF27⟩ := bindS hF24; clear hF24
        refine boolO e ?_; clear e
        cases a26
        · have hF28 := condF hF27; clear hF27
          cases hF28
          exact ⟨_, _, rfl, ⟨rfl, rfl⟩, (H.sel [] rfl).close trivial⟩
        · have hF29 := condT hF27; clear hF27
          cases hF29
          exact ⟨_, _, rfl, ⟨rfl, rfl⟩, (H.sel [] rfl).close trivial⟩
      · have hF30 := condT hF21; clear hF21
        cases hF30
        exact ⟨_, _, rfl, ⟨rfl, rfl⟩, (H.sel [] rfl).close trivial⟩
    · have hF31 := condT hF15; clear hF15
      cases hF31
      exact ⟨_, _, rfl, ⟨rfl, rfl⟩, (H.sel [] rfl).close trivial⟩
  · have hF32 := condT hF12; clear hF12
    cases hF32
    exact ⟨_, _, rfl, ⟨rfl, rfl⟩, (H.sel [] rfl).close trivial⟩

theorem laws_eqEdgeS_c (a_ : List (Int × Int × List Int × List Int)) (a_h : Hd) (b_ : List (Int × Int × List Int × List Int)) (b_h : Hd) (y : Bool) (hF : F_laws_eqEdgeS a_ b_ = some y) :
    ConF Try.prog 47 #[(a_h).v, (b_h).v] [Es (List (Int × Int × List Int × List Int)) a_ a_h, Es (List (Int × Int × List Int × List Int)) b_ b_h] [] (fun v Γ' => v = (.bool y) ∧ Γ' = []) := by
  intro w0 S0 fp0 hI hS
  have H : Cx w0 fp0 S0 w0 [Es (List (Int × Int × List Int × List Int)) a_ a_h, Es (List (Int × Int × List Int × List Int)) b_ b_h] := Cx.start hI hS
  clear hI hS
  refine enterC (args := [_, _]) gok Try.func47 rfl _ rfl rfl rfl ?_
  refine sq ?_
  refine lenE (H.rs (α := List (Int × Int × List Int × List Int)) 0 rfl).len ?_
  refine lenE (H.rs (α := List (Int × Int × List Int × List Int)) 1 rfl).len ?_
  obtain ⟨a3, e, hF4⟩ := bindS hF; clear hF
  refine boolO e ?_; clear e
  cases a3
  · have hF5 := condF hF4; clear hF4
    obtain ⟨r149, hF151, hF150⟩ := bindS hF5; clear hF5
    refine cut (fun (q152 : Unit) => []) (fun (q152 : Unit) w' => .inl () = r149 ∧ Cx w0 fp0 S0 w' []) ?_ ?_
    · skip
      refine loopW _ (fun (s241 : Int) (_ : Unit) => [(0, (a_h).v), (1, (b_h).v), (5, (.int .i64 s241))]) (fun (s241 : Int) (_ : Unit) w' => Cx w0 fp0 S0 w' [Es (List (Int × Int × List Int × List Int)) a_ a_h, Es (List (Int × Int × List Int × List Int)) b_ b_h]) 0 () hF151 ⟨rfl, rfl, rfl, trivial⟩ (H.sel [0, 1] rfl) ?_
      · clear H
        rintro T247 s241 _ w246 o248 (H : Cx w0 fp0 S0 w246 [Es (List (Int × Int × List Int × List Int)) a_ a_h, Es (List (Int × Int × List Int × List Int)) b_ b_h]) hrt hF249
        refine sq ?_
        refine lenE (H.rs (α := List (Int × Int × List Int × List Int)) 0 rfl).len ?_
        obtain ⟨a250, e, hF251⟩ := bindS hF249; clear hF249
        refine boolO e ?_; clear e
        cases a250
        · have hF252 := condF hF251; clear hF251
          have hs := Option.some.inj hF252; subst hs; clear hF252
          have hF253 : some _ = some _ := congrArg some (hrt _ rfl).symm
          exact ⟨(), trivial, Option.some.inj hF253, H.sel [] rfl⟩
        · have hF254 := condT hF251; clear hF251
          refine sq ?_
          refine heldX H [] (.fst 0 (.fst 1 (.fst 2 (.fst 4 (.fst 5 (.fst 6 (.fst 3 (.fst 7 (.act 8 (.fst 9 .done)))))))))) mixed [] trivial (by kernel_rfl) ?_
          clear H; intro w255 H
          have hX : Ext w255 w255 := Upd.refl _ _
          have H0 := H
          obtain ⟨a262, e, hF263⟩ := bindS hF254; clear hF254
          have HH := H; clear H; obtain ⟨p260, m261, g264, c256, c257, c258, c259, H⟩ := HH.el (α := Int × Int × List Int × List Int) 0 rfl e; clear HH
          clear e
          obtain ⟨a262_0, a262_1, a262_2, a262_3⟩ := a262
          obtain ⟨_, _, h266, h267⟩ := g264
          replace H := H.part (β := List Int) a262_2 (h266 : Hd) 0 rfl (fun S h => (And.left (And.right (And.right h))))
          replace H := H.part (β := List Int) a262_3 (h267 : Hd) 1 rfl (fun S h => (And.right (And.right (And.right h))))
          replace H := H.sel [0, 1, 3, 4] rfl
          refine idxE c256 c257 c258 ?_; clear c256 c257 c258
          obtain ⟨a276, e, hF277⟩ := bindS hF263; clear hF263
          have HH := H; clear H; obtain ⟨p274, m275, g278, c270, c271, c272, c273, H⟩ := HH.el (α := Int × Int × List Int × List Int) 3 rfl e; clear HH
          clear e
          obtain ⟨a276_0, a276_1, a276_2, a276_3⟩ := a276
          obtain ⟨_, _, h280, h281⟩ := g278
          replace H := H.part (β := List Int) a276_2 (h280 : Hd) 0 rfl (fun S h => (And.left (And.right (And.right h))))
          replace H := H.part (β := List Int) a276_3 (h281 : Hd) 1 rfl (fun S h => (And.right (And.right (And.right h))))
          replace H := H.sel [0, 1, 3, 4, 5, 6] rfl
          refine idxE c270 c271 c272 ?_; clear c270 c271 c272
          refine loadNX [(.int .i64 a262_0), (.int .i64 a262_1), (h266).v, (h267).v] rfl c259 ?_; clear c259
          refine loadNX [(.int .i64 a276_0), (.int .i64 a276_1), (h280).v, (h281).v] rfl c273 ?_; clear c273
          obtain ⟨y284, e, hF285⟩ := bindS hF277; clear hF277
          have ey284 := e; clear e
          refine callFx (laws_eqEdge_c a262_0 a262_1 a262_2 h266 a262_3 h267 a276_0 a276_1 a276_2 h280 a276_3 h281 y284 ey284) H ⟨Vw.sh 3 rfl, Vw.sh 2 rfl, Vw.sh 1 rfl, Vw.sh 0 rfl, trivial⟩ ?_; clear H ey284
          rintro _ _ w286 ⟨rfl, rfl⟩ hx (H : Cx w0 fp0 S0 w286 [Es (List Int) a276_3 h281, Es (List Int) a276_2 h280, Es (List Int) a262_3 h267, Es (List Int) a262_2 h266, Es (List (Int × Int × List Int × List Int)) a_ a_h, Es (List (Int × Int × List Int × List Int)) b_ b_h])
          replace hX := hX.trans0 hx; clear hx
          refine hold hX ?_
          obtain ⟨a287, e, hF288⟩ := bindS hF285; clear hF285
          refine boolO e ?_; clear e
          cases a287
          · have hF289 := condF hF288; clear hF288
            obtain ⟨a290, e, hF291⟩ := bindS hF289; clear hF289
            refine arO e ?_; clear e
            have hs := Option.some.inj hF291; subst hs; clear hF291
            exact ⟨a290, (), rfl, ⟨rfl, rfl, rfl, trivial⟩, H.sel [4, 5] rfl⟩
          · have hF292 := condT hF288; clear hF288
            have hs := Option.some.inj hF292; subst hs; clear hF292
            have hF293 : some _ = some _ := congrArg some (hrt _ rfl).symm
            have hs := Option.some.inj hF293; subst hs; clear hF293
            have hF294 : some _ = some _ := hF150; clear hF150
            cases hF294
            exact ⟨_, _, rfl, ⟨rfl, rfl⟩, (H.sel [] rfl).close trivial⟩
    · clear hF151 H
      rintro T296 _ w295 ⟨hr, (H : Cx w0 fp0 S0 w295 [])⟩
      subst hr
      cases hF150
      exact ⟨_, _, rfl, ⟨rfl, rfl⟩, (H.sel [] rfl).close trivial⟩
  · have hF297 := condT hF4; clear hF4
    cases hF297
    exact ⟨_, _, rfl, ⟨rfl, rfl⟩, (H.sel [] rfl).close trivial⟩

theorem laws_eqGraph_c (a__0 : Int) (a__1 : List (Int × Int × List Int × List Int)) (a__1h : Hd) (a__2 : List Int) (a__2h : Hd) (a__3 : List Int) (a__3h : Hd) (b__0 : Int) (b__1 : List (Int × Int × List Int × List Int)) (b__1h : Hd) (b__2 : List Int) (b__2h : Hd) (b__3 : List Int) (b__3h : Hd) (y : Bool) (hF : F_laws_eqGraph (a__0, a__1, a__2, a__3) (b__0, b__1, b__2, b__3) = some y) :
    ConF Try.prog 14 #[(.agg #[(.int .i64 a__0), (a__1h).v, (a__2h).v, (a__3h).v]), (.agg #[(.int .i64 b__0), (b__1h).v, (b__2h).v, (b__3h).v])] [Es (List (Int × Int × List Int × List Int)) a__1 a__1h, Es (List Int) a__2 a__2h, Es (List Int) a__3 a__3h, Es (List (Int × Int × List Int × List Int)) b__1 b__1h, Es (List Int) b__2 b__2h, Es (List Int) b__3 b__3h] [] (fun v Γ' => v = (.bool y) ∧ Γ' = []) := by
  intro w0 S0 fp0 hI hS
  have H : Cx w0 fp0 S0 w0 [Es (List (Int × Int × List Int × List Int)) a__1 a__1h, Es (List Int) a__2 a__2h, Es (List Int) a__3 a__3h, Es (List (Int × Int × List Int × List Int)) b__1 b__1h, Es (List Int) b__2 b__2h, Es (List Int) b__3 b__3h] := Cx.start hI hS
  clear hI hS
  refine enterC (args := [_, _]) gok Try.func14 rfl _ rfl rfl rfl ?_
  refine box_ H ?_; clear H; intro b8 w7 hx H
  clear hx
  replace H : Cx w0 fp0 S0 w7 [Bx b8 [(.int .i64 a__0), (a__1h).v, (a__2h).v, (a__3h).v], Es (List (Int × Int × List Int × List Int)) a__1 a__1h, Es (List Int) a__2 a__2h, Es (List Int) a__3 a__3h, Es (List (Int × Int × List Int × List Int)) b__1 b__1h, Es (List Int) b__2 b__2h, Es (List Int) b__3 b__3h] := H
  refine box_ H ?_; clear H; intro b11 w10 hx H
  clear hx
  replace H : Cx w0 fp0 S0 w10 [Bx b11 [(.int .i64 b__0), (b__1h).v, (b__2h).v, (b__3h).v], Bx b8 [(.int .i64 a__0), (a__1h).v, (a__2h).v, (a__3h).v], Es (List (Int × Int × List Int × List Int)) a__1 a__1h, Es (List Int) a__2 a__2h, Es (List Int) a__3 a__3h, Es (List (Int × Int × List Int × List Int)) b__1 b__1h, Es (List Int) b__2 b__2h, Es (List Int) b__3 b__3h] := H
  refine sq ?_
  refine fld gok rfl rfl rfl rfl ?_
  refine load1 (H.bx 1 rfl (j := 0) rfl) ?_
  refine fld gok rfl rfl rfl rfl ?_
  refine load1 (H.bx 0 rfl (j := 0) rfl) ?_
  obtain ⟨a13, e, hF14⟩ := bindS hF; clear hF
  refine boolO e ?_; clear e
  cases a13
  · have hF15 := condF hF14; clear hF14
    refine sq ?_
    refine fld gok rfl rfl rfl rfl ?_
    refine load1 (H.bx 1 rfl (j := 1) rfl) ?_
    refine fld gok rfl rfl rfl rfl ?_
    refine load1 (H.bx 0 rfl (j := 1) rfl) ?_
    obtain ⟨y16, e, hF17⟩ := bindS hF15; clear hF15
    have ey16 := e; clear e
    refine callF (laws_eqEdgeS_c a__1 a__1h b__1 b__1h y16 ey16) (Γi := []) H ⟨Vw.sh 2 rfl, Vw.sh 5 rfl, trivial⟩ ?_; clear H ey16
    rintro _ _ w18 ⟨rfl, rfl⟩ (H : Cx w0 fp0 S0 w18 [Bx b11 [(.int .i64 b__0), (b__1h).v, (b__2h).v, (b__3h).v], Bx b8 [(.int .i64 a__0), (a__1h).v, (a__2h).v, (a__3h).v], Es (List (Int × Int × List Int × List Int)) a__1 a__1h, Es (List Int) a__2 a__2h, Es (List Int) a__3 a__3h, Es (List (Int × Int × List Int × List Int)) b__1 b__1h, Es (List Int) b__2 b__2h, Es (List Int) b__3 b__3h])
    obtain ⟨a19, e, hF20⟩ := bindS hF17; clear hF17
    refine boolO e ?_; clear e
    cases a19
    · have hF21 := condF hF20; clear hF20
      refine sq ?_
      refine fld gok rfl rfl rfl rfl ?_
      refine load1 (H.bx 1 rfl (j := 2) rfl) ?_
      refine fld gok rfl rfl rfl rfl ?_
      refine load1 (H.bx 0 rfl (j := 2) rfl) ?_
      obtain ⟨y22, e, hF23⟩ := bindS hF21; clear hF21
      have ey22 := e; clear e
      refine callF (laws_eqIntS_c a__2 a__2h b__2 b__2h y22 ey22) (Γi := []) H ⟨Vw.sh 3 rfl, Vw.sh 6 rfl, trivial⟩ ?_; clear H ey22
      rintro _ _ w24 ⟨rfl, rfl⟩ (H : Cx w0 fp0 S0 w24 [Bx b11 [(.int .i64 b__0), (b__1h).v, (b__2h).v, (b__3h).v], Bx b8 [(.int .i64 a__0), (a__1h).v, (a__2h).v, (a__3h).v], Es (List (Int × Int × List Int × List Int)) a__1 a__1h, Es (List Int) a__2 a__2h, Es (List Int) a__3 a__3h, Es (List (Int × Int × List Int × List Int)) b__1 b__1h, Es (List Int) b__2 b__2h, Es (List Int) b__3 b__3h])
      obtain ⟨a25, e, hF26⟩ := bindS hF23; clear hF23
      refine boolO e ?_; clear e
      cases a25
      · have hF27 := condF hF26; clear hF26
        refine sq ?_
        refine fld gok rfl rfl rfl rfl ?_
        refine load1 (H.bx 1 rfl (j := 3) rfl) ?_
        refine fld gok rfl rfl rfl rfl ?_
        refine load1 (H.bx 0 rfl (j := 3) rfl) ?_
        obtain ⟨y28, e, hF29⟩ := bindS hF27; clear hF27
        have ey28 := e; clear e
        refine callF (laws_eqIntS_c a__3 a__3h b__3 b__3h y28 ey28) (Γi := []) H ⟨Vw.sh 4 rfl, Vw.sh 7 rfl, trivial⟩ ?_; clear H ey28
        rintro _ _ w30 ⟨rfl, rfl⟩ (H : Cx w0 fp0 S0 w30 [Bx b11 [(.int .i64 b__0), (b__1h).v, (b__2h).v, (b__3h).v], Bx b8 [(.int .i64 a__0), (a__1h).v, (a__2h).v, (a__3h).v], Es (List (Int × Int × List Int × List Int)) a__1 a__1h, Es (List Int) a__2 a__2h, Es (List Int) a__3 a__3h, Es (List (Int × Int × List Int × List Int)) b__1 b__1h, Es (List Int) b__2 b__2h, Es (List Int) b__3 b__3h])
        obtain ⟨a31, e, hF32⟩ := bindS hF29; clear hF29
        refine boolO e ?_; clear e
        cases a31
        · have hF33 := condF hF32; clear hF32
          cases hF33
          exact ⟨_, _, rfl, ⟨rfl, rfl⟩, (H.sel [] rfl).close trivial⟩
        · have hF34 := condT hF32; clear hF32
          cases hF34
          exact ⟨_, _, rfl, ⟨rfl, rfl⟩, (H.sel [] rfl).close trivial⟩
      · have hF35 := condT hF26; clear hF26
        cases hF35
        exact ⟨_, _, rfl, ⟨rfl, rfl⟩, (H.sel [] rfl).close trivial⟩
    · have hF36 := condT hF20; clear hF20
      cases hF36
      exact ⟨_, _, rfl, ⟨rfl, rfl⟩, (H.sel [] rfl).close trivial⟩
  · have hF37 := condT hF14; clear hF14
    cases hF37
    exact ⟨_, _, rfl, ⟨rfl, rfl⟩, (H.sel [] rfl).close trivial⟩

theorem laws_eqMatch_c (a__0 : List Int) (a__0h : Hd) (a__1 : List Int) (a__1h : Hd) (b__0 : List Int) (b__0h : Hd) (b__1 : List Int) (b__1h : Hd) (y : Bool) (hF : F_laws_eqMatch (a__0, a__1) (b__0, b__1) = some y) :
    ConF Try.prog 32 #[(.agg #[(a__0h).v, (a__1h).v]), (.agg #[(b__0h).v, (b__1h).v])] [Es (List Int) a__0 a__0h, Es (List Int) a__1 a__1h, Es (List Int) b__0 b__0h, Es (List Int) b__1 b__1h] [] (fun v Γ' => v = (.bool y) ∧ Γ' = []) := by
  intro w0 S0 fp0 hI hS
  have H : Cx w0 fp0 S0 w0 [Es (List Int) a__0 a__0h, Es (List Int) a__1 a__1h, Es (List Int) b__0 b__0h, Es (List Int) b__1 b__1h] := Cx.start hI hS
  clear hI hS
  refine enterC (args := [_, _]) gok Try.func32 rfl _ rfl rfl rfl ?_
  refine box_ H ?_; clear H; intro b6 w5 hx H
  clear hx
  replace H : Cx w0 fp0 S0 w5 [Bx b6 [(a__0h).v, (a__1h).v], Es (List Int) a__0 a__0h, Es (List Int) a__1 a__1h, Es (List Int) b__0 b__0h, Es (List Int) b__1 b__1h] := H
  refine box_ H ?_; clear H; intro b9 w8 hx H
  clear hx
  replace H : Cx w0 fp0 S0 w8 [Bx b9 [(b__0h).v, (b__1h).v], Bx b6 [(a__0h).v, (a__1h).v], Es (List Int) a__0 a__0h, Es (List Int) a__1 a__1h, Es (List Int) b__0 b__0h, Es (List Int) b__1 b__1h] := H
  refine sq ?_
  refine fld gok rfl rfl rfl rfl ?_
  refine load1 (H.bx 1 rfl (j := 0) rfl) ?_
  refine fld gok rfl rfl rfl rfl ?_
  refine load1 (H.bx 0 rfl (j := 0) rfl) ?_
  obtain ⟨y11, e, hF12⟩ := bindS hF; clear hF
  have ey11 := e; clear e
  refine callF (laws_eqIntS_c a__0 a__0h b__0 b__0h y11 ey11) (Γi := []) H ⟨Vw.sh 2 rfl, Vw.sh 4 rfl, trivial⟩ ?_; clear H ey11
  rintro _ _ w13 ⟨rfl, rfl⟩ (H : Cx w0 fp0 S0 w13 [Bx b9 [(b__0h).v, (b__1h).v], Bx b6 [(a__0h).v, (a__1h).v], Es (List Int) a__0 a__0h, Es (List Int) a__1 a__1h, Es (List Int) b__0 b__0h, Es (List Int) b__1 b__1h])
  obtain ⟨a14, e, hF15⟩ := bindS hF12; clear hF12
  refine boolO e ?_; clear e
  cases a14
  · have hF16 := condF hF15; clear hF15
    refine sq ?_
    refine fld gok rfl rfl rfl rfl ?_
    refine load1 (H.bx 1 rfl (j := 1) rfl) ?_
    refine fld gok rfl rfl rfl rfl ?_
    refine load1 (H.bx 0 rfl (j := 1) rfl) ?_
    obtain ⟨y17, e, hF18⟩ := bindS hF16; clear hF16
    have ey17 := e; clear e
    refine callF (laws_eqIntS_c a__1 a__1h b__1 b__1h y17 ey17) (Γi := []) H ⟨Vw.sh 3 rfl, Vw.sh 5 rfl, trivial⟩ ?_; clear H ey17
    rintro _ _ w19 ⟨rfl, rfl⟩ (H : Cx w0 fp0 S0 w19 [Bx b9 [(b__0h).v, (b__1h).v], Bx b6 [(a__0h).v, (a__1h).v], Es (List Int) a__0 a__0h, Es (List Int) a__1 a__1h, Es (List Int) b__0 b__0h, Es (List Int) b__1 b__1h])
    obtain ⟨a20, e, hF21⟩ := bindS hF18; clear hF18
    refine boolO e ?_; clear e
    cases a20
    · have hF22 := condF hF21; clear hF21
      cases hF22
      exact ⟨_, _, rfl, ⟨rfl, rfl⟩, (H.sel [] rfl).close trivial⟩
    · have hF23 := condT hF21; clear hF21
      cases hF23
      exact ⟨_, _, rfl, ⟨rfl, rfl⟩, (H.sel [] rfl).close trivial⟩
  · have hF24 := condT hF15; clear hF15
    cases hF24
    exact ⟨_, _, rfl, ⟨rfl, rfl⟩, (H.sel [] rfl).close trivial⟩

theorem laws_FnExactIsConvex_c (aG__0 : Int) (aG__1 : List (Int × Int × List Int × List Int)) (aG__1h : Hd) (aG__2 : List Int) (aG__2h : Hd) (aG__3 : List Int) (aG__3h : Hd) (aPattern__0 : Int) (aPattern__1 : List (Int × Int × List Int × List Int)) (aPattern__1h : Hd) (aPattern__2 : List Int) (aPattern__2h : Hd) (aPattern__3 : List Int) (aPattern__3h : Hd) (aM__0 : List Int) (aM__0h : Hd) (aM__1 : List Int) (aM__1h : Hd) (y : Bool) (hF : F_laws_FnExactIsConvex (aG__0, aG__1, aG__2, aG__3) (aPattern__0, aPattern__1, aPattern__2, aPattern__3) (aM__0, aM__1) = some y) :
    ConF Try.prog 7 #[(.agg #[(.int .i64 aG__0), (aG__1h).v, (aG__2h).v, (aG__3h).v]), (.agg #[(.int .i64 aPattern__0), (aPattern__1h).v, (aPattern__2h).v, (aPattern__3h).v]), (.agg #[(aM__0h).v, (aM__1h).v])] [Es (List (Int × Int × List Int × List Int)) aG__1 aG__1h, Es (List Int) aG__2 aG__2h, Es (List Int) aG__3 aG__3h, Es (List (Int × Int × List Int × List Int)) aPattern__1 aPattern__1h, Es (List Int) aPattern__2 aPattern__2h, Es (List Int) aPattern__3 aPattern__3h, Es (List Int) aM__0 aM__0h, Es (List Int) aM__1 aM__1h] [] (fun v Γ' => v = (.bool y) ∧ Γ' = []) := by
  intro w0 S0 fp0 hI hS
  have H : Cx w0 fp0 S0 w0 [Es (List (Int × Int × List Int × List Int)) aG__1 aG__1h, Es (List Int) aG__2 aG__2h, Es (List Int) aG__3 aG__3h, Es (List (Int × Int × List Int × List Int)) aPattern__1 aPattern__1h, Es (List Int) aPattern__2 aPattern__2h, Es (List Int) aPattern__3 aPattern__3h, Es (List Int) aM__0 aM__0h, Es (List Int) aM__1 aM__1h] := Cx.start hI hS
  clear hI hS
  refine enterC (args := [_, _, _]) gok Try.func7 rfl _ rfl rfl rfl ?_
  refine box_ H ?_; clear H; intro b10 w9 hx H
  clear hx
  replace H : Cx w0 fp0 S0 w9 [Bx b10 [(.int .i64 aG__0), (aG__1h).v, (aG__2h).v, (aG__3h).v], Es (List (Int × Int × List Int × List Int)) aG__1 aG__1h, Es (List Int) aG__2 aG__2h, Es (List Int) aG__3 aG__3h, Es (List (Int × Int × List Int × List Int)) aPattern__1 aPattern__1h, Es (List Int) aPattern__2 aPattern__2h, Es (List Int) aPattern__3 aPattern__3h, Es (List Int) aM__0 aM__0h, Es (List Int) aM__1 aM__1h] := H
  refine box_ H ?_; clear H; intro b13 w12 hx H
  clear hx
  replace H : Cx w0 fp0 S0 w12 [Bx b13 [(.int .i64 aPattern__0), (aPattern__1h).v, (aPattern__2h).v, (aPattern__3h).v], Bx b10 [(.int .i64 aG__0), (aG__1h).v, (aG__2h).v, (aG__3h).v], Es (List (Int × Int × List Int × List Int)) aG__1 aG__1h, Es (List Int) aG__2 aG__2h, Es (List Int) aG__3 aG__3h, Es (List (Int × Int × List Int × List Int)) aPattern__1 aPattern__1h, Es (List Int) aPattern__2 aPattern__2h, Es (List Int) aPattern__3 aPattern__3h, Es (List Int) aM__0 aM__0h, Es (List Int) aM__1 aM__1h] := H
  refine box_ H ?_; clear H; intro b16 w15 hx H
  clear hx
  replace H : Cx w0 fp0 S0 w15 [Bx b16 [(aM__0h).v, (aM__1h).v], Bx b13 [(.int .i64 aPattern__0), (aPattern__1h).v, (aPattern__2h).v, (aPattern__3h).v], Bx b10 [(.int .i64 aG__0), (aG__1h).v, (aG__2h).v, (aG__3h).v], Es (List (Int × Int × List Int × List Int)) aG__1 aG__1h, Es (List Int) aG__2 aG__2h, Es (List Int) aG__3 aG__3h, Es (List (Int × Int × List Int × List Int)) aPattern__1 aPattern__1h, Es (List Int) aPattern__2 aPattern__2h, Es (List Int) aPattern__3 aPattern__3h, Es (List Int) aM__0 aM__0h, Es (List Int) aM__1 aM__1h] := H
  refine loadN [(.int .i64 aG__0), (aG__1h).v, (aG__2h).v, (aG__3h).v] rfl (fun j u hj => H.bx 2 rfl hj) ?_
  obtain ⟨y18, e, hF19⟩ := bindS hF; clear hF
  have ey18 := e; clear e
  refine callF (laws_szGraph_c aG__0 aG__1 aG__1h aG__2 aG__2h aG__3 aG__3h 1048576 y18 ey18) (Γi := []) H ⟨Vw.sh 3 rfl, Vw.sh 4 rfl, Vw.sh 5 rfl, trivial⟩ ?_; clear H ey18
  rintro _ _ w20 ⟨rfl, rfl⟩ (H : Cx w0 fp0 S0 w20 [Bx b16 [(aM__0h).v, (aM__1h).v], Bx b13 [(.int .i64 aPattern__0), (aPattern__1h).v, (aPattern__2h).v, (aPattern__3h).v], Bx b10 [(.int .i64 aG__0), (aG__1h).v, (aG__2h).v, (aG__3h).v], Es (List (Int × Int × List Int × List Int)) aG__1 aG__1h, Es (List Int) aG__2 aG__2h, Es (List Int) aG__3 aG__3h, Es (List (Int × Int × List Int × List Int)) aPattern__1 aPattern__1h, Es (List Int) aPattern__2 aPattern__2h, Es (List Int) aPattern__3 aPattern__3h, Es (List Int) aM__0 aM__0h, Es (List Int) aM__1 aM__1h])
  refine sq ?_
  obtain ⟨a21, e, hF22⟩ := bindS hF19; clear hF19
  refine boolO e ?_; clear e
  cases a21
  · have hF23 := condF hF22; clear hF22
    refine loadN [(.int .i64 aPattern__0), (aPattern__1h).v, (aPattern__2h).v, (aPattern__3h).v] rfl (fun j u hj => H.bx 1 rfl hj) ?_
    obtain ⟨y24, e, hF25⟩ := bindS hF23; clear hF23
    have ey24 := e; clear e
    refine callF (laws_szGraph_c aPattern__0 aPattern__1 aPattern__1h aPattern__2 aPattern__2h aPattern__3 aPattern__3h y18 y24 ey24) (Γi := []) H ⟨Vw.sh 6 rfl, Vw.sh 7 rfl, Vw.sh 8 rfl, trivial⟩ ?_; clear H ey24
    rintro _ _ w26 ⟨rfl, rfl⟩ (H : Cx w0 fp0 S0 w26 [Bx b16 [(aM__0h).v, (aM__1h).v], Bx b13 [(.int .i64 aPattern__0), (aPattern__1h).v, (aPattern__2h).v, (aPattern__3h).v], Bx b10 [(.int .i64 aG__0), (aG__1h).v, (aG__2h).v, (aG__3h).v], Es (List (Int × Int × List Int × List Int)) aG__1 aG__1h, Es (List Int) aG__2 aG__2h, Es (List Int) aG__3 aG__3h, Es (List (Int × Int × List Int × List Int)) aPattern__1 aPattern__1h, Es (List Int) aPattern__2 aPattern__2h, Es (List Int) aPattern__3 aPattern__3h, Es (List Int) aM__0 aM__0h, Es (List Int) aM__1 aM__1h])
    refine sq ?_
    obtain ⟨a27, e, hF28⟩ := bindS hF25; clear hF25
    refine boolO e ?_; clear e
    cases a27
    · have hF29 := condF hF28; clear hF28
      refine loadN [(aM__0h).v, (aM__1h).v] rfl (fun j u hj => H.bx 0 rfl hj) ?_
      obtain ⟨y30, e, hF31⟩ := bindS hF29; clear hF29
      have ey30 := e; clear e
      refine callF (laws_szMatch_c aM__0 aM__0h aM__1 aM__1h y24 y30 ey30) (Γi := []) H ⟨Vw.sh 9 rfl, Vw.sh 10 rfl, trivial⟩ ?_; clear H ey30
      rintro _ _ w32 ⟨rfl, rfl⟩ (H : Cx w0 fp0 S0 w32 [Bx b16 [(aM__0h).v, (aM__1h).v], Bx b13 [(.int .i64 aPattern__0), (aPattern__1h).v, (aPattern__2h).v, (aPattern__3h).v], Bx b10 [(.int .i64 aG__0), (aG__1h).v, (aG__2h).v, (aG__3h).v], Es (List (Int × Int × List Int × List Int)) aG__1 aG__1h, Es (List Int) aG__2 aG__2h, Es (List Int) aG__3 aG__3h, Es (List (Int × Int × List Int × List Int)) aPattern__1 aPattern__1h, Es (List Int) aPattern__2 aPattern__2h, Es (List Int) aPattern__3 aPattern__3h, Es (List Int) aM__0 aM__0h, Es (List Int) aM__1 aM__1h])
      refine sq ?_
      obtain ⟨a33, e, hF34⟩ := bindS hF31; clear hF31
      refine boolO e ?_; clear e
      cases a33
      · have hF35 := condF hF34; clear hF34
        refine heldX H [] (.fst 0 (.fst 2 (.fst 4 (.act 1 (.act 3 (.act 5 (.act 6 (.fst 7 (.fst 8 (.fst 9 (.fst 10 (.fst 11 .done)))))))))))) mixed [] trivial (by kernel_rfl) ?_
        clear H; intro w36 H
        have hX : Ext w36 w36 := Upd.refl _ _
        have H0 := H
        refine loadNX [(.int .i64 aG__0), (aG__1h).v, (aG__2h).v, (aG__3h).v] rfl (fun j u hj => H.bx 2 rfl hj) ?_
        refine loadNX [(.int .i64 aPattern__0), (aPattern__1h).v, (aPattern__2h).v, (aPattern__3h).v] rfl (fun j u hj => H.bx 1 rfl hj) ?_
        refine loadNX [(aM__0h).v, (aM__1h).v] rfl (fun j u hj => H.bx 0 rfl hj) ?_
        obtain ⟨y37, e, hF38⟩ := bindS hF35; clear hF35
        obtain ⟨y37_0, y37_1, y37_2, y37_3⟩ := y37
        have ey37 := e; clear e
        refine callFx (laws_toGraph_c aG__0 aG__1 aG__1h aG__2 aG__2h aG__3 aG__3h y37_0 y37_1 y37_2 y37_3 ey37) H ⟨Vw.sh 3 rfl, Vw.sh 4 rfl, Vw.sh 5 rfl, trivial⟩ ?_; clear H ey37
        rintro _ _ w39 ⟨h40, h42, h44, rfl, rfl⟩ hx (H : Cx w0 fp0 S0 w39 [E (List (Int × Int × List Int × List Int)) y37_1 h40, E (List Int) y37_2 h42, E (List Int) y37_3 h44, Bx b16 [(aM__0h).v, (aM__1h).v], Bx b13 [(.int .i64 aPattern__0), (aPattern__1h).v, (aPattern__2h).v, (aPattern__3h).v], Bx b10 [(.int .i64 aG__0), (aG__1h).v, (aG__2h).v, (aG__3h).v], Es (List (Int × Int × List Int × List Int)) aG__1 aG__1h, Es (List Int) aG__2 aG__2h, Es (List Int) aG__3 aG__3h, Es (List (Int × Int × List Int × List Int)) aPattern__1 aPattern__1h, Es (List Int) aPattern__2 aPattern__2h, Es (List Int) aPattern__3 aPattern__3h, Es (List Int) aM__0 aM__0h, Es (List Int) aM__1 aM__1h])
        replace hX := hX.trans0 hx; clear hx
        refine hold hX ?_
        obtain ⟨y46, e, hF47⟩ := bindS hF38; clear hF38
        obtain ⟨y46_0, y46_1, y46_2, y46_3⟩ := y46
        have ey46 := e; clear e
        refine callFx (laws_toGraph_c aPattern__0 aPattern__1 aPattern__1h aPattern__2 aPattern__2h aPattern__3 aPattern__3h y46_0 y46_1 y46_2 y46_3 ey46) H ⟨Vw.sh 9 rfl, Vw.sh 10 rfl, Vw.sh 11 rfl, trivial⟩ ?_; clear H ey46
        rintro _ _ w48 ⟨h49, h51, h53, rfl, rfl⟩ hx (H : Cx w0 fp0 S0 w48 [E (List (Int × Int × List Int × List Int)) y46_1 h49, E (List Int) y46_2 h51, E (List Int) y46_3 h53, E (List (Int × Int × List Int × List Int)) y37_1 h40, E (List Int) y37_2 h42, E (List Int) y37_3 h44, Bx b16 [(aM__0h).v, (aM__1h).v], Bx b13 [(.int .i64 aPattern__0), (aPattern__1h).v, (aPattern__2h).v, (aPattern__3h).v], Bx b10 [(.int .i64 aG__0), (aG__1h).v, (aG__2h).v, (aG__3h).v], Es (List (Int × Int × List Int × List Int)) aG__1 aG__1h, Es (List Int) aG__2 aG__2h, Es (List Int) aG__3 aG__3h, Es (List (Int × Int × List Int × List Int)) aPattern__1 aPattern__1h, Es (List Int) aPattern__2 aPattern__2h, Es (List Int) aPattern__3 aPattern__3h, Es (List Int) aM__0 aM__0h, Es (List Int) aM__1 aM__1h])
        replace hX := hX.trans0 hx; clear hx
        refine hold hX ?_
        obtain ⟨y55, e, hF56⟩ := bindS hF47; clear hF47
        obtain ⟨y55_0, y55_1⟩ := y55
        have ey55 := e; clear e
        refine callFx (laws_toMatch_c aM__0 aM__0h aM__1 aM__1h y55_0 y55_1 ey55) H ⟨Vw.sh 15 rfl, Vw.sh 16 rfl, trivial⟩ ?_; clear H ey55
        rintro _ _ w57 ⟨h58, h60, rfl, rfl⟩ hx (H : Cx w0 fp0 S0 w57 [E (List Int) y55_0 h58, E (List Int) y55_1 h60, E (List (Int × Int × List Int × List Int)) y46_1 h49, E (List Int) y46_2 h51, E (List Int) y46_3 h53, E (List (Int × Int × List Int × List Int)) y37_1 h40, E (List Int) y37_2 h42, E (List Int) y37_3 h44, Bx b16 [(aM__0h).v, (aM__1h).v], Bx b13 [(.int .i64 aPattern__0), (aPattern__1h).v, (aPattern__2h).v, (aPattern__3h).v], Bx b10 [(.int .i64 aG__0), (aG__1h).v, (aG__2h).v, (aG__3h).v], Es (List (Int × Int × List Int × List Int)) aG__1 aG__1h, Es (List Int) aG__2 aG__2h, Es (List Int) aG__3 aG__3h, Es (List (Int × Int × List Int × List Int)) aPattern__1 aPattern__1h, Es (List Int) aPattern__2 aPattern__2h, Es (List Int) aPattern__3 aPattern__3h, Es (List Int) aM__0 aM__0h, Es (List Int) aM__1 aM__1h])
        replace hX := hX.trans0 hx; clear hx
        refine hold hX ?_
        obtain ⟨y62, e, hF63⟩ := bindS hF56; clear hF56
        obtain ⟨y62_0, y62_1⟩ := y62
        have ey62 := e; clear e
        refine callFx (spec_IsConvex_c y37_0 y37_1 h40 y37_2 h42 y37_3 h44 y46_0 y46_1 h49 y46_2 h51 y46_3 h53 y55_0 h58 y55_1 h60 y62_0 y62_1 ey62) H ⟨Vw.own 5 rfl, Vw.own 6 rfl, Vw.own 7 rfl, Vw.own 2 rfl, Vw.own 3 rfl, Vw.own 4 rfl, Vw.own 0 rfl, Vw.own 1 rfl, trivial⟩ ?_; clear H ey62
        rintro _ _ w64 ⟨rfl, rfl⟩ hx (H : Cx w0 fp0 S0 w64 [E (List Int) y55_0 h58, E (List Int) y55_1 h60, E (List (Int × Int × List Int × List Int)) y46_1 h49, E (List Int) y46_2 h51, E (List Int) y46_3 h53, E (List (Int × Int × List Int × List Int)) y37_1 h40, E (List Int) y37_2 h42, E (List Int) y37_3 h44, Bx b16 [(aM__0h).v, (aM__1h).v], Bx b13 [(.int .i64 aPattern__0), (aPattern__1h).v, (aPattern__2h).v, (aPattern__3h).v], Bx b10 [(.int .i64 aG__0), (aG__1h).v, (aG__2h).v, (aG__3h).v], Es (List (Int × Int × List Int × List Int)) aG__1 aG__1h, Es (List Int) aG__2 aG__2h, Es (List Int) aG__3 aG__3h, Es (List (Int × Int × List Int × List Int)) aPattern__1 aPattern__1h, Es (List Int) aPattern__2 aPattern__2h, Es (List Int) aPattern__3 aPattern__3h, Es (List Int) aM__0 aM__0h, Es (List Int) aM__1 aM__1h])
        replace hX := hX.trans0 hx; clear hx
        refine hold hX ?_
        refine loadN [(.int .i64 aG__0), (aG__1h).v, (aG__2h).v, (aG__3h).v] rfl (fun j u hj => H.bx 10 rfl hj) ?_
        obtain ⟨y65, e, hF66⟩ := bindS hF63; clear hF63
        obtain ⟨y65_0, y65_1, y65_2, y65_3⟩ := y65
        have ey65 := e; clear e
        refine callF (laws_toGraph_c aG__0 aG__1 aG__1h aG__2 aG__2h aG__3 aG__3h y65_0 y65_1 y65_2 y65_3 ey65) (Γi := []) H ⟨Vw.sh 11 rfl, Vw.sh 12 rfl, Vw.sh 13 rfl, trivial⟩ ?_; clear H ey65
        rintro _ _ w67 ⟨h68, h70, h72, rfl, rfl⟩ (H : Cx w0 fp0 S0 w67 [E (List (Int × Int × List Int × List Int)) y65_1 h68, E (List Int) y65_2 h70, E (List Int) y65_3 h72, E (List Int) y55_0 h58, E (List Int) y55_1 h60, E (List (Int × Int × List Int × List Int)) y46_1 h49, E (List Int) y46_2 h51, E (List Int) y46_3 h53, E (List (Int × Int × List Int × List Int)) y37_1 h40, E (List Int) y37_2 h42, E (List Int) y37_3 h44, Bx b16 [(aM__0h).v, (aM__1h).v], Bx b13 [(.int .i64 aPattern__0), (aPattern__1h).v, (aPattern__2h).v, (aPattern__3h).v], Bx b10 [(.int .i64 aG__0), (aG__1h).v, (aG__2h).v, (aG__3h).v], Es (List (Int × Int × List Int × List Int)) aG__1 aG__1h, Es (List Int) aG__2 aG__2h, Es (List Int) aG__3 aG__3h, Es (List (Int × Int × List Int × List Int)) aPattern__1 aPattern__1h, Es (List Int) aPattern__2 aPattern__2h, Es (List Int) aPattern__3 aPattern__3h, Es (List Int) aM__0 aM__0h, Es (List Int) aM__1 aM__1h])
        refine alloc_ gok rfl H ?_; clear H; intro b75 w74 hx H
        clear hx
        replace H : Cx w0 fp0 S0 w74 [Bx b75 [(.int .i64 0), (.slice none 0 0), (.slice none 0 0), (.slice none 0 0)], E (List (Int × Int × List Int × List Int)) y65_1 h68, E (List Int) y65_2 h70, E (List Int) y65_3 h72, E (List Int) y55_0 h58, E (List Int) y55_1 h60, E (List (Int × Int × List Int × List Int)) y46_1 h49, E (List Int) y46_2 h51, E (List Int) y46_3 h53, E (List (Int × Int × List Int × List Int)) y37_1 h40, E (List Int) y37_2 h42, E (List Int) y37_3 h44, Bx b16 [(aM__0h).v, (aM__1h).v], Bx b13 [(.int .i64 aPattern__0), (aPattern__1h).v, (aPattern__2h).v, (aPattern__3h).v], Bx b10 [(.int .i64 aG__0), (aG__1h).v, (aG__2h).v, (aG__3h).v], Es (List (Int × Int × List Int × List Int)) aG__1 aG__1h, Es (List Int) aG__2 aG__2h, Es (List Int) aG__3 aG__3h, Es (List (Int × Int × List Int × List Int)) aPattern__1 aPattern__1h, Es (List Int) aPattern__2 aPattern__2h, Es (List Int) aPattern__3 aPattern__3h, Es (List Int) aM__0 aM__0h, Es (List Int) aM__1 aM__1h] := H
        refine stA gok [(.int .i64 y65_0), (h68).v, (h70).v, (h72).v] rfl H rfl rfl rfl ?_; clear H; intro w77 H
        replace H : Cx w0 fp0 S0 w77 [Bx b75 [(.int .i64 y65_0), (h68).v, (h70).v, (h72).v], E (List (Int × Int × List Int × List Int)) y65_1 h68, E (List Int) y65_2 h70, E (List Int) y65_3 h72, E (List Int) y55_0 h58, E (List Int) y55_1 h60, E (List (Int × Int × List Int × List Int)) y46_1 h49, E (List Int) y46_2 h51, E (List Int) y46_3 h53, E (List (Int × Int × List Int × List Int)) y37_1 h40, E (List Int) y37_2 h42, E (List Int) y37_3 h44, Bx b16 [(aM__0h).v, (aM__1h).v], Bx b13 [(.int .i64 aPattern__0), (aPattern__1h).v, (aPattern__2h).v, (aPattern__3h).v], Bx b10 [(.int .i64 aG__0), (aG__1h).v, (aG__2h).v, (aG__3h).v], Es (List (Int × Int × List Int × List Int)) aG__1 aG__1h, Es (List Int) aG__2 aG__2h, Es (List Int) aG__3 aG__3h, Es (List (Int × Int × List Int × List Int)) aPattern__1 aPattern__1h, Es (List Int) aPattern__2 aPattern__2h, Es (List Int) aPattern__3 aPattern__3h, Es (List Int) aM__0 aM__0h, Es (List Int) aM__1 aM__1h] := H
        refine loadN [(.int .i64 aPattern__0), (aPattern__1h).v, (aPattern__2h).v, (aPattern__3h).v] rfl (fun j u hj => H.bx 13 rfl hj) ?_
        obtain ⟨y78, e, hF79⟩ := bindS hF66; clear hF66
        obtain ⟨y78_0, y78_1, y78_2, y78_3⟩ := y78
        have ey78 := e; clear e
        refine callF (laws_toGraph_c aPattern__0 aPattern__1 aPattern__1h aPattern__2 aPattern__2h aPattern__3 aPattern__3h y78_0 y78_1 y78_2 y78_3 ey78) (Γi := []) H ⟨Vw.sh 18 rfl, Vw.sh 19 rfl, Vw.sh 20 rfl, trivial⟩ ?_; clear H ey78
        rintro _ _ w80 ⟨h81, h83, h85, rfl, rfl⟩ (H : Cx w0 fp0 S0 w80 [E (List (Int × Int × List Int × List Int)) y78_1 h81, E (List Int) y78_2 h83, E (List Int) y78_3 h85, Bx b75 [(.int .i64 y65_0), (h68).v, (h70).v, (h72).v], E (List (Int × Int × List Int × List Int)) y65_1 h68, E (List Int) y65_2 h70, E (List Int) y65_3 h72, E (List Int) y55_0 h58, E (List Int) y55_1 h60, E (List (Int × Int × List Int × List Int)) y46_1 h49, E (List Int) y46_2 h51, E (List Int) y46_3 h53, E (List (Int × Int × List Int × List Int)) y37_1 h40, E (List Int) y37_2 h42, E (List Int) y37_3 h44, Bx b16 [(aM__0h).v, (aM__1h).v], Bx b13 [(.int .i64 aPattern__0), (aPattern__1h).v, (aPattern__2h).v, (aPattern__3h).v], Bx b10 [(.int .i64 aG__0), (aG__1h).v, (aG__2h).v, (aG__3h).v], Es (List (Int × Int × List Int × List Int)) aG__1 aG__1h, Es (List Int) aG__2 aG__2h, Es (List Int) aG__3 aG__3h, Es (List (Int × Int × List Int × List Int)) aPattern__1 aPattern__1h, Es (List Int) aPattern__2 aPattern__2h, Es (List Int) aPattern__3 aPattern__3h, Es (List Int) aM__0 aM__0h, Es (List Int) aM__1 aM__1h])
        refine alloc_ gok rfl H ?_; clear H; intro b88 w87 hx H
        clear hx
        replace H : Cx w0 fp0 S0 w87 [Bx b88 [(.int .i64 0), (.slice none 0 0), (.slice none 0 0), (.slice none 0 0)], E (List (Int × Int × List Int × List Int)) y78_1 h81, E (List Int) y78_2 h83, E (List Int) y78_3 h85, Bx b75 [(.int .i64 y65_0), (h68).v, (h70).v, (h72).v], E (List (Int × Int × List Int × List Int)) y65_1 h68, E (List Int) y65_2 h70, E (List Int) y65_3 h72, E (List Int) y55_0 h58, E (List Int) y55_1 h60, E (List (Int × Int × List Int × List Int)) y46_1 h49, E (List Int) y46_2 h51, E (List Int) y46_3 h53, E (List (Int × Int × List Int × List Int)) y37_1 h40, E (List Int) y37_2 h42, E (List Int) y37_3 h44, Bx b16 [(aM__0h).v, (aM__1h).v], Bx b13 [(.int .i64 aPattern__0), (aPattern__1h).v, (aPattern__2h).v, (aPattern__3h).v], Bx b10 [(.int .i64 aG__0), (aG__1h).v, (aG__2h).v, (aG__3h).v], Es (List (Int × Int × List Int × List Int)) aG__1 aG__1h, Es (List Int) aG__2 aG__2h, Es (List Int) aG__3 aG__3h, Es (List (Int × Int × List Int × List Int)) aPattern__1 aPattern__1h, Es (List Int) aPattern__2 aPattern__2h, Es (List Int) aPattern__3 aPattern__3h, Es (List Int) aM__0 aM__0h, Es (List Int) aM__1 aM__1h] := H
        refine stA gok [(.int .i64 y78_0), (h81).v, (h83).v, (h85).v] rfl H rfl rfl rfl ?_; clear H; intro w90 H
        replace H : Cx w0 fp0 S0 w90 [Bx b88 [(.int .i64 y78_0), (h81).v, (h83).v, (h85).v], E (List (Int × Int × List Int × List Int)) y78_1 h81, E (List Int) y78_2 h83, E (List Int) y78_3 h85, Bx b75 [(.int .i64 y65_0), (h68).v, (h70).v, (h72).v], E (List (Int × Int × List Int × List Int)) y65_1 h68, E (List Int) y65_2 h70, E (List Int) y65_3 h72, E (List Int) y55_0 h58, E (List Int) y55_1 h60, E (List (Int × Int × List Int × List Int)) y46_1 h49, E (List Int) y46_2 h51, E (List Int) y46_3 h53, E (List (Int × Int × List Int × List Int)) y37_1 h40, E (List Int) y37_2 h42, E (List Int) y37_3 h44, Bx b16 [(aM__0h).v, (aM__1h).v], Bx b13 [(.int .i64 aPattern__0), (aPattern__1h).v, (aPattern__2h).v, (aPattern__3h).v], Bx b10 [(.int .i64 aG__0), (aG__1h).v, (aG__2h).v, (aG__3h).v], Es (List (Int × Int × List Int × List Int)) aG__1 aG__1h, Es (List Int) aG__2 aG__2h, Es (List Int) aG__3 aG__3h, Es (List (Int × Int × List Int × List Int)) aPattern__1 aPattern__1h, Es (List Int) aPattern__2 aPattern__2h, Es (List Int) aPattern__3 aPattern__3h, Es (List Int) aM__0 aM__0h, Es (List Int) aM__1 aM__1h] := H
        refine loadN [(aM__0h).v, (aM__1h).v] rfl (fun j u hj => H.bx 16 rfl hj) ?_
        obtain ⟨y91, e, hF92⟩ := bindS hF79; clear hF79
        obtain ⟨y91_0, y91_1⟩ := y91
        have ey91 := e; clear e
        refine callF (laws_toMatch_c aM__0 aM__0h aM__1 aM__1h y91_0 y91_1 ey91) (Γi := []) H ⟨Vw.sh 25 rfl, Vw.sh 26 rfl, trivial⟩ ?_; clear H ey91
        rintro _ _ w93 ⟨h94, h96, rfl, rfl⟩ (H : Cx w0 fp0 S0 w93 [E (List Int) y91_0 h94, E (List Int) y91_1 h96, Bx b88 [(.int .i64 y78_0), (h81).v, (h83).v, (h85).v], E (List (Int × Int × List Int × List Int)) y78_1 h81, E (List Int) y78_2 h83, E (List Int) y78_3 h85, Bx b75 [(.int .i64 y65_0), (h68).v, (h70).v, (h72).v], E (List (Int × Int × List Int × List Int)) y65_1 h68, E (List Int) y65_2 h70, E (List Int) y65_3 h72, E (List Int) y55_0 h58, E (List Int) y55_1 h60, E (List (Int × Int × List Int × List Int)) y46_1 h49, E (List Int) y46_2 h51, E (List Int) y46_3 h53, E (List (Int × Int × List Int × List Int)) y37_1 h40, E (List Int) y37_2 h42, E (List Int) y37_3 h44, Bx b16 [(aM__0h).v, (aM__1h).v], Bx b13 [(.int .i64 aPattern__0), (aPattern__1h).v, (aPattern__2h).v, (aPattern__3h).v], Bx b10 [(.int .i64 aG__0), (aG__1h).v, (aG__2h).v, (aG__3h).v], Es (List (Int × Int × List Int × List Int)) aG__1 aG__1h, Es (List Int) aG__2 aG__2h, Es (List Int) aG__3 aG__3h, Es (List (Int × Int × List Int × List Int)) aPattern__1 aPattern__1h, Es (List Int) aPattern__2 aPattern__2h, Es (List Int) aPattern__3 aPattern__3h, Es (List Int) aM__0 aM__0h, Es (List Int) aM__1 aM__1h])
        refine alloc_ gok rfl H ?_; clear H; intro b99 w98 hx H
        clear hx
        replace H : Cx w0 fp0 S0 w98 [Bx b99 [(.slice none 0 0), (.slice none 0 0)], E (List Int) y91_0 h94, E (List Int) y91_1 h96, Bx b88 [(.int .i64 y78_0), (h81).v, (h83).v, (h85).v], E (List (Int × Int × List Int × List Int)) y78_1 h81, E (List Int) y78_2 h83, E (List Int) y78_3 h85, Bx b75 [(.int .i64 y65_0), (h68).v, (h70).v, (h72).v], E (List (Int × Int × List Int × List Int)) y65_1 h68, E (List Int) y65_2 h70, E (List Int) y65_3 h72, E (List Int) y55_0 h58, E (List Int) y55_1 h60, E (List (Int × Int × List Int × List Int)) y46_1 h49, E (List Int) y46_2 h51, E (List Int) y46_3 h53, E (List (Int × Int × List Int × List Int)) y37_1 h40, E (List Int) y37_2 h42, E (List Int) y37_3 h44, Bx b16 [(aM__0h).v, (aM__1h).v], Bx b13 [(.int .i64 aPattern__0), (aPattern__1h).v, (aPattern__2h).v, (aPattern__3h).v], Bx b10 [(.int .i64 aG__0), (aG__1h).v, (aG__2h).v, (aG__3h).v], Es (List (Int × Int × List Int × List Int)) aG__1 aG__1h, Es (List Int) aG__2 aG__2h, Es (List Int) aG__3 aG__3h, Es (List (Int × Int × List Int × List Int)) aPattern__1 aPattern__1h, Es (List Int) aPattern__2 aPattern__2h, Es (List Int) aPattern__3 aPattern__3h, Es (List Int) aM__0 aM__0h, Es (List Int) aM__1 aM__1h] := H
        refine stA gok [(h94).v, (h96).v] rfl H rfl rfl rfl ?_; clear H; intro w101 H
        replace H : Cx w0 fp0 S0 w101 [Bx b99 [(h94).v, (h96).v], E (List Int) y91_0 h94, E (List Int) y91_1 h96, Bx b88 [(.int .i64 y78_0), (h81).v, (h83).v, (h85).v], E (List (Int × Int × List Int × List Int)) y78_1 h81, E (List Int) y78_2 h83, E (List Int) y78_3 h85, Bx b75 [(.int .i64 y65_0), (h68).v, (h70).v, (h72).v], E (List (Int × Int × List Int × List Int)) y65_1 h68, E (List Int) y65_2 h70, E (List Int) y65_3 h72, E (List Int) y55_0 h58, E (List Int) y55_1 h60, E (List (Int × Int × List Int × List Int)) y46_1 h49, E (List Int) y46_2 h51, E (List Int) y46_3 h53, E (List (Int × Int × List Int × List Int)) y37_1 h40, E (List Int) y37_2 h42, E (List Int) y37_3 h44, Bx b16 [(aM__0h).v, (aM__1h).v], Bx b13 [(.int .i64 aPattern__0), (aPattern__1h).v, (aPattern__2h).v, (aPattern__3h).v], Bx b10 [(.int .i64 aG__0), (aG__1h).v, (aG__2h).v, (aG__3h).v], Es (List (Int × Int × List Int × List Int)) aG__1 aG__1h, Es (List Int) aG__2 aG__2h, Es (List Int) aG__3 aG__3h, Es (List (Int × Int × List Int × List Int)) aPattern__1 aPattern__1h, Es (List Int) aPattern__2 aPattern__2h, Es (List Int) aPattern__3 aPattern__3h, Es (List Int) aM__0 aM__0h, Es (List Int) aM__1 aM__1h] := H
        refine loadN [(.int .i64 y65_0), (h68).v, (h70).v, (h72).v] rfl (fun j u hj => H.bx 7 rfl hj) ?_
        refine loadN [(.int .i64 y78_0), (h81).v, (h83).v, (h85).v] rfl (fun j u hj => H.bx 3 rfl hj) ?_
        refine loadN [(h94).v, (h96).v] rfl (fun j u hj => H.bx 0 rfl hj) ?_
        obtain ⟨y102, e, hF103⟩ := bindS hF92; clear hF92
        obtain ⟨y102_0, y102_1⟩ := y102
        have ey102 := e; clear e
        refine callF (impl_IsConvex_c y65_0 y65_1 h68 y65_2 h70 y65_3 h72 y78_0 y78_1 h81 y78_2 h83 y78_3 h85 y91_0 h94 y91_1 h96 y102_0 y102_1 ey102) (Γi := []) H ⟨Vw.own 8 rfl, Vw.own 9 rfl, Vw.own 10 rfl, Vw.own 4 rfl, Vw.own 5 rfl, Vw.own 6 rfl, Vw.own 1 rfl, Vw.own 2 rfl, trivial⟩ ?_; clear H ey102
        rintro _ _ w104 ⟨rfl, rfl⟩ (H : Cx w0 fp0 S0 w104 [Bx b99 [(h94).v, (h96).v], E (List Int) y91_0 h94, E (List Int) y91_1 h96, Bx b88 [(.int .i64 y78_0), (h81).v, (h83).v, (h85).v], E (List (Int × Int × List Int × List Int)) y78_1 h81, E (List Int) y78_2 h83, E (List Int) y78_3 h85, Bx b75 [(.int .i64 y65_0), (h68).v, (h70).v, (h72).v], E (List (Int × Int × List Int × List Int)) y65_1 h68, E (List Int) y65_2 h70, E (List Int) y65_3 h72, E (List Int) y55_0 h58, E (List Int) y55_1 h60, E (List (Int × Int × List Int × List Int)) y46_1 h49, E (List Int) y46_2 h51, E (List Int) y46_3 h53, E (List (Int × Int × List Int × List Int)) y37_1 h40, E (List Int) y37_2 h42, E (List Int) y37_3 h44, Bx b16 [(aM__0h).v, (aM__1h).v], Bx b13 [(.int .i64 aPattern__0), (aPattern__1h).v, (aPattern__2h).v, (aPattern__3h).v], Bx b10 [(.int .i64 aG__0), (aG__1h).v, (aG__2h).v, (aG__3h).v], Es (List (Int × Int × List Int × List Int)) aG__1 aG__1h, Es (List Int) aG__2 aG__2h, Es (List Int) aG__3 aG__3h, Es (List (Int × Int × List Int × List Int)) aPattern__1 aPattern__1h, Es (List Int) aPattern__2 aPattern__2h, Es (List Int) aPattern__3 aPattern__3h, Es (List Int) aM__0 aM__0h, Es (List Int) aM__1 aM__1h])
        refine sq ?_
        obtain ⟨r113, hF115, hF114⟩ := bindS hF103; clear hF103
        refine cut (fun (q116 : Bool) => [(3, (.pointer (some ⟨b10, 0, none⟩))), (4, (.pointer (some ⟨b13, 0, none⟩))), (5, (.pointer (some ⟨b16, 0, none⟩))), (10, (.pointer (some ⟨b75, 0, none⟩))), (11, (.pointer (some ⟨b88, 0, none⟩))), (12, (.pointer (some ⟨b99, 0, none⟩))), (60, (.bool q116))]) (fun (q116 : Bool) w' => q116 = r113 ∧ Cx w0 fp0 S0 w' [Bx b10 [(.int .i64 aG__0), (aG__1h).v, (aG__2h).v, (aG__3h).v], Es (List (Int × Int × List Int × List Int)) aG__1 aG__1h, Es (List Int) aG__2 aG__2h, Es (List Int) aG__3 aG__3h, Bx b13 [(.int .i64 aPattern__0), (aPattern__1h).v, (aPattern__2h).v, (aPattern__3h).v], Es (List (Int × Int × List Int × List Int)) aPattern__1 aPattern__1h, Es (List Int) aPattern__2 aPattern__2h, Es (List Int) aPattern__3 aPattern__3h, Bx b16 [(aM__0h).v, (aM__1h).v], Es (List Int) aM__0 aM__0h, Es (List Int) aM__1 aM__1h, Bx b75 [(.int .i64 y65_0), (h68).v, (h70).v, (h72).v], E (List (Int × Int × List Int × List Int)) y65_1 h68, E (List Int) y65_2 h70, E (List Int) y65_3 h72, Bx b88 [(.int .i64 y78_0), (h81).v, (h83).v, (h85).v], E (List (Int × Int × List Int × List Int)) y78_1 h81, E (List Int) y78_2 h83, E (List Int) y78_3 h85, Bx b99 [(h94).v, (h96).v], E (List Int) y91_0 h94, E (List Int) y91_1 h96]) ?_ ?_
        · skip
          obtain ⟨a117, e, hF118⟩ := bindS hF115; clear hF115
          refine boolO e ?_; clear e
          cases a117
          · have hF119 := condF hF118; clear hF118
            obtain ⟨a120, e, hF121⟩ := bindS hF119; clear hF119
            refine boolO e ?_; clear e
            exact ⟨a120, ⟨rfl, rfl, rfl, rfl, rfl, rfl, rfl, trivial⟩, Option.some.inj hF121, H.sel [21, 22, 23, 24, 20, 25, 26, 27, 19, 28, 29, 7, 8, 9, 10, 3, 4, 5, 6, 0, 1, 2] rfl⟩
          · have hF122 := condT hF118; clear hF118
            exact ⟨true, ⟨rfl, rfl, rfl, rfl, rfl, rfl, rfl, trivial⟩, Option.some.inj hF122, H.sel [21, 22, 23, 24, 20, 25, 26, 27, 19, 28, 29, 7, 8, 9, 10, 3, 4, 5, 6, 0, 1, 2] rfl⟩
        · clear hF115 H
          rintro T124 s111 w123 ⟨hr, (H : Cx w0 fp0 S0 w123 [Bx b10 [(.int .i64 aG__0), (aG__1h).v, (aG__2h).v, (aG__3h).v], Es (List (Int × Int × List Int × List Int)) aG__1 aG__1h, Es (List Int) aG__2 aG__2h, Es (List Int) aG__3 aG__3h, Bx b13 [(.int .i64 aPattern__0), (aPattern__1h).v, (aPattern__2h).v, (aPattern__3h).v], Es (List (Int × Int × List Int × List Int)) aPattern__1 aPattern__1h, Es (List Int) aPattern__2 aPattern__2h, Es (List Int) aPattern__3 aPattern__3h, Bx b16 [(aM__0h).v, (aM__1h).v], Es (List Int) aM__0 aM__0h, Es (List Int) aM__1 aM__1h, Bx b75 [(.int .i64 y65_0), (h68).v, (h70).v, (h72).v], E (List (Int × Int × List Int × List Int)) y65_1 h68, E (List Int) y65_2 h70, E (List Int) y65_3 h72, Bx b88 [(.int .i64 y78_0), (h81).v, (h83).v, (h85).v], E (List (Int × Int × List Int × List Int)) y78_1 h81, E (List Int) y78_2 h83, E (List Int) y78_3 h85, Bx b99 [(h94).v, (h96).v], E (List Int) y91_0 h94, E (List Int) y91_1 h96])⟩
          subst hr
          cases s111
          · have hF125 := condF hF114; clear hF114
            refine sq ?_
            refine heldX H [] (.fst 0 (.fst 1 (.act 2 (.act 3 (.fst 4 .done))))) mixed [] trivial (by kernel_rfl) ?_
            clear H; intro w126 H
            have hX : Ext w126 w126 := Upd.refl _ _
            have H0 := H
            refine loadNX [(.int .i64 y65_0), (h68).v, (h70).v, (h72).v] rfl (fun j u hj => H.bx 11 rfl hj) ?_
            refine loadNX [(.int .i64 aG__0), (aG__1h).v, (aG__2h).v, (aG__3h).v] rfl (fun j u hj => H.bx 0 rfl hj) ?_
            obtain ⟨y127, e, hF128⟩ := bindS hF125; clear hF125
            obtain ⟨y127_0, y127_1, y127_2, y127_3⟩ := y127
            have ey127 := e; clear e
            refine callFx (laws_toGraph_c aG__0 aG__1 aG__1h aG__2 aG__2h aG__3 aG__3h y127_0 y127_1 y127_2 y127_3 ey127) H ⟨Vw.sh 1 rfl, Vw.sh 2 rfl, Vw.sh 3 rfl, trivial⟩ ?_; clear H ey127
            rintro _ _ w129 ⟨h130, h132, h134, rfl, rfl⟩ hx (H : Cx w0 fp0 S0 w129 [E (List (Int × Int × List Int × List Int)) y127_1 h130, E (List Int) y127_2 h132, E (List Int) y127_3 h134, Bx b10 [(.int .i64 aG__0), (aG__1h).v, (aG__2h).v, (aG__3h).v], Es (List (Int × Int × List Int × List Int)) aG__1 aG__1h, Es (List Int) aG__2 aG__2h, Es (List Int) aG__3 aG__3h, Bx b13 [(.int .i64 aPattern__0), (aPattern__1h).v, (aPattern__2h).v, (aPattern__3h).v], Es (List (Int × Int × List Int × List Int)) aPattern__1 aPattern__1h, Es (List Int) aPattern__2 aPattern__2h, Es (List Int) aPattern__3 aPattern__3h, Bx b16 [(aM__0h).v, (aM__1h).v], Es (List Int) aM__0 aM__0h, Es (List Int) aM__1 aM__1h, Bx b75 [(.int .i64 y65_0), (h68).v, (h70).v, (h72).v], E (List (Int × Int × List Int × List Int)) y65_1 h68, E (List Int) y65_2 h70, E (List Int) y65_3 h72, Bx b88 [(.int .i64 y78_0), (h81).v, (h83).v, (h85).v], E (List (Int × Int × List Int × List Int)) y78_1 h81, E (List Int) y78_2 h83, E (List Int) y78_3 h85, Bx b99 [(h94).v, (h96).v], E (List Int) y91_0 h94, E (List Int) y91_1 h96])
            replace hX := hX.trans0 hx; clear hx
            refine hold hX ?_
            obtain ⟨y136, e, hF137⟩ := bindS hF128; clear hF128
            have ey136 := e; clear e
            refine callFx (laws_eqGraph_c y65_0 y65_1 h68 y65_2 h70 y65_3 h72 y127_0 y127_1 h130 y127_2 h132 y127_3 h134 y136 ey136) H ⟨Vw.own 15 rfl, Vw.own 16 rfl, Vw.own 17 rfl, Vw.own 0 rfl, Vw.own 1 rfl, Vw.own 2 rfl, trivial⟩ ?_; clear H ey136
            rintro _ _ w138 ⟨rfl, rfl⟩ hx (H : Cx w0 fp0 S0 w138 [E (List (Int × Int × List Int × List Int)) y127_1 h130, E (List Int) y127_2 h132, E (List Int) y127_3 h134, Bx b10 [(.int .i64 aG__0), (aG__1h).v, (aG__2h).v, (aG__3h).v], Es (List (Int × Int × List Int × List Int)) aG__1 aG__1h, Es (List Int) aG__2 aG__2h, Es (List Int) aG__3 aG__3h, Bx b13 [(.int .i64 aPattern__0), (aPattern__1h).v, (aPattern__2h).v, (aPattern__3h).v], Es (List (Int × Int × List Int × List Int)) aPattern__1 aPattern__1h, Es (List Int) aPattern__2 aPattern__2h, Es (List Int) aPattern__3 aPattern__3h, Bx b16 [(aM__0h).v, (aM__1h).v], Es (List Int) aM__0 aM__0h, Es (List Int) aM__1 aM__1h, Bx b75 [(.int .i64 y65_0), (h68).v, (h70).v, (h72).v], E (List (Int × Int × List Int × List Int)) y65_1 h68, E (List Int) y65_2 h70, E (List Int) y65_3 h72, Bx b88 [(.int .i64 y78_0), (h81).v, (h83).v, (h85).v], E (List (Int × Int × List Int × List Int)) y78_1 h81, E (List Int) y78_2 h83, E (List Int) y78_3 h85, Bx b99 [(h94).v, (h96).v], E (List Int) y91_0 h94, E (List Int) y91_1 h96])
            replace hX := hX.trans0 hx; clear hx
            refine hold hX ?_
            obtain ⟨a139, e, hF140⟩ := bindS hF137; clear hF137
            refine boolO e ?_; clear e
            cases a139
            · have hF141 := condF hF140; clear hF140
              refine sq ?_
              refine heldX H [] (.fst 0 (.fst 1 (.act 2 (.act 3 (.fst 4 .done))))) mixed [] trivial (by kernel_rfl) ?_
              clear H; intro w142 H
              have hX : Ext w142 w142 := Upd.refl _ _
              have H0 := H
              refine loadNX [(.int .i64 y78_0), (h81).v, (h83).v, (h85).v] rfl (fun j u hj => H.bx 18 rfl hj) ?_
              refine loadNX [(.int .i64 aPattern__0), (aPattern__1h).v, (aPattern__2h).v, (aPattern__3h).v] rfl (fun j u hj => H.bx 7 rfl hj) ?_
              obtain ⟨y143, e, hF144⟩ := bindS hF141; clear hF141
              obtain ⟨y143_0, y143_1, y143_2, y143_3⟩ := y143
              have ey143 := e; clear e
              refine callFx (laws_toGraph_c aPattern__0 aPattern__1 aPattern__1h aPattern__2 aPattern__2h aPattern__3 aPattern__3h y143_0 y143_1 y143_2 y143_3 ey143) H ⟨Vw.sh 8 rfl, Vw.sh 9 rfl, Vw.sh 10 rfl, trivial⟩ ?_; clear H ey143
              rintro _ _ w145 ⟨h146, h148, h150, rfl, rfl⟩ hx (H : Cx w0 fp0 S0 w145 [E (List (Int × Int × List Int × List Int)) y143_1 h146, E (List Int) y143_2 h148, E (List Int) y143_3 h150, E (List (Int × Int × List Int × List Int)) y127_1 h130, E (List Int) y127_2 h132, E (List Int) y127_3 h134, Bx b10 [(.int .i64 aG__0), (aG__1h).v, (aG__2h).v, (aG__3h).v], Es (List (Int × Int × List Int × List Int)) aG__1 aG__1h, Es (List Int) aG__2 aG__2h, Es (List Int) aG__3 aG__3h, Bx b13 [(.int .i64 aPattern__0), (aPattern__1h).v, (aPattern__2h).v, (aPattern__3h).v], Es (List (Int × Int × List Int × List Int)) aPattern__1 aPattern__1h, Es (List Int) aPattern__2 aPattern__2h, Es (List Int) aPattern__3 aPattern__3h, Bx b16 [(aM__0h).v, (aM__1h).v], Es (List Int) aM__0 aM__0h, Es (List Int) aM__1 aM__1h, Bx b75 [(.int .i64 y65_0), (h68).v, (h70).v, (h72).v], E (List (Int × Int × List Int × List Int)) y65_1 h68, E (List Int) y65_2 h70, E (List Int) y65_3 h72, Bx b88 [(.int .i64 y78_0), (h81).v, (h83).v, (h85).v], E (List (Int × Int × List Int × List Int)) y78_1 h81, E (List Int) y78_2 h83, E (List Int) y78_3 h85, Bx b99 [(h94).v, (h96).v], E (List Int) y91_0 h94, E (List Int) y91_1 h96])
              replace hX := hX.trans0 hx; clear hx
              refine hold hX ?_
              obtain ⟨y152, e, hF153⟩ := bindS hF144; clear hF144
              have ey152 := e; clear e
              refine callFx (laws_eqGraph_c y78_0 y78_1 h81 y78_2 h83 y78_3 h85 y143_0 y143_1 h146 y143_2 h148 y143_3 h150 y152 ey152) H ⟨Vw.own 22 rfl, Vw.own 23 rfl, Vw.own 24 rfl, Vw.own 0 rfl, Vw.own 1 rfl, Vw.own 2 rfl, trivial⟩ ?_; clear H ey152
              rintro _ _ w154 ⟨rfl, rfl⟩ hx (H : Cx w0 fp0 S0 w154 [E (List (Int × Int × List Int × List Int)) y143_1 h146, E (List Int) y143_2 h148, E (List Int) y143_3 h150, E (List (Int × Int × List Int × List Int)) y127_1 h130, E (List Int) y127_2 h132, E (List Int) y127_3 h134, Bx b10 [(.int .i64 aG__0), (aG__1h).v, (aG__2h).v, (aG__3h).v], Es (List (Int × Int × List Int × List Int)) aG__1 aG__1h, Es (List Int) aG__2 aG__2h, Es (List Int) aG__3 aG__3h, Bx b13 [(.int .i64 aPattern__0), (aPattern__1h).v, (aPattern__2h).v, (aPattern__3h).v], Es (List (Int × Int × List Int × List Int)) aPattern__1 aPattern__1h, Es (List Int) aPattern__2 aPattern__2h, Es (List Int) aPattern__3 aPattern__3h, Bx b16 [(aM__0h).v, (aM__1h).v], Es (List Int) aM__0 aM__0h, Es (List Int) aM__1 aM__1h, Bx b75 [(.int .i64 y65_0), (h68).v, (h70).v, (h72).v], E (List (Int × Int × List Int × List Int)) y65_1 h68, E (List Int) y65_2 h70, E (List Int) y65_3 h72, Bx b88 [(.int .i64 y78_0), (h81).v, (h83).v, (h85).v], E (List (Int × Int × List Int × List Int)) y78_1 h81, E (List Int) y78_2 h83, E (List Int) y78_3 h85, Bx b99 [(h94).v, (h96).v], E (List Int) y91_0 h94, E (List Int) y91_1 h96])
              replace hX := hX.trans0 hx; clear hx
              refine hold hX ?_
              obtain ⟨a155, e, hF156⟩ := bindS hF153; clear hF153
              refine boolO e ?_; clear e
              cases a155
              · have hF157 := condF hF156; clear hF156
                refine sq ?_
                refine heldX H [] (.fst 0 (.fst 1 (.act 2 (.act 3 (.fst 4 .done))))) mixed [] trivial (by kernel_rfl) ?_
                clear H; intro w158 H
                have hX : Ext w158 w158 := Upd.refl _ _
                have H0 := H
                refine loadNX [(h94).v, (h96).v] rfl (fun j u hj => H.bx 25 rfl hj) ?_
                refine loadNX [(aM__0h).v, (aM__1h).v] rfl (fun j u hj => H.bx 14 rfl hj) ?_
                obtain ⟨y159, e, hF160⟩ := bindS hF157; clear hF157
                obtain ⟨y159_0, y159_1⟩ := y159
                have ey159 := e; clear e
                refine callFx (laws_toMatch_c aM__0 aM__0h aM__1 aM__1h y159_0 y159_1 ey159) H ⟨Vw.sh 15 rfl, Vw.sh 16 rfl, trivial⟩ ?_; clear H ey159
                rintro _ _ w161 ⟨h162, h164, rfl, rfl⟩ hx (H : Cx w0 fp0 S0 w161 [E (List Int) y159_0 h162, E (List Int) y159_1 h164, E (List (Int × Int × List Int × List Int)) y143_1 h146, E (List Int) y143_2 h148, E (List Int) y143_3 h150, E (List (Int × Int × List Int × List Int)) y127_1 h130, E (List Int) y127_2 h132, E (List Int) y127_3 h134, Bx b10 [(.int .i64 aG__0), (aG__1h).v, (aG__2h).v, (aG__3h).v], Es (List (Int × Int × List Int × List Int)) aG__1 aG__1h, Es (List Int) aG__2 aG__2h, Es (List Int) aG__3 aG__3h, Bx b13 [(.int .i64 aPattern__0), (aPattern__1h).v, (aPattern__2h).v, (aPattern__3h).v], Es (List (Int × Int × List Int × List Int)) aPattern__1 aPattern__1h, Es (List Int) aPattern__2 aPattern__2h, Es (List Int) aPattern__3 aPattern__3h, Bx b16 [(aM__0h).v, (aM__1h).v], Es (List Int) aM__0 aM__0h, Es (List Int) aM__1 aM__1h, Bx b75 [(.int .i64 y65_0), (h68).v, (h70).v, (h72).v], E (List (Int × Int × List Int × List Int)) y65_1 h68, E (List Int) y65_2 h70, E (List Int) y65_3 h72, Bx b88 [(.int .i64 y78_0), (h81).v, (h83).v, (h85).v], E (List (Int × Int × List Int × List Int)) y78_1 h81, E (List Int) y78_2 h83, E (List Int) y78_3 h85, Bx b99 [(h94).v, (h96).v], E (List Int) y91_0 h94, E (List Int) y91_1 h96])
                replace hX := hX.trans0 hx; clear hx
                refine hold hX ?_
                obtain ⟨y166, e, hF167⟩ := bindS hF160; clear hF160
                have ey166 := e; clear e
                refine callFx (laws_eqMatch_c y91_0 h94 y91_1 h96 y159_0 h162 y159_1 h164 y166 ey166) H ⟨Vw.own 28 rfl, Vw.own 29 rfl, Vw.own 0 rfl, Vw.own 1 rfl, trivial⟩ ?_; clear H ey166
                rintro _ _ w168 ⟨rfl, rfl⟩ hx (H : Cx w0 fp0 S0 w168 [E (List Int) y159_0 h162, E (List Int) y159_1 h164, E (List (Int × Int × List Int × List Int)) y143_1 h146, E (List Int) y143_2 h148, E (List Int) y143_3 h150, E (List (Int × Int × List Int × List Int)) y127_1 h130, E (List Int) y127_2 h132, E (List Int) y127_3 h134, Bx b10 [(.int .i64 aG__0), (aG__1h).v, (aG__2h).v, (aG__3h).v], Es (List (Int × Int × List Int × List Int)) aG__1 aG__1h, Es (List Int) aG__2 aG__2h, Es (List Int) aG__3 aG__3h, Bx b13 [(.int .i64 aPattern__0), (aPattern__1h).v, (aPattern__2h).v, (aPattern__3h).v], Es (List (Int × Int × List Int × List Int)) aPattern__1 aPattern__1h, Es (List Int) aPattern__2 aPattern__2h, Es (List Int) aPattern__3 aPattern__3h, Bx b16 [(aM__0h).v, (aM__1h).v], Es (List Int) aM__0 aM__0h, Es (List Int) aM__1 aM__1h, Bx b75 [(.int .i64 y65_0), (h68).v, (h70).v, (h72).v], E (List (Int × Int × List Int × List Int)) y65_1 h68, E (List Int) y65_2 h70, E (List Int) y65_3 h72, Bx b88 [(.int .i64 y78_0), (h81).v, (h83).v, (h85).v], E (List (Int × Int × List Int × List Int)) y78_1 h81, E (List Int) y78_2 h83, E (List Int) y78_3 h85, Bx b99 [(h94).v, (h96).v], E (List Int) y91_0 h94, E (List Int) y91_1 h96])
                replace hX := hX.trans0 hx; clear hx
                refine hold hX ?_
                obtain ⟨a169, e, hF170⟩ := bindS hF167; clear hF167
                refine boolO e ?_; clear e
                cases a169
                · have hF171 := condF hF170; clear hF170
                  cases hF171
                  exact ⟨_, _, rfl, ⟨rfl, rfl⟩, (H.sel [] rfl).close trivial⟩
                · have hF172 := condT hF170; clear hF170
                  cases hF172
                  exact ⟨_, _, rfl, ⟨rfl, rfl⟩, (H.sel [] rfl).close trivial⟩
              · have hF173 := condT hF156; clear hF156
                cases hF173
                exact ⟨_, _, rfl, ⟨rfl, rfl⟩, (H.sel [] rfl).close trivial⟩
            · have hF174 := condT hF140; clear hF140
              cases hF174
              exact ⟨_, _, rfl, ⟨rfl, rfl⟩, (H.sel [] rfl).close trivial⟩
          · have hF175 := condT hF114; clear hF114
            cases hF175
            exact ⟨_, _, rfl, ⟨rfl, rfl⟩, (H.sel [] rfl).close trivial⟩
      · have hF176 := condT hF34; clear hF34
        cases hF176
        exact ⟨_, _, rfl, ⟨rfl, rfl⟩, (H.sel [] rfl).close trivial⟩
    · have hF177 := condT hF28; clear hF28
      cases hF177
      exact ⟨_, _, rfl, ⟨rfl, rfl⟩, (H.sel [] rfl).close trivial⟩
  · have hF178 := condT hF22; clear hF22
    cases hF178
    exact ⟨_, _, rfl, ⟨rfl, rfl⟩, (H.sel [] rfl).close trivial⟩
end Go.Proofs.Ytgfnophfoccamaa
