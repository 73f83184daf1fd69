/-
  Contracts, printed by a program (wip/y/gen.py): each function of Go computes its partial function. Condition of each: its partial function yields a value.
-/
import Derived.Test.YtgfnophfoccamaaZEng
import Derived.Test.YtgfnophfoccamaaZFn
namespace Go.Proofs.Ytgfnophfoccamaa
open Go Go.Proofs.Ytgfnophfoccamaa.RW
set_option maxRecDepth 100000
set_option linter.unusedVariables false

theorem laws_szIntS_c (a_ : List Int) (a_h : Hd) (left_ : Int) (y : Int) (hF : F_laws_szIntS a_ left_ = some y) :
    ConF Try.prog 40 #[(a_h).v, (.int .i64 left_)] [Es (List Int) a_ a_h] [] (fun v Γ' => v = (.int .i64 y) ∧ Γ' = []) := by
  intro w0 S0 fp0 hI hS
  have H : Cx w0 fp0 S0 w0 [Es (List Int) a_ a_h] := Cx.start hI hS
  clear hI hS
  refine enterC (args := [_, _]) gok Try.func40 rfl _ rfl rfl rfl ?_
  refine lenE (H.rs (α := List Int) 0 rfl).len ?_
  obtain ⟨a2, e, hF3⟩ := bindS hF; clear hF
  refine arO e ?_; clear e
  refine sq ?_
  obtain ⟨a4, e, hF5⟩ := bindS hF3; clear hF3
  refine boolO e ?_; clear e
  cases a4
  · have hF6 := condF hF5; clear hF5
    cases hF6
    exact ⟨_, _, rfl, ⟨rfl, rfl⟩, (H.sel [] rfl).close trivial⟩
  · have hF7 := condT hF5; clear hF5
    cases hF7
    exact ⟨_, _, rfl, ⟨rfl, rfl⟩, (H.sel [] rfl).close trivial⟩

theorem laws_szEdge_c (a__0 : Int) (a__1 : Int) (a__2 : List Int) (a__2h : Hd) (a__3 : List Int) (a__3h : Hd) (left_ : Int) (y : Int) (hF : F_laws_szEdge (a__0, a__1, a__2, a__3) left_ = some y) :
    ConF Try.prog 76 #[(.agg #[(.int .i64 a__0), (.int .i64 a__1), (a__2h).v, (a__3h).v]), (.int .i64 left_)] [Es (List Int) a__2 a__2h, Es (List Int) a__3 a__3h] [] (fun v Γ' => v = (.int .i64 y) ∧ Γ' = []) := by
  intro w0 S0 fp0 hI hS
  have H : Cx w0 fp0 S0 w0 [Es (List Int) a__2 a__2h, Es (List Int) a__3 a__3h] := Cx.start hI hS
  clear hI hS
  refine enterC (args := [_, _]) gok Try.func76 rfl _ rfl rfl rfl ?_
  refine box_ H ?_; clear H; intro b4 w3 hx H
  clear hx
  replace H : Cx w0 fp0 S0 w3 [Bx b4 [(.int .i64 a__0), (.int .i64 a__1), (a__2h).v, (a__3h).v], Es (List Int) a__2 a__2h, Es (List Int) a__3 a__3h] := H
  refine fld gok rfl rfl rfl rfl ?_
  refine load1 (H.bx 0 rfl (j := 2) rfl) ?_
  obtain ⟨y6, e, hF7⟩ := bindS hF; clear hF
  have ey6 := e; clear e
  refine callF (laws_szIntS_c a__2 a__2h left_ y6 ey6) (Γi := []) H ⟨Vw.sh 1 rfl, trivial⟩ ?_; clear H ey6
  rintro _ _ w8 ⟨rfl, rfl⟩ (H : Cx w0 fp0 S0 w8 [Bx b4 [(.int .i64 a__0), (.int .i64 a__1), (a__2h).v, (a__3h).v], Es (List Int) a__2 a__2h, Es (List Int) a__3 a__3h])
  refine sq ?_
  obtain ⟨a9, e, hF10⟩ := bindS hF7; clear hF7
  refine boolO e ?_; clear e
  cases a9
  · have hF11 := condF hF10; clear hF10
    refine fld gok rfl rfl rfl rfl ?_
    refine load1 (H.bx 0 rfl (j := 3) rfl) ?_
    obtain ⟨y12, e, hF13⟩ := bindS hF11; clear hF11
    have ey12 := e; clear e
    refine callF (laws_szIntS_c a__3 a__3h y6 y12 ey12) (Γi := []) H ⟨Vw.sh 2 rfl, trivial⟩ ?_; clear H ey12
    rintro _ _ w14 ⟨rfl, rfl⟩ (H : Cx w0 fp0 S0 w14 [Bx b4 [(.int .i64 a__0), (.int .i64 a__1), (a__2h).v, (a__3h).v], Es (List Int) a__2 a__2h, Es (List Int) a__3 a__3h])
    refine sq ?_
    obtain ⟨a15, e, hF16⟩ := bindS hF13; clear hF13
    refine boolO e ?_; clear e
    cases a15
    · have hF17 := condF hF16; clear hF16
      cases hF17
      exact ⟨_, _, rfl, ⟨rfl, rfl⟩, (H.sel [] rfl).close trivial⟩
    · have hF18 := condT hF16; clear hF16
      cases hF18
      exact ⟨_, _, rfl, ⟨rfl, rfl⟩, (H.sel [] rfl).close trivial⟩
  · have hF19 := condT hF10; clear hF10
    cases hF19
    exact ⟨_, _, rfl, ⟨rfl, rfl⟩, (H.sel [] rfl).close trivial⟩

theorem laws_szEdgeS_c (a_ : List (Int × Int × List Int × List Int)) (a_h : Hd) (left_ : Int) (y : Int) (hF : F_laws_szEdgeS a_ left_ = some y) :
    ConF Try.prog 39 #[(a_h).v, (.int .i64 left_)] [Es (List (Int × Int × List Int × List Int)) a_ a_h] [] (fun v Γ' => v = (.int .i64 y) ∧ Γ' = []) := by
  intro w0 S0 fp0 hI hS
  have H : Cx w0 fp0 S0 w0 [Es (List (Int × Int × List Int × List Int)) a_ a_h] := Cx.start hI hS
  clear hI hS
  refine enterC (args := [_, _]) gok Try.func39 rfl _ rfl rfl rfl ?_
  refine lenE (H.rs (α := List (Int × Int × List Int × List Int)) 0 rfl).len ?_
  obtain ⟨a2, e, hF3⟩ := bindS hF; clear hF
  refine arO e ?_; clear e
  refine sq ?_
  obtain ⟨a4, e, hF5⟩ := bindS hF3; clear hF3
  refine boolO e ?_; clear e
  cases a4
  · have hF6 := condF hF5; clear hF5
    obtain ⟨r105, hF107, hF106⟩ := bindS hF6; clear hF6
    refine cut (fun (q108 : Int) => [(1, (.int .i64 q108))]) (fun (q108 : Int) w' => .inl q108 = r105 ∧ Cx w0 fp0 S0 w' []) ?_ ?_
    · skip
      refine loopW _ (fun (s167 : Int × Int) (_ : Unit) => [(0, (a_h).v), (1, (.int .i64 s167.1)), (5, (.int .i64 s167.2))]) (fun (s167 : Int × Int) (_ : Unit) w' => Cx w0 fp0 S0 w' [Es (List (Int × Int × List Int × List Int)) a_ a_h]) (a2, 0) () hF107 ⟨rfl, rfl, rfl, trivial⟩ (H.sel [0] rfl) ?_
      · clear H
        rintro T173 ⟨s167_0, s167_1⟩ _ w172 o174 (H : Cx w0 fp0 S0 w172 [Es (List (Int × Int × List Int × List Int)) a_ a_h]) hrt hF175
        refine sq ?_
        refine lenE (H.rs (α := List (Int × Int × List Int × List Int)) 0 rfl).len ?_
        obtain ⟨a176, e, hF177⟩ := bindS hF175; clear hF175
        refine boolO e ?_; clear e
        cases a176
        · have hF178 := condF hF177; clear hF177
          have hs := Option.some.inj hF178; subst hs; clear hF178
          have hF179 : some _ = some _ := congrArg some (hrt _ rfl).symm
          exact ⟨s167_0, ⟨rfl, trivial⟩, Option.some.inj hF179, H.sel [] rfl⟩
        · have hF180 := condT hF177; clear hF177
          refine sq ?_
          obtain ⟨a187, e, hF188⟩ := bindS hF180; clear hF180
          have HH := H; clear H; obtain ⟨p185, m186, g189, c181, c182, c183, c184, H⟩ := HH.el (α := Int × Int × List Int × List Int) 0 rfl e; clear HH
          clear e
          obtain ⟨a187_0, a187_1, a187_2, a187_3⟩ := a187
          obtain ⟨_, _, h191, h192⟩ := g189
          replace H := H.part (β := List Int) a187_2 (h191 : Hd) 0 rfl (fun S h => (And.left (And.right (And.right h))))
          replace H := H.part (β := List Int) a187_3 (h192 : Hd) 1 rfl (fun S h => (And.right (And.right (And.right h))))
          replace H := H.sel [0, 1, 3] rfl
          refine idxE c181 c182 c183 ?_; clear c181 c182 c183
          refine loadN [(.int .i64 a187_0), (.int .i64 a187_1), (h191).v, (h192).v] rfl c184 ?_; clear c184
          obtain ⟨y195, e, hF196⟩ := bindS hF188; clear hF188
          have ey195 := e; clear e
          refine callF (laws_szEdge_c a187_0 a187_1 a187_2 h191 a187_3 h192 s167_0 y195 ey195) (Γi := []) H ⟨Vw.sh 1 rfl, Vw.sh 0 rfl, trivial⟩ ?_; clear H ey195
          rintro _ _ w197 ⟨rfl, rfl⟩ (H : Cx w0 fp0 S0 w197 [Es (List Int) a187_3 h192, Es (List Int) a187_2 h191, Es (List (Int × Int × List Int × List Int)) a_ a_h])
          obtain ⟨a198, e, hF199⟩ := bindS hF196; clear hF196
          refine boolO e ?_; clear e
          cases a198
          · have hF200 := condF hF199; clear hF199
            obtain ⟨a201, e, hF202⟩ := bindS hF200; clear hF200
            refine arO e ?_; clear e
            have hs := Option.some.inj hF202; subst hs; clear hF202
            exact ⟨(y195, a201), (), rfl, ⟨rfl, rfl, rfl, trivial⟩, H.sel [2] rfl⟩
          · have hF203 := condT hF199; clear hF199
            have hs := Option.some.inj hF203; subst hs; clear hF203
            have hF204 : some _ = some _ := congrArg some (hrt _ rfl).symm
            have hs := Option.some.inj hF204; subst hs; clear hF204
            have hF205 : some _ = some _ := hF106; clear hF106
            cases hF205
            exact ⟨_, _, rfl, ⟨rfl, rfl⟩, (H.sel [] rfl).close trivial⟩
    · clear hF107 H
      rintro T207 s103 w206 ⟨hr, (H : Cx w0 fp0 S0 w206 [])⟩
      subst hr
      cases hF106
      exact ⟨_, _, rfl, ⟨rfl, rfl⟩, (H.sel [] rfl).close trivial⟩
  · have hF208 := condT hF5; clear hF5
    cases hF208
    exact ⟨_, _, rfl, ⟨rfl, rfl⟩, (H.sel [] rfl).close trivial⟩

theorem laws_szGraph_c (a__0 : Int) (a__1 : List (Int × Int × List Int × List Int)) (a__1h : Hd) (a__2 : List Int) (a__2h : Hd) (a__3 : List Int) (a__3h : Hd) (left_ : Int) (y : Int) (hF : F_laws_szGraph (a__0, a__1, a__2, a__3) left_ = some y) :
    ConF Try.prog 9 #[(.agg #[(.int .i64 a__0), (a__1h).v, (a__2h).v, (a__3h).v]), (.int .i64 left_)] [Es (List (Int × Int × List Int × List Int)) a__1 a__1h, Es (List Int) a__2 a__2h, Es (List Int) a__3 a__3h] [] (fun v Γ' => v = (.int .i64 y) ∧ Γ' = []) := by
  intro w0 S0 fp0 hI hS
  have H : Cx w0 fp0 S0 w0 [Es (List (Int × Int × List Int × List Int)) a__1 a__1h, Es (List Int) a__2 a__2h, Es (List Int) a__3 a__3h] := Cx.start hI hS
  clear hI hS
  refine enterC (args := [_, _]) gok Try.func9 rfl _ rfl rfl rfl ?_
  refine box_ H ?_; clear H; intro b5 w4 hx H
  clear hx
  replace H : Cx w0 fp0 S0 w4 [Bx b5 [(.int .i64 a__0), (a__1h).v, (a__2h).v, (a__3h).v], Es (List (Int × Int × List Int × List Int)) a__1 a__1h, Es (List Int) a__2 a__2h, Es (List Int) a__3 a__3h] := H
  refine fld gok rfl rfl rfl rfl ?_
  refine load1 (H.bx 0 rfl (j := 1) rfl) ?_
  obtain ⟨y7, e, hF8⟩ := bindS hF; clear hF
  have ey7 := e; clear e
  refine callF (laws_szEdgeS_c a__1 a__1h left_ y7 ey7) (Γi := []) H ⟨Vw.sh 1 rfl, trivial⟩ ?_; clear H ey7
  rintro _ _ w9 ⟨rfl, rfl⟩ (H : Cx w0 fp0 S0 w9 [Bx b5 [(.int .i64 a__0), (a__1h).v, (a__2h).v, (a__3h).v], Es (List (Int × Int × List Int × List Int)) a__1 a__1h, Es (List Int) a__2 a__2h, Es (List Int) a__3 a__3h])
  refine sq ?_
  obtain ⟨a10, e, hF11⟩ := bindS hF8; clear hF8
  refine boolO e ?_; clear e
  cases a10
  · have hF12 := condF hF11; clear hF11
    refine fld gok rfl rfl rfl rfl ?_
    refine load1 (H.bx 0 rfl (j := 2) rfl) ?_
    obtain ⟨y13, e, hF14⟩ := bindS hF12; clear hF12
    have ey13 := e; clear e
    refine callF (laws_szIntS_c a__2 a__2h y7 y13 ey13) (Γi := []) H ⟨Vw.sh 2 rfl, trivial⟩ ?_; clear H ey13
    rintro _ _ w15 ⟨rfl, rfl⟩ (H : Cx w0 fp0 S0 w15 [Bx b5 [(.int .i64 a__0), (a__1h).v, (a__2h).v, (a__3h).v], Es (List (Int × Int × List Int × List Int)) a__1 a__1h, Es (List Int) a__2 a__2h, Es (List Int) a__3 a__3h])
    refine sq ?_
    obtain ⟨a16, e, hF17⟩ := bindS hF14; clear hF14
    refine boolO e ?_; clear e
    cases a16
    · have hF18 := condF hF17; clear hF17
      refine fld gok rfl rfl rfl rfl ?_
      refine load1 (H.bx 0 rfl (j := 3) rfl) ?_
      obtain ⟨y19, e, hF20⟩ := bindS hF18; clear hF18
      have ey19 := e; clear e
      refine callF (laws_szIntS_c a__3 a__3h y13 y19 ey19) (Γi := []) H ⟨Vw.sh 3 rfl, trivial⟩ ?_; clear H ey19
      rintro _ _ w21 ⟨rfl, rfl⟩ (H : Cx w0 fp0 S0 w21 [Bx b5 [(.int .i64 a__0), (a__1h).v, (a__2h).v, (a__3h).v], Es (List (Int × Int × List Int × List Int)) a__1 a__1h, Es (List Int) a__2 a__2h, Es (List Int) a__3 a__3h])
      refine sq ?_
      obtain ⟨a22, e, hF23⟩ := bindS hF20; clear hF20
      refine boolO e ?_; clear e
      cases a22
      · have hF24 := condF hF23; clear hF23
        cases hF24
        exact ⟨_, _, rfl, ⟨rfl, rfl⟩, (H.sel [] rfl).close trivial⟩
      · have hF25 := condT hF23; clear hF23
        cases hF25
        exact ⟨_, _, rfl, ⟨rfl, rfl⟩, (H.sel [] rfl).close trivial⟩
    · have hF26 := condT hF17; clear hF17
      cases hF26
      exact ⟨_, _, rfl, ⟨rfl, rfl⟩, (H.sel [] rfl).close trivial⟩
  · have hF27 := condT hF11; clear hF11
    cases hF27
    exact ⟨_, _, rfl, ⟨rfl, rfl⟩, (H.sel [] rfl).close trivial⟩

theorem laws_toIntS_c (a_ : List Int) (a_h : Hd) (y : List Int) (hF : F_laws_toIntS a_ = some y) :
    ConF Try.prog 44 #[(a_h).v] [Es (List Int) a_ a_h] [] (fun v Γ' => ∃ z0 : Hd, v = (z0).v ∧ Γ' = [E (List Int) y z0]) := by
  intro w0 S0 fp0 hI hS
  have H : Cx w0 fp0 S0 w0 [Es (List Int) a_ a_h] := Cx.start hI hS
  clear hI hS
  refine enterC (args := [_]) gok Try.func44 rfl _ rfl rfl rfl ?_
  refine lenE (H.rs (α := List Int) 0 rfl).len ?_
  obtain ⟨a2, e, hF3⟩ := bindS hF; clear hF
  refine make_ (α := Int) gok rfl rfl rfl rfl (makeCO_of e) H ?_; clear e H; intro h5 w4 hx H
  clear hx
  obtain ⟨r92, hF94, hF93⟩ := bindS hF3; clear hF3
  refine cut (fun (q95 : List Int) => [(3, (h5).v)]) (fun (q95 : List Int) w' => q95 = r92 ∧ Cx w0 fp0 S0 w' [E (List Int) q95 h5]) ?_ ?_
  · skip
    refine loopW _ (fun (s146 : List Int × Int) (_ : Unit) => [(0, (a_h).v), (3, (h5).v), (4, (.int .i64 s146.2))]) (fun (s146 : List Int × Int) (_ : Unit) w' => Cx w0 fp0 S0 w' [Es (List Int) a_ a_h, E (List Int) s146.1 h5]) (a2, 0) () hF94 ⟨rfl, rfl, rfl, trivial⟩ (H.sel [1, 0] rfl) ?_
    · clear H
      rintro T152 ⟨s146_0, s146_1⟩ _ w151 o153 (H : Cx w0 fp0 S0 w151 [Es (List Int) a_ a_h, E (List Int) s146_0 h5]) hrt hF154
      refine sq ?_
      refine lenE (H.rs (α := List Int) 0 rfl).len ?_
      obtain ⟨a155, e, hF156⟩ := bindS hF154; clear hF154
      refine boolO e ?_; clear e
      cases a155
      · have hF157 := condF hF156; clear hF156
        have hs := Option.some.inj hF157; subst hs; clear hF157
        have hF158 : some _ = some _ := congrArg some (hrt _ rfl).symm
        exact ⟨s146_0, ⟨rfl, trivial⟩, Option.some.inj hF158, H.sel [1] rfl⟩
      · have hF159 := condT hF156; clear hF156
        refine sq ?_
        obtain ⟨a166, e, hF167⟩ := bindS hF159; clear hF159
        obtain ⟨p164, m165, c160, c161, c162, c163⟩ := (H.rs (α := List Int) 0 rfl).at1 e; clear e
        refine idxE c160 c161 c162 ?_; clear c160 c161 c162
        refine load1 c163 ?_; clear c163
        obtain ⟨a174, e, hF175⟩ := bindS hF167; clear hF167
        have ea174 := e; clear e
        obtain ⟨p172, m173, c168, c169, c170⟩ := (H.ro (α := List Int) 1 rfl).setp ea174
        refine idxE c168 c169 c170 ?_
        replace H := H.sel [1, 0] rfl
        refine setS (α := Int) H c168 c169 ea174 ?_; clear H c168 c169 c170 ea174; intro w176 H
        obtain ⟨a177, e, hF178⟩ := bindS hF175; clear hF175
        refine arO e ?_; clear e
        have hs := Option.some.inj hF178; subst hs; clear hF178
        exact ⟨(a174, a177), (), rfl, ⟨rfl, rfl, rfl, trivial⟩, H.sel [1, 0] rfl⟩
  · clear hF94 H
    rintro T180 s90 w179 ⟨hr, (H : Cx w0 fp0 S0 w179 [E (List Int) s90 h5])⟩
    subst hr
    cases hF93
    exact ⟨_, _, rfl, ⟨h5, rfl, rfl⟩, (H.sel [0] rfl).close ⟨cloE, trivial⟩⟩

theorem laws_toEdge_c (a__0 : Int) (a__1 : Int) (a__2 : List Int) (a__2h : Hd) (a__3 : List Int) (a__3h : Hd) (y_0 : Int) (y_1 : Int) (y_2 : List Int) (y_3 : List Int) (hF : F_laws_toEdge (a__0, a__1, a__2, a__3) = some (y_0, y_1, y_2, y_3)) :
    ConF Try.prog 80 #[(.agg #[(.int .i64 a__0), (.int .i64 a__1), (a__2h).v, (a__3h).v])] [Es (List Int) a__2 a__2h, Es (List Int) a__3 a__3h] [] (fun v Γ' => ∃ z0 z1 : Hd, v = (.agg #[(.int .i64 y_0), (.int .i64 y_1), (z0).v, (z1).v]) ∧ Γ' = [E (List Int) y_2 z0, E (List Int) y_3 z1]) := by
  intro w0 S0 fp0 hI hS
  have H : Cx w0 fp0 S0 w0 [Es (List Int) a__2 a__2h, Es (List Int) a__3 a__3h] := Cx.start hI hS
  clear hI hS
  refine enterC (args := [_]) gok Try.func80 rfl _ rfl rfl rfl ?_
  refine box_ H ?_; clear H; intro b4 w3 hx H
  clear hx
  replace H : Cx w0 fp0 S0 w3 [Bx b4 [(.int .i64 a__0), (.int .i64 a__1), (a__2h).v, (a__3h).v], Es (List Int) a__2 a__2h, Es (List Int) a__3 a__3h] := H
  refine alloc_ gok rfl H ?_; clear H; intro b7 w6 hx H
  clear hx
  replace H : Cx w0 fp0 S0 w6 [Bx b7 [(.int .i64 0), (.int .i64 0), (.slice none 0 0), (.slice none 0 0)], Bx b4 [(.int .i64 a__0), (.int .i64 a__1), (a__2h).v, (a__3h).v], Es (List Int) a__2 a__2h, Es (List Int) a__3 a__3h] := H
  refine alloc_ gok rfl H ?_; clear H; intro b10 w9 hx H
  clear hx
  replace H : Cx w0 fp0 S0 w9 [Bx b10 [(.int .i64 0), (.int .i64 0), (.slice none 0 0), (.slice none 0 0)], Bx b7 [(.int .i64 0), (.int .i64 0), (.slice none 0 0), (.slice none 0 0)], Bx b4 [(.int .i64 a__0), (.int .i64 a__1), (a__2h).v, (a__3h).v], Es (List Int) a__2 a__2h, Es (List Int) a__3 a__3h] := H
  refine fld gok rfl rfl rfl rfl ?_
  refine load1 (H.bx 2 rfl (j := 0) rfl) ?_
  refine fld gok rfl rfl rfl rfl ?_
  refine stB (j := 0) H rfl rfl ?_; clear H; intro w12 H
  replace H : Cx w0 fp0 S0 w12 [Bx b10 [(.int .i64 a__0), (.int .i64 0), (.slice none 0 0), (.slice none 0 0)], Bx b7 [(.int .i64 0), (.int .i64 0), (.slice none 0 0), (.slice none 0 0)], Bx b4 [(.int .i64 a__0), (.int .i64 a__1), (a__2h).v, (a__3h).v], Es (List Int) a__2 a__2h, Es (List Int) a__3 a__3h] := H
  refine fld gok rfl rfl rfl rfl ?_
  refine load1 (H.bx 2 rfl (j := 1) rfl) ?_
  refine fld gok rfl rfl rfl rfl ?_
  refine stB (j := 1) H rfl rfl ?_; clear H; intro w13 H
  replace H : Cx w0 fp0 S0 w13 [Bx b10 [(.int .i64 a__0), (.int .i64 a__1), (.slice none 0 0), (.slice none 0 0)], Bx b7 [(.int .i64 0), (.int .i64 0), (.slice none 0 0), (.slice none 0 0)], Bx b4 [(.int .i64 a__0), (.int .i64 a__1), (a__2h).v, (a__3h).v], Es (List Int) a__2 a__2h, Es (List Int) a__3 a__3h] := H
  refine fld gok rfl rfl rfl rfl ?_
  refine load1 (H.bx 2 rfl (j := 2) rfl) ?_
  obtain ⟨y14, e, hF15⟩ := bindS hF; clear hF
  have ey14 := e; clear e
  refine callF (laws_toIntS_c a__2 a__2h y14 ey14) (Γi := []) H ⟨Vw.sh 3 rfl, trivial⟩ ?_; clear H ey14
  rintro _ _ w16 ⟨h17, rfl, rfl⟩ (H : Cx w0 fp0 S0 w16 [E (List Int) y14 h17, Bx b10 [(.int .i64 a__0), (.int .i64 a__1), (.slice none 0 0), (.slice none 0 0)], Bx b7 [(.int .i64 0), (.int .i64 0), (.slice none 0 0), (.slice none 0 0)], Bx b4 [(.int .i64 a__0), (.int .i64 a__1), (a__2h).v, (a__3h).v], Es (List Int) a__2 a__2h, Es (List Int) a__3 a__3h])
  refine fld gok rfl rfl rfl rfl ?_
  replace H := H.sel [1, 0, 2, 3, 4, 5] rfl
  refine stB (j := 2) H rfl rfl ?_; clear H; intro w19 H
  replace H : Cx w0 fp0 S0 w19 [Bx b10 [(.int .i64 a__0), (.int .i64 a__1), (h17).v, (.slice none 0 0)], E (List Int) y14 h17, Bx b7 [(.int .i64 0), (.int .i64 0), (.slice none 0 0), (.slice none 0 0)], Bx b4 [(.int .i64 a__0), (.int .i64 a__1), (a__2h).v, (a__3h).v], Es (List Int) a__2 a__2h, Es (List Int) a__3 a__3h] := H
  refine fld gok rfl rfl rfl rfl ?_
  refine load1 (H.bx 3 rfl (j := 3) rfl) ?_
  obtain ⟨y20, e, hF21⟩ := bindS hF15; clear hF15
  have ey20 := e; clear e
  refine callF (laws_toIntS_c a__3 a__3h y20 ey20) (Γi := []) H ⟨Vw.sh 5 rfl, trivial⟩ ?_; clear H ey20
  rintro _ _ w22 ⟨h23, rfl, rfl⟩ (H : Cx w0 fp0 S0 w22 [E (List Int) y20 h23, Bx b10 [(.int .i64 a__0), (.int .i64 a__1), (h17).v, (.slice none 0 0)], E (List Int) y14 h17, Bx b7 [(.int .i64 0), (.int .i64 0), (.slice none 0 0), (.slice none 0 0)], Bx b4 [(.int .i64 a__0), (.int .i64 a__1), (a__2h).v, (a__3h).v], Es (List Int) a__2 a__2h, Es (List Int) a__3 a__3h])
  refine fld gok rfl rfl rfl rfl ?_
  replace H := H.sel [1, 0, 2, 3, 4, 5, 6] rfl
  refine stB (j := 3) H rfl rfl ?_; clear H; intro w25 H
  replace H : Cx w0 fp0 S0 w25 [Bx b10 [(.int .i64 a__0), (.int .i64 a__1), (h17).v, (h23).v], E (List Int) y20 h23, E (List Int) y14 h17, Bx b7 [(.int .i64 0), (.int .i64 0), (.slice none 0 0), (.slice none 0 0)], Bx b4 [(.int .i64 a__0), (.int .i64 a__1), (a__2h).v, (a__3h).v], Es (List Int) a__2 a__2h, Es (List Int) a__3 a__3h] := H
  refine loadN [(.int .i64 a__0), (.int .i64 a__1), (h17).v, (h23).v] rfl (fun j u hj => H.bx 0 rfl hj) ?_
  replace H := H.sel [3, 0, 1, 2, 4, 5, 6] rfl
  refine stA gok [(.int .i64 a__0), (.int .i64 a__1), (h17).v, (h23).v] rfl H rfl rfl rfl ?_; clear H; intro w26 H
  replace H : Cx w0 fp0 S0 w26 [Bx b7 [(.int .i64 a__0), (.int .i64 a__1), (h17).v, (h23).v], Bx b10 [(.int .i64 a__0), (.int .i64 a__1), (h17).v, (h23).v], E (List Int) y20 h23, E (List Int) y14 h17, Bx b4 [(.int .i64 a__0), (.int .i64 a__1), (a__2h).v, (a__3h).v], Es (List Int) a__2 a__2h, Es (List Int) a__3 a__3h] := H
  refine loadN [(.int .i64 a__0), (.int .i64 a__1), (h17).v, (h23).v] rfl (fun j u hj => H.bx 0 rfl hj) ?_
  cases hF21
  exact ⟨_, _, rfl, ⟨h17, h23, rfl, rfl⟩, (H.sel [3, 2] rfl).close ⟨cloE, cloE, trivial⟩⟩

theorem laws_toEdgeS_c (a_ : List (Int × Int × List Int × List Int)) (a_h : Hd) (y : List (Int × Int × List Int × List Int)) (hF : F_laws_toEdgeS a_ = some y) :
    ConF Try.prog 43 #[(a_h).v] [Es (List (Int × Int × List Int × List Int)) a_ a_h] [] (fun v Γ' => ∃ z0 : Hd, v = (z0).v ∧ Γ' = [E (List (Int × Int × List Int × List Int)) y z0]) := by
  intro w0 S0 fp0 hI hS
  have H : Cx w0 fp0 S0 w0 [Es (List (Int × Int × List Int × List Int)) a_ a_h] := Cx.start hI hS
  clear hI hS
  refine enterC (args := [_]) gok Try.func43 rfl _ rfl rfl rfl ?_
  refine lenE (H.rs (α := List (Int × Int × List Int × List Int)) 0 rfl).len ?_
  obtain ⟨a2, e, hF3⟩ := bindS hF; clear hF
  refine make_ (α := Int × Int × List Int × List Int) gok rfl rfl rfl rfl (makeCO_of e) H ?_; clear e H; intro h5 w4 hx H
  clear hx
  obtain ⟨r146, hF148, hF147⟩ := bindS hF3; clear hF3
  refine cut (fun (q149 : List (Int × Int × List Int × List Int)) => [(3, (h5).v)]) (fun (q149 : List (Int × Int × List Int × List Int)) w' => q149 = r146 ∧ Cx w0 fp0 S0 w' [E (List (Int × Int × List Int × List Int)) q149 h5]) ?_ ?_
  · skip
    refine loopW _ (fun (s236 : (List (Int × Int × List Int × List Int)) × Int) (_ : Unit) => [(0, (a_h).v), (3, (h5).v), (4, (.int .i64 s236.2))]) (fun (s236 : (List (Int × Int × List Int × List Int)) × Int) (_ : Unit) w' => Cx w0 fp0 S0 w' [Es (List (Int × Int × List Int × List Int)) a_ a_h, E (List (Int × Int × List Int × List Int)) s236.1 h5]) (a2, 0) () hF148 ⟨rfl, rfl, rfl, trivial⟩ (H.sel [1, 0] rfl) ?_
    · clear H
      rintro T242 ⟨s236_0, s236_1⟩ _ w241 o243 (H : Cx w0 fp0 S0 w241 [Es (List (Int × Int × List Int × List Int)) a_ a_h, E (List (Int × Int × List Int × List Int)) s236_0 h5]) hrt hF244
      refine sq ?_
      refine lenE (H.rs (α := List (Int × Int × List Int × List Int)) 0 rfl).len ?_
      obtain ⟨a245, e, hF246⟩ := bindS hF244; clear hF244
      refine boolO e ?_; clear e
      cases a245
      · have hF247 := condF hF246; clear hF246
        have hs := Option.some.inj hF247; subst hs; clear hF247
        have hF248 : some _ = some _ := congrArg some (hrt _ rfl).symm
        exact ⟨s236_0, ⟨rfl, trivial⟩, Option.some.inj hF248, H.sel [1] rfl⟩
      · have hF249 := condT hF246; clear hF246
        refine sq ?_
        obtain ⟨a256, e, hF257⟩ := bindS hF249; clear hF249
        have HH := H; clear H; obtain ⟨p254, m255, g258, c250, c251, c252, c253, H⟩ := HH.el (α := Int × Int × List Int × List Int) 0 rfl e; clear HH
        clear e
        obtain ⟨a256_0, a256_1, a256_2, a256_3⟩ := a256
        obtain ⟨_, _, h260, h261⟩ := g258
        replace H := H.part (β := List Int) a256_2 (h260 : Hd) 0 rfl (fun S h => (And.left (And.right (And.right h))))
        replace H := H.part (β := List Int) a256_3 (h261 : Hd) 1 rfl (fun S h => (And.right (And.right (And.right h))))
        replace H := H.sel [0, 1, 3, 4] rfl
        refine idxE c250 c251 c252 ?_; clear c250 c251 c252
        refine loadN [(.int .i64 a256_0), (.int .i64 a256_1), (h260).v, (h261).v] rfl c253 ?_; clear c253
        obtain ⟨y264, e, hF265⟩ := bindS hF257; clear hF257
        obtain ⟨y264_0, y264_1, y264_2, y264_3⟩ := y264
        have ey264 := e; clear e
        refine callF (laws_toEdge_c a256_0 a256_1 a256_2 h260 a256_3 h261 y264_0 y264_1 y264_2 y264_3 ey264) (Γi := []) H ⟨Vw.sh 1 rfl, Vw.sh 0 rfl, trivial⟩ ?_; clear H ey264
        rintro _ _ w266 ⟨h267, h269, rfl, rfl⟩ (H : Cx w0 fp0 S0 w266 [E (List Int) y264_2 h267, E (List Int) y264_3 h269, Es (List Int) a256_3 h261, Es (List Int) a256_2 h260, Es (List (Int × Int × List Int × List Int)) a_ a_h, E (List (Int × Int × List Int × List Int)) s236_0 h5])
        replace H := H.join (α := List Int) (β := List Int)
        replace H := H.sc (α := Int) y264_1
        replace H := H.join (α := Int) (β := List Int × List Int)
        replace H := H.sc (α := Int) y264_0
        replace H := H.join (α := Int) (β := Int × List Int × List Int)
        obtain ⟨a282, e, hF283⟩ := bindS hF265; clear hF265
        have ea282 := e; clear e
        replace H := H.sel [4, 0, 1, 2, 3] rfl
        have HH := H; clear H; obtain ⟨p275, m276, c274, c271, c272, c273, H⟩ := HH.hole (α := Int × Int × List Int × List Int) ea282; clear HH
        refine idxE c271 c272 c273 ?_
        refine stXA (α := Int × Int × List Int × List Int) gok [(.int .i64 y264_0), (.int .i64 y264_1), (h267).v, (h269).v] rfl rfl H c271 rfl rfl ?_; clear H; intro w284 H
        replace H := H.sel [1, 0, 2, 3, 4] rfl
        replace H := H.put c272 ea282; clear c271 c272 c273 ea282
        obtain ⟨a285, e, hF286⟩ := bindS hF283; clear hF283
        refine arO e ?_; clear e
        have hs := Option.some.inj hF286; subst hs; clear hF286
        exact ⟨(a282, a285), (), rfl, ⟨rfl, rfl, rfl, trivial⟩, H.sel [3, 0] rfl⟩
  · clear hF148 H
    rintro T288 s144 w287 ⟨hr, (H : Cx w0 fp0 S0 w287 [E (List (Int × Int × List Int × List Int)) s144 h5])⟩
    subst hr
    cases hF147
    exact ⟨_, _, rfl, ⟨h5, rfl, rfl⟩, (H.sel [0] rfl).close ⟨cloE, trivial⟩⟩

theorem laws_toGraph_c (a__0 : Int) (a__1 : List (Int × Int × List Int × List Int)) (a__1h : Hd) (a__2 : List Int) (a__2h : Hd) (a__3 : List Int) (a__3h : Hd) (y_0 : Int) (y_1 : List (Int × Int × List Int × List Int)) (y_2 : List Int) (y_3 : List Int) (hF : F_laws_toGraph (a__0, a__1, a__2, a__3) = some (y_0, y_1, y_2, y_3)) :
    ConF Try.prog 11 #[(.agg #[(.int .i64 a__0), (a__1h).v, (a__2h).v, (a__3h).v])] [Es (List (Int × Int × List Int × List Int)) a__1 a__1h, Es (List Int) a__2 a__2h, Es (List Int) a__3 a__3h] [] (fun v Γ' => ∃ z0 z1 z2 : Hd, v = (.agg #[(.int .i64 y_0), (z0).v, (z1).v, (z2).v]) ∧ Γ' = [E (List (Int × Int × List Int × List Int)) y_1 z0, E (List Int) y_2 z1, E (List Int) y_3 z2]) := by
  intro w0 S0 fp0 hI hS
  have H : Cx w0 fp0 S0 w0 [Es (List (Int × Int × List Int × List Int)) a__1 a__1h, Es (List Int) a__2 a__2h, Es (List Int) a__3 a__3h] := Cx.start hI hS
  clear hI hS
  refine enterC (args := [_]) gok Try.func11 rfl _ rfl rfl rfl ?_
  refine box_ H ?_; clear H; intro b5 w4 hx H
  clear hx
  replace H : Cx w0 fp0 S0 w4 [Bx b5 [(.int .i64 a__0), (a__1h).v, (a__2h).v, (a__3h).v], Es (List (Int × Int × List Int × List Int)) a__1 a__1h, Es (List Int) a__2 a__2h, Es (List Int) a__3 a__3h] := H
  refine alloc_ gok rfl H ?_; clear H; intro b8 w7 hx H
  clear hx
  replace H : Cx w0 fp0 S0 w7 [Bx b8 [(.int .i64 0), (.slice none 0 0), (.slice none 0 0), (.slice none 0 0)], Bx b5 [(.int .i64 a__0), (a__1h).v, (a__2h).v, (a__3h).v], Es (List (Int × Int × List Int × List Int)) a__1 a__1h, Es (List Int) a__2 a__2h, Es (List Int) a__3 a__3h] := H
  refine alloc_ gok rfl H ?_; clear H; intro b11 w10 hx H
  clear hx
  replace H : Cx w0 fp0 S0 w10 [Bx b11 [(.int .i64 0), (.slice none 0 0), (.slice none 0 0), (.slice none 0 0)], Bx b8 [(.int .i64 0), (.slice none 0 0), (.slice none 0 0), (.slice none 0 0)], Bx b5 [(.int .i64 a__0), (a__1h).v, (a__2h).v, (a__3h).v], Es (List (Int × Int × List Int × List Int)) a__1 a__1h, Es (List Int) a__2 a__2h, Es (List Int) a__3 a__3h] := H
  refine fld gok rfl rfl rfl rfl ?_
  refine load1 (H.bx 2 rfl (j := 0) rfl) ?_
  refine fld gok rfl rfl rfl rfl ?_
  refine stB (j := 0) H rfl rfl ?_; clear H; intro w13 H
  replace H : Cx w0 fp0 S0 w13 [Bx b11 [(.int .i64 a__0), (.slice none 0 0), (.slice none 0 0), (.slice none 0 0)], Bx b8 [(.int .i64 0), (.slice none 0 0), (.slice none 0 0), (.slice none 0 0)], Bx b5 [(.int .i64 a__0), (a__1h).v, (a__2h).v, (a__3h).v], Es (List (Int × Int × List Int × List Int)) a__1 a__1h, Es (List Int) a__2 a__2h, Es (List Int) a__3 a__3h] := H
  refine fld gok rfl rfl rfl rfl ?_
  refine load1 (H.bx 2 rfl (j := 1) rfl) ?_
  obtain ⟨y14, e, hF15⟩ := bindS hF; clear hF
  have ey14 := e; clear e
  refine callF (laws_toEdgeS_c a__1 a__1h y14 ey14) (Γi := []) H ⟨Vw.sh 3 rfl, trivial⟩ ?_; clear H ey14
  rintro _ _ w16 ⟨h17, rfl, rfl⟩ (H : Cx w0 fp0 S0 w16 [E (List (Int × Int × List Int × List Int)) y14 h17, Bx b11 [(.int .i64 a__0), (.slice none 0 0), (.slice none 0 0), (.slice none 0 0)], Bx b8 [(.int .i64 0), (.slice none 0 0), (.slice none 0 0), (.slice none 0 0)], Bx b5 [(.int .i64 a__0), (a__1h).v, (a__2h).v, (a__3h).v], Es (List (Int × Int × List Int × List Int)) a__1 a__1h, Es (List Int) a__2 a__2h, Es (List Int) a__3 a__3h])
  refine fld gok rfl rfl rfl rfl ?_
  replace H := H.sel [1, 0, 2, 3, 4, 5, 6] rfl
  refine stB (j := 1) H rfl rfl ?_; clear H; intro w19 H
  replace H : Cx w0 fp0 S0 w19 [Bx b11 [(.int .i64 a__0), (h17).v, (.slice none 0 0), (.slice none 0 0)], E (List (Int × Int × List Int × List Int)) y14 h17, Bx b8 [(.int .i64 0), (.slice none 0 0), (.slice none 0 0), (.slice none 0 0)], Bx b5 [(.int .i64 a__0), (a__1h).v, (a__2h).v, (a__3h).v], Es (List (Int × Int × List Int × List Int)) a__1 a__1h, Es (List Int) a__2 a__2h, Es (List Int) a__3 a__3h] := H
  refine fld gok rfl rfl rfl rfl ?_
  refine load1 (H.bx 3 rfl (j := 2) rfl) ?_
  obtain ⟨y20, e, hF21⟩ := bindS hF15; clear hF15
  have ey20 := e; clear e
  refine callF (laws_toIntS_c a__2 a__2h y20 ey20) (Γi := []) H ⟨Vw.sh 5 rfl, trivial⟩ ?_; clear H ey20
  rintro _ _ w22 ⟨h23, rfl, rfl⟩ (H : Cx w0 fp0 S0 w22 [E (List Int) y20 h23, Bx b11 [(.int .i64 a__0), (h17).v, (.slice none 0 0), (.slice none 0 0)], E (List (Int × Int × List Int × List Int)) y14 h17, Bx b8 [(.int .i64 0), (.slice none 0 0), (.slice none 0 0), (.slice none 0 0)], Bx b5 [(.int .i64 a__0), (a__1h).v, (a__2h).v, (a__3h).v], Es (List (Int × Int × List Int × List Int)) a__1 a__1h, Es (List Int) a__2 a__2h, Es (List Int) a__3 a__3h])
  refine fld gok rfl rfl rfl rfl ?_
  replace H := H.sel [1, 0, 2, 3, 4, 5, 6, 7] rfl
  refine stB (j := 2) H rfl rfl ?_; clear H; intro w25 H
  replace H : Cx w0 fp0 S0 w25 [Bx b11 [(.int .i64 a__0), (h17).v, (h23).v, (.slice none 0 0)], E (List Int) y20 h23, E (List (Int × Int × List Int × List Int)) y14 h17, Bx b8 [(.int .i64 0), (.slice none 0 0), (.slice none 0 0), (.slice none 0 0)], Bx b5 [(.int .i64 a__0), (a__1h).v, (a__2h).v, (a__3h).v], Es (List (Int × Int × List Int × List Int)) a__1 a__1h, Es (List Int) a__2 a__2h, Es (List Int) a__3 a__3h] := H
  refine fld gok rfl rfl rfl rfl ?_
  refine load1 (H.bx 4 rfl (j := 3) rfl) ?_
  obtain ⟨y26, e, hF27⟩ := bindS hF21; clear hF21
  have ey26 := e; clear e
  refine callF (laws_toIntS_c a__3 a__3h y26 ey26) (Γi := []) H ⟨Vw.sh 7 rfl, trivial⟩ ?_; clear H ey26
  rintro _ _ w28 ⟨h29, rfl, rfl⟩ (H : Cx w0 fp0 S0 w28 [E (List Int) y26 h29, Bx b11 [(.int .i64 a__0), (h17).v, (h23).v, (.slice none 0 0)], E (List Int) y20 h23, E (List (Int × Int × List Int × List Int)) y14 h17, Bx b8 [(.int .i64 0), (.slice none 0 0), (.slice none 0 0), (.slice none 0 0)], Bx b5 [(.int .i64 a__0), (a__1h).v, (a__2h).v, (a__3h).v], Es (List (Int × Int × List Int × List Int)) a__1 a__1h, Es (List Int) a__2 a__2h, Es (List Int) a__3 a__3h])
  refine fld gok rfl rfl rfl rfl ?_
  replace H := H.sel [1, 0, 2, 3, 4, 5, 6, 7, 8] rfl
  refine stB (j := 3) H rfl rfl ?_; clear H; intro w31 H
  replace H : Cx w0 fp0 S0 w31 [Bx b11 [(.int .i64 a__0), (h17).v, (h23).v, (h29).v], E (List Int) y26 h29, E (List Int) y20 h23, E (List (Int × Int × List Int × List Int)) y14 h17, Bx b8 [(.int .i64 0), (.slice none 0 0), (.slice none 0 0), (.slice none 0 0)], Bx b5 [(.int .i64 a__0), (a__1h).v, (a__2h).v, (a__3h).v], Es (List (Int × Int × List Int × List Int)) a__1 a__1h, Es (List Int) a__2 a__2h, Es (List Int) a__3 a__3h] := H
  refine loadN [(.int .i64 a__0), (h17).v, (h23).v, (h29).v] rfl (fun j u hj => H.bx 0 rfl hj) ?_
  replace H := H.sel [4, 0, 1, 2, 3, 5, 6, 7, 8] rfl
  refine stA gok [(.int .i64 a__0), (h17).v, (h23).v, (h29).v] rfl H rfl rfl rfl ?_; clear H; intro w32 H
  replace H : Cx w0 fp0 S0 w32 [Bx b8 [(.int .i64 a__0), (h17).v, (h23).v, (h29).v], Bx b11 [(.int .i64 a__0), (h17).v, (h23).v, (h29).v], E (List Int) y26 h29, E (List Int) y20 h23, E (List (Int × Int × List Int × List Int)) y14 h17, Bx b5 [(.int .i64 a__0), (a__1h).v, (a__2h).v, (a__3h).v], Es (List (Int × Int × List Int × List Int)) a__1 a__1h, Es (List Int) a__2 a__2h, Es (List Int) a__3 a__3h] := H
  refine loadN [(.int .i64 a__0), (h17).v, (h23).v, (h29).v] rfl (fun j u hj => H.bx 0 rfl hj) ?_
  cases hF27
  exact ⟨_, _, rfl, ⟨h17, h23, h29, rfl, rfl⟩, (H.sel [4, 3, 2] rfl).close ⟨cloE, cloE, cloE, trivial⟩⟩

theorem spec_l1In_c (n_ : Int) (lo_ : Int) (hi_ : Int) (y : Bool) (hF : F_spec_l1In n_ lo_ hi_ = some y) :
    ConF Try.prog 50 #[(.int .i64 n_), (.int .i64 lo_), (.int .i64 hi_)] [] [] (fun v Γ' => v = (.bool y) ∧ Γ' = []) := by
  intro w0 S0 fp0 hI hS
  have H : Cx w0 fp0 S0 w0 [] := Cx.start hI hS
  clear hI hS
  refine enterC (args := [_, _, _]) gok Try.func50 rfl _ rfl rfl rfl ?_
  obtain ⟨r9, hF11, hF10⟩ := bindS hF; clear hF
  refine cut (fun (q12 : Bool) => [(6, (.bool q12))]) (fun (q12 : Bool) w' => q12 = r9 ∧ Cx w0 fp0 S0 w' []) ?_ ?_
  · skip
    obtain ⟨a13, e, hF14⟩ := bindS hF11; clear hF11
    refine boolO e ?_; clear e
    cases a13
    · have hF15 := condF hF14; clear hF14
      exact ⟨false, ⟨rfl, trivial⟩, Option.some.inj hF15, H.sel [] rfl⟩
    · have hF16 := condT hF14; clear hF14
      obtain ⟨a17, e, hF18⟩ := bindS hF16; clear hF16
      refine boolO e ?_; clear e
      exact ⟨a17, ⟨rfl, trivial⟩, Option.some.inj hF18, H.sel [] rfl⟩
  · clear hF11 H
    rintro T20 s7 w19 ⟨hr, (H : Cx w0 fp0 S0 w19 [])⟩
    subst hr
    cases hF10
    exact ⟨_, _, rfl, ⟨rfl, rfl⟩, (H.sel [] rfl).close trivial⟩

theorem spec_l1All_c (l_ : List Int) (l_h : Hd) (lo_ : Int) (hi_ : Int) (y : Bool) (hF : F_spec_l1All l_ lo_ hi_ = some y) :
    ConF Try.prog 77 #[(l_h).v, (.int .i64 lo_), (.int .i64 hi_)] [Es (List Int) l_ l_h] [] (fun v Γ' => v = (.bool y) ∧ Γ' = []) := by
  intro w0 S0 fp0 hI hS
  have H : Cx w0 fp0 S0 w0 [Es (List Int) l_ l_h] := Cx.start hI hS
  clear hI hS
  refine enterC (args := [_, _, _]) gok Try.func77 rfl _ rfl rfl rfl ?_
  refine sq ?_
  refine lenE (H.rs (α := List Int) 0 rfl).len ?_
  have hmx22 := (H.rs (α := List Int) 0 rfl).max
  obtain ⟨r23, e, hF24⟩ := bindS hF; clear hF
  refine loopO _ l_.length (fun (k2 : Nat) (_ : Unit) (_ : Unit) => [(1, (.int .i64 lo_)), (2, (.int .i64 hi_)), (9, (l_h).v), (10, (.int .i64 ((l_.length : Nat) : Int))), (11, (.int .i64 ((k2 : Nat) : Int)))]) (fun _ (_ : Unit) (_ : Unit) w' => Cx w0 fp0 S0 w' [Es (List Int) l_ l_h]) () () e ⟨rfl, rfl, rfl, rfl, rfl, trivial⟩ (H.sel [0] rfl) ?_ ?_
  · clear H e
    rintro T26 k2 _ _ w25 o27 hk (H : Cx w0 fp0 S0 w25 [Es (List Int) l_ l_h]) hrt hF28
    refine boolE (z := true) (ltLen hk) ?_
    refine sq ?_
    refine sq ?_
    obtain ⟨a35, e, hF36⟩ := bindS hF28; clear hF28
    obtain ⟨p33, m34, c29, c30, c31, c32⟩ := (H.rs (α := List Int) 0 rfl).at1 e; clear e
    refine idxE c29 c30 c31 ?_; clear c29 c30 c31
    refine load1 c32 ?_; clear c32
    obtain ⟨y37, e, hF38⟩ := bindS hF36; clear hF36
    have ey37 := e; clear e
    refine callF (spec_l1In_c a35 lo_ hi_ y37 ey37) (Γi := []) H trivial ?_; clear H ey37
    rintro _ _ w39 ⟨rfl, rfl⟩ (H : Cx w0 fp0 S0 w39 [Es (List Int) l_ l_h])
    obtain ⟨a40, e, hF41⟩ := bindS hF38; clear hF38
    refine boolO e ?_; clear e
    cases a40
    · have hF42 := condF hF41; clear hF41
      refine arK hk hmx22 ?_
      have hs := Option.some.inj hF42; subst hs; clear hF42
      exact ⟨(), (), rfl, ⟨rfl, rfl, rfl, rfl, rfl, trivial⟩, H.sel [0] rfl⟩
    · have hF43 := condT hF41; clear hF41
      have hs := Option.some.inj hF43; subst hs; clear hF43
      have hr := hrt _ rfl; subst hr
      have hF44 : some _ = some _ := hF24
      cases hF44
      exact ⟨_, _, rfl, ⟨rfl, rfl⟩, (H.sel [] rfl).close trivial⟩
  · clear H e
    rintro T46 _ _ w45 hr (H : Cx w0 fp0 S0 w45 [Es (List Int) l_ l_h])
    subst hr
    refine boolE (z := false) geLen ?_
    refine sq ?_
    cases hF24
    exact ⟨_, _, rfl, ⟨rfl, rfl⟩, (H.sel [] rfl).close trivial⟩

theorem spec_tmLeaf_c (n__0 : Int) (n__1 : Int) (n__2 : ByteArray) (y : Bool) (hF : F_spec_tmLeaf (n__0, n__1, n__2) = some y) :
    ConF Try.prog 118 #[(.agg #[(.int .i64 n__0), (.int .i64 n__1), (.string n__2)])] [] [] (fun v Γ' => v = (.bool y) ∧ Γ' = []) := by
  intro w0 S0 fp0 hI hS
  have H : Cx w0 fp0 S0 w0 [] := Cx.start hI hS
  clear hI hS
  refine enterC (args := [_]) gok Try.func118 rfl _ rfl rfl rfl ?_
  refine box_ H ?_; clear H; intro b2 w1 hx H
  clear hx
  replace H : Cx w0 fp0 S0 w1 [Bx b2 [(.int .i64 n__0), (.int .i64 n__1), (.string n__2)]] := H
  refine sq ?_
  obtain ⟨r15, hF17, hF16⟩ := bindS hF; clear hF
  refine cut (fun (q18 : Bool) => [(1, (.pointer (some ⟨b2, 0, none⟩))), (11, (.bool q18))]) (fun (q18 : Bool) w' => q18 = r15 ∧ Cx w0 fp0 S0 w' [Bx b2 [(.int .i64 n__0), (.int .i64 n__1), (.string n__2)]]) ?_ ?_
  · skip
    refine fld gok rfl rfl rfl rfl ?_
    refine load1 (H.bx 0 rfl (j := 2) rfl) ?_
    obtain ⟨a19, e, hF20⟩ := bindS hF17; clear hF17
    refine neqZ e ?_; clear e
    cases a19
    · have hF21 := condF hF20; clear hF20
      refine fld gok rfl rfl rfl rfl ?_
      refine load1 (H.bx 0 rfl (j := 0) rfl) ?_
      obtain ⟨y22, e, hF23⟩ := bindS hF21; clear hF21
      have ey22 := e; clear e
      refine callF (spec_l1In_c n__0 1 14 y22 ey22) (Γi := []) H trivial ?_; clear H ey22
      rintro _ _ w24 ⟨rfl, rfl⟩ (H : Cx w0 fp0 S0 w24 [Bx b2 [(.int .i64 n__0), (.int .i64 n__1), (.string n__2)]])
      obtain ⟨a25, e, hF26⟩ := bindS hF23; clear hF23
      refine boolO e ?_; clear e
      exact ⟨a25, ⟨rfl, rfl, trivial⟩, Option.some.inj hF26, H.sel [0] rfl⟩
    · have hF27 := condT hF20; clear hF20
      exact ⟨true, ⟨rfl, rfl, trivial⟩, Option.some.inj hF27, H.sel [0] rfl⟩
  · clear hF17 H
    rintro T29 s13 w28 ⟨hr, (H : Cx w0 fp0 S0 w28 [Bx b2 [(.int .i64 n__0), (.int .i64 n__1), (.string n__2)]])⟩
    subst hr
    cases s13
    · have hF30 := condF hF16; clear hF16
      refine sq ?_
      refine fld gok rfl rfl rfl rfl ?_
      refine load1 (H.bx 0 rfl (j := 0) rfl) ?_
      obtain ⟨a31, e, hF32⟩ := bindS hF30; clear hF30
      refine boolO e ?_; clear e
      cases a31
      · have hF33 := condF hF32; clear hF32
        obtain ⟨r42, hF44, hF43⟩ := bindS hF33; clear hF33
        refine cut (fun (q45 : Bool) => [(1, (.pointer (some ⟨b2, 0, none⟩))), (19, (.bool q45))]) (fun (q45 : Bool) w' => q45 = r42 ∧ Cx w0 fp0 S0 w' [Bx b2 [(.int .i64 n__0), (.int .i64 n__1), (.string n__2)]]) ?_ ?_
        · skip
          obtain ⟨a46, e, hF47⟩ := bindS hF44; clear hF44
          refine boolO e ?_; clear e
          cases a46
          · have hF48 := condF hF47; clear hF47
            obtain ⟨a49, e, hF50⟩ := bindS hF48; clear hF48
            refine boolO e ?_; clear e
            exact ⟨a49, ⟨rfl, rfl, trivial⟩, Option.some.inj hF50, H.sel [0] rfl⟩
          · have hF51 := condT hF47; clear hF47
            exact ⟨true, ⟨rfl, rfl, trivial⟩, Option.some.inj hF51, H.sel [0] rfl⟩
        · clear hF44 H
          rintro T53 s40 w52 ⟨hr, (H : Cx w0 fp0 S0 w52 [Bx b2 [(.int .i64 n__0), (.int .i64 n__1), (.string n__2)]])⟩
          subst hr
          cases s40
          · have hF54 := condF hF43; clear hF43
            refine fld gok rfl rfl rfl rfl ?_
            refine load1 (H.bx 0 rfl (j := 1) rfl) ?_
            obtain ⟨a55, e, hF56⟩ := bindS hF54; clear hF54
            refine boolO e ?_; clear e
            cases hF56
            exact ⟨_, _, rfl, ⟨rfl, rfl⟩, (H.sel [] rfl).close trivial⟩
          · have hF57 := condT hF43; clear hF43
            refine fld gok rfl rfl rfl rfl ?_
            refine load1 (H.bx 0 rfl (j := 1) rfl) ?_
            obtain ⟨y58, e, hF59⟩ := bindS hF57; clear hF57
            have ey58 := e; clear e
            refine callF (spec_l1In_c n__1 0 96 y58 ey58) (Γi := []) H trivial ?_; clear H ey58
            rintro _ _ w60 ⟨rfl, rfl⟩ (H : Cx w0 fp0 S0 w60 [Bx b2 [(.int .i64 n__0), (.int .i64 n__1), (.string n__2)]])
            cases hF59
            exact ⟨_, _, rfl, ⟨rfl, rfl⟩, (H.sel [] rfl).close trivial⟩
      · have hF61 := condT hF32; clear hF32
        refine fld gok rfl rfl rfl rfl ?_
        refine load1 (H.bx 0 rfl (j := 1) rfl) ?_
        obtain ⟨y62, e, hF63⟩ := bindS hF61; clear hF61
        have ey62 := e; clear e
        refine callF (spec_l1In_c n__1 0 12 y62 ey62) (Γi := []) H trivial ?_; clear H ey62
        rintro _ _ w64 ⟨rfl, rfl⟩ (H : Cx w0 fp0 S0 w64 [Bx b2 [(.int .i64 n__0), (.int .i64 n__1), (.string n__2)]])
        cases hF63
        exact ⟨_, _, rfl, ⟨rfl, rfl⟩, (H.sel [] rfl).close trivial⟩
    · have hF65 := condT hF16; clear hF16
      cases hF65
      exact ⟨_, _, rfl, ⟨rfl, rfl⟩, (H.sel [] rfl).close trivial⟩

theorem spec_tmKind_c (kind_ : Int) (y0 : Int) (y1 : Int) (hF : F_spec_tmKind kind_ = some (y0, y1)) :
    ConF Try.prog 119 #[(.int .i64 kind_)] [] [] (fun v Γ' => v = (.tuple #[(.int .i64 y0), (.int .i64 y1)]) ∧ Γ' = []) := by
  intro w0 S0 fp0 hI hS
  have H : Cx w0 fp0 S0 w0 [] := Cx.start hI hS
  clear hI hS
  refine enterC (args := [_]) gok Try.func119 rfl _ rfl rfl rfl ?_
  refine sq ?_
  obtain ⟨a1, e, hF2⟩ := bindS hF; clear hF
  refine boolO e ?_; clear e
  cases a1
  · have hF3 := condF hF2; clear hF2
    obtain ⟨r12, hF14, hF13⟩ := bindS hF3; clear hF3
    refine cut (fun (q15 : Bool) => [(4, (.int .i64 kind_)), (7, (.bool q15))]) (fun (q15 : Bool) w' => q15 = r12 ∧ Cx w0 fp0 S0 w' []) ?_ ?_
    · skip
      obtain ⟨a16, e, hF17⟩ := bindS hF14; clear hF14
      refine boolO e ?_; clear e
      cases a16
      · have hF18 := condF hF17; clear hF17
        obtain ⟨a19, e, hF20⟩ := bindS hF18; clear hF18
        refine boolO e ?_; clear e
        exact ⟨a19, ⟨rfl, rfl, trivial⟩, Option.some.inj hF20, H.sel [] rfl⟩
      · have hF21 := condT hF17; clear hF17
        exact ⟨true, ⟨rfl, rfl, trivial⟩, Option.some.inj hF21, H.sel [] rfl⟩
    · clear hF14 H
      rintro T23 s10 w22 ⟨hr, (H : Cx w0 fp0 S0 w22 [])⟩
      subst hr
      cases s10
      · have hF24 := condF hF13; clear hF13
        obtain ⟨r33, hF35, hF34⟩ := bindS hF24; clear hF24
        refine cut (fun (q36 : Bool) => [(4, (.int .i64 kind_)), (10, (.bool q36))]) (fun (q36 : Bool) w' => q36 = r33 ∧ Cx w0 fp0 S0 w' []) ?_ ?_
        · skip
          obtain ⟨a37, e, hF38⟩ := bindS hF35; clear hF35
          refine boolO e ?_; clear e
          cases a37
          · have hF39 := condF hF38; clear hF38
            obtain ⟨a40, e, hF41⟩ := bindS hF39; clear hF39
            refine boolO e ?_; clear e
            exact ⟨a40, ⟨rfl, rfl, trivial⟩, Option.some.inj hF41, H.sel [] rfl⟩
          · have hF42 := condT hF38; clear hF38
            exact ⟨true, ⟨rfl, rfl, trivial⟩, Option.some.inj hF42, H.sel [] rfl⟩
        · clear hF35 H
          rintro T44 s31 w43 ⟨hr, (H : Cx w0 fp0 S0 w43 [])⟩
          subst hr
          cases s31
          · have hF45 := condF hF34; clear hF34
            obtain ⟨r54, hF56, hF55⟩ := bindS hF45; clear hF45
            refine cut (fun (q57 : Bool) => [(4, (.int .i64 kind_)), (13, (.bool q57))]) (fun (q57 : Bool) w' => q57 = r54 ∧ Cx w0 fp0 S0 w' []) ?_ ?_
            · skip
              obtain ⟨a58, e, hF59⟩ := bindS hF56; clear hF56
              refine boolO e ?_; clear e
              cases a58
              · have hF60 := condF hF59; clear hF59
                obtain ⟨a61, e, hF62⟩ := bindS hF60; clear hF60
                refine boolO e ?_; clear e
                exact ⟨a61, ⟨rfl, rfl, trivial⟩, Option.some.inj hF62, H.sel [] rfl⟩
              · have hF63 := condT hF59; clear hF59
                exact ⟨true, ⟨rfl, rfl, trivial⟩, Option.some.inj hF63, H.sel [] rfl⟩
            · clear hF56 H
              rintro T65 s52 w64 ⟨hr, (H : Cx w0 fp0 S0 w64 [])⟩
              subst hr
              cases s52
              · have hF66 := condF hF55; clear hF55
                obtain ⟨r75, hF77, hF76⟩ := bindS hF66; clear hF66
                refine cut (fun (q78 : Bool) => [(16, (.bool q78))]) (fun (q78 : Bool) w' => q78 = r75 ∧ Cx w0 fp0 S0 w' []) ?_ ?_
                · skip
                  obtain ⟨a79, e, hF80⟩ := bindS hF77; clear hF77
                  refine boolO e ?_; clear e
                  cases a79
                  · have hF81 := condF hF80; clear hF80
                    obtain ⟨a82, e, hF83⟩ := bindS hF81; clear hF81
                    refine boolO e ?_; clear e
                    exact ⟨a82, ⟨rfl, trivial⟩, Option.some.inj hF83, H.sel [] rfl⟩
                  · have hF84 := condT hF80; clear hF80
                    exact ⟨true, ⟨rfl, trivial⟩, Option.some.inj hF84, H.sel [] rfl⟩
                · clear hF77 H
                  rintro T86 s73 w85 ⟨hr, (H : Cx w0 fp0 S0 w85 [])⟩
                  subst hr
                  cases s73
                  · have hF87 := condF hF76; clear hF76
                    cases hF87
                    exact ⟨_, _, rfl, ⟨rfl, rfl⟩, (H.sel [] rfl).close trivial⟩
                  · have hF88 := condT hF76; clear hF76
                    cases hF88
                    exact ⟨_, _, rfl, ⟨rfl, rfl⟩, (H.sel [] rfl).close trivial⟩
              · have hF89 := condT hF55; clear hF55
                cases hF89
                exact ⟨_, _, rfl, ⟨rfl, rfl⟩, (H.sel [] rfl).close trivial⟩
          · have hF90 := condT hF34; clear hF34
            cases hF90
            exact ⟨_, _, rfl, ⟨rfl, rfl⟩, (H.sel [] rfl).close trivial⟩
      · have hF91 := condT hF13; clear hF13
        cases hF91
        exact ⟨_, _, rfl, ⟨rfl, rfl⟩, (H.sel [] rfl).close trivial⟩
  · have hF92 := condT hF2; clear hF2
    cases hF92
    exact ⟨_, _, rfl, ⟨rfl, rfl⟩, (H.sel [] rfl).close trivial⟩

theorem spec_hgEdge_c (e__0 : Int) (e__1 : Int) (e__2 : List Int) (e__2h : Hd) (e__3 : List Int) (e__3h : Hd) (wires_ : Int) (y : Bool) (hF : F_spec_hgEdge (e__0, e__1, e__2, e__3) wires_ = some y) :
    ConF Try.prog 78 #[(.agg #[(.int .i64 e__0), (.int .i64 e__1), (e__2h).v, (e__3h).v]), (.int .i64 wires_)] [Es (List Int) e__2 e__2h, Es (List Int) e__3 e__3h] [] (fun v Γ' => v = (.bool y) ∧ Γ' = []) := by
  intro w0 S0 fp0 hI hS
  have H : Cx w0 fp0 S0 w0 [Es (List Int) e__2 e__2h, Es (List Int) e__3 e__3h] := Cx.start hI hS
  clear hI hS
  refine enterC (args := [_, _]) gok Try.func78 rfl _ rfl rfl rfl ?_
  refine box_ H ?_; clear H; intro b4 w3 hx H
  clear hx
  replace H : Cx w0 fp0 S0 w3 [Bx b4 [(.int .i64 e__0), (.int .i64 e__1), (e__2h).v, (e__3h).v], Es (List Int) e__2 e__2h, Es (List Int) e__3 e__3h] := H
  refine sq ?_
  obtain ⟨r20, hF22, hF21⟩ := bindS hF; clear hF
  refine cut (fun (q23 : Bool) => [(1, (.int .i64 wires_)), (2, (.pointer (some ⟨b4, 0, none⟩))), (19, (.bool q23))]) (fun (q23 : Bool) w' => q23 = r20 ∧ Cx w0 fp0 S0 w' [Bx b4 [(.int .i64 e__0), (.int .i64 e__1), (e__2h).v, (e__3h).v], Es (List Int) e__2 e__2h, Es (List Int) e__3 e__3h]) ?_ ?_
  · skip
    refine fld gok rfl rfl rfl rfl ?_
    refine load1 (H.bx 0 rfl (j := 0) rfl) ?_
    obtain ⟨y24, e, hF25⟩ := bindS hF22; clear hF22
    have ey24 := e; clear e
    refine callF (spec_l1In_c e__0 3 14 y24 ey24) (Γi := []) H trivial ?_; clear H ey24
    rintro _ _ w26 ⟨rfl, rfl⟩ (H : Cx w0 fp0 S0 w26 [Bx b4 [(.int .i64 e__0), (.int .i64 e__1), (e__2h).v, (e__3h).v], Es (List Int) e__2 e__2h, Es (List Int) e__3 e__3h])
    obtain ⟨a27, e, hF28⟩ := bindS hF25; clear hF25
    refine boolO e ?_; clear e
    cases a27
    · have hF29 := condF hF28; clear hF28
      refine fld gok rfl rfl rfl rfl ?_
      refine load1 (H.bx 0 rfl (j := 0) rfl) ?_
      refine fld gok rfl rfl rfl rfl ?_
      refine load1 (H.bx 0 rfl (j := 1) rfl) ?_
      refine build_ (cs := #[(.int .i64 e__0), (.int .i64 e__1), (.string .empty)]) gok rfl rfl rfl ?_
      obtain ⟨y30, e, hF31⟩ := bindS hF29; clear hF29
      have ey30 := e; clear e
      refine callF (spec_tmLeaf_c e__0 e__1 .empty y30 ey30) (Γi := []) H trivial ?_; clear H ey30
      rintro _ _ w32 ⟨rfl, rfl⟩ (H : Cx w0 fp0 S0 w32 [Bx b4 [(.int .i64 e__0), (.int .i64 e__1), (e__2h).v, (e__3h).v], Es (List Int) e__2 e__2h, Es (List Int) e__3 e__3h])
      obtain ⟨a33, e, hF34⟩ := bindS hF31; clear hF31
      refine boolO e ?_; clear e
      exact ⟨a33, ⟨rfl, rfl, rfl, trivial⟩, Option.some.inj hF34, H.sel [0, 1, 2] rfl⟩
    · have hF35 := condT hF28; clear hF28
      exact ⟨true, ⟨rfl, rfl, rfl, trivial⟩, Option.some.inj hF35, H.sel [0, 1, 2] rfl⟩
  · clear hF22 H
    rintro T37 s18 w36 ⟨hr, (H : Cx w0 fp0 S0 w36 [Bx b4 [(.int .i64 e__0), (.int .i64 e__1), (e__2h).v, (e__3h).v], Es (List Int) e__2 e__2h, Es (List Int) e__3 e__3h])⟩
    subst hr
    cases s18
    · have hF38 := condF hF21; clear hF21
      refine fld gok rfl rfl rfl rfl ?_
      refine load1 (H.bx 0 rfl (j := 0) rfl) ?_
      obtain ⟨y39, e, hF40⟩ := bindS hF38; clear hF38
      obtain ⟨y39_0, y39_1⟩ := y39
      have ey39 := e; clear e
      refine callF (spec_tmKind_c e__0 y39_0 y39_1 ey39) (Γi := []) H trivial ?_; clear H ey39
      rintro _ _ w41 ⟨rfl, rfl⟩ (H : Cx w0 fp0 S0 w41 [Bx b4 [(.int .i64 e__0), (.int .i64 e__1), (e__2h).v, (e__3h).v], Es (List Int) e__2 e__2h, Es (List Int) e__3 e__3h])
      obtain ⟨r64, hF66, hF65⟩ := bindS hF40; clear hF40
      refine cut (fun (q67 : Bool) => [(4, (.bool q67))]) (fun (q67 : Bool) w' => q67 = r64 ∧ Cx w0 fp0 S0 w' []) ?_ ?_
      · skip
        refine fld gok rfl rfl rfl rfl ?_
        refine load1 (H.bx 0 rfl (j := 2) rfl) ?_
        refine lenE (H.rs (α := List Int) 1 rfl).len ?_
        obtain ⟨a68, e, hF69⟩ := bindS hF66; clear hF66
        refine boolO e ?_; clear e
        cases a68
        · have hF70 := condF hF69; clear hF69
          exact ⟨false, ⟨rfl, trivial⟩, Option.some.inj hF70, H.sel [] rfl⟩
        · have hF71 := condT hF69; clear hF69
          refine fld gok rfl rfl rfl rfl ?_
          refine load1 (H.bx 0 rfl (j := 3) rfl) ?_
          refine lenE (H.rs (α := List Int) 2 rfl).len ?_
          obtain ⟨a72, e, hF73⟩ := bindS hF71; clear hF71
          refine boolO e ?_; clear e
          cases a72
          · have hF74 := condF hF73; clear hF73
            exact ⟨false, ⟨rfl, trivial⟩, Option.some.inj hF74, H.sel [] rfl⟩
          · have hF75 := condT hF73; clear hF73
            refine fld gok rfl rfl rfl rfl ?_
            refine load1 (H.bx 0 rfl (j := 2) rfl) ?_
            obtain ⟨a76, e, hF77⟩ := bindS hF75; clear hF75
            refine arO e ?_; clear e
            obtain ⟨y78, e, hF79⟩ := bindS hF77; clear hF77
            have ey78 := e; clear e
            refine callF (spec_l1All_c e__2 e__2h 0 a76 y78 ey78) (Γi := []) H ⟨Vw.sh 1 rfl, trivial⟩ ?_; clear H ey78
            rintro _ _ w80 ⟨rfl, rfl⟩ (H : Cx w0 fp0 S0 w80 [Bx b4 [(.int .i64 e__0), (.int .i64 e__1), (e__2h).v, (e__3h).v], Es (List Int) e__2 e__2h, Es (List Int) e__3 e__3h])
            cases y78
            · have hF81 := condF hF79; clear hF79
              exact ⟨false, ⟨rfl, trivial⟩, Option.some.inj hF81, H.sel [] rfl⟩
            · have hF82 := condT hF79; clear hF79
              refine fld gok rfl rfl rfl rfl ?_
              refine load1 (H.bx 0 rfl (j := 3) rfl) ?_
              obtain ⟨a83, e, hF84⟩ := bindS hF82; clear hF82
              refine arO e ?_; clear e
              obtain ⟨y85, e, hF86⟩ := bindS hF84; clear hF84
              have ey85 := e; clear e
              refine callF (spec_l1All_c e__3 e__3h 0 a83 y85 ey85) (Γi := []) H ⟨Vw.sh 2 rfl, trivial⟩ ?_; clear H ey85
              rintro _ _ w87 ⟨rfl, rfl⟩ (H : Cx w0 fp0 S0 w87 [Bx b4 [(.int .i64 e__0), (.int .i64 e__1), (e__2h).v, (e__3h).v], Es (List Int) e__2 e__2h, Es (List Int) e__3 e__3h])
              exact ⟨y85, ⟨rfl, trivial⟩, Option.some.inj hF86, H.sel [] rfl⟩
      · clear hF66 H
        rintro T89 s62 w88 ⟨hr, (H : Cx w0 fp0 S0 w88 [])⟩
        subst hr
        cases hF65
        exact ⟨_, _, rfl, ⟨rfl, rfl⟩, (H.sel [] rfl).close trivial⟩
    · have hF90 := condT hF21; clear hF21
      cases hF90
      exact ⟨_, _, rfl, ⟨rfl, rfl⟩, (H.sel [] rfl).close trivial⟩

theorem spec_hgCounts_c (g__0 : Int) (g__1 : List (Int × Int × List Int × List Int)) (g__1h : Hd) (g__2 : List Int) (g__2h : Hd) (g__3 : List Int) (g__3h : Hd) (y0 : List Int) (y1 : List Int) (hF : F_spec_hgCounts (g__0, g__1, g__2, g__3) = some (y0, y1)) :
    ConF Try.prog 79 #[(.agg #[(.int .i64 g__0), (g__1h).v, (g__2h).v, (g__3h).v])] [Es (List (Int × Int × List Int × List Int)) g__1 g__1h, Es (List Int) g__2 g__2h, Es (List Int) g__3 g__3h] [] (fun v Γ' => ∃ z0 z1 : Hd, v = (.tuple #[(z0).v, (z1).v]) ∧ Γ' = [E (List Int) y0 z0, E (List Int) y1 z1]) := by
  intro w0 S0 fp0 hI hS
  have H : Cx w0 fp0 S0 w0 [Es (List (Int × Int × List Int × List Int)) g__1 g__1h, Es (List Int) g__2 g__2h, Es (List Int) g__3 g__3h] := Cx.start hI hS
  clear hI hS
  refine enterC (args := [_]) gok Try.func79 rfl _ rfl rfl rfl ?_
  refine box_ H ?_; clear H; intro b5 w4 hx H
  clear hx
  replace H : Cx w0 fp0 S0 w4 [Bx b5 [(.int .i64 g__0), (g__1h).v, (g__2h).v, (g__3h).v], Es (List (Int × Int × List Int × List Int)) g__1 g__1h, Es (List Int) g__2 g__2h, Es (List Int) g__3 g__3h] := H
  refine fld gok rfl rfl rfl rfl ?_
  refine load1 (H.bx 0 rfl (j := 0) rfl) ?_
  obtain ⟨a7, e, hF8⟩ := bindS hF; clear hF
  refine make_ (α := Int) gok rfl rfl rfl rfl (makeCO_of e) H ?_; clear e H; intro h10 w9 hx H
  clear hx
  refine fld gok rfl rfl rfl rfl ?_
  refine load1 (H.bx 1 rfl (j := 0) rfl) ?_
  obtain ⟨a12, e, hF13⟩ := bindS hF8; clear hF8
  refine make_ (α := Int) gok rfl rfl rfl rfl (makeCO_of e) H ?_; clear e H; intro h15 w14 hx H
  clear hx
  refine sq ?_
  refine fld gok rfl rfl rfl rfl ?_
  refine load1 (H.bx 2 rfl (j := 2) rfl) ?_
  refine lenE (H.rs (α := List Int) 4 rfl).len ?_
  have hmx78 := (H.rs (α := List Int) 4 rfl).max
  obtain ⟨r79, e, hF80⟩ := bindS hF13; clear hF13
  refine loopS _ g__2.length (fun (k17 : Nat) (s76 : List Int) (_ : Unit) => [(1, (.pointer (some ⟨b5, 0, none⟩))), (4, (h10).v), (5, (h15).v), (23, (g__2h).v), (24, (.int .i64 ((g__2.length : Nat) : Int))), (25, (.int .i64 ((k17 : Nat) : Int)))]) (fun _ (s76 : List Int) (_ : Unit) w' => Cx w0 fp0 S0 w' [Bx b5 [(.int .i64 g__0), (g__1h).v, (g__2h).v, (g__3h).v], Es (List (Int × Int × List Int × List Int)) g__1 g__1h, Es (List Int) g__2 g__2h, Es (List Int) g__3 g__3h, E (List Int) s76 h10, E (List Int) a12 h15]) a7 () e ⟨rfl, rfl, rfl, rfl, rfl, rfl, trivial⟩ (H.sel [2, 3, 4, 5, 1, 0] rfl) ?_ ?_
  · clear H e
    rintro T82 k17 s76 _ w81 o83 hk (H : Cx w0 fp0 S0 w81 [Bx b5 [(.int .i64 g__0), (g__1h).v, (g__2h).v, (g__3h).v], Es (List (Int × Int × List Int × List Int)) g__1 g__1h, Es (List Int) g__2 g__2h, Es (List Int) g__3 g__3h, E (List Int) s76 h10, E (List Int) a12 h15]) hF84
    refine boolE (z := true) (ltLen hk) ?_
    refine sq ?_
    refine sq ?_
    obtain ⟨a91, e, hF92⟩ := bindS hF84; clear hF84
    obtain ⟨p89, m90, c85, c86, c87, c88⟩ := (H.rs (α := List Int) 2 rfl).at1 e; clear e
    refine idxE c85 c86 c87 ?_; clear c85 c86 c87
    refine load1 c88 ?_; clear c88
    obtain ⟨a99, e, hF100⟩ := bindS hF92; clear hF92
    obtain ⟨p97, m98, c93, c94, c95, c96⟩ := (H.ro (α := List Int) 4 rfl).at1 e; clear e
    refine idxE c93 c94 c95 ?_; clear c93 c94 c95
    refine load1 c96 ?_; clear c96
    obtain ⟨a101, e, hF102⟩ := bindS hF100; clear hF100
    refine arO e ?_; clear e
    obtain ⟨a109, e, hF110⟩ := bindS hF102; clear hF102
    have ea109 := e; clear e
    obtain ⟨p107, m108, c103, c104, c105⟩ := (H.ro (α := List Int) 4 rfl).setp ea109
    refine idxE c103 c104 c105 ?_
    replace H := H.sel [4, 0, 1, 2, 3, 5] rfl
    refine setS (α := Int) H c103 c104 ea109 ?_; clear H c103 c104 c105 ea109; intro w111 H
    refine arK hk hmx78 ?_
    have hs := Option.some.inj hF110; subst hs; clear hF110
    exact ⟨(), ⟨rfl, rfl, rfl, rfl, rfl, rfl, trivial⟩, H.sel [1, 2, 3, 4, 0, 5] rfl⟩
  · clear H e
    rintro T113 _ w112 (H : Cx w0 fp0 S0 w112 [Bx b5 [(.int .i64 g__0), (g__1h).v, (g__2h).v, (g__3h).v], Es (List (Int × Int × List Int × List Int)) g__1 g__1h, Es (List Int) g__2 g__2h, Es (List Int) g__3 g__3h, E (List Int) r79 h10, E (List Int) a12 h15])
    refine boolE (z := false) geLen ?_
    refine sq ?_
    refine sq ?_
    refine fld gok rfl rfl rfl rfl ?_
    refine load1 (H.bx 0 rfl (j := 3) rfl) ?_
    refine lenE (H.rs (α := List Int) 3 rfl).len ?_
    have hmx177 := (H.rs (α := List Int) 3 rfl).max
    obtain ⟨r178, e, hF179⟩ := bindS hF80; clear hF80
    refine loopS _ g__3.length (fun (k116 : Nat) (s175 : List Int) (_ : Unit) => [(1, (.pointer (some ⟨b5, 0, none⟩))), (4, (h10).v), (5, (h15).v), (37, (g__3h).v), (38, (.int .i64 ((g__3.length : Nat) : Int))), (39, (.int .i64 ((k116 : Nat) : Int)))]) (fun _ (s175 : List Int) (_ : Unit) w' => Cx w0 fp0 S0 w' [Bx b5 [(.int .i64 g__0), (g__1h).v, (g__2h).v, (g__3h).v], Es (List (Int × Int × List Int × List Int)) g__1 g__1h, Es (List Int) g__2 g__2h, Es (List Int) g__3 g__3h, E (List Int) r79 h10, E (List Int) s175 h15]) a12 () e ⟨rfl, rfl, rfl, rfl, rfl, rfl, trivial⟩ (H.sel [0, 1, 2, 3, 4, 5] rfl) ?_ ?_
    · clear H e
      rintro T181 k116 s175 _ w180 o182 hk (H : Cx w0 fp0 S0 w180 [Bx b5 [(.int .i64 g__0), (g__1h).v, (g__2h).v, (g__3h).v], Es (List (Int × Int × List Int × List Int)) g__1 g__1h, Es (List Int) g__2 g__2h, Es (List Int) g__3 g__3h, E (List Int) r79 h10, E (List Int) s175 h15]) hF183
      refine boolE (z := true) (ltLen hk) ?_
      refine sq ?_
      refine sq ?_
      obtain ⟨a190, e, hF191⟩ := bindS hF183; clear hF183
      obtain ⟨p188, m189, c184, c185, c186, c187⟩ := (H.rs (α := List Int) 3 rfl).at1 e; clear e
      refine idxE c184 c185 c186 ?_; clear c184 c185 c186
      refine load1 c187 ?_; clear c187
      obtain ⟨a198, e, hF199⟩ := bindS hF191; clear hF191
      obtain ⟨p196, m197, c192, c193, c194, c195⟩ := (H.ro (α := List Int) 5 rfl).at1 e; clear e
      refine idxE c192 c193 c194 ?_; clear c192 c193 c194
      refine load1 c195 ?_; clear c195
      obtain ⟨a200, e, hF201⟩ := bindS hF199; clear hF199
      refine arO e ?_; clear e
      obtain ⟨a208, e, hF209⟩ := bindS hF201; clear hF201
      have ea208 := e; clear e
      obtain ⟨p206, m207, c202, c203, c204⟩ := (H.ro (α := List Int) 5 rfl).setp ea208
      refine idxE c202 c203 c204 ?_
      replace H := H.sel [5, 0, 1, 2, 3, 4] rfl
      refine setS (α := Int) H c202 c203 ea208 ?_; clear H c202 c203 c204 ea208; intro w210 H
      refine arK hk hmx177 ?_
      have hs := Option.some.inj hF209; subst hs; clear hF209
      exact ⟨(), ⟨rfl, rfl, rfl, rfl, rfl, rfl, trivial⟩, H.sel [1, 2, 3, 4, 5, 0] rfl⟩
    · clear H e
      rintro T212 _ w211 (H : Cx w0 fp0 S0 w211 [Bx b5 [(.int .i64 g__0), (g__1h).v, (g__2h).v, (g__3h).v], Es (List (Int × Int × List Int × List Int)) g__1 g__1h, Es (List Int) g__2 g__2h, Es (List Int) g__3 g__3h, E (List Int) r79 h10, E (List Int) r178 h15])
      refine boolE (z := false) geLen ?_
      refine sq ?_
      refine sq ?_
      refine fld gok rfl rfl rfl rfl ?_
      refine load1 (H.bx 0 rfl (j := 1) rfl) ?_
      refine lenE (H.rs (α := List (Int × Int × List Int × List Int)) 1 rfl).len ?_
      have hmx654 := (H.rs (α := List (Int × Int × List Int × List Int)) 1 rfl).max
      obtain ⟨r655, e, hF656⟩ := bindS hF179; clear hF179
      refine loopS _ g__1.length (fun (k215 : Nat) (s652 : List Int × List Int) (_ : Unit) => [(4, (h10).v), (5, (h15).v), (51, (g__1h).v), (52, (.int .i64 ((g__1.length : Nat) : Int))), (53, (.int .i64 ((k215 : Nat) : Int)))]) (fun _ (s652 : List Int × List Int) (_ : Unit) w' => Cx w0 fp0 S0 w' [E (List Int) s652.1 h10, E (List Int) s652.2 h15, Es (List (Int × Int × List Int × List Int)) g__1 g__1h]) (r79, r178) () e ⟨rfl, rfl, rfl, rfl, rfl, trivial⟩ (H.sel [4, 5, 1] rfl) ?_ ?_
      · clear H e
        rintro T658 k215 ⟨s652_0, s652_1⟩ _ w657 o659 hk (H : Cx w0 fp0 S0 w657 [E (List Int) s652_0 h10, E (List Int) s652_1 h15, Es (List (Int × Int × List Int × List Int)) g__1 g__1h]) hF660
        refine boolE (z := true) (ltLen hk) ?_
        refine sq ?_
        refine sq ?_
        obtain ⟨a667, e, hF668⟩ := bindS hF660; clear hF660
        have HH := H; clear H; obtain ⟨p665, m666, g669, c661, c662, c663, c664, H⟩ := HH.el (α := Int × Int × List Int × List Int) 2 rfl e; clear HH
        clear e
        obtain ⟨a667_0, a667_1, a667_2, a667_3⟩ := a667
        obtain ⟨_, _, h671, h672⟩ := g669
        replace H := H.part (β := List Int) a667_2 (h671 : Hd) 0 rfl (fun S h => (And.left (And.right (And.right h))))
        replace H := H.part (β := List Int) a667_3 (h672 : Hd) 1 rfl (fun S h => (And.right (And.right (And.right h))))
        replace H := H.sel [0, 1, 3, 4, 5] rfl
        refine idxE c661 c662 c663 ?_; clear c661 c662 c663
        refine loadN [(.int .i64 a667_0), (.int .i64 a667_1), (h671).v, (h672).v] rfl c664 ?_; clear c664
        refine alloc_ gok rfl H ?_; clear H; intro b676 w675 hx H
        clear hx
        replace H : Cx w0 fp0 S0 w675 [Bx b676 [(.int .i64 0), (.int .i64 0), (.slice none 0 0), (.slice none 0 0)], Es (List Int) a667_3 h672, Es (List Int) a667_2 h671, E (List Int) s652_0 h10, E (List Int) s652_1 h15, Es (List (Int × Int × List Int × List Int)) g__1 g__1h] := H
        refine stA gok [(.int .i64 a667_0), (.int .i64 a667_1), (h671).v, (h672).v] rfl H rfl rfl rfl ?_; clear H; intro w678 H
        replace H : Cx w0 fp0 S0 w678 [Bx b676 [(.int .i64 a667_0), (.int .i64 a667_1), (h671).v, (h672).v], Es (List Int) a667_3 h672, Es (List Int) a667_2 h671, E (List Int) s652_0 h10, E (List Int) s652_1 h15, Es (List (Int × Int × List Int × List Int)) g__1 g__1h] := H
        refine sq ?_
        refine fld gok rfl rfl rfl rfl ?_
        refine load1 (H.bx 0 rfl (j := 3) rfl) ?_
        refine lenE (H.rs (α := List Int) 1 rfl).len ?_
        have hmx740 := (H.rs (α := List Int) 1 rfl).max
        obtain ⟨r741, e, hF742⟩ := bindS hF668; clear hF668
        refine loopS _ a667_3.length (fun (k679 : Nat) (s738 : List Int) (_ : Unit) => [(4, (h10).v), (5, (h15).v), (11, (.pointer (some ⟨b676, 0, none⟩))), (51, (g__1h).v), (52, (.int .i64 ((g__1.length : Nat) : Int))), (53, (.int .i64 ((k215 : Nat) : Int))), (58, (h672).v), (59, (.int .i64 ((a667_3.length : Nat) : Int))), (60, (.int .i64 ((k679 : Nat) : Int)))]) (fun _ (s738 : List Int) (_ : Unit) w' => Cx w0 fp0 S0 w' [E (List Int) s738 h10, E (List Int) s652_1 h15, Bx b676 [(.int .i64 a667_0), (.int .i64 a667_1), (h671).v, (h672).v], Es (List Int) a667_2 h671, Es (List Int) a667_3 h672, Es (List (Int × Int × List Int × List Int)) g__1 g__1h]) s652_0 () e ⟨rfl, rfl, rfl, rfl, rfl, rfl, rfl, rfl, rfl, trivial⟩ (H.sel [3, 4, 0, 2, 1, 5] rfl) ?_ ?_
        · clear H e
          rintro T744 k679 s738 _ w743 o745 hk (H : Cx w0 fp0 S0 w743 [E (List Int) s738 h10, E (List Int) s652_1 h15, Bx b676 [(.int .i64 a667_0), (.int .i64 a667_1), (h671).v, (h672).v], Es (List Int) a667_2 h671, Es (List Int) a667_3 h672, Es (List (Int × Int × List Int × List Int)) g__1 g__1h]) hF746
          refine boolE (z := true) (ltLen hk) ?_
          refine sq ?_
          refine sq ?_
          obtain ⟨a753, e, hF754⟩ := bindS hF746; clear hF746
          obtain ⟨p751, m752, c747, c748, c749, c750⟩ := (H.rs (α := List Int) 4 rfl).at1 e; clear e
          refine idxE c747 c748 c749 ?_; clear c747 c748 c749
          refine load1 c750 ?_; clear c750
          obtain ⟨a761, e, hF762⟩ := bindS hF754; clear hF754
          obtain ⟨p759, m760, c755, c756, c757, c758⟩ := (H.ro (α := List Int) 0 rfl).at1 e; clear e
          refine idxE c755 c756 c757 ?_; clear c755 c756 c757
          refine load1 c758 ?_; clear c758
          obtain ⟨a763, e, hF764⟩ := bindS hF762; clear hF762
          refine arO e ?_; clear e
          obtain ⟨a771, e, hF772⟩ := bindS hF764; clear hF764
          have ea771 := e; clear e
          obtain ⟨p769, m770, c765, c766, c767⟩ := (H.ro (α := List Int) 0 rfl).setp ea771
          refine idxE c765 c766 c767 ?_
          refine setS (α := Int) H c765 c766 ea771 ?_; clear H c765 c766 c767 ea771; intro w773 H
          refine arK hk hmx740 ?_
          have hs := Option.some.inj hF772; subst hs; clear hF772
          exact ⟨(), ⟨rfl, rfl, rfl, rfl, rfl, rfl, rfl, rfl, rfl, trivial⟩, H.sel [0, 1, 2, 3, 4, 5] rfl⟩
        · clear H e
          rintro T775 _ w774 (H : Cx w0 fp0 S0 w774 [E (List Int) r741 h10, E (List Int) s652_1 h15, Bx b676 [(.int .i64 a667_0), (.int .i64 a667_1), (h671).v, (h672).v], Es (List Int) a667_2 h671, Es (List Int) a667_3 h672, Es (List (Int × Int × List Int × List Int)) g__1 g__1h])
          refine boolE (z := false) geLen ?_
          refine sq ?_
          refine fld gok rfl rfl rfl rfl ?_
          refine load1 (H.bx 2 rfl (j := 2) rfl) ?_
          refine lenE (H.rs (α := List Int) 3 rfl).len ?_
          have hmx839 := (H.rs (α := List Int) 3 rfl).max
          obtain ⟨r840, e, hF841⟩ := bindS hF742; clear hF742
          refine loopS _ a667_2.length (fun (k778 : Nat) (s837 : List Int) (_ : Unit) => [(4, (h10).v), (5, (h15).v), (51, (g__1h).v), (52, (.int .i64 ((g__1.length : Nat) : Int))), (53, (.int .i64 ((k215 : Nat) : Int))), (72, (h671).v), (73, (.int .i64 ((a667_2.length : Nat) : Int))), (74, (.int .i64 ((k778 : Nat) : Int)))]) (fun _ (s837 : List Int) (_ : Unit) w' => Cx w0 fp0 S0 w' [E (List Int) r741 h10, E (List Int) s837 h15, Es (List (Int × Int × List Int × List Int)) g__1 g__1h, Es (List Int) a667_2 h671]) s652_1 () e ⟨rfl, rfl, rfl, rfl, rfl, rfl, rfl, rfl, trivial⟩ (H.sel [0, 1, 5, 3] rfl) ?_ ?_
          · clear H e
            rintro T843 k778 s837 _ w842 o844 hk (H : Cx w0 fp0 S0 w842 [E (List Int) r741 h10, E (List Int) s837 h15, Es (List (Int × Int × List Int × List Int)) g__1 g__1h, Es (List Int) a667_2 h671]) hF845
            refine boolE (z := true) (ltLen hk) ?_
            refine sq ?_
            refine sq ?_
            obtain ⟨a852, e, hF853⟩ := bindS hF845; clear hF845
            obtain ⟨p850, m851, c846, c847, c848, c849⟩ := (H.rs (α := List Int) 3 rfl).at1 e; clear e
            refine idxE c846 c847 c848 ?_; clear c846 c847 c848
            refine load1 c849 ?_; clear c849
            obtain ⟨a860, e, hF861⟩ := bindS hF853; clear hF853
            obtain ⟨p858, m859, c854, c855, c856, c857⟩ := (H.ro (α := List Int) 1 rfl).at1 e; clear e
            refine idxE c854 c855 c856 ?_; clear c854 c855 c856
            refine load1 c857 ?_; clear c857
            obtain ⟨a862, e, hF863⟩ := bindS hF861; clear hF861
            refine arO e ?_; clear e
            obtain ⟨a870, e, hF871⟩ := bindS hF863; clear hF863
            have ea870 := e; clear e
            obtain ⟨p868, m869, c864, c865, c866⟩ := (H.ro (α := List Int) 1 rfl).setp ea870
            refine idxE c864 c865 c866 ?_
            replace H := H.sel [1, 0, 2, 3] rfl
            refine setS (α := Int) H c864 c865 ea870 ?_; clear H c864 c865 c866 ea870; intro w872 H
            refine arK hk hmx839 ?_
            have hs := Option.some.inj hF871; subst hs; clear hF871
            exact ⟨(), ⟨rfl, rfl, rfl, rfl, rfl, rfl, rfl, rfl, trivial⟩, H.sel [1, 0, 2, 3] rfl⟩
          · clear H e
            rintro T874 _ w873 (H : Cx w0 fp0 S0 w873 [E (List Int) r741 h10, E (List Int) r840 h15, Es (List (Int × Int × List Int × List Int)) g__1 g__1h, Es (List Int) a667_2 h671])
            refine boolE (z := false) geLen ?_
            refine sq ?_
            refine arK hk hmx654 ?_
            have hs := Option.some.inj hF841; subst hs; clear hF841
            exact ⟨(), ⟨rfl, rfl, rfl, rfl, rfl, trivial⟩, H.sel [0, 1, 2] rfl⟩
      · clear H e
        obtain ⟨s879_0, s879_1⟩ := r655
        rintro T878 _ w877 (H : Cx w0 fp0 S0 w877 [E (List Int) s879_0 h10, E (List Int) s879_1 h15, Es (List (Int × Int × List Int × List Int)) g__1 g__1h])
        refine boolE (z := false) geLen ?_
        refine sq ?_
        cases hF656
        exact ⟨_, _, rfl, ⟨h10, h15, rfl, rfl⟩, (H.sel [0, 1] rfl).close ⟨cloE, cloE, trivial⟩⟩

theorem spec_hgValid_c (g__0 : Int) (g__1 : List (Int × Int × List Int × List Int)) (g__1h : Hd) (g__2 : List Int) (g__2h : Hd) (g__3 : List Int) (g__3h : Hd) (y : Bool) (hF : F_spec_hgValid (g__0, g__1, g__2, g__3) = some y) :
    ConF Try.prog 41 #[(.agg #[(.int .i64 g__0), (g__1h).v, (g__2h).v, (g__3h).v])] [Es (List (Int × Int × List Int × List Int)) g__1 g__1h, Es (List Int) g__2 g__2h, Es (List Int) g__3 g__3h] [] (fun v Γ' => v = (.bool y) ∧ Γ' = []) := by
  intro w0 S0 fp0 hI hS
  have H : Cx w0 fp0 S0 w0 [Es (List (Int × Int × List Int × List Int)) g__1 g__1h, Es (List Int) g__2 g__2h, Es (List Int) g__3 g__3h] := Cx.start hI hS
  clear hI hS
  refine enterC (args := [_]) gok Try.func41 rfl _ rfl rfl rfl ?_
  refine box_ H ?_; clear H; intro b5 w4 hx H
  clear hx
  replace H : Cx w0 fp0 S0 w4 [Bx b5 [(.int .i64 g__0), (g__1h).v, (g__2h).v, (g__3h).v], Es (List (Int × Int × List Int × List Int)) g__1 g__1h, Es (List Int) g__2 g__2h, Es (List Int) g__3 g__3h] := H
  refine sq ?_
  obtain ⟨r44, hF46, hF45⟩ := bindS hF; clear hF
  refine cut (fun (q47 : Bool) => [(1, (.pointer (some ⟨b5, 0, none⟩))), (47, (.bool q47))]) (fun (q47 : Bool) w' => q47 = r44 ∧ Cx w0 fp0 S0 w' [Bx b5 [(.int .i64 g__0), (g__1h).v, (g__2h).v, (g__3h).v], Es (List (Int × Int × List Int × List Int)) g__1 g__1h, Es (List Int) g__2 g__2h, Es (List Int) g__3 g__3h]) ?_ ?_
  · skip
    refine fld gok rfl rfl rfl rfl ?_
    refine load1 (H.bx 0 rfl (j := 0) rfl) ?_
    obtain ⟨y48, e, hF49⟩ := bindS hF46; clear hF46
    have ey48 := e; clear e
    refine callF (spec_l1In_c g__0 0 100 y48 ey48) (Γi := []) H trivial ?_; clear H ey48
    rintro _ _ w50 ⟨rfl, rfl⟩ (H : Cx w0 fp0 S0 w50 [Bx b5 [(.int .i64 g__0), (g__1h).v, (g__2h).v, (g__3h).v], Es (List (Int × Int × List Int × List Int)) g__1 g__1h, Es (List Int) g__2 g__2h, Es (List Int) g__3 g__3h])
    obtain ⟨a51, e, hF52⟩ := bindS hF49; clear hF49
    refine boolO e ?_; clear e
    cases a51
    · have hF53 := condF hF52; clear hF52
      refine fld gok rfl rfl rfl rfl ?_
      refine load1 (H.bx 0 rfl (j := 1) rfl) ?_
      refine lenE (H.rs (α := List (Int × Int × List Int × List Int)) 1 rfl).len ?_
      obtain ⟨a54, e, hF55⟩ := bindS hF53; clear hF53
      refine boolO e ?_; clear e
      cases a54
      · have hF56 := condF hF55; clear hF55
        refine fld gok rfl rfl rfl rfl ?_
        refine load1 (H.bx 0 rfl (j := 2) rfl) ?_
        refine lenE (H.rs (α := List Int) 2 rfl).len ?_
        obtain ⟨a57, e, hF58⟩ := bindS hF56; clear hF56
        refine boolO e ?_; clear e
        cases a57
        · have hF59 := condF hF58; clear hF58
          refine fld gok rfl rfl rfl rfl ?_
          refine load1 (H.bx 0 rfl (j := 3) rfl) ?_
          refine lenE (H.rs (α := List Int) 3 rfl).len ?_
          obtain ⟨a60, e, hF61⟩ := bindS hF59; clear hF59
          refine boolO e ?_; clear e
          cases a60
          · have hF62 := condF hF61; clear hF61
            refine fld gok rfl rfl rfl rfl ?_
            refine load1 (H.bx 0 rfl (j := 2) rfl) ?_
            refine fld gok rfl rfl rfl rfl ?_
            refine load1 (H.bx 0 rfl (j := 0) rfl) ?_
            obtain ⟨a63, e, hF64⟩ := bindS hF62; clear hF62
            refine arO e ?_; clear e
            obtain ⟨y65, e, hF66⟩ := bindS hF64; clear hF64
            have ey65 := e; clear e
            refine callF (spec_l1All_c g__2 g__2h 0 a63 y65 ey65) (Γi := []) H ⟨Vw.sh 2 rfl, trivial⟩ ?_; clear H ey65
            rintro _ _ w67 ⟨rfl, rfl⟩ (H : Cx w0 fp0 S0 w67 [Bx b5 [(.int .i64 g__0), (g__1h).v, (g__2h).v, (g__3h).v], Es (List (Int × Int × List Int × List Int)) g__1 g__1h, Es (List Int) g__2 g__2h, Es (List Int) g__3 g__3h])
            obtain ⟨a68, e, hF69⟩ := bindS hF66; clear hF66
            refine boolO e ?_; clear e
            cases a68
            · have hF70 := condF hF69; clear hF69
              refine fld gok rfl rfl rfl rfl ?_
              refine load1 (H.bx 0 rfl (j := 3) rfl) ?_
              refine fld gok rfl rfl rfl rfl ?_
              refine load1 (H.bx 0 rfl (j := 0) rfl) ?_
              obtain ⟨a71, e, hF72⟩ := bindS hF70; clear hF70
              refine arO e ?_; clear e
              obtain ⟨y73, e, hF74⟩ := bindS hF72; clear hF72
              have ey73 := e; clear e
              refine callF (spec_l1All_c g__3 g__3h 0 a71 y73 ey73) (Γi := []) H ⟨Vw.sh 3 rfl, trivial⟩ ?_; clear H ey73
              rintro _ _ w75 ⟨rfl, rfl⟩ (H : Cx w0 fp0 S0 w75 [Bx b5 [(.int .i64 g__0), (g__1h).v, (g__2h).v, (g__3h).v], Es (List (Int × Int × List Int × List Int)) g__1 g__1h, Es (List Int) g__2 g__2h, Es (List Int) g__3 g__3h])
              obtain ⟨a76, e, hF77⟩ := bindS hF74; clear hF74
              refine boolO e ?_; clear e
              exact ⟨a76, ⟨rfl, rfl, trivial⟩, Option.some.inj hF77, H.sel [0, 1, 2, 3] rfl⟩
            · have hF78 := condT hF69; clear hF69
              exact ⟨true, ⟨rfl, rfl, trivial⟩, Option.some.inj hF78, H.sel [0, 1, 2, 3] rfl⟩
          · have hF79 := condT hF61; clear hF61
            exact ⟨true, ⟨rfl, rfl, trivial⟩, Option.some.inj hF79, H.sel [0, 1, 2, 3] rfl⟩
        · have hF80 := condT hF58; clear hF58
          exact ⟨true, ⟨rfl, rfl, trivial⟩, Option.some.inj hF80, H.sel [0, 1, 2, 3] rfl⟩
      · have hF81 := condT hF55; clear hF55
        exact ⟨true, ⟨rfl, rfl, trivial⟩, Option.some.inj hF81, H.sel [0, 1, 2, 3] rfl⟩
    · have hF82 := condT hF52; clear hF52
      exact ⟨true, ⟨rfl, rfl, trivial⟩, Option.some.inj hF82, H.sel [0, 1, 2, 3] rfl⟩
  · clear hF46 H
    rintro T84 s42 w83 ⟨hr, (H : Cx w0 fp0 S0 w83 [Bx b5 [(.int .i64 g__0), (g__1h).v, (g__2h).v, (g__3h).v], Es (List (Int × Int × List Int × List Int)) g__1 g__1h, Es (List Int) g__2 g__2h, Es (List Int) g__3 g__3h])⟩
    subst hr
    cases s42
    · have hF85 := condF hF45; clear hF45
      refine sq ?_
      refine fld gok rfl rfl rfl rfl ?_
      refine load1 (H.bx 0 rfl (j := 1) rfl) ?_
      refine lenE (H.rs (α := List (Int × Int × List Int × List Int)) 1 rfl).len ?_
      have hmx116 := (H.rs (α := List (Int × Int × List Int × List Int)) 1 rfl).max
      obtain ⟨r117, e, hF118⟩ := bindS hF85; clear hF85
      refine loopO _ g__1.length (fun (k86 : Nat) (_ : Unit) (_ : Unit) => [(1, (.pointer (some ⟨b5, 0, none⟩))), (49, (g__1h).v), (50, (.int .i64 ((g__1.length : Nat) : Int))), (51, (.int .i64 ((k86 : Nat) : Int)))]) (fun _ (_ : Unit) (_ : Unit) w' => Cx w0 fp0 S0 w' [Bx b5 [(.int .i64 g__0), (g__1h).v, (g__2h).v, (g__3h).v], Es (List (Int × Int × List Int × List Int)) g__1 g__1h, Es (List Int) g__2 g__2h, Es (List Int) g__3 g__3h]) () () e ⟨rfl, rfl, rfl, rfl, trivial⟩ (H.sel [0, 1, 2, 3] rfl) ?_ ?_
      · clear H e
        rintro T120 k86 _ _ w119 o121 hk (H : Cx w0 fp0 S0 w119 [Bx b5 [(.int .i64 g__0), (g__1h).v, (g__2h).v, (g__3h).v], Es (List (Int × Int × List Int × List Int)) g__1 g__1h, Es (List Int) g__2 g__2h, Es (List Int) g__3 g__3h]) hrt hF122
        refine boolE (z := true) (ltLen hk) ?_
        refine sq ?_
        refine sq ?_
        obtain ⟨a129, e, hF130⟩ := bindS hF122; clear hF122
        have HH := H; clear H; obtain ⟨p127, m128, g131, c123, c124, c125, c126, H⟩ := HH.el (α := Int × Int × List Int × List Int) 1 rfl e; clear HH
        clear e
        obtain ⟨a129_0, a129_1, a129_2, a129_3⟩ := a129
        obtain ⟨_, _, h133, h134⟩ := g131
        replace H := H.part (β := List Int) a129_2 (h133 : Hd) 0 rfl (fun S h => (And.left (And.right (And.right h))))
        replace H := H.part (β := List Int) a129_3 (h134 : Hd) 1 rfl (fun S h => (And.right (And.right (And.right h))))
        replace H := H.sel [0, 1, 3, 4, 5, 6] rfl
        refine idxE c123 c124 c125 ?_; clear c123 c124 c125
        refine loadN [(.int .i64 a129_0), (.int .i64 a129_1), (h133).v, (h134).v] rfl c126 ?_; clear c126
        refine alloc_ gok rfl H ?_; clear H; intro b138 w137 hx H
        clear hx
        replace H : Cx w0 fp0 S0 w137 [Bx b138 [(.int .i64 0), (.int .i64 0), (.slice none 0 0), (.slice none 0 0)], Es (List Int) a129_3 h134, Es (List Int) a129_2 h133, Bx b5 [(.int .i64 g__0), (g__1h).v, (g__2h).v, (g__3h).v], Es (List (Int × Int × List Int × List Int)) g__1 g__1h, Es (List Int) g__2 g__2h, Es (List Int) g__3 g__3h] := H
        refine stA gok [(.int .i64 a129_0), (.int .i64 a129_1), (h133).v, (h134).v] rfl H rfl rfl rfl ?_; clear H; intro w140 H
        replace H : Cx w0 fp0 S0 w140 [Bx b138 [(.int .i64 a129_0), (.int .i64 a129_1), (h133).v, (h134).v], Es (List Int) a129_3 h134, Es (List Int) a129_2 h133, Bx b5 [(.int .i64 g__0), (g__1h).v, (g__2h).v, (g__3h).v], Es (List (Int × Int × List Int × List Int)) g__1 g__1h, Es (List Int) g__2 g__2h, Es (List Int) g__3 g__3h] := H
        refine loadN [(.int .i64 a129_0), (.int .i64 a129_1), (h133).v, (h134).v] rfl (fun j u hj => H.bx 0 rfl hj) ?_
        refine fld gok rfl rfl rfl rfl ?_
        refine load1 (H.bx 3 rfl (j := 0) rfl) ?_
        obtain ⟨y141, e, hF142⟩ := bindS hF130; clear hF130
        have ey141 := e; clear e
        refine callF (spec_hgEdge_c a129_0 a129_1 a129_2 h133 a129_3 h134 g__0 y141 ey141) (Γi := []) H ⟨Vw.sh 2 rfl, Vw.sh 1 rfl, trivial⟩ ?_; clear H ey141
        rintro _ _ w143 ⟨rfl, rfl⟩ (H : Cx w0 fp0 S0 w143 [Bx b138 [(.int .i64 a129_0), (.int .i64 a129_1), (h133).v, (h134).v], Es (List Int) a129_3 h134, Es (List Int) a129_2 h133, Bx b5 [(.int .i64 g__0), (g__1h).v, (g__2h).v, (g__3h).v], Es (List (Int × Int × List Int × List Int)) g__1 g__1h, Es (List Int) g__2 g__2h, Es (List Int) g__3 g__3h])
        obtain ⟨a144, e, hF145⟩ := bindS hF142; clear hF142
        refine boolO e ?_; clear e
        cases a144
        · have hF146 := condF hF145; clear hF145
          refine arK hk hmx116 ?_
          have hs := Option.some.inj hF146; subst hs; clear hF146
          exact ⟨(), (), rfl, ⟨rfl, rfl, rfl, rfl, trivial⟩, H.sel [3, 4, 5, 6] rfl⟩
        · have hF147 := condT hF145; clear hF145
          have hs := Option.some.inj hF147; subst hs; clear hF147
          have hr := hrt _ rfl; subst hr
          have hF148 : some _ = some _ := hF118
          cases hF148
          exact ⟨_, _, rfl, ⟨rfl, rfl⟩, (H.sel [] rfl).close trivial⟩
      · clear H e
        rintro T150 _ _ w149 hr (H : Cx w0 fp0 S0 w149 [Bx b5 [(.int .i64 g__0), (g__1h).v, (g__2h).v, (g__3h).v], Es (List (Int × Int × List Int × List Int)) g__1 g__1h, Es (List Int) g__2 g__2h, Es (List Int) g__3 g__3h])
        subst hr
        refine boolE (z := false) geLen ?_
        refine sq ?_
        refine loadN [(.int .i64 g__0), (g__1h).v, (g__2h).v, (g__3h).v] rfl (fun j u hj => H.bx 0 rfl hj) ?_
        obtain ⟨y153, e, hF154⟩ := bindS hF118; clear hF118
        obtain ⟨y153_0, y153_1⟩ := y153
        have ey153 := e; clear e
        refine callF (spec_hgCounts_c g__0 g__1 g__1h g__2 g__2h g__3 g__3h y153_0 y153_1 ey153) (Γi := []) H ⟨Vw.sh 1 rfl, Vw.sh 2 rfl, Vw.sh 3 rfl, trivial⟩ ?_; clear H ey153
        rintro _ _ w155 ⟨h156, h158, rfl, rfl⟩ (H : Cx w0 fp0 S0 w155 [E (List Int) y153_0 h156, E (List Int) y153_1 h158, Bx b5 [(.int .i64 g__0), (g__1h).v, (g__2h).v, (g__3h).v], Es (List (Int × Int × List Int × List Int)) g__1 g__1h, Es (List Int) g__2 g__2h, Es (List Int) g__3 g__3h])
        refine sq ?_
        refine lenE (H.ro (α := List Int) 0 rfl).len ?_
        have hmx188 := (H.ro (α := List Int) 0 rfl).max
        obtain ⟨r189, e, hF190⟩ := bindS hF154; clear hF154
        refine loopO _ y153_0.length (fun (k160 : Nat) (_ : Unit) (_ : Unit) => [(5, (h156).v), (6, (h158).v), (67, (.int .i64 ((y153_0.length : Nat) : Int))), (68, (.int .i64 ((k160 : Nat) : Int)))]) (fun _ (_ : Unit) (_ : Unit) w' => Cx w0 fp0 S0 w' [E (List Int) y153_0 h156, E (List Int) y153_1 h158]) () () e ⟨rfl, rfl, rfl, rfl, trivial⟩ (H.sel [0, 1] rfl) ?_ ?_
        · clear H e
          rintro T192 k160 _ _ w191 o193 hk (H : Cx w0 fp0 S0 w191 [E (List Int) y153_0 h156, E (List Int) y153_1 h158]) hrt hF194
          refine boolE (z := true) (ltLen hk) ?_
          refine sq ?_
          refine sq ?_
          refine heldX H [] (.fst 0 (.fst 1 (.fst 2 (.fst 4 (.fst 5 (.fst 6 (.fst 3 (.fst 7 (.fst 8 (.fst 9 .done)))))))))) mixed [] trivial (by kernel_rfl) ?_
          clear H; intro w195 H
          have hX : Ext w195 w195 := Upd.refl _ _
          have H0 := H
          obtain ⟨a202, e, hF203⟩ := bindS hF194; clear hF194
          obtain ⟨p200, m201, c196, c197, c198, c199⟩ := (H.ro (α := List Int) 0 rfl).at1 e; clear e
          refine idxE c196 c197 c198 ?_; clear c196 c197 c198
          obtain ⟨a210, e, hF211⟩ := bindS hF203; clear hF203
          obtain ⟨p208, m209, c204, c205, c206, c207⟩ := (H.ro (α := List Int) 1 rfl).at1 e; clear e
          refine idxE c204 c205 c206 ?_; clear c204 c205 c206
          refine load1X c199 ?_; clear c199
          refine load1X c207 ?_; clear c207
          obtain ⟨a212, e, hF213⟩ := bindS hF211; clear hF211
          refine arO e ?_; clear e
          obtain ⟨a214, e, hF215⟩ := bindS hF213; clear hF213
          refine boolO e ?_; clear e
          cases a214
          · have hF216 := condF hF215; clear hF215
            refine arK hk hmx188 ?_
            have hs := Option.some.inj hF216; subst hs; clear hF216
            exact ⟨(), (), rfl, ⟨rfl, rfl, rfl, rfl, trivial⟩, H.sel [0, 1] rfl⟩
          · have hF217 := condT hF215; clear hF215
            have hs := Option.some.inj hF217; subst hs; clear hF217
            have hr := hrt _ rfl; subst hr
            have hF218 : some _ = some _ := hF190
            cases hF218
            exact ⟨_, _, rfl, ⟨rfl, rfl⟩, (H.sel [] rfl).close trivial⟩
        · clear H e
          rintro T220 _ _ w219 hr (H : Cx w0 fp0 S0 w219 [E (List Int) y153_0 h156, E (List Int) y153_1 h158])
          subst hr
          refine boolE (z := false) geLen ?_
          refine sq ?_
          cases hF190
          exact ⟨_, _, rfl, ⟨rfl, rfl⟩, (H.sel [] rfl).close trivial⟩
    · have hF223 := condT hF45; clear hF45
      cases hF223
      exact ⟨_, _, rfl, ⟨rfl, rfl⟩, (H.sel [] rfl).close trivial⟩

theorem spec_hgList_c (l_ : List Int) (l_h : Hd) (to_ : List Int) (to_h : Hd) (y : List Int) (hF : F_spec_hgList l_ to_ = some y) :
    ConF Try.prog 102 #[(l_h).v, (to_h).v] [Es (List Int) l_ l_h, Es (List Int) to_ to_h] [] (fun v Γ' => ∃ z0 : Hd, v = (z0).v ∧ Γ' = [E (List Int) y z0]) := by
  intro w0 S0 fp0 hI hS
  have H : Cx w0 fp0 S0 w0 [Es (List Int) l_ l_h, Es (List Int) to_ to_h] := Cx.start hI hS
  clear hI hS
  refine enterC (args := [_, _]) gok Try.func102 rfl _ rfl rfl rfl ?_
  refine sq ?_
  refine lenE (H.rs (α := List Int) 0 rfl).len ?_
  have hmx61 := (H.rs (α := List Int) 0 rfl).max
  obtain ⟨r62, e, hF63⟩ := bindS hF; clear hF
  replace H := H.nil (α := Int)
  refine loopS _ l_.length (fun (k3 : Nat) (s58 : List Int) (g59 : Hd) => [(1, (to_h).v), (5, (g59).v), (8, (l_h).v), (9, (.int .i64 ((l_.length : Nat) : Int))), (10, (.int .i64 ((k3 : Nat) : Int)))]) (fun _ (s58 : List Int) (g59 : Hd) w' => Cx w0 fp0 S0 w' [Es (List Int) to_ to_h, E (List Int) s58 g59, Es (List Int) l_ l_h]) [] nilH e ⟨rfl, rfl, rfl, rfl, rfl, trivial⟩ (H.sel [2, 0, 1] rfl) ?_ ?_
  · clear H e
    rintro T66 k3 s58 g59 w65 o67 hk (H : Cx w0 fp0 S0 w65 [Es (List Int) to_ to_h, E (List Int) s58 g59, Es (List Int) l_ l_h]) hF68
    refine boolE (z := true) (ltLen hk) ?_
    refine sq ?_
    refine sq ?_
    obtain ⟨a75, e, hF76⟩ := bindS hF68; clear hF68
    obtain ⟨p73, m74, c69, c70, c71, c72⟩ := (H.rs (α := List Int) 2 rfl).at1 e; clear e
    refine idxE c69 c70 c71 ?_; clear c69 c70 c71
    refine load1 c72 ?_; clear c72
    obtain ⟨a83, e, hF84⟩ := bindS hF76; clear hF76
    obtain ⟨p81, m82, c77, c78, c79, c80⟩ := (H.rs (α := List Int) 0 rfl).at1 e; clear e
    refine idxE c77 c78 c79 ?_; clear c77 c78 c79
    refine load1 c80 ?_; clear c80
    refine lit1S (α := Int) gok rfl rfl rfl rfl H ?_; clear H; intro h86 w85 hx H
    clear hx
    obtain ⟨a88, e, hF89⟩ := bindS hF84; clear hF84
    replace H := H.sel [2, 0, 1, 3] rfl
    refine append_ (α := Int) gok rfl rfl rfl rfl H e ?_; clear e H; intro h91 w90 H
    refine arK hk hmx61 ?_
    have hs := Option.some.inj hF89; subst hs; clear hF89
    exact ⟨h91, ⟨rfl, rfl, rfl, rfl, rfl, trivial⟩, H.sel [1, 0, 2] rfl⟩
  · clear H e
    rintro T94 g96 w93 (H : Cx w0 fp0 S0 w93 [Es (List Int) to_ to_h, E (List Int) r62 g96, Es (List Int) l_ l_h])
    refine boolE (z := false) geLen ?_
    refine sq ?_
    cases hF63
    exact ⟨_, _, rfl, ⟨g96, rfl, rfl⟩, (H.sel [1] rfl).close ⟨cloE, trivial⟩⟩

theorem spec_hgMap_c (g__0 : Int) (g__1 : List (Int × Int × List Int × List Int)) (g__1h : Hd) (g__2 : List Int) (g__2h : Hd) (g__3 : List Int) (g__3h : Hd) (to_ : List Int) (to_h : Hd) (wires_ : Int) (y_0 : Int) (y_1 : List (Int × Int × List Int × List Int)) (y_2 : List Int) (y_3 : List Int) (hF : F_spec_hgMap (g__0, g__1, g__2, g__3) to_ wires_ = some (y_0, y_1, y_2, y_3)) :
    ConF Try.prog 126 #[(.agg #[(.int .i64 g__0), (g__1h).v, (g__2h).v, (g__3h).v]), (to_h).v, (.int .i64 wires_)] [Es (List (Int × Int × List Int × List Int)) g__1 g__1h, Es (List Int) g__2 g__2h, Es (List Int) g__3 g__3h, Es (List Int) to_ to_h] [] (fun v Γ' => ∃ z0 z1 z2 : Hd, v = (.agg #[(.int .i64 y_0), (z0).v, (z1).v, (z2).v]) ∧ Γ' = [E (List (Int × Int × List Int × List Int)) y_1 z0, E (List Int) y_2 z1, E (List Int) y_3 z2]) := by
  intro w0 S0 fp0 hI hS
  have H : Cx w0 fp0 S0 w0 [Es (List (Int × Int × List Int × List Int)) g__1 g__1h, Es (List Int) g__2 g__2h, Es (List Int) g__3 g__3h, Es (List Int) to_ to_h] := Cx.start hI hS
  clear hI hS
  refine enterC (args := [_, _, _]) gok Try.func126 rfl _ rfl rfl rfl ?_
  refine box_ H ?_; clear H; intro b6 w5 hx H
  clear hx
  replace H : Cx w0 fp0 S0 w5 [Bx b6 [(.int .i64 g__0), (g__1h).v, (g__2h).v, (g__3h).v], Es (List (Int × Int × List Int × List Int)) g__1 g__1h, Es (List Int) g__2 g__2h, Es (List Int) g__3 g__3h, Es (List Int) to_ to_h] := H
  refine alloc_ gok rfl H ?_; clear H; intro b9 w8 hx H
  clear hx
  replace H : Cx w0 fp0 S0 w8 [Bx b9 [(.int .i64 0), (.slice none 0 0), (.slice none 0 0), (.slice none 0 0)], Bx b6 [(.int .i64 g__0), (g__1h).v, (g__2h).v, (g__3h).v], Es (List (Int × Int × List Int × List Int)) g__1 g__1h, Es (List Int) g__2 g__2h, Es (List Int) g__3 g__3h, Es (List Int) to_ to_h] := H
  obtain ⟨r80, hF82, hF81⟩ := bindS hF; clear hF
  refine heldJ H [11] (.fst 0 (.fst 1 (.fst 3 (.fst 5 (.fst 7 (.fst 2 (.fst 6 (.alts (.alt 4 (.alts (.alt 8 (.fst 9 (.act 10 (.act 11 .done))) (.alt 10 (.act 8 (.fst 9 (.act 11 .done))) .no))) (.alt 10 (.act 4 (.act 8 (.fst 9 (.act 11 .done)))) .no)))))))))) mixed [] trivial (by kernel_rfl) (fun (q83 : (Int × List Int × List Int) × (Hd × Hd × Nat)) => [(1, (to_h).v), (3, (.pointer (some ⟨b6, 0, none⟩))), (6, (.pointer (some ⟨b9, 0, none⟩))), (7, (.pointer (some ⟨q83.2.2.2, 0, none⟩)))]) (fun (q83 : (Int × List Int × List Int) × (Hd × Hd × Nat)) w' => (q83.1.1, q83.1.2.1, q83.1.2.2) = r80 ∧ Cx w0 fp0 S0 w' [Es (List Int) to_ to_h, Bx b6 [(.int .i64 g__0), (g__1h).v, (g__2h).v, (g__3h).v], Es (List (Int × Int × List Int × List Int)) g__1 g__1h, Es (List Int) g__2 g__2h, Es (List Int) g__3 g__3h, Bx b9 [(.int .i64 0), (.slice none 0 0), (.slice none 0 0), (.slice none 0 0)], Bx q83.2.2.2 [(.int .i64 q83.1.1), (.slice none 0 0), (q83.2.1).v, (q83.2.2.1).v], E (List Int) q83.1.2.1 q83.2.1, E (List Int) q83.1.2.2 q83.2.2.1]) ?_ ?_
  · skip
    clear H; intro w84 H
    have hX : Ext w84 w84 := Upd.refl _ _
    have H0 := H
    refine anyH (fun _ => fld gok rfl rfl rfl rfl ⟨rfl, rfl⟩) ?_
    refine anyH (fun _ => fld gok rfl rfl rfl rfl ⟨rfl, rfl⟩) ?_
    refine load1X (H.bx 1 rfl (j := 2) rfl) ?_
    refine load1X (H.bx 1 rfl (j := 3) rfl) ?_
    refine both ?_ ?_
    · skip
      obtain ⟨y99, e, hF100⟩ := bindS hF82; clear hF82
      have ey99 := e; clear e
      refine callFx (spec_hgList_c g__2 g__2h to_ to_h y99 ey99) H ⟨Vw.sh 3 rfl, Vw.sh 5 rfl, trivial⟩ ?_; clear H ey99
      rintro _ _ w101 ⟨h102, rfl, rfl⟩ hx (H : Cx w0 fp0 S0 w101 [E (List Int) y99 h102, Bx b9 [(.int .i64 0), (.slice none 0 0), (.slice none 0 0), (.slice none 0 0)], Bx b6 [(.int .i64 g__0), (g__1h).v, (g__2h).v, (g__3h).v], Es (List (Int × Int × List Int × List Int)) g__1 g__1h, Es (List Int) g__2 g__2h, Es (List Int) g__3 g__3h, Es (List Int) to_ to_h])
      replace hX := hX.trans0 hx; clear hx
      refine hold hX ?_
      refine both ?_ ?_
      · skip
        obtain ⟨y113, e, hF114⟩ := bindS hF100; clear hF100
        have ey113 := e; clear e
        refine callFx (spec_hgList_c g__3 g__3h to_ to_h y113 ey113) H ⟨Vw.sh 5 rfl, Vw.sh 6 rfl, trivial⟩ ?_; clear H ey113
        rintro _ _ w115 ⟨h116, rfl, rfl⟩ hx (H : Cx w0 fp0 S0 w115 [E (List Int) y113 h116, E (List Int) y99 h102, Bx b9 [(.int .i64 0), (.slice none 0 0), (.slice none 0 0), (.slice none 0 0)], Bx b6 [(.int .i64 g__0), (g__1h).v, (g__2h).v, (g__3h).v], Es (List (Int × Int × List Int × List Int)) g__1 g__1h, Es (List Int) g__2 g__2h, Es (List Int) g__3 g__3h, Es (List Int) to_ to_h])
        replace hX := hX.trans0 hx; clear hx
        refine hold hX ?_
        refine anyH (fun _ => build_ (cs := #[(.int .i64 wires_), (.slice none 0 0), (h102).v, (h116).v]) gok rfl rfl rfl ⟨rfl, rfl⟩) ?_
        refine alloc_ gok rfl H ?_; clear H; intro b119 w118 hx H
        replace hX := hX.trans0 hx; clear hx
        replace H : Cx w0 fp0 S0 w118 [Bx b119 [(.int .i64 0), (.slice none 0 0), (.slice none 0 0), (.slice none 0 0)], E (List Int) y113 h116, E (List Int) y99 h102, Bx b9 [(.int .i64 0), (.slice none 0 0), (.slice none 0 0), (.slice none 0 0)], Bx b6 [(.int .i64 g__0), (g__1h).v, (g__2h).v, (g__3h).v], Es (List (Int × Int × List Int × List Int)) g__1 g__1h, Es (List Int) g__2 g__2h, Es (List Int) g__3 g__3h, Es (List Int) to_ to_h] := H
        refine hold hX ?_
        refine stA gok [(.int .i64 wires_), (.slice none 0 0), (h102).v, (h116).v] rfl H rfl rfl rfl ?_; clear H; intro w121 H
        replace H : Cx w0 fp0 S0 w121 [Bx b119 [(.int .i64 wires_), (.slice none 0 0), (h102).v, (h116).v], E (List Int) y113 h116, E (List Int) y99 h102, Bx b9 [(.int .i64 0), (.slice none 0 0), (.slice none 0 0), (.slice none 0 0)], Bx b6 [(.int .i64 g__0), (g__1h).v, (g__2h).v, (g__3h).v], Es (List (Int × Int × List Int × List Int)) g__1 g__1h, Es (List Int) g__2 g__2h, Es (List Int) g__3 g__3h, Es (List Int) to_ to_h] := H
        refine hold trivial ?_
        exact ⟨((wires_, y99, y113), (h102, h116, b119)), ⟨rfl, rfl, rfl, rfl, trivial⟩, Option.some.inj hF114, H.sel [8, 4, 5, 6, 7, 3, 0, 2, 1] rfl⟩
      · skip
        refine both ?_ ?_
        · skip
          obtain ⟨a122, eq123, hF124⟩ := bindS hF100; clear hF100
          refine alloc_ gok rfl H ?_; clear H; intro b126 w125 hx H
          replace hX := hX.trans0 hx; clear hx
          replace H : Cx w0 fp0 S0 w125 [Bx b126 [(.int .i64 0), (.slice none 0 0), (.slice none 0 0), (.slice none 0 0)], E (List Int) y99 h102, Bx b9 [(.int .i64 0), (.slice none 0 0), (.slice none 0 0), (.slice none 0 0)], Bx b6 [(.int .i64 g__0), (g__1h).v, (g__2h).v, (g__3h).v], Es (List (Int × Int × List Int × List Int)) g__1 g__1h, Es (List Int) g__2 g__2h, Es (List Int) g__3 g__3h, Es (List Int) to_ to_h] := H
          refine hold hX ?_
          have e := eq123; clear eq123
          have ea122 := e; clear e
          refine callFx (spec_hgList_c g__3 g__3h to_ to_h a122 ea122) H ⟨Vw.sh 6 rfl, Vw.sh 7 rfl, trivial⟩ ?_; clear H ea122
          rintro _ _ w128 ⟨h129, rfl, rfl⟩ hx (H : Cx w0 fp0 S0 w128 [E (List Int) a122 h129, Bx b126 [(.int .i64 0), (.slice none 0 0), (.slice none 0 0), (.slice none 0 0)], E (List Int) y99 h102, Bx b9 [(.int .i64 0), (.slice none 0 0), (.slice none 0 0), (.slice none 0 0)], Bx b6 [(.int .i64 g__0), (g__1h).v, (g__2h).v, (g__3h).v], Es (List (Int × Int × List Int × List Int)) g__1 g__1h, Es (List Int) g__2 g__2h, Es (List Int) g__3 g__3h, Es (List Int) to_ to_h])
          replace hX := hX.trans0 hx; clear hx
          refine hold hX ?_
          refine anyH (fun _ => build_ (cs := #[(.int .i64 wires_), (.slice none 0 0), (h102).v, (h129).v]) gok rfl rfl rfl ⟨rfl, rfl⟩) ?_
          replace H := H.sel [1, 0, 2, 3, 4, 5, 6, 7, 8] rfl
          refine stA gok [(.int .i64 wires_), (.slice none 0 0), (h102).v, (h129).v] rfl H rfl rfl rfl ?_; clear H; intro w131 H
          replace H : Cx w0 fp0 S0 w131 [Bx b126 [(.int .i64 wires_), (.slice none 0 0), (h102).v, (h129).v], E (List Int) a122 h129, E (List Int) y99 h102, Bx b9 [(.int .i64 0), (.slice none 0 0), (.slice none 0 0), (.slice none 0 0)], Bx b6 [(.int .i64 g__0), (g__1h).v, (g__2h).v, (g__3h).v], Es (List (Int × Int × List Int × List Int)) g__1 g__1h, Es (List Int) g__2 g__2h, Es (List Int) g__3 g__3h, Es (List Int) to_ to_h] := H
          refine hold trivial ?_
          exact ⟨((wires_, y99, a122), (h102, h129, b126)), ⟨rfl, rfl, rfl, rfl, trivial⟩, Option.some.inj hF124, H.sel [8, 4, 5, 6, 7, 3, 0, 2, 1] rfl⟩
        · skip
          exact trivial
    · skip
      refine both ?_ ?_
      · skip
        obtain ⟨a132, eq133, hF134⟩ := bindS hF82; clear hF82
        obtain ⟨a135, eq136, hF137⟩ := bindS hF134; clear hF134
        refine alloc_ gok rfl H ?_; clear H; intro b139 w138 hx H
        replace hX := hX.trans0 hx; clear hx
        replace H : Cx w0 fp0 S0 w138 [Bx b139 [(.int .i64 0), (.slice none 0 0), (.slice none 0 0), (.slice none 0 0)], Bx b9 [(.int .i64 0), (.slice none 0 0), (.slice none 0 0), (.slice none 0 0)], Bx b6 [(.int .i64 g__0), (g__1h).v, (g__2h).v, (g__3h).v], Es (List (Int × Int × List Int × List Int)) g__1 g__1h, Es (List Int) g__2 g__2h, Es (List Int) g__3 g__3h, Es (List Int) to_ to_h] := H
        refine hold hX ?_
        have e := eq133; clear eq133
        have ea132 := e; clear e
        refine callFx (spec_hgList_c g__2 g__2h to_ to_h a132 ea132) H ⟨Vw.sh 4 rfl, Vw.sh 6 rfl, trivial⟩ ?_; clear H ea132
        rintro _ _ w141 ⟨h142, rfl, rfl⟩ hx (H : Cx w0 fp0 S0 w141 [E (List Int) a132 h142, Bx b139 [(.int .i64 0), (.slice none 0 0), (.slice none 0 0), (.slice none 0 0)], Bx b9 [(.int .i64 0), (.slice none 0 0), (.slice none 0 0), (.slice none 0 0)], Bx b6 [(.int .i64 g__0), (g__1h).v, (g__2h).v, (g__3h).v], Es (List (Int × Int × List Int × List Int)) g__1 g__1h, Es (List Int) g__2 g__2h, Es (List Int) g__3 g__3h, Es (List Int) to_ to_h])
        replace hX := hX.trans0 hx; clear hx
        refine hold hX ?_
        have e := eq136; clear eq136
        have ea135 := e; clear e
        refine callFx (spec_hgList_c g__3 g__3h to_ to_h a135 ea135) H ⟨Vw.sh 6 rfl, Vw.sh 7 rfl, trivial⟩ ?_; clear H ea135
        rintro _ _ w144 ⟨h145, rfl, rfl⟩ hx (H : Cx w0 fp0 S0 w144 [E (List Int) a135 h145, E (List Int) a132 h142, Bx b139 [(.int .i64 0), (.slice none 0 0), (.slice none 0 0), (.slice none 0 0)], Bx b9 [(.int .i64 0), (.slice none 0 0), (.slice none 0 0), (.slice none 0 0)], Bx b6 [(.int .i64 g__0), (g__1h).v, (g__2h).v, (g__3h).v], Es (List (Int × Int × List Int × List Int)) g__1 g__1h, Es (List Int) g__2 g__2h, Es (List Int) g__3 g__3h, Es (List Int) to_ to_h])
        replace hX := hX.trans0 hx; clear hx
        refine hold hX ?_
        refine anyH (fun _ => build_ (cs := #[(.int .i64 wires_), (.slice none 0 0), (h142).v, (h145).v]) gok rfl rfl rfl ⟨rfl, rfl⟩) ?_
        replace H := H.sel [2, 0, 1, 3, 4, 5, 6, 7, 8] rfl
        refine stA gok [(.int .i64 wires_), (.slice none 0 0), (h142).v, (h145).v] rfl H rfl rfl rfl ?_; clear H; intro w147 H
        replace H : Cx w0 fp0 S0 w147 [Bx b139 [(.int .i64 wires_), (.slice none 0 0), (h142).v, (h145).v], E (List Int) a135 h145, E (List Int) a132 h142, Bx b9 [(.int .i64 0), (.slice none 0 0), (.slice none 0 0), (.slice none 0 0)], Bx b6 [(.int .i64 g__0), (g__1h).v, (g__2h).v, (g__3h).v], Es (List (Int × Int × List Int × List Int)) g__1 g__1h, Es (List Int) g__2 g__2h, Es (List Int) g__3 g__3h, Es (List Int) to_ to_h] := H
        refine hold trivial ?_
        exact ⟨((wires_, a132, a135), (h142, h145, b139)), ⟨rfl, rfl, rfl, rfl, trivial⟩, Option.some.inj hF137, H.sel [8, 4, 5, 6, 7, 3, 0, 2, 1] rfl⟩
      · skip
        exact trivial
  · clear hF82 H
    rintro T149 ⟨⟨s75_0, s75_1, s75_2⟩, ⟨g76_0, g76_1, g76_2⟩⟩ w148 ⟨hr, (H : Cx w0 fp0 S0 w148 [Es (List Int) to_ to_h, Bx b6 [(.int .i64 g__0), (g__1h).v, (g__2h).v, (g__3h).v], Es (List (Int × Int × List Int × List Int)) g__1 g__1h, Es (List Int) g__2 g__2h, Es (List Int) g__3 g__3h, Bx b9 [(.int .i64 0), (.slice none 0 0), (.slice none 0 0), (.slice none 0 0)], Bx g76_2 [(.int .i64 s75_0), (.slice none 0 0), (g76_0).v, (g76_1).v], E (List Int) s75_1 g76_0, E (List Int) s75_2 g76_1])⟩
    subst hr
    refine sq ?_
    refine fld gok rfl rfl rfl rfl ?_
    refine load1 (H.bx 1 rfl (j := 1) rfl) ?_
    refine lenE (H.rs (α := List (Int × Int × List Int × List Int)) 2 rfl).len ?_
    have hmx246 := (H.rs (α := List (Int × Int × List Int × List Int)) 2 rfl).max
    obtain ⟨r247, e, hF248⟩ := bindS hF81; clear hF81
    replace H := H.nil (α := Int × Int × List Int × List Int)
    refine loopS _ g__1.length (fun (k150 : Nat) (s243 : List (Int × Int × List Int × List Int)) (g244 : Hd) => [(1, (to_h).v), (6, (.pointer (some ⟨b9, 0, none⟩))), (7, (.pointer (some ⟨g76_2, 0, none⟩))), (21, (g__1h).v), (22, (.int .i64 ((g__1.length : Nat) : Int))), (23, (.int .i64 ((k150 : Nat) : Int)))]) (fun _ (s243 : List (Int × Int × List Int × List Int)) (g244 : Hd) w' => Cx w0 fp0 S0 w' [Es (List Int) to_ to_h, Bx b9 [(.int .i64 0), (.slice none 0 0), (.slice none 0 0), (.slice none 0 0)], Bx g76_2 [(.int .i64 s75_0), (g244).v, (g76_0).v, (g76_1).v], E (List (Int × Int × List Int × List Int)) s243 g244, E (List Int) s75_1 g76_0, E (List Int) s75_2 g76_1, Es (List (Int × Int × List Int × List Int)) g__1 g__1h]) [] nilH e ⟨rfl, rfl, rfl, rfl, rfl, rfl, trivial⟩ (H.sel [1, 6, 7, 0, 8, 9, 3] rfl) ?_ ?_
    · clear H e
      rintro T251 k150 s243 g244 w250 o252 hk (H : Cx w0 fp0 S0 w250 [Es (List Int) to_ to_h, Bx b9 [(.int .i64 0), (.slice none 0 0), (.slice none 0 0), (.slice none 0 0)], Bx g76_2 [(.int .i64 s75_0), (g244).v, (g76_0).v, (g76_1).v], E (List (Int × Int × List Int × List Int)) s243 g244, E (List Int) s75_1 g76_0, E (List Int) s75_2 g76_1, Es (List (Int × Int × List Int × List Int)) g__1 g__1h]) hF253
      refine boolE (z := true) (ltLen hk) ?_
      refine sq ?_
      refine sq ?_
      obtain ⟨a260, e, hF261⟩ := bindS hF253; clear hF253
      have HH := H; clear H; obtain ⟨p258, m259, g262, c254, c255, c256, c257, H⟩ := HH.el (α := Int × Int × List Int × List Int) 6 rfl e; clear HH
      clear e
      obtain ⟨a260_0, a260_1, a260_2, a260_3⟩ := a260
      obtain ⟨_, _, h264, h265⟩ := g262
      replace H := H.part (β := List Int) a260_2 (h264 : Hd) 0 rfl (fun S h => (And.left (And.right (And.right h))))
      replace H := H.part (β := List Int) a260_3 (h265 : Hd) 1 rfl (fun S h => (And.right (And.right (And.right h))))
      replace H := H.sel [0, 1, 3, 4, 5, 6, 7, 8, 9] rfl
      refine idxE c254 c255 c256 ?_; clear c254 c255 c256
      refine loadN [(.int .i64 a260_0), (.int .i64 a260_1), (h264).v, (h265).v] rfl c257 ?_; clear c257
      refine alloc_ gok rfl H ?_; clear H; intro b269 w268 hx H
      clear hx
      replace H : Cx w0 fp0 S0 w268 [Bx b269 [(.int .i64 0), (.int .i64 0), (.slice none 0 0), (.slice none 0 0)], Es (List Int) a260_3 h265, Es (List Int) a260_2 h264, Es (List Int) to_ to_h, Bx b9 [(.int .i64 0), (.slice none 0 0), (.slice none 0 0), (.slice none 0 0)], Bx g76_2 [(.int .i64 s75_0), (g244).v, (g76_0).v, (g76_1).v], E (List (Int × Int × List Int × List Int)) s243 g244, E (List Int) s75_1 g76_0, E (List Int) s75_2 g76_1, Es (List (Int × Int × List Int × List Int)) g__1 g__1h] := H
      refine stA gok [(.int .i64 a260_0), (.int .i64 a260_1), (h264).v, (h265).v] rfl H rfl rfl rfl ?_; clear H; intro w271 H
      replace H : Cx w0 fp0 S0 w271 [Bx b269 [(.int .i64 a260_0), (.int .i64 a260_1), (h264).v, (h265).v], Es (List Int) a260_3 h265, Es (List Int) a260_2 h264, Es (List Int) to_ to_h, Bx b9 [(.int .i64 0), (.slice none 0 0), (.slice none 0 0), (.slice none 0 0)], Bx g76_2 [(.int .i64 s75_0), (g244).v, (g76_0).v, (g76_1).v], E (List (Int × Int × List Int × List Int)) s243 g244, E (List Int) s75_1 g76_0, E (List Int) s75_2 g76_1, Es (List (Int × Int × List Int × List Int)) g__1 g__1h] := H
      refine heldX H [16, 18, 17] (.fst 0 (.fst 2 (.fst 4 (.fst 6 (.fst 8 (.fst 10 (.fst 12 (.fst 1 (.fst 3 (.fst 5 (.fst 7 (.fst 11 (.act 9 (.act 13 (.fst 14 (.act 15 (.act 16 (.act 17 (.act 18 .done))))))))))))))))))) mixed [] trivial (by kernel_rfl) ?_
      clear H; intro w272 H
      have hX : Ext w272 w272 := Upd.refl _ _
      have H0 := H
      refine anyH (fun _ => fld gok rfl rfl rfl rfl ⟨rfl, rfl⟩) ?_
      refine anyH (fun _ => fld gok rfl rfl rfl rfl ⟨rfl, rfl⟩) ?_
      refine anyH (fun _ => fld gok rfl rfl rfl rfl ⟨rfl, rfl⟩) ?_
      refine anyH (fun _ => fld gok rfl rfl rfl rfl ⟨rfl, rfl⟩) ?_
      refine anyH (fun _ => fld gok rfl rfl rfl rfl ⟨rfl, rfl⟩) ?_
      refine load1X (H.bx 5 rfl (j := 1) rfl) ?_
      refine load1X (H.bx 0 rfl (j := 0) rfl) ?_
      refine load1X (H.bx 0 rfl (j := 1) rfl) ?_
      refine load1X (H.bx 0 rfl (j := 2) rfl) ?_
      refine load1X (H.bx 0 rfl (j := 3) rfl) ?_
      obtain ⟨y273, e, hF274⟩ := bindS hF261; clear hF261
      have ey273 := e; clear e
      refine callFx (spec_hgList_c a260_2 h264 to_ to_h y273 ey273) H ⟨Vw.sh 2 rfl, Vw.sh 3 rfl, trivial⟩ ?_; clear H ey273
      rintro _ _ w275 ⟨h276, rfl, rfl⟩ hx (H : Cx w0 fp0 S0 w275 [E (List Int) y273 h276, Bx b269 [(.int .i64 a260_0), (.int .i64 a260_1), (h264).v, (h265).v], Es (List Int) a260_3 h265, Es (List Int) a260_2 h264, Es (List Int) to_ to_h, Bx b9 [(.int .i64 0), (.slice none 0 0), (.slice none 0 0), (.slice none 0 0)], Bx g76_2 [(.int .i64 s75_0), (g244).v, (g76_0).v, (g76_1).v], E (List (Int × Int × List Int × List Int)) s243 g244, E (List Int) s75_1 g76_0, E (List Int) s75_2 g76_1, Es (List (Int × Int × List Int × List Int)) g__1 g__1h])
      replace hX := hX.trans0 hx; clear hx
      refine hold hX ?_
      obtain ⟨y278, e, hF279⟩ := bindS hF274; clear hF274
      have ey278 := e; clear e
      refine callFx (spec_hgList_c a260_3 h265 to_ to_h y278 ey278) H ⟨Vw.sh 2 rfl, Vw.sh 4 rfl, trivial⟩ ?_; clear H ey278
      rintro _ _ w280 ⟨h281, rfl, rfl⟩ hx (H : Cx w0 fp0 S0 w280 [E (List Int) y278 h281, E (List Int) y273 h276, Bx b269 [(.int .i64 a260_0), (.int .i64 a260_1), (h264).v, (h265).v], Es (List Int) a260_3 h265, Es (List Int) a260_2 h264, Es (List Int) to_ to_h, Bx b9 [(.int .i64 0), (.slice none 0 0), (.slice none 0 0), (.slice none 0 0)], Bx g76_2 [(.int .i64 s75_0), (g244).v, (g76_0).v, (g76_1).v], E (List (Int × Int × List Int × List Int)) s243 g244, E (List Int) s75_1 g76_0, E (List Int) s75_2 g76_1, Es (List (Int × Int × List Int × List Int)) g__1 g__1h])
      replace hX := hX.trans0 hx; clear hx
      refine hold hX ?_
      refine anyH (fun _ => build_ (cs := #[(.int .i64 a260_0), (.int .i64 a260_1), (h276).v, (h281).v]) gok rfl rfl rfl ⟨rfl, rfl⟩) ?_
      replace H := H.sel [1, 0, 2, 3, 4, 5, 6, 7, 8, 9, 10, 11] rfl
      replace H := H.join (α := List Int) (β := List Int)
      replace H := H.sc (α := Int) a260_1
      replace H := H.join (α := Int) (β := List Int × List Int)
      replace H := H.sc (α := Int) a260_0
      replace H := H.join (α := Int) (β := Int × List Int × List Int)
      refine lit1 (α := Int × Int × List Int × List Int) (g := ((), (), h276, h281)) gok rfl rfl rfl rfl rfl H ?_; clear H; intro h284 w283 hx H
      replace hX := hX.trans0 hx; clear hx
      refine hold hX ?_
      obtain ⟨a291, e, hF292⟩ := bindS hF279; clear hF279
      replace H := H.sel [7, 0, 1, 2, 3, 4, 5, 6, 8, 9, 10] rfl
      refine append_ (α := Int × Int × List Int × List Int) gok rfl rfl rfl rfl H e ?_; clear e H; intro h294 w293 H
      refine hold trivial ?_
      refine fld gok rfl rfl rfl rfl ?_
      refine hold trivial ?_
      replace H := H.sel [6, 0, 1, 2, 3, 4, 5, 7, 8, 9] rfl
      refine stB (j := 1) H rfl rfl ?_; clear H; intro w296 H
      replace H : Cx w0 fp0 S0 w296 [Bx g76_2 [(.int .i64 s75_0), (h294).v, (g76_0).v, (g76_1).v], E (List (Int × Int × List Int × List Int)) a291 h294, Bx b269 [(.int .i64 a260_0), (.int .i64 a260_1), (h264).v, (h265).v], Es (List Int) a260_3 h265, Es (List Int) a260_2 h264, Es (List Int) to_ to_h, Bx b9 [(.int .i64 0), (.slice none 0 0), (.slice none 0 0), (.slice none 0 0)], E (List Int) s75_1 g76_0, E (List Int) s75_2 g76_1, Es (List (Int × Int × List Int × List Int)) g__1 g__1h] := H
      refine hold trivial ?_
      refine arK hk hmx246 ?_
      have hs := Option.some.inj hF292; subst hs; clear hF292
      exact ⟨h294, ⟨rfl, rfl, rfl, rfl, rfl, rfl, trivial⟩, H.sel [5, 6, 0, 1, 7, 8, 9] rfl⟩
    · clear H e
      rintro T298 g300 w297 (H : Cx w0 fp0 S0 w297 [Es (List Int) to_ to_h, Bx b9 [(.int .i64 0), (.slice none 0 0), (.slice none 0 0), (.slice none 0 0)], Bx g76_2 [(.int .i64 s75_0), (g300).v, (g76_0).v, (g76_1).v], E (List (Int × Int × List Int × List Int)) r247 g300, E (List Int) s75_1 g76_0, E (List Int) s75_2 g76_1, Es (List (Int × Int × List Int × List Int)) g__1 g__1h])
      refine boolE (z := false) geLen ?_
      refine sq ?_
      refine loadN [(.int .i64 s75_0), (g300).v, (g76_0).v, (g76_1).v] rfl (fun j u hj => H.bx 2 rfl hj) ?_
      replace H := H.sel [1, 0, 2, 3, 4, 5, 6] rfl
      refine stA gok [(.int .i64 s75_0), (g300).v, (g76_0).v, (g76_1).v] rfl H rfl rfl rfl ?_; clear H; intro w302 H
      replace H : Cx w0 fp0 S0 w302 [Bx b9 [(.int .i64 s75_0), (g300).v, (g76_0).v, (g76_1).v], Es (List Int) to_ to_h, Bx g76_2 [(.int .i64 s75_0), (g300).v, (g76_0).v, (g76_1).v], E (List (Int × Int × List Int × List Int)) r247 g300, E (List Int) s75_1 g76_0, E (List Int) s75_2 g76_1, Es (List (Int × Int × List Int × List Int)) g__1 g__1h] := H
      refine loadN [(.int .i64 s75_0), (g300).v, (g76_0).v, (g76_1).v] rfl (fun j u hj => H.bx 0 rfl hj) ?_
      cases hF248
      exact ⟨_, _, rfl, ⟨g300, g76_0, g76_1, rfl, rfl⟩, (H.sel [3, 4, 5] rfl).close ⟨cloE, cloE, cloE, trivial⟩⟩

theorem spec_hgOwn_c (g__0 : Int) (g__1 : List (Int × Int × List Int × List Int)) (g__1h : Hd) (g__2 : List Int) (g__2h : Hd) (g__3 : List Int) (g__3h : Hd) (y_0 : Int) (y_1 : List (Int × Int × List Int × List Int)) (y_2 : List Int) (y_3 : List Int) (hF : F_spec_hgOwn (g__0, g__1, g__2, g__3) = some (y_0, y_1, y_2, y_3)) :
    ConF Try.prog 125 #[(.agg #[(.int .i64 g__0), (g__1h).v, (g__2h).v, (g__3h).v])] [Es (List (Int × Int × List Int × List Int)) g__1 g__1h, Es (List Int) g__2 g__2h, Es (List Int) g__3 g__3h] [] (fun v Γ' => ∃ z0 z1 z2 : Hd, v = (.agg #[(.int .i64 y_0), (z0).v, (z1).v, (z2).v]) ∧ Γ' = [E (List (Int × Int × List Int × List Int)) y_1 z0, E (List Int) y_2 z1, E (List Int) y_3 z2]) := by
  intro w0 S0 fp0 hI hS
  have H : Cx w0 fp0 S0 w0 [Es (List (Int × Int × List Int × List Int)) g__1 g__1h, Es (List Int) g__2 g__2h, Es (List Int) g__3 g__3h] := Cx.start hI hS
  clear hI hS
  refine enterC (args := [_]) gok Try.func125 rfl _ rfl rfl rfl ?_
  refine box_ H ?_; clear H; intro b5 w4 hx H
  clear hx
  replace H : Cx w0 fp0 S0 w4 [Bx b5 [(.int .i64 g__0), (g__1h).v, (g__2h).v, (g__3h).v], Es (List (Int × Int × List Int × List Int)) g__1 g__1h, Es (List Int) g__2 g__2h, Es (List Int) g__3 g__3h] := H
  refine alloc_ gok rfl H ?_; clear H; intro b8 w7 hx H
  clear hx
  replace H : Cx w0 fp0 S0 w7 [Bx b8 [(.int .i64 0), (.slice none 0 0), (.slice none 0 0), (.slice none 0 0)], Bx b5 [(.int .i64 g__0), (g__1h).v, (g__2h).v, (g__3h).v], Es (List (Int × Int × List Int × List Int)) g__1 g__1h, Es (List Int) g__2 g__2h, Es (List Int) g__3 g__3h] := H
  refine fld gok rfl rfl rfl rfl ?_
  refine load1 (H.bx 1 rfl (j := 0) rfl) ?_
  obtain ⟨a10, e, hF11⟩ := bindS hF; clear hF
  refine make_ (α := Int) gok rfl rfl rfl rfl (makeCO_of e) H ?_; clear e H; intro h13 w12 hx H
  clear hx
  refine sq ?_
  refine lenE (H.ro (α := List Int) 0 rfl).len ?_
  have hmx40 := (H.ro (α := List Int) 0 rfl).max
  obtain ⟨r41, e, hF42⟩ := bindS hF11; clear hF11
  refine loopS _ a10.length (fun (k15 : Nat) (s38 : List Int) (_ : Unit) => [(1, (.pointer (some ⟨b5, 0, none⟩))), (2, (.pointer (some ⟨b8, 0, none⟩))), (3, (h13).v), (9, (.int .i64 ((a10.length : Nat) : Int))), (10, (.int .i64 ((k15 : Nat) : Int)))]) (fun _ (s38 : List Int) (_ : Unit) w' => Cx w0 fp0 S0 w' [Bx b5 [(.int .i64 g__0), (g__1h).v, (g__2h).v, (g__3h).v], Es (List (Int × Int × List Int × List Int)) g__1 g__1h, Es (List Int) g__2 g__2h, Es (List Int) g__3 g__3h, Bx b8 [(.int .i64 0), (.slice none 0 0), (.slice none 0 0), (.slice none 0 0)], E (List Int) s38 h13]) a10 () e ⟨rfl, rfl, rfl, rfl, rfl, trivial⟩ (H.sel [2, 3, 4, 5, 1, 0] rfl) ?_ ?_
  · clear H e
    rintro T44 k15 s38 _ w43 o45 hk (H : Cx w0 fp0 S0 w43 [Bx b5 [(.int .i64 g__0), (g__1h).v, (g__2h).v, (g__3h).v], Es (List (Int × Int × List Int × List Int)) g__1 g__1h, Es (List Int) g__2 g__2h, Es (List Int) g__3 g__3h, Bx b8 [(.int .i64 0), (.slice none 0 0), (.slice none 0 0), (.slice none 0 0)], E (List Int) s38 h13]) hF46
    refine boolE (z := true) (ltLen hk) ?_
    refine sq ?_
    refine sq ?_
    obtain ⟨a53, e, hF54⟩ := bindS hF46; clear hF46
    have ea53 := e; clear e
    obtain ⟨p51, m52, c47, c48, c49⟩ := (H.ro (α := List Int) 5 rfl).setp ea53
    refine idxE c47 c48 c49 ?_
    replace H := H.sel [5, 0, 1, 2, 3, 4] rfl
    refine setS (α := Int) H c47 c48 ea53 ?_; clear H c47 c48 c49 ea53; intro w55 H
    refine arK hk hmx40 ?_
    have hs := Option.some.inj hF54; subst hs; clear hF54
    exact ⟨(), ⟨rfl, rfl, rfl, rfl, rfl, trivial⟩, H.sel [1, 2, 3, 4, 5, 0] rfl⟩
  · clear H e
    rintro T57 _ w56 (H : Cx w0 fp0 S0 w56 [Bx b5 [(.int .i64 g__0), (g__1h).v, (g__2h).v, (g__3h).v], Es (List (Int × Int × List Int × List Int)) g__1 g__1h, Es (List Int) g__2 g__2h, Es (List Int) g__3 g__3h, Bx b8 [(.int .i64 0), (.slice none 0 0), (.slice none 0 0), (.slice none 0 0)], E (List Int) r41 h13])
    refine boolE (z := false) geLen ?_
    refine sq ?_
    refine loadN [(.int .i64 g__0), (g__1h).v, (g__2h).v, (g__3h).v] rfl (fun j u hj => H.bx 0 rfl hj) ?_
    refine fld gok rfl rfl rfl rfl ?_
    refine load1 (H.bx 0 rfl (j := 0) rfl) ?_
    obtain ⟨y60, e, hF61⟩ := bindS hF42; clear hF42
    obtain ⟨y60_0, y60_1, y60_2, y60_3⟩ := y60
    have ey60 := e; clear e
    refine callF (spec_hgMap_c g__0 g__1 g__1h g__2 g__2h g__3 g__3h r41 h13 g__0 y60_0 y60_1 y60_2 y60_3 ey60) (Γi := []) H ⟨Vw.sh 1 rfl, Vw.sh 2 rfl, Vw.sh 3 rfl, Vw.own 5 rfl, trivial⟩ ?_; clear H ey60
    rintro _ _ w62 ⟨h63, h65, h67, rfl, rfl⟩ (H : Cx w0 fp0 S0 w62 [E (List (Int × Int × List Int × List Int)) y60_1 h63, E (List Int) y60_2 h65, E (List Int) y60_3 h67, Bx b5 [(.int .i64 g__0), (g__1h).v, (g__2h).v, (g__3h).v], Es (List (Int × Int × List Int × List Int)) g__1 g__1h, Es (List Int) g__2 g__2h, Es (List Int) g__3 g__3h, Bx b8 [(.int .i64 0), (.slice none 0 0), (.slice none 0 0), (.slice none 0 0)], E (List Int) r41 h13])
    replace H := H.sel [7, 0, 1, 2, 3, 4, 5, 6, 8] rfl
    refine stA gok [(.int .i64 y60_0), (h63).v, (h65).v, (h67).v] rfl H rfl rfl rfl ?_; clear H; intro w69 H
    replace H : Cx w0 fp0 S0 w69 [Bx b8 [(.int .i64 y60_0), (h63).v, (h65).v, (h67).v], E (List (Int × Int × List Int × List Int)) y60_1 h63, E (List Int) y60_2 h65, E (List Int) y60_3 h67, Bx b5 [(.int .i64 g__0), (g__1h).v, (g__2h).v, (g__3h).v], Es (List (Int × Int × List Int × List Int)) g__1 g__1h, Es (List Int) g__2 g__2h, Es (List Int) g__3 g__3h, E (List Int) r41 h13] := H
    refine loadN [(.int .i64 y60_0), (h63).v, (h65).v, (h67).v] rfl (fun j u hj => H.bx 0 rfl hj) ?_
    cases hF61
    exact ⟨_, _, rfl, ⟨h63, h65, h67, rfl, rfl⟩, (H.sel [1, 2, 3] rfl).close ⟨cloE, cloE, cloE, trivial⟩⟩

theorem spec_hgBeside_c (a__0 : Int) (a__1 : List (Int × Int × List Int × List Int)) (a__1h : Hd) (a__2 : List Int) (a__2h : Hd) (a__3 : List Int) (a__3h : Hd) (b__0 : Int) (b__1 : List (Int × Int × List Int × List Int)) (b__1h : Hd) (b__2 : List Int) (b__2h : Hd) (b__3 : List Int) (b__3h : Hd) (y_0 : Int) (y_1 : List (Int × Int × List Int × List Int)) (y_2 : List Int) (y_3 : List Int) (hF : F_spec_hgBeside (a__0, a__1, a__2, a__3) (b__0, b__1, b__2, b__3) = some (y_0, y_1, y_2, y_3)) :
    ConF Try.prog 92 #[(.agg #[(.int .i64 a__0), (a__1h).v, (a__2h).v, (a__3h).v]), (.agg #[(.int .i64 b__0), (b__1h).v, (b__2h).v, (b__3h).v])] [Es (List (Int × Int × List Int × List Int)) a__1 a__1h, Es (List Int) a__2 a__2h, Es (List Int) a__3 a__3h, Es (List (Int × Int × List Int × List Int)) b__1 b__1h, Es (List Int) b__2 b__2h, Es (List Int) b__3 b__3h] [] (fun v Γ' => ∃ z0 z1 z2 : Hd, v = (.agg #[(.int .i64 y_0), (z0).v, (z1).v, (z2).v]) ∧ Γ' = [E (List (Int × Int × List Int × List Int)) y_1 z0, E (List Int) y_2 z1, E (List Int) y_3 z2]) := by
  intro w0 S0 fp0 hI hS
  have H : Cx w0 fp0 S0 w0 [Es (List (Int × Int × List Int × List Int)) a__1 a__1h, Es (List Int) a__2 a__2h, Es (List Int) a__3 a__3h, Es (List (Int × Int × List Int × List Int)) b__1 b__1h, Es (List Int) b__2 b__2h, Es (List Int) b__3 b__3h] := Cx.start hI hS
  clear hI hS
  refine enterC (args := [_, _]) gok Try.func92 rfl _ rfl rfl rfl ?_
  refine box_ H ?_; clear H; intro b8 w7 hx H
  clear hx
  replace H : Cx w0 fp0 S0 w7 [Bx b8 [(.int .i64 a__0), (a__1h).v, (a__2h).v, (a__3h).v], Es (List (Int × Int × List Int × List Int)) a__1 a__1h, Es (List Int) a__2 a__2h, Es (List Int) a__3 a__3h, Es (List (Int × Int × List Int × List Int)) b__1 b__1h, Es (List Int) b__2 b__2h, Es (List Int) b__3 b__3h] := H
  refine box_ H ?_; clear H; intro b11 w10 hx H
  clear hx
  replace H : Cx w0 fp0 S0 w10 [Bx b11 [(.int .i64 b__0), (b__1h).v, (b__2h).v, (b__3h).v], Bx b8 [(.int .i64 a__0), (a__1h).v, (a__2h).v, (a__3h).v], Es (List (Int × Int × List Int × List Int)) a__1 a__1h, Es (List Int) a__2 a__2h, Es (List Int) a__3 a__3h, Es (List (Int × Int × List Int × List Int)) b__1 b__1h, Es (List Int) b__2 b__2h, Es (List Int) b__3 b__3h] := H
  refine alloc_ gok rfl H ?_; clear H; intro b14 w13 hx H
  clear hx
  replace H : Cx w0 fp0 S0 w13 [Bx b14 [(.int .i64 0), (.slice none 0 0), (.slice none 0 0), (.slice none 0 0)], Bx b11 [(.int .i64 b__0), (b__1h).v, (b__2h).v, (b__3h).v], Bx b8 [(.int .i64 a__0), (a__1h).v, (a__2h).v, (a__3h).v], Es (List (Int × Int × List Int × List Int)) a__1 a__1h, Es (List Int) a__2 a__2h, Es (List Int) a__3 a__3h, Es (List (Int × Int × List Int × List Int)) b__1 b__1h, Es (List Int) b__2 b__2h, Es (List Int) b__3 b__3h] := H
  refine fld gok rfl rfl rfl rfl ?_
  refine load1 (H.bx 1 rfl (j := 0) rfl) ?_
  obtain ⟨a16, e, hF17⟩ := bindS hF; clear hF
  refine make_ (α := Int) gok rfl rfl rfl rfl (makeCO_of e) H ?_; clear e H; intro h19 w18 hx H
  clear hx
  refine sq ?_
  refine lenE (H.ro (α := List Int) 0 rfl).len ?_
  have hmx50 := (H.ro (α := List Int) 0 rfl).max
  obtain ⟨r51, e, hF52⟩ := bindS hF17; clear hF17
  refine loopS _ a16.length (fun (k21 : Nat) (s48 : List Int) (_ : Unit) => [(2, (.pointer (some ⟨b8, 0, none⟩))), (3, (.pointer (some ⟨b11, 0, none⟩))), (4, (.pointer (some ⟨b14, 0, none⟩))), (5, (h19).v), (13, (.int .i64 ((a16.length : Nat) : Int))), (14, (.int .i64 ((k21 : Nat) : Int)))]) (fun _ (s48 : List Int) (_ : Unit) w' => Cx w0 fp0 S0 w' [Bx b8 [(.int .i64 a__0), (a__1h).v, (a__2h).v, (a__3h).v], Es (List (Int × Int × List Int × List Int)) a__1 a__1h, Es (List Int) a__2 a__2h, Es (List Int) a__3 a__3h, Bx b11 [(.int .i64 b__0), (b__1h).v, (b__2h).v, (b__3h).v], Es (List (Int × Int × List Int × List Int)) b__1 b__1h, Es (List Int) b__2 b__2h, Es (List Int) b__3 b__3h, Bx b14 [(.int .i64 0), (.slice none 0 0), (.slice none 0 0), (.slice none 0 0)], E (List Int) s48 h19]) a16 () e ⟨rfl, rfl, rfl, rfl, rfl, rfl, trivial⟩ (H.sel [3, 4, 5, 6, 2, 7, 8, 9, 1, 0] rfl) ?_ ?_
  · clear H e
    rintro T54 k21 s48 _ w53 o55 hk (H : Cx w0 fp0 S0 w53 [Bx b8 [(.int .i64 a__0), (a__1h).v, (a__2h).v, (a__3h).v], Es (List (Int × Int × List Int × List Int)) a__1 a__1h, Es (List Int) a__2 a__2h, Es (List Int) a__3 a__3h, Bx b11 [(.int .i64 b__0), (b__1h).v, (b__2h).v, (b__3h).v], Es (List (Int × Int × List Int × List Int)) b__1 b__1h, Es (List Int) b__2 b__2h, Es (List Int) b__3 b__3h, Bx b14 [(.int .i64 0), (.slice none 0 0), (.slice none 0 0), (.slice none 0 0)], E (List Int) s48 h19]) hF56
    refine boolE (z := true) (ltLen hk) ?_
    refine sq ?_
    refine sq ?_
    refine fld gok rfl rfl rfl rfl ?_
    refine load1 (H.bx 0 rfl (j := 0) rfl) ?_
    obtain ⟨a57, e, hF58⟩ := bindS hF56; clear hF56
    refine arO e ?_; clear e
    obtain ⟨a65, e, hF66⟩ := bindS hF58; clear hF58
    have ea65 := e; clear e
    obtain ⟨p63, m64, c59, c60, c61⟩ := (H.ro (α := List Int) 9 rfl).setp ea65
    refine idxE c59 c60 c61 ?_
    replace H := H.sel [9, 0, 1, 2, 3, 4, 5, 6, 7, 8] rfl
    refine setS (α := Int) H c59 c60 ea65 ?_; clear H c59 c60 c61 ea65; intro w67 H
    refine arK hk hmx50 ?_
    have hs := Option.some.inj hF66; subst hs; clear hF66
    exact ⟨(), ⟨rfl, rfl, rfl, rfl, rfl, rfl, trivial⟩, H.sel [1, 2, 3, 4, 5, 6, 7, 8, 9, 0] rfl⟩
  · clear H e
    rintro T69 _ w68 (H : Cx w0 fp0 S0 w68 [Bx b8 [(.int .i64 a__0), (a__1h).v, (a__2h).v, (a__3h).v], Es (List (Int × Int × List Int × List Int)) a__1 a__1h, Es (List Int) a__2 a__2h, Es (List Int) a__3 a__3h, Bx b11 [(.int .i64 b__0), (b__1h).v, (b__2h).v, (b__3h).v], Es (List (Int × Int × List Int × List Int)) b__1 b__1h, Es (List Int) b__2 b__2h, Es (List Int) b__3 b__3h, Bx b14 [(.int .i64 0), (.slice none 0 0), (.slice none 0 0), (.slice none 0 0)], E (List Int) r51 h19])
    refine boolE (z := false) geLen ?_
    refine sq ?_
    refine loadN [(.int .i64 a__0), (a__1h).v, (a__2h).v, (a__3h).v] rfl (fun j u hj => H.bx 0 rfl hj) ?_
    obtain ⟨y72, e, hF73⟩ := bindS hF52; clear hF52
    obtain ⟨y72_0, y72_1, y72_2, y72_3⟩ := y72
    have ey72 := e; clear e
    refine callF (spec_hgOwn_c a__0 a__1 a__1h a__2 a__2h a__3 a__3h y72_0 y72_1 y72_2 y72_3 ey72) (Γi := []) H ⟨Vw.sh 1 rfl, Vw.sh 2 rfl, Vw.sh 3 rfl, trivial⟩ ?_; clear H ey72
    rintro _ _ w74 ⟨h75, h77, h79, rfl, rfl⟩ (H : Cx w0 fp0 S0 w74 [E (List (Int × Int × List Int × List Int)) y72_1 h75, E (List Int) y72_2 h77, E (List Int) y72_3 h79, Bx b8 [(.int .i64 a__0), (a__1h).v, (a__2h).v, (a__3h).v], Es (List (Int × Int × List Int × List Int)) a__1 a__1h, Es (List Int) a__2 a__2h, Es (List Int) a__3 a__3h, Bx b11 [(.int .i64 b__0), (b__1h).v, (b__2h).v, (b__3h).v], Es (List (Int × Int × List Int × List Int)) b__1 b__1h, Es (List Int) b__2 b__2h, Es (List Int) b__3 b__3h, Bx b14 [(.int .i64 0), (.slice none 0 0), (.slice none 0 0), (.slice none 0 0)], E (List Int) r51 h19])
    refine alloc_ gok rfl H ?_; clear H; intro b82 w81 hx H
    clear hx
    replace H : Cx w0 fp0 S0 w81 [Bx b82 [(.int .i64 0), (.slice none 0 0), (.slice none 0 0), (.slice none 0 0)], E (List (Int × Int × List Int × List Int)) y72_1 h75, E (List Int) y72_2 h77, E (List Int) y72_3 h79, Bx b8 [(.int .i64 a__0), (a__1h).v, (a__2h).v, (a__3h).v], Es (List (Int × Int × List Int × List Int)) a__1 a__1h, Es (List Int) a__2 a__2h, Es (List Int) a__3 a__3h, Bx b11 [(.int .i64 b__0), (b__1h).v, (b__2h).v, (b__3h).v], Es (List (Int × Int × List Int × List Int)) b__1 b__1h, Es (List Int) b__2 b__2h, Es (List Int) b__3 b__3h, Bx b14 [(.int .i64 0), (.slice none 0 0), (.slice none 0 0), (.slice none 0 0)], E (List Int) r51 h19] := H
    refine stA gok [(.int .i64 y72_0), (h75).v, (h77).v, (h79).v] rfl H rfl rfl rfl ?_; clear H; intro w84 H
    replace H : Cx w0 fp0 S0 w84 [Bx b82 [(.int .i64 y72_0), (h75).v, (h77).v, (h79).v], E (List (Int × Int × List Int × List Int)) y72_1 h75, E (List Int) y72_2 h77, E (List Int) y72_3 h79, Bx b8 [(.int .i64 a__0), (a__1h).v, (a__2h).v, (a__3h).v], Es (List (Int × Int × List Int × List Int)) a__1 a__1h, Es (List Int) a__2 a__2h, Es (List Int) a__3 a__3h, Bx b11 [(.int .i64 b__0), (b__1h).v, (b__2h).v, (b__3h).v], Es (List (Int × Int × List Int × List Int)) b__1 b__1h, Es (List Int) b__2 b__2h, Es (List Int) b__3 b__3h, Bx b14 [(.int .i64 0), (.slice none 0 0), (.slice none 0 0), (.slice none 0 0)], E (List Int) r51 h19] := H
    refine loadN [(.int .i64 b__0), (b__1h).v, (b__2h).v, (b__3h).v] rfl (fun j u hj => H.bx 8 rfl hj) ?_
    refine fld gok rfl rfl rfl rfl ?_
    refine load1 (H.bx 8 rfl (j := 0) rfl) ?_
    obtain ⟨y85, e, hF86⟩ := bindS hF73; clear hF73
    obtain ⟨y85_0, y85_1, y85_2, y85_3⟩ := y85
    have ey85 := e; clear e
    refine callF (spec_hgMap_c b__0 b__1 b__1h b__2 b__2h b__3 b__3h r51 h19 b__0 y85_0 y85_1 y85_2 y85_3 ey85) (Γi := []) H ⟨Vw.sh 9 rfl, Vw.sh 10 rfl, Vw.sh 11 rfl, Vw.own 13 rfl, trivial⟩ ?_; clear H ey85
    rintro _ _ w87 ⟨h88, h90, h92, rfl, rfl⟩ (H : Cx w0 fp0 S0 w87 [E (List (Int × Int × List Int × List Int)) y85_1 h88, E (List Int) y85_2 h90, E (List Int) y85_3 h92, Bx b82 [(.int .i64 y72_0), (h75).v, (h77).v, (h79).v], E (List (Int × Int × List Int × List Int)) y72_1 h75, E (List Int) y72_2 h77, E (List Int) y72_3 h79, Bx b8 [(.int .i64 a__0), (a__1h).v, (a__2h).v, (a__3h).v], Es (List (Int × Int × List Int × List Int)) a__1 a__1h, Es (List Int) a__2 a__2h, Es (List Int) a__3 a__3h, Bx b11 [(.int .i64 b__0), (b__1h).v, (b__2h).v, (b__3h).v], Es (List (Int × Int × List Int × List Int)) b__1 b__1h, Es (List Int) b__2 b__2h, Es (List Int) b__3 b__3h, Bx b14 [(.int .i64 0), (.slice none 0 0), (.slice none 0 0), (.slice none 0 0)], E (List Int) r51 h19])
    refine alloc_ gok rfl H ?_; clear H; intro b95 w94 hx H
    clear hx
    replace H : Cx w0 fp0 S0 w94 [Bx b95 [(.int .i64 0), (.slice none 0 0), (.slice none 0 0), (.slice none 0 0)], E (List (Int × Int × List Int × List Int)) y85_1 h88, E (List Int) y85_2 h90, E (List Int) y85_3 h92, Bx b82 [(.int .i64 y72_0), (h75).v, (h77).v, (h79).v], E (List (Int × Int × List Int × List Int)) y72_1 h75, E (List Int) y72_2 h77, E (List Int) y72_3 h79, Bx b8 [(.int .i64 a__0), (a__1h).v, (a__2h).v, (a__3h).v], Es (List (Int × Int × List Int × List Int)) a__1 a__1h, Es (List Int) a__2 a__2h, Es (List Int) a__3 a__3h, Bx b11 [(.int .i64 b__0), (b__1h).v, (b__2h).v, (b__3h).v], Es (List (Int × Int × List Int × List Int)) b__1 b__1h, Es (List Int) b__2 b__2h, Es (List Int) b__3 b__3h, Bx b14 [(.int .i64 0), (.slice none 0 0), (.slice none 0 0), (.slice none 0 0)], E (List Int) r51 h19] := H
    refine stA gok [(.int .i64 y85_0), (h88).v, (h90).v, (h92).v] rfl H rfl rfl rfl ?_; clear H; intro w97 H
    replace H : Cx w0 fp0 S0 w97 [Bx b95 [(.int .i64 y85_0), (h88).v, (h90).v, (h92).v], E (List (Int × Int × List Int × List Int)) y85_1 h88, E (List Int) y85_2 h90, E (List Int) y85_3 h92, Bx b82 [(.int .i64 y72_0), (h75).v, (h77).v, (h79).v], E (List (Int × Int × List Int × List Int)) y72_1 h75, E (List Int) y72_2 h77, E (List Int) y72_3 h79, Bx b8 [(.int .i64 a__0), (a__1h).v, (a__2h).v, (a__3h).v], Es (List (Int × Int × List Int × List Int)) a__1 a__1h, Es (List Int) a__2 a__2h, Es (List Int) a__3 a__3h, Bx b11 [(.int .i64 b__0), (b__1h).v, (b__2h).v, (b__3h).v], Es (List (Int × Int × List Int × List Int)) b__1 b__1h, Es (List Int) b__2 b__2h, Es (List Int) b__3 b__3h, Bx b14 [(.int .i64 0), (.slice none 0 0), (.slice none 0 0), (.slice none 0 0)], E (List Int) r51 h19] := H
    refine fld gok rfl rfl rfl rfl ?_
    refine load1 (H.bx 4 rfl (j := 0) rfl) ?_
    refine fld gok rfl rfl rfl rfl ?_
    refine load1 (H.bx 12 rfl (j := 0) rfl) ?_
    obtain ⟨a98, e, hF99⟩ := bindS hF86; clear hF86
    refine arO e ?_; clear e
    refine fld gok rfl rfl rfl rfl ?_
    replace H := H.sel [4, 0, 1, 2, 3, 5, 6, 7, 8, 9, 10, 11, 12, 13, 14, 15, 16, 17] rfl
    refine stB (j := 0) H rfl rfl ?_; clear H; intro w100 H
    replace H : Cx w0 fp0 S0 w100 [Bx b82 [(.int .i64 a98), (h75).v, (h77).v, (h79).v], Bx b95 [(.int .i64 y85_0), (h88).v, (h90).v, (h92).v], E (List (Int × Int × List Int × List Int)) y85_1 h88, E (List Int) y85_2 h90, E (List Int) y85_3 h92, E (List (Int × Int × List Int × List Int)) y72_1 h75, E (List Int) y72_2 h77, E (List Int) y72_3 h79, Bx b8 [(.int .i64 a__0), (a__1h).v, (a__2h).v, (a__3h).v], Es (List (Int × Int × List Int × List Int)) a__1 a__1h, Es (List Int) a__2 a__2h, Es (List Int) a__3 a__3h, Bx b11 [(.int .i64 b__0), (b__1h).v, (b__2h).v, (b__3h).v], Es (List (Int × Int × List Int × List Int)) b__1 b__1h, Es (List Int) b__2 b__2h, Es (List Int) b__3 b__3h, Bx b14 [(.int .i64 0), (.slice none 0 0), (.slice none 0 0), (.slice none 0 0)], E (List Int) r51 h19] := H
    refine fld gok rfl rfl rfl rfl ?_
    refine load1 (H.bx 0 rfl (j := 2) rfl) ?_
    refine fld gok rfl rfl rfl rfl ?_
    refine load1 (H.bx 1 rfl (j := 2) rfl) ?_
    obtain ⟨a101, e, hF102⟩ := bindS hF99; clear hF99
    replace H := H.sel [6, 0, 1, 2, 3, 4, 5, 7, 8, 9, 10, 11, 12, 13, 14, 15, 16, 17] rfl
    refine appendS (α := Int) gok rfl rfl rfl rfl H (Vw.own 3 rfl) e ?_; clear e H; intro h104 w103 H
    refine fld gok rfl rfl rfl rfl ?_
    replace H := H.sel [1, 0, 2, 3, 4, 5, 6, 7, 8, 9, 10, 11, 12, 13, 14, 15, 16, 17] rfl
    refine stB (j := 2) H rfl rfl ?_; clear H; intro w106 H
    replace H : Cx w0 fp0 S0 w106 [Bx b82 [(.int .i64 a98), (h75).v, (h104).v, (h79).v], E (List Int) a101 h104, Bx b95 [(.int .i64 y85_0), (h88).v, (h90).v, (h92).v], E (List (Int × Int × List Int × List Int)) y85_1 h88, E (List Int) y85_2 h90, E (List Int) y85_3 h92, E (List (Int × Int × List Int × List Int)) y72_1 h75, E (List Int) y72_3 h79, Bx b8 [(.int .i64 a__0), (a__1h).v, (a__2h).v, (a__3h).v], Es (List (Int × Int × List Int × List Int)) a__1 a__1h, Es (List Int) a__2 a__2h, Es (List Int) a__3 a__3h, Bx b11 [(.int .i64 b__0), (b__1h).v, (b__2h).v, (b__3h).v], Es (List (Int × Int × List Int × List Int)) b__1 b__1h, Es (List Int) b__2 b__2h, Es (List Int) b__3 b__3h, Bx b14 [(.int .i64 0), (.slice none 0 0), (.slice none 0 0), (.slice none 0 0)], E (List Int) r51 h19] := H
    refine fld gok rfl rfl rfl rfl ?_
    refine load1 (H.bx 0 rfl (j := 3) rfl) ?_
    refine fld gok rfl rfl rfl rfl ?_
    refine load1 (H.bx 2 rfl (j := 3) rfl) ?_
    obtain ⟨a107, e, hF108⟩ := bindS hF102; clear hF102
    replace H := H.sel [7, 0, 1, 2, 3, 4, 5, 6, 8, 9, 10, 11, 12, 13, 14, 15, 16, 17] rfl
    refine appendS (α := Int) gok rfl rfl rfl rfl H (Vw.own 5 rfl) e ?_; clear e H; intro h110 w109 H
    refine fld gok rfl rfl rfl rfl ?_
    replace H := H.sel [1, 0, 2, 3, 4, 5, 6, 7, 8, 9, 10, 11, 12, 13, 14, 15, 16, 17] rfl
    refine stB (j := 3) H rfl rfl ?_; clear H; intro w112 H
    replace H : Cx w0 fp0 S0 w112 [Bx b82 [(.int .i64 a98), (h75).v, (h104).v, (h110).v], E (List Int) a107 h110, E (List Int) a101 h104, Bx b95 [(.int .i64 y85_0), (h88).v, (h90).v, (h92).v], E (List (Int × Int × List Int × List Int)) y85_1 h88, E (List Int) y85_2 h90, E (List Int) y85_3 h92, E (List (Int × Int × List Int × List Int)) y72_1 h75, Bx b8 [(.int .i64 a__0), (a__1h).v, (a__2h).v, (a__3h).v], Es (List (Int × Int × List Int × List Int)) a__1 a__1h, Es (List Int) a__2 a__2h, Es (List Int) a__3 a__3h, Bx b11 [(.int .i64 b__0), (b__1h).v, (b__2h).v, (b__3h).v], Es (List (Int × Int × List Int × List Int)) b__1 b__1h, Es (List Int) b__2 b__2h, Es (List Int) b__3 b__3h, Bx b14 [(.int .i64 0), (.slice none 0 0), (.slice none 0 0), (.slice none 0 0)], E (List Int) r51 h19] := H
    refine fld gok rfl rfl rfl rfl ?_
    refine load1 (H.bx 0 rfl (j := 1) rfl) ?_
    refine fld gok rfl rfl rfl rfl ?_
    refine load1 (H.bx 3 rfl (j := 1) rfl) ?_
    obtain ⟨a113, e, hF114⟩ := bindS hF108; clear hF108
    replace H := H.sel [7, 4, 0, 1, 2, 3, 5, 6, 8, 9, 10, 11, 12, 13, 14, 15, 16, 17] rfl
    refine append_ (α := Int × Int × List Int × List Int) gok rfl rfl rfl rfl H e ?_; clear e H; intro h116 w115 H
    refine fld gok rfl rfl rfl rfl ?_
    replace H := H.sel [1, 0, 2, 3, 4, 5, 6, 7, 8, 9, 10, 11, 12, 13, 14, 15, 16] rfl
    refine stB (j := 1) H rfl rfl ?_; clear H; intro w118 H
    replace H : Cx w0 fp0 S0 w118 [Bx b82 [(.int .i64 a98), (h116).v, (h104).v, (h110).v], E (List (Int × Int × List Int × List Int)) a113 h116, E (List Int) a107 h110, E (List Int) a101 h104, Bx b95 [(.int .i64 y85_0), (h88).v, (h90).v, (h92).v], E (List Int) y85_2 h90, E (List Int) y85_3 h92, Bx b8 [(.int .i64 a__0), (a__1h).v, (a__2h).v, (a__3h).v], Es (List (Int × Int × List Int × List Int)) a__1 a__1h, Es (List Int) a__2 a__2h, Es (List Int) a__3 a__3h, Bx b11 [(.int .i64 b__0), (b__1h).v, (b__2h).v, (b__3h).v], Es (List (Int × Int × List Int × List Int)) b__1 b__1h, Es (List Int) b__2 b__2h, Es (List Int) b__3 b__3h, Bx b14 [(.int .i64 0), (.slice none 0 0), (.slice none 0 0), (.slice none 0 0)], E (List Int) r51 h19] := H
    refine loadN [(.int .i64 a98), (h116).v, (h104).v, (h110).v] rfl (fun j u hj => H.bx 0 rfl hj) ?_
    replace H := H.sel [15, 0, 1, 2, 3, 4, 5, 6, 7, 8, 9, 10, 11, 12, 13, 14, 16] rfl
    refine stA gok [(.int .i64 a98), (h116).v, (h104).v, (h110).v] rfl H rfl rfl rfl ?_; clear H; intro w119 H
    replace H : Cx w0 fp0 S0 w119 [Bx b14 [(.int .i64 a98), (h116).v, (h104).v, (h110).v], Bx b82 [(.int .i64 a98), (h116).v, (h104).v, (h110).v], E (List (Int × Int × List Int × List Int)) a113 h116, E (List Int) a107 h110, E (List Int) a101 h104, Bx b95 [(.int .i64 y85_0), (h88).v, (h90).v, (h92).v], E (List Int) y85_2 h90, E (List Int) y85_3 h92, Bx b8 [(.int .i64 a__0), (a__1h).v, (a__2h).v, (a__3h).v], Es (List (Int × Int × List Int × List Int)) a__1 a__1h, Es (List Int) a__2 a__2h, Es (List Int) a__3 a__3h, Bx b11 [(.int .i64 b__0), (b__1h).v, (b__2h).v, (b__3h).v], Es (List (Int × Int × List Int × List Int)) b__1 b__1h, Es (List Int) b__2 b__2h, Es (List Int) b__3 b__3h, E (List Int) r51 h19] := H
    refine loadN [(.int .i64 a98), (h116).v, (h104).v, (h110).v] rfl (fun j u hj => H.bx 0 rfl hj) ?_
    cases hF114
    exact ⟨_, _, rfl, ⟨h116, h104, h110, rfl, rfl⟩, (H.sel [2, 4, 3] rfl).close ⟨cloE, cloE, cloE, trivial⟩⟩

theorem spec_l1Own_c (l_ : List Int) (l_h : Hd) (y : List Int) (hF : F_spec_l1Own l_ = some y) :
    ConF Try.prog 97 #[(l_h).v] [Es (List Int) l_ l_h] [] (fun v Γ' => ∃ z0 : Hd, v = (z0).v ∧ Γ' = [E (List Int) y z0]) := by
  intro w0 S0 fp0 hI hS
  have H : Cx w0 fp0 S0 w0 [Es (List Int) l_ l_h] := Cx.start hI hS
  clear hI hS
  refine enterC (args := [_]) gok Try.func97 rfl _ rfl rfl rfl ?_
  refine lit0 (α := Int) gok rfl rfl H ?_; clear H; intro h3 w2 hx H
  clear hx
  obtain ⟨a5, e, hF6⟩ := bindS hF; clear hF
  refine appendS (α := Int) gok rfl rfl rfl rfl H (Vw.sh 0 rfl) e ?_; clear e H; intro h8 w7 H
  cases hF6
  exact ⟨_, _, rfl, ⟨h8, rfl, rfl⟩, (H.sel [0] rfl).close ⟨cloE, trivial⟩⟩

theorem spec_l1Most_c (a_ : Int) (b_ : Int) (y : Int) (hF : F_spec_l1Most a_ b_ = some y) :
    ConF Try.prog 145 #[(.int .i64 a_), (.int .i64 b_)] [] [] (fun v Γ' => v = (.int .i64 y) ∧ Γ' = []) := by
  intro w0 S0 fp0 hI hS
  have H : Cx w0 fp0 S0 w0 [] := Cx.start hI hS
  clear hI hS
  refine enterC (args := [_, _]) gok Try.func145 rfl _ rfl rfl rfl ?_
  refine sq ?_
  obtain ⟨a1, e, hF2⟩ := bindS hF; clear hF
  refine boolO e ?_; clear e
  cases a1
  · have hF3 := condF hF2; clear hF2
    cases hF3
    exact ⟨_, _, rfl, ⟨rfl, rfl⟩, (H.sel [] rfl).close trivial⟩
  · have hF4 := condT hF2; clear hF2
    cases hF4
    exact ⟨_, _, rfl, ⟨rfl, rfl⟩, (H.sel [] rfl).close trivial⟩

theorem spec_l1Least_c (a_ : Int) (b_ : Int) (y : Int) (hF : F_spec_l1Least a_ b_ = some y) :
    ConF Try.prog 146 #[(.int .i64 a_), (.int .i64 b_)] [] [] (fun v Γ' => v = (.int .i64 y) ∧ Γ' = []) := by
  intro w0 S0 fp0 hI hS
  have H : Cx w0 fp0 S0 w0 [] := Cx.start hI hS
  clear hI hS
  refine enterC (args := [_, _]) gok Try.func146 rfl _ rfl rfl rfl ?_
  refine sq ?_
  obtain ⟨a1, e, hF2⟩ := bindS hF; clear hF
  refine boolO e ?_; clear e
  cases a1
  · have hF3 := condF hF2; clear hF2
    cases hF3
    exact ⟨_, _, rfl, ⟨rfl, rfl⟩, (H.sel [] rfl).close trivial⟩
  · have hF4 := condT hF2; clear hF2
    cases hF4
    exact ⟨_, _, rfl, ⟨rfl, rfl⟩, (H.sel [] rfl).close trivial⟩

theorem spec_hgGlued_c (g__0 : Int) (g__1 : List (Int × Int × List Int × List Int)) (g__1h : Hd) (g__2 : List Int) (g__2h : Hd) (g__3 : List Int) (g__3h : Hd) (a_ : List Int) (a_h : Hd) (b_ : List Int) (b_h : Hd) (y0_0 : Int) (y0_1 : List (Int × Int × List Int × List Int)) (y0_2 : List Int) (y0_3 : List Int) (y1 : List Int) (hF : F_spec_hgGlued (g__0, g__1, g__2, g__3) a_ b_ = some ((y0_0, y0_1, y0_2, y0_3), y1)) :
    ConF Try.prog 130 #[(.agg #[(.int .i64 g__0), (g__1h).v, (g__2h).v, (g__3h).v]), (a_h).v, (b_h).v] [Es (List (Int × Int × List Int × List Int)) g__1 g__1h, Es (List Int) g__2 g__2h, Es (List Int) g__3 g__3h, Es (List Int) a_ a_h, Es (List Int) b_ b_h] [] (fun v Γ' => ∃ z0 z1 z2 z3 : Hd, v = (.tuple #[(.agg #[(.int .i64 y0_0), (z0).v, (z1).v, (z2).v]), (z3).v]) ∧ Γ' = [E (List (Int × Int × List Int × List Int)) y0_1 z0, E (List Int) y0_2 z1, E (List Int) y0_3 z2, E (List Int) y1 z3]) := by
  intro w0 S0 fp0 hI hS
  have H : Cx w0 fp0 S0 w0 [Es (List (Int × Int × List Int × List Int)) g__1 g__1h, Es (List Int) g__2 g__2h, Es (List Int) g__3 g__3h, Es (List Int) a_ a_h, Es (List Int) b_ b_h] := Cx.start hI hS
  clear hI hS
  refine enterC (args := [_, _, _]) gok Try.func130 rfl _ rfl rfl rfl ?_
  refine box_ H ?_; clear H; intro b7 w6 hx H
  clear hx
  replace H : Cx w0 fp0 S0 w6 [Bx b7 [(.int .i64 g__0), (g__1h).v, (g__2h).v, (g__3h).v], Es (List (Int × Int × List Int × List Int)) g__1 g__1h, Es (List Int) g__2 g__2h, Es (List Int) g__3 g__3h, Es (List Int) a_ a_h, Es (List Int) b_ b_h] := H
  refine alloc_ gok rfl H ?_; clear H; intro b10 w9 hx H
  clear hx
  replace H : Cx w0 fp0 S0 w9 [Bx b10 [(.int .i64 0), (.slice none 0 0), (.slice none 0 0), (.slice none 0 0)], Bx b7 [(.int .i64 g__0), (g__1h).v, (g__2h).v, (g__3h).v], Es (List (Int × Int × List Int × List Int)) g__1 g__1h, Es (List Int) g__2 g__2h, Es (List Int) g__3 g__3h, Es (List Int) a_ a_h, Es (List Int) b_ b_h] := H
  refine fld gok rfl rfl rfl rfl ?_
  refine load1 (H.bx 1 rfl (j := 0) rfl) ?_
  obtain ⟨a12, e, hF13⟩ := bindS hF; clear hF
  refine make_ (α := Int) gok rfl rfl rfl rfl (makeCO_of e) H ?_; clear e H; intro h15 w14 hx H
  clear hx
  refine sq ?_
  refine lenE (H.ro (α := List Int) 0 rfl).len ?_
  have hmx42 := (H.ro (α := List Int) 0 rfl).max
  obtain ⟨r43, e, hF44⟩ := bindS hF13; clear hF13
  refine loopS _ a12.length (fun (k17 : Nat) (s40 : List Int) (_ : Unit) => [(1, (a_h).v), (2, (b_h).v), (3, (.pointer (some ⟨b7, 0, none⟩))), (6, (.pointer (some ⟨b10, 0, none⟩))), (8, (h15).v), (27, (.int .i64 ((a12.length : Nat) : Int))), (28, (.int .i64 ((k17 : Nat) : Int)))]) (fun _ (s40 : List Int) (_ : Unit) w' => Cx w0 fp0 S0 w' [Es (List Int) a_ a_h, Es (List Int) b_ b_h, Bx b7 [(.int .i64 g__0), (g__1h).v, (g__2h).v, (g__3h).v], Es (List (Int × Int × List Int × List Int)) g__1 g__1h, Es (List Int) g__2 g__2h, Es (List Int) g__3 g__3h, Bx b10 [(.int .i64 0), (.slice none 0 0), (.slice none 0 0), (.slice none 0 0)], E (List Int) s40 h15]) a12 () e ⟨rfl, rfl, rfl, rfl, rfl, rfl, rfl, trivial⟩ (H.sel [6, 7, 2, 3, 4, 5, 1, 0] rfl) ?_ ?_
  · clear H e
    rintro T46 k17 s40 _ w45 o47 hk (H : Cx w0 fp0 S0 w45 [Es (List Int) a_ a_h, Es (List Int) b_ b_h, Bx b7 [(.int .i64 g__0), (g__1h).v, (g__2h).v, (g__3h).v], Es (List (Int × Int × List Int × List Int)) g__1 g__1h, Es (List Int) g__2 g__2h, Es (List Int) g__3 g__3h, Bx b10 [(.int .i64 0), (.slice none 0 0), (.slice none 0 0), (.slice none 0 0)], E (List Int) s40 h15]) hF48
    refine boolE (z := true) (ltLen hk) ?_
    refine sq ?_
    refine sq ?_
    obtain ⟨a55, e, hF56⟩ := bindS hF48; clear hF48
    have ea55 := e; clear e
    obtain ⟨p53, m54, c49, c50, c51⟩ := (H.ro (α := List Int) 7 rfl).setp ea55
    refine idxE c49 c50 c51 ?_
    replace H := H.sel [7, 0, 1, 2, 3, 4, 5, 6] rfl
    refine setS (α := Int) H c49 c50 ea55 ?_; clear H c49 c50 c51 ea55; intro w57 H
    refine arK hk hmx42 ?_
    have hs := Option.some.inj hF56; subst hs; clear hF56
    exact ⟨(), ⟨rfl, rfl, rfl, rfl, rfl, rfl, rfl, trivial⟩, H.sel [1, 2, 3, 4, 5, 6, 7, 0] rfl⟩
  · clear H e
    rintro T59 _ w58 (H : Cx w0 fp0 S0 w58 [Es (List Int) a_ a_h, Es (List Int) b_ b_h, Bx b7 [(.int .i64 g__0), (g__1h).v, (g__2h).v, (g__3h).v], Es (List (Int × Int × List Int × List Int)) g__1 g__1h, Es (List Int) g__2 g__2h, Es (List Int) g__3 g__3h, Bx b10 [(.int .i64 0), (.slice none 0 0), (.slice none 0 0), (.slice none 0 0)], E (List Int) r43 h15])
    refine boolE (z := false) geLen ?_
    refine sq ?_
    refine sq ?_
    refine lenE (H.rs (α := List Int) 0 rfl).len ?_
    have hmx339 := (H.rs (α := List Int) 0 rfl).max
    obtain ⟨r340, e, hF341⟩ := bindS hF44; clear hF44
    refine loopS _ a_.length (fun (k62 : Nat) (s337 : List Int) (_ : Unit) => [(1, (a_h).v), (2, (b_h).v), (3, (.pointer (some ⟨b7, 0, none⟩))), (6, (.pointer (some ⟨b10, 0, none⟩))), (8, (h15).v), (37, (.int .i64 ((a_.length : Nat) : Int))), (38, (.int .i64 ((k62 : Nat) : Int)))]) (fun _ (s337 : List Int) (_ : Unit) w' => Cx w0 fp0 S0 w' [Es (List Int) a_ a_h, Es (List Int) b_ b_h, Bx b7 [(.int .i64 g__0), (g__1h).v, (g__2h).v, (g__3h).v], Es (List (Int × Int × List Int × List Int)) g__1 g__1h, Es (List Int) g__2 g__2h, Es (List Int) g__3 g__3h, Bx b10 [(.int .i64 0), (.slice none 0 0), (.slice none 0 0), (.slice none 0 0)], E (List Int) s337 h15]) r43 () e ⟨rfl, rfl, rfl, rfl, rfl, rfl, rfl, trivial⟩ (H.sel [0, 1, 2, 3, 4, 5, 6, 7] rfl) ?_ ?_
    · clear H e
      rintro T343 k62 s337 _ w342 o344 hk (H : Cx w0 fp0 S0 w342 [Es (List Int) a_ a_h, Es (List Int) b_ b_h, Bx b7 [(.int .i64 g__0), (g__1h).v, (g__2h).v, (g__3h).v], Es (List (Int × Int × List Int × List Int)) g__1 g__1h, Es (List Int) g__2 g__2h, Es (List Int) g__3 g__3h, Bx b10 [(.int .i64 0), (.slice none 0 0), (.slice none 0 0), (.slice none 0 0)], E (List Int) s337 h15]) hF345
      refine boolE (z := true) (ltLen hk) ?_
      refine sq ?_
      refine sq ?_
      refine heldX H [] (.fst 0 (.fst 1 (.fst 2 (.fst 3 (.fst 7 (.fst 8 (.fst 9 (.fst 10 (.fst 4 (.fst 5 (.fst 6 (.fst 14 (.fst 11 (.fst 12 (.fst 13 (.fst 15 .done)))))))))))))))) mixed [] trivial (by kernel_rfl) ?_
      clear H; intro w346 H
      have hX : Ext w346 w346 := Upd.refl _ _
      have H0 := H
      obtain ⟨a353, e, hF354⟩ := bindS hF345; clear hF345
      obtain ⟨p351, m352, c347, c348, c349, c350⟩ := (H.rs (α := List Int) 0 rfl).at1 e; clear e
      refine idxE c347 c348 c349 ?_; clear c347 c348 c349
      obtain ⟨a361, e, hF362⟩ := bindS hF354; clear hF354
      obtain ⟨p359, m360, c355, c356, c357, c358⟩ := (H.rs (α := List Int) 1 rfl).at1 e; clear e
      refine idxE c355 c356 c357 ?_; clear c355 c356 c357
      refine load1X c350 ?_; clear c350
      obtain ⟨a369, e, hF370⟩ := bindS hF362; clear hF362
      obtain ⟨p367, m368, c363, c364, c365, c366⟩ := (H.ro (α := List Int) 7 rfl).at1 e; clear e
      refine idxE c363 c364 c365 ?_; clear c363 c364 c365
      refine load1X c366 ?_; clear c366
      refine load1X c358 ?_; clear c358
      obtain ⟨a377, e, hF378⟩ := bindS hF370; clear hF370
      obtain ⟨p375, m376, c371, c372, c373, c374⟩ := (H.ro (α := List Int) 7 rfl).at1 e; clear e
      refine idxE c371 c372 c373 ?_; clear c371 c372 c373
      refine load1X c374 ?_; clear c374
      refine lenE (H.ro (α := List Int) 7 rfl).len ?_
      have hmx442 := (H.ro (α := List Int) 7 rfl).max
      obtain ⟨r443, e, hF444⟩ := bindS hF378; clear hF378
      refine loopS _ s337.length (fun (k379 : Nat) (s440 : List Int) (_ : Unit) => [(1, (a_h).v), (2, (b_h).v), (3, (.pointer (some ⟨b7, 0, none⟩))), (6, (.pointer (some ⟨b10, 0, none⟩))), (8, (h15).v), (11, (.int .i64 a369)), (12, (.int .i64 a377)), (37, (.int .i64 ((a_.length : Nat) : Int))), (38, (.int .i64 ((k62 : Nat) : Int))), (56, (.int .i64 ((s337.length : Nat) : Int))), (57, (.int .i64 ((k379 : Nat) : Int)))]) (fun _ (s440 : List Int) (_ : Unit) w' => Cx w0 fp0 S0 w' [Es (List Int) a_ a_h, Es (List Int) b_ b_h, Bx b7 [(.int .i64 g__0), (g__1h).v, (g__2h).v, (g__3h).v], Es (List (Int × Int × List Int × List Int)) g__1 g__1h, Es (List Int) g__2 g__2h, Es (List Int) g__3 g__3h, Bx b10 [(.int .i64 0), (.slice none 0 0), (.slice none 0 0), (.slice none 0 0)], E (List Int) s440 h15]) s337 () e ⟨rfl, rfl, rfl, rfl, rfl, rfl, rfl, rfl, rfl, rfl, rfl, trivial⟩ (H.sel [0, 1, 2, 3, 4, 5, 6, 7] rfl) ?_ ?_
      · clear H e
        rintro T446 k379 s440 _ w445 o447 hk (H : Cx w0 fp0 S0 w445 [Es (List Int) a_ a_h, Es (List Int) b_ b_h, Bx b7 [(.int .i64 g__0), (g__1h).v, (g__2h).v, (g__3h).v], Es (List (Int × Int × List Int × List Int)) g__1 g__1h, Es (List Int) g__2 g__2h, Es (List Int) g__3 g__3h, Bx b10 [(.int .i64 0), (.slice none 0 0), (.slice none 0 0), (.slice none 0 0)], E (List Int) s440 h15]) hF448
        refine boolE (z := true) (ltLen hk) ?_
        refine sq ?_
        refine sq ?_
        refine heldX H [] (.fst 0 (.fst 1 (.fst 2 (.fst 4 (.fst 5 (.fst 3 (.act 6 (.fst 7 .done)))))))) mixed [] trivial (by kernel_rfl) ?_
        clear H; intro w449 H
        have hX : Ext w449 w449 := Upd.refl _ _
        have H0 := H
        obtain ⟨a456, e, hF457⟩ := bindS hF448; clear hF448
        obtain ⟨p454, m455, c450, c451, c452, c453⟩ := (H.ro (α := List Int) 7 rfl).at1 e; clear e
        refine idxE c450 c451 c452 ?_; clear c450 c451 c452
        refine load1X c453 ?_; clear c453
        obtain ⟨y458, e, hF459⟩ := bindS hF457; clear hF457
        have ey458 := e; clear e
        refine callFx (spec_l1Most_c a369 a377 y458 ey458) H trivial ?_; clear H ey458
        rintro _ _ w460 ⟨rfl, rfl⟩ hx (H : Cx w0 fp0 S0 w460 [Es (List Int) a_ a_h, Es (List Int) b_ b_h, Bx b7 [(.int .i64 g__0), (g__1h).v, (g__2h).v, (g__3h).v], Es (List (Int × Int × List Int × List Int)) g__1 g__1h, Es (List Int) g__2 g__2h, Es (List Int) g__3 g__3h, Bx b10 [(.int .i64 0), (.slice none 0 0), (.slice none 0 0), (.slice none 0 0)], E (List Int) s440 h15])
        replace hX := hX.trans0 hx; clear hx
        refine hold hX ?_
        obtain ⟨a461, e, hF462⟩ := bindS hF459; clear hF459
        refine boolO e ?_; clear e
        cases a461
        · have hF463 := condF hF462; clear hF462
          refine arK hk hmx442 ?_
          have hs := Option.some.inj hF463; subst hs; clear hF463
          exact ⟨(), ⟨rfl, rfl, rfl, rfl, rfl, rfl, rfl, rfl, rfl, rfl, rfl, trivial⟩, H.sel [0, 1, 2, 3, 4, 5, 6, 7] rfl⟩
        · have hF464 := condT hF462; clear hF462
          obtain ⟨y465, e, hF466⟩ := bindS hF464; clear hF464
          have ey465 := e; clear e
          refine callF (spec_l1Least_c a369 a377 y465 ey465) (Γi := []) H trivial ?_; clear H ey465
          rintro _ _ w467 ⟨rfl, rfl⟩ (H : Cx w0 fp0 S0 w467 [Es (List Int) a_ a_h, Es (List Int) b_ b_h, Bx b7 [(.int .i64 g__0), (g__1h).v, (g__2h).v, (g__3h).v], Es (List (Int × Int × List Int × List Int)) g__1 g__1h, Es (List Int) g__2 g__2h, Es (List Int) g__3 g__3h, Bx b10 [(.int .i64 0), (.slice none 0 0), (.slice none 0 0), (.slice none 0 0)], E (List Int) s440 h15])
          obtain ⟨a474, e, hF475⟩ := bindS hF466; clear hF466
          have ea474 := e; clear e
          obtain ⟨p472, m473, c468, c469, c470⟩ := (H.ro (α := List Int) 7 rfl).setp ea474
          refine idxE c468 c469 c470 ?_
          replace H := H.sel [7, 0, 1, 2, 3, 4, 5, 6] rfl
          refine setS (α := Int) H c468 c469 ea474 ?_; clear H c468 c469 c470 ea474; intro w476 H
          refine arK hk hmx442 ?_
          have hs := Option.some.inj hF475; subst hs; clear hF475
          exact ⟨(), ⟨rfl, rfl, rfl, rfl, rfl, rfl, rfl, rfl, rfl, rfl, rfl, trivial⟩, H.sel [1, 2, 3, 4, 5, 6, 7, 0] rfl⟩
      · clear H e
        rintro T478 _ w477 (H : Cx w0 fp0 S0 w477 [Es (List Int) a_ a_h, Es (List Int) b_ b_h, Bx b7 [(.int .i64 g__0), (g__1h).v, (g__2h).v, (g__3h).v], Es (List (Int × Int × List Int × List Int)) g__1 g__1h, Es (List Int) g__2 g__2h, Es (List Int) g__3 g__3h, Bx b10 [(.int .i64 0), (.slice none 0 0), (.slice none 0 0), (.slice none 0 0)], E (List Int) r443 h15])
        refine boolE (z := false) geLen ?_
        refine sq ?_
        refine arK hk hmx339 ?_
        have hs := Option.some.inj hF444; subst hs; clear hF444
        exact ⟨(), ⟨rfl, rfl, rfl, rfl, rfl, rfl, rfl, trivial⟩, H.sel [0, 1, 2, 3, 4, 5, 6, 7] rfl⟩
    · clear H e
      rintro T482 _ w481 (H : Cx w0 fp0 S0 w481 [Es (List Int) a_ a_h, Es (List Int) b_ b_h, Bx b7 [(.int .i64 g__0), (g__1h).v, (g__2h).v, (g__3h).v], Es (List (Int × Int × List Int × List Int)) g__1 g__1h, Es (List Int) g__2 g__2h, Es (List Int) g__3 g__3h, Bx b10 [(.int .i64 0), (.slice none 0 0), (.slice none 0 0), (.slice none 0 0)], E (List Int) r340 h15])
      refine boolE (z := false) geLen ?_
      refine sq ?_
      refine loadN [(.int .i64 g__0), (g__1h).v, (g__2h).v, (g__3h).v] rfl (fun j u hj => H.bx 2 rfl hj) ?_
      obtain ⟨y485, e, hF486⟩ := bindS hF341; clear hF341
      obtain ⟨y485_0, y485_1⟩ := y485
      have ey485 := e; clear e
      refine callF (spec_hgCounts_c g__0 g__1 g__1h g__2 g__2h g__3 g__3h y485_0 y485_1 ey485) (Γi := []) H ⟨Vw.sh 3 rfl, Vw.sh 4 rfl, Vw.sh 5 rfl, trivial⟩ ?_; clear H ey485
      rintro _ _ w487 ⟨h488, h490, rfl, rfl⟩ (H : Cx w0 fp0 S0 w487 [E (List Int) y485_0 h488, E (List Int) y485_1 h490, Es (List Int) a_ a_h, Es (List Int) b_ b_h, Bx b7 [(.int .i64 g__0), (g__1h).v, (g__2h).v, (g__3h).v], Es (List (Int × Int × List Int × List Int)) g__1 g__1h, Es (List Int) g__2 g__2h, Es (List Int) g__3 g__3h, Bx b10 [(.int .i64 0), (.slice none 0 0), (.slice none 0 0), (.slice none 0 0)], E (List Int) r340 h15])
      refine fld gok rfl rfl rfl rfl ?_
      refine load1 (H.bx 4 rfl (j := 0) rfl) ?_
      obtain ⟨a492, e, hF493⟩ := bindS hF486; clear hF486
      refine make_ (α := Bool) gok rfl rfl rfl rfl (makeCO_of e) H ?_; clear e H; intro h495 w494 hx H
      clear hx
      refine sq ?_
      refine lenE (H.ro (α := List Int) 10 rfl).len ?_
      have hmx584 := (H.ro (α := List Int) 10 rfl).max
      obtain ⟨r585, e, hF586⟩ := bindS hF493; clear hF493
      refine loopS _ r340.length (fun (k497 : Nat) (s582 : List Bool) (_ : Unit) => [(3, (.pointer (some ⟨b7, 0, none⟩))), (6, (.pointer (some ⟨b10, 0, none⟩))), (8, (h15).v), (14, (h488).v), (15, (h490).v), (16, (h495).v), (84, (h15).v), (85, (.int .i64 ((r340.length : Nat) : Int))), (86, (.int .i64 ((k497 : Nat) : Int)))]) (fun _ (s582 : List Bool) (_ : Unit) w' => Cx w0 fp0 S0 w' [Bx b7 [(.int .i64 g__0), (g__1h).v, (g__2h).v, (g__3h).v], Es (List (Int × Int × List Int × List Int)) g__1 g__1h, Es (List Int) g__2 g__2h, Es (List Int) g__3 g__3h, Bx b10 [(.int .i64 0), (.slice none 0 0), (.slice none 0 0), (.slice none 0 0)], E (List Int) r340 h15, E (List Int) y485_0 h488, E (List Int) y485_1 h490, E (List Bool) s582 h495]) a492 () e ⟨rfl, rfl, rfl, rfl, rfl, rfl, rfl, rfl, rfl, trivial⟩ (H.sel [5, 6, 7, 8, 9, 10, 1, 2, 0] rfl) ?_ ?_
      · clear H e
        rintro T588 k497 s582 _ w587 o589 hk (H : Cx w0 fp0 S0 w587 [Bx b7 [(.int .i64 g__0), (g__1h).v, (g__2h).v, (g__3h).v], Es (List (Int × Int × List Int × List Int)) g__1 g__1h, Es (List Int) g__2 g__2h, Es (List Int) g__3 g__3h, Bx b10 [(.int .i64 0), (.slice none 0 0), (.slice none 0 0), (.slice none 0 0)], E (List Int) r340 h15, E (List Int) y485_0 h488, E (List Int) y485_1 h490, E (List Bool) s582 h495]) hF590
        refine boolE (z := true) (ltLen hk) ?_
        refine sq ?_
        refine sq ?_
        obtain ⟨a597, e, hF598⟩ := bindS hF590; clear hF590
        obtain ⟨p595, m596, c591, c592, c593, c594⟩ := (H.ro (α := List Int) 5 rfl).at1 e; clear e
        refine idxE c591 c592 c593 ?_; clear c591 c592 c593
        refine load1 c594 ?_; clear c594
        refine heldX H [] (.fst 0 (.fst 1 (.fst 2 (.fst 4 (.fst 5 (.fst 6 (.fst 3 (.fst 7 (.fst 8 (.fst 9 .done)))))))))) mixed [] trivial (by kernel_rfl) ?_
        clear H; intro w599 H
        have hX : Ext w599 w599 := Upd.refl _ _
        have H0 := H
        obtain ⟨a606, e, hF607⟩ := bindS hF598; clear hF598
        obtain ⟨p604, m605, c600, c601, c602, c603⟩ := (H.ro (α := List Int) 6 rfl).at1 e; clear e
        refine idxE c600 c601 c602 ?_; clear c600 c601 c602
        obtain ⟨a614, e, hF615⟩ := bindS hF607; clear hF607
        obtain ⟨p612, m613, c608, c609, c610, c611⟩ := (H.ro (α := List Int) 7 rfl).at1 e; clear e
        refine idxE c608 c609 c610 ?_; clear c608 c609 c610
        refine load1X c603 ?_; clear c603
        refine load1X c611 ?_; clear c611
        obtain ⟨a616, e, hF617⟩ := bindS hF615; clear hF615
        refine arO e ?_; clear e
        obtain ⟨a618, e, hF619⟩ := bindS hF617; clear hF617
        refine boolO e ?_; clear e
        cases a618
        · have hF620 := condF hF619; clear hF619
          refine arK hk hmx584 ?_
          have hs := Option.some.inj hF620; subst hs; clear hF620
          exact ⟨(), ⟨rfl, rfl, rfl, rfl, rfl, rfl, rfl, rfl, rfl, trivial⟩, H.sel [0, 1, 2, 3, 4, 5, 6, 7, 8] rfl⟩
        · have hF621 := condT hF619; clear hF619
          obtain ⟨a628, e, hF629⟩ := bindS hF621; clear hF621
          have ea628 := e; clear e
          obtain ⟨p626, m627, c622, c623, c624⟩ := (H.ro (α := List Bool) 8 rfl).setp ea628
          refine idxE c622 c623 c624 ?_
          replace H := H.sel [8, 0, 1, 2, 3, 4, 5, 6, 7] rfl
          refine setS (α := Bool) H c622 c623 ea628 ?_; clear H c622 c623 c624 ea628; intro w630 H
          refine arK hk hmx584 ?_
          have hs := Option.some.inj hF629; subst hs; clear hF629
          exact ⟨(), ⟨rfl, rfl, rfl, rfl, rfl, rfl, rfl, rfl, rfl, trivial⟩, H.sel [1, 2, 3, 4, 5, 6, 7, 8, 0] rfl⟩
      · clear H e
        rintro T632 _ w631 (H : Cx w0 fp0 S0 w631 [Bx b7 [(.int .i64 g__0), (g__1h).v, (g__2h).v, (g__3h).v], Es (List (Int × Int × List Int × List Int)) g__1 g__1h, Es (List Int) g__2 g__2h, Es (List Int) g__3 g__3h, Bx b10 [(.int .i64 0), (.slice none 0 0), (.slice none 0 0), (.slice none 0 0)], E (List Int) r340 h15, E (List Int) y485_0 h488, E (List Int) y485_1 h490, E (List Bool) r585 h495])
        refine boolE (z := false) geLen ?_
        refine sq ?_
        refine fld gok rfl rfl rfl rfl ?_
        refine load1 (H.bx 0 rfl (j := 0) rfl) ?_
        obtain ⟨a635, e, hF636⟩ := bindS hF586; clear hF586
        refine make_ (α := Int) gok rfl rfl rfl rfl (makeCO_of e) H ?_; clear e H; intro h638 w637 hx H
        clear hx
        refine sq ?_
        refine lenE (H.ro (α := List Int) 0 rfl).len ?_
        have hmx769 := (H.ro (α := List Int) 0 rfl).max
        obtain ⟨r770, e, hF771⟩ := bindS hF636; clear hF636
        refine loopS _ a635.length (fun (k640 : Nat) (s767 : List Int × Int) (_ : Unit) => [(3, (.pointer (some ⟨b7, 0, none⟩))), (6, (.pointer (some ⟨b10, 0, none⟩))), (8, (h15).v), (16, (h495).v), (19, (h638).v), (20, (.int .i64 s767.2)), (109, (.int .i64 ((a635.length : Nat) : Int))), (110, (.int .i64 ((k640 : Nat) : Int)))]) (fun _ (s767 : List Int × Int) (_ : Unit) w' => Cx w0 fp0 S0 w' [Bx b7 [(.int .i64 g__0), (g__1h).v, (g__2h).v, (g__3h).v], Es (List (Int × Int × List Int × List Int)) g__1 g__1h, Es (List Int) g__2 g__2h, Es (List Int) g__3 g__3h, Bx b10 [(.int .i64 0), (.slice none 0 0), (.slice none 0 0), (.slice none 0 0)], E (List Int) r340 h15, E (List Bool) r585 h495, E (List Int) s767.1 h638]) (a635, 0) () e ⟨rfl, rfl, rfl, rfl, rfl, rfl, rfl, rfl, trivial⟩ (H.sel [1, 2, 3, 4, 5, 6, 9, 0] rfl) ?_ ?_
        · clear H e
          rintro T773 k640 ⟨s767_0, s767_1⟩ _ w772 o774 hk (H : Cx w0 fp0 S0 w772 [Bx b7 [(.int .i64 g__0), (g__1h).v, (g__2h).v, (g__3h).v], Es (List (Int × Int × List Int × List Int)) g__1 g__1h, Es (List Int) g__2 g__2h, Es (List Int) g__3 g__3h, Bx b10 [(.int .i64 0), (.slice none 0 0), (.slice none 0 0), (.slice none 0 0)], E (List Int) r340 h15, E (List Bool) r585 h495, E (List Int) s767_0 h638]) hF775
          refine boolE (z := true) (ltLen hk) ?_
          refine sq ?_
          refine sq ?_
          obtain ⟨r798, hF800, hF799⟩ := bindS hF775; clear hF775
          refine cut (fun (q801 : Bool) => [(3, (.pointer (some ⟨b7, 0, none⟩))), (6, (.pointer (some ⟨b10, 0, none⟩))), (8, (h15).v), (16, (h495).v), (19, (h638).v), (20, (.int .i64 s767_1)), (21, (.int .i64 ((k640 : Nat) : Int))), (109, (.int .i64 ((a635.length : Nat) : Int))), (110, (.int .i64 ((k640 : Nat) : Int))), (124, (.bool q801))]) (fun (q801 : Bool) w' => q801 = r798 ∧ Cx w0 fp0 S0 w' [Bx b7 [(.int .i64 g__0), (g__1h).v, (g__2h).v, (g__3h).v], Es (List (Int × Int × List Int × List Int)) g__1 g__1h, Es (List Int) g__2 g__2h, Es (List Int) g__3 g__3h, Bx b10 [(.int .i64 0), (.slice none 0 0), (.slice none 0 0), (.slice none 0 0)], E (List Int) r340 h15, E (List Bool) r585 h495, E (List Int) s767_0 h638]) ?_ ?_
          · skip
            obtain ⟨a808, e, hF809⟩ := bindS hF800; clear hF800
            obtain ⟨p806, m807, c802, c803, c804, c805⟩ := (H.ro (α := List Int) 5 rfl).at1 e; clear e
            refine idxE c802 c803 c804 ?_; clear c802 c803 c804
            refine load1 c805 ?_; clear c805
            obtain ⟨a810, e, hF811⟩ := bindS hF809; clear hF809
            refine boolO e ?_; clear e
            cases a810
            · have hF812 := condF hF811; clear hF811
              exact ⟨false, ⟨rfl, rfl, rfl, rfl, rfl, rfl, rfl, rfl, rfl, rfl, trivial⟩, Option.some.inj hF812, H.sel [0, 1, 2, 3, 4, 5, 6, 7] rfl⟩
            · have hF813 := condT hF811; clear hF811
              obtain ⟨a820, e, hF821⟩ := bindS hF813; clear hF813
              obtain ⟨p818, m819, c814, c815, c816, c817⟩ := (H.ro (α := List Bool) 6 rfl).at1 e; clear e
              refine idxE c814 c815 c816 ?_; clear c814 c815 c816
              refine load1 c817 ?_; clear c817
              exact ⟨a820, ⟨rfl, rfl, rfl, rfl, rfl, rfl, rfl, rfl, rfl, rfl, trivial⟩, Option.some.inj hF821, H.sel [0, 1, 2, 3, 4, 5, 6, 7] rfl⟩
          · clear hF800 H
            rintro T823 s796 w822 ⟨hr, (H : Cx w0 fp0 S0 w822 [Bx b7 [(.int .i64 g__0), (g__1h).v, (g__2h).v, (g__3h).v], Es (List (Int × Int × List Int × List Int)) g__1 g__1h, Es (List Int) g__2 g__2h, Es (List Int) g__3 g__3h, Bx b10 [(.int .i64 0), (.slice none 0 0), (.slice none 0 0), (.slice none 0 0)], E (List Int) r340 h15, E (List Bool) r585 h495, E (List Int) s767_0 h638])⟩
            subst hr
            cases s796
            · have hF824 := condF hF799; clear hF799
              refine arK hk hmx769 ?_
              have hs := Option.some.inj hF824; subst hs; clear hF824
              exact ⟨(), ⟨rfl, rfl, rfl, rfl, rfl, rfl, rfl, rfl, trivial⟩, H.sel [0, 1, 2, 3, 4, 5, 6, 7] rfl⟩
            · have hF825 := condT hF799; clear hF799
              obtain ⟨a832, e, hF833⟩ := bindS hF825; clear hF825
              have ea832 := e; clear e
              obtain ⟨p830, m831, c826, c827, c828⟩ := (H.ro (α := List Int) 7 rfl).setp ea832
              refine idxE c826 c827 c828 ?_
              replace H := H.sel [7, 0, 1, 2, 3, 4, 5, 6] rfl
              refine setS (α := Int) H c826 c827 ea832 ?_; clear H c826 c827 c828 ea832; intro w834 H
              obtain ⟨a835, e, hF836⟩ := bindS hF833; clear hF833
              refine arO e ?_; clear e
              refine arK hk hmx769 ?_
              have hs := Option.some.inj hF836; subst hs; clear hF836
              exact ⟨(), ⟨rfl, rfl, rfl, rfl, rfl, rfl, rfl, rfl, trivial⟩, H.sel [1, 2, 3, 4, 5, 6, 7, 0] rfl⟩
        · clear H e
          obtain ⟨s839_0, s839_1⟩ := r770
          rintro T838 _ w837 (H : Cx w0 fp0 S0 w837 [Bx b7 [(.int .i64 g__0), (g__1h).v, (g__2h).v, (g__3h).v], Es (List (Int × Int × List Int × List Int)) g__1 g__1h, Es (List Int) g__2 g__2h, Es (List Int) g__3 g__3h, Bx b10 [(.int .i64 0), (.slice none 0 0), (.slice none 0 0), (.slice none 0 0)], E (List Int) r340 h15, E (List Bool) r585 h495, E (List Int) s839_0 h638])
          refine boolE (z := false) geLen ?_
          refine sq ?_
          refine sq ?_
          refine lenE (H.ro (α := List Int) 7 rfl).len ?_
          have hmx956 := (H.ro (α := List Int) 7 rfl).max
          obtain ⟨r957, e, hF958⟩ := bindS hF771; clear hF771
          refine loopS _ s839_0.length (fun (k841 : Nat) (s954 : List Int) (_ : Unit) => [(3, (.pointer (some ⟨b7, 0, none⟩))), (6, (.pointer (some ⟨b10, 0, none⟩))), (8, (h15).v), (16, (h495).v), (19, (h638).v), (20, (.int .i64 s839_1)), (133, (.int .i64 ((s839_0.length : Nat) : Int))), (134, (.int .i64 ((k841 : Nat) : Int)))]) (fun _ (s954 : List Int) (_ : Unit) w' => Cx w0 fp0 S0 w' [Bx b7 [(.int .i64 g__0), (g__1h).v, (g__2h).v, (g__3h).v], Es (List (Int × Int × List Int × List Int)) g__1 g__1h, Es (List Int) g__2 g__2h, Es (List Int) g__3 g__3h, Bx b10 [(.int .i64 0), (.slice none 0 0), (.slice none 0 0), (.slice none 0 0)], E (List Int) r340 h15, E (List Bool) r585 h495, E (List Int) s954 h638]) s839_0 () e ⟨rfl, rfl, rfl, rfl, rfl, rfl, rfl, rfl, trivial⟩ (H.sel [0, 1, 2, 3, 4, 5, 6, 7] rfl) ?_ ?_
          · clear H e
            rintro T960 k841 s954 _ w959 o961 hk (H : Cx w0 fp0 S0 w959 [Bx b7 [(.int .i64 g__0), (g__1h).v, (g__2h).v, (g__3h).v], Es (List (Int × Int × List Int × List Int)) g__1 g__1h, Es (List Int) g__2 g__2h, Es (List Int) g__3 g__3h, Bx b10 [(.int .i64 0), (.slice none 0 0), (.slice none 0 0), (.slice none 0 0)], E (List Int) r340 h15, E (List Bool) r585 h495, E (List Int) s954 h638]) hF962
            refine boolE (z := true) (ltLen hk) ?_
            refine sq ?_
            refine sq ?_
            obtain ⟨a969, e, hF970⟩ := bindS hF962; clear hF962
            obtain ⟨p967, m968, c963, c964, c965, c966⟩ := (H.ro (α := List Int) 5 rfl).at1 e; clear e
            refine idxE c963 c964 c965 ?_; clear c963 c964 c965
            refine load1 c966 ?_; clear c966
            obtain ⟨a977, e, hF978⟩ := bindS hF970; clear hF970
            obtain ⟨p975, m976, c971, c972, c973, c974⟩ := (H.ro (α := List Int) 7 rfl).at1 e; clear e
            refine idxE c971 c972 c973 ?_; clear c971 c972 c973
            refine load1 c974 ?_; clear c974
            obtain ⟨a985, e, hF986⟩ := bindS hF978; clear hF978
            have ea985 := e; clear e
            obtain ⟨p983, m984, c979, c980, c981⟩ := (H.ro (α := List Int) 7 rfl).setp ea985
            refine idxE c979 c980 c981 ?_
            replace H := H.sel [7, 0, 1, 2, 3, 4, 5, 6] rfl
            refine setS (α := Int) H c979 c980 ea985 ?_; clear H c979 c980 c981 ea985; intro w987 H
            obtain ⟨a994, e, hF995⟩ := bindS hF986; clear hF986
            obtain ⟨p992, m993, c988, c989, c990, c991⟩ := (H.ro (α := List Int) 6 rfl).at1 e; clear e
            refine idxE c988 c989 c990 ?_; clear c988 c989 c990
            refine load1 c991 ?_; clear c991
            obtain ⟨a1002, e, hF1003⟩ := bindS hF995; clear hF995
            obtain ⟨p1000, m1001, c996, c997, c998, c999⟩ := (H.ro (α := List Bool) 7 rfl).at1 e; clear e
            refine idxE c996 c997 c998 ?_; clear c996 c997 c998
            refine load1 c999 ?_; clear c999
            obtain ⟨a1004, e, hF1005⟩ := bindS hF1003; clear hF1003
            refine boolO e ?_; clear e
            cases a1004
            · have hF1006 := condF hF1005; clear hF1005
              refine arK hk hmx956 ?_
              have hs := Option.some.inj hF1006; subst hs; clear hF1006
              exact ⟨(), ⟨rfl, rfl, rfl, rfl, rfl, rfl, rfl, rfl, trivial⟩, H.sel [1, 2, 3, 4, 5, 6, 7, 0] rfl⟩
            · have hF1007 := condT hF1005; clear hF1005
              obtain ⟨a1014, e, hF1015⟩ := bindS hF1007; clear hF1007
              have ea1014 := e; clear e
              obtain ⟨p1012, m1013, c1008, c1009, c1010⟩ := (H.ro (α := List Int) 0 rfl).setp ea1014
              refine idxE c1008 c1009 c1010 ?_
              refine setS (α := Int) H c1008 c1009 ea1014 ?_; clear H c1008 c1009 c1010 ea1014; intro w1016 H
              refine arK hk hmx956 ?_
              have hs := Option.some.inj hF1015; subst hs; clear hF1015
              exact ⟨(), ⟨rfl, rfl, rfl, rfl, rfl, rfl, rfl, rfl, trivial⟩, H.sel [1, 2, 3, 4, 5, 6, 7, 0] rfl⟩
          · clear H e
            rintro T1018 _ w1017 (H : Cx w0 fp0 S0 w1017 [Bx b7 [(.int .i64 g__0), (g__1h).v, (g__2h).v, (g__3h).v], Es (List (Int × Int × List Int × List Int)) g__1 g__1h, Es (List Int) g__2 g__2h, Es (List Int) g__3 g__3h, Bx b10 [(.int .i64 0), (.slice none 0 0), (.slice none 0 0), (.slice none 0 0)], E (List Int) r340 h15, E (List Bool) r585 h495, E (List Int) r957 h638])
            refine boolE (z := false) geLen ?_
            refine sq ?_
            refine loadN [(.int .i64 g__0), (g__1h).v, (g__2h).v, (g__3h).v] rfl (fun j u hj => H.bx 0 rfl hj) ?_
            obtain ⟨y1021, e, hF1022⟩ := bindS hF958; clear hF958
            obtain ⟨y1021_0, y1021_1, y1021_2, y1021_3⟩ := y1021
            have ey1021 := e; clear e
            refine callF (spec_hgMap_c g__0 g__1 g__1h g__2 g__2h g__3 g__3h r957 h638 s839_1 y1021_0 y1021_1 y1021_2 y1021_3 ey1021) (Γi := []) H ⟨Vw.sh 1 rfl, Vw.sh 2 rfl, Vw.sh 3 rfl, Vw.own 7 rfl, trivial⟩ ?_; clear H ey1021
            rintro _ _ w1023 ⟨h1024, h1026, h1028, rfl, rfl⟩ (H : Cx w0 fp0 S0 w1023 [E (List (Int × Int × List Int × List Int)) y1021_1 h1024, E (List Int) y1021_2 h1026, E (List Int) y1021_3 h1028, Bx b7 [(.int .i64 g__0), (g__1h).v, (g__2h).v, (g__3h).v], Es (List (Int × Int × List Int × List Int)) g__1 g__1h, Es (List Int) g__2 g__2h, Es (List Int) g__3 g__3h, Bx b10 [(.int .i64 0), (.slice none 0 0), (.slice none 0 0), (.slice none 0 0)], E (List Int) r340 h15, E (List Bool) r585 h495, E (List Int) r957 h638])
            replace H := H.sel [7, 0, 1, 2, 3, 4, 5, 6, 8, 9, 10] rfl
            refine stA gok [(.int .i64 y1021_0), (h1024).v, (h1026).v, (h1028).v] rfl H rfl rfl rfl ?_; clear H; intro w1030 H
            replace H : Cx w0 fp0 S0 w1030 [Bx b10 [(.int .i64 y1021_0), (h1024).v, (h1026).v, (h1028).v], E (List (Int × Int × List Int × List Int)) y1021_1 h1024, E (List Int) y1021_2 h1026, E (List Int) y1021_3 h1028, Bx b7 [(.int .i64 g__0), (g__1h).v, (g__2h).v, (g__3h).v], Es (List (Int × Int × List Int × List Int)) g__1 g__1h, Es (List Int) g__2 g__2h, Es (List Int) g__3 g__3h, E (List Int) r340 h15, E (List Bool) r585 h495, E (List Int) r957 h638] := H
            refine loadN [(.int .i64 y1021_0), (h1024).v, (h1026).v, (h1028).v] rfl (fun j u hj => H.bx 0 rfl hj) ?_
            cases hF1022
            exact ⟨_, _, rfl, ⟨h1024, h1026, h1028, h638, rfl, rfl⟩, (H.sel [1, 2, 3, 10] rfl).close ⟨cloE, cloE, cloE, cloE, trivial⟩⟩

theorem spec_hgGlue_c (g__0 : Int) (g__1 : List (Int × Int × List Int × List Int)) (g__1h : Hd) (g__2 : List Int) (g__2h : Hd) (g__3 : List Int) (g__3h : Hd) (a_ : List Int) (a_h : Hd) (b_ : List Int) (b_h : Hd) (y_0 : Int) (y_1 : List (Int × Int × List Int × List Int)) (y_2 : List Int) (y_3 : List Int) (hF : F_spec_hgGlue (g__0, g__1, g__2, g__3) a_ b_ = some (y_0, y_1, y_2, y_3)) :
    ConF Try.prog 98 #[(.agg #[(.int .i64 g__0), (g__1h).v, (g__2h).v, (g__3h).v]), (a_h).v, (b_h).v] [Es (List (Int × Int × List Int × List Int)) g__1 g__1h, Es (List Int) g__2 g__2h, Es (List Int) g__3 g__3h, Es (List Int) a_ a_h, Es (List Int) b_ b_h] [] (fun v Γ' => ∃ z0 z1 z2 : Hd, v = (.agg #[(.int .i64 y_0), (z0).v, (z1).v, (z2).v]) ∧ Γ' = [E (List (Int × Int × List Int × List Int)) y_1 z0, E (List Int) y_2 z1, E (List Int) y_3 z2]) := by
  intro w0 S0 fp0 hI hS
  have H : Cx w0 fp0 S0 w0 [Es (List (Int × Int × List Int × List Int)) g__1 g__1h, Es (List Int) g__2 g__2h, Es (List Int) g__3 g__3h, Es (List Int) a_ a_h, Es (List Int) b_ b_h] := Cx.start hI hS
  clear hI hS
  refine enterC (args := [_, _, _]) gok Try.func98 rfl _ rfl rfl rfl ?_
  refine box_ H ?_; clear H; intro b7 w6 hx H
  clear hx
  replace H : Cx w0 fp0 S0 w6 [Bx b7 [(.int .i64 g__0), (g__1h).v, (g__2h).v, (g__3h).v], Es (List (Int × Int × List Int × List Int)) g__1 g__1h, Es (List Int) g__2 g__2h, Es (List Int) g__3 g__3h, Es (List Int) a_ a_h, Es (List Int) b_ b_h] := H
  refine alloc_ gok rfl H ?_; clear H; intro b10 w9 hx H
  clear hx
  replace H : Cx w0 fp0 S0 w9 [Bx b10 [(.int .i64 0), (.slice none 0 0), (.slice none 0 0), (.slice none 0 0)], Bx b7 [(.int .i64 g__0), (g__1h).v, (g__2h).v, (g__3h).v], Es (List (Int × Int × List Int × List Int)) g__1 g__1h, Es (List Int) g__2 g__2h, Es (List Int) g__3 g__3h, Es (List Int) a_ a_h, Es (List Int) b_ b_h] := H
  refine loadN [(.int .i64 g__0), (g__1h).v, (g__2h).v, (g__3h).v] rfl (fun j u hj => H.bx 1 rfl hj) ?_
  obtain ⟨y12, e, hF13⟩ := bindS hF; clear hF
  obtain ⟨⟨y12_0_0, y12_0_1, y12_0_2, y12_0_3⟩, y12_1⟩ := y12
  have ey12 := e; clear e
  refine callF (spec_hgGlued_c g__0 g__1 g__1h g__2 g__2h g__3 g__3h a_ a_h b_ b_h y12_0_0 y12_0_1 y12_0_2 y12_0_3 y12_1 ey12) (Γi := []) H ⟨Vw.sh 2 rfl, Vw.sh 3 rfl, Vw.sh 4 rfl, Vw.sh 5 rfl, Vw.sh 6 rfl, trivial⟩ ?_; clear H ey12
  rintro _ _ w14 ⟨h15, h17, h19, h21, rfl, rfl⟩ (H : Cx w0 fp0 S0 w14 [E (List (Int × Int × List Int × List Int)) y12_0_1 h15, E (List Int) y12_0_2 h17, E (List Int) y12_0_3 h19, E (List Int) y12_1 h21, Bx b10 [(.int .i64 0), (.slice none 0 0), (.slice none 0 0), (.slice none 0 0)], Bx b7 [(.int .i64 g__0), (g__1h).v, (g__2h).v, (g__3h).v], Es (List (Int × Int × List Int × List Int)) g__1 g__1h, Es (List Int) g__2 g__2h, Es (List Int) g__3 g__3h, Es (List Int) a_ a_h, Es (List Int) b_ b_h])
  refine alloc_ gok rfl H ?_; clear H; intro b24 w23 hx H
  clear hx
  replace H : Cx w0 fp0 S0 w23 [Bx b24 [(.int .i64 0), (.slice none 0 0), (.slice none 0 0), (.slice none 0 0)], E (List (Int × Int × List Int × List Int)) y12_0_1 h15, E (List Int) y12_0_2 h17, E (List Int) y12_0_3 h19, E (List Int) y12_1 h21, Bx b10 [(.int .i64 0), (.slice none 0 0), (.slice none 0 0), (.slice none 0 0)], Bx b7 [(.int .i64 g__0), (g__1h).v, (g__2h).v, (g__3h).v], Es (List (Int × Int × List Int × List Int)) g__1 g__1h, Es (List Int) g__2 g__2h, Es (List Int) g__3 g__3h, Es (List Int) a_ a_h, Es (List Int) b_ b_h] := H
  refine stA gok [(.int .i64 y12_0_0), (h15).v, (h17).v, (h19).v] rfl H rfl rfl rfl ?_; clear H; intro w26 H
  replace H : Cx w0 fp0 S0 w26 [Bx b24 [(.int .i64 y12_0_0), (h15).v, (h17).v, (h19).v], E (List (Int × Int × List Int × List Int)) y12_0_1 h15, E (List Int) y12_0_2 h17, E (List Int) y12_0_3 h19, E (List Int) y12_1 h21, Bx b10 [(.int .i64 0), (.slice none 0 0), (.slice none 0 0), (.slice none 0 0)], Bx b7 [(.int .i64 g__0), (g__1h).v, (g__2h).v, (g__3h).v], Es (List (Int × Int × List Int × List Int)) g__1 g__1h, Es (List Int) g__2 g__2h, Es (List Int) g__3 g__3h, Es (List Int) a_ a_h, Es (List Int) b_ b_h] := H
  refine loadN [(.int .i64 y12_0_0), (h15).v, (h17).v, (h19).v] rfl (fun j u hj => H.bx 0 rfl hj) ?_
  replace H := H.sel [5, 0, 1, 2, 3, 4, 6, 7, 8, 9, 10, 11] rfl
  refine stA gok [(.int .i64 y12_0_0), (h15).v, (h17).v, (h19).v] rfl H rfl rfl rfl ?_; clear H; intro w27 H
  replace H : Cx w0 fp0 S0 w27 [Bx b10 [(.int .i64 y12_0_0), (h15).v, (h17).v, (h19).v], Bx b24 [(.int .i64 y12_0_0), (h15).v, (h17).v, (h19).v], E (List (Int × Int × List Int × List Int)) y12_0_1 h15, E (List Int) y12_0_2 h17, E (List Int) y12_0_3 h19, E (List Int) y12_1 h21, Bx b7 [(.int .i64 g__0), (g__1h).v, (g__2h).v, (g__3h).v], Es (List (Int × Int × List Int × List Int)) g__1 g__1h, Es (List Int) g__2 g__2h, Es (List Int) g__3 g__3h, Es (List Int) a_ a_h, Es (List Int) b_ b_h] := H
  refine loadN [(.int .i64 y12_0_0), (h15).v, (h17).v, (h19).v] rfl (fun j u hj => H.bx 0 rfl hj) ?_
  cases hF13
  exact ⟨_, _, rfl, ⟨h15, h17, h19, rfl, rfl⟩, (H.sel [2, 3, 4] rfl).close ⟨cloE, cloE, cloE, trivial⟩⟩

theorem spec_hgSeq_c (a__0 : Int) (a__1 : List (Int × Int × List Int × List Int)) (a__1h : Hd) (a__2 : List Int) (a__2h : Hd) (a__3 : List Int) (a__3h : Hd) (b__0 : Int) (b__1 : List (Int × Int × List Int × List Int)) (b__1h : Hd) (b__2 : List Int) (b__2h : Hd) (b__3 : List Int) (b__3h : Hd) (y_0 : Int) (y_1 : List (Int × Int × List Int × List Int)) (y_2 : List Int) (y_3 : List Int) (hF : F_spec_hgSeq (a__0, a__1, a__2, a__3) (b__0, b__1, b__2, b__3) = some (y_0, y_1, y_2, y_3)) :
    ConF Try.prog 60 #[(.agg #[(.int .i64 a__0), (a__1h).v, (a__2h).v, (a__3h).v]), (.agg #[(.int .i64 b__0), (b__1h).v, (b__2h).v, (b__3h).v])] [Es (List (Int × Int × List Int × List Int)) a__1 a__1h, Es (List Int) a__2 a__2h, Es (List Int) a__3 a__3h, Es (List (Int × Int × List Int × List Int)) b__1 b__1h, Es (List Int) b__2 b__2h, Es (List Int) b__3 b__3h] [] (fun v Γ' => ∃ z0 z1 z2 : Hd, v = (.agg #[(.int .i64 y_0), (z0).v, (z1).v, (z2).v]) ∧ Γ' = [E (List (Int × Int × List Int × List Int)) y_1 z0, E (List Int) y_2 z1, E (List Int) y_3 z2]) := by
  intro w0 S0 fp0 hI hS
  have H : Cx w0 fp0 S0 w0 [Es (List (Int × Int × List Int × List Int)) a__1 a__1h, Es (List Int) a__2 a__2h, Es (List Int) a__3 a__3h, Es (List (Int × Int × List Int × List Int)) b__1 b__1h, Es (List Int) b__2 b__2h, Es (List Int) b__3 b__3h] := Cx.start hI hS
  clear hI hS
  refine enterC (args := [_, _]) gok Try.func60 rfl _ rfl rfl rfl ?_
  refine box_ H ?_; clear H; intro b8 w7 hx H
  clear hx
  replace H : Cx w0 fp0 S0 w7 [Bx b8 [(.int .i64 a__0), (a__1h).v, (a__2h).v, (a__3h).v], Es (List (Int × Int × List Int × List Int)) a__1 a__1h, Es (List Int) a__2 a__2h, Es (List Int) a__3 a__3h, Es (List (Int × Int × List Int × List Int)) b__1 b__1h, Es (List Int) b__2 b__2h, Es (List Int) b__3 b__3h] := H
  refine box_ H ?_; clear H; intro b11 w10 hx H
  clear hx
  replace H : Cx w0 fp0 S0 w10 [Bx b11 [(.int .i64 b__0), (b__1h).v, (b__2h).v, (b__3h).v], Bx b8 [(.int .i64 a__0), (a__1h).v, (a__2h).v, (a__3h).v], Es (List (Int × Int × List Int × List Int)) a__1 a__1h, Es (List Int) a__2 a__2h, Es (List Int) a__3 a__3h, Es (List (Int × Int × List Int × List Int)) b__1 b__1h, Es (List Int) b__2 b__2h, Es (List Int) b__3 b__3h] := H
  refine alloc_ gok rfl H ?_; clear H; intro b14 w13 hx H
  clear hx
  replace H : Cx w0 fp0 S0 w13 [Bx b14 [(.int .i64 0), (.slice none 0 0), (.slice none 0 0), (.slice none 0 0)], Bx b11 [(.int .i64 b__0), (b__1h).v, (b__2h).v, (b__3h).v], Bx b8 [(.int .i64 a__0), (a__1h).v, (a__2h).v, (a__3h).v], Es (List (Int × Int × List Int × List Int)) a__1 a__1h, Es (List Int) a__2 a__2h, Es (List Int) a__3 a__3h, Es (List (Int × Int × List Int × List Int)) b__1 b__1h, Es (List Int) b__2 b__2h, Es (List Int) b__3 b__3h] := H
  refine loadN [(.int .i64 a__0), (a__1h).v, (a__2h).v, (a__3h).v] rfl (fun j u hj => H.bx 2 rfl hj) ?_
  refine loadN [(.int .i64 b__0), (b__1h).v, (b__2h).v, (b__3h).v] rfl (fun j u hj => H.bx 1 rfl hj) ?_
  obtain ⟨y16, e, hF17⟩ := bindS hF; clear hF
  obtain ⟨y16_0, y16_1, y16_2, y16_3⟩ := y16
  have ey16 := e; clear e
  refine callF (spec_hgBeside_c a__0 a__1 a__1h a__2 a__2h a__3 a__3h b__0 b__1 b__1h b__2 b__2h b__3 b__3h y16_0 y16_1 y16_2 y16_3 ey16) (Γi := []) H ⟨Vw.sh 3 rfl, Vw.sh 4 rfl, Vw.sh 5 rfl, Vw.sh 6 rfl, Vw.sh 7 rfl, Vw.sh 8 rfl, trivial⟩ ?_; clear H ey16
  rintro _ _ w18 ⟨h19, h21, h23, rfl, rfl⟩ (H : Cx w0 fp0 S0 w18 [E (List (Int × Int × List Int × List Int)) y16_1 h19, E (List Int) y16_2 h21, E (List Int) y16_3 h23, Bx b14 [(.int .i64 0), (.slice none 0 0), (.slice none 0 0), (.slice none 0 0)], Bx b11 [(.int .i64 b__0), (b__1h).v, (b__2h).v, (b__3h).v], Bx b8 [(.int .i64 a__0), (a__1h).v, (a__2h).v, (a__3h).v], Es (List (Int × Int × List Int × List Int)) a__1 a__1h, Es (List Int) a__2 a__2h, Es (List Int) a__3 a__3h, Es (List (Int × Int × List Int × List Int)) b__1 b__1h, Es (List Int) b__2 b__2h, Es (List Int) b__3 b__3h])
  refine alloc_ gok rfl H ?_; clear H; intro b26 w25 hx H
  clear hx
  replace H : Cx w0 fp0 S0 w25 [Bx b26 [(.int .i64 0), (.slice none 0 0), (.slice none 0 0), (.slice none 0 0)], E (List (Int × Int × List Int × List Int)) y16_1 h19, E (List Int) y16_2 h21, E (List Int) y16_3 h23, Bx b14 [(.int .i64 0), (.slice none 0 0), (.slice none 0 0), (.slice none 0 0)], Bx b11 [(.int .i64 b__0), (b__1h).v, (b__2h).v, (b__3h).v], Bx b8 [(.int .i64 a__0), (a__1h).v, (a__2h).v, (a__3h).v], Es (List (Int × Int × List Int × List Int)) a__1 a__1h, Es (List Int) a__2 a__2h, Es (List Int) a__3 a__3h, Es (List (Int × Int × List Int × List Int)) b__1 b__1h, Es (List Int) b__2 b__2h, Es (List Int) b__3 b__3h] := H
  refine stA gok [(.int .i64 y16_0), (h19).v, (h21).v, (h23).v] rfl H rfl rfl rfl ?_; clear H; intro w28 H
  replace H : Cx w0 fp0 S0 w28 [Bx b26 [(.int .i64 y16_0), (h19).v, (h21).v, (h23).v], E (List (Int × Int × List Int × List Int)) y16_1 h19, E (List Int) y16_2 h21, E (List Int) y16_3 h23, Bx b14 [(.int .i64 0), (.slice none 0 0), (.slice none 0 0), (.slice none 0 0)], Bx b11 [(.int .i64 b__0), (b__1h).v, (b__2h).v, (b__3h).v], Bx b8 [(.int .i64 a__0), (a__1h).v, (a__2h).v, (a__3h).v], Es (List (Int × Int × List Int × List Int)) a__1 a__1h, Es (List Int) a__2 a__2h, Es (List Int) a__3 a__3h, Es (List (Int × Int × List Int × List Int)) b__1 b__1h, Es (List Int) b__2 b__2h, Es (List Int) b__3 b__3h] := H
  refine heldX H [] (.fst 0 (.fst 3 (.fst 1 (.fst 2 (.fst 6 (.fst 4 (.fst 5 (.fst 7 .done)))))))) mixed [] trivial (by kernel_rfl) ?_
  clear H; intro w29 H
  have hX : Ext w29 w29 := Upd.refl _ _
  have H0 := H
  refine anyH (fun _ => fld gok rfl rfl rfl rfl ⟨rfl, rfl⟩) ?_
  refine anyH (fun _ => fld gok rfl rfl rfl rfl ⟨rfl, rfl⟩) ?_
  refine load1X (H.bx 6 rfl (j := 2) rfl) ?_
  refine lenE (H.rs (α := List Int) 8 rfl).len ?_
  refine load1X (H.bx 6 rfl (j := 3) rfl) ?_
  refine lenE (H.rs (α := List Int) 9 rfl).len ?_
  refine heldX H [] (.fst 0 (.fst 2 (.fst 5 (.fst 7 (.fst 1 (.fst 3 (.fst 6 (.fst 8 (.act 4 (.act 9 (.fst 10 (.fst 11 .done)))))))))))) mixed [] trivial (by kernel_rfl) ?_
  clear H; intro w30 H
  have hX : Ext w30 w30 := Upd.refl _ _
  have H0 := H
  refine anyH (fun _ => fld gok rfl rfl rfl rfl ⟨rfl, rfl⟩) ?_
  refine anyH (fun _ => fld gok rfl rfl rfl rfl ⟨rfl, rfl⟩) ?_
  refine load1X (H.bx 0 rfl (j := 3) rfl) ?_
  obtain ⟨a31, e, hF32⟩ := bindS hF17; clear hF17
  replace H := H.sel [3, 0, 1, 2, 4, 5, 6, 7, 8, 9, 10, 11, 12] rfl
  replace H := H.frz
  refine slSX (α := Int) gok rfl rfl H 0 rfl e rfl rfl ?_; clear e; intro h33 HH; clear H; have H := HH; clear HH
  refine load1X (H.bx 2 rfl (j := 2) rfl) ?_
  obtain ⟨a35, e, hF36⟩ := bindS hF32; clear hF32
  replace H := H.sel [4, 0, 1, 2, 3, 5, 6, 7, 8, 9, 10, 11, 12, 13] rfl
  replace H := H.frz
  refine slSX (α := Int) (hi := none) gok rfl rfl H 0 rfl e rfl (congrArg (fun n : Nat => some (n : Int)) (H.rs (α := List Int) 0 rfl).len) ?_; clear e; intro h37 HH; clear H; have H := HH; clear HH
  obtain ⟨y39, e, hF40⟩ := bindS hF36; clear hF36
  have ey39 := e; clear e
  refine callFx (spec_l1Own_c a31 h33 y39 ey39) H ⟨Vw.sh 2 rfl, trivial⟩ ?_; clear H ey39
  rintro _ _ w41 ⟨h42, rfl, rfl⟩ hx (H : Cx w0 fp0 S0 w41 [E (List Int) y39 h42, Es (List Int) a35 h37, Es (List Int) y16_2 h21, Es (List Int) a31 h33, Es (List Int) y16_3 h23, Bx b26 [(.int .i64 y16_0), (h19).v, (h21).v, (h23).v], E (List (Int × Int × List Int × List Int)) y16_1 h19, Bx b14 [(.int .i64 0), (.slice none 0 0), (.slice none 0 0), (.slice none 0 0)], Bx b11 [(.int .i64 b__0), (b__1h).v, (b__2h).v, (b__3h).v], Bx b8 [(.int .i64 a__0), (a__1h).v, (a__2h).v, (a__3h).v], Es (List (Int × Int × List Int × List Int)) a__1 a__1h, Es (List Int) a__2 a__2h, Es (List Int) a__3 a__3h, Es (List (Int × Int × List Int × List Int)) b__1 b__1h, Es (List Int) b__2 b__2h, Es (List Int) b__3 b__3h])
  replace hX := hX.trans0 hx; clear hx
  refine hold hX ?_
  obtain ⟨y44, e, hF45⟩ := bindS hF40; clear hF40
  have ey44 := e; clear e
  refine callFx (spec_l1Own_c a35 h37 y44 ey44) H ⟨Vw.sh 1 rfl, trivial⟩ ?_; clear H ey44
  rintro _ _ w46 ⟨h47, rfl, rfl⟩ hx (H : Cx w0 fp0 S0 w46 [E (List Int) y44 h47, E (List Int) y39 h42, Es (List Int) a35 h37, Es (List Int) y16_2 h21, Es (List Int) a31 h33, Es (List Int) y16_3 h23, Bx b26 [(.int .i64 y16_0), (h19).v, (h21).v, (h23).v], E (List (Int × Int × List Int × List Int)) y16_1 h19, Bx b14 [(.int .i64 0), (.slice none 0 0), (.slice none 0 0), (.slice none 0 0)], Bx b11 [(.int .i64 b__0), (b__1h).v, (b__2h).v, (b__3h).v], Bx b8 [(.int .i64 a__0), (a__1h).v, (a__2h).v, (a__3h).v], Es (List (Int × Int × List Int × List Int)) a__1 a__1h, Es (List Int) a__2 a__2h, Es (List Int) a__3 a__3h, Es (List (Int × Int × List Int × List Int)) b__1 b__1h, Es (List Int) b__2 b__2h, Es (List Int) b__3 b__3h])
  replace hX := hX.trans0 hx; clear hx
  refine hold hX ?_
  refine fld gok rfl rfl rfl rfl ?_
  refine load1 (H.bx 6 rfl (j := 2) rfl) ?_
  obtain ⟨a49, e, hF50⟩ := bindS hF45; clear hF45
  refine slS (α := Int) gok rfl rfl H 3 rfl e rfl rfl ?_; clear e H; intro h51 H
  refine fld gok rfl rfl rfl rfl ?_
  replace H := H.sel [7, 0, 1, 2, 3, 4, 5, 6, 8, 9, 10, 11, 12, 13, 14, 15, 16, 17] rfl
  refine stB (j := 2) H rfl rfl ?_; clear H; intro w53 H
  replace H : Cx w0 fp0 S0 w53 [Bx b26 [(.int .i64 y16_0), (h19).v, (h51).v, (h23).v], Es (List Int) a49 h51, E (List Int) y44 h47, E (List Int) y39 h42, Es (List Int) a35 h37, Es (List Int) y16_2 h21, Es (List Int) a31 h33, Es (List Int) y16_3 h23, E (List (Int × Int × List Int × List Int)) y16_1 h19, Bx b14 [(.int .i64 0), (.slice none 0 0), (.slice none 0 0), (.slice none 0 0)], Bx b11 [(.int .i64 b__0), (b__1h).v, (b__2h).v, (b__3h).v], Bx b8 [(.int .i64 a__0), (a__1h).v, (a__2h).v, (a__3h).v], Es (List (Int × Int × List Int × List Int)) a__1 a__1h, Es (List Int) a__2 a__2h, Es (List Int) a__3 a__3h, Es (List (Int × Int × List Int × List Int)) b__1 b__1h, Es (List Int) b__2 b__2h, Es (List Int) b__3 b__3h] := H
  refine fld gok rfl rfl rfl rfl ?_
  refine load1 (H.bx 0 rfl (j := 3) rfl) ?_
  obtain ⟨a54, e, hF55⟩ := bindS hF50; clear hF50
  refine slS (α := Int) (hi := none) gok rfl rfl H 7 rfl e rfl (congrArg (fun n : Nat => some (n : Int)) (H.rs (α := List Int) 7 rfl).len) ?_; clear e H; intro h56 H
  refine fld gok rfl rfl rfl rfl ?_
  replace H := H.sel [1, 0, 2, 3, 4, 5, 6, 7, 8, 9, 10, 11, 12, 13, 14, 15, 16, 17, 18] rfl
  refine stB (j := 3) H rfl rfl ?_; clear H; intro w58 H
  replace H : Cx w0 fp0 S0 w58 [Bx b26 [(.int .i64 y16_0), (h19).v, (h51).v, (h56).v], Es (List Int) a54 h56, Es (List Int) a49 h51, E (List Int) y44 h47, E (List Int) y39 h42, Es (List Int) a35 h37, Es (List Int) y16_2 h21, Es (List Int) a31 h33, Es (List Int) y16_3 h23, E (List (Int × Int × List Int × List Int)) y16_1 h19, Bx b14 [(.int .i64 0), (.slice none 0 0), (.slice none 0 0), (.slice none 0 0)], Bx b11 [(.int .i64 b__0), (b__1h).v, (b__2h).v, (b__3h).v], Bx b8 [(.int .i64 a__0), (a__1h).v, (a__2h).v, (a__3h).v], Es (List (Int × Int × List Int × List Int)) a__1 a__1h, Es (List Int) a__2 a__2h, Es (List Int) a__3 a__3h, Es (List (Int × Int × List Int × List Int)) b__1 b__1h, Es (List Int) b__2 b__2h, Es (List Int) b__3 b__3h] := H
  refine loadN [(.int .i64 y16_0), (h19).v, (h51).v, (h56).v] rfl (fun j u hj => H.bx 0 rfl hj) ?_
  obtain ⟨y59, e, hF60⟩ := bindS hF55; clear hF55
  obtain ⟨y59_0, y59_1, y59_2, y59_3⟩ := y59
  have ey59 := e; clear e
  refine callF (spec_hgGlue_c y16_0 y16_1 h19 a49 h51 a54 h56 y39 h42 y44 h47 y59_0 y59_1 y59_2 y59_3 ey59) (Γi := []) H ⟨Vw.own 9 rfl, Vw.sh 2 rfl, Vw.sh 1 rfl, Vw.own 4 rfl, Vw.own 3 rfl, trivial⟩ ?_; clear H ey59
  rintro _ _ w61 ⟨h62, h64, h66, rfl, rfl⟩ (H : Cx w0 fp0 S0 w61 [E (List (Int × Int × List Int × List Int)) y59_1 h62, E (List Int) y59_2 h64, E (List Int) y59_3 h66, Bx b26 [(.int .i64 y16_0), (h19).v, (h51).v, (h56).v], Es (List Int) a54 h56, Es (List Int) a49 h51, E (List Int) y44 h47, E (List Int) y39 h42, Es (List Int) a35 h37, Es (List Int) y16_2 h21, Es (List Int) a31 h33, Es (List Int) y16_3 h23, E (List (Int × Int × List Int × List Int)) y16_1 h19, Bx b14 [(.int .i64 0), (.slice none 0 0), (.slice none 0 0), (.slice none 0 0)], Bx b11 [(.int .i64 b__0), (b__1h).v, (b__2h).v, (b__3h).v], Bx b8 [(.int .i64 a__0), (a__1h).v, (a__2h).v, (a__3h).v], Es (List (Int × Int × List Int × List Int)) a__1 a__1h, Es (List Int) a__2 a__2h, Es (List Int) a__3 a__3h, Es (List (Int × Int × List Int × List Int)) b__1 b__1h, Es (List Int) b__2 b__2h, Es (List Int) b__3 b__3h])
  replace H := H.sel [13, 0, 1, 2, 3, 4, 5, 6, 7, 8, 9, 10, 11, 12, 14, 15, 16, 17, 18, 19, 20, 21] rfl
  refine stA gok [(.int .i64 y59_0), (h62).v, (h64).v, (h66).v] rfl H rfl rfl rfl ?_; clear H; intro w68 H
  replace H : Cx w0 fp0 S0 w68 [Bx b14 [(.int .i64 y59_0), (h62).v, (h64).v, (h66).v], E (List (Int × Int × List Int × List Int)) y59_1 h62, E (List Int) y59_2 h64, E (List Int) y59_3 h66, Bx b26 [(.int .i64 y16_0), (h19).v, (h51).v, (h56).v], Es (List Int) a54 h56, Es (List Int) a49 h51, E (List Int) y44 h47, E (List Int) y39 h42, Es (List Int) a35 h37, Es (List Int) y16_2 h21, Es (List Int) a31 h33, Es (List Int) y16_3 h23, E (List (Int × Int × List Int × List Int)) y16_1 h19, Bx b11 [(.int .i64 b__0), (b__1h).v, (b__2h).v, (b__3h).v], Bx b8 [(.int .i64 a__0), (a__1h).v, (a__2h).v, (a__3h).v], Es (List (Int × Int × List Int × List Int)) a__1 a__1h, Es (List Int) a__2 a__2h, Es (List Int) a__3 a__3h, Es (List (Int × Int × List Int × List Int)) b__1 b__1h, Es (List Int) b__2 b__2h, Es (List Int) b__3 b__3h] := H
  refine loadN [(.int .i64 y59_0), (h62).v, (h64).v, (h66).v] rfl (fun j u hj => H.bx 0 rfl hj) ?_
  cases hF60
  exact ⟨_, _, rfl, ⟨h62, h64, h66, rfl, rfl⟩, (H.sel [1, 2, 3] rfl).close ⟨cloE, cloE, cloE, trivial⟩⟩

theorem spec_hgIf_c (g__0 : Int) (g__1 : List (Int × Int × List Int × List Int)) (g__1h : Hd) (g__2 : List Int) (g__2h : Hd) (g__3 : List Int) (g__3h : Hd) (y0_0 : Int) (y0_1 : List (Int × Int × List Int × List Int)) (y0_2 : List Int) (y0_3 : List Int) (y1 : Bool) (hF : F_spec_hgIf (g__0, g__1, g__2, g__3) = some ((y0_0, y0_1, y0_2, y0_3), y1)) :
    ConS Try.prog 55 #[(.agg #[(.int .i64 g__0), (g__1h).v, (g__2h).v, (g__3h).v])] [Es (List (Int × Int × List Int × List Int)) g__1 g__1h, Es (List Int) g__2 g__2h, Es (List Int) g__3 g__3h] [] (fun v Γ' => ∃ z0 z1 z2 : Hd, v = (.tuple #[(.agg #[(.int .i64 y0_0), (z0).v, (z1).v, (z2).v]), (.bool y1)]) ∧ Γ' = [Es (List (Int × Int × List Int × List Int)) y0_1 z0, Es (List Int) y0_2 z1, Es (List Int) y0_3 z2]) := by
  intro w0 S0 fp0 hI hS
  have H : Cx w0 fp0 S0 w0 [Es (List (Int × Int × List Int × List Int)) g__1 g__1h, Es (List Int) g__2 g__2h, Es (List Int) g__3 g__3h] := Cx.start hI hS
  clear hI hS
  refine enterC (args := [_]) gok Try.func55 rfl _ rfl rfl rfl ?_
  refine box_ H ?_; clear H; intro b5 w4 hx H
  clear hx
  replace H : Cx w0 fp0 S0 w4 [Bx b5 [(.int .i64 g__0), (g__1h).v, (g__2h).v, (g__3h).v], Es (List (Int × Int × List Int × List Int)) g__1 g__1h, Es (List Int) g__2 g__2h, Es (List Int) g__3 g__3h] := H
  refine alloc_ gok rfl H ?_; clear H; intro b8 w7 hx H
  clear hx
  replace H : Cx w0 fp0 S0 w7 [Bx b8 [(.int .i64 0), (.slice none 0 0), (.slice none 0 0), (.slice none 0 0)], Bx b5 [(.int .i64 g__0), (g__1h).v, (g__2h).v, (g__3h).v], Es (List (Int × Int × List Int × List Int)) g__1 g__1h, Es (List Int) g__2 g__2h, Es (List Int) g__3 g__3h] := H
  refine sq ?_
  refine loadN [(.int .i64 g__0), (g__1h).v, (g__2h).v, (g__3h).v] rfl (fun j u hj => H.bx 1 rfl hj) ?_
  obtain ⟨y10, e, hF11⟩ := bindS hF; clear hF
  have ey10 := e; clear e
  refine callF (spec_hgValid_c g__0 g__1 g__1h g__2 g__2h g__3 g__3h y10 ey10) (Γi := []) H ⟨Vw.sh 2 rfl, Vw.sh 3 rfl, Vw.sh 4 rfl, trivial⟩ ?_; clear H ey10
  rintro _ _ w12 ⟨rfl, rfl⟩ (H : Cx w0 fp0 S0 w12 [Bx b8 [(.int .i64 0), (.slice none 0 0), (.slice none 0 0), (.slice none 0 0)], Bx b5 [(.int .i64 g__0), (g__1h).v, (g__2h).v, (g__3h).v], Es (List (Int × Int × List Int × List Int)) g__1 g__1h, Es (List Int) g__2 g__2h, Es (List Int) g__3 g__3h])
  obtain ⟨a13, e, hF14⟩ := bindS hF11; clear hF11
  refine boolO e ?_; clear e
  cases a13
  · have hF15 := condF hF14; clear hF14
    refine loadN [(.int .i64 g__0), (g__1h).v, (g__2h).v, (g__3h).v] rfl (fun j u hj => H.bx 1 rfl hj) ?_
    refine stA gok [(.int .i64 g__0), (g__1h).v, (g__2h).v, (g__3h).v] rfl H rfl rfl rfl ?_; clear H; intro w16 H
    replace H : Cx w0 fp0 S0 w16 [Bx b8 [(.int .i64 g__0), (g__1h).v, (g__2h).v, (g__3h).v], Bx b5 [(.int .i64 g__0), (g__1h).v, (g__2h).v, (g__3h).v], Es (List (Int × Int × List Int × List Int)) g__1 g__1h, Es (List Int) g__2 g__2h, Es (List Int) g__3 g__3h] := H
    refine loadN [(.int .i64 g__0), (g__1h).v, (g__2h).v, (g__3h).v] rfl (fun j u hj => H.bx 0 rfl hj) ?_
    cases hF15
    exact ⟨_, _, rfl, ⟨g__1h, g__2h, g__3h, rfl, rfl⟩, (H.sel [2, 3, 4] rfl)⟩
  · have hF17 := condT hF14; clear hF14
    refine build_ (cs := #[(.int .i64 0), (.slice none 0 0), (.slice none 0 0), (.slice none 0 0)]) gok rfl rfl rfl ?_
    refine stA gok [(.int .i64 0), (.slice none 0 0), (.slice none 0 0), (.slice none 0 0)] rfl H rfl rfl rfl ?_; clear H; intro w18 H
    replace H : Cx w0 fp0 S0 w18 [Bx b8 [(.int .i64 0), (.slice none 0 0), (.slice none 0 0), (.slice none 0 0)], Bx b5 [(.int .i64 g__0), (g__1h).v, (g__2h).v, (g__3h).v], Es (List (Int × Int × List Int × List Int)) g__1 g__1h, Es (List Int) g__2 g__2h, Es (List Int) g__3 g__3h] := H
    refine loadN [(.int .i64 0), (.slice none 0 0), (.slice none 0 0), (.slice none 0 0)] rfl (fun j u hj => H.bx 0 rfl hj) ?_
    replace H := H.nil (α := Int × Int × List Int × List Int)
    replace H := H.frz
    replace H := H.nil (α := Int)
    replace H := H.frz
    replace H := H.nil (α := Int)
    replace H := H.frz
    cases hF17
    exact ⟨_, _, rfl, ⟨nilH, nilH, nilH, rfl, rfl⟩, (H.sel [2, 1, 0] rfl)⟩

theorem spec_SeqGraphs_c (a__0 : Int) (a__1 : List (Int × Int × List Int × List Int)) (a__1h : Hd) (a__2 : List Int) (a__2h : Hd) (a__3 : List Int) (a__3h : Hd) (b__0 : Int) (b__1 : List (Int × Int × List Int × List Int)) (b__1h : Hd) (b__2 : List Int) (b__2h : Hd) (b__3 : List Int) (b__3h : Hd) (y0_0 : Int) (y0_1 : List (Int × Int × List Int × List Int)) (y0_2 : List Int) (y0_3 : List Int) (y1 : Bool) (hF : F_spec_SeqGraphs (a__0, a__1, a__2, a__3) (b__0, b__1, b__2, b__3) = some ((y0_0, y0_1, y0_2, y0_3), y1)) :
    ConS Try.prog 26 #[(.agg #[(.int .i64 a__0), (a__1h).v, (a__2h).v, (a__3h).v]), (.agg #[(.int .i64 b__0), (b__1h).v, (b__2h).v, (b__3h).v])] [Es (List (Int × Int × List Int × List Int)) a__1 a__1h, Es (List Int) a__2 a__2h, Es (List Int) a__3 a__3h, Es (List (Int × Int × List Int × List Int)) b__1 b__1h, Es (List Int) b__2 b__2h, Es (List Int) b__3 b__3h] [] (fun v Γ' => ∃ z0 z1 z2 : Hd, v = (.tuple #[(.agg #[(.int .i64 y0_0), (z0).v, (z1).v, (z2).v]), (.bool y1)]) ∧ Γ' = [Es (List (Int × Int × List Int × List Int)) y0_1 z0, Es (List Int) y0_2 z1, Es (List Int) y0_3 z2]) := by
  intro w0 S0 fp0 hI hS
  have H : Cx w0 fp0 S0 w0 [Es (List (Int × Int × List Int × List Int)) a__1 a__1h, Es (List Int) a__2 a__2h, Es (List Int) a__3 a__3h, Es (List (Int × Int × List Int × List Int)) b__1 b__1h, Es (List Int) b__2 b__2h, Es (List Int) b__3 b__3h] := Cx.start hI hS
  clear hI hS
  refine enterC (args := [_, _]) gok Try.func26 rfl _ rfl rfl rfl ?_
  refine box_ H ?_; clear H; intro b8 w7 hx H
  clear hx
  replace H : Cx w0 fp0 S0 w7 [Bx b8 [(.int .i64 a__0), (a__1h).v, (a__2h).v, (a__3h).v], Es (List (Int × Int × List Int × List Int)) a__1 a__1h, Es (List Int) a__2 a__2h, Es (List Int) a__3 a__3h, Es (List (Int × Int × List Int × List Int)) b__1 b__1h, Es (List Int) b__2 b__2h, Es (List Int) b__3 b__3h] := H
  refine box_ H ?_; clear H; intro b11 w10 hx H
  clear hx
  replace H : Cx w0 fp0 S0 w10 [Bx b11 [(.int .i64 b__0), (b__1h).v, (b__2h).v, (b__3h).v], Bx b8 [(.int .i64 a__0), (a__1h).v, (a__2h).v, (a__3h).v], Es (List (Int × Int × List Int × List Int)) a__1 a__1h, Es (List Int) a__2 a__2h, Es (List Int) a__3 a__3h, Es (List (Int × Int × List Int × List Int)) b__1 b__1h, Es (List Int) b__2 b__2h, Es (List Int) b__3 b__3h] := H
  refine alloc_ gok rfl H ?_; clear H; intro b14 w13 hx H
  clear hx
  replace H : Cx w0 fp0 S0 w13 [Bx b14 [(.int .i64 0), (.slice none 0 0), (.slice none 0 0), (.slice none 0 0)], Bx b11 [(.int .i64 b__0), (b__1h).v, (b__2h).v, (b__3h).v], Bx b8 [(.int .i64 a__0), (a__1h).v, (a__2h).v, (a__3h).v], Es (List (Int × Int × List Int × List Int)) a__1 a__1h, Es (List Int) a__2 a__2h, Es (List Int) a__3 a__3h, Es (List (Int × Int × List Int × List Int)) b__1 b__1h, Es (List Int) b__2 b__2h, Es (List Int) b__3 b__3h] := H
  refine sq ?_
  obtain ⟨r34, hF36, hF35⟩ := bindS hF; clear hF
  refine cut (fun (q37 : Bool) => [(2, (.pointer (some ⟨b8, 0, none⟩))), (3, (.pointer (some ⟨b11, 0, none⟩))), (4, (.pointer (some ⟨b14, 0, none⟩))), (22, (.bool q37))]) (fun (q37 : Bool) w' => q37 = r34 ∧ Cx w0 fp0 S0 w' [Bx b8 [(.int .i64 a__0), (a__1h).v, (a__2h).v, (a__3h).v], Es (List (Int × Int × List Int × List Int)) a__1 a__1h, Es (List Int) a__2 a__2h, Es (List Int) a__3 a__3h, Bx b11 [(.int .i64 b__0), (b__1h).v, (b__2h).v, (b__3h).v], Es (List (Int × Int × List Int × List Int)) b__1 b__1h, Es (List Int) b__2 b__2h, Es (List Int) b__3 b__3h, Bx b14 [(.int .i64 0), (.slice none 0 0), (.slice none 0 0), (.slice none 0 0)]]) ?_ ?_
  · skip
    refine loadN [(.int .i64 a__0), (a__1h).v, (a__2h).v, (a__3h).v] rfl (fun j u hj => H.bx 2 rfl hj) ?_
    obtain ⟨y38, e, hF39⟩ := bindS hF36; clear hF36
    have ey38 := e; clear e
    refine callF (spec_hgValid_c a__0 a__1 a__1h a__2 a__2h a__3 a__3h y38 ey38) (Γi := []) H ⟨Vw.sh 3 rfl, Vw.sh 4 rfl, Vw.sh 5 rfl, trivial⟩ ?_; clear H ey38
    rintro _ _ w40 ⟨rfl, rfl⟩ (H : Cx w0 fp0 S0 w40 [Bx b14 [(.int .i64 0), (.slice none 0 0), (.slice none 0 0), (.slice none 0 0)], Bx b11 [(.int .i64 b__0), (b__1h).v, (b__2h).v, (b__3h).v], Bx b8 [(.int .i64 a__0), (a__1h).v, (a__2h).v, (a__3h).v], Es (List (Int × Int × List Int × List Int)) a__1 a__1h, Es (List Int) a__2 a__2h, Es (List Int) a__3 a__3h, Es (List (Int × Int × List Int × List Int)) b__1 b__1h, Es (List Int) b__2 b__2h, Es (List Int) b__3 b__3h])
    obtain ⟨a41, e, hF42⟩ := bindS hF39; clear hF39
    refine boolO e ?_; clear e
    cases a41
    · have hF43 := condF hF42; clear hF42
      refine loadN [(.int .i64 b__0), (b__1h).v, (b__2h).v, (b__3h).v] rfl (fun j u hj => H.bx 1 rfl hj) ?_
      obtain ⟨y44, e, hF45⟩ := bindS hF43; clear hF43
      have ey44 := e; clear e
      refine callF (spec_hgValid_c b__0 b__1 b__1h b__2 b__2h b__3 b__3h y44 ey44) (Γi := []) H ⟨Vw.sh 6 rfl, Vw.sh 7 rfl, Vw.sh 8 rfl, trivial⟩ ?_; clear H ey44
      rintro _ _ w46 ⟨rfl, rfl⟩ (H : Cx w0 fp0 S0 w46 [Bx b14 [(.int .i64 0), (.slice none 0 0), (.slice none 0 0), (.slice none 0 0)], Bx b11 [(.int .i64 b__0), (b__1h).v, (b__2h).v, (b__3h).v], Bx b8 [(.int .i64 a__0), (a__1h).v, (a__2h).v, (a__3h).v], Es (List (Int × Int × List Int × List Int)) a__1 a__1h, Es (List Int) a__2 a__2h, Es (List Int) a__3 a__3h, Es (List (Int × Int × List Int × List Int)) b__1 b__1h, Es (List Int) b__2 b__2h, Es (List Int) b__3 b__3h])
      obtain ⟨a47, e, hF48⟩ := bindS hF45; clear hF45
      refine boolO e ?_; clear e
      cases a47
      · have hF49 := condF hF48; clear hF48
        refine fld gok rfl rfl rfl rfl ?_
        refine load1 (H.bx 2 rfl (j := 3) rfl) ?_
        refine lenE (H.rs (α := List Int) 5 rfl).len ?_
        refine fld gok rfl rfl rfl rfl ?_
        refine load1 (H.bx 1 rfl (j := 2) rfl) ?_
        refine lenE (H.rs (α := List Int) 7 rfl).len ?_
        obtain ⟨a50, e, hF51⟩ := bindS hF49; clear hF49
        refine boolO e ?_; clear e
        exact ⟨a50, ⟨rfl, rfl, rfl, rfl, trivial⟩, Option.some.inj hF51, H.sel [2, 3, 4, 5, 1, 6, 7, 8, 0] rfl⟩
      · have hF52 := condT hF48; clear hF48
        exact ⟨true, ⟨rfl, rfl, rfl, rfl, trivial⟩, Option.some.inj hF52, H.sel [2, 3, 4, 5, 1, 6, 7, 8, 0] rfl⟩
    · have hF53 := condT hF42; clear hF42
      exact ⟨true, ⟨rfl, rfl, rfl, rfl, trivial⟩, Option.some.inj hF53, H.sel [2, 3, 4, 5, 1, 6, 7, 8, 0] rfl⟩
  · clear hF36 H
    rintro T55 s32 w54 ⟨hr, (H : Cx w0 fp0 S0 w54 [Bx b8 [(.int .i64 a__0), (a__1h).v, (a__2h).v, (a__3h).v], Es (List (Int × Int × List Int × List Int)) a__1 a__1h, Es (List Int) a__2 a__2h, Es (List Int) a__3 a__3h, Bx b11 [(.int .i64 b__0), (b__1h).v, (b__2h).v, (b__3h).v], Es (List (Int × Int × List Int × List Int)) b__1 b__1h, Es (List Int) b__2 b__2h, Es (List Int) b__3 b__3h, Bx b14 [(.int .i64 0), (.slice none 0 0), (.slice none 0 0), (.slice none 0 0)]])⟩
    subst hr
    cases s32
    · have hF56 := condF hF35; clear hF35
      refine loadN [(.int .i64 a__0), (a__1h).v, (a__2h).v, (a__3h).v] rfl (fun j u hj => H.bx 0 rfl hj) ?_
      refine loadN [(.int .i64 b__0), (b__1h).v, (b__2h).v, (b__3h).v] rfl (fun j u hj => H.bx 4 rfl hj) ?_
      obtain ⟨y57, e, hF58⟩ := bindS hF56; clear hF56
      obtain ⟨y57_0, y57_1, y57_2, y57_3⟩ := y57
      have ey57 := e; clear e
      refine callF (spec_hgSeq_c a__0 a__1 a__1h a__2 a__2h a__3 a__3h b__0 b__1 b__1h b__2 b__2h b__3 b__3h y57_0 y57_1 y57_2 y57_3 ey57) (Γi := []) H ⟨Vw.sh 1 rfl, Vw.sh 2 rfl, Vw.sh 3 rfl, Vw.sh 5 rfl, Vw.sh 6 rfl, Vw.sh 7 rfl, trivial⟩ ?_; clear H ey57
      rintro _ _ w59 ⟨h60, h62, h64, rfl, rfl⟩ (H : Cx w0 fp0 S0 w59 [E (List (Int × Int × List Int × List Int)) y57_1 h60, E (List Int) y57_2 h62, E (List Int) y57_3 h64, Bx b8 [(.int .i64 a__0), (a__1h).v, (a__2h).v, (a__3h).v], Es (List (Int × Int × List Int × List Int)) a__1 a__1h, Es (List Int) a__2 a__2h, Es (List Int) a__3 a__3h, Bx b11 [(.int .i64 b__0), (b__1h).v, (b__2h).v, (b__3h).v], Es (List (Int × Int × List Int × List Int)) b__1 b__1h, Es (List Int) b__2 b__2h, Es (List Int) b__3 b__3h, Bx b14 [(.int .i64 0), (.slice none 0 0), (.slice none 0 0), (.slice none 0 0)]])
      obtain ⟨y66, e, hF67⟩ := bindS hF58; clear hF58
      obtain ⟨⟨y66_0_0, y66_0_1, y66_0_2, y66_0_3⟩, y66_1⟩ := y66
      have ey66 := e; clear e
      replace H := H.frz
      replace H := H.sel [1, 0, 2, 3, 4, 5, 6, 7, 8, 9, 10, 11] rfl
      replace H := H.frz
      replace H := H.sel [2, 0, 1, 3, 4, 5, 6, 7, 8, 9, 10, 11] rfl
      replace H := H.frz
      refine callS (spec_hgIf_c y57_0 y57_1 h60 y57_2 h62 y57_3 h64 y66_0_0 y66_0_1 y66_0_2 y66_0_3 y66_1 ey66) (Γi := []) H [2, 1, 0] rfl (persC persS (persC persS (persC persS persN))) ?_; clear H ey66
      rintro _ _ w68 ⟨h69, h71, h73, rfl, rfl⟩ (H : Cx w0 fp0 S0 w68 [Es (List (Int × Int × List Int × List Int)) y66_0_1 h69, Es (List Int) y66_0_2 h71, Es (List Int) y66_0_3 h73, Es (List Int) y57_3 h64, Es (List Int) y57_2 h62, Es (List (Int × Int × List Int × List Int)) y57_1 h60, Bx b8 [(.int .i64 a__0), (a__1h).v, (a__2h).v, (a__3h).v], Es (List (Int × Int × List Int × List Int)) a__1 a__1h, Es (List Int) a__2 a__2h, Es (List Int) a__3 a__3h, Bx b11 [(.int .i64 b__0), (b__1h).v, (b__2h).v, (b__3h).v], Es (List (Int × Int × List Int × List Int)) b__1 b__1h, Es (List Int) b__2 b__2h, Es (List Int) b__3 b__3h, Bx b14 [(.int .i64 0), (.slice none 0 0), (.slice none 0 0), (.slice none 0 0)]])
      replace H := H.sel [14, 0, 1, 2, 3, 4, 5, 6, 7, 8, 9, 10, 11, 12, 13] rfl
      refine stA gok [(.int .i64 y66_0_0), (h69).v, (h71).v, (h73).v] rfl H rfl rfl rfl ?_; clear H; intro w75 H
      replace H : Cx w0 fp0 S0 w75 [Bx b14 [(.int .i64 y66_0_0), (h69).v, (h71).v, (h73).v], Es (List (Int × Int × List Int × List Int)) y66_0_1 h69, Es (List Int) y66_0_2 h71, Es (List Int) y66_0_3 h73, Es (List Int) y57_3 h64, Es (List Int) y57_2 h62, Es (List (Int × Int × List Int × List Int)) y57_1 h60, Bx b8 [(.int .i64 a__0), (a__1h).v, (a__2h).v, (a__3h).v], Es (List (Int × Int × List Int × List Int)) a__1 a__1h, Es (List Int) a__2 a__2h, Es (List Int) a__3 a__3h, Bx b11 [(.int .i64 b__0), (b__1h).v, (b__2h).v, (b__3h).v], Es (List (Int × Int × List Int × List Int)) b__1 b__1h, Es (List Int) b__2 b__2h, Es (List Int) b__3 b__3h] := H
      refine loadN [(.int .i64 y66_0_0), (h69).v, (h71).v, (h73).v] rfl (fun j u hj => H.bx 0 rfl hj) ?_
      cases hF67
      exact ⟨_, _, rfl, ⟨h69, h71, h73, rfl, rfl⟩, (H.sel [1, 2, 3] rfl)⟩
    · have hF76 := condT hF35; clear hF35
      refine build_ (cs := #[(.int .i64 0), (.slice none 0 0), (.slice none 0 0), (.slice none 0 0)]) gok rfl rfl rfl ?_
      replace H := H.sel [8, 0, 1, 2, 3, 4, 5, 6, 7] rfl
      refine stA gok [(.int .i64 0), (.slice none 0 0), (.slice none 0 0), (.slice none 0 0)] rfl H rfl rfl rfl ?_; clear H; intro w77 H
      replace H : Cx w0 fp0 S0 w77 [Bx b14 [(.int .i64 0), (.slice none 0 0), (.slice none 0 0), (.slice none 0 0)], Bx b8 [(.int .i64 a__0), (a__1h).v, (a__2h).v, (a__3h).v], Es (List (Int × Int × List Int × List Int)) a__1 a__1h, Es (List Int) a__2 a__2h, Es (List Int) a__3 a__3h, Bx b11 [(.int .i64 b__0), (b__1h).v, (b__2h).v, (b__3h).v], Es (List (Int × Int × List Int × List Int)) b__1 b__1h, Es (List Int) b__2 b__2h, Es (List Int) b__3 b__3h] := H
      refine loadN [(.int .i64 0), (.slice none 0 0), (.slice none 0 0), (.slice none 0 0)] rfl (fun j u hj => H.bx 0 rfl hj) ?_
      replace H := H.nil (α := Int × Int × List Int × List Int)
      replace H := H.frz
      replace H := H.nil (α := Int)
      replace H := H.frz
      replace H := H.nil (α := Int)
      replace H := H.frz
      cases hF76
      exact ⟨_, _, rfl, ⟨nilH, nilH, nilH, rfl, rfl⟩, (H.sel [2, 1, 0] rfl)⟩

theorem impl_within_c (n_ : Int) (low_ : Int) (high_ : Int) (y : Bool) (hF : F_impl_within n_ low_ high_ = some y) :
    ConF Try.prog 53 #[(.int .i64 n_), (.int .i64 low_), (.int .i64 high_)] [] [] (fun v Γ' => v = (.bool y) ∧ Γ' = []) := by
  intro w0 S0 fp0 hI hS
  have H : Cx w0 fp0 S0 w0 [] := Cx.start hI hS
  clear hI hS
  refine enterC (args := [_, _, _]) gok Try.func53 rfl _ rfl rfl rfl ?_
  obtain ⟨r9, hF11, hF10⟩ := bindS hF; clear hF
  refine cut (fun (q12 : Bool) => [(6, (.bool q12))]) (fun (q12 : Bool) w' => q12 = r9 ∧ Cx w0 fp0 S0 w' []) ?_ ?_
  · skip
    obtain ⟨a13, e, hF14⟩ := bindS hF11; clear hF11
    refine boolO e ?_; clear e
    cases a13
    · have hF15 := condF hF14; clear hF14
      exact ⟨false, ⟨rfl, trivial⟩, Option.some.inj hF15, H.sel [] rfl⟩
    · have hF16 := condT hF14; clear hF14
      obtain ⟨a17, e, hF18⟩ := bindS hF16; clear hF16
      refine boolO e ?_; clear e
      exact ⟨a17, ⟨rfl, trivial⟩, Option.some.inj hF18, H.sel [] rfl⟩
  · clear hF11 H
    rintro T20 s7 w19 ⟨hr, (H : Cx w0 fp0 S0 w19 [])⟩
    subst hr
    cases hF10
    exact ⟨_, _, rfl, ⟨rfl, rfl⟩, (H.sel [] rfl).close trivial⟩

theorem impl_isGenerator_c (kind_ : Int) (y : Bool) (hF : F_impl_isGenerator kind_ = some y) :
    ConF Try.prog 120 #[(.int .i64 kind_)] [] [] (fun v Γ' => v = (.bool y) ∧ Γ' = []) := by
  intro w0 S0 fp0 hI hS
  have H : Cx w0 fp0 S0 w0 [] := Cx.start hI hS
  clear hI hS
  refine enterC (args := [_]) gok Try.func120 rfl _ rfl rfl rfl ?_
  obtain ⟨y1, e, hF2⟩ := bindS hF; clear hF
  have ey1 := e; clear e
  refine callF (impl_within_c kind_ 3 14 y1 ey1) (Γi := []) H trivial ?_; clear H ey1
  rintro _ _ w3 ⟨rfl, rfl⟩ (H : Cx w0 fp0 S0 w3 [])
  cases hF2
  exact ⟨_, _, rfl, ⟨rfl, rfl⟩, (H.sel [] rfl).close trivial⟩

theorem impl_hasValue_c (kind_ : Int) (y : Bool) (hF : F_impl_hasValue kind_ = some y) :
    ConF Try.prog 144 #[(.int .i64 kind_)] [] [] (fun v Γ' => v = (.bool y) ∧ Γ' = []) := by
  intro w0 S0 fp0 hI hS
  have H : Cx w0 fp0 S0 w0 [] := Cx.start hI hS
  clear hI hS
  refine enterC (args := [_]) gok Try.func144 rfl _ rfl rfl rfl ?_
  obtain ⟨r9, hF11, hF10⟩ := bindS hF; clear hF
  refine cut (fun (q12 : Bool) => [(2, (.bool q12))]) (fun (q12 : Bool) w' => q12 = r9 ∧ Cx w0 fp0 S0 w' []) ?_ ?_
  · skip
    obtain ⟨a13, e, hF14⟩ := bindS hF11; clear hF11
    refine boolO e ?_; clear e
    cases a13
    · have hF15 := condF hF14; clear hF14
      obtain ⟨a16, e, hF17⟩ := bindS hF15; clear hF15
      refine boolO e ?_; clear e
      exact ⟨a16, ⟨rfl, trivial⟩, Option.some.inj hF17, H.sel [] rfl⟩
    · have hF18 := condT hF14; clear hF14
      exact ⟨true, ⟨rfl, trivial⟩, Option.some.inj hF18, H.sel [] rfl⟩
  · clear hF11 H
    rintro T20 s7 w19 ⟨hr, (H : Cx w0 fp0 S0 w19 [])⟩
    subst hr
    cases hF10
    exact ⟨_, _, rfl, ⟨rfl, rfl⟩, (H.sel [] rfl).close trivial⟩

theorem impl_isGeneratorValue_c (kind_ : Int) (value_ : Int) (y : Bool) (hF : F_impl_isGeneratorValue kind_ value_ = some y) :
    ConF Try.prog 121 #[(.int .i64 kind_), (.int .i64 value_)] [] [] (fun v Γ' => v = (.bool y) ∧ Γ' = []) := by
  intro w0 S0 fp0 hI hS
  have H : Cx w0 fp0 S0 w0 [] := Cx.start hI hS
  clear hI hS
  refine enterC (args := [_, _]) gok Try.func121 rfl _ rfl rfl rfl ?_
  refine sq ?_
  obtain ⟨y1, e, hF2⟩ := bindS hF; clear hF
  have ey1 := e; clear e
  refine callF (impl_hasValue_c kind_ y1 ey1) (Γi := []) H trivial ?_; clear H ey1
  rintro _ _ w3 ⟨rfl, rfl⟩ (H : Cx w0 fp0 S0 w3 [])
  cases y1
  · have hF4 := condF hF2; clear hF2
    obtain ⟨a5, e, hF6⟩ := bindS hF4; clear hF4
    refine boolO e ?_; clear e
    cases hF6
    exact ⟨_, _, rfl, ⟨rfl, rfl⟩, (H.sel [] rfl).close trivial⟩
  · have hF7 := condT hF2; clear hF2
    obtain ⟨y8, e, hF9⟩ := bindS hF7; clear hF7
    have ey8 := e; clear e
    refine callF (impl_within_c value_ 0 96 y8 ey8) (Γi := []) H trivial ?_; clear H ey8
    rintro _ _ w10 ⟨rfl, rfl⟩ (H : Cx w0 fp0 S0 w10 [])
    cases hF9
    exact ⟨_, _, rfl, ⟨rfl, rfl⟩, (H.sel [] rfl).close trivial⟩

theorem impl_generatorWires_c (kind_ : Int) (y_0 : Int) (y_1 : Int) (hF : F_impl_generatorWires kind_ = some (y_0, y_1)) :
    ConF Try.prog 122 #[(.int .i64 kind_)] [] [] (fun v Γ' => v = (.agg #[(.int .i64 y_0), (.int .i64 y_1)]) ∧ Γ' = []) := by
  intro w0 S0 fp0 hI hS
  have H : Cx w0 fp0 S0 w0 [] := Cx.start hI hS
  clear hI hS
  refine enterC (args := [_]) gok Try.func122 rfl _ rfl rfl rfl ?_
  refine alloc_ gok rfl H ?_; clear H; intro b2 w1 hx H
  clear hx
  replace H : Cx w0 fp0 S0 w1 [Bx b2 [(.int .i64 0), (.int .i64 0)]] := H
  refine build_ (cs := #[(.int .i64 1), (.int .i64 2)]) gok rfl rfl rfl ?_
  refine build_ (cs := #[(.int .i64 1), (.int .i64 0)]) gok rfl rfl rfl ?_
  refine build_ (cs := #[(.int .i64 2), (.int .i64 1)]) gok rfl rfl rfl ?_
  refine build_ (cs := #[(.int .i64 0), (.int .i64 1)]) gok rfl rfl rfl ?_
  refine build_ (cs := #[(.int .i64 1), (.int .i64 1)]) gok rfl rfl rfl ?_
  refine build_ (cs := #[(.int .i64 1), (.int .i64 1)]) gok rfl rfl rfl ?_
  refine buildAr (cs := #[(.int .i64 1), (.int .i64 2), (.int .i64 1), (.int .i64 0), (.int .i64 2), (.int .i64 1), (.int .i64 0), (.int .i64 1), (.int .i64 1), (.int .i64 1), (.int .i64 1), (.int .i64 1)]) gok rfl rfl rfl ?_
  refine alloc_ gok rfl H ?_; clear H; intro b5 w4 hx H
  clear hx
  replace H : Cx w0 fp0 S0 w4 [Bx b5 [(.int .i64 0), (.int .i64 0), (.int .i64 0), (.int .i64 0), (.int .i64 0), (.int .i64 0), (.int .i64 0), (.int .i64 0), (.int .i64 0), (.int .i64 0), (.int .i64 0), (.int .i64 0)], Bx b2 [(.int .i64 0), (.int .i64 0)]] := H
  refine stA gok [(.int .i64 1), (.int .i64 2), (.int .i64 1), (.int .i64 0), (.int .i64 2), (.int .i64 1), (.int .i64 0), (.int .i64 1), (.int .i64 1), (.int .i64 1), (.int .i64 1), (.int .i64 1)] rfl H rfl rfl rfl ?_; clear H; intro w7 H
  replace H : Cx w0 fp0 S0 w7 [Bx b5 [(.int .i64 1), (.int .i64 2), (.int .i64 1), (.int .i64 0), (.int .i64 2), (.int .i64 1), (.int .i64 0), (.int .i64 1), (.int .i64 1), (.int .i64 1), (.int .i64 1), (.int .i64 1)], Bx b2 [(.int .i64 0), (.int .i64 0)]] := H
  refine sq ?_
  obtain ⟨a8, e, hF9⟩ := bindS hF; clear hF
  refine boolO e ?_; clear e
  cases a8
  · have hF10 := condF hF9; clear hF9
    obtain ⟨a11, e, hF12⟩ := bindS hF10; clear hF10
    refine arO e ?_; clear e
    obtain ⟨a13, e, hF14⟩ := bindS hF12; clear hF12
    obtain ⟨p15, c16, c17, c18⟩ := H.bxV (s := 2) 0 rfl [(1, 2), (1, 0), (2, 1), (0, 1), (1, 1), (1, 1)] (fun x => [.int .i64 x.1, .int .i64 x.2]) rfl (fun _ => rfl) e; clear e
    obtain ⟨a13_0, a13_1⟩ := a13
    refine idxAr gok rfl rfl c16 c17 ?_; clear c16 c17
    refine loadN [(.int .i64 a13_0), (.int .i64 a13_1)] rfl c18 ?_; clear c18
    refine alloc_ gok rfl H ?_; clear H; intro b20 w19 hx H
    clear hx
    replace H : Cx w0 fp0 S0 w19 [Bx b20 [(.int .i64 0), (.int .i64 0)], Bx b5 [(.int .i64 1), (.int .i64 2), (.int .i64 1), (.int .i64 0), (.int .i64 2), (.int .i64 1), (.int .i64 0), (.int .i64 1), (.int .i64 1), (.int .i64 1), (.int .i64 1), (.int .i64 1)], Bx b2 [(.int .i64 0), (.int .i64 0)]] := H
    refine stA gok [(.int .i64 a13_0), (.int .i64 a13_1)] rfl H rfl rfl rfl ?_; clear H; intro w22 H
    replace H : Cx w0 fp0 S0 w22 [Bx b20 [(.int .i64 a13_0), (.int .i64 a13_1)], Bx b5 [(.int .i64 1), (.int .i64 2), (.int .i64 1), (.int .i64 0), (.int .i64 2), (.int .i64 1), (.int .i64 0), (.int .i64 1), (.int .i64 1), (.int .i64 1), (.int .i64 1), (.int .i64 1)], Bx b2 [(.int .i64 0), (.int .i64 0)]] := H
    refine fld gok rfl rfl rfl rfl ?_
    refine load1 (H.bx 0 rfl (j := 1) rfl) ?_
    refine fld gok rfl rfl rfl rfl ?_
    refine load1 (H.bx 0 rfl (j := 0) rfl) ?_
    refine build_ (cs := #[(.int .i64 a13_1), (.int .i64 a13_0)]) gok rfl rfl rfl ?_
    replace H := H.sel [2, 0, 1] rfl
    refine stA gok [(.int .i64 a13_1), (.int .i64 a13_0)] rfl H rfl rfl rfl ?_; clear H; intro w23 H
    replace H : Cx w0 fp0 S0 w23 [Bx b2 [(.int .i64 a13_1), (.int .i64 a13_0)], Bx b20 [(.int .i64 a13_0), (.int .i64 a13_1)], Bx b5 [(.int .i64 1), (.int .i64 2), (.int .i64 1), (.int .i64 0), (.int .i64 2), (.int .i64 1), (.int .i64 0), (.int .i64 1), (.int .i64 1), (.int .i64 1), (.int .i64 1), (.int .i64 1)]] := H
    refine loadN [(.int .i64 a13_1), (.int .i64 a13_0)] rfl (fun j u hj => H.bx 0 rfl hj) ?_
    cases hF14
    exact ⟨_, _, rfl, ⟨rfl, rfl⟩, (H.sel [] rfl).close trivial⟩
  · have hF24 := condT hF9; clear hF9
    obtain ⟨a25, e, hF26⟩ := bindS hF24; clear hF24
    refine arO e ?_; clear e
    obtain ⟨a27, e, hF28⟩ := bindS hF26; clear hF26
    obtain ⟨p29, c30, c31, c32⟩ := H.bxV (s := 2) 0 rfl [(1, 2), (1, 0), (2, 1), (0, 1), (1, 1), (1, 1)] (fun x => [.int .i64 x.1, .int .i64 x.2]) rfl (fun _ => rfl) e; clear e
    obtain ⟨a27_0, a27_1⟩ := a27
    refine idxAr gok rfl rfl c30 c31 ?_; clear c30 c31
    refine loadN [(.int .i64 a27_0), (.int .i64 a27_1)] rfl c32 ?_; clear c32
    replace H := H.sel [1, 0] rfl
    refine stA gok [(.int .i64 a27_0), (.int .i64 a27_1)] rfl H rfl rfl rfl ?_; clear H; intro w33 H
    replace H : Cx w0 fp0 S0 w33 [Bx b2 [(.int .i64 a27_0), (.int .i64 a27_1)], Bx b5 [(.int .i64 1), (.int .i64 2), (.int .i64 1), (.int .i64 0), (.int .i64 2), (.int .i64 1), (.int .i64 0), (.int .i64 1), (.int .i64 1), (.int .i64 1), (.int .i64 1), (.int .i64 1)]] := H
    refine loadN [(.int .i64 a27_0), (.int .i64 a27_1)] rfl (fun j u hj => H.bx 0 rfl hj) ?_
    cases hF28
    exact ⟨_, _, rfl, ⟨rfl, rfl⟩, (H.sel [] rfl).close trivial⟩

theorem impl_Edge_isEdge_c (e__0 : Int) (e__1 : Int) (e__2 : List Int) (e__2h : Hd) (e__3 : List Int) (e__3h : Hd) (y : Bool) (hF : F_impl_Edge_isEdge (e__0, e__1, e__2, e__3) = some y) :
    ConF Try.prog 81 #[(.agg #[(.int .i64 e__0), (.int .i64 e__1), (e__2h).v, (e__3h).v])] [Es (List Int) e__2 e__2h, Es (List Int) e__3 e__3h] [] (fun v Γ' => v = (.bool y) ∧ Γ' = []) := by
  intro w0 S0 fp0 hI hS
  have H : Cx w0 fp0 S0 w0 [Es (List Int) e__2 e__2h, Es (List Int) e__3 e__3h] := Cx.start hI hS
  clear hI hS
  refine enterC (args := [_]) gok Try.func81 rfl _ rfl rfl rfl ?_
  refine box_ H ?_; clear H; intro b4 w3 hx H
  clear hx
  replace H : Cx w0 fp0 S0 w3 [Bx b4 [(.int .i64 e__0), (.int .i64 e__1), (e__2h).v, (e__3h).v], Es (List Int) e__2 e__2h, Es (List Int) e__3 e__3h] := H
  refine sq ?_
  obtain ⟨r20, hF22, hF21⟩ := bindS hF; clear hF
  refine cut (fun (q23 : Bool) => [(1, (.pointer (some ⟨b4, 0, none⟩))), (14, (.bool q23))]) (fun (q23 : Bool) w' => q23 = r20 ∧ Cx w0 fp0 S0 w' [Bx b4 [(.int .i64 e__0), (.int .i64 e__1), (e__2h).v, (e__3h).v], Es (List Int) e__2 e__2h, Es (List Int) e__3 e__3h]) ?_ ?_
  · skip
    refine fld gok rfl rfl rfl rfl ?_
    refine load1 (H.bx 0 rfl (j := 0) rfl) ?_
    obtain ⟨y24, e, hF25⟩ := bindS hF22; clear hF22
    have ey24 := e; clear e
    refine callF (impl_isGenerator_c e__0 y24 ey24) (Γi := []) H trivial ?_; clear H ey24
    rintro _ _ w26 ⟨rfl, rfl⟩ (H : Cx w0 fp0 S0 w26 [Bx b4 [(.int .i64 e__0), (.int .i64 e__1), (e__2h).v, (e__3h).v], Es (List Int) e__2 e__2h, Es (List Int) e__3 e__3h])
    obtain ⟨a27, e, hF28⟩ := bindS hF25; clear hF25
    refine boolO e ?_; clear e
    cases a27
    · have hF29 := condF hF28; clear hF28
      refine fld gok rfl rfl rfl rfl ?_
      refine load1 (H.bx 0 rfl (j := 0) rfl) ?_
      refine fld gok rfl rfl rfl rfl ?_
      refine load1 (H.bx 0 rfl (j := 1) rfl) ?_
      obtain ⟨y30, e, hF31⟩ := bindS hF29; clear hF29
      have ey30 := e; clear e
      refine callF (impl_isGeneratorValue_c e__0 e__1 y30 ey30) (Γi := []) H trivial ?_; clear H ey30
      rintro _ _ w32 ⟨rfl, rfl⟩ (H : Cx w0 fp0 S0 w32 [Bx b4 [(.int .i64 e__0), (.int .i64 e__1), (e__2h).v, (e__3h).v], Es (List Int) e__2 e__2h, Es (List Int) e__3 e__3h])
      obtain ⟨a33, e, hF34⟩ := bindS hF31; clear hF31
      refine boolO e ?_; clear e
      exact ⟨a33, ⟨rfl, rfl, trivial⟩, Option.some.inj hF34, H.sel [0, 1, 2] rfl⟩
    · have hF35 := condT hF28; clear hF28
      exact ⟨true, ⟨rfl, rfl, trivial⟩, Option.some.inj hF35, H.sel [0, 1, 2] rfl⟩
  · clear hF22 H
    rintro T37 s18 w36 ⟨hr, (H : Cx w0 fp0 S0 w36 [Bx b4 [(.int .i64 e__0), (.int .i64 e__1), (e__2h).v, (e__3h).v], Es (List Int) e__2 e__2h, Es (List Int) e__3 e__3h])⟩
    subst hr
    cases s18
    · have hF38 := condF hF21; clear hF21
      refine heldX H [] (.fst 0 (.fst 3 (.fst 6 (.fst 1 (.fst 4 (.fst 5 (.fst 7 (.fst 8 (.fst 9 (.act 2 (.act 10 (.fst 11 .done)))))))))))) mixed [] trivial (by kernel_rfl) ?_
      clear H; intro w39 H
      have hX : Ext w39 w39 := Upd.refl _ _
      have H0 := H
      refine anyH (fun _ => fld gok rfl rfl rfl rfl ⟨rfl, rfl⟩) ?_
      refine anyH (fun _ => fld gok rfl rfl rfl rfl ⟨rfl, rfl⟩) ?_
      refine anyH (fun _ => fld gok rfl rfl rfl rfl ⟨rfl, rfl⟩) ?_
      refine load1X (H.bx 0 rfl (j := 0) rfl) ?_
      refine load1X (H.bx 0 rfl (j := 2) rfl) ?_
      refine lenE (H.rs (α := List Int) 1 rfl).len ?_
      refine load1X (H.bx 0 rfl (j := 3) rfl) ?_
      refine lenE (H.rs (α := List Int) 2 rfl).len ?_
      refine anyH (fun _ => build_ (cs := #[(.int .i64 ((e__2.length : Nat) : Int)), (.int .i64 ((e__3.length : Nat) : Int))]) gok rfl rfl rfl ⟨rfl, rfl⟩) ?_
      obtain ⟨y40, e, hF41⟩ := bindS hF38; clear hF38
      obtain ⟨y40_0, y40_1⟩ := y40
      have ey40 := e; clear e
      refine callFx (impl_generatorWires_c e__0 y40_0 y40_1 ey40) H trivial ?_; clear H ey40
      rintro _ _ w42 ⟨rfl, rfl⟩ hx (H : Cx w0 fp0 S0 w42 [Bx b4 [(.int .i64 e__0), (.int .i64 e__1), (e__2h).v, (e__3h).v], Es (List Int) e__2 e__2h, Es (List Int) e__3 e__3h])
      replace hX := hX.trans0 hx; clear hx
      refine hold hX ?_
      obtain ⟨a43, e, hF44⟩ := bindS hF41; clear hF41
      refine eqA gok rfl Try.underlying133 (by kernel_rfl) (by kernel_rfl) (by kernel_rfl) (by refine ⟨rfl, ⟨_, _, rfl⟩, rfl, ⟨_, _, rfl⟩, trivial⟩) (ls := [y40_0, y40_1]) (bs := [((e__2.length : Nat) : Int), ((e__3.length : Nat) : Int)]) rfl rfl rfl rfl e ?_; clear e
      refine hold hX ?_
      cases hF44
      exact ⟨_, _, rfl, ⟨rfl, rfl⟩, (H.sel [] rfl).close trivial⟩
    · have hF45 := condT hF21; clear hF21
      cases hF45
      exact ⟨_, _, rfl, ⟨rfl, rfl⟩, (H.sel [] rfl).close trivial⟩

theorem impl_Graph_isGraph_1_c (list_ : List Int) (list_h : Hd) (c0_b : Nat) (c0__0 : Int) (c0__1 : List (Int × Int × List Int × List Int)) (c0__1h : Hd) (c0__2 : List Int) (c0__2h : Hd) (c0__3 : List Int) (c0__3h : Hd) (c1_b : Nat) (c1_ : Bool) (c2_b : Nat) (c2_ : List Bool) (c2_h : Hd) (c3_b : Nat) (c3_ : Int) (y0 : Bool) (y1 : List Bool) (y2 : Int) (hF : F_impl_Graph_isGraph_1 list_ (c0__0, c0__1, c0__2, c0__3) c1_ c2_ c3_ = some (y0, y1, y2)) :
    ConF Try.prog 83 #[(list_h).v, (.pointer (some ⟨c0_b, 0, none⟩)), (.pointer (some ⟨c1_b, 0, none⟩)), (.pointer (some ⟨c2_b, 0, none⟩)), (.pointer (some ⟨c3_b, 0, none⟩))] [Es (List Int) list_ list_h, Es (List (Int × Int × List Int × List Int)) c0__1 c0__1h, Es (List Int) c0__2 c0__2h, Es (List Int) c0__3 c0__3h] [Bx c0_b [(.int .i64 c0__0), (c0__1h).v, (c0__2h).v, (c0__3h).v], Bx c1_b [(.bool c1_)], Bx c2_b [(c2_h).v], E (List Bool) c2_ c2_h, Bx c3_b [(.int .i64 c3_)]] (fun v Γ' => v = (.tuple #[]) ∧ Γ' = [Bx c0_b [(.int .i64 c0__0), (c0__1h).v, (c0__2h).v, (c0__3h).v], Bx c1_b [(.bool y0)], Bx c2_b [(c2_h).v], E (List Bool) y1 c2_h, Bx c3_b [(.int .i64 y2)]]) := by
  intro w0 S0 fp0 hI hS
  have H : Cx w0 fp0 S0 w0 [Es (List Int) list_ list_h, Es (List (Int × Int × List Int × List Int)) c0__1 c0__1h, Es (List Int) c0__2 c0__2h, Es (List Int) c0__3 c0__3h, Bx c0_b [(.int .i64 c0__0), (c0__1h).v, (c0__2h).v, (c0__3h).v], Bx c1_b [(.bool c1_)], Bx c2_b [(c2_h).v], E (List Bool) c2_ c2_h, Bx c3_b [(.int .i64 c3_)]] := Cx.start hI hS
  clear hI hS
  refine enterC (args := [_, _, _, _, _]) gok Try.func83 rfl _ rfl rfl rfl ?_
  refine lenE (H.rs (α := List Int) 0 rfl).len ?_
  have hmx201 := (H.rs (α := List Int) 0 rfl).max
  obtain ⟨r202, e, hF203⟩ := bindS hF; clear hF
  refine loopS _ list_.length (fun (k10 : Nat) (s199 : Bool × Int × List Bool) (_ : Unit) => [(1, (.pointer (some ⟨c0_b, 0, none⟩))), (2, (.pointer (some ⟨c1_b, 0, none⟩))), (3, (.pointer (some ⟨c2_b, 0, none⟩))), (4, (.pointer (some ⟨c3_b, 0, none⟩))), (8, (list_h).v), (9, (.int .i64 ((list_.length : Nat) : Int))), (10, (.int .i64 ((k10 : Nat) : Int)))]) (fun _ (s199 : Bool × Int × List Bool) (_ : Unit) w' => Cx w0 fp0 S0 w' [Bx c0_b [(.int .i64 c0__0), (c0__1h).v, (c0__2h).v, (c0__3h).v], Es (List (Int × Int × List Int × List Int)) c0__1 c0__1h, Es (List Int) c0__2 c0__2h, Es (List Int) c0__3 c0__3h, Bx c1_b [(.bool s199.1)], Bx c2_b [(c2_h).v], E (List Bool) s199.2.2 c2_h, Bx c3_b [(.int .i64 s199.2.1)], Es (List Int) list_ list_h]) (c1_, c3_, c2_) () e ⟨rfl, rfl, rfl, rfl, rfl, rfl, rfl, trivial⟩ (H.sel [4, 1, 2, 3, 5, 6, 7, 8, 0] rfl) ?_ ?_
  · clear H e
    rintro T205 k10 ⟨s199_0, s199_1, s199_2⟩ _ w204 o206 hk (H : Cx w0 fp0 S0 w204 [Bx c0_b [(.int .i64 c0__0), (c0__1h).v, (c0__2h).v, (c0__3h).v], Es (List (Int × Int × List Int × List Int)) c0__1 c0__1h, Es (List Int) c0__2 c0__2h, Es (List Int) c0__3 c0__3h, Bx c1_b [(.bool s199_0)], Bx c2_b [(c2_h).v], E (List Bool) s199_2 c2_h, Bx c3_b [(.int .i64 s199_1)], Es (List Int) list_ list_h]) hF207
    refine boolE (z := true) (ltLen hk) ?_
    refine sq ?_
    obtain ⟨r252, hF254, hF253⟩ := bindS hF207; clear hF207
    refine cut (fun (q255 : Bool × Int × List Bool) => [(1, (.pointer (some ⟨c0_b, 0, none⟩))), (2, (.pointer (some ⟨c1_b, 0, none⟩))), (3, (.pointer (some ⟨c2_b, 0, none⟩))), (4, (.pointer (some ⟨c3_b, 0, none⟩))), (8, (list_h).v), (9, (.int .i64 ((list_.length : Nat) : Int))), (10, (.int .i64 ((k10 : Nat) : Int)))]) (fun (q255 : Bool × Int × List Bool) w' => (q255.1, q255.2.1, q255.2.2) = r252 ∧ Cx w0 fp0 S0 w' [Bx c0_b [(.int .i64 c0__0), (c0__1h).v, (c0__2h).v, (c0__3h).v], Es (List (Int × Int × List Int × List Int)) c0__1 c0__1h, Es (List Int) c0__2 c0__2h, Es (List Int) c0__3 c0__3h, Bx c1_b [(.bool q255.1)], Bx c2_b [(c2_h).v], E (List Bool) q255.2.2 c2_h, Bx c3_b [(.int .i64 q255.2.1)], Es (List Int) list_ list_h]) ?_ ?_
    · skip
      obtain ⟨a262, e, hF263⟩ := bindS hF254; clear hF254
      obtain ⟨p260, m261, c256, c257, c258, c259⟩ := (H.rs (α := List Int) 8 rfl).at1 e; clear e
      refine idxE c256 c257 c258 ?_; clear c256 c257 c258
      refine load1 c259 ?_; clear c259
      refine sq ?_
      refine fld gok rfl rfl rfl rfl ?_
      refine load1 (H.bx 0 rfl (j := 0) rfl) ?_
      obtain ⟨a264, e, hF265⟩ := bindS hF263; clear hF263
      refine arO e ?_; clear e
      obtain ⟨y266, e, hF267⟩ := bindS hF265; clear hF265
      have ey266 := e; clear e
      refine callF (impl_within_c a262 0 a264 y266 ey266) (Γi := []) H trivial ?_; clear H ey266
      rintro _ _ w268 ⟨rfl, rfl⟩ (H : Cx w0 fp0 S0 w268 [Bx c0_b [(.int .i64 c0__0), (c0__1h).v, (c0__2h).v, (c0__3h).v], Es (List (Int × Int × List Int × List Int)) c0__1 c0__1h, Es (List Int) c0__2 c0__2h, Es (List Int) c0__3 c0__3h, Bx c1_b [(.bool s199_0)], Bx c2_b [(c2_h).v], E (List Bool) s199_2 c2_h, Bx c3_b [(.int .i64 s199_1)], Es (List Int) list_ list_h])
      obtain ⟨a269, e, hF270⟩ := bindS hF267; clear hF267
      refine boolO e ?_; clear e
      cases a269
      · have hF271 := condF hF270; clear hF270
        refine load1 (H.bx0 5 rfl) ?_
        obtain ⟨a278, e, hF279⟩ := bindS hF271; clear hF271
        obtain ⟨p276, m277, c272, c273, c274, c275⟩ := (H.ro (α := List Bool) 6 rfl).at1 e; clear e
        refine idxE c272 c273 c274 ?_; clear c272 c273 c274
        refine load1 c275 ?_; clear c275
        obtain ⟨a280, e, hF281⟩ := bindS hF279; clear hF279
        refine boolO e ?_; clear e
        cases a280
        · have hF282 := condF hF281; clear hF281
          exact ⟨(s199_0, s199_1, s199_2), ⟨rfl, rfl, rfl, rfl, rfl, rfl, rfl, trivial⟩, Option.some.inj hF282, H.sel [0, 1, 2, 3, 4, 5, 6, 7, 8] rfl⟩
        · have hF283 := condT hF281; clear hF281
          refine load1 (H.bx0 5 rfl) ?_
          obtain ⟨a290, e, hF291⟩ := bindS hF283; clear hF283
          have ea290 := e; clear e
          obtain ⟨p288, m289, c284, c285, c286⟩ := (H.ro (α := List Bool) 6 rfl).setp ea290
          refine idxE c284 c285 c286 ?_
          replace H := H.sel [6, 0, 1, 2, 3, 4, 5, 7, 8] rfl
          refine setS (α := Bool) H c284 c285 ea290 ?_; clear H c284 c285 c286 ea290; intro w292 H
          refine load1 (H.bx0 7 rfl) ?_
          obtain ⟨a293, e, hF294⟩ := bindS hF291; clear hF291
          refine arO e ?_; clear e
          replace H := H.sel [7, 0, 1, 2, 3, 4, 5, 6, 8] rfl
          refine stB0 H rfl ?_; clear H; intro w295 H
          replace H : Cx w0 fp0 S0 w295 [Bx c3_b [(.int .i64 a293)], E (List Bool) a290 c2_h, Bx c0_b [(.int .i64 c0__0), (c0__1h).v, (c0__2h).v, (c0__3h).v], Es (List (Int × Int × List Int × List Int)) c0__1 c0__1h, Es (List Int) c0__2 c0__2h, Es (List Int) c0__3 c0__3h, Bx c1_b [(.bool s199_0)], Bx c2_b [(c2_h).v], Es (List Int) list_ list_h] := H
          exact ⟨(s199_0, a293, a290), ⟨rfl, rfl, rfl, rfl, rfl, rfl, rfl, trivial⟩, Option.some.inj hF294, H.sel [2, 3, 4, 5, 6, 7, 1, 0, 8] rfl⟩
      · have hF296 := condT hF270; clear hF270
        replace H := H.sel [4, 0, 1, 2, 3, 5, 6, 7, 8] rfl
        refine stB0 H rfl ?_; clear H; intro w297 H
        replace H : Cx w0 fp0 S0 w297 [Bx c1_b [(.bool false)], Bx c0_b [(.int .i64 c0__0), (c0__1h).v, (c0__2h).v, (c0__3h).v], Es (List (Int × Int × List Int × List Int)) c0__1 c0__1h, Es (List Int) c0__2 c0__2h, Es (List Int) c0__3 c0__3h, Bx c2_b [(c2_h).v], E (List Bool) s199_2 c2_h, Bx c3_b [(.int .i64 s199_1)], Es (List Int) list_ list_h] := H
        exact ⟨(false, s199_1, s199_2), ⟨rfl, rfl, rfl, rfl, rfl, rfl, rfl, trivial⟩, Option.some.inj hF296, H.sel [1, 2, 3, 4, 0, 5, 6, 7, 8] rfl⟩
    · clear hF254 H
      rintro T299 ⟨s250_0, s250_1, s250_2⟩ w298 ⟨hr, (H : Cx w0 fp0 S0 w298 [Bx c0_b [(.int .i64 c0__0), (c0__1h).v, (c0__2h).v, (c0__3h).v], Es (List (Int × Int × List Int × List Int)) c0__1 c0__1h, Es (List Int) c0__2 c0__2h, Es (List Int) c0__3 c0__3h, Bx c1_b [(.bool s250_0)], Bx c2_b [(c2_h).v], E (List Bool) s250_2 c2_h, Bx c3_b [(.int .i64 s250_1)], Es (List Int) list_ list_h])⟩
      subst hr
      refine arK hk hmx201 ?_
      have hs := Option.some.inj hF253; subst hs; clear hF253
      exact ⟨(), ⟨rfl, rfl, rfl, rfl, rfl, rfl, rfl, trivial⟩, H.sel [0, 1, 2, 3, 4, 5, 6, 7, 8] rfl⟩
  · clear H e
    obtain ⟨s302_0, s302_1, s302_2⟩ := r202
    rintro T301 _ w300 (H : Cx w0 fp0 S0 w300 [Bx c0_b [(.int .i64 c0__0), (c0__1h).v, (c0__2h).v, (c0__3h).v], Es (List (Int × Int × List Int × List Int)) c0__1 c0__1h, Es (List Int) c0__2 c0__2h, Es (List Int) c0__3 c0__3h, Bx c1_b [(.bool s302_0)], Bx c2_b [(c2_h).v], E (List Bool) s302_2 c2_h, Bx c3_b [(.int .i64 s302_1)], Es (List Int) list_ list_h])
    refine boolE (z := false) geLen ?_
    refine sq ?_
    cases hF203
    exact ⟨_, _, rfl, ⟨rfl, rfl⟩, (H.sel [0, 4, 5, 6, 7] rfl).close ⟨cloB, cloB, cloB, cloE, cloB, trivial⟩⟩

theorem impl_Graph_lists_impl_Graph_isGraph_1_c (g__0 : Int) (g__1 : List (Int × Int × List Int × List Int)) (g__1h : Hd) (g__2 : List Int) (g__2h : Hd) (g__3 : List Int) (g__3h : Hd) (d0_b : Nat) (d0__0 : Int) (d0__1 : List (Int × Int × List Int × List Int)) (d0__1h : Hd) (d0__2 : List Int) (d0__2h : Hd) (d0__3 : List Int) (d0__3h : Hd) (d1_b : Nat) (d1_ : Bool) (d2_b : Nat) (d2_ : List Bool) (d2_h : Hd) (d3_b : Nat) (d3_ : Int) (y0 : Bool) (y1 : List Bool) (y2 : Int) (hF : F_impl_Graph_lists_impl_Graph_isGraph_1 (g__0, g__1, g__2, g__3) (d0__0, d0__1, d0__2, d0__3) d1_ d2_ d3_ = some (y0, y1, y2)) :
    ConF Try.prog 82 #[(.agg #[(.int .i64 g__0), (g__1h).v, (g__2h).v, (g__3h).v]), (.func (.func 83) #[] #[(.pointer (some ⟨d0_b, 0, none⟩)), (.pointer (some ⟨d1_b, 0, none⟩)), (.pointer (some ⟨d2_b, 0, none⟩)), (.pointer (some ⟨d3_b, 0, none⟩))])] [Es (List (Int × Int × List Int × List Int)) g__1 g__1h, Es (List Int) g__2 g__2h, Es (List Int) g__3 g__3h, Es (List (Int × Int × List Int × List Int)) d0__1 d0__1h, Es (List Int) d0__2 d0__2h, Es (List Int) d0__3 d0__3h] [Bx d0_b [(.int .i64 d0__0), (d0__1h).v, (d0__2h).v, (d0__3h).v], Bx d1_b [(.bool d1_)], Bx d2_b [(d2_h).v], E (List Bool) d2_ d2_h, Bx d3_b [(.int .i64 d3_)]] (fun v Γ' => v = (.tuple #[]) ∧ Γ' = [Bx d0_b [(.int .i64 d0__0), (d0__1h).v, (d0__2h).v, (d0__3h).v], Bx d1_b [(.bool y0)], Bx d2_b [(d2_h).v], E (List Bool) y1 d2_h, Bx d3_b [(.int .i64 y2)]]) := by
  intro w0 S0 fp0 hI hS
  have H : Cx w0 fp0 S0 w0 [Es (List (Int × Int × List Int × List Int)) g__1 g__1h, Es (List Int) g__2 g__2h, Es (List Int) g__3 g__3h, Es (List (Int × Int × List Int × List Int)) d0__1 d0__1h, Es (List Int) d0__2 d0__2h, Es (List Int) d0__3 d0__3h, Bx d0_b [(.int .i64 d0__0), (d0__1h).v, (d0__2h).v, (d0__3h).v], Bx d1_b [(.bool d1_)], Bx d2_b [(d2_h).v], E (List Bool) d2_ d2_h, Bx d3_b [(.int .i64 d3_)]] := Cx.start hI hS
  clear hI hS
  refine enterC (args := [_, _]) gok Try.func82 rfl _ rfl rfl rfl ?_
  refine box_ H ?_; clear H; intro b13 w12 hx H
  clear hx
  replace H : Cx w0 fp0 S0 w12 [Bx b13 [(.int .i64 g__0), (g__1h).v, (g__2h).v, (g__3h).v], Es (List (Int × Int × List Int × List Int)) g__1 g__1h, Es (List Int) g__2 g__2h, Es (List Int) g__3 g__3h, Es (List (Int × Int × List Int × List Int)) d0__1 d0__1h, Es (List Int) d0__2 d0__2h, Es (List Int) d0__3 d0__3h, Bx d0_b [(.int .i64 d0__0), (d0__1h).v, (d0__2h).v, (d0__3h).v], Bx d1_b [(.bool d1_)], Bx d2_b [(d2_h).v], E (List Bool) d2_ d2_h, Bx d3_b [(.int .i64 d3_)]] := H
  refine fld gok rfl rfl rfl rfl ?_
  refine load1 (H.bx 0 rfl (j := 2) rfl) ?_
  obtain ⟨y15, e, hF16⟩ := bindS hF; clear hF
  obtain ⟨y15_0, y15_1, y15_2⟩ := y15
  have ey15 := e; clear e
  replace H := H.sel [7, 8, 9, 10, 11, 0, 1, 2, 3, 4, 5, 6] rfl
  refine callF (impl_Graph_isGraph_1_c g__2 g__2h d0_b d0__0 d0__1 d0__1h d0__2 d0__2h d0__3 d0__3h d1_b d1_ d2_b d2_ d2_h d3_b d3_ y15_0 y15_1 y15_2 ey15) (Γi := [Bx d0_b [(.int .i64 d0__0), (d0__1h).v, (d0__2h).v, (d0__3h).v], Bx d1_b [(.bool d1_)], Bx d2_b [(d2_h).v], E (List Bool) d2_ d2_h, Bx d3_b [(.int .i64 d3_)]]) H ⟨Vw.sh 2 rfl, Vw.sh 4 rfl, Vw.sh 5 rfl, Vw.sh 6 rfl, trivial⟩ ?_; clear H ey15
  rintro _ _ w17 ⟨rfl, rfl⟩ (H : Cx w0 fp0 S0 w17 [Bx d0_b [(.int .i64 d0__0), (d0__1h).v, (d0__2h).v, (d0__3h).v], Bx d1_b [(.bool y15_0)], Bx d2_b [(d2_h).v], E (List Bool) y15_1 d2_h, Bx d3_b [(.int .i64 y15_2)], Bx b13 [(.int .i64 g__0), (g__1h).v, (g__2h).v, (g__3h).v], Es (List (Int × Int × List Int × List Int)) g__1 g__1h, Es (List Int) g__2 g__2h, Es (List Int) g__3 g__3h, Es (List (Int × Int × List Int × List Int)) d0__1 d0__1h, Es (List Int) d0__2 d0__2h, Es (List Int) d0__3 d0__3h])
  refine fld gok rfl rfl rfl rfl ?_
  refine load1 (H.bx 5 rfl (j := 3) rfl) ?_
  obtain ⟨y18, e, hF19⟩ := bindS hF16; clear hF16
  obtain ⟨y18_0, y18_1, y18_2⟩ := y18
  have ey18 := e; clear e
  refine callF (impl_Graph_isGraph_1_c g__3 g__3h d0_b d0__0 d0__1 d0__1h d0__2 d0__2h d0__3 d0__3h d1_b y15_0 d2_b y15_1 d2_h d3_b y15_2 y18_0 y18_1 y18_2 ey18) (Γi := [Bx d0_b [(.int .i64 d0__0), (d0__1h).v, (d0__2h).v, (d0__3h).v], Bx d1_b [(.bool y15_0)], Bx d2_b [(d2_h).v], E (List Bool) y15_1 d2_h, Bx d3_b [(.int .i64 y15_2)]]) H ⟨Vw.sh 3 rfl, Vw.sh 4 rfl, Vw.sh 5 rfl, Vw.sh 6 rfl, trivial⟩ ?_; clear H ey18
  rintro _ _ w20 ⟨rfl, rfl⟩ (H : Cx w0 fp0 S0 w20 [Bx d0_b [(.int .i64 d0__0), (d0__1h).v, (d0__2h).v, (d0__3h).v], Bx d1_b [(.bool y18_0)], Bx d2_b [(d2_h).v], E (List Bool) y18_1 d2_h, Bx d3_b [(.int .i64 y18_2)], Bx b13 [(.int .i64 g__0), (g__1h).v, (g__2h).v, (g__3h).v], Es (List (Int × Int × List Int × List Int)) g__1 g__1h, Es (List Int) g__2 g__2h, Es (List Int) g__3 g__3h, Es (List (Int × Int × List Int × List Int)) d0__1 d0__1h, Es (List Int) d0__2 d0__2h, Es (List Int) d0__3 d0__3h])
  refine fld gok rfl rfl rfl rfl ?_
  refine load1 (H.bx 5 rfl (j := 1) rfl) ?_
  refine lenE (H.rs (α := List (Int × Int × List Int × List Int)) 6 rfl).len ?_
  have hmx76 := (H.rs (α := List (Int × Int × List Int × List Int)) 6 rfl).max
  obtain ⟨r77, e, hF78⟩ := bindS hF19; clear hF19
  refine loopS _ g__1.length (fun (k21 : Nat) (s74 : Int × Bool × List Bool) (_ : Unit) => [(1, (.func (.func 83) #[] #[(.pointer (some ⟨d0_b, 0, none⟩)), (.pointer (some ⟨d1_b, 0, none⟩)), (.pointer (some ⟨d2_b, 0, none⟩)), (.pointer (some ⟨d3_b, 0, none⟩))])), (15, (g__1h).v), (16, (.int .i64 ((g__1.length : Nat) : Int))), (17, (.int .i64 ((k21 : Nat) : Int)))]) (fun _ (s74 : Int × Bool × List Bool) (_ : Unit) w' => Cx w0 fp0 S0 w' [Bx d0_b [(.int .i64 d0__0), (d0__1h).v, (d0__2h).v, (d0__3h).v], Es (List (Int × Int × List Int × List Int)) d0__1 d0__1h, Es (List Int) d0__2 d0__2h, Es (List Int) d0__3 d0__3h, Bx d1_b [(.bool s74.2.1)], Bx d2_b [(d2_h).v], E (List Bool) s74.2.2 d2_h, Bx d3_b [(.int .i64 s74.1)], Es (List (Int × Int × List Int × List Int)) g__1 g__1h]) (y18_2, y18_0, y18_1) () e ⟨rfl, rfl, rfl, rfl, trivial⟩ (H.sel [0, 9, 10, 11, 1, 2, 3, 4, 6] rfl) ?_ ?_
  · clear H e
    rintro T80 k21 ⟨s74_0, s74_1, s74_2⟩ _ w79 o81 hk (H : Cx w0 fp0 S0 w79 [Bx d0_b [(.int .i64 d0__0), (d0__1h).v, (d0__2h).v, (d0__3h).v], Es (List (Int × Int × List Int × List Int)) d0__1 d0__1h, Es (List Int) d0__2 d0__2h, Es (List Int) d0__3 d0__3h, Bx d1_b [(.bool s74_1)], Bx d2_b [(d2_h).v], E (List Bool) s74_2 d2_h, Bx d3_b [(.int .i64 s74_0)], Es (List (Int × Int × List Int × List Int)) g__1 g__1h]) hF82
    refine boolE (z := true) (ltLen hk) ?_
    refine sq ?_
    refine sq ?_
    obtain ⟨a89, e, hF90⟩ := bindS hF82; clear hF82
    have HH := H; clear H; obtain ⟨p87, m88, g91, c83, c84, c85, c86, H⟩ := HH.el (α := Int × Int × List Int × List Int) 8 rfl e; clear HH
    clear e
    obtain ⟨a89_0, a89_1, a89_2, a89_3⟩ := a89
    obtain ⟨_, _, h93, h94⟩ := g91
    replace H := H.part (β := List Int) a89_2 (h93 : Hd) 0 rfl (fun S h => (And.left (And.right (And.right h))))
    replace H := H.part (β := List Int) a89_3 (h94 : Hd) 1 rfl (fun S h => (And.right (And.right (And.right h))))
    replace H := H.sel [0, 1, 3, 4, 5, 6, 7, 8, 9, 10, 11] rfl
    refine idxE c83 c84 c85 ?_; clear c83 c84 c85
    refine loadN [(.int .i64 a89_0), (.int .i64 a89_1), (h93).v, (h94).v] rfl c86 ?_; clear c86
    refine alloc_ gok rfl H ?_; clear H; intro b98 w97 hx H
    clear hx
    replace H : Cx w0 fp0 S0 w97 [Bx b98 [(.int .i64 0), (.int .i64 0), (.slice none 0 0), (.slice none 0 0)], Es (List Int) a89_3 h94, Es (List Int) a89_2 h93, Bx d0_b [(.int .i64 d0__0), (d0__1h).v, (d0__2h).v, (d0__3h).v], Es (List (Int × Int × List Int × List Int)) d0__1 d0__1h, Es (List Int) d0__2 d0__2h, Es (List Int) d0__3 d0__3h, Bx d1_b [(.bool s74_1)], Bx d2_b [(d2_h).v], E (List Bool) s74_2 d2_h, Bx d3_b [(.int .i64 s74_0)], Es (List (Int × Int × List Int × List Int)) g__1 g__1h] := H
    refine stA gok [(.int .i64 a89_0), (.int .i64 a89_1), (h93).v, (h94).v] rfl H rfl rfl rfl ?_; clear H; intro w100 H
    replace H : Cx w0 fp0 S0 w100 [Bx b98 [(.int .i64 a89_0), (.int .i64 a89_1), (h93).v, (h94).v], Es (List Int) a89_3 h94, Es (List Int) a89_2 h93, Bx d0_b [(.int .i64 d0__0), (d0__1h).v, (d0__2h).v, (d0__3h).v], Es (List (Int × Int × List Int × List Int)) d0__1 d0__1h, Es (List Int) d0__2 d0__2h, Es (List Int) d0__3 d0__3h, Bx d1_b [(.bool s74_1)], Bx d2_b [(d2_h).v], E (List Bool) s74_2 d2_h, Bx d3_b [(.int .i64 s74_0)], Es (List (Int × Int × List Int × List Int)) g__1 g__1h] := H
    refine fld gok rfl rfl rfl rfl ?_
    refine load1 (H.bx 0 rfl (j := 2) rfl) ?_
    obtain ⟨y101, e, hF102⟩ := bindS hF90; clear hF90
    obtain ⟨y101_0, y101_1, y101_2⟩ := y101
    have ey101 := e; clear e
    replace H := H.sel [3, 7, 8, 9, 10, 0, 1, 2, 4, 5, 6, 11] rfl
    refine callF (impl_Graph_isGraph_1_c a89_2 h93 d0_b d0__0 d0__1 d0__1h d0__2 d0__2h d0__3 d0__3h d1_b s74_1 d2_b s74_2 d2_h d3_b s74_0 y101_0 y101_1 y101_2 ey101) (Γi := [Bx d0_b [(.int .i64 d0__0), (d0__1h).v, (d0__2h).v, (d0__3h).v], Bx d1_b [(.bool s74_1)], Bx d2_b [(d2_h).v], E (List Bool) s74_2 d2_h, Bx d3_b [(.int .i64 s74_0)]]) H ⟨Vw.sh 2 rfl, Vw.sh 3 rfl, Vw.sh 4 rfl, Vw.sh 5 rfl, trivial⟩ ?_; clear H ey101
    rintro _ _ w103 ⟨rfl, rfl⟩ (H : Cx w0 fp0 S0 w103 [Bx d0_b [(.int .i64 d0__0), (d0__1h).v, (d0__2h).v, (d0__3h).v], Bx d1_b [(.bool y101_0)], Bx d2_b [(d2_h).v], E (List Bool) y101_1 d2_h, Bx d3_b [(.int .i64 y101_2)], Bx b98 [(.int .i64 a89_0), (.int .i64 a89_1), (h93).v, (h94).v], Es (List Int) a89_3 h94, Es (List Int) a89_2 h93, Es (List (Int × Int × List Int × List Int)) d0__1 d0__1h, Es (List Int) d0__2 d0__2h, Es (List Int) d0__3 d0__3h, Es (List (Int × Int × List Int × List Int)) g__1 g__1h])
    refine fld gok rfl rfl rfl rfl ?_
    refine load1 (H.bx 5 rfl (j := 3) rfl) ?_
    obtain ⟨y104, e, hF105⟩ := bindS hF102; clear hF102
    obtain ⟨y104_0, y104_1, y104_2⟩ := y104
    have ey104 := e; clear e
    refine callF (impl_Graph_isGraph_1_c a89_3 h94 d0_b d0__0 d0__1 d0__1h d0__2 d0__2h d0__3 d0__3h d1_b y101_0 d2_b y101_1 d2_h d3_b y101_2 y104_0 y104_1 y104_2 ey104) (Γi := [Bx d0_b [(.int .i64 d0__0), (d0__1h).v, (d0__2h).v, (d0__3h).v], Bx d1_b [(.bool y101_0)], Bx d2_b [(d2_h).v], E (List Bool) y101_1 d2_h, Bx d3_b [(.int .i64 y101_2)]]) H ⟨Vw.sh 1 rfl, Vw.sh 3 rfl, Vw.sh 4 rfl, Vw.sh 5 rfl, trivial⟩ ?_; clear H ey104
    rintro _ _ w106 ⟨rfl, rfl⟩ (H : Cx w0 fp0 S0 w106 [Bx d0_b [(.int .i64 d0__0), (d0__1h).v, (d0__2h).v, (d0__3h).v], Bx d1_b [(.bool y104_0)], Bx d2_b [(d2_h).v], E (List Bool) y104_1 d2_h, Bx d3_b [(.int .i64 y104_2)], Bx b98 [(.int .i64 a89_0), (.int .i64 a89_1), (h93).v, (h94).v], Es (List Int) a89_3 h94, Es (List Int) a89_2 h93, Es (List (Int × Int × List Int × List Int)) d0__1 d0__1h, Es (List Int) d0__2 d0__2h, Es (List Int) d0__3 d0__3h, Es (List (Int × Int × List Int × List Int)) g__1 g__1h])
    refine arK hk hmx76 ?_
    have hs := Option.some.inj hF105; subst hs; clear hF105
    exact ⟨(), ⟨rfl, rfl, rfl, rfl, trivial⟩, H.sel [0, 8, 9, 10, 1, 2, 3, 4, 11] rfl⟩
  · clear H e
    obtain ⟨s109_0, s109_1, s109_2⟩ := r77
    rintro T108 _ w107 (H : Cx w0 fp0 S0 w107 [Bx d0_b [(.int .i64 d0__0), (d0__1h).v, (d0__2h).v, (d0__3h).v], Es (List (Int × Int × List Int × List Int)) d0__1 d0__1h, Es (List Int) d0__2 d0__2h, Es (List Int) d0__3 d0__3h, Bx d1_b [(.bool s109_1)], Bx d2_b [(d2_h).v], E (List Bool) s109_2 d2_h, Bx d3_b [(.int .i64 s109_0)], Es (List (Int × Int × List Int × List Int)) g__1 g__1h])
    refine boolE (z := false) geLen ?_
    refine sq ?_
    cases hF78
    exact ⟨_, _, rfl, ⟨rfl, rfl⟩, (H.sel [0, 4, 5, 6, 7] rfl).close ⟨cloB, cloB, cloB, cloE, cloB, trivial⟩⟩

theorem impl_Graph_isGraph_c (g__0 : Int) (g__1 : List (Int × Int × List Int × List Int)) (g__1h : Hd) (g__2 : List Int) (g__2h : Hd) (g__3 : List Int) (g__3h : Hd) (y : Bool) (hF : F_impl_Graph_isGraph (g__0, g__1, g__2, g__3) = some y) :
    ConF Try.prog 45 #[(.agg #[(.int .i64 g__0), (g__1h).v, (g__2h).v, (g__3h).v])] [Es (List (Int × Int × List Int × List Int)) g__1 g__1h, Es (List Int) g__2 g__2h, Es (List Int) g__3 g__3h] [] (fun v Γ' => v = (.bool y) ∧ Γ' = []) := by
  intro w0 S0 fp0 hI hS
  have H : Cx w0 fp0 S0 w0 [Es (List (Int × Int × List Int × List Int)) g__1 g__1h, Es (List Int) g__2 g__2h, Es (List Int) g__3 g__3h] := Cx.start hI hS
  clear hI hS
  refine enterC (args := [_]) gok Try.func45 rfl _ rfl rfl rfl ?_
  refine box_ H ?_; clear H; intro b5 w4 hx H
  clear hx
  replace H : Cx w0 fp0 S0 w4 [Bx b5 [(.int .i64 g__0), (g__1h).v, (g__2h).v, (g__3h).v], Es (List (Int × Int × List Int × List Int)) g__1 g__1h, Es (List Int) g__2 g__2h, Es (List Int) g__3 g__3h] := H
  refine sq ?_
  obtain ⟨r26, hF28, hF27⟩ := bindS hF; clear hF
  refine cut (fun (q29 : Bool) => [(1, (.pointer (some ⟨b5, 0, none⟩))), (29, (.bool q29))]) (fun (q29 : Bool) w' => q29 = r26 ∧ Cx w0 fp0 S0 w' [Bx b5 [(.int .i64 g__0), (g__1h).v, (g__2h).v, (g__3h).v], Es (List (Int × Int × List Int × List Int)) g__1 g__1h, Es (List Int) g__2 g__2h, Es (List Int) g__3 g__3h]) ?_ ?_
  · skip
    refine fld gok rfl rfl rfl rfl ?_
    refine load1 (H.bx 0 rfl (j := 0) rfl) ?_
    obtain ⟨y30, e, hF31⟩ := bindS hF28; clear hF28
    have ey30 := e; clear e
    refine callF (impl_within_c g__0 0 100 y30 ey30) (Γi := []) H trivial ?_; clear H ey30
    rintro _ _ w32 ⟨rfl, rfl⟩ (H : Cx w0 fp0 S0 w32 [Bx b5 [(.int .i64 g__0), (g__1h).v, (g__2h).v, (g__3h).v], Es (List (Int × Int × List Int × List Int)) g__1 g__1h, Es (List Int) g__2 g__2h, Es (List Int) g__3 g__3h])
    obtain ⟨a33, e, hF34⟩ := bindS hF31; clear hF31
    refine boolO e ?_; clear e
    cases a33
    · have hF35 := condF hF34; clear hF34
      refine fld gok rfl rfl rfl rfl ?_
      refine load1 (H.bx 0 rfl (j := 1) rfl) ?_
      refine lenE (H.rs (α := List (Int × Int × List Int × List Int)) 1 rfl).len ?_
      obtain ⟨a36, e, hF37⟩ := bindS hF35; clear hF35
      refine boolO e ?_; clear e
      cases a36
      · have hF38 := condF hF37; clear hF37
        refine fld gok rfl rfl rfl rfl ?_
        refine load1 (H.bx 0 rfl (j := 2) rfl) ?_
        refine lenE (H.rs (α := List Int) 2 rfl).len ?_
        obtain ⟨a39, e, hF40⟩ := bindS hF38; clear hF38
        refine boolO e ?_; clear e
        cases a39
        · have hF41 := condF hF40; clear hF40
          refine fld gok rfl rfl rfl rfl ?_
          refine load1 (H.bx 0 rfl (j := 3) rfl) ?_
          refine lenE (H.rs (α := List Int) 3 rfl).len ?_
          obtain ⟨a42, e, hF43⟩ := bindS hF41; clear hF41
          refine boolO e ?_; clear e
          exact ⟨a42, ⟨rfl, rfl, trivial⟩, Option.some.inj hF43, H.sel [0, 1, 2, 3] rfl⟩
        · have hF44 := condT hF40; clear hF40
          exact ⟨true, ⟨rfl, rfl, trivial⟩, Option.some.inj hF44, H.sel [0, 1, 2, 3] rfl⟩
      · have hF45 := condT hF37; clear hF37
        exact ⟨true, ⟨rfl, rfl, trivial⟩, Option.some.inj hF45, H.sel [0, 1, 2, 3] rfl⟩
    · have hF46 := condT hF34; clear hF34
      exact ⟨true, ⟨rfl, rfl, trivial⟩, Option.some.inj hF46, H.sel [0, 1, 2, 3] rfl⟩
  · clear hF28 H
    rintro T48 s24 w47 ⟨hr, (H : Cx w0 fp0 S0 w47 [Bx b5 [(.int .i64 g__0), (g__1h).v, (g__2h).v, (g__3h).v], Es (List (Int × Int × List Int × List Int)) g__1 g__1h, Es (List Int) g__2 g__2h, Es (List Int) g__3 g__3h])⟩
    subst hr
    cases s24
    · have hF49 := condF hF27; clear hF27
      refine sq ?_
      refine fld gok rfl rfl rfl rfl ?_
      refine load1 (H.bx 0 rfl (j := 1) rfl) ?_
      refine lenE (H.rs (α := List (Int × Int × List Int × List Int)) 1 rfl).len ?_
      have hmx80 := (H.rs (α := List (Int × Int × List Int × List Int)) 1 rfl).max
      obtain ⟨r81, e, hF82⟩ := bindS hF49; clear hF49
      refine loopO _ g__1.length (fun (k50 : Nat) (_ : Unit) (_ : Unit) => [(1, (.pointer (some ⟨b5, 0, none⟩))), (31, (g__1h).v), (32, (.int .i64 ((g__1.length : Nat) : Int))), (33, (.int .i64 ((k50 : Nat) : Int)))]) (fun _ (_ : Unit) (_ : Unit) w' => Cx w0 fp0 S0 w' [Bx b5 [(.int .i64 g__0), (g__1h).v, (g__2h).v, (g__3h).v], Es (List (Int × Int × List Int × List Int)) g__1 g__1h, Es (List Int) g__2 g__2h, Es (List Int) g__3 g__3h]) () () e ⟨rfl, rfl, rfl, rfl, trivial⟩ (H.sel [0, 1, 2, 3] rfl) ?_ ?_
      · clear H e
        rintro T84 k50 _ _ w83 o85 hk (H : Cx w0 fp0 S0 w83 [Bx b5 [(.int .i64 g__0), (g__1h).v, (g__2h).v, (g__3h).v], Es (List (Int × Int × List Int × List Int)) g__1 g__1h, Es (List Int) g__2 g__2h, Es (List Int) g__3 g__3h]) hrt hF86
        refine boolE (z := true) (ltLen hk) ?_
        refine sq ?_
        refine sq ?_
        obtain ⟨a93, e, hF94⟩ := bindS hF86; clear hF86
        have HH := H; clear H; obtain ⟨p91, m92, g95, c87, c88, c89, c90, H⟩ := HH.el (α := Int × Int × List Int × List Int) 1 rfl e; clear HH
        clear e
        obtain ⟨a93_0, a93_1, a93_2, a93_3⟩ := a93
        obtain ⟨_, _, h97, h98⟩ := g95
        replace H := H.part (β := List Int) a93_2 (h97 : Hd) 0 rfl (fun S h => (And.left (And.right (And.right h))))
        replace H := H.part (β := List Int) a93_3 (h98 : Hd) 1 rfl (fun S h => (And.right (And.right (And.right h))))
        replace H := H.sel [0, 1, 3, 4, 5, 6] rfl
        refine idxE c87 c88 c89 ?_; clear c87 c88 c89
        refine loadN [(.int .i64 a93_0), (.int .i64 a93_1), (h97).v, (h98).v] rfl c90 ?_; clear c90
        refine alloc_ gok rfl H ?_; clear H; intro b102 w101 hx H
        clear hx
        replace H : Cx w0 fp0 S0 w101 [Bx b102 [(.int .i64 0), (.int .i64 0), (.slice none 0 0), (.slice none 0 0)], Es (List Int) a93_3 h98, Es (List Int) a93_2 h97, Bx b5 [(.int .i64 g__0), (g__1h).v, (g__2h).v, (g__3h).v], Es (List (Int × Int × List Int × List Int)) g__1 g__1h, Es (List Int) g__2 g__2h, Es (List Int) g__3 g__3h] := H
        refine stA gok [(.int .i64 a93_0), (.int .i64 a93_1), (h97).v, (h98).v] rfl H rfl rfl rfl ?_; clear H; intro w104 H
        replace H : Cx w0 fp0 S0 w104 [Bx b102 [(.int .i64 a93_0), (.int .i64 a93_1), (h97).v, (h98).v], Es (List Int) a93_3 h98, Es (List Int) a93_2 h97, Bx b5 [(.int .i64 g__0), (g__1h).v, (g__2h).v, (g__3h).v], Es (List (Int × Int × List Int × List Int)) g__1 g__1h, Es (List Int) g__2 g__2h, Es (List Int) g__3 g__3h] := H
        refine loadN [(.int .i64 a93_0), (.int .i64 a93_1), (h97).v, (h98).v] rfl (fun j u hj => H.bx 0 rfl hj) ?_
        obtain ⟨y105, e, hF106⟩ := bindS hF94; clear hF94
        have ey105 := e; clear e
        refine callF (impl_Edge_isEdge_c a93_0 a93_1 a93_2 h97 a93_3 h98 y105 ey105) (Γi := []) H ⟨Vw.sh 2 rfl, Vw.sh 1 rfl, trivial⟩ ?_; clear H ey105
        rintro _ _ w107 ⟨rfl, rfl⟩ (H : Cx w0 fp0 S0 w107 [Bx b102 [(.int .i64 a93_0), (.int .i64 a93_1), (h97).v, (h98).v], Es (List Int) a93_3 h98, Es (List Int) a93_2 h97, Bx b5 [(.int .i64 g__0), (g__1h).v, (g__2h).v, (g__3h).v], Es (List (Int × Int × List Int × List Int)) g__1 g__1h, Es (List Int) g__2 g__2h, Es (List Int) g__3 g__3h])
        obtain ⟨a108, e, hF109⟩ := bindS hF106; clear hF106
        refine boolO e ?_; clear e
        cases a108
        · have hF110 := condF hF109; clear hF109
          refine arK hk hmx80 ?_
          have hs := Option.some.inj hF110; subst hs; clear hF110
          exact ⟨(), (), rfl, ⟨rfl, rfl, rfl, rfl, trivial⟩, H.sel [3, 4, 5, 6] rfl⟩
        · have hF111 := condT hF109; clear hF109
          have hs := Option.some.inj hF111; subst hs; clear hF111
          have hr := hrt _ rfl; subst hr
          have hF112 : some _ = some _ := hF82
          cases hF112
          exact ⟨_, _, rfl, ⟨rfl, rfl⟩, (H.sel [] rfl).close trivial⟩
      · clear H e
        rintro T114 _ _ w113 hr (H : Cx w0 fp0 S0 w113 [Bx b5 [(.int .i64 g__0), (g__1h).v, (g__2h).v, (g__3h).v], Es (List (Int × Int × List Int × List Int)) g__1 g__1h, Es (List Int) g__2 g__2h, Es (List Int) g__3 g__3h])
        subst hr
        refine boolE (z := false) geLen ?_
        refine sq ?_
        refine fld gok rfl rfl rfl rfl ?_
        refine load1 (H.bx 0 rfl (j := 0) rfl) ?_
        obtain ⟨a117, e, hF118⟩ := bindS hF82; clear hF82
        refine make_ (α := Bool) gok rfl rfl rfl rfl (makeCO_of e) H ?_; clear e H; intro h120 w119 hx H
        clear hx
        refine alloc_ gok rfl H ?_; clear H; intro b123 w122 hx H
        clear hx
        replace H : Cx w0 fp0 S0 w122 [Bx b123 [(.slice none 0 0)], E (List Bool) a117 h120, Bx b5 [(.int .i64 g__0), (g__1h).v, (g__2h).v, (g__3h).v], Es (List (Int × Int × List Int × List Int)) g__1 g__1h, Es (List Int) g__2 g__2h, Es (List Int) g__3 g__3h] := H
        refine alloc_ gok rfl H ?_; clear H; intro b126 w125 hx H
        clear hx
        replace H : Cx w0 fp0 S0 w125 [Bx b126 [(.bool false)], Bx b123 [(.slice none 0 0)], E (List Bool) a117 h120, Bx b5 [(.int .i64 g__0), (g__1h).v, (g__2h).v, (g__3h).v], Es (List (Int × Int × List Int × List Int)) g__1 g__1h, Es (List Int) g__2 g__2h, Es (List Int) g__3 g__3h] := H
        refine alloc_ gok rfl H ?_; clear H; intro b129 w128 hx H
        clear hx
        replace H : Cx w0 fp0 S0 w128 [Bx b129 [(.int .i64 0)], Bx b126 [(.bool false)], Bx b123 [(.slice none 0 0)], E (List Bool) a117 h120, Bx b5 [(.int .i64 g__0), (g__1h).v, (g__2h).v, (g__3h).v], Es (List (Int × Int × List Int × List Int)) g__1 g__1h, Es (List Int) g__2 g__2h, Es (List Int) g__3 g__3h] := H
        replace H := H.sel [2, 0, 1, 3, 4, 5, 6, 7] rfl
        refine stB0 H rfl ?_; clear H; intro w131 H
        replace H : Cx w0 fp0 S0 w131 [Bx b123 [(h120).v], Bx b129 [(.int .i64 0)], Bx b126 [(.bool false)], E (List Bool) a117 h120, Bx b5 [(.int .i64 g__0), (g__1h).v, (g__2h).v, (g__3h).v], Es (List (Int × Int × List Int × List Int)) g__1 g__1h, Es (List Int) g__2 g__2h, Es (List Int) g__3 g__3h] := H
        replace H := H.sel [2, 0, 1, 3, 4, 5, 6, 7] rfl
        refine stB0 H rfl ?_; clear H; intro w132 H
        replace H : Cx w0 fp0 S0 w132 [Bx b126 [(.bool true)], Bx b123 [(h120).v], Bx b129 [(.int .i64 0)], E (List Bool) a117 h120, Bx b5 [(.int .i64 g__0), (g__1h).v, (g__2h).v, (g__3h).v], Es (List (Int × Int × List Int × List Int)) g__1 g__1h, Es (List Int) g__2 g__2h, Es (List Int) g__3 g__3h] := H
        replace H := H.sel [2, 0, 1, 3, 4, 5, 6, 7] rfl
        refine stB0 H rfl ?_; clear H; intro w133 H
        replace H : Cx w0 fp0 S0 w133 [Bx b129 [(.int .i64 0)], Bx b126 [(.bool true)], Bx b123 [(h120).v], E (List Bool) a117 h120, Bx b5 [(.int .i64 g__0), (g__1h).v, (g__2h).v, (g__3h).v], Es (List (Int × Int × List Int × List Int)) g__1 g__1h, Es (List Int) g__2 g__2h, Es (List Int) g__3 g__3h] := H
        refine loadN [(.int .i64 g__0), (g__1h).v, (g__2h).v, (g__3h).v] rfl (fun j u hj => H.bx 4 rfl hj) ?_
        obtain ⟨y134, e, hF135⟩ := bindS hF118; clear hF118
        obtain ⟨y134_0, y134_1, y134_2⟩ := y134
        have ey134 := e; clear e
        replace H := H.sel [4, 1, 2, 3, 0, 5, 6, 7] rfl
        refine callF (impl_Graph_lists_impl_Graph_isGraph_1_c g__0 g__1 g__1h g__2 g__2h g__3 g__3h b5 g__0 g__1 g__1h g__2 g__2h g__3 g__3h b126 true b123 a117 h120 b129 0 y134_0 y134_1 y134_2 ey134) (Γi := [Bx b5 [(.int .i64 g__0), (g__1h).v, (g__2h).v, (g__3h).v], Bx b126 [(.bool true)], Bx b123 [(h120).v], E (List Bool) a117 h120, Bx b129 [(.int .i64 0)]]) H ⟨Vw.sh 0 rfl, Vw.sh 1 rfl, Vw.sh 2 rfl, Vw.sh 0 rfl, Vw.sh 1 rfl, Vw.sh 2 rfl, trivial⟩ ?_; clear H ey134
        rintro _ _ w136 ⟨rfl, rfl⟩ (H : Cx w0 fp0 S0 w136 [Bx b5 [(.int .i64 g__0), (g__1h).v, (g__2h).v, (g__3h).v], Bx b126 [(.bool y134_0)], Bx b123 [(h120).v], E (List Bool) y134_1 h120, Bx b129 [(.int .i64 y134_2)], Es (List (Int × Int × List Int × List Int)) g__1 g__1h, Es (List Int) g__2 g__2h, Es (List Int) g__3 g__3h])
        obtain ⟨r143, hF145, hF144⟩ := bindS hF135; clear hF135
        refine cut (fun (q146 : Bool × Bool) => [(2, (.bool q146.2))]) (fun (q146 : Bool × Bool) w' => (q146.1, q146.2) = r143 ∧ Cx w0 fp0 S0 w' []) ?_ ?_
        · skip
          refine load1 (H.bx0 1 rfl) ?_
          cases y134_0
          · have hF147 := condF hF145; clear hF145
            exact ⟨(false, false), ⟨rfl, trivial⟩, Option.some.inj hF147, H.sel [] rfl⟩
          · have hF148 := condT hF145; clear hF145
            refine load1 (H.bx0 4 rfl) ?_
            refine fld gok rfl rfl rfl rfl ?_
            refine load1 (H.bx 0 rfl (j := 0) rfl) ?_
            obtain ⟨a149, e, hF150⟩ := bindS hF148; clear hF148
            refine boolO e ?_; clear e
            exact ⟨(true, a149), ⟨rfl, trivial⟩, Option.some.inj hF150, H.sel [] rfl⟩
        · clear hF145 H
          rintro T152 ⟨s141_0, s141_1⟩ w151 ⟨hr, (H : Cx w0 fp0 S0 w151 [])⟩
          subst hr
          cases hF144
          exact ⟨_, _, rfl, ⟨rfl, rfl⟩, (H.sel [] rfl).close trivial⟩
    · have hF153 := condT hF27; clear hF27
      cases hF153
      exact ⟨_, _, rfl, ⟨rfl, rfl⟩, (H.sel [] rfl).close trivial⟩

theorem impl_zeros_c (n_ : Int) (y : List Int) (hF : F_impl_zeros n_ = some y) :
    ConF Try.prog 134 #[(.int .i64 n_)] [] [] (fun v Γ' => ∃ z0 : Hd, v = (z0).v ∧ Γ' = [E (List Int) y z0]) := by
  intro w0 S0 fp0 hI hS
  have H : Cx w0 fp0 S0 w0 [] := Cx.start hI hS
  clear hI hS
  refine enterC (args := [_]) gok Try.func134 rfl _ rfl rfl rfl ?_
  obtain ⟨a1, e, hF2⟩ := bindS hF; clear hF
  refine make_ (α := Int) gok rfl rfl rfl rfl (makeCO_of e) H ?_; clear e H; intro h4 w3 hx H
  clear hx
  cases hF2
  exact ⟨_, _, rfl, ⟨h4, rfl, rfl⟩, (H.sel [0] rfl).close ⟨cloE, trivial⟩⟩

theorem impl_upTo_c (n_ : Int) (y : List Int) (hF : F_impl_upTo n_ = some y) :
    ConF Try.prog 128 #[(.int .i64 n_)] [] [] (fun v Γ' => ∃ z0 : Hd, v = (z0).v ∧ Γ' = [E (List Int) y z0]) := by
  intro w0 S0 fp0 hI hS
  have H : Cx w0 fp0 S0 w0 [] := Cx.start hI hS
  clear hI hS
  refine enterC (args := [_]) gok Try.func128 rfl _ rfl rfl rfl ?_
  obtain ⟨y1, e, hF2⟩ := bindS hF; clear hF
  have ey1 := e; clear e
  refine callF (impl_zeros_c n_ y1 ey1) (Γi := []) H trivial ?_; clear H ey1
  rintro _ _ w3 ⟨h4, rfl, rfl⟩ (H : Cx w0 fp0 S0 w3 [E (List Int) y1 h4])
  refine sq ?_
  refine lenE (H.ro (α := List Int) 0 rfl).len ?_
  have hmx31 := (H.ro (α := List Int) 0 rfl).max
  obtain ⟨r32, e, hF33⟩ := bindS hF2; clear hF2
  refine loopS _ y1.length (fun (k6 : Nat) (s29 : List Int) (_ : Unit) => [(3, (h4).v), (8, (.int .i64 ((y1.length : Nat) : Int))), (9, (.int .i64 ((k6 : Nat) : Int)))]) (fun _ (s29 : List Int) (_ : Unit) w' => Cx w0 fp0 S0 w' [E (List Int) s29 h4]) y1 () e ⟨rfl, rfl, rfl, trivial⟩ (H.sel [0] rfl) ?_ ?_
  · clear H e
    rintro T35 k6 s29 _ w34 o36 hk (H : Cx w0 fp0 S0 w34 [E (List Int) s29 h4]) hF37
    refine boolE (z := true) (ltLen hk) ?_
    refine sq ?_
    refine sq ?_
    obtain ⟨a44, e, hF45⟩ := bindS hF37; clear hF37
    have ea44 := e; clear e
    obtain ⟨p42, m43, c38, c39, c40⟩ := (H.ro (α := List Int) 0 rfl).setp ea44
    refine idxE c38 c39 c40 ?_
    refine setS (α := Int) H c38 c39 ea44 ?_; clear H c38 c39 c40 ea44; intro w46 H
    refine arK hk hmx31 ?_
    have hs := Option.some.inj hF45; subst hs; clear hF45
    exact ⟨(), ⟨rfl, rfl, rfl, trivial⟩, H.sel [0] rfl⟩
  · clear H e
    rintro T48 _ w47 (H : Cx w0 fp0 S0 w47 [E (List Int) r32 h4])
    refine boolE (z := false) geLen ?_
    refine sq ?_
    cases hF33
    exact ⟨_, _, rfl, ⟨h4, rfl, rfl⟩, (H.sel [0] rfl).close ⟨cloE, trivial⟩⟩

theorem impl_chosen_c (v_ : List Int) (v_h : Hd) (at_ : List Int) (at_h : Hd) (y : List Int) (hF : F_impl_chosen v_ at_ = some y) :
    ConF Try.prog 129 #[(v_h).v, (at_h).v] [Es (List Int) v_ v_h, Es (List Int) at_ at_h] [] (fun v Γ' => ∃ z0 : Hd, v = (z0).v ∧ Γ' = [E (List Int) y z0]) := by
  intro w0 S0 fp0 hI hS
  have H : Cx w0 fp0 S0 w0 [Es (List Int) v_ v_h, Es (List Int) at_ at_h] := Cx.start hI hS
  clear hI hS
  refine enterC (args := [_, _]) gok Try.func129 rfl _ rfl rfl rfl ?_
  refine lenE (H.rs (α := List Int) 1 rfl).len ?_
  obtain ⟨a3, e, hF4⟩ := bindS hF; clear hF
  refine make_ (α := Int) gok rfl rfl rfl rfl e H ?_; clear e H; intro h6 w5 hx H
  clear hx
  refine sq ?_
  refine lenE (H.rs (α := List Int) 2 rfl).len ?_
  have hmx65 := (H.rs (α := List Int) 2 rfl).max
  obtain ⟨r66, e, hF67⟩ := bindS hF4; clear hF4
  refine loopS _ at_.length (fun (k8 : Nat) (s62 : List Int) (g63 : Hd) => [(0, (v_h).v), (5, (g63).v), (11, (at_h).v), (12, (.int .i64 ((at_.length : Nat) : Int))), (13, (.int .i64 ((k8 : Nat) : Int)))]) (fun _ (s62 : List Int) (g63 : Hd) w' => Cx w0 fp0 S0 w' [Es (List Int) v_ v_h, E (List Int) s62 g63, Es (List Int) at_ at_h]) a3 h6 e ⟨rfl, rfl, rfl, rfl, rfl, trivial⟩ (H.sel [1, 0, 2] rfl) ?_ ?_
  · clear H e
    rintro T69 k8 s62 g63 w68 o70 hk (H : Cx w0 fp0 S0 w68 [Es (List Int) v_ v_h, E (List Int) s62 g63, Es (List Int) at_ at_h]) hF71
    refine boolE (z := true) (ltLen hk) ?_
    refine sq ?_
    refine sq ?_
    obtain ⟨a78, e, hF79⟩ := bindS hF71; clear hF71
    obtain ⟨p76, m77, c72, c73, c74, c75⟩ := (H.rs (α := List Int) 2 rfl).at1 e; clear e
    refine idxE c72 c73 c74 ?_; clear c72 c73 c74
    refine load1 c75 ?_; clear c75
    obtain ⟨a86, e, hF87⟩ := bindS hF79; clear hF79
    obtain ⟨p84, m85, c80, c81, c82, c83⟩ := (H.rs (α := List Int) 0 rfl).at1 e; clear e
    refine idxE c80 c81 c82 ?_; clear c80 c81 c82
    refine load1 c83 ?_; clear c83
    refine lit1S (α := Int) gok rfl rfl rfl rfl H ?_; clear H; intro h89 w88 hx H
    clear hx
    obtain ⟨a91, e, hF92⟩ := bindS hF87; clear hF87
    replace H := H.sel [2, 0, 1, 3] rfl
    refine append_ (α := Int) gok rfl rfl rfl rfl H e ?_; clear e H; intro h94 w93 H
    refine arK hk hmx65 ?_
    have hs := Option.some.inj hF92; subst hs; clear hF92
    exact ⟨h94, ⟨rfl, rfl, rfl, rfl, rfl, trivial⟩, H.sel [1, 0, 2] rfl⟩
  · clear H e
    rintro T97 g99 w96 (H : Cx w0 fp0 S0 w96 [Es (List Int) v_ v_h, E (List Int) r66 g99, Es (List Int) at_ at_h])
    refine boolE (z := false) geLen ?_
    refine sq ?_
    cases hF67
    exact ⟨_, _, rfl, ⟨g99, rfl, rfl⟩, (H.sel [1] rfl).close ⟨cloE, trivial⟩⟩

theorem impl_mapped_c (list_ : List Int) (list_h : Hd) (to_ : List Int) (to_h : Hd) (y : List Int) (hF : F_impl_mapped list_ to_ = some y) :
    ConF Try.prog 96 #[(list_h).v, (to_h).v] [Es (List Int) list_ list_h, Es (List Int) to_ to_h] [] (fun v Γ' => ∃ z0 : Hd, v = (z0).v ∧ Γ' = [E (List Int) y z0]) := by
  intro w0 S0 fp0 hI hS
  have H : Cx w0 fp0 S0 w0 [Es (List Int) list_ list_h, Es (List Int) to_ to_h] := Cx.start hI hS
  clear hI hS
  refine enterC (args := [_, _]) gok Try.func96 rfl _ rfl rfl rfl ?_
  obtain ⟨y3, e, hF4⟩ := bindS hF; clear hF
  have ey3 := e; clear e
  refine callF (impl_chosen_c to_ to_h list_ list_h y3 ey3) (Γi := []) H ⟨Vw.sh 1 rfl, Vw.sh 0 rfl, trivial⟩ ?_; clear H ey3
  rintro _ _ w5 ⟨h6, rfl, rfl⟩ (H : Cx w0 fp0 S0 w5 [E (List Int) y3 h6, Es (List Int) list_ list_h, Es (List Int) to_ to_h])
  cases hF4
  exact ⟨_, _, rfl, ⟨h6, rfl, rfl⟩, (H.sel [0] rfl).close ⟨cloE, trivial⟩⟩
end Go.Proofs.Ytgfnophfoccamaa
