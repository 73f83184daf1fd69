/-
  Contracts, printed by a program (wip/y/gen.py): each function of Go computes its partial function. Condition of each: its partial function yields a value.
-/
import Derived.Test.YtgfnophfoccamaaZEng
import Derived.Test.YtgfnophfoccamaaZFn
namespace Go.Proofs.Ytgfnophfoccamaa
open Go Go.Proofs.Ytgfnophfoccamaa.RW
set_option maxRecDepth 100000
set_option linter.unusedVariables false

theorem laws_szIntS_c (a_ : List Int) (a_h : Hd) (left_ : Int) (y : Int) (hF : F_laws_szIntS a_ left_ = some y) :
    ConF Try.prog 40 #[(a_h).v, (.int .i64 left_)] [Es (List Int) a_ a_h] [] (fun v Γ' => v = (.int .i64 y) ∧ Γ' = []) := by
  intro w0 S0 fp0 hI hS
  have H : Cx w0 fp0 S0 w0 [Es (List Int) a_ a_h] := Cx.start hI hS
  clear hI hS
  refine enterC (args := [_, _]) gok Try.func40 rfl _ rfl rfl rfl ?_
  refine lenE (H.rs (α := List Int) 0 rfl).len ?_
  obtain ⟨a2, e, hF3⟩ := bindS hF; clear hF
  refine arO e ?_; clear e
  refine sq ?_
  obtain ⟨a4, e, hF5⟩ := bindS hF3; clear hF3
  refine boolO e ?_; clear e
  cases a4
  · have hF6 := condF hF5; clear hF5
    cases hF6
    exact ⟨_, _, rfl, ⟨rfl, rfl⟩, (H.sel [] rfl).close trivial⟩
  · have hF7 := condT hF5; clear hF5
    cases hF7
    exact ⟨_, _, rfl, ⟨rfl, rfl⟩, (H.sel [] rfl).close trivial⟩

theorem laws_szEdge_c (a__0 : Int) (a__1 : Int) (a__2 : List Int) (a__2h : Hd) (a__3 : List Int) (a__3h : Hd) (left_ : Int) (y : Int) (hF : F_laws_szEdge (a__0, a__1, a__2, a__3) left_ = some y) :
    ConF Try.prog 76 #[(.agg #[(.int .i64 a__0), (.int .i64 a__1), (a__2h).v, (a__3h).v]), (.int .i64 left_)] [Es (List Int) a__2 a__2h, Es (List Int) a__3 a__3h] [] (fun v Γ' => v = (.int .i64 y) ∧ Γ' = []) := by
  intro w0 S0 fp0 hI hS
  have H : Cx w0 fp0 S0 w0 [Es (List Int) a__2 a__2h, Es (List Int) a__3 a__3h] := Cx.start hI hS
  clear hI hS
  refine enterC (args := [_, _]) gok Try.func76 rfl _ rfl rfl rfl ?_
  refine box_ H ?_; clear H; intro b4 w3 hx H
  clear hx
  replace H : Cx w0 fp0 S0 w3 [Bx b4 [(.int .i64 a__0), (.int .i64 a__1), (a__2h).v, (a__3h).v], Es (List Int) a__2 a__2h, Es (List Int) a__3 a__3h] := H
  refine fld gok rfl rfl rfl rfl ?_
  refine load1 (H.bx 0 rfl (j := 2) rfl) ?_
  obtain ⟨y6, e, hF7⟩ := bindS hF; clear hF
  have ey6 := e; clear e
  refine callF (laws_szIntS_c a__2 a__2h left_ y6 ey6) (Γi := []) H ⟨Vw.sh 1 rfl, trivial⟩ ?_; clear H ey6
  rintro _ _ w8 ⟨rfl, rfl⟩ (H : Cx w0 fp0 S0 w8 [Bx b4 [(.int .i64 a__0), (.int .i64 a__1), (a__2h).v, (a__3h).v], Es (List Int) a__2 a__2h, Es (List Int) a__3 a__3h])
  refine sq ?_
  obtain ⟨a9, e, hF10⟩ := bindS hF7; clear hF7
  refine boolO e ?_; clear e
  cases a9
  · have hF11 := condF hF10; clear hF10
    refine fld gok rfl rfl rfl rfl ?_
    refine load1 (H.bx 0 rfl (j := 3) rfl) ?_
    obtain ⟨y12, e, hF13⟩ := bindS hF11; clear hF11
    have ey12 := e; clear e
    refine callF (laws_szIntS_c a__3 a__3h y6 y12 ey12) (Γi := []) H ⟨Vw.sh 2 rfl, trivial⟩ ?_; clear H ey12
    rintro _ _ w14 ⟨rfl, rfl⟩ (H : Cx w0 fp0 S0 w14 [Bx b4 [(.int .i64 a__0), (.int .i64 a__1), (a__2h).v, (a__3h).v], Es (List Int) a__2 a__2h, Es (List Int) a__3 a__3h])
    refine sq ?_
    obtain ⟨a15, e, hF16⟩ := bindS hF13; clear hF13
    refine boolO e ?_; clear e
    cases a15
    · have hF17 := condF hF16; clear hF16
      cases hF17
      exact ⟨_, _, rfl, ⟨rfl, rfl⟩, (H.sel [] rfl).close trivial⟩
    · have hF18 := condT hF16; clear hF16
      cases hF18
      exact ⟨_, _, rfl, ⟨rfl, rfl⟩, (H.sel [] rfl).close trivial⟩
  · have hF19 := condT hF10; clear hF10
    cases hF19
    exact ⟨_, _, rfl, ⟨rfl, rfl⟩, (H.sel [] rfl).close trivial⟩

theorem laws_szEdgeS_c (a_ : List (Int × Int × List Int × List Int)) (a_h : Hd) (left_ : Int) (y : Int) (hF : F_laws_szEdgeS a_ left_ = some y) :
    ConF Try.prog 39 #[(a_h).v, (.int .i64 left_)] [Es (List (Int × Int × List Int × List Int)) a_ a_h] [] (fun v Γ' => v = (.int .i64 y) ∧ Γ' = []) := by
  intro w0 S0 fp0 hI hS
  have H : Cx w0 fp0 S0 w0 [Es (List (Int × Int × List Int × List Int)) a_ a_h] := Cx.start hI hS
  clear hI hS
  refine enterC (args := [_, _]) gok Try.func39 rfl _ rfl rfl rfl ?_
  refine lenE (H.rs (α := List (Int × Int × List Int × List Int)) 0 rfl).len ?_
  obtain ⟨a2, e, hF3⟩ := bindS hF; clear hF
  refine arO e ?_; clear e
  refine sq ?_
  obtain ⟨a4, e, hF5⟩ := bindS hF3; clear hF3
  refine boolO e ?_; clear e
  cases a4
  · have hF6 := condF hF5; clear hF5
    obtain ⟨r105, hF107, hF106⟩ := bindS hF6; clear hF6
    refine cut (fun (q108 : Int) => [(1, (.int .i64 q108))]) (fun (q108 : Int) w' => .inl q108 = r105 ∧ Cx w0 fp0 S0 w' []) ?_ ?_
    · skip
      refine loopW _ (fun (s167 : Int × Int) (_ : Unit) => [(0, (a_h).v), (1, (.int .i64 s167.1)), (5, (.int .i64 s167.2))]) (fun (s167 : Int × Int) (_ : Unit) w' => Cx w0 fp0 S0 w' [Es (List (Int × Int × List Int × List Int)) a_ a_h]) (a2, 0) () hF107 ⟨rfl, rfl, rfl, trivial⟩ (H.sel [0] rfl) ?_
      · clear H
        rintro T173 ⟨s167_0, s167_1⟩ _ w172 o174 (H : Cx w0 fp0 S0 w172 [Es (List (Int × Int × List Int × List Int)) a_ a_h]) hrt hF175
        refine sq ?_
        refine lenE (H.rs (α := List (Int × Int × List Int × List Int)) 0 rfl).len ?_
        obtain ⟨a176, e, hF177⟩ := bindS hF175; clear hF175
        refine boolO e ?_; clear e
        cases a176
        · have hF178 := condF hF177; clear hF177
          have hs := Option.some.inj hF178; subst hs; clear hF178
          have hF179 : some _ = some _ := congrArg some (hrt _ rfl).symm
          exact ⟨s167_0, ⟨rfl, trivial⟩, Option.some.inj hF179, H.sel [] rfl⟩
        · have hF180 := condT hF177; clear hF177
          refine sq ?_
          obtain ⟨a187, e, hF188⟩ := bindS hF180; clear hF180
          have HH := H; clear H; obtain ⟨p185, m186, g189, c181, c182, c183, c184, H⟩ := HH.el (α := Int × Int × List Int × List Int) 0 rfl e; clear HH
          clear e
          obtain ⟨a187_0, a187_1, a187_2, a187_3⟩ := a187
          obtain ⟨_, _, h191, h192⟩ := g189
          replace H := H.part (β := List Int) a187_2 (h191 : Hd) 0 rfl (fun S h => (And.left (And.right (And.right h))))
          replace H := H.part (β := List Int) a187_3 (h192 : Hd) 1 rfl (fun S h => (And.right (And.right (And.right h))))
          replace H := H.sel [0, 1, 3] rfl
          refine idxE c181 c182 c183 ?_; clear c181 c182 c183
          refine loadN [(.int .i64 a187_0), (.int .i64 a187_1), (h191).v, (h192).v] rfl c184 ?_; clear c184
          obtain ⟨y195, e, hF196⟩ := bindS hF188; clear hF188
          have ey195 := e; clear e
          refine callF (laws_szEdge_c a187_0 a187_1 a187_2 h191 a187_3 h192 s167_0 y195 ey195) (Γi := []) H ⟨Vw.sh 1 rfl, Vw.sh 0 rfl, trivial⟩ ?_; clear H ey195
          rintro _ _ w197 ⟨rfl, rfl⟩ (H : Cx w0 fp0 S0 w197 [Es (List Int) a187_3 h192, Es (List Int) a187_2 h191, Es (List (Int × Int × List Int × List Int)) a_ a_h])
          obtain ⟨a198, e, hF199⟩ := bindS hF196; clear hF196
          refine boolO e ?_; clear e
          cases a198
          · have hF200 := condF hF199; clear hF199
            obtain ⟨a201, e, hF202⟩ := bindS hF200; clear hF200
            refine arO e ?_; clear e
            have hs := Option.some.inj hF202; subst hs; clear hF202
            exact ⟨(y195, a201), (), rfl, ⟨rfl, rfl, rfl, trivial⟩, H.sel [2] rfl⟩
          · have hF203 := condT hF199; clear hF199
            have hs := Option.some.inj hF203; subst hs; clear hF203
            have hF204 : some _ = some _ := congrArg some (hrt _ rfl).symm
            have hs := Option.some.inj hF204; subst hs; clear hF204
            have hF205 : some _ = some _ := hF106; clear hF106
            cases hF205
            exact ⟨_, _, rfl, ⟨rfl, rfl⟩, (H.sel [] rfl).close trivial⟩
    · clear hF107 H
      rintro T207 s103 w206 ⟨hr, (H : Cx w0 fp0 S0 w206 [])⟩
      subst hr
      cases hF106
      exact ⟨_, _, rfl, ⟨rfl, rfl⟩, (H.sel [] rfl).close trivial⟩
  · have hF208 := condT hF5; clear hF5
    cases hF208
    exact ⟨_, _, rfl, ⟨rfl, rfl⟩, (H.sel [] rfl).close trivial⟩

theorem laws_szGraph_c (a__0 : Int) (a__1 : List (Int × Int × List Int × List Int)) (a__1h : Hd) (a__2 : List Int) (a__2h : Hd) (a__3 : List Int) (a__3h : Hd) (left_ : Int) (y : Int) (hF : F_laws_szGraph (a__0, a__1, a__2, a__3) left_ = some y) :
    ConF Try.prog 9 #[(.agg #[(.int .i64 a__0), (a__1h).v, (a__2h).v, (a__3h).v]), (.int .i64 left_)] [Es (List (Int × Int × List Int × List Int)) a__1 a__1h, Es (List Int) a__2 a__2h, Es (List Int) a__3 a__3h] [] (fun v Γ' => v = (.int .i64 y) ∧ Γ' = []) := by
  intro w0 S0 fp0 hI hS
  have H : Cx w0 fp0 S0 w0 [Es (List (Int × Int × List Int × List Int)) a__1 a__1h, Es (List Int) a__2 a__2h, Es (List Int) a__3 a__3h] := Cx.start hI hS
  clear hI hS
  refine enterC (args := [_, _]) gok Try.func9 rfl _ rfl rfl rfl ?_
  refine box_ H ?_; clear H; intro b5 w4 hx H
  clear hx
  replace H : Cx w0 fp0 S0 w4 [Bx b5 [(.int .i64 a__0), (a__1h).v, (a__2h).v, (a__3h).v], Es (List (Int × Int × List Int × List Int)) a__1 a__1h, Es (List Int) a__2 a__2h, Es (List Int) a__3 a__3h] := H
  refine fld gok rfl rfl rfl rfl ?_
  refine load1 (H.bx 0 rfl (j := 1) rfl) ?_
  obtain ⟨y7, e, hF8⟩ := bindS hF; clear hF
  have ey7 := e; clear e
  refine callF (laws_szEdgeS_c a__1 a__1h left_ y7 ey7) (Γi := []) H ⟨Vw.sh 1 rfl, trivial⟩ ?_; clear H ey7
  rintro _ _ w9 ⟨rfl, rfl⟩ (H : Cx w0 fp0 S0 w9 [Bx b5 [(.int .i64 a__0), (a__1h).v, (a__2h).v, (a__3h).v], Es (List (Int × Int × List Int × List Int)) a__1 a__1h, Es (List Int) a__2 a__2h, Es (List Int) a__3 a__3h])
  refine sq ?_
  obtain ⟨a10, e, hF11⟩ := bindS hF8; clear hF8
  refine boolO e ?_; clear e
  cases a10
  · have hF12 := condF hF11; clear hF11
    refine fld gok rfl rfl rfl rfl ?_
    refine load1 (H.bx 0 rfl (j := 2) rfl) ?_
    obtain ⟨y13, e, hF14⟩ := bindS hF12; clear hF12
    have ey13 := e; clear e
    refine callF (laws_szIntS_c a__2 a__2h y7 y13 ey13) (Γi := []) H ⟨Vw.sh 2 rfl, trivial⟩ ?_; clear H ey13
    rintro _ _ w15 ⟨rfl, rfl⟩ (H : Cx w0 fp0 S0 w15 [Bx b5 [(.int .i64 a__0), (a__1h).v, (a__2h).v, (a__3h).v], Es (List (Int × Int × List Int × List Int)) a__1 a__1h, Es (List Int) a__2 a__2h, Es (List Int) a__3 a__3h])
    refine sq ?_
    obtain ⟨a16, e, hF17⟩ := bindS hF14; clear hF14
    refine boolO e ?_; clear e
    cases a16
    · have hF18 := condF hF17; clear hF17
      refine fld gok rfl rfl rfl rfl ?_
      refine load1 (H.bx 0 rfl (j := 3) rfl) ?_
      obtain ⟨y19, e, hF20⟩ := bindS hF18; clear hF18
      have ey19 := e; clear e
      refine callF (laws_szIntS_c a__3 a__3h y13 y19 ey19) (Γi := []) H ⟨Vw.sh 3 rfl, trivial⟩ ?_; clear H ey19
      rintro _ _ w21 ⟨rfl, rfl⟩ (H : Cx w0 fp0 S0 w21 [Bx b5 [(.int .i64 a__0), (a__1h).v, (a__2h).v, (a__3h).v], Es (List (Int × Int × List Int × List Int)) a__1 a__1h, Es (List Int) a__2 a__2h, Es (List Int) a__3 a__3h])
      refine sq ?_
      obtain ⟨a22, e, hF23⟩ := bindS hF20; clear hF20
      refine boolO e ?_; clear e
      cases a22
      · have hF24 := condF hF23; clear hF23
        cases hF24
        exact ⟨_, _, rfl, ⟨rfl, rfl⟩, (H.sel [] rfl).close trivial⟩
      · have hF25 := condT hF23; clear hF23
        cases hF25
        exact ⟨_, _, rfl, ⟨rfl, rfl⟩, (H.sel [] rfl).close trivial⟩
    · have hF26 := condT hF17; clear hF17
      cases hF26
      exact ⟨_, _, rfl, ⟨rfl, rfl⟩, (H.sel [] rfl).close trivial⟩
  · have hF27 := condT hF11; clear hF11
    cases hF27
    exact ⟨_, _, rfl, ⟨rfl, rfl⟩, (H.sel [] rfl).close trivial⟩

theorem laws_szMatch_c (a__0 : List Int) (a__0h : Hd) (a__1 : List Int) (a__1h : Hd) (left_ : Int) (y : Int) (hF : F_laws_szMatch (a__0, a__1) left_ = some y) :
    ConF Try.prog 28 #[(.agg #[(a__0h).v, (a__1h).v]), (.int .i64 left_)] [Es (List Int) a__0 a__0h, Es (List Int) a__1 a__1h] [] (fun v Γ' => v = (.int .i64 y) ∧ Γ' = []) := by
  intro w0 S0 fp0 hI hS
  have H : Cx w0 fp0 S0 w0 [Es (List Int) a__0 a__0h, Es (List Int) a__1 a__1h] := Cx.start hI hS
  clear hI hS
  refine enterC (args := [_, _]) gok Try.func28 rfl _ rfl rfl rfl ?_
  refine box_ H ?_; clear H; intro b4 w3 hx H
  clear hx
  replace H : Cx w0 fp0 S0 w3 [Bx b4 [(a__0h).v, (a__1h).v], Es (List Int) a__0 a__0h, Es (List Int) a__1 a__1h] := H
  refine fld gok rfl rfl rfl rfl ?_
  refine load1 (H.bx 0 rfl (j := 0) rfl) ?_
  obtain ⟨y6, e, hF7⟩ := bindS hF; clear hF
  have ey6 := e; clear e
  refine callF (laws_szIntS_c a__0 a__0h left_ y6 ey6) (Γi := []) H ⟨Vw.sh 1 rfl, trivial⟩ ?_; clear H ey6
  rintro _ _ w8 ⟨rfl, rfl⟩ (H : Cx w0 fp0 S0 w8 [Bx b4 [(a__0h).v, (a__1h).v], Es (List Int) a__0 a__0h, Es (List Int) a__1 a__1h])
  refine sq ?_
  obtain ⟨a9, e, hF10⟩ := bindS hF7; clear hF7
  refine boolO e ?_; clear e
  cases a9
  · have hF11 := condF hF10; clear hF10
    refine fld gok rfl rfl rfl rfl ?_
    refine load1 (H.bx 0 rfl (j := 1) rfl) ?_
    obtain ⟨y12, e, hF13⟩ := bindS hF11; clear hF11
    have ey12 := e; clear e
    refine callF (laws_szIntS_c a__1 a__1h y6 y12 ey12) (Γi := []) H ⟨Vw.sh 2 rfl, trivial⟩ ?_; clear H ey12
    rintro _ _ w14 ⟨rfl, rfl⟩ (H : Cx w0 fp0 S0 w14 [Bx b4 [(a__0h).v, (a__1h).v], Es (List Int) a__0 a__0h, Es (List Int) a__1 a__1h])
    refine sq ?_
    obtain ⟨a15, e, hF16⟩ := bindS hF13; clear hF13
    refine boolO e ?_; clear e
    cases a15
    · have hF17 := condF hF16; clear hF16
      cases hF17
      exact ⟨_, _, rfl, ⟨rfl, rfl⟩, (H.sel [] rfl).close trivial⟩
    · have hF18 := condT hF16; clear hF16
      cases hF18
      exact ⟨_, _, rfl, ⟨rfl, rfl⟩, (H.sel [] rfl).close trivial⟩
  · have hF19 := condT hF10; clear hF10
    cases hF19
    exact ⟨_, _, rfl, ⟨rfl, rfl⟩, (H.sel [] rfl).close trivial⟩

theorem laws_toIntS_c (a_ : List Int) (a_h : Hd) (y : List Int) (hF : F_laws_toIntS a_ = some y) :
    ConF Try.prog 44 #[(a_h).v] [Es (List Int) a_ a_h] [] (fun v Γ' => ∃ z0 : Hd, v = (z0).v ∧ Γ' = [E (List Int) y z0]) := by
  intro w0 S0 fp0 hI hS
  have H : Cx w0 fp0 S0 w0 [Es (List Int) a_ a_h] := Cx.start hI hS
  clear hI hS
  refine enterC (args := [_]) gok Try.func44 rfl _ rfl rfl rfl ?_
  refine lenE (H.rs (α := List Int) 0 rfl).len ?_
  obtain ⟨a2, e, hF3⟩ := bindS hF; clear hF
  refine make_ (α := Int) gok rfl rfl rfl rfl (makeCO_of e) H ?_; clear e H; intro h5 w4 hx H
  clear hx
  obtain ⟨r92, hF94, hF93⟩ := bindS hF3; clear hF3
  refine cut (fun (q95 : List Int) => [(3, (h5).v)]) (fun (q95 : List Int) w' => q95 = r92 ∧ Cx w0 fp0 S0 w' [E (List Int) q95 h5]) ?_ ?_
  · skip
    refine loopW _ (fun (s146 : List Int × Int) (_ : Unit) => [(0, (a_h).v), (3, (h5).v), (4, (.int .i64 s146.2))]) (fun (s146 : List Int × Int) (_ : Unit) w' => Cx w0 fp0 S0 w' [Es (List Int) a_ a_h, E (List Int) s146.1 h5]) (a2, 0) () hF94 ⟨rfl, rfl, rfl, trivial⟩ (H.sel [1, 0] rfl) ?_
    · clear H
      rintro T152 ⟨s146_0, s146_1⟩ _ w151 o153 (H : Cx w0 fp0 S0 w151 [Es (List Int) a_ a_h, E (List Int) s146_0 h5]) hrt hF154
      refine sq ?_
      refine lenE (H.rs (α := List Int) 0 rfl).len ?_
      obtain ⟨a155, e, hF156⟩ := bindS hF154; clear hF154
      refine boolO e ?_; clear e
      cases a155
      · have hF157 := condF hF156; clear hF156
        have hs := Option.some.inj hF157; subst hs; clear hF157
        have hF158 : some _ = some _ := congrArg some (hrt _ rfl).symm
        exact ⟨s146_0, ⟨rfl, trivial⟩, Option.some.inj hF158, H.sel [1] rfl⟩
      · have hF159 := condT hF156; clear hF156
        refine sq ?_
        obtain ⟨a166, e, hF167⟩ := bindS hF159; clear hF159
        obtain ⟨p164, m165, c160, c161, c162, c163⟩ := (H.rs (α := List Int) 0 rfl).at1 e; clear e
        refine idxE c160 c161 c162 ?_; clear c160 c161 c162
        refine load1 c163 ?_; clear c163
        obtain ⟨a174, e, hF175⟩ := bindS hF167; clear hF167
        have ea174 := e; clear e
        obtain ⟨p172, m173, c168, c169, c170⟩ := (H.ro (α := List Int) 1 rfl).setp ea174
        refine idxE c168 c169 c170 ?_
        replace H := H.sel [1, 0] rfl
        refine setS (α := Int) H c168 c169 ea174 ?_; clear H c168 c169 c170 ea174; intro w176 H
        obtain ⟨a177, e, hF178⟩ := bindS hF175; clear hF175
        refine arO e ?_; clear e
        have hs := Option.some.inj hF178; subst hs; clear hF178
        exact ⟨(a174, a177), (), rfl, ⟨rfl, rfl, rfl, trivial⟩, H.sel [1, 0] rfl⟩
  · clear hF94 H
    rintro T180 s90 w179 ⟨hr, (H : Cx w0 fp0 S0 w179 [E (List Int) s90 h5])⟩
    subst hr
    cases hF93
    exact ⟨_, _, rfl, ⟨h5, rfl, rfl⟩, (H.sel [0] rfl).close ⟨cloE, trivial⟩⟩

theorem laws_toEdge_c (a__0 : Int) (a__1 : Int) (a__2 : List Int) (a__2h : Hd) (a__3 : List Int) (a__3h : Hd) (y_0 : Int) (y_1 : Int) (y_2 : List Int) (y_3 : List Int) (hF : F_laws_toEdge (a__0, a__1, a__2, a__3) = some (y_0, y_1, y_2, y_3)) :
    ConF Try.prog 80 #[(.agg #[(.int .i64 a__0), (.int .i64 a__1), (a__2h).v, (a__3h).v])] [Es (List Int) a__2 a__2h, Es (List Int) a__3 a__3h] [] (fun v Γ' => ∃ z0 z1 : Hd, v = (.agg #[(.int .i64 y_0), (.int .i64 y_1), (z0).v, (z1).v]) ∧ Γ' = [E (List Int) y_2 z0, E (List Int) y_3 z1]) := by
  intro w0 S0 fp0 hI hS
  have H : Cx w0 fp0 S0 w0 [Es (List Int) a__2 a__2h, Es (List Int) a__3 a__3h] := Cx.start hI hS
  clear hI hS
  refine enterC (args := [_]) gok Try.func80 rfl _ rfl rfl rfl ?_
  refine box_ H ?_; clear H; intro b4 w3 hx H
  clear hx
  replace H : Cx w0 fp0 S0 w3 [Bx b4 [(.int .i64 a__0), (.int .i64 a__1), (a__2h).v, (a__3h).v], Es (List Int) a__2 a__2h, Es (List Int) a__3 a__3h] := H
  refine alloc_ gok rfl H ?_; clear H; intro b7 w6 hx H
  clear hx
  replace H : Cx w0 fp0 S0 w6 [Bx b7 [(.int .i64 0), (.int .i64 0), (.slice none 0 0), (.slice none 0 0)], Bx b4 [(.int .i64 a__0), (.int .i64 a__1), (a__2h).v, (a__3h).v], Es (List Int) a__2 a__2h, Es (List Int) a__3 a__3h] := H
  refine alloc_ gok rfl H ?_; clear H; intro b10 w9 hx H
  clear hx
  replace H : Cx w0 fp0 S0 w9 [Bx b10 [(.int .i64 0), (.int .i64 0), (.slice none 0 0), (.slice none 0 0)], Bx b7 [(.int .i64 0), (.int .i64 0), (.slice none 0 0), (.slice none 0 0)], Bx b4 [(.int .i64 a__0), (.int .i64 a__1), (a__2h).v, (a__3h).v], Es (List Int) a__2 a__2h, Es (List Int) a__3 a__3h] := H
  refine fld gok rfl rfl rfl rfl ?_
  refine load1 (H.bx 2 rfl (j := 0) rfl) ?_
  refine fld gok rfl rfl rfl rfl ?_
  refine stB (j := 0) H rfl rfl ?_; clear H; intro w12 H
  replace H : Cx w0 fp0 S0 w12 [Bx b10 [(.int .i64 a__0), (.int .i64 0), (.slice none 0 0), (.slice none 0 0)], Bx b7 [(.int .i64 0), (.int .i64 0), (.slice none 0 0), (.slice none 0 0)], Bx b4 [(.int .i64 a__0), (.int .i64 a__1), (a__2h).v, (a__3h).v], Es (List Int) a__2 a__2h, Es (List Int) a__3 a__3h] := H
  refine fld gok rfl rfl rfl rfl ?_
  refine load1 (H.bx 2 rfl (j := 1) rfl) ?_
  refine fld gok rfl rfl rfl rfl ?_
  refine stB (j := 1) H rfl rfl ?_; clear H; intro w13 H
  replace H : Cx w0 fp0 S0 w13 [Bx b10 [(.int .i64 a__0), (.int .i64 a__1), (.slice none 0 0), (.slice none 0 0)], Bx b7 [(.int .i64 0), (.int .i64 0), (.slice none 0 0), (.slice none 0 0)], Bx b4 [(.int .i64 a__0), (.int .i64 a__1), (a__2h).v, (a__3h).v], Es (List Int) a__2 a__2h, Es (List Int) a__3 a__3h] := H
  refine fld gok rfl rfl rfl rfl ?_
  refine load1 (H.bx 2 rfl (j := 2) rfl) ?_
  obtain ⟨y14, e, hF15⟩ := bindS hF; clear hF
  have ey14 := e; clear e
  refine callF (laws_toIntS_c a__2 a__2h y14 ey14) (Γi := []) H ⟨Vw.sh 3 rfl, trivial⟩ ?_; clear H ey14
  rintro _ _ w16 ⟨h17, rfl, rfl⟩ (H : Cx w0 fp0 S0 w16 [E (List Int) y14 h17, Bx b10 [(.int .i64 a__0), (.int .i64 a__1), (.slice none 0 0), (.slice none 0 0)], Bx b7 [(.int .i64 0), (.int .i64 0), (.slice none 0 0), (.slice none 0 0)], Bx b4 [(.int .i64 a__0), (.int .i64 a__1), (a__2h).v, (a__3h).v], Es (List Int) a__2 a__2h, Es (List Int) a__3 a__3h])
  refine fld gok rfl rfl rfl rfl ?_
  replace H := H.sel [1, 0, 2, 3, 4, 5] rfl
  refine stB (j := 2) H rfl rfl ?_; clear H; intro w19 H
  replace H : Cx w0 fp0 S0 w19 [Bx b10 [(.int .i64 a__0), (.int .i64 a__1), (h17).v, (.slice none 0 0)], E (List Int) y14 h17, Bx b7 [(.int .i64 0), (.int .i64 0), (.slice none 0 0), (.slice none 0 0)], Bx b4 [(.int .i64 a__0), (.int .i64 a__1), (a__2h).v, (a__3h).v], Es (List Int) a__2 a__2h, Es (List Int) a__3 a__3h] := H
  refine fld gok rfl rfl rfl rfl ?_
  refine load1 (H.bx 3 rfl (j := 3) rfl) ?_
  obtain ⟨y20, e, hF21⟩ := bindS hF15; clear hF15
  have ey20 := e; clear e
  refine callF (laws_toIntS_c a__3 a__3h y20 ey20) (Γi := []) H ⟨Vw.sh 5 rfl, trivial⟩ ?_; clear H ey20
  rintro _ _ w22 ⟨h23, rfl, rfl⟩ (H : Cx w0 fp0 S0 w22 [E (List Int) y20 h23, Bx b10 [(.int .i64 a__0), (.int .i64 a__1), (h17).v, (.slice none 0 0)], E (List Int) y14 h17, Bx b7 [(.int .i64 0), (.int .i64 0), (.slice none 0 0), (.slice none 0 0)], Bx b4 [(.int .i64 a__0), (.int .i64 a__1), (a__2h).v, (a__3h).v], Es (List Int) a__2 a__2h, Es (List Int) a__3 a__3h])
  refine fld gok rfl rfl rfl rfl ?_
  replace H := H.sel [1, 0, 2, 3, 4, 5, 6] rfl
  refine stB (j := 3) H rfl rfl ?_; clear H; intro w25 H
  replace H : Cx w0 fp0 S0 w25 [Bx b10 [(.int .i64 a__0), (.int .i64 a__1), (h17).v, (h23).v], E (List Int) y20 h23, E (List Int) y14 h17, Bx b7 [(.int .i64 0), (.int .i64 0), (.slice none 0 0), (.slice none 0 0)], Bx b4 [(.int .i64 a__0), (.int .i64 a__1), (a__2h).v, (a__3h).v], Es (List Int) a__2 a__2h, Es (List Int) a__3 a__3h] := H
  refine loadN [(.int .i64 a__0), (.int .i64 a__1), (h17).v, (h23).v] rfl (fun j u hj => H.bx 0 rfl hj) ?_
  replace H := H.sel [3, 0, 1, 2, 4, 5, 6] rfl
  refine stA gok [(.int .i64 a__0), (.int .i64 a__1), (h17).v, (h23).v] rfl H rfl rfl rfl ?_; clear H; intro w26 H
  replace H : Cx w0 fp0 S0 w26 [Bx b7 [(.int .i64 a__0), (.int .i64 a__1), (h17).v, (h23).v], Bx b10 [(.int .i64 a__0), (.int .i64 a__1), (h17).v, (h23).v], E (List Int) y20 h23, E (List Int) y14 h17, Bx b4 [(.int .i64 a__0), (.int .i64 a__1), (a__2h).v, (a__3h).v], Es (List Int) a__2 a__2h, Es (List Int) a__3 a__3h] := H
  refine loadN [(.int .i64 a__0), (.int .i64 a__1), (h17).v, (h23).v] rfl (fun j u hj => H.bx 0 rfl hj) ?_
  cases hF21
  exact ⟨_, _, rfl, ⟨h17, h23, rfl, rfl⟩, (H.sel [3, 2] rfl).close ⟨cloE, cloE, trivial⟩⟩

theorem laws_toEdgeS_c (a_ : List (Int × Int × List Int × List Int)) (a_h : Hd) (y : List (Int × Int × List Int × List Int)) (hF : F_laws_toEdgeS a_ = some y) :
    ConF Try.prog 43 #[(a_h).v] [Es (List (Int × Int × List Int × List Int)) a_ a_h] [] (fun v Γ' => ∃ z0 : Hd, v = (z0).v ∧ Γ' = [E (List (Int × Int × List Int × List Int)) y z0]) := by
  intro w0 S0 fp0 hI hS
  have H : Cx w0 fp0 S0 w0 [Es (List (Int × Int × List Int × List Int)) a_ a_h] := Cx.start hI hS
  clear hI hS
  refine enterC (args := [_]) gok Try.func43 rfl _ rfl rfl rfl ?_
  refine lenE (H.rs (α := List (Int × Int × List Int × List Int)) 0 rfl).len ?_
  obtain ⟨a2, e, hF3⟩ := bindS hF; clear hF
  refine make_ (α := Int × Int × List Int × List Int) gok rfl rfl rfl rfl (makeCO_of e) H ?_; clear e H; intro h5 w4 hx H
  clear hx
  obtain ⟨r146, hF148, hF147⟩ := bindS hF3; clear hF3
  refine cut (fun (q149 : List (Int × Int × List Int × List Int)) => [(3, (h5).v)]) (fun (q149 : List (Int × Int × List Int × List Int)) w' => q149 = r146 ∧ Cx w0 fp0 S0 w' [E (List (Int × Int × List Int × List Int)) q149 h5]) ?_ ?_
  · skip
    refine loopW _ (fun (s236 : (List (Int × Int × List Int × List Int)) × Int) (_ : Unit) => [(0, (a_h).v), (3, (h5).v), (4, (.int .i64 s236.2))]) (fun (s236 : (List (Int × Int × List Int × List Int)) × Int) (_ : Unit) w' => Cx w0 fp0 S0 w' [Es (List (Int × Int × List Int × List Int)) a_ a_h, E (List (Int × Int × List Int × List Int)) s236.1 h5]) (a2, 0) () hF148 ⟨rfl, rfl, rfl, trivial⟩ (H.sel [1, 0] rfl) ?_
    · clear H
      rintro T242 ⟨s236_0, s236_1⟩ _ w241 o243 (H : Cx w0 fp0 S0 w241 [Es (List (Int × Int × List Int × List Int)) a_ a_h, E (List (Int × Int × List Int × List Int)) s236_0 h5]) hrt hF244
      refine sq ?_
      refine lenE (H.rs (α := List (Int × Int × List Int × List Int)) 0 rfl).len ?_
      obtain ⟨a245, e, hF246⟩ := bindS hF244; clear hF244
      refine boolO e ?_; clear e
      cases a245
      · have hF247 := condF hF246; clear hF246
        have hs := Option.some.inj hF247; subst hs; clear hF247
        have hF248 : some _ = some _ := congrArg some (hrt _ rfl).symm
        exact ⟨s236_0, ⟨rfl, trivial⟩, Option.some.inj hF248, H.sel [1] rfl⟩
      · have hF249 := condT hF246; clear hF246
        refine sq ?_
        obtain ⟨a256, e, hF257⟩ := bindS hF249; clear hF249
        have HH := H; clear H; obtain ⟨p254, m255, g258, c250, c251, c252, c253, H⟩ := HH.el (α := Int × Int × List Int × List Int) 0 rfl e; clear HH
        clear e
        obtain ⟨a256_0, a256_1, a256_2, a256_3⟩ := a256
        obtain ⟨_, _, h260, h261⟩ := g258
        replace H := H.part (β := List Int) a256_2 (h260 : Hd) 0 rfl (fun S h => (And.left (And.right (And.right h))))
        replace H := H.part (β := List Int) a256_3 (h261 : Hd) 1 rfl (fun S h => (And.right (And.right (And.right h))))
        replace H := H.sel [0, 1, 3, 4] rfl
        refine idxE c250 c251 c252 ?_; clear c250 c251 c252
        refine loadN [(.int .i64 a256_0), (.int .i64 a256_1), (h260).v, (h261).v] rfl c253 ?_; clear c253
        obtain ⟨y264, e, hF265⟩ := bindS hF257; clear hF257
        obtain ⟨y264_0, y264_1, y264_2, y264_3⟩ := y264
        have ey264 := e; clear e
        refine callF (laws_toEdge_c a256_0 a256_1 a256_2 h260 a256_3 h261 y264_0 y264_1 y264_2 y264_3 ey264) (Γi := []) H ⟨Vw.sh 1 rfl, Vw.sh 0 rfl, trivial⟩ ?_; clear H ey264
        rintro _ _ w266 ⟨h267, h269, rfl, rfl⟩ (H : Cx w0 fp0 S0 w266 [E (List Int) y264_2 h267, E (List Int) y264_3 h269, Es (List Int) a256_3 h261, Es (List Int) a256_2 h260, Es (List (Int × Int × List Int × List Int)) a_ a_h, E (List (Int × Int × List Int × List Int)) s236_0 h5])
        replace H := H.join (α := List Int) (β := List Int)
        replace H := H.sc (α := Int) y264_1
        replace H := H.join (α := Int) (β := List Int × List Int)
        replace H := H.sc (α := Int) y264_0
        replace H := H.join (α := Int) (β := Int × List Int × List Int)
        obtain ⟨a282, e, hF283⟩ := bindS hF265; clear hF265
        have ea282 := e; clear e
        replace H := H.sel [4, 0, 1, 2, 3] rfl
        have HH := H; clear H; obtain ⟨p275, m276, c274, c271, c272, c273, H⟩ := HH.hole (α := Int × Int × List Int × List Int) ea282; clear HH
        refine idxE c271 c272 c273 ?_
        refine stXA (α := Int × Int × List Int × List Int) gok [(.int .i64 y264_0), (.int .i64 y264_1), (h267).v, (h269).v] rfl rfl H c271 rfl rfl ?_; clear H; intro w284 H
        replace H := H.sel [1, 0, 2, 3, 4] rfl
        replace H := H.put c272 ea282; clear c271 c272 c273 ea282
        obtain ⟨a285, e, hF286⟩ := bindS hF283; clear hF283
        refine arO e ?_; clear e
        have hs := Option.some.inj hF286; subst hs; clear hF286
        exact ⟨(a282, a285), (), rfl, ⟨rfl, rfl, rfl, trivial⟩, H.sel [3, 0] rfl⟩
  · clear hF148 H
    rintro T288 s144 w287 ⟨hr, (H : Cx w0 fp0 S0 w287 [E (List (Int × Int × List Int × List Int)) s144 h5])⟩
    subst hr
    cases hF147
    exact ⟨_, _, rfl, ⟨h5, rfl, rfl⟩, (H.sel [0] rfl).close ⟨cloE, trivial⟩⟩

theorem laws_toGraph_c (a__0 : Int) (a__1 : List (Int × Int × List Int × List Int)) (a__1h : Hd) (a__2 : List Int) (a__2h : Hd) (a__3 : List Int) (a__3h : Hd) (y_0 : Int) (y_1 : List (Int × Int × List Int × List Int)) (y_2 : List Int) (y_3 : List Int) (hF : F_laws_toGraph (a__0, a__1, a__2, a__3) = some (y_0, y_1, y_2, y_3)) :
    ConF Try.prog 11 #[(.agg #[(.int .i64 a__0), (a__1h).v, (a__2h).v, (a__3h).v])] [Es (List (Int × Int × List Int × List Int)) a__1 a__1h, Es (List Int) a__2 a__2h, Es (List Int) a__3 a__3h] [] (fun v Γ' => ∃ z0 z1 z2 : Hd, v = (.agg #[(.int .i64 y_0), (z0).v, (z1).v, (z2).v]) ∧ Γ' = [E (List (Int × Int × List Int × List Int)) y_1 z0, E (List Int) y_2 z1, E (List Int) y_3 z2]) := by
  intro w0 S0 fp0 hI hS
  have H : Cx w0 fp0 S0 w0 [Es (List (Int × Int × List Int × List Int)) a__1 a__1h, Es (List Int) a__2 a__2h, Es (List Int) a__3 a__3h] := Cx.start hI hS
  clear hI hS
  refine enterC (args := [_]) gok Try.func11 rfl _ rfl rfl rfl ?_
  refine box_ H ?_; clear H; intro b5 w4 hx H
  clear hx
  replace H : Cx w0 fp0 S0 w4 [Bx b5 [(.int .i64 a__0), (a__1h).v, (a__2h).v, (a__3h).v], Es (List (Int × Int × List Int × List Int)) a__1 a__1h, Es (List Int) a__2 a__2h, Es (List Int) a__3 a__3h] := H
  refine alloc_ gok rfl H ?_; clear H; intro b8 w7 hx H
  clear hx
  replace H : Cx w0 fp0 S0 w7 [Bx b8 [(.int .i64 0), (.slice none 0 0), (.slice none 0 0), (.slice none 0 0)], Bx b5 [(.int .i64 a__0), (a__1h).v, (a__2h).v, (a__3h).v], Es (List (Int × Int × List Int × List Int)) a__1 a__1h, Es (List Int) a__2 a__2h, Es (List Int) a__3 a__3h] := H
  refine alloc_ gok rfl H ?_; clear H; intro b11 w10 hx H
  clear hx
  replace H : Cx w0 fp0 S0 w10 [Bx b11 [(.int .i64 0), (.slice none 0 0), (.slice none 0 0), (.slice none 0 0)], Bx b8 [(.int .i64 0), (.slice none 0 0), (.slice none 0 0), (.slice none 0 0)], Bx b5 [(.int .i64 a__0), (a__1h).v, (a__2h).v, (a__3h).v], Es (List (Int × Int × List Int × List Int)) a__1 a__1h, Es (List Int) a__2 a__2h, Es (List Int) a__3 a__3h] := H
  refine fld gok rfl rfl rfl rfl ?_
  refine load1 (H.bx 2 rfl (j := 0) rfl) ?_
  refine fld gok rfl rfl rfl rfl ?_
  refine stB (j := 0) H rfl rfl ?_; clear H; intro w13 H
  replace H : Cx w0 fp0 S0 w13 [Bx b11 [(.int .i64 a__0), (.slice none 0 0), (.slice none 0 0), (.slice none 0 0)], Bx b8 [(.int .i64 0), (.slice none 0 0), (.slice none 0 0), (.slice none 0 0)], Bx b5 [(.int .i64 a__0), (a__1h).v, (a__2h).v, (a__3h).v], Es (List (Int × Int × List Int × List Int)) a__1 a__1h, Es (List Int) a__2 a__2h, Es (List Int) a__3 a__3h] := H
  refine fld gok rfl rfl rfl rfl ?_
  refine load1 (H.bx 2 rfl (j := 1) rfl) ?_
  obtain ⟨y14, e, hF15⟩ := bindS hF; clear hF
  have ey14 := e; clear e
  refine callF (laws_toEdgeS_c a__1 a__1h y14 ey14) (Γi := []) H ⟨Vw.sh 3 rfl, trivial⟩ ?_; clear H ey14
  rintro _ _ w16 ⟨h17, rfl, rfl⟩ (H : Cx w0 fp0 S0 w16 [E (List (Int × Int × List Int × List Int)) y14 h17, Bx b11 [(.int .i64 a__0), (.slice none 0 0), (.slice none 0 0), (.slice none 0 0)], Bx b8 [(.int .i64 0), (.slice none 0 0), (.slice none 0 0), (.slice none 0 0)], Bx b5 [(.int .i64 a__0), (a__1h).v, (a__2h).v, (a__3h).v], Es (List (Int × Int × List Int × List Int)) a__1 a__1h, Es (List Int) a__2 a__2h, Es (List Int) a__3 a__3h])
  refine fld gok rfl rfl rfl rfl ?_
  replace H := H.sel [1, 0, 2, 3, 4, 5, 6] rfl
  refine stB (j := 1) H rfl rfl ?_; clear H; intro w19 H
  replace H : Cx w0 fp0 S0 w19 [Bx b11 [(.int .i64 a__0), (h17).v, (.slice none 0 0), (.slice none 0 0)], E (List (Int × Int × List Int × List Int)) y14 h17, Bx b8 [(.int .i64 0), (.slice none 0 0), (.slice none 0 0), (.slice none 0 0)], Bx b5 [(.int .i64 a__0), (a__1h).v, (a__2h).v, (a__3h).v], Es (List (Int × Int × List Int × List Int)) a__1 a__1h, Es (List Int) a__2 a__2h, Es (List Int) a__3 a__3h] := H
  refine fld gok rfl rfl rfl rfl ?_
  refine load1 (H.bx 3 rfl (j := 2) rfl) ?_
  obtain ⟨y20, e, hF21⟩ := bindS hF15; clear hF15
  have ey20 := e; clear e
  refine callF (laws_toIntS_c a__2 a__2h y20 ey20) (Γi := []) H ⟨Vw.sh 5 rfl, trivial⟩ ?_; clear H ey20
  rintro _ _ w22 ⟨h23, rfl, rfl⟩ (H : Cx w0 fp0 S0 w22 [E (List Int) y20 h23, Bx b11 [(.int .i64 a__0), (h17).v, (.slice none 0 0), (.slice none 0 0)], E (List (Int × Int × List Int × List Int)) y14 h17, Bx b8 [(.int .i64 0), (.slice none 0 0), (.slice none 0 0), (.slice none 0 0)], Bx b5 [(.int .i64 a__0), (a__1h).v, (a__2h).v, (a__3h).v], Es (List (Int × Int × List Int × List Int)) a__1 a__1h, Es (List Int) a__2 a__2h, Es (List Int) a__3 a__3h])
  refine fld gok rfl rfl rfl rfl ?_
  replace H := H.sel [1, 0, 2, 3, 4, 5, 6, 7] rfl
  refine stB (j := 2) H rfl rfl ?_; clear H; intro w25 H
  replace H : Cx w0 fp0 S0 w25 [Bx b11 [(.int .i64 a__0), (h17).v, (h23).v, (.slice none 0 0)], E (List Int) y20 h23, E (List (Int × Int × List Int × List Int)) y14 h17, Bx b8 [(.int .i64 0), (.slice none 0 0), (.slice none 0 0), (.slice none 0 0)], Bx b5 [(.int .i64 a__0), (a__1h).v, (a__2h).v, (a__3h).v], Es (List (Int × Int × List Int × List Int)) a__1 a__1h, Es (List Int) a__2 a__2h, Es (List Int) a__3 a__3h] := H
  refine fld gok rfl rfl rfl rfl ?_
  refine load1 (H.bx 4 rfl (j := 3) rfl) ?_
  obtain ⟨y26, e, hF27⟩ := bindS hF21; clear hF21
  have ey26 := e; clear e
  refine callF (laws_toIntS_c a__3 a__3h y26 ey26) (Γi := []) H ⟨Vw.sh 7 rfl, trivial⟩ ?_; clear H ey26
  rintro _ _ w28 ⟨h29, rfl, rfl⟩ (H : Cx w0 fp0 S0 w28 [E (List Int) y26 h29, Bx b11 [(.int .i64 a__0), (h17).v, (h23).v, (.slice none 0 0)], E (List Int) y20 h23, E (List (Int × Int × List Int × List Int)) y14 h17, Bx b8 [(.int .i64 0), (.slice none 0 0), (.slice none 0 0), (.slice none 0 0)], Bx b5 [(.int .i64 a__0), (a__1h).v, (a__2h).v, (a__3h).v], Es (List (Int × Int × List Int × List Int)) a__1 a__1h, Es (List Int) a__2 a__2h, Es (List Int) a__3 a__3h])
  refine fld gok rfl rfl rfl rfl ?_
  replace H := H.sel [1, 0, 2, 3, 4, 5, 6, 7, 8] rfl
  refine stB (j := 3) H rfl rfl ?_; clear H; intro w31 H
  replace H : Cx w0 fp0 S0 w31 [Bx b11 [(.int .i64 a__0), (h17).v, (h23).v, (h29).v], E (List Int) y26 h29, E (List Int) y20 h23, E (List (Int × Int × List Int × List Int)) y14 h17, Bx b8 [(.int .i64 0), (.slice none 0 0), (.slice none 0 0), (.slice none 0 0)], Bx b5 [(.int .i64 a__0), (a__1h).v, (a__2h).v, (a__3h).v], Es (List (Int × Int × List Int × List Int)) a__1 a__1h, Es (List Int) a__2 a__2h, Es (List Int) a__3 a__3h] := H
  refine loadN [(.int .i64 a__0), (h17).v, (h23).v, (h29).v] rfl (fun j u hj => H.bx 0 rfl hj) ?_
  replace H := H.sel [4, 0, 1, 2, 3, 5, 6, 7, 8] rfl
  refine stA gok [(.int .i64 a__0), (h17).v, (h23).v, (h29).v] rfl H rfl rfl rfl ?_; clear H; intro w32 H
  replace H : Cx w0 fp0 S0 w32 [Bx b8 [(.int .i64 a__0), (h17).v, (h23).v, (h29).v], Bx b11 [(.int .i64 a__0), (h17).v, (h23).v, (h29).v], E (List Int) y26 h29, E (List Int) y20 h23, E (List (Int × Int × List Int × List Int)) y14 h17, Bx b5 [(.int .i64 a__0), (a__1h).v, (a__2h).v, (a__3h).v], Es (List (Int × Int × List Int × List Int)) a__1 a__1h, Es (List Int) a__2 a__2h, Es (List Int) a__3 a__3h] := H
  refine loadN [(.int .i64 a__0), (h17).v, (h23).v, (h29).v] rfl (fun j u hj => H.bx 0 rfl hj) ?_
  cases hF27
  exact ⟨_, _, rfl, ⟨h17, h23, h29, rfl, rfl⟩, (H.sel [4, 3, 2] rfl).close ⟨cloE, cloE, cloE, trivial⟩⟩

theorem laws_toMatch_c (a__0 : List Int) (a__0h : Hd) (a__1 : List Int) (a__1h : Hd) (y_0 : List Int) (y_1 : List Int) (hF : F_laws_toMatch (a__0, a__1) = some (y_0, y_1)) :
    ConF Try.prog 30 #[(.agg #[(a__0h).v, (a__1h).v])] [Es (List Int) a__0 a__0h, Es (List Int) a__1 a__1h] [] (fun v Γ' => ∃ z0 z1 : Hd, v = (.agg #[(z0).v, (z1).v]) ∧ Γ' = [E (List Int) y_0 z0, E (List Int) y_1 z1]) := by
  intro w0 S0 fp0 hI hS
  have H : Cx w0 fp0 S0 w0 [Es (List Int) a__0 a__0h, Es (List Int) a__1 a__1h] := Cx.start hI hS
  clear hI hS
  refine enterC (args := [_]) gok Try.func30 rfl _ rfl rfl rfl ?_
  refine box_ H ?_; clear H; intro b4 w3 hx H
  clear hx
  replace H : Cx w0 fp0 S0 w3 [Bx b4 [(a__0h).v, (a__1h).v], Es (List Int) a__0 a__0h, Es (List Int) a__1 a__1h] := H
  refine alloc_ gok rfl H ?_; clear H; intro b7 w6 hx H
  clear hx
  replace H : Cx w0 fp0 S0 w6 [Bx b7 [(.slice none 0 0), (.slice none 0 0)], Bx b4 [(a__0h).v, (a__1h).v], Es (List Int) a__0 a__0h, Es (List Int) a__1 a__1h] := H
  refine alloc_ gok rfl H ?_; clear H; intro b10 w9 hx H
  clear hx
  replace H : Cx w0 fp0 S0 w9 [Bx b10 [(.slice none 0 0), (.slice none 0 0)], Bx b7 [(.slice none 0 0), (.slice none 0 0)], Bx b4 [(a__0h).v, (a__1h).v], Es (List Int) a__0 a__0h, Es (List Int) a__1 a__1h] := H
  refine fld gok rfl rfl rfl rfl ?_
  refine load1 (H.bx 2 rfl (j := 0) rfl) ?_
  obtain ⟨y12, e, hF13⟩ := bindS hF; clear hF
  have ey12 := e; clear e
  refine callF (laws_toIntS_c a__0 a__0h y12 ey12) (Γi := []) H ⟨Vw.sh 3 rfl, trivial⟩ ?_; clear H ey12
  rintro _ _ w14 ⟨h15, rfl, rfl⟩ (H : Cx w0 fp0 S0 w14 [E (List Int) y12 h15, Bx b10 [(.slice none 0 0), (.slice none 0 0)], Bx b7 [(.slice none 0 0), (.slice none 0 0)], Bx b4 [(a__0h).v, (a__1h).v], Es (List Int) a__0 a__0h, Es (List Int) a__1 a__1h])
  refine fld gok rfl rfl rfl rfl ?_
  replace H := H.sel [1, 0, 2, 3, 4, 5] rfl
  refine stB (j := 0) H rfl rfl ?_; clear H; intro w17 H
  replace H : Cx w0 fp0 S0 w17 [Bx b10 [(h15).v, (.slice none 0 0)], E (List Int) y12 h15, Bx b7 [(.slice none 0 0), (.slice none 0 0)], Bx b4 [(a__0h).v, (a__1h).v], Es (List Int) a__0 a__0h, Es (List Int) a__1 a__1h] := H
  refine fld gok rfl rfl rfl rfl ?_
  refine load1 (H.bx 3 rfl (j := 1) rfl) ?_
  obtain ⟨y18, e, hF19⟩ := bindS hF13; clear hF13
  have ey18 := e; clear e
  refine callF (laws_toIntS_c a__1 a__1h y18 ey18) (Γi := []) H ⟨Vw.sh 5 rfl, trivial⟩ ?_; clear H ey18
  rintro _ _ w20 ⟨h21, rfl, rfl⟩ (H : Cx w0 fp0 S0 w20 [E (List Int) y18 h21, Bx b10 [(h15).v, (.slice none 0 0)], E (List Int) y12 h15, Bx b7 [(.slice none 0 0), (.slice none 0 0)], Bx b4 [(a__0h).v, (a__1h).v], Es (List Int) a__0 a__0h, Es (List Int) a__1 a__1h])
  refine fld gok rfl rfl rfl rfl ?_
  replace H := H.sel [1, 0, 2, 3, 4, 5, 6] rfl
  refine stB (j := 1) H rfl rfl ?_; clear H; intro w23 H
  replace H : Cx w0 fp0 S0 w23 [Bx b10 [(h15).v, (h21).v], E (List Int) y18 h21, E (List Int) y12 h15, Bx b7 [(.slice none 0 0), (.slice none 0 0)], Bx b4 [(a__0h).v, (a__1h).v], Es (List Int) a__0 a__0h, Es (List Int) a__1 a__1h] := H
  refine loadN [(h15).v, (h21).v] rfl (fun j u hj => H.bx 0 rfl hj) ?_
  replace H := H.sel [3, 0, 1, 2, 4, 5, 6] rfl
  refine stA gok [(h15).v, (h21).v] rfl H rfl rfl rfl ?_; clear H; intro w24 H
  replace H : Cx w0 fp0 S0 w24 [Bx b7 [(h15).v, (h21).v], Bx b10 [(h15).v, (h21).v], E (List Int) y18 h21, E (List Int) y12 h15, Bx b4 [(a__0h).v, (a__1h).v], Es (List Int) a__0 a__0h, Es (List Int) a__1 a__1h] := H
  refine loadN [(h15).v, (h21).v] rfl (fun j u hj => H.bx 0 rfl hj) ?_
  cases hF19
  exact ⟨_, _, rfl, ⟨h15, h21, rfl, rfl⟩, (H.sel [3, 2] rfl).close ⟨cloE, cloE, trivial⟩⟩

theorem spec_l1In_c (n_ : Int) (lo_ : Int) (hi_ : Int) (y : Bool) (hF : F_spec_l1In n_ lo_ hi_ = some y) :
    ConF Try.prog 50 #[(.int .i64 n_), (.int .i64 lo_), (.int .i64 hi_)] [] [] (fun v Γ' => v = (.bool y) ∧ Γ' = []) := by
  intro w0 S0 fp0 hI hS
  have H : Cx w0 fp0 S0 w0 [] := Cx.start hI hS
  clear hI hS
  refine enterC (args := [_, _, _]) gok Try.func50 rfl _ rfl rfl rfl ?_
  obtain ⟨r9, hF11, hF10⟩ := bindS hF; clear hF
  refine cut (fun (q12 : Bool) => [(6, (.bool q12))]) (fun (q12 : Bool) w' => q12 = r9 ∧ Cx w0 fp0 S0 w' []) ?_ ?_
  · skip
    obtain ⟨a13, e, hF14⟩ := bindS hF11; clear hF11
    refine boolO e ?_; clear e
    cases a13
    · have hF15 := condF hF14; clear hF14
      exact ⟨false, ⟨rfl, trivial⟩, Option.some.inj hF15, H.sel [] rfl⟩
    · have hF16 := condT hF14; clear hF14
      obtain ⟨a17, e, hF18⟩ := bindS hF16; clear hF16
      refine boolO e ?_; clear e
      exact ⟨a17, ⟨rfl, trivial⟩, Option.some.inj hF18, H.sel [] rfl⟩
  · clear hF11 H
    rintro T20 s7 w19 ⟨hr, (H : Cx w0 fp0 S0 w19 [])⟩
    subst hr
    cases hF10
    exact ⟨_, _, rfl, ⟨rfl, rfl⟩, (H.sel [] rfl).close trivial⟩

theorem spec_l1All_c (l_ : List Int) (l_h : Hd) (lo_ : Int) (hi_ : Int) (y : Bool) (hF : F_spec_l1All l_ lo_ hi_ = some y) :
    ConF Try.prog 77 #[(l_h).v, (.int .i64 lo_), (.int .i64 hi_)] [Es (List Int) l_ l_h] [] (fun v Γ' => v = (.bool y) ∧ Γ' = []) := by
  intro w0 S0 fp0 hI hS
  have H : Cx w0 fp0 S0 w0 [Es (List Int) l_ l_h] := Cx.start hI hS
  clear hI hS
  refine enterC (args := [_, _, _]) gok Try.func77 rfl _ rfl rfl rfl ?_
  refine sq ?_
  refine lenE (H.rs (α := List Int) 0 rfl).len ?_
  have hmx22 := (H.rs (α := List Int) 0 rfl).max
  obtain ⟨r23, e, hF24⟩ := bindS hF; clear hF
  refine loopO _ l_.length (fun (k2 : Nat) (_ : Unit) (_ : Unit) => [(1, (.int .i64 lo_)), (2, (.int .i64 hi_)), (9, (l_h).v), (10, (.int .i64 ((l_.length : Nat) : Int))), (11, (.int .i64 ((k2 : Nat) : Int)))]) (fun _ (_ : Unit) (_ : Unit) w' => Cx w0 fp0 S0 w' [Es (List Int) l_ l_h]) () () e ⟨rfl, rfl, rfl, rfl, rfl, trivial⟩ (H.sel [0] rfl) ?_ ?_
  · clear H e
    rintro T26 k2 _ _ w25 o27 hk (H : Cx w0 fp0 S0 w25 [Es (List Int) l_ l_h]) hrt hF28
    refine boolE (z := true) (ltLen hk) ?_
    refine sq ?_
    refine sq ?_
    obtain ⟨a35, e, hF36⟩ := bindS hF28; clear hF28
    obtain ⟨p33, m34, c29, c30, c31, c32⟩ := (H.rs (α := List Int) 0 rfl).at1 e; clear e
    refine idxE c29 c30 c31 ?_; clear c29 c30 c31
    refine load1 c32 ?_; clear c32
    obtain ⟨y37, e, hF38⟩ := bindS hF36; clear hF36
    have ey37 := e; clear e
    refine callF (spec_l1In_c a35 lo_ hi_ y37 ey37) (Γi := []) H trivial ?_; clear H ey37
    rintro _ _ w39 ⟨rfl, rfl⟩ (H : Cx w0 fp0 S0 w39 [Es (List Int) l_ l_h])
    obtain ⟨a40, e, hF41⟩ := bindS hF38; clear hF38
    refine boolO e ?_; clear e
    cases a40
    · have hF42 := condF hF41; clear hF41
      refine arK hk hmx22 ?_
      have hs := Option.some.inj hF42; subst hs; clear hF42
      exact ⟨(), (), rfl, ⟨rfl, rfl, rfl, rfl, rfl, trivial⟩, H.sel [0] rfl⟩
    · have hF43 := condT hF41; clear hF41
      have hs := Option.some.inj hF43; subst hs; clear hF43
      have hr := hrt _ rfl; subst hr
      have hF44 : some _ = some _ := hF24
      cases hF44
      exact ⟨_, _, rfl, ⟨rfl, rfl⟩, (H.sel [] rfl).close trivial⟩
  · clear H e
    rintro T46 _ _ w45 hr (H : Cx w0 fp0 S0 w45 [Es (List Int) l_ l_h])
    subst hr
    refine boolE (z := false) geLen ?_
    refine sq ?_
    cases hF24
    exact ⟨_, _, rfl, ⟨rfl, rfl⟩, (H.sel [] rfl).close trivial⟩

theorem spec_tmLeaf_c (n__0 : Int) (n__1 : Int) (n__2 : ByteArray) (y : Bool) (hF : F_spec_tmLeaf (n__0, n__1, n__2) = some y) :
    ConF Try.prog 118 #[(.agg #[(.int .i64 n__0), (.int .i64 n__1), (.string n__2)])] [] [] (fun v Γ' => v = (.bool y) ∧ Γ' = []) := by
  intro w0 S0 fp0 hI hS
  have H : Cx w0 fp0 S0 w0 [] := Cx.start hI hS
  clear hI hS
  refine enterC (args := [_]) gok Try.func118 rfl _ rfl rfl rfl ?_
  refine box_ H ?_; clear H; intro b2 w1 hx H
  clear hx
  replace H : Cx w0 fp0 S0 w1 [Bx b2 [(.int .i64 n__0), (.int .i64 n__1), (.string n__2)]] := H
  refine sq ?_
  obtain ⟨r15, hF17, hF16⟩ := bindS hF; clear hF
  refine cut (fun (q18 : Bool) => [(1, (.pointer (some ⟨b2, 0, none⟩))), (11, (.bool q18))]) (fun (q18 : Bool) w' => q18 = r15 ∧ Cx w0 fp0 S0 w' [Bx b2 [(.int .i64 n__0), (.int .i64 n__1), (.string n__2)]]) ?_ ?_
  · skip
    refine fld gok rfl rfl rfl rfl ?_
    refine load1 (H.bx 0 rfl (j := 2) rfl) ?_
    obtain ⟨a19, e, hF20⟩ := bindS hF17; clear hF17
    refine neqZ e ?_; clear e
    cases a19
    · have hF21 := condF hF20; clear hF20
      refine fld gok rfl rfl rfl rfl ?_
      refine load1 (H.bx 0 rfl (j := 0) rfl) ?_
      obtain ⟨y22, e, hF23⟩ := bindS hF21; clear hF21
      have ey22 := e; clear e
      refine callF (spec_l1In_c n__0 1 14 y22 ey22) (Γi := []) H trivial ?_; clear H ey22
      rintro _ _ w24 ⟨rfl, rfl⟩ (H : Cx w0 fp0 S0 w24 [Bx b2 [(.int .i64 n__0), (.int .i64 n__1), (.string n__2)]])
      obtain ⟨a25, e, hF26⟩ := bindS hF23; clear hF23
      refine boolO e ?_; clear e
      exact ⟨a25, ⟨rfl, rfl, trivial⟩, Option.some.inj hF26, H.sel [0] rfl⟩
    · have hF27 := condT hF20; clear hF20
      exact ⟨true, ⟨rfl, rfl, trivial⟩, Option.some.inj hF27, H.sel [0] rfl⟩
  · clear hF17 H
    rintro T29 s13 w28 ⟨hr, (H : Cx w0 fp0 S0 w28 [Bx b2 [(.int .i64 n__0), (.int .i64 n__1), (.string n__2)]])⟩
    subst hr
    cases s13
    · have hF30 := condF hF16; clear hF16
      refine sq ?_
      refine fld gok rfl rfl rfl rfl ?_
      refine load1 (H.bx 0 rfl (j := 0) rfl) ?_
      obtain ⟨a31, e, hF32⟩ := bindS hF30; clear hF30
      refine boolO e ?_; clear e
      cases a31
      · have hF33 := condF hF32; clear hF32
        obtain ⟨r42, hF44, hF43⟩ := bindS hF33; clear hF33
        refine cut (fun (q45 : Bool) => [(1, (.pointer (some ⟨b2, 0, none⟩))), (19, (.bool q45))]) (fun (q45 : Bool) w' => q45 = r42 ∧ Cx w0 fp0 S0 w' [Bx b2 [(.int .i64 n__0), (.int .i64 n__1), (.string n__2)]]) ?_ ?_
        · skip
          obtain ⟨a46, e, hF47⟩ := bindS hF44; clear hF44
          refine boolO e ?_; clear e
          cases a46
          · have hF48 := condF hF47; clear hF47
            obtain ⟨a49, e, hF50⟩ := bindS hF48; clear hF48
            refine boolO e ?_; clear e
            exact ⟨a49, ⟨rfl, rfl, trivial⟩, Option.some.inj hF50, H.sel [0] rfl⟩
          · have hF51 := condT hF47; clear hF47
            exact ⟨true, ⟨rfl, rfl, trivial⟩, Option.some.inj hF51, H.sel [0] rfl⟩
        · clear hF44 H
          rintro T53 s40 w52 ⟨hr, (H : Cx w0 fp0 S0 w52 [Bx b2 [(.int .i64 n__0), (.int .i64 n__1), (.string n__2)]])⟩
          subst hr
          cases s40
          · have hF54 := condF hF43; clear hF43
            refine fld gok rfl rfl rfl rfl ?_
            refine load1 (H.bx 0 rfl (j := 1) rfl) ?_
            obtain ⟨a55, e, hF56⟩ := bindS hF54; clear hF54
            refine boolO e ?_; clear e
            cases hF56
            exact ⟨_, _, rfl, ⟨rfl, rfl⟩, (H.sel [] rfl).close trivial⟩
          · have hF57 := condT hF43; clear hF43
            refine fld gok rfl rfl rfl rfl ?_
            refine load1 (H.bx 0 rfl (j := 1) rfl) ?_
            obtain ⟨y58, e, hF59⟩ := bindS hF57; clear hF57
            have ey58 := e; clear e
            refine callF (spec_l1In_c n__1 0 96 y58 ey58) (Γi := []) H trivial ?_; clear H ey58
            rintro _ _ w60 ⟨rfl, rfl⟩ (H : Cx w0 fp0 S0 w60 [Bx b2 [(.int .i64 n__0), (.int .i64 n__1), (.string n__2)]])
            cases hF59
            exact ⟨_, _, rfl, ⟨rfl, rfl⟩, (H.sel [] rfl).close trivial⟩
      · have hF61 := condT hF32; clear hF32
        refine fld gok rfl rfl rfl rfl ?_
        refine load1 (H.bx 0 rfl (j := 1) rfl) ?_
        obtain ⟨y62, e, hF63⟩ := bindS hF61; clear hF61
        have ey62 := e; clear e
        refine callF (spec_l1In_c n__1 0 12 y62 ey62) (Γi := []) H trivial ?_; clear H ey62
        rintro _ _ w64 ⟨rfl, rfl⟩ (H : Cx w0 fp0 S0 w64 [Bx b2 [(.int .i64 n__0), (.int .i64 n__1), (.string n__2)]])
        cases hF63
        exact ⟨_, _, rfl, ⟨rfl, rfl⟩, (H.sel [] rfl).close trivial⟩
    · have hF65 := condT hF16; clear hF16
      cases hF65
      exact ⟨_, _, rfl, ⟨rfl, rfl⟩, (H.sel [] rfl).close trivial⟩

theorem spec_tmKind_c (kind_ : Int) (y0 : Int) (y1 : Int) (hF : F_spec_tmKind kind_ = some (y0, y1)) :
    ConF Try.prog 119 #[(.int .i64 kind_)] [] [] (fun v Γ' => v = (.tuple #[(.int .i64 y0), (.int .i64 y1)]) ∧ Γ' = []) := by
  intro w0 S0 fp0 hI hS
  have H : Cx w0 fp0 S0 w0 [] := Cx.start hI hS
  clear hI hS
  refine enterC (args := [_]) gok Try.func119 rfl _ rfl rfl rfl ?_
  refine sq ?_
  obtain ⟨a1, e, hF2⟩ := bindS hF; clear hF
  refine boolO e ?_; clear e
  cases a1
  · have hF3 := condF hF2; clear hF2
    obtain ⟨r12, hF14, hF13⟩ := bindS hF3; clear hF3
    refine cut (fun (q15 : Bool) => [(4, (.int .i64 kind_)), (7, (.bool q15))]) (fun (q15 : Bool) w' => q15 = r12 ∧ Cx w0 fp0 S0 w' []) ?_ ?_
    · skip
      obtain ⟨a16, e, hF17⟩ := bindS hF14; clear hF14
      refine boolO e ?_; clear e
      cases a16
      · have hF18 := condF hF17; clear hF17
        obtain ⟨a19, e, hF20⟩ := bindS hF18; clear hF18
        refine boolO e ?_; clear e
        exact ⟨a19, ⟨rfl, rfl, trivial⟩, Option.some.inj hF20, H.sel [] rfl⟩
      · have hF21 := condT hF17; clear hF17
        exact ⟨true, ⟨rfl, rfl, trivial⟩, Option.some.inj hF21, H.sel [] rfl⟩
    · clear hF14 H
      rintro T23 s10 w22 ⟨hr, (H : Cx w0 fp0 S0 w22 [])⟩
      subst hr
      cases s10
      · have hF24 := condF hF13; clear hF13
        obtain ⟨r33, hF35, hF34⟩ := bindS hF24; clear hF24
        refine cut (fun (q36 : Bool) => [(4, (.int .i64 kind_)), (10, (.bool q36))]) (fun (q36 : Bool) w' => q36 = r33 ∧ Cx w0 fp0 S0 w' []) ?_ ?_
        · skip
          obtain ⟨a37, e, hF38⟩ := bindS hF35; clear hF35
          refine boolO e ?_; clear e
          cases a37
          · have hF39 := condF hF38; clear hF38
            obtain ⟨a40, e, hF41⟩ := bindS hF39; clear hF39
            refine boolO e ?_; clear e
            exact ⟨a40, ⟨rfl, rfl, trivial⟩, Option.some.inj hF41, H.sel [] rfl⟩
          · have hF42 := condT hF38; clear hF38
            exact ⟨true, ⟨rfl, rfl, trivial⟩, Option.some.inj hF42, H.sel [] rfl⟩
        · clear hF35 H
          rintro T44 s31 w43 ⟨hr, (H : Cx w0 fp0 S0 w43 [])⟩
          subst hr
          cases s31
          · have hF45 := condF hF34; clear hF34
            obtain ⟨r54, hF56, hF55⟩ := bindS hF45; clear hF45
            refine cut (fun (q57 : Bool) => [(4, (.int .i64 kind_)), (13, (.bool q57))]) (fun (q57 : Bool) w' => q57 = r54 ∧ Cx w0 fp0 S0 w' []) ?_ ?_
            · skip
              obtain ⟨a58, e, hF59⟩ := bindS hF56; clear hF56
              refine boolO e ?_; clear e
              cases a58
              · have hF60 := condF hF59; clear hF59
                obtain ⟨a61, e, hF62⟩ := bindS hF60; clear hF60
                refine boolO e ?_; clear e
                exact ⟨a61, ⟨rfl, rfl, trivial⟩, Option.some.inj hF62, H.sel [] rfl⟩
              · have hF63 := condT hF59; clear hF59
                exact ⟨true, ⟨rfl, rfl, trivial⟩, Option.some.inj hF63, H.sel [] rfl⟩
            · clear hF56 H
              rintro T65 s52 w64 ⟨hr, (H : Cx w0 fp0 S0 w64 [])⟩
              subst hr
              cases s52
              · have hF66 := condF hF55; clear hF55
                obtain ⟨r75, hF77, hF76⟩ := bindS hF66; clear hF66
                refine cut (fun (q78 : Bool) => [(16, (.bool q78))]) (fun (q78 : Bool) w' => q78 = r75 ∧ Cx w0 fp0 S0 w' []) ?_ ?_
                · skip
                  obtain ⟨a79, e, hF80⟩ := bindS hF77; clear hF77
                  refine boolO e ?_; clear e
                  cases a79
                  · have hF81 := condF hF80; clear hF80
                    obtain ⟨a82, e, hF83⟩ := bindS hF81; clear hF81
                    refine boolO e ?_; clear e
                    exact ⟨a82, ⟨rfl, trivial⟩, Option.some.inj hF83, H.sel [] rfl⟩
                  · have hF84 := condT hF80; clear hF80
                    exact ⟨true, ⟨rfl, trivial⟩, Option.some.inj hF84, H.sel [] rfl⟩
                · clear hF77 H
                  rintro T86 s73 w85 ⟨hr, (H : Cx w0 fp0 S0 w85 [])⟩
                  subst hr
                  cases s73
                  · have hF87 := condF hF76; clear hF76
                    cases hF87
                    exact ⟨_, _, rfl, ⟨rfl, rfl⟩, (H.sel [] rfl).close trivial⟩
                  · have hF88 := condT hF76; clear hF76
                    cases hF88
                    exact ⟨_, _, rfl, ⟨rfl, rfl⟩, (H.sel [] rfl).close trivial⟩
              · have hF89 := condT hF55; clear hF55
                cases hF89
                exact ⟨_, _, rfl, ⟨rfl, rfl⟩, (H.sel [] rfl).close trivial⟩
          · have hF90 := condT hF34; clear hF34
            cases hF90
            exact ⟨_, _, rfl, ⟨rfl, rfl⟩, (H.sel [] rfl).close trivial⟩
      · have hF91 := condT hF13; clear hF13
        cases hF91
        exact ⟨_, _, rfl, ⟨rfl, rfl⟩, (H.sel [] rfl).close trivial⟩
  · have hF92 := condT hF2; clear hF2
    cases hF92
    exact ⟨_, _, rfl, ⟨rfl, rfl⟩, (H.sel [] rfl).close trivial⟩

theorem spec_hgEdge_c (e__0 : Int) (e__1 : Int) (e__2 : List Int) (e__2h : Hd) (e__3 : List Int) (e__3h : Hd) (wires_ : Int) (y : Bool) (hF : F_spec_hgEdge (e__0, e__1, e__2, e__3) wires_ = some y) :
    ConF Try.prog 78 #[(.agg #[(.int .i64 e__0), (.int .i64 e__1), (e__2h).v, (e__3h).v]), (.int .i64 wires_)] [Es (List Int) e__2 e__2h, Es (List Int) e__3 e__3h] [] (fun v Γ' => v = (.bool y) ∧ Γ' = []) := by
  intro w0 S0 fp0 hI hS
  have H : Cx w0 fp0 S0 w0 [Es (List Int) e__2 e__2h, Es (List Int) e__3 e__3h] := Cx.start hI hS
  clear hI hS
  refine enterC (args := [_, _]) gok Try.func78 rfl _ rfl rfl rfl ?_
  refine box_ H ?_; clear H; intro b4 w3 hx H
  clear hx
  replace H : Cx w0 fp0 S0 w3 [Bx b4 [(.int .i64 e__0), (.int .i64 e__1), (e__2h).v, (e__3h).v], Es (List Int) e__2 e__2h, Es (List Int) e__3 e__3h] := H
  refine sq ?_
  obtain ⟨r20, hF22, hF21⟩ := bindS hF; clear hF
  refine cut (fun (q23 : Bool) => [(1, (.int .i64 wires_)), (2, (.pointer (some ⟨b4, 0, none⟩))), (19, (.bool q23))]) (fun (q23 : Bool) w' => q23 = r20 ∧ Cx w0 fp0 S0 w' [Bx b4 [(.int .i64 e__0), (.int .i64 e__1), (e__2h).v, (e__3h).v], Es (List Int) e__2 e__2h, Es (List Int) e__3 e__3h]) ?_ ?_
  · skip
    refine fld gok rfl rfl rfl rfl ?_
    refine load1 (H.bx 0 rfl (j := 0) rfl) ?_
    obtain ⟨y24, e, hF25⟩ := bindS hF22; clear hF22
    have ey24 := e; clear e
    refine callF (spec_l1In_c e__0 3 14 y24 ey24) (Γi := []) H trivial ?_; clear H ey24
    rintro _ _ w26 ⟨rfl, rfl⟩ (H : Cx w0 fp0 S0 w26 [Bx b4 [(.int .i64 e__0), (.int .i64 e__1), (e__2h).v, (e__3h).v], Es (List Int) e__2 e__2h, Es (List Int) e__3 e__3h])
    obtain ⟨a27, e, hF28⟩ := bindS hF25; clear hF25
    refine boolO e ?_; clear e
    cases a27
    · have hF29 := condF hF28; clear hF28
      refine fld gok rfl rfl rfl rfl ?_
      refine load1 (H.bx 0 rfl (j := 0) rfl) ?_
      refine fld gok rfl rfl rfl rfl ?_
      refine load1 (H.bx 0 rfl (j := 1) rfl) ?_
      refine build_ (cs := #[(.int .i64 e__0), (.int .i64 e__1), (.string .empty)]) gok rfl rfl rfl ?_
      obtain ⟨y30, e, hF31⟩ := bindS hF29; clear hF29
      have ey30 := e; clear e
      refine callF (spec_tmLeaf_c e__0 e__1 .empty y30 ey30) (Γi := []) H trivial ?_; clear H ey30
      rintro _ _ w32 ⟨rfl, rfl⟩ (H : Cx w0 fp0 S0 w32 [Bx b4 [(.int .i64 e__0), (.int .i64 e__1), (e__2h).v, (e__3h).v], Es (List Int) e__2 e__2h, Es (List Int) e__3 e__3h])
      obtain ⟨a33, e, hF34⟩ := bindS hF31; clear hF31
      refine boolO e ?_; clear e
      exact ⟨a33, ⟨rfl, rfl, rfl, trivial⟩, Option.some.inj hF34, H.sel [0, 1, 2] rfl⟩
    · have hF35 := condT hF28; clear hF28
      exact ⟨true, ⟨rfl, rfl, rfl, trivial⟩, Option.some.inj hF35, H.sel [0, 1, 2] rfl⟩
  · clear hF22 H
    rintro T37 s18 w36 ⟨hr, (H : Cx w0 fp0 S0 w36 [Bx b4 [(.int .i64 e__0), (.int .i64 e__1), (e__2h).v, (e__3h).v], Es (List Int) e__2 e__2h, Es (List Int) e__3 e__3h])⟩
    subst hr
    cases s18
    · have hF38 := condF hF21; clear hF21
      refine fld gok rfl rfl rfl rfl ?_
      refine load1 (H.bx 0 rfl (j := 0) rfl) ?_
      obtain ⟨y39, e, hF40⟩ := bindS hF38; clear hF38
      obtain ⟨y39_0, y39_1⟩ := y39
      have ey39 := e; clear e
      refine callF (spec_tmKind_c e__0 y39_0 y39_1 ey39) (Γi := []) H trivial ?_; clear H ey39
      rintro _ _ w41 ⟨rfl, rfl⟩ (H : Cx w0 fp0 S0 w41 [Bx b4 [(.int .i64 e__0), (.int .i64 e__1), (e__2h).v, (e__3h).v], Es (List Int) e__2 e__2h, Es (List Int) e__3 e__3h])
      obtain ⟨r64, hF66, hF65⟩ := bindS hF40; clear hF40
      refine cut (fun (q67 : Bool) => [(4, (.bool q67))]) (fun (q67 : Bool) w' => q67 = r64 ∧ Cx w0 fp0 S0 w' []) ?_ ?_
      · skip
        refine fld gok rfl rfl rfl rfl ?_
        refine load1 (H.bx 0 rfl (j := 2) rfl) ?_
        refine lenE (H.rs (α := List Int) 1 rfl).len ?_
        obtain ⟨a68, e, hF69⟩ := bindS hF66; clear hF66
        refine boolO e ?_; clear e
        cases a68
        · have hF70 := condF hF69; clear hF69
          exact ⟨false, ⟨rfl, trivial⟩, Option.some.inj hF70, H.sel [] rfl⟩
        · have hF71 := condT hF69; clear hF69
          refine fld gok rfl rfl rfl rfl ?_
          refine load1 (H.bx 0 rfl (j := 3) rfl) ?_
          refine lenE (H.rs (α := List Int) 2 rfl).len ?_
          obtain ⟨a72, e, hF73⟩ := bindS hF71; clear hF71
          refine boolO e ?_; clear e
          cases a72
          · have hF74 := condF hF73; clear hF73
            exact ⟨false, ⟨rfl, trivial⟩, Option.some.inj hF74, H.sel [] rfl⟩
          · have hF75 := condT hF73; clear hF73
            refine fld gok rfl rfl rfl rfl ?_
            refine load1 (H.bx 0 rfl (j := 2) rfl) ?_
            obtain ⟨a76, e, hF77⟩ := bindS hF75; clear hF75
            refine arO e ?_; clear e
            obtain ⟨y78, e, hF79⟩ := bindS hF77; clear hF77
            have ey78 := e; clear e
            refine callF (spec_l1All_c e__2 e__2h 0 a76 y78 ey78) (Γi := []) H ⟨Vw.sh 1 rfl, trivial⟩ ?_; clear H ey78
            rintro _ _ w80 ⟨rfl, rfl⟩ (H : Cx w0 fp0 S0 w80 [Bx b4 [(.int .i64 e__0), (.int .i64 e__1), (e__2h).v, (e__3h).v], Es (List Int) e__2 e__2h, Es (List Int) e__3 e__3h])
            cases y78
            · have hF81 := condF hF79; clear hF79
              exact ⟨false, ⟨rfl, trivial⟩, Option.some.inj hF81, H.sel [] rfl⟩
            · have hF82 := condT hF79; clear hF79
              refine fld gok rfl rfl rfl rfl ?_
              refine load1 (H.bx 0 rfl (j := 3) rfl) ?_
              obtain ⟨a83, e, hF84⟩ := bindS hF82; clear hF82
              refine arO e ?_; clear e
              obtain ⟨y85, e, hF86⟩ := bindS hF84; clear hF84
              have ey85 := e; clear e
              refine callF (spec_l1All_c e__3 e__3h 0 a83 y85 ey85) (Γi := []) H ⟨Vw.sh 2 rfl, trivial⟩ ?_; clear H ey85
              rintro _ _ w87 ⟨rfl, rfl⟩ (H : Cx w0 fp0 S0 w87 [Bx b4 [(.int .i64 e__0), (.int .i64 e__1), (e__2h).v, (e__3h).v], Es (List Int) e__2 e__2h, Es (List Int) e__3 e__3h])
              exact ⟨y85, ⟨rfl, trivial⟩, Option.some.inj hF86, H.sel [] rfl⟩
      · clear hF66 H
        rintro T89 s62 w88 ⟨hr, (H : Cx w0 fp0 S0 w88 [])⟩
        subst hr
        cases hF65
        exact ⟨_, _, rfl, ⟨rfl, rfl⟩, (H.sel [] rfl).close trivial⟩
    · have hF90 := condT hF21; clear hF21
      cases hF90
      exact ⟨_, _, rfl, ⟨rfl, rfl⟩, (H.sel [] rfl).close trivial⟩

theorem spec_hgCounts_c (g__0 : Int) (g__1 : List (Int × Int × List Int × List Int)) (g__1h : Hd) (g__2 : List Int) (g__2h : Hd) (g__3 : List Int) (g__3h : Hd) (y0 : List Int) (y1 : List Int) (hF : F_spec_hgCounts (g__0, g__1, g__2, g__3) = some (y0, y1)) :
    ConF Try.prog 79 #[(.agg #[(.int .i64 g__0), (g__1h).v, (g__2h).v, (g__3h).v])] [Es (List (Int × Int × List Int × List Int)) g__1 g__1h, Es (List Int) g__2 g__2h, Es (List Int) g__3 g__3h] [] (fun v Γ' => ∃ z0 z1 : Hd, v = (.tuple #[(z0).v, (z1).v]) ∧ Γ' = [E (List Int) y0 z0, E (List Int) y1 z1]) := by
  intro w0 S0 fp0 hI hS
  have H : Cx w0 fp0 S0 w0 [Es (List (Int × Int × List Int × List Int)) g__1 g__1h, Es (List Int) g__2 g__2h, Es (List Int) g__3 g__3h] := Cx.start hI hS
  clear hI hS
  refine enterC (args := [_]) gok Try.func79 rfl _ rfl rfl rfl ?_
  refine box_ H ?_; clear H; intro b5 w4 hx H
  clear hx
  replace H : Cx w0 fp0 S0 w4 [Bx b5 [(.int .i64 g__0), (g__1h).v, (g__2h).v, (g__3h).v], Es (List (Int × Int × List Int × List Int)) g__1 g__1h, Es (List Int) g__2 g__2h, Es (List Int) g__3 g__3h] := H
  refine fld gok rfl rfl rfl rfl ?_
  refine load1 (H.bx 0 rfl (j := 0) rfl) ?_
  obtain ⟨a7, e, hF8⟩ := bindS hF; clear hF
  refine make_ (α := Int) gok rfl rfl rfl rfl (makeCO_of e) H ?_; clear e H; intro h10 w9 hx H
  clear hx
  refine fld gok rfl rfl rfl rfl ?_
  refine load1 (H.bx 1 rfl (j := 0) rfl) ?_
  obtain ⟨a12, e, hF13⟩ := bindS hF8; clear hF8
  refine make_ (α := Int) gok rfl rfl rfl rfl (makeCO_of e) H ?_; clear e H; intro h15 w14 hx H
  clear hx
  refine sq ?_
  refine fld gok rfl rfl rfl rfl ?_
  refine load1 (H.bx 2 rfl (j := 2) rfl) ?_
  refine lenE (H.rs (α := List Int) 4 rfl).len ?_
  have hmx78 := (H.rs (α := List Int) 4 rfl).max
  obtain ⟨r79, e, hF80⟩ := bindS hF13; clear hF13
  refine loopS _ g__2.length (fun (k17 : Nat) (s76 : List Int) (_ : Unit) => [(1, (.pointer (some ⟨b5, 0, none⟩))), (4, (h10).v), (5, (h15).v), (23, (g__2h).v), (24, (.int .i64 ((g__2.length : Nat) : Int))), (25, (.int .i64 ((k17 : Nat) : Int)))]) (fun _ (s76 : List Int) (_ : Unit) w' => Cx w0 fp0 S0 w' [Bx b5 [(.int .i64 g__0), (g__1h).v, (g__2h).v, (g__3h).v], Es (List (Int × Int × List Int × List Int)) g__1 g__1h, Es (List Int) g__2 g__2h, Es (List Int) g__3 g__3h, E (List Int) s76 h10, E (List Int) a12 h15]) a7 () e ⟨rfl, rfl, rfl, rfl, rfl, rfl, trivial⟩ (H.sel [2, 3, 4, 5, 1, 0] rfl) ?_ ?_
  · clear H e
    rintro T82 k17 s76 _ w81 o83 hk (H : Cx w0 fp0 S0 w81 [Bx b5 [(.int .i64 g__0), (g__1h).v, (g__2h).v, (g__3h).v], Es (List (Int × Int × List Int × List Int)) g__1 g__1h, Es (List Int) g__2 g__2h, Es (List Int) g__3 g__3h, E (List Int) s76 h10, E (List Int) a12 h15]) hF84
    refine boolE (z := true) (ltLen hk) ?_
    refine sq ?_
    refine sq ?_
    obtain ⟨a91, e, hF92⟩ := bindS hF84; clear hF84
    obtain ⟨p89, m90, c85, c86, c87, c88⟩ := (H.rs (α := List Int) 2 rfl).at1 e; clear e
    refine idxE c85 c86 c87 ?_; clear c85 c86 c87
    refine load1 c88 ?_; clear c88
    obtain ⟨a99, e, hF100⟩ := bindS hF92; clear hF92
    obtain ⟨p97, m98, c93, c94, c95, c96⟩ := (H.ro (α := List Int) 4 rfl).at1 e; clear e
    refine idxE c93 c94 c95 ?_; clear c93 c94 c95
    refine load1 c96 ?_; clear c96
    obtain ⟨a101, e, hF102⟩ := bindS hF100; clear hF100
    refine arO e ?_; clear e
    obtain ⟨a109, e, hF110⟩ := bindS hF102; clear hF102
    have ea109 := e; clear e
    obtain ⟨p107, m108, c103, c104, c105⟩ := (H.ro (α := List Int) 4 rfl).setp ea109
    refine idxE c103 c104 c105 ?_
    replace H := H.sel [4, 0, 1, 2, 3, 5] rfl
    refine setS (α := Int) H c103 c104 ea109 ?_; clear H c103 c104 c105 ea109; intro w111 H
    refine arK hk hmx78 ?_
    have hs := Option.some.inj hF110; subst hs; clear hF110
    exact ⟨(), ⟨rfl, rfl, rfl, rfl, rfl, rfl, trivial⟩, H.sel [1, 2, 3, 4, 0, 5] rfl⟩
  · clear H e
    rintro T113 _ w112 (H : Cx w0 fp0 S0 w112 [Bx b5 [(.int .i64 g__0), (g__1h).v, (g__2h).v, (g__3h).v], Es (List (Int × Int × List Int × List Int)) g__1 g__1h, Es (List Int) g__2 g__2h, Es (List Int) g__3 g__3h, E (List Int) r79 h10, E (List Int) a12 h15])
    refine boolE (z := false) geLen ?_
    refine sq ?_
    refine sq ?_
    refine fld gok rfl rfl rfl rfl ?_
    refine load1 (H.bx 0 rfl (j := 3) rfl) ?_
    refine lenE (H.rs (α := List Int) 3 rfl).len ?_
    have hmx177 := (H.rs (α := List Int) 3 rfl).max
    obtain ⟨r178, e, hF179⟩ := bindS hF80; clear hF80
    refine loopS _ g__3.length (fun (k116 : Nat) (s175 : List Int) (_ : Unit) => [(1, (.pointer (some ⟨b5, 0, none⟩))), (4, (h10).v), (5, (h15).v), (37, (g__3h).v), (38, (.int .i64 ((g__3.length : Nat) : Int))), (39, (.int .i64 ((k116 : Nat) : Int)))]) (fun _ (s175 : List Int) (_ : Unit) w' => Cx w0 fp0 S0 w' [Bx b5 [(.int .i64 g__0), (g__1h).v, (g__2h).v, (g__3h).v], Es (List (Int × Int × List Int × List Int)) g__1 g__1h, Es (List Int) g__2 g__2h, Es (List Int) g__3 g__3h, E (List Int) r79 h10, E (List Int) s175 h15]) a12 () e ⟨rfl, rfl, rfl, rfl, rfl, rfl, trivial⟩ (H.sel [0, 1, 2, 3, 4, 5] rfl) ?_ ?_
    · clear H e
      rintro T181 k116 s175 _ w180 o182 hk (H : Cx w0 fp0 S0 w180 [Bx b5 [(.int .i64 g__0), (g__1h).v, (g__2h).v, (g__3h).v], Es (List (Int × Int × List Int × List Int)) g__1 g__1h, Es (List Int) g__2 g__2h, Es (List Int) g__3 g__3h, E (List Int) r79 h10, E (List Int) s175 h15]) hF183
      refine boolE (z := true) (ltLen hk) ?_
      refine sq ?_
      refine sq ?_
      obtain ⟨a190, e, hF191⟩ := bindS hF183; clear hF183
      obtain ⟨p188, m189, c184, c185, c186, c187⟩ := (H.rs (α := List Int) 3 rfl).at1 e; clear e
      refine idxE c184 c185 c186 ?_; clear c184 c185 c186
      refine load1 c187 ?_; clear c187
      obtain ⟨a198, e, hF199⟩ := bindS hF191; clear hF191
      obtain ⟨p196, m197, c192, c193, c194, c195⟩ := (H.ro (α := List Int) 5 rfl).at1 e; clear e
      refine idxE c192 c193 c194 ?_; clear c192 c193 c194
      refine load1 c195 ?_; clear c195
      obtain ⟨a200, e, hF201⟩ := bindS hF199; clear hF199
      refine arO e ?_; clear e
      obtain ⟨a208, e, hF209⟩ := bindS hF201; clear hF201
      have ea208 := e; clear e
      obtain ⟨p206, m207, c202, c203, c204⟩ := (H.ro (α := List Int) 5 rfl).setp ea208
      refine idxE c202 c203 c204 ?_
      replace H := H.sel [5, 0, 1, 2, 3, 4] rfl
      refine setS (α := Int) H c202 c203 ea208 ?_; clear H c202 c203 c204 ea208; intro w210 H
      refine arK hk hmx177 ?_
      have hs := Option.some.inj hF209; subst hs; clear hF209
      exact ⟨(), ⟨rfl, rfl, rfl, rfl, rfl, rfl, trivial⟩, H.sel [1, 2, 3, 4, 5, 0] rfl⟩
    · clear H e
      rintro T212 _ w211 (H : Cx w0 fp0 S0 w211 [Bx b5 [(.int .i64 g__0), (g__1h).v, (g__2h).v, (g__3h).v], Es (List (Int × Int × List Int × List Int)) g__1 g__1h, Es (List Int) g__2 g__2h, Es (List Int) g__3 g__3h, E (List Int) r79 h10, E (List Int) r178 h15])
      refine boolE (z := false) geLen ?_
      refine sq ?_
      refine sq ?_
      refine fld gok rfl rfl rfl rfl ?_
      refine load1 (H.bx 0 rfl (j := 1) rfl) ?_
      refine lenE (H.rs (α := List (Int × Int × List Int × List Int)) 1 rfl).len ?_
      have hmx654 := (H.rs (α := List (Int × Int × List Int × List Int)) 1 rfl).max
      obtain ⟨r655, e, hF656⟩ := bindS hF179; clear hF179
      refine loopS _ g__1.length (fun (k215 : Nat) (s652 : List Int × List Int) (_ : Unit) => [(4, (h10).v), (5, (h15).v), (51, (g__1h).v), (52, (.int .i64 ((g__1.length : Nat) : Int))), (53, (.int .i64 ((k215 : Nat) : Int)))]) (fun _ (s652 : List Int × List Int) (_ : Unit) w' => Cx w0 fp0 S0 w' [E (List Int) s652.1 h10, E (List Int) s652.2 h15, Es (List (Int × Int × List Int × List Int)) g__1 g__1h]) (r79, r178) () e ⟨rfl, rfl, rfl, rfl, rfl, trivial⟩ (H.sel [4, 5, 1] rfl) ?_ ?_
      · clear H e
        rintro T658 k215 ⟨s652_0, s652_1⟩ _ w657 o659 hk (H : Cx w0 fp0 S0 w657 [E (List Int) s652_0 h10, E (List Int) s652_1 h15, Es (List (Int × Int × List Int × List Int)) g__1 g__1h]) hF660
        refine boolE (z := true) (ltLen hk) ?_
        refine sq ?_
        refine sq ?_
        obtain ⟨a667, e, hF668⟩ := bindS hF660; clear hF660
        have HH := H; clear H; obtain ⟨p665, m666, g669, c661, c662, c663, c664, H⟩ := HH.el (α := Int × Int × List Int × List Int) 2 rfl e; clear HH
        clear e
        obtain ⟨a667_0, a667_1, a667_2, a667_3⟩ := a667
        obtain ⟨_, _, h671, h672⟩ := g669
        replace H := H.part (β := List Int) a667_2 (h671 : Hd) 0 rfl (fun S h => (And.left (And.right (And.right h))))
        replace H := H.part (β := List Int) a667_3 (h672 : Hd) 1 rfl (fun S h => (And.right (And.right (And.right h))))
        replace H := H.sel [0, 1, 3, 4, 5] rfl
        refine idxE c661 c662 c663 ?_; clear c661 c662 c663
        refine loadN [(.int .i64 a667_0), (.int .i64 a667_1), (h671).v, (h672).v] rfl c664 ?_; clear c664
        refine alloc_ gok rfl H ?_; clear H; intro b676 w675 hx H
        clear hx
        replace H : Cx w0 fp0 S0 w675 [Bx b676 [(.int .i64 0), (.int .i64 0), (.slice none 0 0), (.slice none 0 0)], Es (List Int) a667_3 h672, Es (List Int) a667_2 h671, E (List Int) s652_0 h10, E (List Int) s652_1 h15, Es (List (Int × Int × List Int × List Int)) g__1 g__1h] := H
        refine stA gok [(.int .i64 a667_0), (.int .i64 a667_1), (h671).v, (h672).v] rfl H rfl rfl rfl ?_; clear H; intro w678 H
        replace H : Cx w0 fp0 S0 w678 [Bx b676 [(.int .i64 a667_0), (.int .i64 a667_1), (h671).v, (h672).v], Es (List Int) a667_3 h672, Es (List Int) a667_2 h671, E (List Int) s652_0 h10, E (List Int) s652_1 h15, Es (List (Int × Int × List Int × List Int)) g__1 g__1h] := H
        refine sq ?_
        refine fld gok rfl rfl rfl rfl ?_
        refine load1 (H.bx 0 rfl (j := 3) rfl) ?_
        refine lenE (H.rs (α := List Int) 1 rfl).len ?_
        have hmx740 := (H.rs (α := List Int) 1 rfl).max
        obtain ⟨r741, e, hF742⟩ := bindS hF668; clear hF668
        refine loopS _ a667_3.length (fun (k679 : Nat) (s738 : List Int) (_ : Unit) => [(4, (h10).v), (5, (h15).v), (11, (.pointer (some ⟨b676, 0, none⟩))), (51, (g__1h).v), (52, (.int .i64 ((g__1.length : Nat) : Int))), (53, (.int .i64 ((k215 : Nat) : Int))), (58, (h672).v), (59, (.int .i64 ((a667_3.length : Nat) : Int))), (60, (.int .i64 ((k679 : Nat) : Int)))]) (fun _ (s738 : List Int) (_ : Unit) w' => Cx w0 fp0 S0 w' [E (List Int) s738 h10, E (List Int) s652_1 h15, Bx b676 [(.int .i64 a667_0), (.int .i64 a667_1), (h671).v, (h672).v], Es (List Int) a667_2 h671, Es (List Int) a667_3 h672, Es (List (Int × Int × List Int × List Int)) g__1 g__1h]) s652_0 () e ⟨rfl, rfl, rfl, rfl, rfl, rfl, rfl, rfl, rfl, trivial⟩ (H.sel [3, 4, 0, 2, 1, 5] rfl) ?_ ?_
        · clear H e
          rintro T744 k679 s738 _ w743 o745 hk (H : Cx w0 fp0 S0 w743 [E (List Int) s738 h10, E (List Int) s652_1 h15, Bx b676 [(.int .i64 a667_0), (.int .i64 a667_1), (h671).v, (h672).v], Es (List Int) a667_2 h671, Es (List Int) a667_3 h672, Es (List (Int × Int × List Int × List Int)) g__1 g__1h]) hF746
          refine boolE (z := true) (ltLen hk) ?_
          refine sq ?_
          refine sq ?_
          obtain ⟨a753, e, hF754⟩ := bindS hF746; clear hF746
          obtain ⟨p751, m752, c747, c748, c749, c750⟩ := (H.rs (α := List Int) 4 rfl).at1 e; clear e
          refine idxE c747 c748 c749 ?_; clear c747 c748 c749
          refine load1 c750 ?_; clear c750
          obtain ⟨a761, e, hF762⟩ := bindS hF754; clear hF754
          obtain ⟨p759, m760, c755, c756, c757, c758⟩ := (H.ro (α := List Int) 0 rfl).at1 e; clear e
          refine idxE c755 c756 c757 ?_; clear c755 c756 c757
          refine load1 c758 ?_; clear c758
          obtain ⟨a763, e, hF764⟩ := bindS hF762; clear hF762
          refine arO e ?_; clear e
          obtain ⟨a771, e, hF772⟩ := bindS hF764; clear hF764
          have ea771 := e; clear e
          obtain ⟨p769, m770, c765, c766, c767⟩ := (H.ro (α := List Int) 0 rfl).setp ea771
          refine idxE c765 c766 c767 ?_
          refine setS (α := Int) H c765 c766 ea771 ?_; clear H c765 c766 c767 ea771; intro w773 H
          refine arK hk hmx740 ?_
          have hs := Option.some.inj hF772; subst hs; clear hF772
          exact ⟨(), ⟨rfl, rfl, rfl, rfl, rfl, rfl, rfl, rfl, rfl, trivial⟩, H.sel [0, 1, 2, 3, 4, 5] rfl⟩
        · clear H e
          rintro T775 _ w774 (H : Cx w0 fp0 S0 w774 [E (List Int) r741 h10, E (List Int) s652_1 h15, Bx b676 [(.int .i64 a667_0), (.int .i64 a667_1), (h671).v, (h672).v], Es (List Int) a667_2 h671, Es (List Int) a667_3 h672, Es (List (Int × Int × List Int × List Int)) g__1 g__1h])
          refine boolE (z := false) geLen ?_
          refine sq ?_
          refine fld gok rfl rfl rfl rfl ?_
          refine load1 (H.bx 2 rfl (j := 2) rfl) ?_
          refine lenE (H.rs (α := List Int) 3 rfl).len ?_
          have hmx839 := (H.rs (α := List Int) 3 rfl).max
          obtain ⟨r840, e, hF841⟩ := bindS hF742; clear hF742
          refine loopS _ a667_2.length (fun (k778 : Nat) (s837 : List Int) (_ : Unit) => [(4, (h10).v), (5, (h15).v), (51, (g__1h).v), (52, (.int .i64 ((g__1.length : Nat) : Int))), (53, (.int .i64 ((k215 : Nat) : Int))), (72, (h671).v), (73, (.int .i64 ((a667_2.length : Nat) : Int))), (74, (.int .i64 ((k778 : Nat) : Int)))]) (fun _ (s837 : List Int) (_ : Unit) w' => Cx w0 fp0 S0 w' [E (List Int) r741 h10, E (List Int) s837 h15, Es (List (Int × Int × List Int × List Int)) g__1 g__1h, Es (List Int) a667_2 h671]) s652_1 () e ⟨rfl, rfl, rfl, rfl, rfl, rfl, rfl, rfl, trivial⟩ (H.sel [0, 1, 5, 3] rfl) ?_ ?_
          · clear H e
            rintro T843 k778 s837 _ w842 o844 hk (H : Cx w0 fp0 S0 w842 [E (List Int) r741 h10, E (List Int) s837 h15, Es (List (Int × Int × List Int × List Int)) g__1 g__1h, Es (List Int) a667_2 h671]) hF845
            refine boolE (z := true) (ltLen hk) ?_
            refine sq ?_
            refine sq ?_
            obtain ⟨a852, e, hF853⟩ := bindS hF845; clear hF845
            obtain ⟨p850, m851, c846, c847, c848, c849⟩ := (H.rs (α := List Int) 3 rfl).at1 e; clear e
            refine idxE c846 c847 c848 ?_; clear c846 c847 c848
            refine load1 c849 ?_; clear c849
            obtain ⟨a860, e, hF861⟩ := bindS hF853; clear hF853
            obtain ⟨p858, m859, c854, c855, c856, c857⟩ := (H.ro (α := List Int) 1 rfl).at1 e; clear e
            refine idxE c854 c855 c856 ?_; clear c854 c855 c856
            refine load1 c857 ?_; clear c857
            obtain ⟨a862, e, hF863⟩ := bindS hF861; clear hF861
            refine arO e ?_; clear e
            obtain ⟨a870, e, hF871⟩ := bindS hF863; clear hF863
            have ea870 := e; clear e
            obtain ⟨p868, m869, c864, c865, c866⟩ := (H.ro (α := List Int) 1 rfl).setp ea870
            refine idxE c864 c865 c866 ?_
            replace H := H.sel [1, 0, 2, 3] rfl
            refine setS (α := Int) H c864 c865 ea870 ?_; clear H c864 c865 c866 ea870; intro w872 H
            refine arK hk hmx839 ?_
            have hs := Option.some.inj hF871; subst hs; clear hF871
            exact ⟨(), ⟨rfl, rfl, rfl, rfl, rfl, rfl, rfl, rfl, trivial⟩, H.sel [1, 0, 2, 3] rfl⟩
          · clear H e
            rintro T874 _ w873 (H : Cx w0 fp0 S0 w873 [E (List Int) r741 h10, E (List Int) r840 h15, Es (List (Int × Int × List Int × List Int)) g__1 g__1h, Es (List Int) a667_2 h671])
            refine boolE (z := false) geLen ?_
            refine sq ?_
            refine arK hk hmx654 ?_
            have hs := Option.some.inj hF841; subst hs; clear hF841
            exact ⟨(), ⟨rfl, rfl, rfl, rfl, rfl, trivial⟩, H.sel [0, 1, 2] rfl⟩
      · clear H e
        obtain ⟨s879_0, s879_1⟩ := r655
        rintro T878 _ w877 (H : Cx w0 fp0 S0 w877 [E (List Int) s879_0 h10, E (List Int) s879_1 h15, Es (List (Int × Int × List Int × List Int)) g__1 g__1h])
        refine boolE (z := false) geLen ?_
        refine sq ?_
        cases hF656
        exact ⟨_, _, rfl, ⟨h10, h15, rfl, rfl⟩, (H.sel [0, 1] rfl).close ⟨cloE, cloE, trivial⟩⟩

theorem spec_hgValid_c (g__0 : Int) (g__1 : List (Int × Int × List Int × List Int)) (g__1h : Hd) (g__2 : List Int) (g__2h : Hd) (g__3 : List Int) (g__3h : Hd) (y : Bool) (hF : F_spec_hgValid (g__0, g__1, g__2, g__3) = some y) :
    ConF Try.prog 41 #[(.agg #[(.int .i64 g__0), (g__1h).v, (g__2h).v, (g__3h).v])] [Es (List (Int × Int × List Int × List Int)) g__1 g__1h, Es (List Int) g__2 g__2h, Es (List Int) g__3 g__3h] [] (fun v Γ' => v = (.bool y) ∧ Γ' = []) := by
  intro w0 S0 fp0 hI hS
  have H : Cx w0 fp0 S0 w0 [Es (List (Int × Int × List Int × List Int)) g__1 g__1h, Es (List Int) g__2 g__2h, Es (List Int) g__3 g__3h] := Cx.start hI hS
  clear hI hS
  refine enterC (args := [_]) gok Try.func41 rfl _ rfl rfl rfl ?_
  refine box_ H ?_; clear H; intro b5 w4 hx H
  clear hx
  replace H : Cx w0 fp0 S0 w4 [Bx b5 [(.int .i64 g__0), (g__1h).v, (g__2h).v, (g__3h).v], Es (List (Int × Int × List Int × List Int)) g__1 g__1h, Es (List Int) g__2 g__2h, Es (List Int) g__3 g__3h] := H
  refine sq ?_
  obtain ⟨r44, hF46, hF45⟩ := bindS hF; clear hF
  refine cut (fun (q47 : Bool) => [(1, (.pointer (some ⟨b5, 0, none⟩))), (47, (.bool q47))]) (fun (q47 : Bool) w' => q47 = r44 ∧ Cx w0 fp0 S0 w' [Bx b5 [(.int .i64 g__0), (g__1h).v, (g__2h).v, (g__3h).v], Es (List (Int × Int × List Int × List Int)) g__1 g__1h, Es (List Int) g__2 g__2h, Es (List Int) g__3 g__3h]) ?_ ?_
  · skip
    refine fld gok rfl rfl rfl rfl ?_
    refine load1 (H.bx 0 rfl (j := 0) rfl) ?_
    obtain ⟨y48, e, hF49⟩ := bindS hF46; clear hF46
    have ey48 := e; clear e
    refine callF (spec_l1In_c g__0 0 100 y48 ey48) (Γi := []) H trivial ?_; clear H ey48
    rintro _ _ w50 ⟨rfl, rfl⟩ (H : Cx w0 fp0 S0 w50 [Bx b5 [(.int .i64 g__0), (g__1h).v, (g__2h).v, (g__3h).v], Es (List (Int × Int × List Int × List Int)) g__1 g__1h, Es (List Int) g__2 g__2h, Es (List Int) g__3 g__3h])
    obtain ⟨a51, e, hF52⟩ := bindS hF49; clear hF49
    refine boolO e ?_; clear e
    cases a51
    · have hF53 := condF hF52; clear hF52
      refine fld gok rfl rfl rfl rfl ?_
      refine load1 (H.bx 0 rfl (j := 1) rfl) ?_
      refine lenE (H.rs (α := List (Int × Int × List Int × List Int)) 1 rfl).len ?_
      obtain ⟨a54, e, hF55⟩ := bindS hF53; clear hF53
      refine boolO e ?_; clear e
      cases a54
      · have hF56 := condF hF55; clear hF55
        refine fld gok rfl rfl rfl rfl ?_
        refine load1 (H.bx 0 rfl (j := 2) rfl) ?_
        refine lenE (H.rs (α := List Int) 2 rfl).len ?_
        obtain ⟨a57, e, hF58⟩ := bindS hF56; clear hF56
        refine boolO e ?_; clear e
        cases a57
        · have hF59 := condF hF58; clear hF58
          refine fld gok rfl rfl rfl rfl ?_
          refine load1 (H.bx 0 rfl (j := 3) rfl) ?_
          refine lenE (H.rs (α := List Int) 3 rfl).len ?_
          obtain ⟨a60, e, hF61⟩ := bindS hF59; clear hF59
          refine boolO e ?_; clear e
          cases a60
          · have hF62 := condF hF61; clear hF61
            refine fld gok rfl rfl rfl rfl ?_
            refine load1 (H.bx 0 rfl (j := 2) rfl) ?_
            refine fld gok rfl rfl rfl rfl ?_
            refine load1 (H.bx 0 rfl (j := 0) rfl) ?_
            obtain ⟨a63, e, hF64⟩ := bindS hF62; clear hF62
            refine arO e ?_; clear e
            obtain ⟨y65, e, hF66⟩ := bindS hF64; clear hF64
            have ey65 := e; clear e
            refine callF (spec_l1All_c g__2 g__2h 0 a63 y65 ey65) (Γi := []) H ⟨Vw.sh 2 rfl, trivial⟩ ?_; clear H ey65
            rintro _ _ w67 ⟨rfl, rfl⟩ (H : Cx w0 fp0 S0 w67 [Bx b5 [(.int .i64 g__0), (g__1h).v, (g__2h).v, (g__3h).v], Es (List (Int × Int × List Int × List Int)) g__1 g__1h, Es (List Int) g__2 g__2h, Es (List Int) g__3 g__3h])
            obtain ⟨a68, e, hF69⟩ := bindS hF66; clear hF66
            refine boolO e ?_; clear e
            cases a68
            · have hF70 := condF hF69; clear hF69
              refine fld gok rfl rfl rfl rfl ?_
              refine load1 (H.bx 0 rfl (j := 3) rfl) ?_
              refine fld gok rfl rfl rfl rfl ?_
              refine load1 (H.bx 0 rfl (j := 0) rfl) ?_
              obtain ⟨a71, e, hF72⟩ := bindS hF70; clear hF70
              refine arO e ?_; clear e
              obtain ⟨y73, e, hF74⟩ := bindS hF72; clear hF72
              have ey73 := e; clear e
              refine callF (spec_l1All_c g__3 g__3h 0 a71 y73 ey73) (Γi := []) H ⟨Vw.sh 3 rfl, trivial⟩ ?_; clear H ey73
              rintro _ _ w75 ⟨rfl, rfl⟩ (H : Cx w0 fp0 S0 w75 [Bx b5 [(.int .i64 g__0), (g__1h).v, (g__2h).v, (g__3h).v], Es (List (Int × Int × List Int × List Int)) g__1 g__1h, Es (List Int) g__2 g__2h, Es (List Int) g__3 g__3h])
              obtain ⟨a76, e, hF77⟩ := bindS hF74; clear hF74
              refine boolO e ?_; clear e
              exact ⟨a76, ⟨rfl, rfl, trivial⟩, Option.some.inj hF77, H.sel [0, 1, 2, 3] rfl⟩
            · have hF78 := condT hF69; clear hF69
              exact ⟨true, ⟨rfl, rfl, trivial⟩, Option.some.inj hF78, H.sel [0, 1, 2, 3] rfl⟩
          · have hF79 := condT hF61; clear hF61
            exact ⟨true, ⟨rfl, rfl, trivial⟩, Option.some.inj hF79, H.sel [0, 1, 2, 3] rfl⟩
        · have hF80 := condT hF58; clear hF58
          exact ⟨true, ⟨rfl, rfl, trivial⟩, Option.some.inj hF80, H.sel [0, 1, 2, 3] rfl⟩
      · have hF81 := condT hF55; clear hF55
        exact ⟨true, ⟨rfl, rfl, trivial⟩, Option.some.inj hF81, H.sel [0, 1, 2, 3] rfl⟩
    · have hF82 := condT hF52; clear hF52
      exact ⟨true, ⟨rfl, rfl, trivial⟩, Option.some.inj hF82, H.sel [0, 1, 2, 3] rfl⟩
  · clear hF46 H
    rintro T84 s42 w83 ⟨hr, (H : Cx w0 fp0 S0 w83 [Bx b5 [(.int .i64 g__0), (g__1h).v, (g__2h).v, (g__3h).v], Es (List (Int × Int × List Int × List Int)) g__1 g__1h, Es (List Int) g__2 g__2h, Es (List Int) g__3 g__3h])⟩
    subst hr
    cases s42
    · have hF85 := condF hF45; clear hF45
      refine sq ?_
      refine fld gok rfl rfl rfl rfl ?_
      refine load1 (H.bx 0 rfl (j := 1) rfl) ?_
      refine lenE (H.rs (α := List (Int × Int × List Int × List Int)) 1 rfl).len ?_
      have hmx116 := (H.rs (α := List (Int × Int × List Int × List Int)) 1 rfl).max
      obtain ⟨r117, e, hF118⟩ := bindS hF85; clear hF85
      refine loopO _ g__1.length (fun (k86 : Nat) (_ : Unit) (_ : Unit) => [(1, (.pointer (some ⟨b5, 0, none⟩))), (49, (g__1h).v), (50, (.int .i64 ((g__1.length : Nat) : Int))), (51, (.int .i64 ((k86 : Nat) : Int)))]) (fun _ (_ : Unit) (_ : Unit) w' => Cx w0 fp0 S0 w' [Bx b5 [(.int .i64 g__0), (g__1h).v, (g__2h).v, (g__3h).v], Es (List (Int × Int × List Int × List Int)) g__1 g__1h, Es (List Int) g__2 g__2h, Es (List Int) g__3 g__3h]) () () e ⟨rfl, rfl, rfl, rfl, trivial⟩ (H.sel [0, 1, 2, 3] rfl) ?_ ?_
      · clear H e
        rintro T120 k86 _ _ w119 o121 hk (H : Cx w0 fp0 S0 w119 [Bx b5 [(.int .i64 g__0), (g__1h).v, (g__2h).v, (g__3h).v], Es (List (Int × Int × List Int × List Int)) g__1 g__1h, Es (List Int) g__2 g__2h, Es (List Int) g__3 g__3h]) hrt hF122
        refine boolE (z := true) (ltLen hk) ?_
        refine sq ?_
        refine sq ?_
        obtain ⟨a129, e, hF130⟩ := bindS hF122; clear hF122
        have HH := H; clear H; obtain ⟨p127, m128, g131, c123, c124, c125, c126, H⟩ := HH.el (α := Int × Int × List Int × List Int) 1 rfl e; clear HH
        clear e
        obtain ⟨a129_0, a129_1, a129_2, a129_3⟩ := a129
        obtain ⟨_, _, h133, h134⟩ := g131
        replace H := H.part (β := List Int) a129_2 (h133 : Hd) 0 rfl (fun S h => (And.left (And.right (And.right h))))
        replace H := H.part (β := List Int) a129_3 (h134 : Hd) 1 rfl (fun S h => (And.right (And.right (And.right h))))
        replace H := H.sel [0, 1, 3, 4, 5, 6] rfl
        refine idxE c123 c124 c125 ?_; clear c123 c124 c125
        refine loadN [(.int .i64 a129_0), (.int .i64 a129_1), (h133).v, (h134).v] rfl c126 ?_; clear c126
        refine alloc_ gok rfl H ?_; clear H; intro b138 w137 hx H
        clear hx
        replace H : Cx w0 fp0 S0 w137 [Bx b138 [(.int .i64 0), (.int .i64 0), (.slice none 0 0), (.slice none 0 0)], Es (List Int) a129_3 h134, Es (List Int) a129_2 h133, Bx b5 [(.int .i64 g__0), (g__1h).v, (g__2h).v, (g__3h).v], Es (List (Int × Int × List Int × List Int)) g__1 g__1h, Es (List Int) g__2 g__2h, Es (List Int) g__3 g__3h] := H
        refine stA gok [(.int .i64 a129_0), (.int .i64 a129_1), (h133).v, (h134).v] rfl H rfl rfl rfl ?_; clear H; intro w140 H
        replace H : Cx w0 fp0 S0 w140 [Bx b138 [(.int .i64 a129_0), (.int .i64 a129_1), (h133).v, (h134).v], Es (List Int) a129_3 h134, Es (List Int) a129_2 h133, Bx b5 [(.int .i64 g__0), (g__1h).v, (g__2h).v, (g__3h).v], Es (List (Int × Int × List Int × List Int)) g__1 g__1h, Es (List Int) g__2 g__2h, Es (List Int) g__3 g__3h] := H
        refine loadN [(.int .i64 a129_0), (.int .i64 a129_1), (h133).v, (h134).v] rfl (fun j u hj => H.bx 0 rfl hj) ?_
        refine fld gok rfl rfl rfl rfl ?_
        refine load1 (H.bx 3 rfl (j := 0) rfl) ?_
        obtain ⟨y141, e, hF142⟩ := bindS hF130; clear hF130
        have ey141 := e; clear e
        refine callF (spec_hgEdge_c a129_0 a129_1 a129_2 h133 a129_3 h134 g__0 y141 ey141) (Γi := []) H ⟨Vw.sh 2 rfl, Vw.sh 1 rfl, trivial⟩ ?_; clear H ey141
        rintro _ _ w143 ⟨rfl, rfl⟩ (H : Cx w0 fp0 S0 w143 [Bx b138 [(.int .i64 a129_0), (.int .i64 a129_1), (h133).v, (h134).v], Es (List Int) a129_3 h134, Es (List Int) a129_2 h133, Bx b5 [(.int .i64 g__0), (g__1h).v, (g__2h).v, (g__3h).v], Es (List (Int × Int × List Int × List Int)) g__1 g__1h, Es (List Int) g__2 g__2h, Es (List Int) g__3 g__3h])
        obtain ⟨a144, e, hF145⟩ := bindS hF142; clear hF142
        refine boolO e ?_; clear e
        cases a144
        · have hF146 := condF hF145; clear hF145
          refine arK hk hmx116 ?_
          have hs := Option.some.inj hF146; subst hs; clear hF146
          exact ⟨(), (), rfl, ⟨rfl, rfl, rfl, rfl, trivial⟩, H.sel [3, 4, 5, 6] rfl⟩
        · have hF147 := condT hF145; clear hF145
          have hs := Option.some.inj hF147; subst hs; clear hF147
          have hr := hrt _ rfl; subst hr
          have hF148 : some _ = some _ := hF118
          cases hF148
          exact ⟨_, _, rfl, ⟨rfl, rfl⟩, (H.sel [] rfl).close trivial⟩
      · clear H e
        rintro T150 _ _ w149 hr (H : Cx w0 fp0 S0 w149 [Bx b5 [(.int .i64 g__0), (g__1h).v, (g__2h).v, (g__3h).v], Es (List (Int × Int × List Int × List Int)) g__1 g__1h, Es (List Int) g__2 g__2h, Es (List Int) g__3 g__3h])
        subst hr
        refine boolE (z := false) geLen ?_
        refine sq ?_
        refine loadN [(.int .i64 g__0), (g__1h).v, (g__2h).v, (g__3h).v] rfl (fun j u hj => H.bx 0 rfl hj) ?_
        obtain ⟨y153, e, hF154⟩ := bindS hF118; clear hF118
        obtain ⟨y153_0, y153_1⟩ := y153
        have ey153 := e; clear e
        refine callF (spec_hgCounts_c g__0 g__1 g__1h g__2 g__2h g__3 g__3h y153_0 y153_1 ey153) (Γi := []) H ⟨Vw.sh 1 rfl, Vw.sh 2 rfl, Vw.sh 3 rfl, trivial⟩ ?_; clear H ey153
        rintro _ _ w155 ⟨h156, h158, rfl, rfl⟩ (H : Cx w0 fp0 S0 w155 [E (List Int) y153_0 h156, E (List Int) y153_1 h158, Bx b5 [(.int .i64 g__0), (g__1h).v, (g__2h).v, (g__3h).v], Es (List (Int × Int × List Int × List Int)) g__1 g__1h, Es (List Int) g__2 g__2h, Es (List Int) g__3 g__3h])
        refine sq ?_
        refine lenE (H.ro (α := List Int) 0 rfl).len ?_
        have hmx188 := (H.ro (α := List Int) 0 rfl).max
        obtain ⟨r189, e, hF190⟩ := bindS hF154; clear hF154
        refine loopO _ y153_0.length (fun (k160 : Nat) (_ : Unit) (_ : Unit) => [(5, (h156).v), (6, (h158).v), (67, (.int .i64 ((y153_0.length : Nat) : Int))), (68, (.int .i64 ((k160 : Nat) : Int)))]) (fun _ (_ : Unit) (_ : Unit) w' => Cx w0 fp0 S0 w' [E (List Int) y153_0 h156, E (List Int) y153_1 h158]) () () e ⟨rfl, rfl, rfl, rfl, trivial⟩ (H.sel [0, 1] rfl) ?_ ?_
        · clear H e
          rintro T192 k160 _ _ w191 o193 hk (H : Cx w0 fp0 S0 w191 [E (List Int) y153_0 h156, E (List Int) y153_1 h158]) hrt hF194
          refine boolE (z := true) (ltLen hk) ?_
          refine sq ?_
          refine sq ?_
          refine heldX H [] (.fst 0 (.fst 1 (.fst 2 (.fst 4 (.fst 5 (.fst 6 (.fst 3 (.fst 7 (.fst 8 (.fst 9 .done)))))))))) mixed [] trivial (by kernel_rfl) ?_
          clear H; intro w195 H
          have hX : Ext w195 w195 := Upd.refl _ _
          have H0 := H
          obtain ⟨a202, e, hF203⟩ := bindS hF194; clear hF194
          obtain ⟨p200, m201, c196, c197, c198, c199⟩ := (H.ro (α := List Int) 0 rfl).at1 e; clear e
          refine idxE c196 c197 c198 ?_; clear c196 c197 c198
          obtain ⟨a210, e, hF211⟩ := bindS hF203; clear hF203
          obtain ⟨p208, m209, c204, c205, c206, c207⟩ := (H.ro (α := List Int) 1 rfl).at1 e; clear e
          refine idxE c204 c205 c206 ?_; clear c204 c205 c206
          refine load1X c199 ?_; clear c199
          refine load1X c207 ?_; clear c207
          obtain ⟨a212, e, hF213⟩ := bindS hF211; clear hF211
          refine arO e ?_; clear e
          obtain ⟨a214, e, hF215⟩ := bindS hF213; clear hF213
          refine boolO e ?_; clear e
          cases a214
          · have hF216 := condF hF215; clear hF215
            refine arK hk hmx188 ?_
            have hs := Option.some.inj hF216; subst hs; clear hF216
            exact ⟨(), (), rfl, ⟨rfl, rfl, rfl, rfl, trivial⟩, H.sel [0, 1] rfl⟩
          · have hF217 := condT hF215; clear hF215
            have hs := Option.some.inj hF217; subst hs; clear hF217
            have hr := hrt _ rfl; subst hr
            have hF218 : some _ = some _ := hF190
            cases hF218
            exact ⟨_, _, rfl, ⟨rfl, rfl⟩, (H.sel [] rfl).close trivial⟩
        · clear H e
          rintro T220 _ _ w219 hr (H : Cx w0 fp0 S0 w219 [E (List Int) y153_0 h156, E (List Int) y153_1 h158])
          subst hr
          refine boolE (z := false) geLen ?_
          refine sq ?_
          cases hF190
          exact ⟨_, _, rfl, ⟨rfl, rfl⟩, (H.sel [] rfl).close trivial⟩
    · have hF223 := condT hF45; clear hF45
      cases hF223
      exact ⟨_, _, rfl, ⟨rfl, rfl⟩, (H.sel [] rfl).close trivial⟩

theorem spec_hgMono_c (g__0 : Int) (g__1 : List (Int × Int × List Int × List Int)) (g__1h : Hd) (g__2 : List Int) (g__2h : Hd) (g__3 : List Int) (g__3h : Hd) (y : Bool) (hF : F_spec_hgMono (g__0, g__1, g__2, g__3) = some y) :
    ConF Try.prog 87 #[(.agg #[(.int .i64 g__0), (g__1h).v, (g__2h).v, (g__3h).v])] [Es (List (Int × Int × List Int × List Int)) g__1 g__1h, Es (List Int) g__2 g__2h, Es (List Int) g__3 g__3h] [] (fun v Γ' => v = (.bool y) ∧ Γ' = []) := by
  intro w0 S0 fp0 hI hS
  have H : Cx w0 fp0 S0 w0 [Es (List (Int × Int × List Int × List Int)) g__1 g__1h, Es (List Int) g__2 g__2h, Es (List Int) g__3 g__3h] := Cx.start hI hS
  clear hI hS
  refine enterC (args := [_]) gok Try.func87 rfl _ rfl rfl rfl ?_
  refine box_ H ?_; clear H; intro b5 w4 hx H
  clear hx
  replace H : Cx w0 fp0 S0 w4 [Bx b5 [(.int .i64 g__0), (g__1h).v, (g__2h).v, (g__3h).v], Es (List (Int × Int × List Int × List Int)) g__1 g__1h, Es (List Int) g__2 g__2h, Es (List Int) g__3 g__3h] := H
  refine loadN [(.int .i64 g__0), (g__1h).v, (g__2h).v, (g__3h).v] rfl (fun j u hj => H.bx 0 rfl hj) ?_
  obtain ⟨y7, e, hF8⟩ := bindS hF; clear hF
  obtain ⟨y7_0, y7_1⟩ := y7
  have ey7 := e; clear e
  refine callF (spec_hgCounts_c g__0 g__1 g__1h g__2 g__2h g__3 g__3h y7_0 y7_1 ey7) (Γi := []) H ⟨Vw.sh 1 rfl, Vw.sh 2 rfl, Vw.sh 3 rfl, trivial⟩ ?_; clear H ey7
  rintro _ _ w9 ⟨h10, h12, rfl, rfl⟩ (H : Cx w0 fp0 S0 w9 [E (List Int) y7_0 h10, E (List Int) y7_1 h12, Bx b5 [(.int .i64 g__0), (g__1h).v, (g__2h).v, (g__3h).v], Es (List (Int × Int × List Int × List Int)) g__1 g__1h, Es (List Int) g__2 g__2h, Es (List Int) g__3 g__3h])
  obtain ⟨r24, hF26, hF25⟩ := bindS hF8; clear hF8
  refine cut (fun (q27 : Bool) => [(2, (.bool q27))]) (fun (q27 : Bool) w' => q27 = r24 ∧ Cx w0 fp0 S0 w' []) ?_ ?_
  · skip
    obtain ⟨y28, e, hF29⟩ := bindS hF26; clear hF26
    have ey28 := e; clear e
    refine callF (spec_l1All_c y7_0 h10 1 1 y28 ey28) (Γi := []) H ⟨Vw.own 0 rfl, trivial⟩ ?_; clear H ey28
    rintro _ _ w30 ⟨rfl, rfl⟩ (H : Cx w0 fp0 S0 w30 [E (List Int) y7_0 h10, E (List Int) y7_1 h12, Bx b5 [(.int .i64 g__0), (g__1h).v, (g__2h).v, (g__3h).v], Es (List (Int × Int × List Int × List Int)) g__1 g__1h, Es (List Int) g__2 g__2h, Es (List Int) g__3 g__3h])
    cases y28
    · have hF31 := condF hF29; clear hF29
      exact ⟨false, ⟨rfl, trivial⟩, Option.some.inj hF31, H.sel [] rfl⟩
    · have hF32 := condT hF29; clear hF29
      obtain ⟨y33, e, hF34⟩ := bindS hF32; clear hF32
      have ey33 := e; clear e
      refine callF (spec_l1All_c y7_1 h12 1 1 y33 ey33) (Γi := []) H ⟨Vw.own 1 rfl, trivial⟩ ?_; clear H ey33
      rintro _ _ w35 ⟨rfl, rfl⟩ (H : Cx w0 fp0 S0 w35 [E (List Int) y7_0 h10, E (List Int) y7_1 h12, Bx b5 [(.int .i64 g__0), (g__1h).v, (g__2h).v, (g__3h).v], Es (List (Int × Int × List Int × List Int)) g__1 g__1h, Es (List Int) g__2 g__2h, Es (List Int) g__3 g__3h])
      exact ⟨y33, ⟨rfl, trivial⟩, Option.some.inj hF34, H.sel [] rfl⟩
  · clear hF26 H
    rintro T37 s22 w36 ⟨hr, (H : Cx w0 fp0 S0 w36 [])⟩
    subst hr
    cases hF25
    exact ⟨_, _, rfl, ⟨rfl, rfl⟩, (H.sel [] rfl).close trivial⟩

theorem spec_IsMonogamous_c (g__0 : Int) (g__1 : List (Int × Int × List Int × List Int)) (g__1h : Hd) (g__2 : List Int) (g__2h : Hd) (g__3 : List Int) (g__3h : Hd) (y : Bool) (hF : F_spec_IsMonogamous (g__0, g__1, g__2, g__3) = some y) :
    ConF Try.prog 49 #[(.agg #[(.int .i64 g__0), (g__1h).v, (g__2h).v, (g__3h).v])] [Es (List (Int × Int × List Int × List Int)) g__1 g__1h, Es (List Int) g__2 g__2h, Es (List Int) g__3 g__3h] [] (fun v Γ' => v = (.bool y) ∧ Γ' = []) := by
  intro w0 S0 fp0 hI hS
  have H : Cx w0 fp0 S0 w0 [Es (List (Int × Int × List Int × List Int)) g__1 g__1h, Es (List Int) g__2 g__2h, Es (List Int) g__3 g__3h] := Cx.start hI hS
  clear hI hS
  refine enterC (args := [_]) gok Try.func49 rfl _ rfl rfl rfl ?_
  refine box_ H ?_; clear H; intro b5 w4 hx H
  clear hx
  replace H : Cx w0 fp0 S0 w4 [Bx b5 [(.int .i64 g__0), (g__1h).v, (g__2h).v, (g__3h).v], Es (List (Int × Int × List Int × List Int)) g__1 g__1h, Es (List Int) g__2 g__2h, Es (List Int) g__3 g__3h] := H
  obtain ⟨r17, hF19, hF18⟩ := bindS hF; clear hF
  refine cut (fun (q20 : Bool) => [(2, (.bool q20))]) (fun (q20 : Bool) w' => q20 = r17 ∧ Cx w0 fp0 S0 w' []) ?_ ?_
  · skip
    refine loadN [(.int .i64 g__0), (g__1h).v, (g__2h).v, (g__3h).v] rfl (fun j u hj => H.bx 0 rfl hj) ?_
    obtain ⟨y21, e, hF22⟩ := bindS hF19; clear hF19
    have ey21 := e; clear e
    refine callF (spec_hgValid_c g__0 g__1 g__1h g__2 g__2h g__3 g__3h y21 ey21) (Γi := []) H ⟨Vw.sh 1 rfl, Vw.sh 2 rfl, Vw.sh 3 rfl, trivial⟩ ?_; clear H ey21
    rintro _ _ w23 ⟨rfl, rfl⟩ (H : Cx w0 fp0 S0 w23 [Bx b5 [(.int .i64 g__0), (g__1h).v, (g__2h).v, (g__3h).v], Es (List (Int × Int × List Int × List Int)) g__1 g__1h, Es (List Int) g__2 g__2h, Es (List Int) g__3 g__3h])
    cases y21
    · have hF24 := condF hF22; clear hF22
      exact ⟨false, ⟨rfl, trivial⟩, Option.some.inj hF24, H.sel [] rfl⟩
    · have hF25 := condT hF22; clear hF22
      refine loadN [(.int .i64 g__0), (g__1h).v, (g__2h).v, (g__3h).v] rfl (fun j u hj => H.bx 0 rfl hj) ?_
      obtain ⟨y26, e, hF27⟩ := bindS hF25; clear hF25
      have ey26 := e; clear e
      refine callF (spec_hgMono_c g__0 g__1 g__1h g__2 g__2h g__3 g__3h y26 ey26) (Γi := []) H ⟨Vw.sh 1 rfl, Vw.sh 2 rfl, Vw.sh 3 rfl, trivial⟩ ?_; clear H ey26
      rintro _ _ w28 ⟨rfl, rfl⟩ (H : Cx w0 fp0 S0 w28 [Bx b5 [(.int .i64 g__0), (g__1h).v, (g__2h).v, (g__3h).v], Es (List (Int × Int × List Int × List Int)) g__1 g__1h, Es (List Int) g__2 g__2h, Es (List Int) g__3 g__3h])
      exact ⟨y26, ⟨rfl, trivial⟩, Option.some.inj hF27, H.sel [] rfl⟩
  · clear hF19 H
    rintro T30 s15 w29 ⟨hr, (H : Cx w0 fp0 S0 w29 [])⟩
    subst hr
    cases hF18
    exact ⟨_, _, rfl, ⟨rfl, rfl⟩, (H.sel [] rfl).close trivial⟩

theorem spec_mtTwo_c (g__0 : Int) (g__1 : List (Int × Int × List Int × List Int)) (g__1h : Hd) (g__2 : List Int) (g__2h : Hd) (g__3 : List Int) (g__3h : Hd) (left__0 : Int) (left__1 : List (Int × Int × List Int × List Int)) (left__1h : Hd) (left__2 : List Int) (left__2h : Hd) (left__3 : List Int) (left__3h : Hd) (y : Bool) (hF : F_spec_mtTwo (g__0, g__1, g__2, g__3) (left__0, left__1, left__2, left__3) = some y) :
    ConF Try.prog 62 #[(.agg #[(.int .i64 g__0), (g__1h).v, (g__2h).v, (g__3h).v]), (.agg #[(.int .i64 left__0), (left__1h).v, (left__2h).v, (left__3h).v])] [Es (List (Int × Int × List Int × List Int)) g__1 g__1h, Es (List Int) g__2 g__2h, Es (List Int) g__3 g__3h, Es (List (Int × Int × List Int × List Int)) left__1 left__1h, Es (List Int) left__2 left__2h, Es (List Int) left__3 left__3h] [] (fun v Γ' => v = (.bool y) ∧ Γ' = []) := by
  intro w0 S0 fp0 hI hS
  have H : Cx w0 fp0 S0 w0 [Es (List (Int × Int × List Int × List Int)) g__1 g__1h, Es (List Int) g__2 g__2h, Es (List Int) g__3 g__3h, Es (List (Int × Int × List Int × List Int)) left__1 left__1h, Es (List Int) left__2 left__2h, Es (List Int) left__3 left__3h] := Cx.start hI hS
  clear hI hS
  refine enterC (args := [_, _]) gok Try.func62 rfl _ rfl rfl rfl ?_
  refine box_ H ?_; clear H; intro b8 w7 hx H
  clear hx
  replace H : Cx w0 fp0 S0 w7 [Bx b8 [(.int .i64 g__0), (g__1h).v, (g__2h).v, (g__3h).v], Es (List (Int × Int × List Int × List Int)) g__1 g__1h, Es (List Int) g__2 g__2h, Es (List Int) g__3 g__3h, Es (List (Int × Int × List Int × List Int)) left__1 left__1h, Es (List Int) left__2 left__2h, Es (List Int) left__3 left__3h] := H
  refine box_ H ?_; clear H; intro b11 w10 hx H
  clear hx
  replace H : Cx w0 fp0 S0 w10 [Bx b11 [(.int .i64 left__0), (left__1h).v, (left__2h).v, (left__3h).v], Bx b8 [(.int .i64 g__0), (g__1h).v, (g__2h).v, (g__3h).v], Es (List (Int × Int × List Int × List Int)) g__1 g__1h, Es (List Int) g__2 g__2h, Es (List Int) g__3 g__3h, Es (List (Int × Int × List Int × List Int)) left__1 left__1h, Es (List Int) left__2 left__2h, Es (List Int) left__3 left__3h] := H
  obtain ⟨r23, hF25, hF24⟩ := bindS hF; clear hF
  refine cut (fun (q26 : Bool) => [(4, (.bool q26))]) (fun (q26 : Bool) w' => q26 = r23 ∧ Cx w0 fp0 S0 w' []) ?_ ?_
  · skip
    refine loadN [(.int .i64 g__0), (g__1h).v, (g__2h).v, (g__3h).v] rfl (fun j u hj => H.bx 1 rfl hj) ?_
    obtain ⟨y27, e, hF28⟩ := bindS hF25; clear hF25
    have ey27 := e; clear e
    refine callF (spec_IsMonogamous_c g__0 g__1 g__1h g__2 g__2h g__3 g__3h y27 ey27) (Γi := []) H ⟨Vw.sh 2 rfl, Vw.sh 3 rfl, Vw.sh 4 rfl, trivial⟩ ?_; clear H ey27
    rintro _ _ w29 ⟨rfl, rfl⟩ (H : Cx w0 fp0 S0 w29 [Bx b11 [(.int .i64 left__0), (left__1h).v, (left__2h).v, (left__3h).v], Bx b8 [(.int .i64 g__0), (g__1h).v, (g__2h).v, (g__3h).v], Es (List (Int × Int × List Int × List Int)) g__1 g__1h, Es (List Int) g__2 g__2h, Es (List Int) g__3 g__3h, Es (List (Int × Int × List Int × List Int)) left__1 left__1h, Es (List Int) left__2 left__2h, Es (List Int) left__3 left__3h])
    cases y27
    · have hF30 := condF hF28; clear hF28
      exact ⟨false, ⟨rfl, trivial⟩, Option.some.inj hF30, H.sel [] rfl⟩
    · have hF31 := condT hF28; clear hF28
      refine loadN [(.int .i64 left__0), (left__1h).v, (left__2h).v, (left__3h).v] rfl (fun j u hj => H.bx 0 rfl hj) ?_
      obtain ⟨y32, e, hF33⟩ := bindS hF31; clear hF31
      have ey32 := e; clear e
      refine callF (spec_IsMonogamous_c left__0 left__1 left__1h left__2 left__2h left__3 left__3h y32 ey32) (Γi := []) H ⟨Vw.sh 5 rfl, Vw.sh 6 rfl, Vw.sh 7 rfl, trivial⟩ ?_; clear H ey32
      rintro _ _ w34 ⟨rfl, rfl⟩ (H : Cx w0 fp0 S0 w34 [Bx b11 [(.int .i64 left__0), (left__1h).v, (left__2h).v, (left__3h).v], Bx b8 [(.int .i64 g__0), (g__1h).v, (g__2h).v, (g__3h).v], Es (List (Int × Int × List Int × List Int)) g__1 g__1h, Es (List Int) g__2 g__2h, Es (List Int) g__3 g__3h, Es (List (Int × Int × List Int × List Int)) left__1 left__1h, Es (List Int) left__2 left__2h, Es (List Int) left__3 left__3h])
      exact ⟨y32, ⟨rfl, trivial⟩, Option.some.inj hF33, H.sel [] rfl⟩
  · clear hF25 H
    rintro T36 s21 w35 ⟨hr, (H : Cx w0 fp0 S0 w35 [])⟩
    subst hr
    cases hF24
    exact ⟨_, _, rfl, ⟨rfl, rfl⟩, (H.sel [] rfl).close trivial⟩

theorem spec_l1Has_c (l_ : List Int) (l_h : Hd) (n_ : Int) (y : Bool) (hF : F_spec_l1Has l_ n_ = some y) :
    ConF Try.prog 90 #[(l_h).v, (.int .i64 n_)] [Es (List Int) l_ l_h] [] (fun v Γ' => v = (.bool y) ∧ Γ' = []) := by
  intro w0 S0 fp0 hI hS
  have H : Cx w0 fp0 S0 w0 [Es (List Int) l_ l_h] := Cx.start hI hS
  clear hI hS
  refine enterC (args := [_, _]) gok Try.func90 rfl _ rfl rfl rfl ?_
  refine sq ?_
  refine lenE (H.rs (α := List Int) 0 rfl).len ?_
  have hmx19 := (H.rs (α := List Int) 0 rfl).max
  obtain ⟨r20, e, hF21⟩ := bindS hF; clear hF
  refine loopO _ l_.length (fun (k2 : Nat) (_ : Unit) (_ : Unit) => [(1, (.int .i64 n_)), (7, (l_h).v), (8, (.int .i64 ((l_.length : Nat) : Int))), (9, (.int .i64 ((k2 : Nat) : Int)))]) (fun _ (_ : Unit) (_ : Unit) w' => Cx w0 fp0 S0 w' [Es (List Int) l_ l_h]) () () e ⟨rfl, rfl, rfl, rfl, trivial⟩ (H.sel [0] rfl) ?_ ?_
  · clear H e
    rintro T23 k2 _ _ w22 o24 hk (H : Cx w0 fp0 S0 w22 [Es (List Int) l_ l_h]) hrt hF25
    refine boolE (z := true) (ltLen hk) ?_
    refine sq ?_
    refine sq ?_
    obtain ⟨a32, e, hF33⟩ := bindS hF25; clear hF25
    obtain ⟨p30, m31, c26, c27, c28, c29⟩ := (H.rs (α := List Int) 0 rfl).at1 e; clear e
    refine idxE c26 c27 c28 ?_; clear c26 c27 c28
    refine load1 c29 ?_; clear c29
    obtain ⟨a34, e, hF35⟩ := bindS hF33; clear hF33
    refine boolO e ?_; clear e
    cases a34
    · have hF36 := condF hF35; clear hF35
      refine arK hk hmx19 ?_
      have hs := Option.some.inj hF36; subst hs; clear hF36
      exact ⟨(), (), rfl, ⟨rfl, rfl, rfl, rfl, trivial⟩, H.sel [0] rfl⟩
    · have hF37 := condT hF35; clear hF35
      have hs := Option.some.inj hF37; subst hs; clear hF37
      have hr := hrt _ rfl; subst hr
      have hF38 : some _ = some _ := hF21
      cases hF38
      exact ⟨_, _, rfl, ⟨rfl, rfl⟩, (H.sel [] rfl).close trivial⟩
  · clear H e
    rintro T40 _ _ w39 hr (H : Cx w0 fp0 S0 w39 [Es (List Int) l_ l_h])
    subst hr
    refine boolE (z := false) geLen ?_
    refine sq ?_
    cases hF21
    exact ⟨_, _, rfl, ⟨rfl, rfl⟩, (H.sel [] rfl).close trivial⟩

theorem spec_mtDifferent_c (l_ : List Int) (l_h : Hd) (n_ : Int) (y : Bool) (hF : F_spec_mtDifferent l_ n_ = some y) :
    ConF Try.prog 100 #[(l_h).v, (.int .i64 n_)] [Es (List Int) l_ l_h] [] (fun v Γ' => v = (.bool y) ∧ Γ' = []) := by
  intro w0 S0 fp0 hI hS
  have H : Cx w0 fp0 S0 w0 [Es (List Int) l_ l_h] := Cx.start hI hS
  clear hI hS
  refine enterC (args := [_, _]) gok Try.func100 rfl _ rfl rfl rfl ?_
  refine sq ?_
  refine lenE (H.rs (α := List Int) 0 rfl).len ?_
  have hmx57 := (H.rs (α := List Int) 0 rfl).max
  obtain ⟨r58, e, hF59⟩ := bindS hF; clear hF
  refine loopO _ l_.length (fun (k2 : Nat) (_ : Unit) (_ : Unit) => [(0, (l_h).v), (1, (.int .i64 n_)), (7, (l_h).v), (8, (.int .i64 ((l_.length : Nat) : Int))), (9, (.int .i64 ((k2 : Nat) : Int)))]) (fun _ (_ : Unit) (_ : Unit) w' => Cx w0 fp0 S0 w' [Es (List Int) l_ l_h]) () () e ⟨rfl, rfl, rfl, rfl, rfl, trivial⟩ (H.sel [0] rfl) ?_ ?_
  · clear H e
    rintro T61 k2 _ _ w60 o62 hk (H : Cx w0 fp0 S0 w60 [Es (List Int) l_ l_h]) hrt hF63
    refine boolE (z := true) (ltLen hk) ?_
    refine sq ?_
    refine sq ?_
    obtain ⟨a70, e, hF71⟩ := bindS hF63; clear hF63
    obtain ⟨p68, m69, c64, c65, c66, c67⟩ := (H.rs (α := List Int) 0 rfl).at1 e; clear e
    refine idxE c64 c65 c66 ?_; clear c64 c65 c66
    refine load1 c67 ?_; clear c67
    obtain ⟨r90, hF92, hF91⟩ := bindS hF71; clear hF71
    refine cut (fun (q93 : Bool) => [(0, (l_h).v), (1, (.int .i64 n_)), (7, (l_h).v), (8, (.int .i64 ((l_.length : Nat) : Int))), (9, (.int .i64 ((k2 : Nat) : Int))), (25, (.bool q93))]) (fun (q93 : Bool) w' => q93 = r90 ∧ Cx w0 fp0 S0 w' [Es (List Int) l_ l_h]) ?_ ?_
    · skip
      obtain ⟨a94, e, hF95⟩ := bindS hF92; clear hF92
      refine arO e ?_; clear e
      obtain ⟨y96, e, hF97⟩ := bindS hF95; clear hF95
      have ey96 := e; clear e
      refine callF (spec_l1In_c a70 0 a94 y96 ey96) (Γi := []) H trivial ?_; clear H ey96
      rintro _ _ w98 ⟨rfl, rfl⟩ (H : Cx w0 fp0 S0 w98 [Es (List Int) l_ l_h])
      obtain ⟨a99, e, hF100⟩ := bindS hF97; clear hF97
      refine boolO e ?_; clear e
      cases a99
      · have hF101 := condF hF100; clear hF100
        obtain ⟨a102, e, hF103⟩ := bindS hF101; clear hF101
        refine slS (α := Int) gok rfl rfl H 0 rfl e rfl rfl ?_; clear e H; intro h104 H
        obtain ⟨y106, e, hF107⟩ := bindS hF103; clear hF103
        have ey106 := e; clear e
        refine callF (spec_l1Has_c a102 h104 a70 y106 ey106) (Γi := []) H ⟨Vw.sh 0 rfl, trivial⟩ ?_; clear H ey106
        rintro _ _ w108 ⟨rfl, rfl⟩ (H : Cx w0 fp0 S0 w108 [Es (List Int) a102 h104, Es (List Int) l_ l_h])
        exact ⟨y106, ⟨rfl, rfl, rfl, rfl, rfl, rfl, trivial⟩, Option.some.inj hF107, H.sel [1] rfl⟩
      · have hF109 := condT hF100; clear hF100
        exact ⟨true, ⟨rfl, rfl, rfl, rfl, rfl, rfl, trivial⟩, Option.some.inj hF109, H.sel [0] rfl⟩
    · clear hF92 H
      rintro T111 s88 w110 ⟨hr, (H : Cx w0 fp0 S0 w110 [Es (List Int) l_ l_h])⟩
      subst hr
      cases s88
      · have hF112 := condF hF91; clear hF91
        refine arK hk hmx57 ?_
        have hs := Option.some.inj hF112; subst hs; clear hF112
        exact ⟨(), (), rfl, ⟨rfl, rfl, rfl, rfl, rfl, trivial⟩, H.sel [0] rfl⟩
      · have hF113 := condT hF91; clear hF91
        have hs := Option.some.inj hF113; subst hs; clear hF113
        have hr := hrt _ rfl; subst hr
        have hF114 : some _ = some _ := hF59
        cases hF114
        exact ⟨_, _, rfl, ⟨rfl, rfl⟩, (H.sel [] rfl).close trivial⟩
  · clear H e
    rintro T116 _ _ w115 hr (H : Cx w0 fp0 S0 w115 [Es (List Int) l_ l_h])
    subst hr
    refine boolE (z := false) geLen ?_
    refine sq ?_
    cases hF59
    exact ⟨_, _, rfl, ⟨rfl, rfl⟩, (H.sel [] rfl).close trivial⟩

theorem spec_hgList_c (l_ : List Int) (l_h : Hd) (to_ : List Int) (to_h : Hd) (y : List Int) (hF : F_spec_hgList l_ to_ = some y) :
    ConF Try.prog 102 #[(l_h).v, (to_h).v] [Es (List Int) l_ l_h, Es (List Int) to_ to_h] [] (fun v Γ' => ∃ z0 : Hd, v = (z0).v ∧ Γ' = [E (List Int) y z0]) := by
  intro w0 S0 fp0 hI hS
  have H : Cx w0 fp0 S0 w0 [Es (List Int) l_ l_h, Es (List Int) to_ to_h] := Cx.start hI hS
  clear hI hS
  refine enterC (args := [_, _]) gok Try.func102 rfl _ rfl rfl rfl ?_
  refine sq ?_
  refine lenE (H.rs (α := List Int) 0 rfl).len ?_
  have hmx61 := (H.rs (α := List Int) 0 rfl).max
  obtain ⟨r62, e, hF63⟩ := bindS hF; clear hF
  replace H := H.nil (α := Int)
  refine loopS _ l_.length (fun (k3 : Nat) (s58 : List Int) (g59 : Hd) => [(1, (to_h).v), (5, (g59).v), (8, (l_h).v), (9, (.int .i64 ((l_.length : Nat) : Int))), (10, (.int .i64 ((k3 : Nat) : Int)))]) (fun _ (s58 : List Int) (g59 : Hd) w' => Cx w0 fp0 S0 w' [Es (List Int) to_ to_h, E (List Int) s58 g59, Es (List Int) l_ l_h]) [] nilH e ⟨rfl, rfl, rfl, rfl, rfl, trivial⟩ (H.sel [2, 0, 1] rfl) ?_ ?_
  · clear H e
    rintro T66 k3 s58 g59 w65 o67 hk (H : Cx w0 fp0 S0 w65 [Es (List Int) to_ to_h, E (List Int) s58 g59, Es (List Int) l_ l_h]) hF68
    refine boolE (z := true) (ltLen hk) ?_
    refine sq ?_
    refine sq ?_
    obtain ⟨a75, e, hF76⟩ := bindS hF68; clear hF68
    obtain ⟨p73, m74, c69, c70, c71, c72⟩ := (H.rs (α := List Int) 2 rfl).at1 e; clear e
    refine idxE c69 c70 c71 ?_; clear c69 c70 c71
    refine load1 c72 ?_; clear c72
    obtain ⟨a83, e, hF84⟩ := bindS hF76; clear hF76
    obtain ⟨p81, m82, c77, c78, c79, c80⟩ := (H.rs (α := List Int) 0 rfl).at1 e; clear e
    refine idxE c77 c78 c79 ?_; clear c77 c78 c79
    refine load1 c80 ?_; clear c80
    refine lit1S (α := Int) gok rfl rfl rfl rfl H ?_; clear H; intro h86 w85 hx H
    clear hx
    obtain ⟨a88, e, hF89⟩ := bindS hF84; clear hF84
    replace H := H.sel [2, 0, 1, 3] rfl
    refine append_ (α := Int) gok rfl rfl rfl rfl H e ?_; clear e H; intro h91 w90 H
    refine arK hk hmx61 ?_
    have hs := Option.some.inj hF89; subst hs; clear hF89
    exact ⟨h91, ⟨rfl, rfl, rfl, rfl, rfl, trivial⟩, H.sel [1, 0, 2] rfl⟩
  · clear H e
    rintro T94 g96 w93 (H : Cx w0 fp0 S0 w93 [Es (List Int) to_ to_h, E (List Int) r62 g96, Es (List Int) l_ l_h])
    refine boolE (z := false) geLen ?_
    refine sq ?_
    cases hF63
    exact ⟨_, _, rfl, ⟨g96, rfl, rfl⟩, (H.sel [1] rfl).close ⟨cloE, trivial⟩⟩

theorem spec_l1Same_c (a_ : List Int) (a_h : Hd) (b_ : List Int) (b_h : Hd) (y : Bool) (hF : F_spec_l1Same a_ b_ = some y) :
    ConF Try.prog 101 #[(a_h).v, (b_h).v] [Es (List Int) a_ a_h, Es (List Int) b_ b_h] [] (fun v Γ' => v = (.bool y) ∧ Γ' = []) := by
  intro w0 S0 fp0 hI hS
  have H : Cx w0 fp0 S0 w0 [Es (List Int) a_ a_h, Es (List Int) b_ b_h] := Cx.start hI hS
  clear hI hS
  refine enterC (args := [_, _]) gok Try.func101 rfl _ rfl rfl rfl ?_
  refine sq ?_
  refine lenE (H.rs (α := List Int) 0 rfl).len ?_
  refine lenE (H.rs (α := List Int) 1 rfl).len ?_
  obtain ⟨a3, e, hF4⟩ := bindS hF; clear hF
  refine boolO e ?_; clear e
  cases a3
  · have hF5 := condF hF4; clear hF4
    refine sq ?_
    refine lenE (H.rs (α := List Int) 0 rfl).len ?_
    have hmx32 := (H.rs (α := List Int) 0 rfl).max
    obtain ⟨r33, e, hF34⟩ := bindS hF5; clear hF5
    refine loopO _ a_.length (fun (k6 : Nat) (_ : Unit) (_ : Unit) => [(0, (a_h).v), (1, (b_h).v), (12, (.int .i64 ((a_.length : Nat) : Int))), (13, (.int .i64 ((k6 : Nat) : Int)))]) (fun _ (_ : Unit) (_ : Unit) w' => Cx w0 fp0 S0 w' [Es (List Int) a_ a_h, Es (List Int) b_ b_h]) () () e ⟨rfl, rfl, rfl, rfl, trivial⟩ (H.sel [0, 1] rfl) ?_ ?_
    · clear H e
      rintro T36 k6 _ _ w35 o37 hk (H : Cx w0 fp0 S0 w35 [Es (List Int) a_ a_h, Es (List Int) b_ b_h]) hrt hF38
      refine boolE (z := true) (ltLen hk) ?_
      refine sq ?_
      refine sq ?_
      refine heldX H [] (.fst 0 (.fst 1 (.fst 2 (.fst 4 (.fst 5 (.fst 6 (.fst 3 (.fst 7 (.fst 8 .done))))))))) mixed [] trivial (by kernel_rfl) ?_
      clear H; intro w39 H
      have hX : Ext w39 w39 := Upd.refl _ _
      have H0 := H
      obtain ⟨a46, e, hF47⟩ := bindS hF38; clear hF38
      obtain ⟨p44, m45, c40, c41, c42, c43⟩ := (H.rs (α := List Int) 0 rfl).at1 e; clear e
      refine idxE c40 c41 c42 ?_; clear c40 c41 c42
      obtain ⟨a54, e, hF55⟩ := bindS hF47; clear hF47
      obtain ⟨p52, m53, c48, c49, c50, c51⟩ := (H.rs (α := List Int) 1 rfl).at1 e; clear e
      refine idxE c48 c49 c50 ?_; clear c48 c49 c50
      refine load1X c43 ?_; clear c43
      refine load1X c51 ?_; clear c51
      obtain ⟨a56, e, hF57⟩ := bindS hF55; clear hF55
      refine boolO e ?_; clear e
      cases a56
      · have hF58 := condF hF57; clear hF57
        refine arK hk hmx32 ?_
        have hs := Option.some.inj hF58; subst hs; clear hF58
        exact ⟨(), (), rfl, ⟨rfl, rfl, rfl, rfl, trivial⟩, H.sel [0, 1] rfl⟩
      · have hF59 := condT hF57; clear hF57
        have hs := Option.some.inj hF59; subst hs; clear hF59
        have hr := hrt _ rfl; subst hr
        have hF60 : some _ = some _ := hF34
        cases hF60
        exact ⟨_, _, rfl, ⟨rfl, rfl⟩, (H.sel [] rfl).close trivial⟩
    · clear H e
      rintro T62 _ _ w61 hr (H : Cx w0 fp0 S0 w61 [Es (List Int) a_ a_h, Es (List Int) b_ b_h])
      subst hr
      refine boolE (z := false) geLen ?_
      refine sq ?_
      cases hF34
      exact ⟨_, _, rfl, ⟨rfl, rfl⟩, (H.sel [] rfl).close trivial⟩
  · have hF65 := condT hF4; clear hF4
    cases hF65
    exact ⟨_, _, rfl, ⟨rfl, rfl⟩, (H.sel [] rfl).close trivial⟩

theorem spec_mtIs_c (g__0 : Int) (g__1 : List (Int × Int × List Int × List Int)) (g__1h : Hd) (g__2 : List Int) (g__2h : Hd) (g__3 : List Int) (g__3h : Hd) (left__0 : Int) (left__1 : List (Int × Int × List Int × List Int)) (left__1h : Hd) (left__2 : List Int) (left__2h : Hd) (left__3 : List Int) (left__3h : Hd) (m__0 : List Int) (m__0h : Hd) (m__1 : List Int) (m__1h : Hd) (y : Bool) (hF : F_spec_mtIs (g__0, g__1, g__2, g__3) (left__0, left__1, left__2, left__3) (m__0, m__1) = some y) :
    ConF Try.prog 63 #[(.agg #[(.int .i64 g__0), (g__1h).v, (g__2h).v, (g__3h).v]), (.agg #[(.int .i64 left__0), (left__1h).v, (left__2h).v, (left__3h).v]), (.agg #[(m__0h).v, (m__1h).v])] [Es (List (Int × Int × List Int × List Int)) g__1 g__1h, Es (List Int) g__2 g__2h, Es (List Int) g__3 g__3h, Es (List (Int × Int × List Int × List Int)) left__1 left__1h, Es (List Int) left__2 left__2h, Es (List Int) left__3 left__3h, Es (List Int) m__0 m__0h, Es (List Int) m__1 m__1h] [] (fun v Γ' => v = (.bool y) ∧ Γ' = []) := by
  intro w0 S0 fp0 hI hS
  have H : Cx w0 fp0 S0 w0 [Es (List (Int × Int × List Int × List Int)) g__1 g__1h, Es (List Int) g__2 g__2h, Es (List Int) g__3 g__3h, Es (List (Int × Int × List Int × List Int)) left__1 left__1h, Es (List Int) left__2 left__2h, Es (List Int) left__3 left__3h, Es (List Int) m__0 m__0h, Es (List Int) m__1 m__1h] := Cx.start hI hS
  clear hI hS
  refine enterC (args := [_, _, _]) gok Try.func63 rfl _ rfl rfl rfl ?_
  refine box_ H ?_; clear H; intro b10 w9 hx H
  clear hx
  replace H : Cx w0 fp0 S0 w9 [Bx b10 [(.int .i64 g__0), (g__1h).v, (g__2h).v, (g__3h).v], Es (List (Int × Int × List Int × List Int)) g__1 g__1h, Es (List Int) g__2 g__2h, Es (List Int) g__3 g__3h, Es (List (Int × Int × List Int × List Int)) left__1 left__1h, Es (List Int) left__2 left__2h, Es (List Int) left__3 left__3h, Es (List Int) m__0 m__0h, Es (List Int) m__1 m__1h] := H
  refine box_ H ?_; clear H; intro b13 w12 hx H
  clear hx
  replace H : Cx w0 fp0 S0 w12 [Bx b13 [(.int .i64 left__0), (left__1h).v, (left__2h).v, (left__3h).v], Bx b10 [(.int .i64 g__0), (g__1h).v, (g__2h).v, (g__3h).v], Es (List (Int × Int × List Int × List Int)) g__1 g__1h, Es (List Int) g__2 g__2h, Es (List Int) g__3 g__3h, Es (List (Int × Int × List Int × List Int)) left__1 left__1h, Es (List Int) left__2 left__2h, Es (List Int) left__3 left__3h, Es (List Int) m__0 m__0h, Es (List Int) m__1 m__1h] := H
  refine box_ H ?_; clear H; intro b16 w15 hx H
  clear hx
  replace H : Cx w0 fp0 S0 w15 [Bx b16 [(m__0h).v, (m__1h).v], Bx b13 [(.int .i64 left__0), (left__1h).v, (left__2h).v, (left__3h).v], Bx b10 [(.int .i64 g__0), (g__1h).v, (g__2h).v, (g__3h).v], Es (List (Int × Int × List Int × List Int)) g__1 g__1h, Es (List Int) g__2 g__2h, Es (List Int) g__3 g__3h, Es (List (Int × Int × List Int × List Int)) left__1 left__1h, Es (List Int) left__2 left__2h, Es (List Int) left__3 left__3h, Es (List Int) m__0 m__0h, Es (List Int) m__1 m__1h] := H
  refine sq ?_
  obtain ⟨r40, hF42, hF41⟩ := bindS hF; clear hF
  refine cut (fun (q43 : Bool) => [(3, (.pointer (some ⟨b10, 0, none⟩))), (4, (.pointer (some ⟨b13, 0, none⟩))), (5, (.pointer (some ⟨b16, 0, none⟩))), (41, (.bool q43))]) (fun (q43 : Bool) w' => q43 = r40 ∧ Cx w0 fp0 S0 w' [Bx b10 [(.int .i64 g__0), (g__1h).v, (g__2h).v, (g__3h).v], Es (List (Int × Int × List Int × List Int)) g__1 g__1h, Es (List Int) g__2 g__2h, Es (List Int) g__3 g__3h, Bx b13 [(.int .i64 left__0), (left__1h).v, (left__2h).v, (left__3h).v], Es (List (Int × Int × List Int × List Int)) left__1 left__1h, Es (List Int) left__2 left__2h, Es (List Int) left__3 left__3h, Bx b16 [(m__0h).v, (m__1h).v], Es (List Int) m__0 m__0h, Es (List Int) m__1 m__1h]) ?_ ?_
  · skip
    refine fld gok rfl rfl rfl rfl ?_
    refine load1 (H.bx 0 rfl (j := 0) rfl) ?_
    refine lenE (H.rs (α := List Int) 9 rfl).len ?_
    refine fld gok rfl rfl rfl rfl ?_
    refine load1 (H.bx 1 rfl (j := 0) rfl) ?_
    obtain ⟨a44, e, hF45⟩ := bindS hF42; clear hF42
    refine boolO e ?_; clear e
    cases a44
    · have hF46 := condF hF45; clear hF45
      refine fld gok rfl rfl rfl rfl ?_
      refine load1 (H.bx 0 rfl (j := 1) rfl) ?_
      refine lenE (H.rs (α := List Int) 10 rfl).len ?_
      refine fld gok rfl rfl rfl rfl ?_
      refine load1 (H.bx 1 rfl (j := 1) rfl) ?_
      refine lenE (H.rs (α := List (Int × Int × List Int × List Int)) 6 rfl).len ?_
      obtain ⟨a47, e, hF48⟩ := bindS hF46; clear hF46
      refine boolO e ?_; clear e
      cases a47
      · have hF49 := condF hF48; clear hF48
        refine fld gok rfl rfl rfl rfl ?_
        refine load1 (H.bx 0 rfl (j := 0) rfl) ?_
        refine fld gok rfl rfl rfl rfl ?_
        refine load1 (H.bx 2 rfl (j := 0) rfl) ?_
        obtain ⟨y50, e, hF51⟩ := bindS hF49; clear hF49
        have ey50 := e; clear e
        refine callF (spec_mtDifferent_c m__0 m__0h g__0 y50 ey50) (Γi := []) H ⟨Vw.sh 9 rfl, trivial⟩ ?_; clear H ey50
        rintro _ _ w52 ⟨rfl, rfl⟩ (H : Cx w0 fp0 S0 w52 [Bx b16 [(m__0h).v, (m__1h).v], Bx b13 [(.int .i64 left__0), (left__1h).v, (left__2h).v, (left__3h).v], Bx b10 [(.int .i64 g__0), (g__1h).v, (g__2h).v, (g__3h).v], Es (List (Int × Int × List Int × List Int)) g__1 g__1h, Es (List Int) g__2 g__2h, Es (List Int) g__3 g__3h, Es (List (Int × Int × List Int × List Int)) left__1 left__1h, Es (List Int) left__2 left__2h, Es (List Int) left__3 left__3h, Es (List Int) m__0 m__0h, Es (List Int) m__1 m__1h])
        obtain ⟨a53, e, hF54⟩ := bindS hF51; clear hF51
        refine boolO e ?_; clear e
        cases a53
        · have hF55 := condF hF54; clear hF54
          refine fld gok rfl rfl rfl rfl ?_
          refine load1 (H.bx 0 rfl (j := 1) rfl) ?_
          refine fld gok rfl rfl rfl rfl ?_
          refine load1 (H.bx 2 rfl (j := 1) rfl) ?_
          refine lenE (H.rs (α := List (Int × Int × List Int × List Int)) 3 rfl).len ?_
          obtain ⟨y56, e, hF57⟩ := bindS hF55; clear hF55
          have ey56 := e; clear e
          refine callF (spec_mtDifferent_c m__1 m__1h ((g__1.length : Nat) : Int) y56 ey56) (Γi := []) H ⟨Vw.sh 10 rfl, trivial⟩ ?_; clear H ey56
          rintro _ _ w58 ⟨rfl, rfl⟩ (H : Cx w0 fp0 S0 w58 [Bx b16 [(m__0h).v, (m__1h).v], Bx b13 [(.int .i64 left__0), (left__1h).v, (left__2h).v, (left__3h).v], Bx b10 [(.int .i64 g__0), (g__1h).v, (g__2h).v, (g__3h).v], Es (List (Int × Int × List Int × List Int)) g__1 g__1h, Es (List Int) g__2 g__2h, Es (List Int) g__3 g__3h, Es (List (Int × Int × List Int × List Int)) left__1 left__1h, Es (List Int) left__2 left__2h, Es (List Int) left__3 left__3h, Es (List Int) m__0 m__0h, Es (List Int) m__1 m__1h])
          obtain ⟨a59, e, hF60⟩ := bindS hF57; clear hF57
          refine boolO e ?_; clear e
          exact ⟨a59, ⟨rfl, rfl, rfl, rfl, trivial⟩, Option.some.inj hF60, H.sel [2, 3, 4, 5, 1, 6, 7, 8, 0, 9, 10] rfl⟩
        · have hF61 := condT hF54; clear hF54
          exact ⟨true, ⟨rfl, rfl, rfl, rfl, trivial⟩, Option.some.inj hF61, H.sel [2, 3, 4, 5, 1, 6, 7, 8, 0, 9, 10] rfl⟩
      · have hF62 := condT hF48; clear hF48
        exact ⟨true, ⟨rfl, rfl, rfl, rfl, trivial⟩, Option.some.inj hF62, H.sel [2, 3, 4, 5, 1, 6, 7, 8, 0, 9, 10] rfl⟩
    · have hF63 := condT hF45; clear hF45
      exact ⟨true, ⟨rfl, rfl, rfl, rfl, trivial⟩, Option.some.inj hF63, H.sel [2, 3, 4, 5, 1, 6, 7, 8, 0, 9, 10] rfl⟩
  · clear hF42 H
    rintro T65 s38 w64 ⟨hr, (H : Cx w0 fp0 S0 w64 [Bx b10 [(.int .i64 g__0), (g__1h).v, (g__2h).v, (g__3h).v], Es (List (Int × Int × List Int × List Int)) g__1 g__1h, Es (List Int) g__2 g__2h, Es (List Int) g__3 g__3h, Bx b13 [(.int .i64 left__0), (left__1h).v, (left__2h).v, (left__3h).v], Es (List (Int × Int × List Int × List Int)) left__1 left__1h, Es (List Int) left__2 left__2h, Es (List Int) left__3 left__3h, Bx b16 [(m__0h).v, (m__1h).v], Es (List Int) m__0 m__0h, Es (List Int) m__1 m__1h])⟩
    subst hr
    cases s38
    · have hF66 := condF hF41; clear hF41
      refine sq ?_
      refine fld gok rfl rfl rfl rfl ?_
      refine load1 (H.bx 4 rfl (j := 1) rfl) ?_
      refine lenE (H.rs (α := List (Int × Int × List Int × List Int)) 5 rfl).len ?_
      have hmx189 := (H.rs (α := List (Int × Int × List Int × List Int)) 5 rfl).max
      obtain ⟨r190, e, hF191⟩ := bindS hF66; clear hF66
      refine loopO _ left__1.length (fun (k67 : Nat) (_ : Unit) (_ : Unit) => [(3, (.pointer (some ⟨b10, 0, none⟩))), (5, (.pointer (some ⟨b16, 0, none⟩))), (43, (left__1h).v), (44, (.int .i64 ((left__1.length : Nat) : Int))), (45, (.int .i64 ((k67 : Nat) : Int)))]) (fun _ (_ : Unit) (_ : Unit) w' => Cx w0 fp0 S0 w' [Bx b10 [(.int .i64 g__0), (g__1h).v, (g__2h).v, (g__3h).v], Es (List (Int × Int × List Int × List Int)) g__1 g__1h, Es (List Int) g__2 g__2h, Es (List Int) g__3 g__3h, Bx b16 [(m__0h).v, (m__1h).v], Es (List Int) m__0 m__0h, Es (List Int) m__1 m__1h, Es (List (Int × Int × List Int × List Int)) left__1 left__1h]) () () e ⟨rfl, rfl, rfl, rfl, rfl, trivial⟩ (H.sel [0, 1, 2, 3, 8, 9, 10, 5] rfl) ?_ ?_
      · clear H e
        rintro T193 k67 _ _ w192 o194 hk (H : Cx w0 fp0 S0 w192 [Bx b10 [(.int .i64 g__0), (g__1h).v, (g__2h).v, (g__3h).v], Es (List (Int × Int × List Int × List Int)) g__1 g__1h, Es (List Int) g__2 g__2h, Es (List Int) g__3 g__3h, Bx b16 [(m__0h).v, (m__1h).v], Es (List Int) m__0 m__0h, Es (List Int) m__1 m__1h, Es (List (Int × Int × List Int × List Int)) left__1 left__1h]) hrt hF195
        refine boolE (z := true) (ltLen hk) ?_
        refine sq ?_
        refine sq ?_
        obtain ⟨a202, e, hF203⟩ := bindS hF195; clear hF195
        have HH := H; clear H; obtain ⟨p200, m201, g204, c196, c197, c198, c199, H⟩ := HH.el (α := Int × Int × List Int × List Int) 7 rfl e; clear HH
        clear e
        obtain ⟨a202_0, a202_1, a202_2, a202_3⟩ := a202
        obtain ⟨_, _, h206, h207⟩ := g204
        replace H := H.part (β := List Int) a202_2 (h206 : Hd) 0 rfl (fun S h => (And.left (And.right (And.right h))))
        replace H := H.part (β := List Int) a202_3 (h207 : Hd) 1 rfl (fun S h => (And.right (And.right (And.right h))))
        replace H := H.sel [0, 1, 3, 4, 5, 6, 7, 8, 9, 10] rfl
        refine idxE c196 c197 c198 ?_; clear c196 c197 c198
        refine loadN [(.int .i64 a202_0), (.int .i64 a202_1), (h206).v, (h207).v] rfl c199 ?_; clear c199
        refine alloc_ gok rfl H ?_; clear H; intro b211 w210 hx H
        clear hx
        replace H : Cx w0 fp0 S0 w210 [Bx b211 [(.int .i64 0), (.int .i64 0), (.slice none 0 0), (.slice none 0 0)], Es (List Int) a202_3 h207, Es (List Int) a202_2 h206, Bx b10 [(.int .i64 g__0), (g__1h).v, (g__2h).v, (g__3h).v], Es (List (Int × Int × List Int × List Int)) g__1 g__1h, Es (List Int) g__2 g__2h, Es (List Int) g__3 g__3h, Bx b16 [(m__0h).v, (m__1h).v], Es (List Int) m__0 m__0h, Es (List Int) m__1 m__1h, Es (List (Int × Int × List Int × List Int)) left__1 left__1h] := H
        refine stA gok [(.int .i64 a202_0), (.int .i64 a202_1), (h206).v, (h207).v] rfl H rfl rfl rfl ?_; clear H; intro w213 H
        replace H : Cx w0 fp0 S0 w213 [Bx b211 [(.int .i64 a202_0), (.int .i64 a202_1), (h206).v, (h207).v], Es (List Int) a202_3 h207, Es (List Int) a202_2 h206, Bx b10 [(.int .i64 g__0), (g__1h).v, (g__2h).v, (g__3h).v], Es (List (Int × Int × List Int × List Int)) g__1 g__1h, Es (List Int) g__2 g__2h, Es (List Int) g__3 g__3h, Bx b16 [(m__0h).v, (m__1h).v], Es (List Int) m__0 m__0h, Es (List Int) m__1 m__1h, Es (List (Int × Int × List Int × List Int)) left__1 left__1h] := H
        refine heldX H [10] (.fst 0 (.fst 2 (.fst 4 (.fst 1 (.fst 3 (.fst 5 (.fst 6 (.fst 7 (.fst 8 (.act 9 (.act 10 .done))))))))))) mixed [] trivial (by kernel_rfl) ?_
        clear H; intro w214 H
        have hX : Ext w214 w214 := Upd.refl _ _
        have H0 := H
        refine anyH (fun _ => fld gok rfl rfl rfl rfl ⟨rfl, rfl⟩) ?_
        refine anyH (fun _ => fld gok rfl rfl rfl rfl ⟨rfl, rfl⟩) ?_
        refine load1X (H.bx 3 rfl (j := 1) rfl) ?_
        refine load1X (H.bx 7 rfl (j := 1) rfl) ?_
        obtain ⟨a221, e, hF222⟩ := bindS hF203; clear hF203
        obtain ⟨p219, m220, c215, c216, c217, c218⟩ := (H.rs (α := List Int) 9 rfl).at1 e; clear e
        refine idxE c215 c216 c217 ?_; clear c215 c216 c217
        refine load1X c218 ?_; clear c218
        obtain ⟨a229, e, hF230⟩ := bindS hF222; clear hF222
        have HH := H; clear H; obtain ⟨p227, m228, g231, c223, c224, c225, c226, H⟩ := HH.el (α := Int × Int × List Int × List Int) 4 rfl e; clear HH
        clear e
        obtain ⟨a229_0, a229_1, a229_2, a229_3⟩ := a229
        obtain ⟨_, _, h233, h234⟩ := g231
        replace H := H.part (β := List Int) a229_2 (h233 : Hd) 0 rfl (fun S h => (And.left (And.right (And.right h))))
        replace H := H.part (β := List Int) a229_3 (h234 : Hd) 1 rfl (fun S h => (And.right (And.right (And.right h))))
        replace H := H.sel [0, 1, 3, 4, 5, 6, 7, 8, 9, 10, 11, 12, 13] rfl
        refine idxE c223 c224 c225 ?_; clear c223 c224 c225
        refine loadNX [(.int .i64 a229_0), (.int .i64 a229_1), (h233).v, (h234).v] rfl c226 ?_; clear c226
        refine alloc_ gok rfl H ?_; clear H; intro b238 w237 hx H
        replace hX := hX.trans0 hx; clear hx
        replace H : Cx w0 fp0 S0 w237 [Bx b238 [(.int .i64 0), (.int .i64 0), (.slice none 0 0), (.slice none 0 0)], Es (List Int) a229_3 h234, Es (List Int) a229_2 h233, Bx b211 [(.int .i64 a202_0), (.int .i64 a202_1), (h206).v, (h207).v], Es (List Int) a202_3 h207, Es (List Int) a202_2 h206, Bx b10 [(.int .i64 g__0), (g__1h).v, (g__2h).v, (g__3h).v], Es (List (Int × Int × List Int × List Int)) g__1 g__1h, Es (List Int) g__2 g__2h, Es (List Int) g__3 g__3h, Bx b16 [(m__0h).v, (m__1h).v], Es (List Int) m__0 m__0h, Es (List Int) m__1 m__1h, Es (List (Int × Int × List Int × List Int)) left__1 left__1h] := H
        refine hold hX ?_
        refine stA gok [(.int .i64 a229_0), (.int .i64 a229_1), (h233).v, (h234).v] rfl H rfl rfl rfl ?_; clear H; intro w240 H
        replace H : Cx w0 fp0 S0 w240 [Bx b238 [(.int .i64 a229_0), (.int .i64 a229_1), (h233).v, (h234).v], Es (List Int) a229_3 h234, Es (List Int) a229_2 h233, Bx b211 [(.int .i64 a202_0), (.int .i64 a202_1), (h206).v, (h207).v], Es (List Int) a202_3 h207, Es (List Int) a202_2 h206, Bx b10 [(.int .i64 g__0), (g__1h).v, (g__2h).v, (g__3h).v], Es (List (Int × Int × List Int × List Int)) g__1 g__1h, Es (List Int) g__2 g__2h, Es (List Int) g__3 g__3h, Bx b16 [(m__0h).v, (m__1h).v], Es (List Int) m__0 m__0h, Es (List Int) m__1 m__1h, Es (List (Int × Int × List Int × List Int)) left__1 left__1h] := H
        refine hold trivial ?_
        obtain ⟨r274, hF276, hF275⟩ := bindS hF230; clear hF230
        refine cut (fun (q277 : Bool) => [(3, (.pointer (some ⟨b10, 0, none⟩))), (5, (.pointer (some ⟨b16, 0, none⟩))), (43, (left__1h).v), (44, (.int .i64 ((left__1.length : Nat) : Int))), (45, (.int .i64 ((k67 : Nat) : Int))), (92, (.bool q277))]) (fun (q277 : Bool) w' => q277 = r274 ∧ Cx w0 fp0 S0 w' [Bx b10 [(.int .i64 g__0), (g__1h).v, (g__2h).v, (g__3h).v], Es (List (Int × Int × List Int × List Int)) g__1 g__1h, Es (List Int) g__2 g__2h, Es (List Int) g__3 g__3h, Bx b16 [(m__0h).v, (m__1h).v], Es (List Int) m__0 m__0h, Es (List Int) m__1 m__1h, Es (List (Int × Int × List Int × List Int)) left__1 left__1h]) ?_ ?_
        · skip
          refine heldX H [] (.fst 0 (.fst 2 (.fst 1 (.fst 3 (.fst 4 (.fst 5 (.fst 6 (.fst 8 (.fst 7 (.fst 9 (.fst 10 (.fst 11 (.fst 12 (.fst 13 (.fst 15 (.fst 18 (.fst 14 (.fst 16 (.fst 19 (.act 17 (.act 20 (.fst 21 (.fst 22 (.fst 23 (.fst 24 (.fst 26 (.fst 29 (.fst 25 (.fst 27 (.fst 30 (.act 28 (.act 31 (.fst 32 (.fst 33 .done)))))))))))))))))))))))))))))))))) mixed [] trivial (by kernel_rfl) ?_
          clear H; intro w278 H
          have hX : Ext w278 w278 := Upd.refl _ _
          have H0 := H
          refine anyH (fun _ => fld gok rfl rfl rfl rfl ⟨rfl, rfl⟩) ?_
          refine anyH (fun _ => fld gok rfl rfl rfl rfl ⟨rfl, rfl⟩) ?_
          refine load1X (H.bx 3 rfl (j := 0) rfl) ?_
          refine load1X (H.bx 0 rfl (j := 0) rfl) ?_
          obtain ⟨a279, e, hF280⟩ := bindS hF276; clear hF276
          refine boolO e ?_; clear e
          cases a279
          · have hF281 := condF hF280; clear hF280
            refine anyH (fun _ => fld gok rfl rfl rfl rfl ⟨rfl, rfl⟩) ?_
            refine anyH (fun _ => fld gok rfl rfl rfl rfl ⟨rfl, rfl⟩) ?_
            refine load1X (H.bx 3 rfl (j := 1) rfl) ?_
            refine load1X (H.bx 0 rfl (j := 1) rfl) ?_
            obtain ⟨a282, e, hF283⟩ := bindS hF281; clear hF281
            refine boolO e ?_; clear e
            cases a282
            · have hF284 := condF hF283; clear hF283
              refine anyH (fun _ => fld gok rfl rfl rfl rfl ⟨rfl, rfl⟩) ?_
              refine anyH (fun _ => fld gok rfl rfl rfl rfl ⟨rfl, rfl⟩) ?_
              refine anyH (fun _ => fld gok rfl rfl rfl rfl ⟨rfl, rfl⟩) ?_
              refine load1X (H.bx 3 rfl (j := 2) rfl) ?_
              refine load1X (H.bx 10 rfl (j := 0) rfl) ?_
              refine load1X (H.bx 0 rfl (j := 2) rfl) ?_
              obtain ⟨y285, e, hF286⟩ := bindS hF284; clear hF284
              have ey285 := e; clear e
              refine callFx (spec_hgList_c a202_2 h206 m__0 m__0h y285 ey285) H ⟨Vw.sh 5 rfl, Vw.sh 11 rfl, trivial⟩ ?_; clear H ey285
              rintro _ _ w287 ⟨h288, rfl, rfl⟩ hx (H : Cx w0 fp0 S0 w287 [E (List Int) y285 h288, Bx b238 [(.int .i64 a229_0), (.int .i64 a229_1), (h233).v, (h234).v], Es (List Int) a229_3 h234, Es (List Int) a229_2 h233, Bx b211 [(.int .i64 a202_0), (.int .i64 a202_1), (h206).v, (h207).v], Es (List Int) a202_3 h207, Es (List Int) a202_2 h206, Bx b10 [(.int .i64 g__0), (g__1h).v, (g__2h).v, (g__3h).v], Es (List (Int × Int × List Int × List Int)) g__1 g__1h, Es (List Int) g__2 g__2h, Es (List Int) g__3 g__3h, Bx b16 [(m__0h).v, (m__1h).v], Es (List Int) m__0 m__0h, Es (List Int) m__1 m__1h, Es (List (Int × Int × List Int × List Int)) left__1 left__1h])
              replace hX := hX.trans0 hx; clear hx
              refine hold hX ?_
              obtain ⟨y290, e, hF291⟩ := bindS hF286; clear hF286
              have ey290 := e; clear e
              refine callFx (spec_l1Same_c y285 h288 a229_2 h233 y290 ey290) H ⟨Vw.own 0 rfl, Vw.sh 3 rfl, trivial⟩ ?_; clear H ey290
              rintro _ _ w292 ⟨rfl, rfl⟩ hx (H : Cx w0 fp0 S0 w292 [E (List Int) y285 h288, Bx b238 [(.int .i64 a229_0), (.int .i64 a229_1), (h233).v, (h234).v], Es (List Int) a229_3 h234, Es (List Int) a229_2 h233, Bx b211 [(.int .i64 a202_0), (.int .i64 a202_1), (h206).v, (h207).v], Es (List Int) a202_3 h207, Es (List Int) a202_2 h206, Bx b10 [(.int .i64 g__0), (g__1h).v, (g__2h).v, (g__3h).v], Es (List (Int × Int × List Int × List Int)) g__1 g__1h, Es (List Int) g__2 g__2h, Es (List Int) g__3 g__3h, Bx b16 [(m__0h).v, (m__1h).v], Es (List Int) m__0 m__0h, Es (List Int) m__1 m__1h, Es (List (Int × Int × List Int × List Int)) left__1 left__1h])
              replace hX := hX.trans0 hx; clear hx
              refine hold hX ?_
              obtain ⟨a293, e, hF294⟩ := bindS hF291; clear hF291
              refine boolO e ?_; clear e
              cases a293
              · have hF295 := condF hF294; clear hF294
                refine anyH (fun _ => fld gok rfl rfl rfl rfl ⟨rfl, rfl⟩) ?_
                refine anyH (fun _ => fld gok rfl rfl rfl rfl ⟨rfl, rfl⟩) ?_
                refine anyH (fun _ => fld gok rfl rfl rfl rfl ⟨rfl, rfl⟩) ?_
                refine load1X (H0.bx 3 rfl (j := 3) rfl) ?_
                refine load1X (H0.bx 10 rfl (j := 0) rfl) ?_
                refine load1X (H0.bx 0 rfl (j := 3) rfl) ?_
                obtain ⟨y296, e, hF297⟩ := bindS hF295; clear hF295
                have ey296 := e; clear e
                refine callFx (spec_hgList_c a202_3 h207 m__0 m__0h y296 ey296) H ⟨Vw.sh 5 rfl, Vw.sh 12 rfl, trivial⟩ ?_; clear H ey296
                rintro _ _ w298 ⟨h299, rfl, rfl⟩ hx (H : Cx w0 fp0 S0 w298 [E (List Int) y296 h299, E (List Int) y285 h288, Bx b238 [(.int .i64 a229_0), (.int .i64 a229_1), (h233).v, (h234).v], Es (List Int) a229_3 h234, Es (List Int) a229_2 h233, Bx b211 [(.int .i64 a202_0), (.int .i64 a202_1), (h206).v, (h207).v], Es (List Int) a202_3 h207, Es (List Int) a202_2 h206, Bx b10 [(.int .i64 g__0), (g__1h).v, (g__2h).v, (g__3h).v], Es (List (Int × Int × List Int × List Int)) g__1 g__1h, Es (List Int) g__2 g__2h, Es (List Int) g__3 g__3h, Bx b16 [(m__0h).v, (m__1h).v], Es (List Int) m__0 m__0h, Es (List Int) m__1 m__1h, Es (List (Int × Int × List Int × List Int)) left__1 left__1h])
                replace hX := hX.trans0 hx; clear hx
                refine hold hX ?_
                obtain ⟨y301, e, hF302⟩ := bindS hF297; clear hF297
                have ey301 := e; clear e
                refine callFx (spec_l1Same_c y296 h299 a229_3 h234 y301 ey301) H ⟨Vw.own 0 rfl, Vw.sh 3 rfl, trivial⟩ ?_; clear H ey301
                rintro _ _ w303 ⟨rfl, rfl⟩ hx (H : Cx w0 fp0 S0 w303 [E (List Int) y296 h299, E (List Int) y285 h288, Bx b238 [(.int .i64 a229_0), (.int .i64 a229_1), (h233).v, (h234).v], Es (List Int) a229_3 h234, Es (List Int) a229_2 h233, Bx b211 [(.int .i64 a202_0), (.int .i64 a202_1), (h206).v, (h207).v], Es (List Int) a202_3 h207, Es (List Int) a202_2 h206, Bx b10 [(.int .i64 g__0), (g__1h).v, (g__2h).v, (g__3h).v], Es (List (Int × Int × List Int × List Int)) g__1 g__1h, Es (List Int) g__2 g__2h, Es (List Int) g__3 g__3h, Bx b16 [(m__0h).v, (m__1h).v], Es (List Int) m__0 m__0h, Es (List Int) m__1 m__1h, Es (List (Int × Int × List Int × List Int)) left__1 left__1h])
                replace hX := hX.trans0 hx; clear hx
                refine hold hX ?_
                obtain ⟨a304, e, hF305⟩ := bindS hF302; clear hF302
                refine boolO e ?_; clear e
                exact ⟨a304, ⟨rfl, rfl, rfl, rfl, rfl, rfl, trivial⟩, Option.some.inj hF305, H.sel [8, 9, 10, 11, 12, 13, 14, 15] rfl⟩
              · have hF306 := condT hF294; clear hF294
                exact ⟨true, ⟨rfl, rfl, rfl, rfl, rfl, rfl, trivial⟩, Option.some.inj hF306, H.sel [7, 8, 9, 10, 11, 12, 13, 14] rfl⟩
            · have hF307 := condT hF283; clear hF283
              exact ⟨true, ⟨rfl, rfl, rfl, rfl, rfl, rfl, trivial⟩, Option.some.inj hF307, H.sel [6, 7, 8, 9, 10, 11, 12, 13] rfl⟩
          · have hF308 := condT hF280; clear hF280
            exact ⟨true, ⟨rfl, rfl, rfl, rfl, rfl, rfl, trivial⟩, Option.some.inj hF308, H.sel [6, 7, 8, 9, 10, 11, 12, 13] rfl⟩
        · clear hF276 H
          rintro T310 s272 w309 ⟨hr, (H : Cx w0 fp0 S0 w309 [Bx b10 [(.int .i64 g__0), (g__1h).v, (g__2h).v, (g__3h).v], Es (List (Int × Int × List Int × List Int)) g__1 g__1h, Es (List Int) g__2 g__2h, Es (List Int) g__3 g__3h, Bx b16 [(m__0h).v, (m__1h).v], Es (List Int) m__0 m__0h, Es (List Int) m__1 m__1h, Es (List (Int × Int × List Int × List Int)) left__1 left__1h])⟩
          subst hr
          cases s272
          · have hF311 := condF hF275; clear hF275
            refine arK hk hmx189 ?_
            have hs := Option.some.inj hF311; subst hs; clear hF311
            exact ⟨(), (), rfl, ⟨rfl, rfl, rfl, rfl, rfl, trivial⟩, H.sel [0, 1, 2, 3, 4, 5, 6, 7] rfl⟩
          · have hF312 := condT hF275; clear hF275
            have hs := Option.some.inj hF312; subst hs; clear hF312
            have hr := hrt _ rfl; subst hr
            have hF313 : some _ = some _ := hF191
            cases hF313
            exact ⟨_, _, rfl, ⟨rfl, rfl⟩, (H.sel [] rfl).close trivial⟩
      · clear H e
        rintro T315 _ _ w314 hr (H : Cx w0 fp0 S0 w314 [Bx b10 [(.int .i64 g__0), (g__1h).v, (g__2h).v, (g__3h).v], Es (List (Int × Int × List Int × List Int)) g__1 g__1h, Es (List Int) g__2 g__2h, Es (List Int) g__3 g__3h, Bx b16 [(m__0h).v, (m__1h).v], Es (List Int) m__0 m__0h, Es (List Int) m__1 m__1h, Es (List (Int × Int × List Int × List Int)) left__1 left__1h])
        subst hr
        refine boolE (z := false) geLen ?_
        refine sq ?_
        cases hF191
        exact ⟨_, _, rfl, ⟨rfl, rfl⟩, (H.sel [] rfl).close trivial⟩
    · have hF318 := condT hF41; clear hF41
      cases hF318
      exact ⟨_, _, rfl, ⟨rfl, rfl⟩, (H.sel [] rfl).close trivial⟩

theorem spec_l1Put_c (l_ : List Int) (l_h : Hd) (n_ : Int) (y : List Int) (hF : F_spec_l1Put l_ n_ = some y) :
    ConS Try.prog 88 #[(l_h).v, (.int .i64 n_)] [Es (List Int) l_ l_h] [] (fun v Γ' => ∃ z0 : Hd, v = (z0).v ∧ Γ' = [Es (List Int) y z0]) := by
  intro w0 S0 fp0 hI hS
  have H : Cx w0 fp0 S0 w0 [Es (List Int) l_ l_h] := Cx.start hI hS
  clear hI hS
  refine enterC (args := [_, _]) gok Try.func88 rfl _ rfl rfl rfl ?_
  obtain ⟨r138, hF140, hF139⟩ := bindS hF; clear hF
  refine cut (fun (q141 : Int) => [(0, (l_h).v), (1, (.int .i64 n_)), (5, (.int .i64 q141))]) (fun (q141 : Int) w' => q141 = r138 ∧ Cx w0 fp0 S0 w' [Es (List Int) l_ l_h]) ?_ ?_
  · skip
    refine loopW _ (fun (s226 : Int) (_ : Unit) => [(0, (l_h).v), (1, (.int .i64 n_)), (5, (.int .i64 s226))]) (fun (s226 : Int) (_ : Unit) w' => Cx w0 fp0 S0 w' [Es (List Int) l_ l_h]) 0 () hF140 ⟨rfl, rfl, rfl, trivial⟩ (H.sel [0] rfl) ?_
    · clear H
      rintro T232 s226 _ w231 o233 (H : Cx w0 fp0 S0 w231 [Es (List Int) l_ l_h]) hrt hF234
      refine sq ?_
      obtain ⟨r251, hF253, hF252⟩ := bindS hF234; clear hF234
      refine cut (fun (q254 : Bool) => [(0, (l_h).v), (1, (.int .i64 n_)), (5, (.int .i64 s226)), (18, (.bool q254))]) (fun (q254 : Bool) w' => q254 = r251 ∧ Cx w0 fp0 S0 w' [Es (List Int) l_ l_h]) ?_ ?_
      · skip
        refine lenE (H.rs (α := List Int) 0 rfl).len ?_
        obtain ⟨a255, e, hF256⟩ := bindS hF253; clear hF253
        refine boolO e ?_; clear e
        cases a255
        · have hF257 := condF hF256; clear hF256
          exact ⟨false, ⟨rfl, rfl, rfl, rfl, trivial⟩, Option.some.inj hF257, H.sel [0] rfl⟩
        · have hF258 := condT hF256; clear hF256
          obtain ⟨a265, e, hF266⟩ := bindS hF258; clear hF258
          obtain ⟨p263, m264, c259, c260, c261, c262⟩ := (H.rs (α := List Int) 0 rfl).at1 e; clear e
          refine idxE c259 c260 c261 ?_; clear c259 c260 c261
          refine load1 c262 ?_; clear c262
          obtain ⟨a267, e, hF268⟩ := bindS hF266; clear hF266
          refine boolO e ?_; clear e
          exact ⟨a267, ⟨rfl, rfl, rfl, rfl, trivial⟩, Option.some.inj hF268, H.sel [0] rfl⟩
      · clear hF253 H
        rintro T270 s249 w269 ⟨hr, (H : Cx w0 fp0 S0 w269 [Es (List Int) l_ l_h])⟩
        subst hr
        cases s249
        · have hF271 := condF hF252; clear hF252
          have hs := Option.some.inj hF271; subst hs; clear hF271
          have hF272 : some _ = some _ := congrArg some (hrt _ rfl).symm
          exact ⟨s226, ⟨rfl, rfl, rfl, trivial⟩, Option.some.inj hF272, H.sel [0] rfl⟩
        · have hF273 := condT hF252; clear hF252
          obtain ⟨a274, e, hF275⟩ := bindS hF273; clear hF273
          refine arO e ?_; clear e
          have hs := Option.some.inj hF275; subst hs; clear hF275
          exact ⟨a274, (), rfl, ⟨rfl, rfl, rfl, trivial⟩, H.sel [0] rfl⟩
  · clear hF140 H
    rintro T277 s136 w276 ⟨hr, (H : Cx w0 fp0 S0 w276 [Es (List Int) l_ l_h])⟩
    subst hr
    refine sq ?_
    obtain ⟨r294, hF296, hF295⟩ := bindS hF139; clear hF139
    refine cut (fun (q297 : Bool) => [(0, (l_h).v), (1, (.int .i64 n_)), (5, (.int .i64 s136)), (32, (.bool q297))]) (fun (q297 : Bool) w' => q297 = r294 ∧ Cx w0 fp0 S0 w' [Es (List Int) l_ l_h]) ?_ ?_
    · skip
      refine lenE (H.rs (α := List Int) 0 rfl).len ?_
      obtain ⟨a298, e, hF299⟩ := bindS hF296; clear hF296
      refine boolO e ?_; clear e
      cases a298
      · have hF300 := condF hF299; clear hF299
        exact ⟨false, ⟨rfl, rfl, rfl, rfl, trivial⟩, Option.some.inj hF300, H.sel [0] rfl⟩
      · have hF301 := condT hF299; clear hF299
        obtain ⟨a308, e, hF309⟩ := bindS hF301; clear hF301
        obtain ⟨p306, m307, c302, c303, c304, c305⟩ := (H.rs (α := List Int) 0 rfl).at1 e; clear e
        refine idxE c302 c303 c304 ?_; clear c302 c303 c304
        refine load1 c305 ?_; clear c305
        obtain ⟨a310, e, hF311⟩ := bindS hF309; clear hF309
        refine boolO e ?_; clear e
        exact ⟨a310, ⟨rfl, rfl, rfl, rfl, trivial⟩, Option.some.inj hF311, H.sel [0] rfl⟩
    · clear hF296 H
      rintro T313 s292 w312 ⟨hr, (H : Cx w0 fp0 S0 w312 [Es (List Int) l_ l_h])⟩
      subst hr
      cases s292
      · have hF314 := condF hF295; clear hF295
        refine lit0 (α := Int) gok rfl rfl H ?_; clear H; intro h316 w315 hx H
        clear hx
        obtain ⟨a318, e, hF319⟩ := bindS hF314; clear hF314
        refine slS (α := Int) gok rfl rfl H 1 rfl e rfl rfl ?_; clear e H; intro h320 H
        obtain ⟨a322, e, hF323⟩ := bindS hF319; clear hF319
        replace H := H.sel [1, 0, 2] rfl
        refine appendS (α := Int) gok rfl rfl rfl rfl H (Vw.sh 0 rfl) e ?_; clear e H; intro h325 w324 H
        refine lit1S (α := Int) gok rfl rfl rfl rfl H ?_; clear H; intro h328 w327 hx H
        clear hx
        obtain ⟨a330, e, hF331⟩ := bindS hF323; clear hF323
        replace H := H.sel [1, 0, 2, 3] rfl
        refine append_ (α := Int) gok rfl rfl rfl rfl H e ?_; clear e H; intro h333 w332 H
        obtain ⟨a335, e, hF336⟩ := bindS hF331; clear hF331
        refine slS (α := Int) (hi := none) gok rfl rfl H 2 rfl e rfl (congrArg (fun n : Nat => some (n : Int)) (H.rs (α := List Int) 2 rfl).len) ?_; clear e H; intro h337 H
        obtain ⟨a339, e, hF340⟩ := bindS hF336; clear hF336
        replace H := H.sel [1, 0, 2, 3] rfl
        refine appendS (α := Int) gok rfl rfl rfl rfl H (Vw.sh 0 rfl) e ?_; clear e H; intro h342 w341 H
        replace H := H.frz
        cases hF340
        exact ⟨_, _, rfl, ⟨h342, rfl, rfl⟩, (H.sel [0] rfl)⟩
      · have hF344 := condT hF295; clear hF295
        cases hF344
        exact ⟨_, _, rfl, ⟨l_h, rfl, rfl⟩, (H.sel [0] rfl)⟩

theorem spec_hgMeets_c (a_ : List Int) (a_h : Hd) (b_ : List Int) (b_h : Hd) (y : Bool) (hF : F_spec_hgMeets a_ b_ = some y) :
    ConF Try.prog 89 #[(a_h).v, (b_h).v] [Es (List Int) a_ a_h, Es (List Int) b_ b_h] [] (fun v Γ' => v = (.bool y) ∧ Γ' = []) := by
  intro w0 S0 fp0 hI hS
  have H : Cx w0 fp0 S0 w0 [Es (List Int) a_ a_h, Es (List Int) b_ b_h] := Cx.start hI hS
  clear hI hS
  refine enterC (args := [_, _]) gok Try.func89 rfl _ rfl rfl rfl ?_
  refine sq ?_
  refine lenE (H.rs (α := List Int) 0 rfl).len ?_
  have hmx21 := (H.rs (α := List Int) 0 rfl).max
  obtain ⟨r22, e, hF23⟩ := bindS hF; clear hF
  refine loopO _ a_.length (fun (k3 : Nat) (_ : Unit) (_ : Unit) => [(1, (b_h).v), (7, (a_h).v), (8, (.int .i64 ((a_.length : Nat) : Int))), (9, (.int .i64 ((k3 : Nat) : Int)))]) (fun _ (_ : Unit) (_ : Unit) w' => Cx w0 fp0 S0 w' [Es (List Int) b_ b_h, Es (List Int) a_ a_h]) () () e ⟨rfl, rfl, rfl, rfl, trivial⟩ (H.sel [1, 0] rfl) ?_ ?_
  · clear H e
    rintro T25 k3 _ _ w24 o26 hk (H : Cx w0 fp0 S0 w24 [Es (List Int) b_ b_h, Es (List Int) a_ a_h]) hrt hF27
    refine boolE (z := true) (ltLen hk) ?_
    refine sq ?_
    refine sq ?_
    obtain ⟨a34, e, hF35⟩ := bindS hF27; clear hF27
    obtain ⟨p32, m33, c28, c29, c30, c31⟩ := (H.rs (α := List Int) 1 rfl).at1 e; clear e
    refine idxE c28 c29 c30 ?_; clear c28 c29 c30
    refine load1 c31 ?_; clear c31
    obtain ⟨y36, e, hF37⟩ := bindS hF35; clear hF35
    have ey36 := e; clear e
    refine callF (spec_l1Has_c b_ b_h a34 y36 ey36) (Γi := []) H ⟨Vw.sh 0 rfl, trivial⟩ ?_; clear H ey36
    rintro _ _ w38 ⟨rfl, rfl⟩ (H : Cx w0 fp0 S0 w38 [Es (List Int) b_ b_h, Es (List Int) a_ a_h])
    cases y36
    · have hF39 := condF hF37; clear hF37
      refine arK hk hmx21 ?_
      have hs := Option.some.inj hF39; subst hs; clear hF39
      exact ⟨(), (), rfl, ⟨rfl, rfl, rfl, rfl, trivial⟩, H.sel [0, 1] rfl⟩
    · have hF40 := condT hF37; clear hF37
      have hs := Option.some.inj hF40; subst hs; clear hF40
      have hr := hrt _ rfl; subst hr
      have hF41 : some _ = some _ := hF23
      cases hF41
      exact ⟨_, _, rfl, ⟨rfl, rfl⟩, (H.sel [] rfl).close trivial⟩
  · clear H e
    rintro T43 _ _ w42 hr (H : Cx w0 fp0 S0 w42 [Es (List Int) b_ b_h, Es (List Int) a_ a_h])
    subst hr
    refine boolE (z := false) geLen ?_
    refine sq ?_
    cases hF23
    exact ⟨_, _, rfl, ⟨rfl, rfl⟩, (H.sel [] rfl).close trivial⟩

theorem spec_mtReach_c (g__0 : Int) (g__1 : List (Int × Int × List Int × List Int)) (g__1h : Hd) (g__2 : List Int) (g__2h : Hd) (g__3 : List Int) (g__3h : Hd) (from_ : List Int) (from_h : Hd) (y : List Int) (hF : F_spec_mtReach (g__0, g__1, g__2, g__3) from_ = some y) :
    ConS Try.prog 51 #[(.agg #[(.int .i64 g__0), (g__1h).v, (g__2h).v, (g__3h).v]), (from_h).v] [Es (List (Int × Int × List Int × List Int)) g__1 g__1h, Es (List Int) g__2 g__2h, Es (List Int) g__3 g__3h, Es (List Int) from_ from_h] [] (fun v Γ' => ∃ z0 : Hd, v = (z0).v ∧ Γ' = [Es (List Int) y z0]) := by
  intro w0 S0 fp0 hI hS
  have H : Cx w0 fp0 S0 w0 [Es (List (Int × Int × List Int × List Int)) g__1 g__1h, Es (List Int) g__2 g__2h, Es (List Int) g__3 g__3h, Es (List Int) from_ from_h] := Cx.start hI hS
  clear hI hS
  refine enterC (args := [_, _]) gok Try.func51 rfl _ rfl rfl rfl ?_
  refine box_ H ?_; clear H; intro b6 w5 hx H
  clear hx
  replace H : Cx w0 fp0 S0 w5 [Bx b6 [(.int .i64 g__0), (g__1h).v, (g__2h).v, (g__3h).v], Es (List (Int × Int × List Int × List Int)) g__1 g__1h, Es (List Int) g__2 g__2h, Es (List Int) g__3 g__3h, Es (List Int) from_ from_h] := H
  refine sq ?_
  refine lenE (H.rs (α := List Int) 4 rfl).len ?_
  have hmx44 := (H.rs (α := List Int) 4 rfl).max
  obtain ⟨r45, e, hF46⟩ := bindS hF; clear hF
  replace H := H.nil (α := Int)
  replace H := H.frz
  refine loopS _ from_.length (fun (k8 : Nat) (s41 : List Int) (g42 : Hd) => [(2, (.pointer (some ⟨b6, 0, none⟩))), (5, (g42).v), (13, (from_h).v), (14, (.int .i64 ((from_.length : Nat) : Int))), (15, (.int .i64 ((k8 : Nat) : Int)))]) (fun _ (s41 : List Int) (g42 : Hd) w' => Cx w0 fp0 S0 w' [Bx b6 [(.int .i64 g__0), (g__1h).v, (g__2h).v, (g__3h).v], Es (List (Int × Int × List Int × List Int)) g__1 g__1h, Es (List Int) g__2 g__2h, Es (List Int) g__3 g__3h, Es (List Int) s41 g42, Es (List Int) from_ from_h]) [] nilH e ⟨rfl, rfl, rfl, rfl, rfl, trivial⟩ (H.sel [1, 2, 3, 4, 0, 5] rfl) ?_ ?_
  · clear H e
    rintro T49 k8 s41 g42 w48 o50 hk (H : Cx w0 fp0 S0 w48 [Bx b6 [(.int .i64 g__0), (g__1h).v, (g__2h).v, (g__3h).v], Es (List (Int × Int × List Int × List Int)) g__1 g__1h, Es (List Int) g__2 g__2h, Es (List Int) g__3 g__3h, Es (List Int) s41 g42, Es (List Int) from_ from_h]) hF51
    refine boolE (z := true) (ltLen hk) ?_
    refine sq ?_
    refine sq ?_
    obtain ⟨a58, e, hF59⟩ := bindS hF51; clear hF51
    obtain ⟨p56, m57, c52, c53, c54, c55⟩ := (H.rs (α := List Int) 5 rfl).at1 e; clear e
    refine idxE c52 c53 c54 ?_; clear c52 c53 c54
    refine load1 c55 ?_; clear c55
    obtain ⟨y60, e, hF61⟩ := bindS hF59; clear hF59
    have ey60 := e; clear e
    refine callS (spec_l1Put_c s41 g42 a58 y60 ey60) (Γi := []) H [4] rfl (persC persS persN) ?_; clear H ey60
    rintro _ _ w62 ⟨h63, rfl, rfl⟩ (H : Cx w0 fp0 S0 w62 [Es (List Int) y60 h63, Bx b6 [(.int .i64 g__0), (g__1h).v, (g__2h).v, (g__3h).v], Es (List (Int × Int × List Int × List Int)) g__1 g__1h, Es (List Int) g__2 g__2h, Es (List Int) g__3 g__3h, Es (List Int) s41 g42, Es (List Int) from_ from_h])
    refine arK hk hmx44 ?_
    have hs := Option.some.inj hF61; subst hs; clear hF61
    exact ⟨h63, ⟨rfl, rfl, rfl, rfl, rfl, trivial⟩, H.sel [1, 2, 3, 4, 0, 6] rfl⟩
  · clear H e
    rintro T66 g68 w65 (H : Cx w0 fp0 S0 w65 [Bx b6 [(.int .i64 g__0), (g__1h).v, (g__2h).v, (g__3h).v], Es (List (Int × Int × List Int × List Int)) g__1 g__1h, Es (List Int) g__2 g__2h, Es (List Int) g__3 g__3h, Es (List Int) r45 g68, Es (List Int) from_ from_h])
    refine boolE (z := false) geLen ?_
    refine sq ?_
    obtain ⟨r2931, hF2933, hF2932⟩ := bindS hF46; clear hF46
    refine cut (fun (q2934 : List Int × Hd) => [(5, (q2934.2).v)]) (fun (q2934 : List Int × Hd) w' => q2934.1 = r2931 ∧ Cx w0 fp0 S0 w' [Es (List Int) q2934.1 q2934.2]) ?_ ?_
    · skip
      refine loopW _ (fun (s4834 : List Int × Bool) (g4835 : Hd) => [(2, (.pointer (some ⟨b6, 0, none⟩))), (5, (g4835).v), (8, (.bool s4834.2))]) (fun (s4834 : List Int × Bool) (g4835 : Hd) w' => Cx w0 fp0 S0 w' [Bx b6 [(.int .i64 g__0), (g__1h).v, (g__2h).v, (g__3h).v], Es (List (Int × Int × List Int × List Int)) g__1 g__1h, Es (List Int) g__2 g__2h, Es (List Int) g__3 g__3h, Es (List Int) s4834.1 g4835]) (r45, true) g68 hF2933 ⟨rfl, rfl, rfl, trivial⟩ (H.sel [0, 1, 2, 3, 4] rfl) ?_
      · clear H
        rintro T4841 ⟨s4834_0, s4834_1⟩ g4835 w4840 o4842 (H : Cx w0 fp0 S0 w4840 [Bx b6 [(.int .i64 g__0), (g__1h).v, (g__2h).v, (g__3h).v], Es (List (Int × Int × List Int × List Int)) g__1 g__1h, Es (List Int) g__2 g__2h, Es (List Int) g__3 g__3h, Es (List Int) s4834_0 g4835]) hrt hF4843
        refine sq ?_
        cases s4834_1
        · have hF4844 := condF hF4843; clear hF4843
          have hs := Option.some.inj hF4844; subst hs; clear hF4844
          have hF4845 : some _ = some _ := congrArg some (hrt _ rfl).symm
          exact ⟨(s4834_0, g4835), ⟨rfl, trivial⟩, Option.some.inj hF4845, H.sel [4] rfl⟩
        · have hF4846 := condT hF4843; clear hF4843
          refine fld gok rfl rfl rfl rfl ?_
          refine load1 (H.bx 0 rfl (j := 1) rfl) ?_
          refine lenE (H.rs (α := List (Int × Int × List Int × List Int)) 1 rfl).len ?_
          have hmx5470 := (H.rs (α := List (Int × Int × List Int × List Int)) 1 rfl).max
          obtain ⟨r5471, e, hF5472⟩ := bindS hF4846; clear hF4846
          refine loopS _ g__1.length (fun (k4847 : Nat) (s5467 : List Int × Bool) (g5468 : Hd) => [(2, (.pointer (some ⟨b6, 0, none⟩))), (5, (g5468).v), (8, (.bool s5467.2)), (25, (g__1h).v), (26, (.int .i64 ((g__1.length : Nat) : Int))), (27, (.int .i64 ((k4847 : Nat) : Int)))]) (fun _ (s5467 : List Int × Bool) (g5468 : Hd) w' => Cx w0 fp0 S0 w' [Bx b6 [(.int .i64 g__0), (g__1h).v, (g__2h).v, (g__3h).v], Es (List (Int × Int × List Int × List Int)) g__1 g__1h, Es (List Int) g__2 g__2h, Es (List Int) g__3 g__3h, Es (List Int) s5467.1 g5468]) (s4834_0, false) g4835 e ⟨rfl, rfl, rfl, rfl, rfl, rfl, trivial⟩ (H.sel [0, 1, 2, 3, 4] rfl) ?_ ?_
          · clear H e
            rintro T5474 k4847 ⟨s5467_0, s5467_1⟩ g5468 w5473 o5475 hk (H : Cx w0 fp0 S0 w5473 [Bx b6 [(.int .i64 g__0), (g__1h).v, (g__2h).v, (g__3h).v], Es (List (Int × Int × List Int × List Int)) g__1 g__1h, Es (List Int) g__2 g__2h, Es (List Int) g__3 g__3h, Es (List Int) s5467_0 g5468]) hF5476
            refine boolE (z := true) (ltLen hk) ?_
            refine sq ?_
            obtain ⟨r5631, hF5633, hF5632⟩ := bindS hF5476; clear hF5476
            refine cut (fun (q5634 : (List Int × Bool) × Hd) => [(2, (.pointer (some ⟨b6, 0, none⟩))), (5, (q5634.2).v), (8, (.bool q5634.1.2)), (25, (g__1h).v), (26, (.int .i64 ((g__1.length : Nat) : Int))), (27, (.int .i64 ((k4847 : Nat) : Int)))]) (fun (q5634 : (List Int × Bool) × Hd) w' => (q5634.1.1, q5634.1.2) = r5631 ∧ Cx w0 fp0 S0 w' [Bx b6 [(.int .i64 g__0), (g__1h).v, (g__2h).v, (g__3h).v], Es (List (Int × Int × List Int × List Int)) g__1 g__1h, Es (List Int) g__2 g__2h, Es (List Int) g__3 g__3h, Es (List Int) q5634.1.1 q5634.2]) ?_ ?_
            · skip
              obtain ⟨a5641, e, hF5642⟩ := bindS hF5633; clear hF5633
              have HH := H; clear H; obtain ⟨p5639, m5640, g5643, c5635, c5636, c5637, c5638, H⟩ := HH.el (α := Int × Int × List Int × List Int) 1 rfl e; clear HH
              clear e
              obtain ⟨a5641_0, a5641_1, a5641_2, a5641_3⟩ := a5641
              obtain ⟨_, _, h5645, h5646⟩ := g5643
              replace H := H.part (β := List Int) a5641_2 (h5645 : Hd) 0 rfl (fun S h => (And.left (And.right (And.right h))))
              replace H := H.part (β := List Int) a5641_3 (h5646 : Hd) 1 rfl (fun S h => (And.right (And.right (And.right h))))
              replace H := H.sel [0, 1, 3, 4, 5, 6, 7] rfl
              refine idxE c5635 c5636 c5637 ?_; clear c5635 c5636 c5637
              refine loadN [(.int .i64 a5641_0), (.int .i64 a5641_1), (h5645).v, (h5646).v] rfl c5638 ?_; clear c5638
              refine alloc_ gok rfl H ?_; clear H; intro b5650 w5649 hx H
              clear hx
              replace H : Cx w0 fp0 S0 w5649 [Bx b5650 [(.int .i64 0), (.int .i64 0), (.slice none 0 0), (.slice none 0 0)], Es (List Int) a5641_3 h5646, Es (List Int) a5641_2 h5645, Bx b6 [(.int .i64 g__0), (g__1h).v, (g__2h).v, (g__3h).v], Es (List (Int × Int × List Int × List Int)) g__1 g__1h, Es (List Int) g__2 g__2h, Es (List Int) g__3 g__3h, Es (List Int) s5467_0 g5468] := H
              refine stA gok [(.int .i64 a5641_0), (.int .i64 a5641_1), (h5645).v, (h5646).v] rfl H rfl rfl rfl ?_; clear H; intro w5652 H
              replace H : Cx w0 fp0 S0 w5652 [Bx b5650 [(.int .i64 a5641_0), (.int .i64 a5641_1), (h5645).v, (h5646).v], Es (List Int) a5641_3 h5646, Es (List Int) a5641_2 h5645, Bx b6 [(.int .i64 g__0), (g__1h).v, (g__2h).v, (g__3h).v], Es (List (Int × Int × List Int × List Int)) g__1 g__1h, Es (List Int) g__2 g__2h, Es (List Int) g__3 g__3h, Es (List Int) s5467_0 g5468] := H
              refine sq ?_
              refine fld gok rfl rfl rfl rfl ?_
              refine load1 (H.bx 0 rfl (j := 2) rfl) ?_
              obtain ⟨y5653, e, hF5654⟩ := bindS hF5642; clear hF5642
              have ey5653 := e; clear e
              refine callF (spec_hgMeets_c a5641_2 h5645 s5467_0 g5468 y5653 ey5653) (Γi := []) H ⟨Vw.sh 2 rfl, Vw.sh 7 rfl, trivial⟩ ?_; clear H ey5653
              rintro _ _ w5655 ⟨rfl, rfl⟩ (H : Cx w0 fp0 S0 w5655 [Bx b5650 [(.int .i64 a5641_0), (.int .i64 a5641_1), (h5645).v, (h5646).v], Es (List Int) a5641_3 h5646, Es (List Int) a5641_2 h5645, Bx b6 [(.int .i64 g__0), (g__1h).v, (g__2h).v, (g__3h).v], Es (List (Int × Int × List Int × List Int)) g__1 g__1h, Es (List Int) g__2 g__2h, Es (List Int) g__3 g__3h, Es (List Int) s5467_0 g5468])
              obtain ⟨a5656, e, hF5657⟩ := bindS hF5654; clear hF5654
              refine boolO e ?_; clear e
              cases a5656
              · have hF5658 := condF hF5657; clear hF5657
                refine fld gok rfl rfl rfl rfl ?_
                refine load1 (H.bx 0 rfl (j := 3) rfl) ?_
                refine lenE (H.rs (α := List Int) 1 rfl).len ?_
                have hmx5738 := (H.rs (α := List Int) 1 rfl).max
                obtain ⟨r5739, e, hF5740⟩ := bindS hF5658; clear hF5658
                refine loopS _ a5641_3.length (fun (k5659 : Nat) (s5735 : List Int × Bool) (g5736 : Hd) => [(2, (.pointer (some ⟨b6, 0, none⟩))), (5, (g5736).v), (8, (.bool s5735.2)), (25, (g__1h).v), (26, (.int .i64 ((g__1.length : Nat) : Int))), (27, (.int .i64 ((k4847 : Nat) : Int))), (37, (h5646).v), (38, (.int .i64 ((a5641_3.length : Nat) : Int))), (39, (.int .i64 ((k5659 : Nat) : Int)))]) (fun _ (s5735 : List Int × Bool) (g5736 : Hd) w' => Cx w0 fp0 S0 w' [Bx b6 [(.int .i64 g__0), (g__1h).v, (g__2h).v, (g__3h).v], Es (List (Int × Int × List Int × List Int)) g__1 g__1h, Es (List Int) g__2 g__2h, Es (List Int) g__3 g__3h, Es (List Int) s5735.1 g5736, Es (List Int) a5641_3 h5646]) (s5467_0, s5467_1) g5468 e ⟨rfl, rfl, rfl, rfl, rfl, rfl, rfl, rfl, rfl, trivial⟩ (H.sel [3, 4, 5, 6, 7, 1] rfl) ?_ ?_
                · clear H e
                  rintro T5742 k5659 ⟨s5735_0, s5735_1⟩ g5736 w5741 o5743 hk (H : Cx w0 fp0 S0 w5741 [Bx b6 [(.int .i64 g__0), (g__1h).v, (g__2h).v, (g__3h).v], Es (List (Int × Int × List Int × List Int)) g__1 g__1h, Es (List Int) g__2 g__2h, Es (List Int) g__3 g__3h, Es (List Int) s5735_0 g5736, Es (List Int) a5641_3 h5646]) hF5744
                  refine boolE (z := true) (ltLen hk) ?_
                  refine sq ?_
                  refine sq ?_
                  obtain ⟨a5751, e, hF5752⟩ := bindS hF5744; clear hF5744
                  obtain ⟨p5749, m5750, c5745, c5746, c5747, c5748⟩ := (H.rs (α := List Int) 5 rfl).at1 e; clear e
                  refine idxE c5745 c5746 c5747 ?_; clear c5745 c5746 c5747
                  refine load1 c5748 ?_; clear c5748
                  obtain ⟨r5762, hF5764, hF5763⟩ := bindS hF5752; clear hF5752
                  refine cut (fun (q5765 : Bool) => [(2, (.pointer (some ⟨b6, 0, none⟩))), (5, (g5736).v), (8, (.bool q5765)), (12, (.int .i64 a5751)), (25, (g__1h).v), (26, (.int .i64 ((g__1.length : Nat) : Int))), (27, (.int .i64 ((k4847 : Nat) : Int))), (37, (h5646).v), (38, (.int .i64 ((a5641_3.length : Nat) : Int))), (39, (.int .i64 ((k5659 : Nat) : Int)))]) (fun (q5765 : Bool) w' => q5765 = r5762 ∧ Cx w0 fp0 S0 w' [Bx b6 [(.int .i64 g__0), (g__1h).v, (g__2h).v, (g__3h).v], Es (List (Int × Int × List Int × List Int)) g__1 g__1h, Es (List Int) g__2 g__2h, Es (List Int) g__3 g__3h, Es (List Int) s5735_0 g5736, Es (List Int) a5641_3 h5646]) ?_ ?_
                  · skip
                    cases s5735_1
                    · have hF5766 := condF hF5764; clear hF5764
                      obtain ⟨y5767, e, hF5768⟩ := bindS hF5766; clear hF5766
                      have ey5767 := e; clear e
                      refine callF (spec_l1Has_c s5735_0 g5736 a5751 y5767 ey5767) (Γi := []) H ⟨Vw.sh 4 rfl, trivial⟩ ?_; clear H ey5767
                      rintro _ _ w5769 ⟨rfl, rfl⟩ (H : Cx w0 fp0 S0 w5769 [Bx b6 [(.int .i64 g__0), (g__1h).v, (g__2h).v, (g__3h).v], Es (List (Int × Int × List Int × List Int)) g__1 g__1h, Es (List Int) g__2 g__2h, Es (List Int) g__3 g__3h, Es (List Int) s5735_0 g5736, Es (List Int) a5641_3 h5646])
                      obtain ⟨a5770, e, hF5771⟩ := bindS hF5768; clear hF5768
                      refine boolO e ?_; clear e
                      exact ⟨a5770, ⟨rfl, rfl, rfl, rfl, rfl, rfl, rfl, rfl, rfl, rfl, trivial⟩, Option.some.inj hF5771, H.sel [0, 1, 2, 3, 4, 5] rfl⟩
                    · have hF5772 := condT hF5764; clear hF5764
                      exact ⟨true, ⟨rfl, rfl, rfl, rfl, rfl, rfl, rfl, rfl, rfl, rfl, trivial⟩, Option.some.inj hF5772, H.sel [0, 1, 2, 3, 4, 5] rfl⟩
                  · clear hF5764 H
                    rintro T5774 s5760 w5773 ⟨hr, (H : Cx w0 fp0 S0 w5773 [Bx b6 [(.int .i64 g__0), (g__1h).v, (g__2h).v, (g__3h).v], Es (List (Int × Int × List Int × List Int)) g__1 g__1h, Es (List Int) g__2 g__2h, Es (List Int) g__3 g__3h, Es (List Int) s5735_0 g5736, Es (List Int) a5641_3 h5646])⟩
                    subst hr
                    obtain ⟨y5775, e, hF5776⟩ := bindS hF5763; clear hF5763
                    have ey5775 := e; clear e
                    refine callS (spec_l1Put_c s5735_0 g5736 a5751 y5775 ey5775) (Γi := []) H [4] rfl (persC persS persN) ?_; clear H ey5775
                    rintro _ _ w5777 ⟨h5778, rfl, rfl⟩ (H : Cx w0 fp0 S0 w5777 [Es (List Int) y5775 h5778, Bx b6 [(.int .i64 g__0), (g__1h).v, (g__2h).v, (g__3h).v], Es (List (Int × Int × List Int × List Int)) g__1 g__1h, Es (List Int) g__2 g__2h, Es (List Int) g__3 g__3h, Es (List Int) s5735_0 g5736, Es (List Int) a5641_3 h5646])
                    refine arK hk hmx5738 ?_
                    have hs := Option.some.inj hF5776; subst hs; clear hF5776
                    exact ⟨h5778, ⟨rfl, rfl, rfl, rfl, rfl, rfl, rfl, rfl, rfl, trivial⟩, H.sel [1, 2, 3, 4, 0, 6] rfl⟩
                · clear H e
                  obtain ⟨s5782_0, s5782_1⟩ := r5739
                  rintro T5781 g5783 w5780 (H : Cx w0 fp0 S0 w5780 [Bx b6 [(.int .i64 g__0), (g__1h).v, (g__2h).v, (g__3h).v], Es (List (Int × Int × List Int × List Int)) g__1 g__1h, Es (List Int) g__2 g__2h, Es (List Int) g__3 g__3h, Es (List Int) s5782_0 g5783, Es (List Int) a5641_3 h5646])
                  refine boolE (z := false) geLen ?_
                  refine sq ?_
                  exact ⟨((s5782_0, s5782_1), g5783), ⟨rfl, rfl, rfl, rfl, rfl, rfl, trivial⟩, Option.some.inj hF5740, H.sel [0, 1, 2, 3, 4] rfl⟩
              · have hF5785 := condT hF5657; clear hF5657
                exact ⟨((s5467_0, s5467_1), g5468), ⟨rfl, rfl, rfl, rfl, rfl, rfl, trivial⟩, Option.some.inj hF5785, H.sel [3, 4, 5, 6, 7] rfl⟩
            · clear hF5633 H
              rintro T5787 ⟨⟨s5628_0, s5628_1⟩, g5629⟩ w5786 ⟨hr, (H : Cx w0 fp0 S0 w5786 [Bx b6 [(.int .i64 g__0), (g__1h).v, (g__2h).v, (g__3h).v], Es (List (Int × Int × List Int × List Int)) g__1 g__1h, Es (List Int) g__2 g__2h, Es (List Int) g__3 g__3h, Es (List Int) s5628_0 g5629])⟩
              subst hr
              refine arK hk hmx5470 ?_
              have hs := Option.some.inj hF5632; subst hs; clear hF5632
              exact ⟨g5629, ⟨rfl, rfl, rfl, rfl, rfl, rfl, trivial⟩, H.sel [0, 1, 2, 3, 4] rfl⟩
          · clear H e
            obtain ⟨s5790_0, s5790_1⟩ := r5471
            rintro T5789 g5791 w5788 (H : Cx w0 fp0 S0 w5788 [Bx b6 [(.int .i64 g__0), (g__1h).v, (g__2h).v, (g__3h).v], Es (List (Int × Int × List Int × List Int)) g__1 g__1h, Es (List Int) g__2 g__2h, Es (List Int) g__3 g__3h, Es (List Int) s5790_0 g5791])
            refine boolE (z := false) geLen ?_
            refine sq ?_
            have hs := Option.some.inj hF5472; subst hs; clear hF5472
            exact ⟨(s5790_0, s5790_1), g5791, rfl, ⟨rfl, rfl, rfl, trivial⟩, H.sel [0, 1, 2, 3, 4] rfl⟩
    · clear hF2933 H
      rintro T5794 ⟨s2928, g2929⟩ w5793 ⟨hr, (H : Cx w0 fp0 S0 w5793 [Es (List Int) s2928 g2929])⟩
      subst hr
      cases hF2932
      exact ⟨_, _, rfl, ⟨g2929, rfl, rfl⟩, (H.sel [0] rfl)⟩

theorem spec_l1Own_c (l_ : List Int) (l_h : Hd) (y : List Int) (hF : F_spec_l1Own l_ = some y) :
    ConF Try.prog 97 #[(l_h).v] [Es (List Int) l_ l_h] [] (fun v Γ' => ∃ z0 : Hd, v = (z0).v ∧ Γ' = [E (List Int) y z0]) := by
  intro w0 S0 fp0 hI hS
  have H : Cx w0 fp0 S0 w0 [Es (List Int) l_ l_h] := Cx.start hI hS
  clear hI hS
  refine enterC (args := [_]) gok Try.func97 rfl _ rfl rfl rfl ?_
  refine lit0 (α := Int) gok rfl rfl H ?_; clear H; intro h3 w2 hx H
  clear hx
  obtain ⟨a5, e, hF6⟩ := bindS hF; clear hF
  refine appendS (α := Int) gok rfl rfl rfl rfl H (Vw.sh 0 rfl) e ?_; clear e H; intro h8 w7 H
  cases hF6
  exact ⟨_, _, rfl, ⟨h8, rfl, rfl⟩, (H.sel [0] rfl).close ⟨cloE, trivial⟩⟩

theorem spec_tmMirrorKind_c (kind_ : Int) (y : Int) (hF : F_spec_tmMirrorKind kind_ = some y) :
    ConF Try.prog 135 #[(.int .i64 kind_)] [] [] (fun v Γ' => v = (.int .i64 y) ∧ Γ' = []) := by
  intro w0 S0 fp0 hI hS
  have H : Cx w0 fp0 S0 w0 [] := Cx.start hI hS
  clear hI hS
  refine enterC (args := [_]) gok Try.func135 rfl _ rfl rfl rfl ?_
  refine sq ?_
  obtain ⟨y1, e, hF2⟩ := bindS hF; clear hF
  have ey1 := e; clear e
  refine callF (spec_l1In_c kind_ 3 8 y1 ey1) (Γi := []) H trivial ?_; clear H ey1
  rintro _ _ w3 ⟨rfl, rfl⟩ (H : Cx w0 fp0 S0 w3 [])
  cases y1
  · have hF4 := condF hF2; clear hF2
    obtain ⟨y5, e, hF6⟩ := bindS hF4; clear hF4
    have ey5 := e; clear e
    refine callF (spec_l1In_c kind_ 9 14 y5 ey5) (Γi := []) H trivial ?_; clear H ey5
    rintro _ _ w7 ⟨rfl, rfl⟩ (H : Cx w0 fp0 S0 w7 [])
    cases y5
    · have hF8 := condF hF6; clear hF6
      cases hF8
      exact ⟨_, _, rfl, ⟨rfl, rfl⟩, (H.sel [] rfl).close trivial⟩
    · have hF9 := condT hF6; clear hF6
      obtain ⟨a10, e, hF11⟩ := bindS hF9; clear hF9
      refine arO e ?_; clear e
      cases hF11
      exact ⟨_, _, rfl, ⟨rfl, rfl⟩, (H.sel [] rfl).close trivial⟩
  · have hF12 := condT hF2; clear hF2
    obtain ⟨a13, e, hF14⟩ := bindS hF12; clear hF12
    refine arO e ?_; clear e
    cases hF14
    exact ⟨_, _, rfl, ⟨rfl, rfl⟩, (H.sel [] rfl).close trivial⟩

theorem spec_hgMirror_c (g__0 : Int) (g__1 : List (Int × Int × List Int × List Int)) (g__1h : Hd) (g__2 : List Int) (g__2h : Hd) (g__3 : List Int) (g__3h : Hd) (y_0 : Int) (y_1 : List (Int × Int × List Int × List Int)) (y_2 : List Int) (y_3 : List Int) (hF : F_spec_hgMirror (g__0, g__1, g__2, g__3) = some (y_0, y_1, y_2, y_3)) :
    ConF Try.prog 103 #[(.agg #[(.int .i64 g__0), (g__1h).v, (g__2h).v, (g__3h).v])] [Es (List (Int × Int × List Int × List Int)) g__1 g__1h, Es (List Int) g__2 g__2h, Es (List Int) g__3 g__3h] [] (fun v Γ' => ∃ z0 z1 z2 : Hd, v = (.agg #[(.int .i64 y_0), (z0).v, (z1).v, (z2).v]) ∧ Γ' = [E (List (Int × Int × List Int × List Int)) y_1 z0, E (List Int) y_2 z1, E (List Int) y_3 z2]) := by
  intro w0 S0 fp0 hI hS
  have H : Cx w0 fp0 S0 w0 [Es (List (Int × Int × List Int × List Int)) g__1 g__1h, Es (List Int) g__2 g__2h, Es (List Int) g__3 g__3h] := Cx.start hI hS
  clear hI hS
  refine enterC (args := [_]) gok Try.func103 rfl _ rfl rfl rfl ?_
  refine box_ H ?_; clear H; intro b5 w4 hx H
  clear hx
  replace H : Cx w0 fp0 S0 w4 [Bx b5 [(.int .i64 g__0), (g__1h).v, (g__2h).v, (g__3h).v], Es (List (Int × Int × List Int × List Int)) g__1 g__1h, Es (List Int) g__2 g__2h, Es (List Int) g__3 g__3h] := H
  refine alloc_ gok rfl H ?_; clear H; intro b8 w7 hx H
  clear hx
  replace H : Cx w0 fp0 S0 w7 [Bx b8 [(.int .i64 0), (.slice none 0 0), (.slice none 0 0), (.slice none 0 0)], Bx b5 [(.int .i64 g__0), (g__1h).v, (g__2h).v, (g__3h).v], Es (List (Int × Int × List Int × List Int)) g__1 g__1h, Es (List Int) g__2 g__2h, Es (List Int) g__3 g__3h] := H
  obtain ⟨r79, hF81, hF80⟩ := bindS hF; clear hF
  refine heldJ H [10] (.fst 0 (.fst 2 (.fst 5 (.fst 1 (.fst 3 (.fst 6 (.alts (.alt 4 (.alts (.alt 7 (.fst 8 (.act 9 (.act 10 .done))) (.alt 9 (.act 7 (.fst 8 (.act 10 .done))) .no))) (.alt 9 (.act 4 (.act 7 (.fst 8 (.act 10 .done)))) .no))))))))) mixed [] trivial (by kernel_rfl) (fun (q82 : (Int × List Int × List Int) × (Hd × Hd × Nat)) => [(1, (.pointer (some ⟨b5, 0, none⟩))), (2, (.pointer (some ⟨b8, 0, none⟩))), (3, (.pointer (some ⟨q82.2.2.2, 0, none⟩)))]) (fun (q82 : (Int × List Int × List Int) × (Hd × Hd × Nat)) w' => (q82.1.1, q82.1.2.1, q82.1.2.2) = r79 ∧ Cx w0 fp0 S0 w' [Bx b5 [(.int .i64 g__0), (g__1h).v, (g__2h).v, (g__3h).v], Es (List (Int × Int × List Int × List Int)) g__1 g__1h, Es (List Int) g__2 g__2h, Es (List Int) g__3 g__3h, Bx b8 [(.int .i64 0), (.slice none 0 0), (.slice none 0 0), (.slice none 0 0)], Bx q82.2.2.2 [(.int .i64 q82.1.1), (.slice none 0 0), (q82.2.1).v, (q82.2.2.1).v], E (List Int) q82.1.2.1 q82.2.1, E (List Int) q82.1.2.2 q82.2.2.1]) ?_ ?_
  · skip
    clear H; intro w83 H
    have hX : Ext w83 w83 := Upd.refl _ _
    have H0 := H
    refine anyH (fun _ => fld gok rfl rfl rfl rfl ⟨rfl, rfl⟩) ?_
    refine anyH (fun _ => fld gok rfl rfl rfl rfl ⟨rfl, rfl⟩) ?_
    refine anyH (fun _ => fld gok rfl rfl rfl rfl ⟨rfl, rfl⟩) ?_
    refine load1X (H.bx 1 rfl (j := 0) rfl) ?_
    refine load1X (H.bx 1 rfl (j := 3) rfl) ?_
    refine load1X (H.bx 1 rfl (j := 2) rfl) ?_
    refine both ?_ ?_
    · skip
      obtain ⟨y98, e, hF99⟩ := bindS hF81; clear hF81
      have ey98 := e; clear e
      refine callFx (spec_l1Own_c g__3 g__3h y98 ey98) H ⟨Vw.sh 4 rfl, trivial⟩ ?_; clear H ey98
      rintro _ _ w100 ⟨h101, rfl, rfl⟩ hx (H : Cx w0 fp0 S0 w100 [E (List Int) y98 h101, Bx b8 [(.int .i64 0), (.slice none 0 0), (.slice none 0 0), (.slice none 0 0)], Bx b5 [(.int .i64 g__0), (g__1h).v, (g__2h).v, (g__3h).v], Es (List (Int × Int × List Int × List Int)) g__1 g__1h, Es (List Int) g__2 g__2h, Es (List Int) g__3 g__3h])
      replace hX := hX.trans0 hx; clear hx
      refine hold hX ?_
      refine both ?_ ?_
      · skip
        obtain ⟨y112, e, hF113⟩ := bindS hF99; clear hF99
        have ey112 := e; clear e
        refine callFx (spec_l1Own_c g__2 g__2h y112 ey112) H ⟨Vw.sh 4 rfl, trivial⟩ ?_; clear H ey112
        rintro _ _ w114 ⟨h115, rfl, rfl⟩ hx (H : Cx w0 fp0 S0 w114 [E (List Int) y112 h115, E (List Int) y98 h101, Bx b8 [(.int .i64 0), (.slice none 0 0), (.slice none 0 0), (.slice none 0 0)], Bx b5 [(.int .i64 g__0), (g__1h).v, (g__2h).v, (g__3h).v], Es (List (Int × Int × List Int × List Int)) g__1 g__1h, Es (List Int) g__2 g__2h, Es (List Int) g__3 g__3h])
        replace hX := hX.trans0 hx; clear hx
        refine hold hX ?_
        refine anyH (fun _ => build_ (cs := #[(.int .i64 g__0), (.slice none 0 0), (h101).v, (h115).v]) gok rfl rfl rfl ⟨rfl, rfl⟩) ?_
        refine alloc_ gok rfl H ?_; clear H; intro b118 w117 hx H
        replace hX := hX.trans0 hx; clear hx
        replace H : Cx w0 fp0 S0 w117 [Bx b118 [(.int .i64 0), (.slice none 0 0), (.slice none 0 0), (.slice none 0 0)], E (List Int) y112 h115, E (List Int) y98 h101, Bx b8 [(.int .i64 0), (.slice none 0 0), (.slice none 0 0), (.slice none 0 0)], Bx b5 [(.int .i64 g__0), (g__1h).v, (g__2h).v, (g__3h).v], Es (List (Int × Int × List Int × List Int)) g__1 g__1h, Es (List Int) g__2 g__2h, Es (List Int) g__3 g__3h] := H
        refine hold hX ?_
        refine stA gok [(.int .i64 g__0), (.slice none 0 0), (h101).v, (h115).v] rfl H rfl rfl rfl ?_; clear H; intro w120 H
        replace H : Cx w0 fp0 S0 w120 [Bx b118 [(.int .i64 g__0), (.slice none 0 0), (h101).v, (h115).v], E (List Int) y112 h115, E (List Int) y98 h101, Bx b8 [(.int .i64 0), (.slice none 0 0), (.slice none 0 0), (.slice none 0 0)], Bx b5 [(.int .i64 g__0), (g__1h).v, (g__2h).v, (g__3h).v], Es (List (Int × Int × List Int × List Int)) g__1 g__1h, Es (List Int) g__2 g__2h, Es (List Int) g__3 g__3h] := H
        refine hold trivial ?_
        exact ⟨((g__0, y98, y112), (h101, h115, b118)), ⟨rfl, rfl, rfl, trivial⟩, Option.some.inj hF113, H.sel [4, 5, 6, 7, 3, 0, 2, 1] rfl⟩
      · skip
        refine both ?_ ?_
        · skip
          obtain ⟨a121, eq122, hF123⟩ := bindS hF99; clear hF99
          refine alloc_ gok rfl H ?_; clear H; intro b125 w124 hx H
          replace hX := hX.trans0 hx; clear hx
          replace H : Cx w0 fp0 S0 w124 [Bx b125 [(.int .i64 0), (.slice none 0 0), (.slice none 0 0), (.slice none 0 0)], E (List Int) y98 h101, Bx b8 [(.int .i64 0), (.slice none 0 0), (.slice none 0 0), (.slice none 0 0)], Bx b5 [(.int .i64 g__0), (g__1h).v, (g__2h).v, (g__3h).v], Es (List (Int × Int × List Int × List Int)) g__1 g__1h, Es (List Int) g__2 g__2h, Es (List Int) g__3 g__3h] := H
          refine hold hX ?_
          have e := eq122; clear eq122
          have ea121 := e; clear e
          refine callFx (spec_l1Own_c g__2 g__2h a121 ea121) H ⟨Vw.sh 5 rfl, trivial⟩ ?_; clear H ea121
          rintro _ _ w127 ⟨h128, rfl, rfl⟩ hx (H : Cx w0 fp0 S0 w127 [E (List Int) a121 h128, Bx b125 [(.int .i64 0), (.slice none 0 0), (.slice none 0 0), (.slice none 0 0)], E (List Int) y98 h101, Bx b8 [(.int .i64 0), (.slice none 0 0), (.slice none 0 0), (.slice none 0 0)], Bx b5 [(.int .i64 g__0), (g__1h).v, (g__2h).v, (g__3h).v], Es (List (Int × Int × List Int × List Int)) g__1 g__1h, Es (List Int) g__2 g__2h, Es (List Int) g__3 g__3h])
          replace hX := hX.trans0 hx; clear hx
          refine hold hX ?_
          refine anyH (fun _ => build_ (cs := #[(.int .i64 g__0), (.slice none 0 0), (h101).v, (h128).v]) gok rfl rfl rfl ⟨rfl, rfl⟩) ?_
          replace H := H.sel [1, 0, 2, 3, 4, 5, 6, 7] rfl
          refine stA gok [(.int .i64 g__0), (.slice none 0 0), (h101).v, (h128).v] rfl H rfl rfl rfl ?_; clear H; intro w130 H
          replace H : Cx w0 fp0 S0 w130 [Bx b125 [(.int .i64 g__0), (.slice none 0 0), (h101).v, (h128).v], E (List Int) a121 h128, E (List Int) y98 h101, Bx b8 [(.int .i64 0), (.slice none 0 0), (.slice none 0 0), (.slice none 0 0)], Bx b5 [(.int .i64 g__0), (g__1h).v, (g__2h).v, (g__3h).v], Es (List (Int × Int × List Int × List Int)) g__1 g__1h, Es (List Int) g__2 g__2h, Es (List Int) g__3 g__3h] := H
          refine hold trivial ?_
          exact ⟨((g__0, y98, a121), (h101, h128, b125)), ⟨rfl, rfl, rfl, trivial⟩, Option.some.inj hF123, H.sel [4, 5, 6, 7, 3, 0, 2, 1] rfl⟩
        · skip
          exact trivial
    · skip
      refine both ?_ ?_
      · skip
        obtain ⟨a131, eq132, hF133⟩ := bindS hF81; clear hF81
        obtain ⟨a134, eq135, hF136⟩ := bindS hF133; clear hF133
        refine alloc_ gok rfl H ?_; clear H; intro b138 w137 hx H
        replace hX := hX.trans0 hx; clear hx
        replace H : Cx w0 fp0 S0 w137 [Bx b138 [(.int .i64 0), (.slice none 0 0), (.slice none 0 0), (.slice none 0 0)], Bx b8 [(.int .i64 0), (.slice none 0 0), (.slice none 0 0), (.slice none 0 0)], Bx b5 [(.int .i64 g__0), (g__1h).v, (g__2h).v, (g__3h).v], Es (List (Int × Int × List Int × List Int)) g__1 g__1h, Es (List Int) g__2 g__2h, Es (List Int) g__3 g__3h] := H
        refine hold hX ?_
        have e := eq132; clear eq132
        have ea131 := e; clear e
        refine callFx (spec_l1Own_c g__3 g__3h a131 ea131) H ⟨Vw.sh 5 rfl, trivial⟩ ?_; clear H ea131
        rintro _ _ w140 ⟨h141, rfl, rfl⟩ hx (H : Cx w0 fp0 S0 w140 [E (List Int) a131 h141, Bx b138 [(.int .i64 0), (.slice none 0 0), (.slice none 0 0), (.slice none 0 0)], Bx b8 [(.int .i64 0), (.slice none 0 0), (.slice none 0 0), (.slice none 0 0)], Bx b5 [(.int .i64 g__0), (g__1h).v, (g__2h).v, (g__3h).v], Es (List (Int × Int × List Int × List Int)) g__1 g__1h, Es (List Int) g__2 g__2h, Es (List Int) g__3 g__3h])
        replace hX := hX.trans0 hx; clear hx
        refine hold hX ?_
        have e := eq135; clear eq135
        have ea134 := e; clear e
        refine callFx (spec_l1Own_c g__2 g__2h a134 ea134) H ⟨Vw.sh 5 rfl, trivial⟩ ?_; clear H ea134
        rintro _ _ w143 ⟨h144, rfl, rfl⟩ hx (H : Cx w0 fp0 S0 w143 [E (List Int) a134 h144, E (List Int) a131 h141, Bx b138 [(.int .i64 0), (.slice none 0 0), (.slice none 0 0), (.slice none 0 0)], Bx b8 [(.int .i64 0), (.slice none 0 0), (.slice none 0 0), (.slice none 0 0)], Bx b5 [(.int .i64 g__0), (g__1h).v, (g__2h).v, (g__3h).v], Es (List (Int × Int × List Int × List Int)) g__1 g__1h, Es (List Int) g__2 g__2h, Es (List Int) g__3 g__3h])
        replace hX := hX.trans0 hx; clear hx
        refine hold hX ?_
        refine anyH (fun _ => build_ (cs := #[(.int .i64 g__0), (.slice none 0 0), (h141).v, (h144).v]) gok rfl rfl rfl ⟨rfl, rfl⟩) ?_
        replace H := H.sel [2, 0, 1, 3, 4, 5, 6, 7] rfl
        refine stA gok [(.int .i64 g__0), (.slice none 0 0), (h141).v, (h144).v] rfl H rfl rfl rfl ?_; clear H; intro w146 H
        replace H : Cx w0 fp0 S0 w146 [Bx b138 [(.int .i64 g__0), (.slice none 0 0), (h141).v, (h144).v], E (List Int) a134 h144, E (List Int) a131 h141, Bx b8 [(.int .i64 0), (.slice none 0 0), (.slice none 0 0), (.slice none 0 0)], Bx b5 [(.int .i64 g__0), (g__1h).v, (g__2h).v, (g__3h).v], Es (List (Int × Int × List Int × List Int)) g__1 g__1h, Es (List Int) g__2 g__2h, Es (List Int) g__3 g__3h] := H
        refine hold trivial ?_
        exact ⟨((g__0, a131, a134), (h141, h144, b138)), ⟨rfl, rfl, rfl, trivial⟩, Option.some.inj hF136, H.sel [4, 5, 6, 7, 3, 0, 2, 1] rfl⟩
      · skip
        exact trivial
  · clear hF81 H
    rintro T148 ⟨⟨s74_0, s74_1, s74_2⟩, ⟨g75_0, g75_1, g75_2⟩⟩ w147 ⟨hr, (H : Cx w0 fp0 S0 w147 [Bx b5 [(.int .i64 g__0), (g__1h).v, (g__2h).v, (g__3h).v], Es (List (Int × Int × List Int × List Int)) g__1 g__1h, Es (List Int) g__2 g__2h, Es (List Int) g__3 g__3h, Bx b8 [(.int .i64 0), (.slice none 0 0), (.slice none 0 0), (.slice none 0 0)], Bx g75_2 [(.int .i64 s74_0), (.slice none 0 0), (g75_0).v, (g75_1).v], E (List Int) s74_1 g75_0, E (List Int) s74_2 g75_1])⟩
    subst hr
    refine sq ?_
    refine fld gok rfl rfl rfl rfl ?_
    refine load1 (H.bx 0 rfl (j := 1) rfl) ?_
    refine lenE (H.rs (α := List (Int × Int × List Int × List Int)) 1 rfl).len ?_
    have hmx251 := (H.rs (α := List (Int × Int × List Int × List Int)) 1 rfl).max
    obtain ⟨r252, e, hF253⟩ := bindS hF80; clear hF80
    replace H := H.nil (α := Int × Int × List Int × List Int)
    refine loopS _ g__1.length (fun (k149 : Nat) (s248 : List (Int × Int × List Int × List Int)) (g249 : Hd) => [(2, (.pointer (some ⟨b8, 0, none⟩))), (3, (.pointer (some ⟨g75_2, 0, none⟩))), (16, (g__1h).v), (17, (.int .i64 ((g__1.length : Nat) : Int))), (18, (.int .i64 ((k149 : Nat) : Int)))]) (fun _ (s248 : List (Int × Int × List Int × List Int)) (g249 : Hd) w' => Cx w0 fp0 S0 w' [Bx b8 [(.int .i64 0), (.slice none 0 0), (.slice none 0 0), (.slice none 0 0)], Bx g75_2 [(.int .i64 s74_0), (g249).v, (g75_0).v, (g75_1).v], E (List (Int × Int × List Int × List Int)) s248 g249, E (List Int) s74_1 g75_0, E (List Int) s74_2 g75_1, Es (List (Int × Int × List Int × List Int)) g__1 g__1h]) [] nilH e ⟨rfl, rfl, rfl, rfl, rfl, trivial⟩ (H.sel [5, 6, 0, 7, 8, 2] rfl) ?_ ?_
    · clear H e
      rintro T256 k149 s248 g249 w255 o257 hk (H : Cx w0 fp0 S0 w255 [Bx b8 [(.int .i64 0), (.slice none 0 0), (.slice none 0 0), (.slice none 0 0)], Bx g75_2 [(.int .i64 s74_0), (g249).v, (g75_0).v, (g75_1).v], E (List (Int × Int × List Int × List Int)) s248 g249, E (List Int) s74_1 g75_0, E (List Int) s74_2 g75_1, Es (List (Int × Int × List Int × List Int)) g__1 g__1h]) hF258
      refine boolE (z := true) (ltLen hk) ?_
      refine sq ?_
      refine sq ?_
      obtain ⟨a265, e, hF266⟩ := bindS hF258; clear hF258
      have HH := H; clear H; obtain ⟨p263, m264, g267, c259, c260, c261, c262, H⟩ := HH.el (α := Int × Int × List Int × List Int) 5 rfl e; clear HH
      clear e
      obtain ⟨a265_0, a265_1, a265_2, a265_3⟩ := a265
      obtain ⟨_, _, h269, h270⟩ := g267
      replace H := H.part (β := List Int) a265_2 (h269 : Hd) 0 rfl (fun S h => (And.left (And.right (And.right h))))
      replace H := H.part (β := List Int) a265_3 (h270 : Hd) 1 rfl (fun S h => (And.right (And.right (And.right h))))
      replace H := H.sel [0, 1, 3, 4, 5, 6, 7, 8] rfl
      refine idxE c259 c260 c261 ?_; clear c259 c260 c261
      refine loadN [(.int .i64 a265_0), (.int .i64 a265_1), (h269).v, (h270).v] rfl c262 ?_; clear c262
      refine alloc_ gok rfl H ?_; clear H; intro b274 w273 hx H
      clear hx
      replace H : Cx w0 fp0 S0 w273 [Bx b274 [(.int .i64 0), (.int .i64 0), (.slice none 0 0), (.slice none 0 0)], Es (List Int) a265_3 h270, Es (List Int) a265_2 h269, Bx b8 [(.int .i64 0), (.slice none 0 0), (.slice none 0 0), (.slice none 0 0)], Bx g75_2 [(.int .i64 s74_0), (g249).v, (g75_0).v, (g75_1).v], E (List (Int × Int × List Int × List Int)) s248 g249, E (List Int) s74_1 g75_0, E (List Int) s74_2 g75_1, Es (List (Int × Int × List Int × List Int)) g__1 g__1h] := H
      refine stA gok [(.int .i64 a265_0), (.int .i64 a265_1), (h269).v, (h270).v] rfl H rfl rfl rfl ?_; clear H; intro w276 H
      replace H : Cx w0 fp0 S0 w276 [Bx b274 [(.int .i64 a265_0), (.int .i64 a265_1), (h269).v, (h270).v], Es (List Int) a265_3 h270, Es (List Int) a265_2 h269, Bx b8 [(.int .i64 0), (.slice none 0 0), (.slice none 0 0), (.slice none 0 0)], Bx g75_2 [(.int .i64 s74_0), (g249).v, (g75_0).v, (g75_1).v], E (List (Int × Int × List Int × List Int)) s248 g249, E (List Int) s74_1 g75_0, E (List Int) s74_2 g75_1, Es (List (Int × Int × List Int × List Int)) g__1 g__1h] := H
      refine heldX H [15, 17, 16] (.fst 0 (.fst 2 (.fst 5 (.fst 7 (.fst 10 (.fst 1 (.fst 3 (.fst 6 (.fst 8 (.fst 11 (.act 4 (.act 9 (.act 12 (.fst 13 (.act 14 (.act 15 (.act 16 (.act 17 .done)))))))))))))))))) mixed [] trivial (by kernel_rfl) ?_
      clear H; intro w277 H
      have hX : Ext w277 w277 := Upd.refl _ _
      have H0 := H
      refine anyH (fun _ => fld gok rfl rfl rfl rfl ⟨rfl, rfl⟩) ?_
      refine anyH (fun _ => fld gok rfl rfl rfl rfl ⟨rfl, rfl⟩) ?_
      refine anyH (fun _ => fld gok rfl rfl rfl rfl ⟨rfl, rfl⟩) ?_
      refine anyH (fun _ => fld gok rfl rfl rfl rfl ⟨rfl, rfl⟩) ?_
      refine anyH (fun _ => fld gok rfl rfl rfl rfl ⟨rfl, rfl⟩) ?_
      refine load1X (H.bx 4 rfl (j := 1) rfl) ?_
      refine load1X (H.bx 0 rfl (j := 0) rfl) ?_
      refine load1X (H.bx 0 rfl (j := 1) rfl) ?_
      refine load1X (H.bx 0 rfl (j := 3) rfl) ?_
      refine load1X (H.bx 0 rfl (j := 2) rfl) ?_
      obtain ⟨y278, e, hF279⟩ := bindS hF266; clear hF266
      have ey278 := e; clear e
      refine callFx (spec_tmMirrorKind_c a265_0 y278 ey278) H trivial ?_; clear H ey278
      rintro _ _ w280 ⟨rfl, rfl⟩ hx (H : Cx w0 fp0 S0 w280 [Bx b274 [(.int .i64 a265_0), (.int .i64 a265_1), (h269).v, (h270).v], Es (List Int) a265_3 h270, Es (List Int) a265_2 h269, Bx b8 [(.int .i64 0), (.slice none 0 0), (.slice none 0 0), (.slice none 0 0)], Bx g75_2 [(.int .i64 s74_0), (g249).v, (g75_0).v, (g75_1).v], E (List (Int × Int × List Int × List Int)) s248 g249, E (List Int) s74_1 g75_0, E (List Int) s74_2 g75_1, Es (List (Int × Int × List Int × List Int)) g__1 g__1h])
      replace hX := hX.trans0 hx; clear hx
      refine hold hX ?_
      obtain ⟨y281, e, hF282⟩ := bindS hF279; clear hF279
      have ey281 := e; clear e
      refine callFx (spec_l1Own_c a265_3 h270 y281 ey281) H ⟨Vw.sh 1 rfl, trivial⟩ ?_; clear H ey281
      rintro _ _ w283 ⟨h284, rfl, rfl⟩ hx (H : Cx w0 fp0 S0 w283 [E (List Int) y281 h284, Bx b274 [(.int .i64 a265_0), (.int .i64 a265_1), (h269).v, (h270).v], Es (List Int) a265_3 h270, Es (List Int) a265_2 h269, Bx b8 [(.int .i64 0), (.slice none 0 0), (.slice none 0 0), (.slice none 0 0)], Bx g75_2 [(.int .i64 s74_0), (g249).v, (g75_0).v, (g75_1).v], E (List (Int × Int × List Int × List Int)) s248 g249, E (List Int) s74_1 g75_0, E (List Int) s74_2 g75_1, Es (List (Int × Int × List Int × List Int)) g__1 g__1h])
      replace hX := hX.trans0 hx; clear hx
      refine hold hX ?_
      obtain ⟨y286, e, hF287⟩ := bindS hF282; clear hF282
      have ey286 := e; clear e
      refine callFx (spec_l1Own_c a265_2 h269 y286 ey286) H ⟨Vw.sh 3 rfl, trivial⟩ ?_; clear H ey286
      rintro _ _ w288 ⟨h289, rfl, rfl⟩ hx (H : Cx w0 fp0 S0 w288 [E (List Int) y286 h289, E (List Int) y281 h284, Bx b274 [(.int .i64 a265_0), (.int .i64 a265_1), (h269).v, (h270).v], Es (List Int) a265_3 h270, Es (List Int) a265_2 h269, Bx b8 [(.int .i64 0), (.slice none 0 0), (.slice none 0 0), (.slice none 0 0)], Bx g75_2 [(.int .i64 s74_0), (g249).v, (g75_0).v, (g75_1).v], E (List (Int × Int × List Int × List Int)) s248 g249, E (List Int) s74_1 g75_0, E (List Int) s74_2 g75_1, Es (List (Int × Int × List Int × List Int)) g__1 g__1h])
      replace hX := hX.trans0 hx; clear hx
      refine hold hX ?_
      refine anyH (fun _ => build_ (cs := #[(.int .i64 y278), (.int .i64 a265_1), (h284).v, (h289).v]) gok rfl rfl rfl ⟨rfl, rfl⟩) ?_
      replace H := H.sel [1, 0, 2, 3, 4, 5, 6, 7, 8, 9, 10] rfl
      replace H := H.join (α := List Int) (β := List Int)
      replace H := H.sc (α := Int) a265_1
      replace H := H.join (α := Int) (β := List Int × List Int)
      replace H := H.sc (α := Int) y278
      replace H := H.join (α := Int) (β := Int × List Int × List Int)
      refine lit1 (α := Int × Int × List Int × List Int) (g := ((), (), h284, h289)) gok rfl rfl rfl rfl rfl H ?_; clear H; intro h292 w291 hx H
      replace hX := hX.trans0 hx; clear hx
      refine hold hX ?_
      obtain ⟨a299, e, hF300⟩ := bindS hF287; clear hF287
      replace H := H.sel [6, 0, 1, 2, 3, 4, 5, 7, 8, 9] rfl
      refine append_ (α := Int × Int × List Int × List Int) gok rfl rfl rfl rfl H e ?_; clear e H; intro h302 w301 H
      refine hold trivial ?_
      refine fld gok rfl rfl rfl rfl ?_
      refine hold trivial ?_
      replace H := H.sel [5, 0, 1, 2, 3, 4, 6, 7, 8] rfl
      refine stB (j := 1) H rfl rfl ?_; clear H; intro w304 H
      replace H : Cx w0 fp0 S0 w304 [Bx g75_2 [(.int .i64 s74_0), (h302).v, (g75_0).v, (g75_1).v], E (List (Int × Int × List Int × List Int)) a299 h302, Bx b274 [(.int .i64 a265_0), (.int .i64 a265_1), (h269).v, (h270).v], Es (List Int) a265_3 h270, Es (List Int) a265_2 h269, Bx b8 [(.int .i64 0), (.slice none 0 0), (.slice none 0 0), (.slice none 0 0)], E (List Int) s74_1 g75_0, E (List Int) s74_2 g75_1, Es (List (Int × Int × List Int × List Int)) g__1 g__1h] := H
      refine hold trivial ?_
      refine arK hk hmx251 ?_
      have hs := Option.some.inj hF300; subst hs; clear hF300
      exact ⟨h302, ⟨rfl, rfl, rfl, rfl, rfl, trivial⟩, H.sel [5, 0, 1, 6, 7, 8] rfl⟩
    · clear H e
      rintro T306 g308 w305 (H : Cx w0 fp0 S0 w305 [Bx b8 [(.int .i64 0), (.slice none 0 0), (.slice none 0 0), (.slice none 0 0)], Bx g75_2 [(.int .i64 s74_0), (g308).v, (g75_0).v, (g75_1).v], E (List (Int × Int × List Int × List Int)) r252 g308, E (List Int) s74_1 g75_0, E (List Int) s74_2 g75_1, Es (List (Int × Int × List Int × List Int)) g__1 g__1h])
      refine boolE (z := false) geLen ?_
      refine sq ?_
      refine loadN [(.int .i64 s74_0), (g308).v, (g75_0).v, (g75_1).v] rfl (fun j u hj => H.bx 1 rfl hj) ?_
      refine stA gok [(.int .i64 s74_0), (g308).v, (g75_0).v, (g75_1).v] rfl H rfl rfl rfl ?_; clear H; intro w310 H
      replace H : Cx w0 fp0 S0 w310 [Bx b8 [(.int .i64 s74_0), (g308).v, (g75_0).v, (g75_1).v], Bx g75_2 [(.int .i64 s74_0), (g308).v, (g75_0).v, (g75_1).v], E (List (Int × Int × List Int × List Int)) r252 g308, E (List Int) s74_1 g75_0, E (List Int) s74_2 g75_1, Es (List (Int × Int × List Int × List Int)) g__1 g__1h] := H
      refine loadN [(.int .i64 s74_0), (g308).v, (g75_0).v, (g75_1).v] rfl (fun j u hj => H.bx 0 rfl hj) ?_
      cases hF253
      exact ⟨_, _, rfl, ⟨g308, g75_0, g75_1, rfl, rfl⟩, (H.sel [2, 3, 4] rfl).close ⟨cloE, cloE, cloE, trivial⟩⟩

theorem spec_mtConvex_c (g__0 : Int) (g__1 : List (Int × Int × List Int × List Int)) (g__1h : Hd) (g__2 : List Int) (g__2h : Hd) (g__3 : List Int) (g__3h : Hd) (left__0 : Int) (left__1 : List (Int × Int × List Int × List Int)) (left__1h : Hd) (left__2 : List Int) (left__2h : Hd) (left__3 : List Int) (left__3h : Hd) (m__0 : List Int) (m__0h : Hd) (m__1 : List Int) (m__1h : Hd) (y : Bool) (hF : F_spec_mtConvex (g__0, g__1, g__2, g__3) (left__0, left__1, left__2, left__3) (m__0, m__1) = some y) :
    ConF Try.prog 64 #[(.agg #[(.int .i64 g__0), (g__1h).v, (g__2h).v, (g__3h).v]), (.agg #[(.int .i64 left__0), (left__1h).v, (left__2h).v, (left__3h).v]), (.agg #[(m__0h).v, (m__1h).v])] [Es (List (Int × Int × List Int × List Int)) g__1 g__1h, Es (List Int) g__2 g__2h, Es (List Int) g__3 g__3h, Es (List (Int × Int × List Int × List Int)) left__1 left__1h, Es (List Int) left__2 left__2h, Es (List Int) left__3 left__3h, Es (List Int) m__0 m__0h, Es (List Int) m__1 m__1h] [] (fun v Γ' => v = (.bool y) ∧ Γ' = []) := by
  intro w0 S0 fp0 hI hS
  have H : Cx w0 fp0 S0 w0 [Es (List (Int × Int × List Int × List Int)) g__1 g__1h, Es (List Int) g__2 g__2h, Es (List Int) g__3 g__3h, Es (List (Int × Int × List Int × List Int)) left__1 left__1h, Es (List Int) left__2 left__2h, Es (List Int) left__3 left__3h, Es (List Int) m__0 m__0h, Es (List Int) m__1 m__1h] := Cx.start hI hS
  clear hI hS
  refine enterC (args := [_, _, _]) gok Try.func64 rfl _ rfl rfl rfl ?_
  refine box_ H ?_; clear H; intro b10 w9 hx H
  clear hx
  replace H : Cx w0 fp0 S0 w9 [Bx b10 [(.int .i64 g__0), (g__1h).v, (g__2h).v, (g__3h).v], Es (List (Int × Int × List Int × List Int)) g__1 g__1h, Es (List Int) g__2 g__2h, Es (List Int) g__3 g__3h, Es (List (Int × Int × List Int × List Int)) left__1 left__1h, Es (List Int) left__2 left__2h, Es (List Int) left__3 left__3h, Es (List Int) m__0 m__0h, Es (List Int) m__1 m__1h] := H
  refine box_ H ?_; clear H; intro b13 w12 hx H
  clear hx
  replace H : Cx w0 fp0 S0 w12 [Bx b13 [(.int .i64 left__0), (left__1h).v, (left__2h).v, (left__3h).v], Bx b10 [(.int .i64 g__0), (g__1h).v, (g__2h).v, (g__3h).v], Es (List (Int × Int × List Int × List Int)) g__1 g__1h, Es (List Int) g__2 g__2h, Es (List Int) g__3 g__3h, Es (List (Int × Int × List Int × List Int)) left__1 left__1h, Es (List Int) left__2 left__2h, Es (List Int) left__3 left__3h, Es (List Int) m__0 m__0h, Es (List Int) m__1 m__1h] := H
  refine box_ H ?_; clear H; intro b16 w15 hx H
  clear hx
  replace H : Cx w0 fp0 S0 w15 [Bx b16 [(m__0h).v, (m__1h).v], Bx b13 [(.int .i64 left__0), (left__1h).v, (left__2h).v, (left__3h).v], Bx b10 [(.int .i64 g__0), (g__1h).v, (g__2h).v, (g__3h).v], Es (List (Int × Int × List Int × List Int)) g__1 g__1h, Es (List Int) g__2 g__2h, Es (List Int) g__3 g__3h, Es (List (Int × Int × List Int × List Int)) left__1 left__1h, Es (List Int) left__2 left__2h, Es (List Int) left__3 left__3h, Es (List Int) m__0 m__0h, Es (List Int) m__1 m__1h] := H
  refine loadN [(.int .i64 g__0), (g__1h).v, (g__2h).v, (g__3h).v] rfl (fun j u hj => H.bx 2 rfl hj) ?_
  refine fld gok rfl rfl rfl rfl ?_
  refine load1 (H.bx 0 rfl (j := 0) rfl) ?_
  obtain ⟨y18, e, hF19⟩ := bindS hF; clear hF
  have ey18 := e; clear e
  refine callS (spec_mtReach_c g__0 g__1 g__1h g__2 g__2h g__3 g__3h m__0 m__0h y18 ey18) (Γi := []) H [3, 4, 5, 9] rfl (persC persS (persC persS (persC persS (persC persS persN)))) ?_; clear H ey18
  rintro _ _ w20 ⟨h21, rfl, rfl⟩ (H : Cx w0 fp0 S0 w20 [Es (List Int) y18 h21, Bx b16 [(m__0h).v, (m__1h).v], Bx b13 [(.int .i64 left__0), (left__1h).v, (left__2h).v, (left__3h).v], Bx b10 [(.int .i64 g__0), (g__1h).v, (g__2h).v, (g__3h).v], Es (List (Int × Int × List Int × List Int)) g__1 g__1h, Es (List Int) g__2 g__2h, Es (List Int) g__3 g__3h, Es (List (Int × Int × List Int × List Int)) left__1 left__1h, Es (List Int) left__2 left__2h, Es (List Int) left__3 left__3h, Es (List Int) m__0 m__0h, Es (List Int) m__1 m__1h])
  refine heldX H [] (.fst 2 (.fst 0 (.fst 3 (.act 1 (.act 4 (.fst 5 .done)))))) mixed [] trivial (by kernel_rfl) ?_
  clear H; intro w23 H
  have hX : Ext w23 w23 := Upd.refl _ _
  have H0 := H
  refine anyH (fun _ => fld gok rfl rfl rfl rfl ⟨rfl, rfl⟩) ?_
  refine loadNX [(.int .i64 g__0), (g__1h).v, (g__2h).v, (g__3h).v] rfl (fun j u hj => H.bx 3 rfl hj) ?_
  refine load1X (H.bx 1 rfl (j := 0) rfl) ?_
  obtain ⟨y24, e, hF25⟩ := bindS hF19; clear hF19
  obtain ⟨y24_0, y24_1, y24_2, y24_3⟩ := y24
  have ey24 := e; clear e
  refine callFx (spec_hgMirror_c g__0 g__1 g__1h g__2 g__2h g__3 g__3h y24_0 y24_1 y24_2 y24_3 ey24) H ⟨Vw.sh 4 rfl, Vw.sh 5 rfl, Vw.sh 6 rfl, trivial⟩ ?_; clear H ey24
  rintro _ _ w26 ⟨h27, h29, h31, rfl, rfl⟩ hx (H : Cx w0 fp0 S0 w26 [E (List (Int × Int × List Int × List Int)) y24_1 h27, E (List Int) y24_2 h29, E (List Int) y24_3 h31, Es (List Int) y18 h21, Bx b16 [(m__0h).v, (m__1h).v], Bx b13 [(.int .i64 left__0), (left__1h).v, (left__2h).v, (left__3h).v], Bx b10 [(.int .i64 g__0), (g__1h).v, (g__2h).v, (g__3h).v], Es (List (Int × Int × List Int × List Int)) g__1 g__1h, Es (List Int) g__2 g__2h, Es (List Int) g__3 g__3h, Es (List (Int × Int × List Int × List Int)) left__1 left__1h, Es (List Int) left__2 left__2h, Es (List Int) left__3 left__3h, Es (List Int) m__0 m__0h, Es (List Int) m__1 m__1h])
  replace hX := hX.trans0 hx; clear hx
  refine hold hX ?_
  obtain ⟨y33, e, hF34⟩ := bindS hF25; clear hF25
  have ey33 := e; clear e
  replace H := H.frz
  replace H := H.sel [1, 0, 2, 3, 4, 5, 6, 7, 8, 9, 10, 11, 12, 13, 14] rfl
  replace H := H.frz
  replace H := H.sel [2, 0, 1, 3, 4, 5, 6, 7, 8, 9, 10, 11, 12, 13, 14] rfl
  replace H := H.frz
  refine callSx (spec_mtReach_c y24_0 y24_1 h27 y24_2 h29 y24_3 h31 m__0 m__0h y33 ey33) H [2, 1, 0, 13] rfl (persC persS (persC persS (persC persS (persC persS persN)))) ?_; clear H ey33
  rintro _ _ w35 ⟨h36, rfl, rfl⟩ hx (H : Cx w0 fp0 S0 w35 [Es (List Int) y33 h36, Es (List Int) y24_3 h31, Es (List Int) y24_2 h29, Es (List (Int × Int × List Int × List Int)) y24_1 h27, Es (List Int) y18 h21, Bx b16 [(m__0h).v, (m__1h).v], Bx b13 [(.int .i64 left__0), (left__1h).v, (left__2h).v, (left__3h).v], Bx b10 [(.int .i64 g__0), (g__1h).v, (g__2h).v, (g__3h).v], Es (List (Int × Int × List Int × List Int)) g__1 g__1h, Es (List Int) g__2 g__2h, Es (List Int) g__3 g__3h, Es (List (Int × Int × List Int × List Int)) left__1 left__1h, Es (List Int) left__2 left__2h, Es (List Int) left__3 left__3h, Es (List Int) m__0 m__0h, Es (List Int) m__1 m__1h])
  replace hX := hX.trans0 hx; clear hx
  refine hold hX ?_
  refine sq ?_
  refine fld gok rfl rfl rfl rfl ?_
  refine load1 (H.bx 7 rfl (j := 1) rfl) ?_
  refine lenE (H.rs (α := List (Int × Int × List Int × List Int)) 8 rfl).len ?_
  have hmx101 := (H.rs (α := List (Int × Int × List Int × List Int)) 8 rfl).max
  obtain ⟨r102, e, hF103⟩ := bindS hF34; clear hF34
  refine loopO _ g__1.length (fun (k38 : Nat) (_ : Unit) (_ : Unit) => [(5, (.pointer (some ⟨b16, 0, none⟩))), (7, (h21).v), (8, (h36).v), (21, (g__1h).v), (22, (.int .i64 ((g__1.length : Nat) : Int))), (23, (.int .i64 ((k38 : Nat) : Int)))]) (fun _ (_ : Unit) (_ : Unit) w' => Cx w0 fp0 S0 w' [Bx b16 [(m__0h).v, (m__1h).v], Es (List Int) m__0 m__0h, Es (List Int) m__1 m__1h, Es (List Int) y18 h21, Es (List Int) y33 h36, Es (List (Int × Int × List Int × List Int)) g__1 g__1h]) () () e ⟨rfl, rfl, rfl, rfl, rfl, rfl, trivial⟩ (H.sel [5, 14, 15, 4, 0, 8] rfl) ?_ ?_
  · clear H e
    rintro T105 k38 _ _ w104 o106 hk (H : Cx w0 fp0 S0 w104 [Bx b16 [(m__0h).v, (m__1h).v], Es (List Int) m__0 m__0h, Es (List Int) m__1 m__1h, Es (List Int) y18 h21, Es (List Int) y33 h36, Es (List (Int × Int × List Int × List Int)) g__1 g__1h]) hrt hF107
    refine boolE (z := true) (ltLen hk) ?_
    refine sq ?_
    refine sq ?_
    obtain ⟨a114, e, hF115⟩ := bindS hF107; clear hF107
    have HH := H; clear H; obtain ⟨p112, m113, g116, c108, c109, c110, c111, H⟩ := HH.el (α := Int × Int × List Int × List Int) 5 rfl e; clear HH
    clear e
    obtain ⟨a114_0, a114_1, a114_2, a114_3⟩ := a114
    obtain ⟨_, _, h118, h119⟩ := g116
    replace H := H.part (β := List Int) a114_2 (h118 : Hd) 0 rfl (fun S h => (And.left (And.right (And.right h))))
    replace H := H.part (β := List Int) a114_3 (h119 : Hd) 1 rfl (fun S h => (And.right (And.right (And.right h))))
    replace H := H.sel [0, 1, 3, 4, 5, 6, 7, 8] rfl
    refine idxE c108 c109 c110 ?_; clear c108 c109 c110
    refine loadN [(.int .i64 a114_0), (.int .i64 a114_1), (h118).v, (h119).v] rfl c111 ?_; clear c111
    refine alloc_ gok rfl H ?_; clear H; intro b123 w122 hx H
    clear hx
    replace H : Cx w0 fp0 S0 w122 [Bx b123 [(.int .i64 0), (.int .i64 0), (.slice none 0 0), (.slice none 0 0)], Es (List Int) a114_3 h119, Es (List Int) a114_2 h118, Bx b16 [(m__0h).v, (m__1h).v], Es (List Int) m__0 m__0h, Es (List Int) m__1 m__1h, Es (List Int) y18 h21, Es (List Int) y33 h36, Es (List (Int × Int × List Int × List Int)) g__1 g__1h] := H
    refine stA gok [(.int .i64 a114_0), (.int .i64 a114_1), (h118).v, (h119).v] rfl H rfl rfl rfl ?_; clear H; intro w125 H
    replace H : Cx w0 fp0 S0 w125 [Bx b123 [(.int .i64 a114_0), (.int .i64 a114_1), (h118).v, (h119).v], Es (List Int) a114_3 h119, Es (List Int) a114_2 h118, Bx b16 [(m__0h).v, (m__1h).v], Es (List Int) m__0 m__0h, Es (List Int) m__1 m__1h, Es (List Int) y18 h21, Es (List Int) y33 h36, Es (List (Int × Int × List Int × List Int)) g__1 g__1h] := H
    obtain ⟨r143, hF145, hF144⟩ := bindS hF115; clear hF115
    refine cut (fun (q146 : Bool) => [(5, (.pointer (some ⟨b16, 0, none⟩))), (7, (h21).v), (8, (h36).v), (21, (g__1h).v), (22, (.int .i64 ((g__1.length : Nat) : Int))), (23, (.int .i64 ((k38 : Nat) : Int))), (44, (.bool q146))]) (fun (q146 : Bool) w' => q146 = r143 ∧ Cx w0 fp0 S0 w' [Bx b16 [(m__0h).v, (m__1h).v], Es (List Int) m__0 m__0h, Es (List Int) m__1 m__1h, Es (List Int) y18 h21, Es (List Int) y33 h36, Es (List (Int × Int × List Int × List Int)) g__1 g__1h]) ?_ ?_
    · skip
      refine fld gok rfl rfl rfl rfl ?_
      refine load1 (H.bx 3 rfl (j := 1) rfl) ?_
      obtain ⟨y147, e, hF148⟩ := bindS hF145; clear hF145
      have ey147 := e; clear e
      refine callF (spec_l1Has_c m__1 m__1h ((k38 : Nat) : Int) y147 ey147) (Γi := []) H ⟨Vw.sh 5 rfl, trivial⟩ ?_; clear H ey147
      rintro _ _ w149 ⟨rfl, rfl⟩ (H : Cx w0 fp0 S0 w149 [Bx b123 [(.int .i64 a114_0), (.int .i64 a114_1), (h118).v, (h119).v], Es (List Int) a114_3 h119, Es (List Int) a114_2 h118, Bx b16 [(m__0h).v, (m__1h).v], Es (List Int) m__0 m__0h, Es (List Int) m__1 m__1h, Es (List Int) y18 h21, Es (List Int) y33 h36, Es (List (Int × Int × List Int × List Int)) g__1 g__1h])
      obtain ⟨a150, e, hF151⟩ := bindS hF148; clear hF148
      refine boolO e ?_; clear e
      cases a150
      · have hF152 := condF hF151; clear hF151
        exact ⟨false, ⟨rfl, rfl, rfl, rfl, rfl, rfl, rfl, trivial⟩, Option.some.inj hF152, H.sel [3, 4, 5, 6, 7, 8] rfl⟩
      · have hF153 := condT hF151; clear hF151
        refine fld gok rfl rfl rfl rfl ?_
        refine load1 (H.bx 0 rfl (j := 2) rfl) ?_
        obtain ⟨y154, e, hF155⟩ := bindS hF153; clear hF153
        have ey154 := e; clear e
        refine callF (spec_hgMeets_c a114_2 h118 y18 h21 y154 ey154) (Γi := []) H ⟨Vw.sh 2 rfl, Vw.sh 6 rfl, trivial⟩ ?_; clear H ey154
        rintro _ _ w156 ⟨rfl, rfl⟩ (H : Cx w0 fp0 S0 w156 [Bx b123 [(.int .i64 a114_0), (.int .i64 a114_1), (h118).v, (h119).v], Es (List Int) a114_3 h119, Es (List Int) a114_2 h118, Bx b16 [(m__0h).v, (m__1h).v], Es (List Int) m__0 m__0h, Es (List Int) m__1 m__1h, Es (List Int) y18 h21, Es (List Int) y33 h36, Es (List (Int × Int × List Int × List Int)) g__1 g__1h])
        cases y154
        · have hF157 := condF hF155; clear hF155
          exact ⟨false, ⟨rfl, rfl, rfl, rfl, rfl, rfl, rfl, trivial⟩, Option.some.inj hF157, H.sel [3, 4, 5, 6, 7, 8] rfl⟩
        · have hF158 := condT hF155; clear hF155
          refine fld gok rfl rfl rfl rfl ?_
          refine load1 (H.bx 0 rfl (j := 3) rfl) ?_
          obtain ⟨y159, e, hF160⟩ := bindS hF158; clear hF158
          have ey159 := e; clear e
          refine callF (spec_hgMeets_c a114_3 h119 y33 h36 y159 ey159) (Γi := []) H ⟨Vw.sh 1 rfl, Vw.sh 7 rfl, trivial⟩ ?_; clear H ey159
          rintro _ _ w161 ⟨rfl, rfl⟩ (H : Cx w0 fp0 S0 w161 [Bx b123 [(.int .i64 a114_0), (.int .i64 a114_1), (h118).v, (h119).v], Es (List Int) a114_3 h119, Es (List Int) a114_2 h118, Bx b16 [(m__0h).v, (m__1h).v], Es (List Int) m__0 m__0h, Es (List Int) m__1 m__1h, Es (List Int) y18 h21, Es (List Int) y33 h36, Es (List (Int × Int × List Int × List Int)) g__1 g__1h])
          exact ⟨y159, ⟨rfl, rfl, rfl, rfl, rfl, rfl, rfl, trivial⟩, Option.some.inj hF160, H.sel [3, 4, 5, 6, 7, 8] rfl⟩
    · clear hF145 H
      rintro T163 s141 w162 ⟨hr, (H : Cx w0 fp0 S0 w162 [Bx b16 [(m__0h).v, (m__1h).v], Es (List Int) m__0 m__0h, Es (List Int) m__1 m__1h, Es (List Int) y18 h21, Es (List Int) y33 h36, Es (List (Int × Int × List Int × List Int)) g__1 g__1h])⟩
      subst hr
      cases s141
      · have hF164 := condF hF144; clear hF144
        refine arK hk hmx101 ?_
        have hs := Option.some.inj hF164; subst hs; clear hF164
        exact ⟨(), (), rfl, ⟨rfl, rfl, rfl, rfl, rfl, rfl, trivial⟩, H.sel [0, 1, 2, 3, 4, 5] rfl⟩
      · have hF165 := condT hF144; clear hF144
        have hs := Option.some.inj hF165; subst hs; clear hF165
        have hr := hrt _ rfl; subst hr
        have hF166 : some _ = some _ := hF103
        cases hF166
        exact ⟨_, _, rfl, ⟨rfl, rfl⟩, (H.sel [] rfl).close trivial⟩
  · clear H e
    rintro T168 _ _ w167 hr (H : Cx w0 fp0 S0 w167 [Bx b16 [(m__0h).v, (m__1h).v], Es (List Int) m__0 m__0h, Es (List Int) m__1 m__1h, Es (List Int) y18 h21, Es (List Int) y33 h36, Es (List (Int × Int × List Int × List Int)) g__1 g__1h])
    subst hr
    refine boolE (z := false) geLen ?_
    refine sq ?_
    cases hF103
    exact ⟨_, _, rfl, ⟨rfl, rfl⟩, (H.sel [] rfl).close trivial⟩

theorem spec_IsConvex_c (g__0 : Int) (g__1 : List (Int × Int × List Int × List Int)) (g__1h : Hd) (g__2 : List Int) (g__2h : Hd) (g__3 : List Int) (g__3h : Hd) (pattern__0 : Int) (pattern__1 : List (Int × Int × List Int × List Int)) (pattern__1h : Hd) (pattern__2 : List Int) (pattern__2h : Hd) (pattern__3 : List Int) (pattern__3h : Hd) (m__0 : List Int) (m__0h : Hd) (m__1 : List Int) (m__1h : Hd) (y0 : Bool) (y1 : Bool) (hF : F_spec_IsConvex (g__0, g__1, g__2, g__3) (pattern__0, pattern__1, pattern__2, pattern__3) (m__0, m__1) = some (y0, y1)) :
    ConF Try.prog 29 #[(.agg #[(.int .i64 g__0), (g__1h).v, (g__2h).v, (g__3h).v]), (.agg #[(.int .i64 pattern__0), (pattern__1h).v, (pattern__2h).v, (pattern__3h).v]), (.agg #[(m__0h).v, (m__1h).v])] [Es (List (Int × Int × List Int × List Int)) g__1 g__1h, Es (List Int) g__2 g__2h, Es (List Int) g__3 g__3h, Es (List (Int × Int × List Int × List Int)) pattern__1 pattern__1h, Es (List Int) pattern__2 pattern__2h, Es (List Int) pattern__3 pattern__3h, Es (List Int) m__0 m__0h, Es (List Int) m__1 m__1h] [] (fun v Γ' => v = (.tuple #[(.bool y0), (.bool y1)]) ∧ Γ' = []) := by
  intro w0 S0 fp0 hI hS
  have H : Cx w0 fp0 S0 w0 [Es (List (Int × Int × List Int × List Int)) g__1 g__1h, Es (List Int) g__2 g__2h, Es (List Int) g__3 g__3h, Es (List (Int × Int × List Int × List Int)) pattern__1 pattern__1h, Es (List Int) pattern__2 pattern__2h, Es (List Int) pattern__3 pattern__3h, Es (List Int) m__0 m__0h, Es (List Int) m__1 m__1h] := Cx.start hI hS
  clear hI hS
  refine enterC (args := [_, _, _]) gok Try.func29 rfl _ rfl rfl rfl ?_
  refine box_ H ?_; clear H; intro b10 w9 hx H
  clear hx
  replace H : Cx w0 fp0 S0 w9 [Bx b10 [(.int .i64 g__0), (g__1h).v, (g__2h).v, (g__3h).v], Es (List (Int × Int × List Int × List Int)) g__1 g__1h, Es (List Int) g__2 g__2h, Es (List Int) g__3 g__3h, Es (List (Int × Int × List Int × List Int)) pattern__1 pattern__1h, Es (List Int) pattern__2 pattern__2h, Es (List Int) pattern__3 pattern__3h, Es (List Int) m__0 m__0h, Es (List Int) m__1 m__1h] := H
  refine box_ H ?_; clear H; intro b13 w12 hx H
  clear hx
  replace H : Cx w0 fp0 S0 w12 [Bx b13 [(.int .i64 pattern__0), (pattern__1h).v, (pattern__2h).v, (pattern__3h).v], Bx b10 [(.int .i64 g__0), (g__1h).v, (g__2h).v, (g__3h).v], Es (List (Int × Int × List Int × List Int)) g__1 g__1h, Es (List Int) g__2 g__2h, Es (List Int) g__3 g__3h, Es (List (Int × Int × List Int × List Int)) pattern__1 pattern__1h, Es (List Int) pattern__2 pattern__2h, Es (List Int) pattern__3 pattern__3h, Es (List Int) m__0 m__0h, Es (List Int) m__1 m__1h] := H
  refine box_ H ?_; clear H; intro b16 w15 hx H
  clear hx
  replace H : Cx w0 fp0 S0 w15 [Bx b16 [(m__0h).v, (m__1h).v], Bx b13 [(.int .i64 pattern__0), (pattern__1h).v, (pattern__2h).v, (pattern__3h).v], Bx b10 [(.int .i64 g__0), (g__1h).v, (g__2h).v, (g__3h).v], Es (List (Int × Int × List Int × List Int)) g__1 g__1h, Es (List Int) g__2 g__2h, Es (List Int) g__3 g__3h, Es (List (Int × Int × List Int × List Int)) pattern__1 pattern__1h, Es (List Int) pattern__2 pattern__2h, Es (List Int) pattern__3 pattern__3h, Es (List Int) m__0 m__0h, Es (List Int) m__1 m__1h] := H
  refine sq ?_
  obtain ⟨r32, hF34, hF33⟩ := bindS hF; clear hF
  refine cut (fun (q35 : Bool) => [(3, (.pointer (some ⟨b10, 0, none⟩))), (4, (.pointer (some ⟨b13, 0, none⟩))), (5, (.pointer (some ⟨b16, 0, none⟩))), (18, (.bool q35))]) (fun (q35 : Bool) w' => q35 = r32 ∧ Cx w0 fp0 S0 w' [Bx b10 [(.int .i64 g__0), (g__1h).v, (g__2h).v, (g__3h).v], Es (List (Int × Int × List Int × List Int)) g__1 g__1h, Es (List Int) g__2 g__2h, Es (List Int) g__3 g__3h, Bx b13 [(.int .i64 pattern__0), (pattern__1h).v, (pattern__2h).v, (pattern__3h).v], Es (List (Int × Int × List Int × List Int)) pattern__1 pattern__1h, Es (List Int) pattern__2 pattern__2h, Es (List Int) pattern__3 pattern__3h, Bx b16 [(m__0h).v, (m__1h).v], Es (List Int) m__0 m__0h, Es (List Int) m__1 m__1h]) ?_ ?_
  · skip
    refine loadN [(.int .i64 g__0), (g__1h).v, (g__2h).v, (g__3h).v] rfl (fun j u hj => H.bx 2 rfl hj) ?_
    refine loadN [(.int .i64 pattern__0), (pattern__1h).v, (pattern__2h).v, (pattern__3h).v] rfl (fun j u hj => H.bx 1 rfl hj) ?_
    obtain ⟨y36, e, hF37⟩ := bindS hF34; clear hF34
    have ey36 := e; clear e
    refine callF (spec_mtTwo_c g__0 g__1 g__1h g__2 g__2h g__3 g__3h pattern__0 pattern__1 pattern__1h pattern__2 pattern__2h pattern__3 pattern__3h y36 ey36) (Γi := []) H ⟨Vw.sh 3 rfl, Vw.sh 4 rfl, Vw.sh 5 rfl, Vw.sh 6 rfl, Vw.sh 7 rfl, Vw.sh 8 rfl, trivial⟩ ?_; clear H ey36
    rintro _ _ w38 ⟨rfl, rfl⟩ (H : Cx w0 fp0 S0 w38 [Bx b16 [(m__0h).v, (m__1h).v], Bx b13 [(.int .i64 pattern__0), (pattern__1h).v, (pattern__2h).v, (pattern__3h).v], Bx b10 [(.int .i64 g__0), (g__1h).v, (g__2h).v, (g__3h).v], Es (List (Int × Int × List Int × List Int)) g__1 g__1h, Es (List Int) g__2 g__2h, Es (List Int) g__3 g__3h, Es (List (Int × Int × List Int × List Int)) pattern__1 pattern__1h, Es (List Int) pattern__2 pattern__2h, Es (List Int) pattern__3 pattern__3h, Es (List Int) m__0 m__0h, Es (List Int) m__1 m__1h])
    obtain ⟨a39, e, hF40⟩ := bindS hF37; clear hF37
    refine boolO e ?_; clear e
    cases a39
    · have hF41 := condF hF40; clear hF40
      refine loadN [(.int .i64 g__0), (g__1h).v, (g__2h).v, (g__3h).v] rfl (fun j u hj => H.bx 2 rfl hj) ?_
      refine loadN [(.int .i64 pattern__0), (pattern__1h).v, (pattern__2h).v, (pattern__3h).v] rfl (fun j u hj => H.bx 1 rfl hj) ?_
      refine loadN [(m__0h).v, (m__1h).v] rfl (fun j u hj => H.bx 0 rfl hj) ?_
      obtain ⟨y42, e, hF43⟩ := bindS hF41; clear hF41
      have ey42 := e; clear e
      refine callF (spec_mtIs_c g__0 g__1 g__1h g__2 g__2h g__3 g__3h pattern__0 pattern__1 pattern__1h pattern__2 pattern__2h pattern__3 pattern__3h m__0 m__0h m__1 m__1h y42 ey42) (Γi := []) H ⟨Vw.sh 3 rfl, Vw.sh 4 rfl, Vw.sh 5 rfl, Vw.sh 6 rfl, Vw.sh 7 rfl, Vw.sh 8 rfl, Vw.sh 9 rfl, Vw.sh 10 rfl, trivial⟩ ?_; clear H ey42
      rintro _ _ w44 ⟨rfl, rfl⟩ (H : Cx w0 fp0 S0 w44 [Bx b16 [(m__0h).v, (m__1h).v], Bx b13 [(.int .i64 pattern__0), (pattern__1h).v, (pattern__2h).v, (pattern__3h).v], Bx b10 [(.int .i64 g__0), (g__1h).v, (g__2h).v, (g__3h).v], Es (List (Int × Int × List Int × List Int)) g__1 g__1h, Es (List Int) g__2 g__2h, Es (List Int) g__3 g__3h, Es (List (Int × Int × List Int × List Int)) pattern__1 pattern__1h, Es (List Int) pattern__2 pattern__2h, Es (List Int) pattern__3 pattern__3h, Es (List Int) m__0 m__0h, Es (List Int) m__1 m__1h])
      obtain ⟨a45, e, hF46⟩ := bindS hF43; clear hF43
      refine boolO e ?_; clear e
      exact ⟨a45, ⟨rfl, rfl, rfl, rfl, trivial⟩, Option.some.inj hF46, H.sel [2, 3, 4, 5, 1, 6, 7, 8, 0, 9, 10] rfl⟩
    · have hF47 := condT hF40; clear hF40
      exact ⟨true, ⟨rfl, rfl, rfl, rfl, trivial⟩, Option.some.inj hF47, H.sel [2, 3, 4, 5, 1, 6, 7, 8, 0, 9, 10] rfl⟩
  · clear hF34 H
    rintro T49 s30 w48 ⟨hr, (H : Cx w0 fp0 S0 w48 [Bx b10 [(.int .i64 g__0), (g__1h).v, (g__2h).v, (g__3h).v], Es (List (Int × Int × List Int × List Int)) g__1 g__1h, Es (List Int) g__2 g__2h, Es (List Int) g__3 g__3h, Bx b13 [(.int .i64 pattern__0), (pattern__1h).v, (pattern__2h).v, (pattern__3h).v], Es (List (Int × Int × List Int × List Int)) pattern__1 pattern__1h, Es (List Int) pattern__2 pattern__2h, Es (List Int) pattern__3 pattern__3h, Bx b16 [(m__0h).v, (m__1h).v], Es (List Int) m__0 m__0h, Es (List Int) m__1 m__1h])⟩
    subst hr
    cases s30
    · have hF50 := condF hF33; clear hF33
      refine loadN [(.int .i64 g__0), (g__1h).v, (g__2h).v, (g__3h).v] rfl (fun j u hj => H.bx 0 rfl hj) ?_
      refine loadN [(.int .i64 pattern__0), (pattern__1h).v, (pattern__2h).v, (pattern__3h).v] rfl (fun j u hj => H.bx 4 rfl hj) ?_
      refine loadN [(m__0h).v, (m__1h).v] rfl (fun j u hj => H.bx 8 rfl hj) ?_
      obtain ⟨y51, e, hF52⟩ := bindS hF50; clear hF50
      have ey51 := e; clear e
      refine callF (spec_mtConvex_c g__0 g__1 g__1h g__2 g__2h g__3 g__3h pattern__0 pattern__1 pattern__1h pattern__2 pattern__2h pattern__3 pattern__3h m__0 m__0h m__1 m__1h y51 ey51) (Γi := []) H ⟨Vw.sh 1 rfl, Vw.sh 2 rfl, Vw.sh 3 rfl, Vw.sh 5 rfl, Vw.sh 6 rfl, Vw.sh 7 rfl, Vw.sh 9 rfl, Vw.sh 10 rfl, trivial⟩ ?_; clear H ey51
      rintro _ _ w53 ⟨rfl, rfl⟩ (H : Cx w0 fp0 S0 w53 [Bx b10 [(.int .i64 g__0), (g__1h).v, (g__2h).v, (g__3h).v], Es (List (Int × Int × List Int × List Int)) g__1 g__1h, Es (List Int) g__2 g__2h, Es (List Int) g__3 g__3h, Bx b13 [(.int .i64 pattern__0), (pattern__1h).v, (pattern__2h).v, (pattern__3h).v], Es (List (Int × Int × List Int × List Int)) pattern__1 pattern__1h, Es (List Int) pattern__2 pattern__2h, Es (List Int) pattern__3 pattern__3h, Bx b16 [(m__0h).v, (m__1h).v], Es (List Int) m__0 m__0h, Es (List Int) m__1 m__1h])
      cases hF52
      exact ⟨_, _, rfl, ⟨rfl, rfl⟩, (H.sel [] rfl).close trivial⟩
    · have hF54 := condT hF33; clear hF33
      cases hF54
      exact ⟨_, _, rfl, ⟨rfl, rfl⟩, (H.sel [] rfl).close trivial⟩

theorem impl_within_c (n_ : Int) (low_ : Int) (high_ : Int) (y : Bool) (hF : F_impl_within n_ low_ high_ = some y) :
    ConF Try.prog 53 #[(.int .i64 n_), (.int .i64 low_), (.int .i64 high_)] [] [] (fun v Γ' => v = (.bool y) ∧ Γ' = []) := by
  intro w0 S0 fp0 hI hS
  have H : Cx w0 fp0 S0 w0 [] := Cx.start hI hS
  clear hI hS
  refine enterC (args := [_, _, _]) gok Try.func53 rfl _ rfl rfl rfl ?_
  obtain ⟨r9, hF11, hF10⟩ := bindS hF; clear hF
  refine cut (fun (q12 : Bool) => [(6, (.bool q12))]) (fun (q12 : Bool) w' => q12 = r9 ∧ Cx w0 fp0 S0 w' []) ?_ ?_
  · skip
    obtain ⟨a13, e, hF14⟩ := bindS hF11; clear hF11
    refine boolO e ?_; clear e
    cases a13
    · have hF15 := condF hF14; clear hF14
      exact ⟨false, ⟨rfl, trivial⟩, Option.some.inj hF15, H.sel [] rfl⟩
    · have hF16 := condT hF14; clear hF14
      obtain ⟨a17, e, hF18⟩ := bindS hF16; clear hF16
      refine boolO e ?_; clear e
      exact ⟨a17, ⟨rfl, trivial⟩, Option.some.inj hF18, H.sel [] rfl⟩
  · clear hF11 H
    rintro T20 s7 w19 ⟨hr, (H : Cx w0 fp0 S0 w19 [])⟩
    subst hr
    cases hF10
    exact ⟨_, _, rfl, ⟨rfl, rfl⟩, (H.sel [] rfl).close trivial⟩

theorem impl_isGenerator_c (kind_ : Int) (y : Bool) (hF : F_impl_isGenerator kind_ = some y) :
    ConF Try.prog 120 #[(.int .i64 kind_)] [] [] (fun v Γ' => v = (.bool y) ∧ Γ' = []) := by
  intro w0 S0 fp0 hI hS
  have H : Cx w0 fp0 S0 w0 [] := Cx.start hI hS
  clear hI hS
  refine enterC (args := [_]) gok Try.func120 rfl _ rfl rfl rfl ?_
  obtain ⟨y1, e, hF2⟩ := bindS hF; clear hF
  have ey1 := e; clear e
  refine callF (impl_within_c kind_ 3 14 y1 ey1) (Γi := []) H trivial ?_; clear H ey1
  rintro _ _ w3 ⟨rfl, rfl⟩ (H : Cx w0 fp0 S0 w3 [])
  cases hF2
  exact ⟨_, _, rfl, ⟨rfl, rfl⟩, (H.sel [] rfl).close trivial⟩

theorem impl_hasValue_c (kind_ : Int) (y : Bool) (hF : F_impl_hasValue kind_ = some y) :
    ConF Try.prog 144 #[(.int .i64 kind_)] [] [] (fun v Γ' => v = (.bool y) ∧ Γ' = []) := by
  intro w0 S0 fp0 hI hS
  have H : Cx w0 fp0 S0 w0 [] := Cx.start hI hS
  clear hI hS
  refine enterC (args := [_]) gok Try.func144 rfl _ rfl rfl rfl ?_
  obtain ⟨r9, hF11, hF10⟩ := bindS hF; clear hF
  refine cut (fun (q12 : Bool) => [(2, (.bool q12))]) (fun (q12 : Bool) w' => q12 = r9 ∧ Cx w0 fp0 S0 w' []) ?_ ?_
  · skip
    obtain ⟨a13, e, hF14⟩ := bindS hF11; clear hF11
    refine boolO e ?_; clear e
    cases a13
    · have hF15 := condF hF14; clear hF14
      obtain ⟨a16, e, hF17⟩ := bindS hF15; clear hF15
      refine boolO e ?_; clear e
      exact ⟨a16, ⟨rfl, trivial⟩, Option.some.inj hF17, H.sel [] rfl⟩
    · have hF18 := condT hF14; clear hF14
      exact ⟨true, ⟨rfl, trivial⟩, Option.some.inj hF18, H.sel [] rfl⟩
  · clear hF11 H
    rintro T20 s7 w19 ⟨hr, (H : Cx w0 fp0 S0 w19 [])⟩
    subst hr
    cases hF10
    exact ⟨_, _, rfl, ⟨rfl, rfl⟩, (H.sel [] rfl).close trivial⟩

theorem impl_isGeneratorValue_c (kind_ : Int) (value_ : Int) (y : Bool) (hF : F_impl_isGeneratorValue kind_ value_ = some y) :
    ConF Try.prog 121 #[(.int .i64 kind_), (.int .i64 value_)] [] [] (fun v Γ' => v = (.bool y) ∧ Γ' = []) := by
  intro w0 S0 fp0 hI hS
  have H : Cx w0 fp0 S0 w0 [] := Cx.start hI hS
  clear hI hS
  refine enterC (args := [_, _]) gok Try.func121 rfl _ rfl rfl rfl ?_
  refine sq ?_
  obtain ⟨y1, e, hF2⟩ := bindS hF; clear hF
  have ey1 := e; clear e
  refine callF (impl_hasValue_c kind_ y1 ey1) (Γi := []) H trivial ?_; clear H ey1
  rintro _ _ w3 ⟨rfl, rfl⟩ (H : Cx w0 fp0 S0 w3 [])
  cases y1
  · have hF4 := condF hF2; clear hF2
    obtain ⟨a5, e, hF6⟩ := bindS hF4; clear hF4
    refine boolO e ?_; clear e
    cases hF6
    exact ⟨_, _, rfl, ⟨rfl, rfl⟩, (H.sel [] rfl).close trivial⟩
  · have hF7 := condT hF2; clear hF2
    obtain ⟨y8, e, hF9⟩ := bindS hF7; clear hF7
    have ey8 := e; clear e
    refine callF (impl_within_c value_ 0 96 y8 ey8) (Γi := []) H trivial ?_; clear H ey8
    rintro _ _ w10 ⟨rfl, rfl⟩ (H : Cx w0 fp0 S0 w10 [])
    cases hF9
    exact ⟨_, _, rfl, ⟨rfl, rfl⟩, (H.sel [] rfl).close trivial⟩

theorem impl_generatorWires_c (kind_ : Int) (y_0 : Int) (y_1 : Int) (hF : F_impl_generatorWires kind_ = some (y_0, y_1)) :
    ConF Try.prog 122 #[(.int .i64 kind_)] [] [] (fun v Γ' => v = (.agg #[(.int .i64 y_0), (.int .i64 y_1)]) ∧ Γ' = []) := by
  intro w0 S0 fp0 hI hS
  have H : Cx w0 fp0 S0 w0 [] := Cx.start hI hS
  clear hI hS
  refine enterC (args := [_]) gok Try.func122 rfl _ rfl rfl rfl ?_
  refine alloc_ gok rfl H ?_; clear H; intro b2 w1 hx H
  clear hx
  replace H : Cx w0 fp0 S0 w1 [Bx b2 [(.int .i64 0), (.int .i64 0)]] := H
  refine build_ (cs := #[(.int .i64 1), (.int .i64 2)]) gok rfl rfl rfl ?_
  refine build_ (cs := #[(.int .i64 1), (.int .i64 0)]) gok rfl rfl rfl ?_
  refine build_ (cs := #[(.int .i64 2), (.int .i64 1)]) gok rfl rfl rfl ?_
  refine build_ (cs := #[(.int .i64 0), (.int .i64 1)]) gok rfl rfl rfl ?_
  refine build_ (cs := #[(.int .i64 1), (.int .i64 1)]) gok rfl rfl rfl ?_
  refine build_ (cs := #[(.int .i64 1), (.int .i64 1)]) gok rfl rfl rfl ?_
  refine buildAr (cs := #[(.int .i64 1), (.int .i64 2), (.int .i64 1), (.int .i64 0), (.int .i64 2), (.int .i64 1), (.int .i64 0), (.int .i64 1), (.int .i64 1), (.int .i64 1), (.int .i64 1), (.int .i64 1)]) gok rfl rfl rfl ?_
  refine alloc_ gok rfl H ?_; clear H; intro b5 w4 hx H
  clear hx
  replace H : Cx w0 fp0 S0 w4 [Bx b5 [(.int .i64 0), (.int .i64 0), (.int .i64 0), (.int .i64 0), (.int .i64 0), (.int .i64 0), (.int .i64 0), (.int .i64 0), (.int .i64 0), (.int .i64 0), (.int .i64 0), (.int .i64 0)], Bx b2 [(.int .i64 0), (.int .i64 0)]] := H
  refine stA gok [(.int .i64 1), (.int .i64 2), (.int .i64 1), (.int .i64 0), (.int .i64 2), (.int .i64 1), (.int .i64 0), (.int .i64 1), (.int .i64 1), (.int .i64 1), (.int .i64 1), (.int .i64 1)] rfl H rfl rfl rfl ?_; clear H; intro w7 H
  replace H : Cx w0 fp0 S0 w7 [Bx b5 [(.int .i64 1), (.int .i64 2), (.int .i64 1), (.int .i64 0), (.int .i64 2), (.int .i64 1), (.int .i64 0), (.int .i64 1), (.int .i64 1), (.int .i64 1), (.int .i64 1), (.int .i64 1)], Bx b2 [(.int .i64 0), (.int .i64 0)]] := H
  refine sq ?_
  obtain ⟨a8, e, hF9⟩ := bindS hF; clear hF
  refine boolO e ?_; clear e
  cases a8
  · have hF10 := condF hF9; clear hF9
    obtain ⟨a11, e, hF12⟩ := bindS hF10; clear hF10
    refine arO e ?_; clear e
    obtain ⟨a13, e, hF14⟩ := bindS hF12; clear hF12
    obtain ⟨p15, c16, c17, c18⟩ := H.bxV (s := 2) 0 rfl [(1, 2), (1, 0), (2, 1), (0, 1), (1, 1), (1, 1)] (fun x => [.int .i64 x.1, .int .i64 x.2]) rfl (fun _ => rfl) e; clear e
    obtain ⟨a13_0, a13_1⟩ := a13
    refine idxAr gok rfl rfl c16 c17 ?_; clear c16 c17
    refine loadN [(.int .i64 a13_0), (.int .i64 a13_1)] rfl c18 ?_; clear c18
    refine alloc_ gok rfl H ?_; clear H; intro b20 w19 hx H
    clear hx
    replace H : Cx w0 fp0 S0 w19 [Bx b20 [(.int .i64 0), (.int .i64 0)], Bx b5 [(.int .i64 1), (.int .i64 2), (.int .i64 1), (.int .i64 0), (.int .i64 2), (.int .i64 1), (.int .i64 0), (.int .i64 1), (.int .i64 1), (.int .i64 1), (.int .i64 1), (.int .i64 1)], Bx b2 [(.int .i64 0), (.int .i64 0)]] := H
    refine stA gok [(.int .i64 a13_0), (.int .i64 a13_1)] rfl H rfl rfl rfl ?_; clear H; intro w22 H
    replace H : Cx w0 fp0 S0 w22 [Bx b20 [(.int .i64 a13_0), (.int .i64 a13_1)], Bx b5 [(.int .i64 1), (.int .i64 2), (.int .i64 1), (.int .i64 0), (.int .i64 2), (.int .i64 1), (.int .i64 0), (.int .i64 1), (.int .i64 1), (.int .i64 1), (.int .i64 1), (.int .i64 1)], Bx b2 [(.int .i64 0), (.int .i64 0)]] := H
    refine fld gok rfl rfl rfl rfl ?_
    refine load1 (H.bx 0 rfl (j := 1) rfl) ?_
    refine fld gok rfl rfl rfl rfl ?_
    refine load1 (H.bx 0 rfl (j := 0) rfl) ?_
    refine build_ (cs := #[(.int .i64 a13_1), (.int .i64 a13_0)]) gok rfl rfl rfl ?_
    replace H := H.sel [2, 0, 1] rfl
    refine stA gok [(.int .i64 a13_1), (.int .i64 a13_0)] rfl H rfl rfl rfl ?_; clear H; intro w23 H
    replace H : Cx w0 fp0 S0 w23 [Bx b2 [(.int .i64 a13_1), (.int .i64 a13_0)], Bx b20 [(.int .i64 a13_0), (.int .i64 a13_1)], Bx b5 [(.int .i64 1), (.int .i64 2), (.int .i64 1), (.int .i64 0), (.int .i64 2), (.int .i64 1), (.int .i64 0), (.int .i64 1), (.int .i64 1), (.int .i64 1), (.int .i64 1), (.int .i64 1)]] := H
    refine loadN [(.int .i64 a13_1), (.int .i64 a13_0)] rfl (fun j u hj => H.bx 0 rfl hj) ?_
    cases hF14
    exact ⟨_, _, rfl, ⟨rfl, rfl⟩, (H.sel [] rfl).close trivial⟩
  · have hF24 := condT hF9; clear hF9
    obtain ⟨a25, e, hF26⟩ := bindS hF24; clear hF24
    refine arO e ?_; clear e
    obtain ⟨a27, e, hF28⟩ := bindS hF26; clear hF26
    obtain ⟨p29, c30, c31, c32⟩ := H.bxV (s := 2) 0 rfl [(1, 2), (1, 0), (2, 1), (0, 1), (1, 1), (1, 1)] (fun x => [.int .i64 x.1, .int .i64 x.2]) rfl (fun _ => rfl) e; clear e
    obtain ⟨a27_0, a27_1⟩ := a27
    refine idxAr gok rfl rfl c30 c31 ?_; clear c30 c31
    refine loadN [(.int .i64 a27_0), (.int .i64 a27_1)] rfl c32 ?_; clear c32
    replace H := H.sel [1, 0] rfl
    refine stA gok [(.int .i64 a27_0), (.int .i64 a27_1)] rfl H rfl rfl rfl ?_; clear H; intro w33 H
    replace H : Cx w0 fp0 S0 w33 [Bx b2 [(.int .i64 a27_0), (.int .i64 a27_1)], Bx b5 [(.int .i64 1), (.int .i64 2), (.int .i64 1), (.int .i64 0), (.int .i64 2), (.int .i64 1), (.int .i64 0), (.int .i64 1), (.int .i64 1), (.int .i64 1), (.int .i64 1), (.int .i64 1)]] := H
    refine loadN [(.int .i64 a27_0), (.int .i64 a27_1)] rfl (fun j u hj => H.bx 0 rfl hj) ?_
    cases hF28
    exact ⟨_, _, rfl, ⟨rfl, rfl⟩, (H.sel [] rfl).close trivial⟩

theorem impl_Edge_isEdge_c (e__0 : Int) (e__1 : Int) (e__2 : List Int) (e__2h : Hd) (e__3 : List Int) (e__3h : Hd) (y : Bool) (hF : F_impl_Edge_isEdge (e__0, e__1, e__2, e__3) = some y) :
    ConF Try.prog 81 #[(.agg #[(.int .i64 e__0), (.int .i64 e__1), (e__2h).v, (e__3h).v])] [Es (List Int) e__2 e__2h, Es (List Int) e__3 e__3h] [] (fun v Γ' => v = (.bool y) ∧ Γ' = []) := by
  intro w0 S0 fp0 hI hS
  have H : Cx w0 fp0 S0 w0 [Es (List Int) e__2 e__2h, Es (List Int) e__3 e__3h] := Cx.start hI hS
  clear hI hS
  refine enterC (args := [_]) gok Try.func81 rfl _ rfl rfl rfl ?_
  refine box_ H ?_; clear H; intro b4 w3 hx H
  clear hx
  replace H : Cx w0 fp0 S0 w3 [Bx b4 [(.int .i64 e__0), (.int .i64 e__1), (e__2h).v, (e__3h).v], Es (List Int) e__2 e__2h, Es (List Int) e__3 e__3h] := H
  refine sq ?_
  obtain ⟨r20, hF22, hF21⟩ := bindS hF; clear hF
  refine cut (fun (q23 : Bool) => [(1, (.pointer (some ⟨b4, 0, none⟩))), (14, (.bool q23))]) (fun (q23 : Bool) w' => q23 = r20 ∧ Cx w0 fp0 S0 w' [Bx b4 [(.int .i64 e__0), (.int .i64 e__1), (e__2h).v, (e__3h).v], Es (List Int) e__2 e__2h, Es (List Int) e__3 e__3h]) ?_ ?_
  · skip
    refine fld gok rfl rfl rfl rfl ?_
    refine load1 (H.bx 0 rfl (j := 0) rfl) ?_
    obtain ⟨y24, e, hF25⟩ := bindS hF22; clear hF22
    have ey24 := e; clear e
    refine callF (impl_isGenerator_c e__0 y24 ey24) (Γi := []) H trivial ?_; clear H ey24
    rintro _ _ w26 ⟨rfl, rfl⟩ (H : Cx w0 fp0 S0 w26 [Bx b4 [(.int .i64 e__0), (.int .i64 e__1), (e__2h).v, (e__3h).v], Es (List Int) e__2 e__2h, Es (List Int) e__3 e__3h])
    obtain ⟨a27, e, hF28⟩ := bindS hF25; clear hF25
    refine boolO e ?_; clear e
    cases a27
    · have hF29 := condF hF28; clear hF28
      refine fld gok rfl rfl rfl rfl ?_
      refine load1 (H.bx 0 rfl (j := 0) rfl) ?_
      refine fld gok rfl rfl rfl rfl ?_
      refine load1 (H.bx 0 rfl (j := 1) rfl) ?_
      obtain ⟨y30, e, hF31⟩ := bindS hF29; clear hF29
      have ey30 := e; clear e
      refine callF (impl_isGeneratorValue_c e__0 e__1 y30 ey30) (Γi := []) H trivial ?_; clear H ey30
      rintro _ _ w32 ⟨rfl, rfl⟩ (H : Cx w0 fp0 S0 w32 [Bx b4 [(.int .i64 e__0), (.int .i64 e__1), (e__2h).v, (e__3h).v], Es (List Int) e__2 e__2h, Es (List Int) e__3 e__3h])
      obtain ⟨a33, e, hF34⟩ := bindS hF31; clear hF31
      refine boolO e ?_; clear e
      exact ⟨a33, ⟨rfl, rfl, trivial⟩, Option.some.inj hF34, H.sel [0, 1, 2] rfl⟩
    · have hF35 := condT hF28; clear hF28
      exact ⟨true, ⟨rfl, rfl, trivial⟩, Option.some.inj hF35, H.sel [0, 1, 2] rfl⟩
  · clear hF22 H
    rintro T37 s18 w36 ⟨hr, (H : Cx w0 fp0 S0 w36 [Bx b4 [(.int .i64 e__0), (.int .i64 e__1), (e__2h).v, (e__3h).v], Es (List Int) e__2 e__2h, Es (List Int) e__3 e__3h])⟩
    subst hr
    cases s18
    · have hF38 := condF hF21; clear hF21
      refine heldX H [] (.fst 0 (.fst 3 (.fst 6 (.fst 1 (.fst 4 (.fst 5 (.fst 7 (.fst 8 (.fst 9 (.act 2 (.act 10 (.fst 11 .done)))))))))))) mixed [] trivial (by kernel_rfl) ?_
      clear H; intro w39 H
      have hX : Ext w39 w39 := Upd.refl _ _
      have H0 := H
      refine anyH (fun _ => fld gok rfl rfl rfl rfl ⟨rfl, rfl⟩) ?_
      refine anyH (fun _ => fld gok rfl rfl rfl rfl ⟨rfl, rfl⟩) ?_
      refine anyH (fun _ => fld gok rfl rfl rfl rfl ⟨rfl, rfl⟩) ?_
      refine load1X (H.bx 0 rfl (j := 0) rfl) ?_
      refine load1X (H.bx 0 rfl (j := 2) rfl) ?_
      refine lenE (H.rs (α := List Int) 1 rfl).len ?_
      refine load1X (H.bx 0 rfl (j := 3) rfl) ?_
      refine lenE (H.rs (α := List Int) 2 rfl).len ?_
      refine anyH (fun _ => build_ (cs := #[(.int .i64 ((e__2.length : Nat) : Int)), (.int .i64 ((e__3.length : Nat) : Int))]) gok rfl rfl rfl ⟨rfl, rfl⟩) ?_
      obtain ⟨y40, e, hF41⟩ := bindS hF38; clear hF38
      obtain ⟨y40_0, y40_1⟩ := y40
      have ey40 := e; clear e
      refine callFx (impl_generatorWires_c e__0 y40_0 y40_1 ey40) H trivial ?_; clear H ey40
      rintro _ _ w42 ⟨rfl, rfl⟩ hx (H : Cx w0 fp0 S0 w42 [Bx b4 [(.int .i64 e__0), (.int .i64 e__1), (e__2h).v, (e__3h).v], Es (List Int) e__2 e__2h, Es (List Int) e__3 e__3h])
      replace hX := hX.trans0 hx; clear hx
      refine hold hX ?_
      obtain ⟨a43, e, hF44⟩ := bindS hF41; clear hF41
      refine eqA gok rfl Try.underlying133 (by kernel_rfl) (by kernel_rfl) (by kernel_rfl) (by refine ⟨rfl, ⟨_, _, rfl⟩, rfl, ⟨_, _, rfl⟩, trivial⟩) (ls := [y40_0, y40_1]) (bs := [((e__2.length : Nat) : Int), ((e__3.length : Nat) : Int)]) rfl rfl rfl rfl e ?_; clear e
      refine hold hX ?_
      cases hF44
      exact ⟨_, _, rfl, ⟨rfl, rfl⟩, (H.sel [] rfl).close trivial⟩
    · have hF45 := condT hF21; clear hF21
      cases hF45
      exact ⟨_, _, rfl, ⟨rfl, rfl⟩, (H.sel [] rfl).close trivial⟩

theorem impl_Graph_isGraph_1_c (list_ : List Int) (list_h : Hd) (c0_b : Nat) (c0__0 : Int) (c0__1 : List (Int × Int × List Int × List Int)) (c0__1h : Hd) (c0__2 : List Int) (c0__2h : Hd) (c0__3 : List Int) (c0__3h : Hd) (c1_b : Nat) (c1_ : Bool) (c2_b : Nat) (c2_ : List Bool) (c2_h : Hd) (c3_b : Nat) (c3_ : Int) (y0 : Bool) (y1 : List Bool) (y2 : Int) (hF : F_impl_Graph_isGraph_1 list_ (c0__0, c0__1, c0__2, c0__3) c1_ c2_ c3_ = some (y0, y1, y2)) :
    ConF Try.prog 83 #[(list_h).v, (.pointer (some ⟨c0_b, 0, none⟩)), (.pointer (some ⟨c1_b, 0, none⟩)), (.pointer (some ⟨c2_b, 0, none⟩)), (.pointer (some ⟨c3_b, 0, none⟩))] [Es (List Int) list_ list_h, Es (List (Int × Int × List Int × List Int)) c0__1 c0__1h, Es (List Int) c0__2 c0__2h, Es (List Int) c0__3 c0__3h] [Bx c0_b [(.int .i64 c0__0), (c0__1h).v, (c0__2h).v, (c0__3h).v], Bx c1_b [(.bool c1_)], Bx c2_b [(c2_h).v], E (List Bool) c2_ c2_h, Bx c3_b [(.int .i64 c3_)]] (fun v Γ' => v = (.tuple #[]) ∧ Γ' = [Bx c0_b [(.int .i64 c0__0), (c0__1h).v, (c0__2h).v, (c0__3h).v], Bx c1_b [(.bool y0)], Bx c2_b [(c2_h).v], E (List Bool) y1 c2_h, Bx c3_b [(.int .i64 y2)]]) := by
  intro w0 S0 fp0 hI hS
  have H : Cx w0 fp0 S0 w0 [Es (List Int) list_ list_h, Es (List (Int × Int × List Int × List Int)) c0__1 c0__1h, Es (List Int) c0__2 c0__2h, Es (List Int) c0__3 c0__3h, Bx c0_b [(.int .i64 c0__0), (c0__1h).v, (c0__2h).v, (c0__3h).v], Bx c1_b [(.bool c1_)], Bx c2_b [(c2_h).v], E (List Bool) c2_ c2_h, Bx c3_b [(.int .i64 c3_)]] := Cx.start hI hS
  clear hI hS
  refine enterC (args := [_, _, _, _, _]) gok Try.func83 rfl _ rfl rfl rfl ?_
  refine lenE (H.rs (α := List Int) 0 rfl).len ?_
  have hmx201 := (H.rs (α := List Int) 0 rfl).max
  obtain ⟨r202, e, hF203⟩ := bindS hF; clear hF
  refine loopS _ list_.length (fun (k10 : Nat) (s199 : Bool × Int × List Bool) (_ : Unit) => [(1, (.pointer (some ⟨c0_b, 0, none⟩))), (2, (.pointer (some ⟨c1_b, 0, none⟩))), (3, (.pointer (some ⟨c2_b, 0, none⟩))), (4, (.pointer (some ⟨c3_b, 0, none⟩))), (8, (list_h).v), (9, (.int .i64 ((list_.length : Nat) : Int))), (10, (.int .i64 ((k10 : Nat) : Int)))]) (fun _ (s199 : Bool × Int × List Bool) (_ : Unit) w' => Cx w0 fp0 S0 w' [Bx c0_b [(.int .i64 c0__0), (c0__1h).v, (c0__2h).v, (c0__3h).v], Es (List (Int × Int × List Int × List Int)) c0__1 c0__1h, Es (List Int) c0__2 c0__2h, Es (List Int) c0__3 c0__3h, Bx c1_b [(.bool s199.1)], Bx c2_b [(c2_h).v], E (List Bool) s199.2.2 c2_h, Bx c3_b [(.int .i64 s199.2.1)], Es (List Int) list_ list_h]) (c1_, c3_, c2_) () e ⟨rfl, rfl, rfl, rfl, rfl, rfl, rfl, trivial⟩ (H.sel [4, 1, 2, 3, 5, 6, 7, 8, 0] rfl) ?_ ?_
  · clear H e
    rintro T205 k10 ⟨s199_0, s199_1, s199_2⟩ _ w204 o206 hk (H : Cx w0 fp0 S0 w204 [Bx c0_b [(.int .i64 c0__0), (c0__1h).v, (c0__2h).v, (c0__3h).v], Es (List (Int × Int × List Int × List Int)) c0__1 c0__1h, Es (List Int) c0__2 c0__2h, Es (List Int) c0__3 c0__3h, Bx c1_b [(.bool s199_0)], Bx c2_b [(c2_h).v], E (List Bool) s199_2 c2_h, Bx c3_b [(.int .i64 s199_1)], Es (List Int) list_ list_h]) hF207
    refine boolE (z := true) (ltLen hk) ?_
    refine sq ?_
    obtain ⟨r252, hF254, hF253⟩ := bindS hF207; clear hF207
    refine cut (fun (q255 : Bool × Int × List Bool) => [(1, (.pointer (some ⟨c0_b, 0, none⟩))), (2, (.pointer (some ⟨c1_b, 0, none⟩))), (3, (.pointer (some ⟨c2_b, 0, none⟩))), (4, (.pointer (some ⟨c3_b, 0, none⟩))), (8, (list_h).v), (9, (.int .i64 ((list_.length : Nat) : Int))), (10, (.int .i64 ((k10 : Nat) : Int)))]) (fun (q255 : Bool × Int × List Bool) w' => (q255.1, q255.2.1, q255.2.2) = r252 ∧ Cx w0 fp0 S0 w' [Bx c0_b [(.int .i64 c0__0), (c0__1h).v, (c0__2h).v, (c0__3h).v], Es (List (Int × Int × List Int × List Int)) c0__1 c0__1h, Es (List Int) c0__2 c0__2h, Es (List Int) c0__3 c0__3h, Bx c1_b [(.bool q255.1)], Bx c2_b [(c2_h).v], E (List Bool) q255.2.2 c2_h, Bx c3_b [(.int .i64 q255.2.1)], Es (List Int) list_ list_h]) ?_ ?_
    · skip
      obtain ⟨a262, e, hF263⟩ := bindS hF254; clear hF254
      obtain ⟨p260, m261, c256, c257, c258, c259⟩ := (H.rs (α := List Int) 8 rfl).at1 e; clear e
      refine idxE c256 c257 c258 ?_; clear c256 c257 c258
      refine load1 c259 ?_; clear c259
      refine sq ?_
      refine fld gok rfl rfl rfl rfl ?_
      refine load1 (H.bx 0 rfl (j := 0) rfl) ?_
      obtain ⟨a264, e, hF265⟩ := bindS hF263; clear hF263
      refine arO e ?_; clear e
      obtain ⟨y266, e, hF267⟩ := bindS hF265; clear hF265
      have ey266 := e; clear e
      refine callF (impl_within_c a262 0 a264 y266 ey266) (Γi := []) H trivial ?_; clear H ey266
      rintro _ _ w268 ⟨rfl, rfl⟩ (H : Cx w0 fp0 S0 w268 [Bx c0_b [(.int .i64 c0__0), (c0__1h).v, (c0__2h).v, (c0__3h).v], Es (List (Int × Int × List Int × List Int)) c0__1 c0__1h, Es (List Int) c0__2 c0__2h, Es (List Int) c0__3 c0__3h, Bx c1_b [(.bool s199_0)], Bx c2_b [(c2_h).v], E (List Bool) s199_2 c2_h, Bx c3_b [(.int .i64 s199_1)], Es (List Int) list_ list_h])
      obtain ⟨a269, e, hF270⟩ := bindS hF267; clear hF267
      refine boolO e ?_; clear e
      cases a269
      · have hF271 := condF hF270; clear hF270
        refine load1 (H.bx0 5 rfl) ?_
        obtain ⟨a278, e, hF279⟩ := bindS hF271; clear hF271
        obtain ⟨p276, m277, c272, c273, c274, c275⟩ := (H.ro (α := List Bool) 6 rfl).at1 e; clear e
        refine idxE c272 c273 c274 ?_; clear c272 c273 c274
        refine load1 c275 ?_; clear c275
        obtain ⟨a280, e, hF281⟩ := bindS hF279; clear hF279
        refine boolO e ?_; clear e
        cases a280
        · have hF282 := condF hF281; clear hF281
          exact ⟨(s199_0, s199_1, s199_2), ⟨rfl, rfl, rfl, rfl, rfl, rfl, rfl, trivial⟩, Option.some.inj hF282, H.sel [0, 1, 2, 3, 4, 5, 6, 7, 8] rfl⟩
        · have hF283 := condT hF281; clear hF281
          refine load1 (H.bx0 5 rfl) ?_
          obtain ⟨a290, e, hF291⟩ := bindS hF283; clear hF283
          have ea290 := e; clear e
          obtain ⟨p288, m289, c284, c285, c286⟩ := (H.ro (α := List Bool) 6 rfl).setp ea290
          refine idxE c284 c285 c286 ?_
          replace H := H.sel [6, 0, 1, 2, 3, 4, 5, 7, 8] rfl
          refine setS (α := Bool) H c284 c285 ea290 ?_; clear H c284 c285 c286 ea290; intro w292 H
          refine load1 (H.bx0 7 rfl) ?_
          obtain ⟨a293, e, hF294⟩ := bindS hF291; clear hF291
          refine arO e ?_; clear e
          replace H := H.sel [7, 0, 1, 2, 3, 4, 5, 6, 8] rfl
          refine stB0 H rfl ?_; clear H; intro w295 H
          replace H : Cx w0 fp0 S0 w295 [Bx c3_b [(.int .i64 a293)], E (List Bool) a290 c2_h, Bx c0_b [(.int .i64 c0__0), (c0__1h).v, (c0__2h).v, (c0__3h).v], Es (List (Int × Int × List Int × List Int)) c0__1 c0__1h, Es (List Int) c0__2 c0__2h, Es (List Int) c0__3 c0__3h, Bx c1_b [(.bool s199_0)], Bx c2_b [(c2_h).v], Es (List Int) list_ list_h] := H
          exact ⟨(s199_0, a293, a290), ⟨rfl, rfl, rfl, rfl, rfl, rfl, rfl, trivial⟩, Option.some.inj hF294, H.sel [2, 3, 4, 5, 6, 7, 1, 0, 8] rfl⟩
      · have hF296 := condT hF270; clear hF270
        replace H := H.sel [4, 0, 1, 2, 3, 5, 6, 7, 8] rfl
        refine stB0 H rfl ?_; clear H; intro w297 H
        replace H : Cx w0 fp0 S0 w297 [Bx c1_b [(.bool false)], Bx c0_b [(.int .i64 c0__0), (c0__1h).v, (c0__2h).v, (c0__3h).v], Es (List (Int × Int × List Int × List Int)) c0__1 c0__1h, Es (List Int) c0__2 c0__2h, Es (List Int) c0__3 c0__3h, Bx c2_b [(c2_h).v], E (List Bool) s199_2 c2_h, Bx c3_b [(.int .i64 s199_1)], Es (List Int) list_ list_h] := H
        exact ⟨(false, s199_1, s199_2), ⟨rfl, rfl, rfl, rfl, rfl, rfl, rfl, trivial⟩, Option.some.inj hF296, H.sel [1, 2, 3, 4, 0, 5, 6, 7, 8] rfl⟩
    · clear hF254 H
      rintro T299 ⟨s250_0, s250_1, s250_2⟩ w298 ⟨hr, (H : Cx w0 fp0 S0 w298 [Bx c0_b [(.int .i64 c0__0), (c0__1h).v, (c0__2h).v, (c0__3h).v], Es (List (Int × Int × List Int × List Int)) c0__1 c0__1h, Es (List Int) c0__2 c0__2h, Es (List Int) c0__3 c0__3h, Bx c1_b [(.bool s250_0)], Bx c2_b [(c2_h).v], E (List Bool) s250_2 c2_h, Bx c3_b [(.int .i64 s250_1)], Es (List Int) list_ list_h])⟩
      subst hr
      refine arK hk hmx201 ?_
      have hs := Option.some.inj hF253; subst hs; clear hF253
      exact ⟨(), ⟨rfl, rfl, rfl, rfl, rfl, rfl, rfl, trivial⟩, H.sel [0, 1, 2, 3, 4, 5, 6, 7, 8] rfl⟩
  · clear H e
    obtain ⟨s302_0, s302_1, s302_2⟩ := r202
    rintro T301 _ w300 (H : Cx w0 fp0 S0 w300 [Bx c0_b [(.int .i64 c0__0), (c0__1h).v, (c0__2h).v, (c0__3h).v], Es (List (Int × Int × List Int × List Int)) c0__1 c0__1h, Es (List Int) c0__2 c0__2h, Es (List Int) c0__3 c0__3h, Bx c1_b [(.bool s302_0)], Bx c2_b [(c2_h).v], E (List Bool) s302_2 c2_h, Bx c3_b [(.int .i64 s302_1)], Es (List Int) list_ list_h])
    refine boolE (z := false) geLen ?_
    refine sq ?_
    cases hF203
    exact ⟨_, _, rfl, ⟨rfl, rfl⟩, (H.sel [0, 4, 5, 6, 7] rfl).close ⟨cloB, cloB, cloB, cloE, cloB, trivial⟩⟩

theorem impl_Graph_lists_impl_Graph_isGraph_1_c (g__0 : Int) (g__1 : List (Int × Int × List Int × List Int)) (g__1h : Hd) (g__2 : List Int) (g__2h : Hd) (g__3 : List Int) (g__3h : Hd) (d0_b : Nat) (d0__0 : Int) (d0__1 : List (Int × Int × List Int × List Int)) (d0__1h : Hd) (d0__2 : List Int) (d0__2h : Hd) (d0__3 : List Int) (d0__3h : Hd) (d1_b : Nat) (d1_ : Bool) (d2_b : Nat) (d2_ : List Bool) (d2_h : Hd) (d3_b : Nat) (d3_ : Int) (y0 : Bool) (y1 : List Bool) (y2 : Int) (hF : F_impl_Graph_lists_impl_Graph_isGraph_1 (g__0, g__1, g__2, g__3) (d0__0, d0__1, d0__2, d0__3) d1_ d2_ d3_ = some (y0, y1, y2)) :
    ConF Try.prog 82 #[(.agg #[(.int .i64 g__0), (g__1h).v, (g__2h).v, (g__3h).v]), (.func (.func 83) #[] #[(.pointer (some ⟨d0_b, 0, none⟩)), (.pointer (some ⟨d1_b, 0, none⟩)), (.pointer (some ⟨d2_b, 0, none⟩)), (.pointer (some ⟨d3_b, 0, none⟩))])] [Es (List (Int × Int × List Int × List Int)) g__1 g__1h, Es (List Int) g__2 g__2h, Es (List Int) g__3 g__3h, Es (List (Int × Int × List Int × List Int)) d0__1 d0__1h, Es (List Int) d0__2 d0__2h, Es (List Int) d0__3 d0__3h] [Bx d0_b [(.int .i64 d0__0), (d0__1h).v, (d0__2h).v, (d0__3h).v], Bx d1_b [(.bool d1_)], Bx d2_b [(d2_h).v], E (List Bool) d2_ d2_h, Bx d3_b [(.int .i64 d3_)]] (fun v Γ' => v = (.tuple #[]) ∧ Γ' = [Bx d0_b [(.int .i64 d0__0), (d0__1h).v, (d0__2h).v, (d0__3h).v], Bx d1_b [(.bool y0)], Bx d2_b [(d2_h).v], E (List Bool) y1 d2_h, Bx d3_b [(.int .i64 y2)]]) := by
  intro w0 S0 fp0 hI hS
  have H : Cx w0 fp0 S0 w0 [Es (List (Int × Int × List Int × List Int)) g__1 g__1h, Es (List Int) g__2 g__2h, Es (List Int) g__3 g__3h, Es (List (Int × Int × List Int × List Int)) d0__1 d0__1h, Es (List Int) d0__2 d0__2h, Es (List Int) d0__3 d0__3h, Bx d0_b [(.int .i64 d0__0), (d0__1h).v, (d0__2h).v, (d0__3h).v], Bx d1_b [(.bool d1_)], Bx d2_b [(d2_h).v], E (List Bool) d2_ d2_h, Bx d3_b [(.int .i64 d3_)]] := Cx.start hI hS
  clear hI hS
  refine enterC (args := [_, _]) gok Try.func82 rfl _ rfl rfl rfl ?_
  refine box_ H ?_; clear H; intro b13 w12 hx H
  clear hx
  replace H : Cx w0 fp0 S0 w12 [Bx b13 [(.int .i64 g__0), (g__1h).v, (g__2h).v, (g__3h).v], Es (List (Int × Int × List Int × List Int)) g__1 g__1h, Es (List Int) g__2 g__2h, Es (List Int) g__3 g__3h, Es (List (Int × Int × List Int × List Int)) d0__1 d0__1h, Es (List Int) d0__2 d0__2h, Es (List Int) d0__3 d0__3h, Bx d0_b [(.int .i64 d0__0), (d0__1h).v, (d0__2h).v, (d0__3h).v], Bx d1_b [(.bool d1_)], Bx d2_b [(d2_h).v], E (List Bool) d2_ d2_h, Bx d3_b [(.int .i64 d3_)]] := H
  refine fld gok rfl rfl rfl rfl ?_
  refine load1 (H.bx 0 rfl (j := 2) rfl) ?_
  obtain ⟨y15, e, hF16⟩ := bindS hF; clear hF
  obtain ⟨y15_0, y15_1, y15_2⟩ := y15
  have ey15 := e; clear e
  replace H := H.sel [7, 8, 9, 10, 11, 0, 1, 2, 3, 4, 5, 6] rfl
  refine callF (impl_Graph_isGraph_1_c g__2 g__2h d0_b d0__0 d0__1 d0__1h d0__2 d0__2h d0__3 d0__3h d1_b d1_ d2_b d2_ d2_h d3_b d3_ y15_0 y15_1 y15_2 ey15) (Γi := [Bx d0_b [(.int .i64 d0__0), (d0__1h).v, (d0__2h).v, (d0__3h).v], Bx d1_b [(.bool d1_)], Bx d2_b [(d2_h).v], E (List Bool) d2_ d2_h, Bx d3_b [(.int .i64 d3_)]]) H ⟨Vw.sh 2 rfl, Vw.sh 4 rfl, Vw.sh 5 rfl, Vw.sh 6 rfl, trivial⟩ ?_; clear H ey15
  rintro _ _ w17 ⟨rfl, rfl⟩ (H : Cx w0 fp0 S0 w17 [Bx d0_b [(.int .i64 d0__0), (d0__1h).v, (d0__2h).v, (d0__3h).v], Bx d1_b [(.bool y15_0)], Bx d2_b [(d2_h).v], E (List Bool) y15_1 d2_h, Bx d3_b [(.int .i64 y15_2)], Bx b13 [(.int .i64 g__0), (g__1h).v, (g__2h).v, (g__3h).v], Es (List (Int × Int × List Int × List Int)) g__1 g__1h, Es (List Int) g__2 g__2h, Es (List Int) g__3 g__3h, Es (List (Int × Int × List Int × List Int)) d0__1 d0__1h, Es (List Int) d0__2 d0__2h, Es (List Int) d0__3 d0__3h])
  refine fld gok rfl rfl rfl rfl ?_
  refine load1 (H.bx 5 rfl (j := 3) rfl) ?_
  obtain ⟨y18, e, hF19⟩ := bindS hF16; clear hF16
  obtain ⟨y18_0, y18_1, y18_2⟩ := y18
  have ey18 := e; clear e
  refine callF (impl_Graph_isGraph_1_c g__3 g__3h d0_b d0__0 d0__1 d0__1h d0__2 d0__2h d0__3 d0__3h d1_b y15_0 d2_b y15_1 d2_h d3_b y15_2 y18_0 y18_1 y18_2 ey18) (Γi := [Bx d0_b [(.int .i64 d0__0), (d0__1h).v, (d0__2h).v, (d0__3h).v], Bx d1_b [(.bool y15_0)], Bx d2_b [(d2_h).v], E (List Bool) y15_1 d2_h, Bx d3_b [(.int .i64 y15_2)]]) H ⟨Vw.sh 3 rfl, Vw.sh 4 rfl, Vw.sh 5 rfl, Vw.sh 6 rfl, trivial⟩ ?_; clear H ey18
  rintro _ _ w20 ⟨rfl, rfl⟩ (H : Cx w0 fp0 S0 w20 [Bx d0_b [(.int .i64 d0__0), (d0__1h).v, (d0__2h).v, (d0__3h).v], Bx d1_b [(.bool y18_0)], Bx d2_b [(d2_h).v], E (List Bool) y18_1 d2_h, Bx d3_b [(.int .i64 y18_2)], Bx b13 [(.int .i64 g__0), (g__1h).v, (g__2h).v, (g__3h).v], Es (List (Int × Int × List Int × List Int)) g__1 g__1h, Es (List Int) g__2 g__2h, Es (List Int) g__3 g__3h, Es (List (Int × Int × List Int × List Int)) d0__1 d0__1h, Es (List Int) d0__2 d0__2h, Es (List Int) d0__3 d0__3h])
  refine fld gok rfl rfl rfl rfl ?_
  refine load1 (H.bx 5 rfl (j := 1) rfl) ?_
  refine lenE (H.rs (α := List (Int × Int × List Int × List Int)) 6 rfl).len ?_
  have hmx76 := (H.rs (α := List (Int × Int × List Int × List Int)) 6 rfl).max
  obtain ⟨r77, e, hF78⟩ := bindS hF19; clear hF19
  refine loopS _ g__1.length (fun (k21 : Nat) (s74 : Int × Bool × List Bool) (_ : Unit) => [(1, (.func (.func 83) #[] #[(.pointer (some ⟨d0_b, 0, none⟩)), (.pointer (some ⟨d1_b, 0, none⟩)), (.pointer (some ⟨d2_b, 0, none⟩)), (.pointer (some ⟨d3_b, 0, none⟩))])), (15, (g__1h).v), (16, (.int .i64 ((g__1.length : Nat) : Int))), (17, (.int .i64 ((k21 : Nat) : Int)))]) (fun _ (s74 : Int × Bool × List Bool) (_ : Unit) w' => Cx w0 fp0 S0 w' [Bx d0_b [(.int .i64 d0__0), (d0__1h).v, (d0__2h).v, (d0__3h).v], Es (List (Int × Int × List Int × List Int)) d0__1 d0__1h, Es (List Int) d0__2 d0__2h, Es (List Int) d0__3 d0__3h, Bx d1_b [(.bool s74.2.1)], Bx d2_b [(d2_h).v], E (List Bool) s74.2.2 d2_h, Bx d3_b [(.int .i64 s74.1)], Es (List (Int × Int × List Int × List Int)) g__1 g__1h]) (y18_2, y18_0, y18_1) () e ⟨rfl, rfl, rfl, rfl, trivial⟩ (H.sel [0, 9, 10, 11, 1, 2, 3, 4, 6] rfl) ?_ ?_
  · clear H e
    rintro T80 k21 ⟨s74_0, s74_1, s74_2⟩ _ w79 o81 hk (H : Cx w0 fp0 S0 w79 [Bx d0_b [(.int .i64 d0__0), (d0__1h).v, (d0__2h).v, (d0__3h).v], Es (List (Int × Int × List Int × List Int)) d0__1 d0__1h, Es (List Int) d0__2 d0__2h, Es (List Int) d0__3 d0__3h, Bx d1_b [(.bool s74_1)], Bx d2_b [(d2_h).v], E (List Bool) s74_2 d2_h, Bx d3_b [(.int .i64 s74_0)], Es (List (Int × Int × List Int × List Int)) g__1 g__1h]) hF82
    refine boolE (z := true) (ltLen hk) ?_
    refine sq ?_
    refine sq ?_
    obtain ⟨a89, e, hF90⟩ := bindS hF82; clear hF82
    have HH := H; clear H; obtain ⟨p87, m88, g91, c83, c84, c85, c86, H⟩ := HH.el (α := Int × Int × List Int × List Int) 8 rfl e; clear HH
    clear e
    obtain ⟨a89_0, a89_1, a89_2, a89_3⟩ := a89
    obtain ⟨_, _, h93, h94⟩ := g91
    replace H := H.part (β := List Int) a89_2 (h93 : Hd) 0 rfl (fun S h => (And.left (And.right (And.right h))))
    replace H := H.part (β := List Int) a89_3 (h94 : Hd) 1 rfl (fun S h => (And.right (And.right (And.right h))))
    replace H := H.sel [0, 1, 3, 4, 5, 6, 7, 8, 9, 10, 11] rfl
    refine idxE c83 c84 c85 ?_; clear c83 c84 c85
    refine loadN [(.int .i64 a89_0), (.int .i64 a89_1), (h93).v, (h94).v] rfl c86 ?_; clear c86
    refine alloc_ gok rfl H ?_; clear H; intro b98 w97 hx H
    clear hx
    replace H : Cx w0 fp0 S0 w97 [Bx b98 [(.int .i64 0), (.int .i64 0), (.slice none 0 0), (.slice none 0 0)], Es (List Int) a89_3 h94, Es (List Int) a89_2 h93, Bx d0_b [(.int .i64 d0__0), (d0__1h).v, (d0__2h).v, (d0__3h).v], Es (List (Int × Int × List Int × List Int)) d0__1 d0__1h, Es (List Int) d0__2 d0__2h, Es (List Int) d0__3 d0__3h, Bx d1_b [(.bool s74_1)], Bx d2_b [(d2_h).v], E (List Bool) s74_2 d2_h, Bx d3_b [(.int .i64 s74_0)], Es (List (Int × Int × List Int × List Int)) g__1 g__1h] := H
    refine stA gok [(.int .i64 a89_0), (.int .i64 a89_1), (h93).v, (h94).v] rfl H rfl rfl rfl ?_; clear H; intro w100 H
    replace H : Cx w0 fp0 S0 w100 [Bx b98 [(.int .i64 a89_0), (.int .i64 a89_1), (h93).v, (h94).v], Es (List Int) a89_3 h94, Es (List Int) a89_2 h93, Bx d0_b [(.int .i64 d0__0), (d0__1h).v, (d0__2h).v, (d0__3h).v], Es (List (Int × Int × List Int × List Int)) d0__1 d0__1h, Es (List Int) d0__2 d0__2h, Es (List Int) d0__3 d0__3h, Bx d1_b [(.bool s74_1)], Bx d2_b [(d2_h).v], E (List Bool) s74_2 d2_h, Bx d3_b [(.int .i64 s74_0)], Es (List (Int × Int × List Int × List Int)) g__1 g__1h] := H
    refine fld gok rfl rfl rfl rfl ?_
    refine load1 (H.bx 0 rfl (j := 2) rfl) ?_
    obtain ⟨y101, e, hF102⟩ := bindS hF90; clear hF90
    obtain ⟨y101_0, y101_1, y101_2⟩ := y101
    have ey101 := e; clear e
    replace H := H.sel [3, 7, 8, 9, 10, 0, 1, 2, 4, 5, 6, 11] rfl
    refine callF (impl_Graph_isGraph_1_c a89_2 h93 d0_b d0__0 d0__1 d0__1h d0__2 d0__2h d0__3 d0__3h d1_b s74_1 d2_b s74_2 d2_h d3_b s74_0 y101_0 y101_1 y101_2 ey101) (Γi := [Bx d0_b [(.int .i64 d0__0), (d0__1h).v, (d0__2h).v, (d0__3h).v], Bx d1_b [(.bool s74_1)], Bx d2_b [(d2_h).v], E (List Bool) s74_2 d2_h, Bx d3_b [(.int .i64 s74_0)]]) H ⟨Vw.sh 2 rfl, Vw.sh 3 rfl, Vw.sh 4 rfl, Vw.sh 5 rfl, trivial⟩ ?_; clear H ey101
    rintro _ _ w103 ⟨rfl, rfl⟩ (H : Cx w0 fp0 S0 w103 [Bx d0_b [(.int .i64 d0__0), (d0__1h).v, (d0__2h).v, (d0__3h).v], Bx d1_b [(.bool y101_0)], Bx d2_b [(d2_h).v], E (List Bool) y101_1 d2_h, Bx d3_b [(.int .i64 y101_2)], Bx b98 [(.int .i64 a89_0), (.int .i64 a89_1), (h93).v, (h94).v], Es (List Int) a89_3 h94, Es (List Int) a89_2 h93, Es (List (Int × Int × List Int × List Int)) d0__1 d0__1h, Es (List Int) d0__2 d0__2h, Es (List Int) d0__3 d0__3h, Es (List (Int × Int × List Int × List Int)) g__1 g__1h])
    refine fld gok rfl rfl rfl rfl ?_
    refine load1 (H.bx 5 rfl (j := 3) rfl) ?_
    obtain ⟨y104, e, hF105⟩ := bindS hF102; clear hF102
    obtain ⟨y104_0, y104_1, y104_2⟩ := y104
    have ey104 := e; clear e
    refine callF (impl_Graph_isGraph_1_c a89_3 h94 d0_b d0__0 d0__1 d0__1h d0__2 d0__2h d0__3 d0__3h d1_b y101_0 d2_b y101_1 d2_h d3_b y101_2 y104_0 y104_1 y104_2 ey104) (Γi := [Bx d0_b [(.int .i64 d0__0), (d0__1h).v, (d0__2h).v, (d0__3h).v], Bx d1_b [(.bool y101_0)], Bx d2_b [(d2_h).v], E (List Bool) y101_1 d2_h, Bx d3_b [(.int .i64 y101_2)]]) H ⟨Vw.sh 1 rfl, Vw.sh 3 rfl, Vw.sh 4 rfl, Vw.sh 5 rfl, trivial⟩ ?_; clear H ey104
    rintro _ _ w106 ⟨rfl, rfl⟩ (H : Cx w0 fp0 S0 w106 [Bx d0_b [(.int .i64 d0__0), (d0__1h).v, (d0__2h).v, (d0__3h).v], Bx d1_b [(.bool y104_0)], Bx d2_b [(d2_h).v], E (List Bool) y104_1 d2_h, Bx d3_b [(.int .i64 y104_2)], Bx b98 [(.int .i64 a89_0), (.int .i64 a89_1), (h93).v, (h94).v], Es (List Int) a89_3 h94, Es (List Int) a89_2 h93, Es (List (Int × Int × List Int × List Int)) d0__1 d0__1h, Es (List Int) d0__2 d0__2h, Es (List Int) d0__3 d0__3h, Es (List (Int × Int × List Int × List Int)) g__1 g__1h])
    refine arK hk hmx76 ?_
    have hs := Option.some.inj hF105; subst hs; clear hF105
    exact ⟨(), ⟨rfl, rfl, rfl, rfl, trivial⟩, H.sel [0, 8, 9, 10, 1, 2, 3, 4, 11] rfl⟩
  · clear H e
    obtain ⟨s109_0, s109_1, s109_2⟩ := r77
    rintro T108 _ w107 (H : Cx w0 fp0 S0 w107 [Bx d0_b [(.int .i64 d0__0), (d0__1h).v, (d0__2h).v, (d0__3h).v], Es (List (Int × Int × List Int × List Int)) d0__1 d0__1h, Es (List Int) d0__2 d0__2h, Es (List Int) d0__3 d0__3h, Bx d1_b [(.bool s109_1)], Bx d2_b [(d2_h).v], E (List Bool) s109_2 d2_h, Bx d3_b [(.int .i64 s109_0)], Es (List (Int × Int × List Int × List Int)) g__1 g__1h])
    refine boolE (z := false) geLen ?_
    refine sq ?_
    cases hF78
    exact ⟨_, _, rfl, ⟨rfl, rfl⟩, (H.sel [0, 4, 5, 6, 7] rfl).close ⟨cloB, cloB, cloB, cloE, cloB, trivial⟩⟩
end Go.Proofs.Ytgfnophfoccamaa
