/-
  Contracts, printed by a program (wip/y/gen.py): each function of Go computes its partial function. Condition of each: its partial function yields a value.
-/
import Derived.Test.YtnlbhdepagkjgaaDoorZEng
import Derived.Test.YtnlbhdepagkjgaaDoorZFn
namespace Go.Proofs.YtnlbhdepagkjgaaDoor
open Go Go.Proofs.YtnlbhdepagkjgaaDoor.RW
set_option maxRecDepth 100000
set_option linter.unusedVariables false

theorem laws_toIntS_c (a_ : List Int) (a_h : Hd) (y : List Int) (hF : F_laws_toIntS a_ = some y) :
    ConF Tryd.prog 32 #[(a_h).v] [Es (List Int) a_ a_h] [] (fun v Γ' => ∃ z0 : Hd, v = (z0).v ∧ Γ' = [E (List Int) y z0]) := by
  intro w0 S0 fp0 hI hS
  have H : Cx w0 fp0 S0 w0 [Es (List Int) a_ a_h] := Cx.start hI hS
  clear hI hS
  refine enterC (args := [_]) gok Tryd.func32 rfl _ rfl rfl rfl ?_
  refine lenE (H.rs (α := List Int) 0 rfl).len ?_
  obtain ⟨a2, e, hF3⟩ := bindS hF; clear hF
  refine make_ (α := Int) gok rfl rfl rfl rfl (makeCO_of e) H ?_; clear e H; intro h5 w4 hx H
  clear hx
  obtain ⟨r92, hF94, hF93⟩ := bindS hF3; clear hF3
  refine cut (fun (q95 : List Int) => [(3, (h5).v)]) (fun (q95 : List Int) w' => q95 = r92 ∧ Cx w0 fp0 S0 w' [E (List Int) q95 h5]) ?_ ?_
  · skip
    refine loopW _ (fun (s146 : List Int × Int) (_ : Unit) => [(0, (a_h).v), (3, (h5).v), (4, (.int .i64 s146.2))]) (fun (s146 : List Int × Int) (_ : Unit) w' => Cx w0 fp0 S0 w' [Es (List Int) a_ a_h, E (List Int) s146.1 h5]) (a2, 0) () hF94 ⟨rfl, rfl, rfl, trivial⟩ (H.sel [1, 0] rfl) ?_
    · clear H
      rintro T152 ⟨s146_0, s146_1⟩ _ w151 o153 (H : Cx w0 fp0 S0 w151 [Es (List Int) a_ a_h, E (List Int) s146_0 h5]) hrt hF154
      refine sq ?_
      refine lenE (H.rs (α := List Int) 0 rfl).len ?_
      obtain ⟨a155, e, hF156⟩ := bindS hF154; clear hF154
      refine boolO e ?_; clear e
      cases a155
      · have hF157 := condF hF156; clear hF156
        have hs := Option.some.inj hF157; subst hs; clear hF157
        have hF158 : some _ = some _ := congrArg some (hrt _ rfl).symm
        exact ⟨s146_0, ⟨rfl, trivial⟩, Option.some.inj hF158, H.sel [1] rfl⟩
      · have hF159 := condT hF156; clear hF156
        refine sq ?_
        obtain ⟨a166, e, hF167⟩ := bindS hF159; clear hF159
        obtain ⟨p164, m165, c160, c161, c162, c163⟩ := (H.rs (α := List Int) 0 rfl).at1 e; clear e
        refine idxE c160 c161 c162 ?_; clear c160 c161 c162
        refine load1 c163 ?_; clear c163
        obtain ⟨a174, e, hF175⟩ := bindS hF167; clear hF167
        have ea174 := e; clear e
        obtain ⟨p172, m173, c168, c169, c170⟩ := (H.ro (α := List Int) 1 rfl).setp ea174
        refine idxE c168 c169 c170 ?_
        replace H := H.sel [1, 0] rfl
        refine setS (α := Int) H c168 c169 ea174 ?_; clear H c168 c169 c170 ea174; intro w176 H
        obtain ⟨a177, e, hF178⟩ := bindS hF175; clear hF175
        refine arO e ?_; clear e
        have hs := Option.some.inj hF178; subst hs; clear hF178
        exact ⟨(a174, a177), (), rfl, ⟨rfl, rfl, rfl, trivial⟩, H.sel [1, 0] rfl⟩
  · clear hF94 H
    rintro T180 s90 w179 ⟨hr, (H : Cx w0 fp0 S0 w179 [E (List Int) s90 h5])⟩
    subst hr
    cases hF93
    exact ⟨_, _, rfl, ⟨h5, rfl, rfl⟩, (H.sel [0] rfl).close ⟨cloE, trivial⟩⟩

theorem spec_l1In_c (n_ : Int) (lo_ : Int) (hi_ : Int) (y : Bool) (hF : F_spec_l1In n_ lo_ hi_ = some y) :
    ConF Tryd.prog 75 #[(.int .i64 n_), (.int .i64 lo_), (.int .i64 hi_)] [] [] (fun v Γ' => v = (.bool y) ∧ Γ' = []) := by
  intro w0 S0 fp0 hI hS
  have H : Cx w0 fp0 S0 w0 [] := Cx.start hI hS
  clear hI hS
  refine enterC (args := [_, _, _]) gok Tryd.func75 rfl _ rfl rfl rfl ?_
  obtain ⟨r9, hF11, hF10⟩ := bindS hF; clear hF
  refine cut (fun (q12 : Bool) => [(6, (.bool q12))]) (fun (q12 : Bool) w' => q12 = r9 ∧ Cx w0 fp0 S0 w' []) ?_ ?_
  · skip
    obtain ⟨a13, e, hF14⟩ := bindS hF11; clear hF11
    refine boolO e ?_; clear e
    cases a13
    · have hF15 := condF hF14; clear hF14
      exact ⟨false, ⟨rfl, trivial⟩, Option.some.inj hF15, H.sel [] rfl⟩
    · have hF16 := condT hF14; clear hF14
      obtain ⟨a17, e, hF18⟩ := bindS hF16; clear hF16
      refine boolO e ?_; clear e
      exact ⟨a17, ⟨rfl, trivial⟩, Option.some.inj hF18, H.sel [] rfl⟩
  · clear hF11 H
    rintro T20 s7 w19 ⟨hr, (H : Cx w0 fp0 S0 w19 [])⟩
    subst hr
    cases hF10
    exact ⟨_, _, rfl, ⟨rfl, rfl⟩, (H.sel [] rfl).close trivial⟩

theorem spec_fdGood_c (p_ : Int) (y : Bool) (hF : F_spec_fdGood p_ = some y) :
    ConF Tryd.prog 117 #[(.int .i64 p_)] [] [] (fun v Γ' => v = (.bool y) ∧ Γ' = []) := by
  intro w0 S0 fp0 hI hS
  have H : Cx w0 fp0 S0 w0 [] := Cx.start hI hS
  clear hI hS
  refine enterC (args := [_]) gok Tryd.func117 rfl _ rfl rfl rfl ?_
  refine sq ?_
  obtain ⟨y1, e, hF2⟩ := bindS hF; clear hF
  have ey1 := e; clear e
  refine callF (spec_l1In_c p_ 2 97 y1 ey1) (Γi := []) H trivial ?_; clear H ey1
  rintro _ _ w3 ⟨rfl, rfl⟩ (H : Cx w0 fp0 S0 w3 [])
  obtain ⟨a4, e, hF5⟩ := bindS hF2; clear hF2
  refine boolO e ?_; clear e
  cases a4
  · have hF6 := condF hF5; clear hF5
    obtain ⟨r66, hF68, hF67⟩ := bindS hF6; clear hF6
    refine cut (fun (q69 : Unit) => []) (fun (q69 : Unit) w' => .inl () = r66 ∧ Cx w0 fp0 S0 w' []) ?_ ?_
    · skip
      refine loopW _ (fun (s102 : Int) (_ : Unit) => [(0, (.int .i64 p_)), (3, (.int .i64 s102))]) (fun (s102 : Int) (_ : Unit) w' => Cx w0 fp0 S0 w' []) 2 () hF68 ⟨rfl, rfl, trivial⟩ (H.sel [] rfl) ?_
      · clear H
        rintro T108 s102 _ w107 o109 (H : Cx w0 fp0 S0 w107 []) hrt hF110
        refine sq ?_
        obtain ⟨a111, e, hF112⟩ := bindS hF110; clear hF110
        refine arO e ?_; clear e
        obtain ⟨a113, e, hF114⟩ := bindS hF112; clear hF112
        refine boolO e ?_; clear e
        cases a113
        · have hF115 := condF hF114; clear hF114
          have hs := Option.some.inj hF115; subst hs; clear hF115
          have hF116 : some _ = some _ := congrArg some (hrt _ rfl).symm
          exact ⟨(), trivial, Option.some.inj hF116, H.sel [] rfl⟩
        · have hF117 := condT hF114; clear hF114
          refine sq ?_
          obtain ⟨a118, e, hF119⟩ := bindS hF117; clear hF117
          refine remO_ e ?_; clear e
          obtain ⟨a120, e, hF121⟩ := bindS hF119; clear hF119
          refine boolO e ?_; clear e
          cases a120
          · have hF122 := condF hF121; clear hF121
            obtain ⟨a123, e, hF124⟩ := bindS hF122; clear hF122
            refine arO e ?_; clear e
            have hs := Option.some.inj hF124; subst hs; clear hF124
            exact ⟨a123, (), rfl, ⟨rfl, rfl, trivial⟩, H.sel [] rfl⟩
          · have hF125 := condT hF121; clear hF121
            have hs := Option.some.inj hF125; subst hs; clear hF125
            have hF126 : some _ = some _ := congrArg some (hrt _ rfl).symm
            have hs := Option.some.inj hF126; subst hs; clear hF126
            have hF127 : some _ = some _ := hF67; clear hF67
            cases hF127
            exact ⟨_, _, rfl, ⟨rfl, rfl⟩, (H.sel [] rfl).close trivial⟩
    · clear hF68 H
      rintro T129 _ w128 ⟨hr, (H : Cx w0 fp0 S0 w128 [])⟩
      subst hr
      cases hF67
      exact ⟨_, _, rfl, ⟨rfl, rfl⟩, (H.sel [] rfl).close trivial⟩
  · have hF130 := condT hF5; clear hF5
    cases hF130
    exact ⟨_, _, rfl, ⟨rfl, rfl⟩, (H.sel [] rfl).close trivial⟩

theorem spec_l1All_c (l_ : List Int) (l_h : Hd) (lo_ : Int) (hi_ : Int) (y : Bool) (hF : F_spec_l1All l_ lo_ hi_ = some y) :
    ConF Tryd.prog 137 #[(l_h).v, (.int .i64 lo_), (.int .i64 hi_)] [Es (List Int) l_ l_h] [] (fun v Γ' => v = (.bool y) ∧ Γ' = []) := by
  intro w0 S0 fp0 hI hS
  have H : Cx w0 fp0 S0 w0 [Es (List Int) l_ l_h] := Cx.start hI hS
  clear hI hS
  refine enterC (args := [_, _, _]) gok Tryd.func137 rfl _ rfl rfl rfl ?_
  refine sq ?_
  refine lenE (H.rs (α := List Int) 0 rfl).len ?_
  have hmx22 := (H.rs (α := List Int) 0 rfl).max
  obtain ⟨r23, e, hF24⟩ := bindS hF; clear hF
  refine loopO _ l_.length (fun (k2 : Nat) (_ : Unit) (_ : Unit) => [(1, (.int .i64 lo_)), (2, (.int .i64 hi_)), (9, (l_h).v), (10, (.int .i64 ((l_.length : Nat) : Int))), (11, (.int .i64 ((k2 : Nat) : Int)))]) (fun _ (_ : Unit) (_ : Unit) w' => Cx w0 fp0 S0 w' [Es (List Int) l_ l_h]) () () e ⟨rfl, rfl, rfl, rfl, rfl, trivial⟩ (H.sel [0] rfl) ?_ ?_
  · clear H e
    rintro T26 k2 _ _ w25 o27 hk (H : Cx w0 fp0 S0 w25 [Es (List Int) l_ l_h]) hrt hF28
    refine boolE (z := true) (ltLen hk) ?_
    refine sq ?_
    refine sq ?_
    obtain ⟨a35, e, hF36⟩ := bindS hF28; clear hF28
    obtain ⟨p33, m34, c29, c30, c31, c32⟩ := (H.rs (α := List Int) 0 rfl).at1 e; clear e
    refine idxE c29 c30 c31 ?_; clear c29 c30 c31
    refine load1 c32 ?_; clear c32
    obtain ⟨y37, e, hF38⟩ := bindS hF36; clear hF36
    have ey37 := e; clear e
    refine callF (spec_l1In_c a35 lo_ hi_ y37 ey37) (Γi := []) H trivial ?_; clear H ey37
    rintro _ _ w39 ⟨rfl, rfl⟩ (H : Cx w0 fp0 S0 w39 [Es (List Int) l_ l_h])
    obtain ⟨a40, e, hF41⟩ := bindS hF38; clear hF38
    refine boolO e ?_; clear e
    cases a40
    · have hF42 := condF hF41; clear hF41
      refine arK hk hmx22 ?_
      have hs := Option.some.inj hF42; subst hs; clear hF42
      exact ⟨(), (), rfl, ⟨rfl, rfl, rfl, rfl, rfl, trivial⟩, H.sel [0] rfl⟩
    · have hF43 := condT hF41; clear hF41
      have hs := Option.some.inj hF43; subst hs; clear hF43
      have hr := hrt _ rfl; subst hr
      have hF44 : some _ = some _ := hF24
      cases hF44
      exact ⟨_, _, rfl, ⟨rfl, rfl⟩, (H.sel [] rfl).close trivial⟩
  · clear H e
    rintro T46 _ _ w45 hr (H : Cx w0 fp0 S0 w45 [Es (List Int) l_ l_h])
    subst hr
    refine boolE (z := false) geLen ?_
    refine sq ?_
    cases hF24
    exact ⟨_, _, rfl, ⟨rfl, rfl⟩, (H.sel [] rfl).close trivial⟩

theorem spec_fdIn_c (p_ : Int) (l_ : List Int) (l_h : Hd) (y : Bool) (hF : F_spec_fdIn p_ l_ = some y) :
    ConF Tryd.prog 91 #[(.int .i64 p_), (l_h).v] [Es (List Int) l_ l_h] [] (fun v Γ' => v = (.bool y) ∧ Γ' = []) := by
  intro w0 S0 fp0 hI hS
  have H : Cx w0 fp0 S0 w0 [Es (List Int) l_ l_h] := Cx.start hI hS
  clear hI hS
  refine enterC (args := [_, _]) gok Tryd.func91 rfl _ rfl rfl rfl ?_
  obtain ⟨a2, e, hF3⟩ := bindS hF; clear hF
  refine arO e ?_; clear e
  obtain ⟨y4, e, hF5⟩ := bindS hF3; clear hF3
  have ey4 := e; clear e
  refine callF (spec_l1All_c l_ l_h 0 a2 y4 ey4) (Γi := []) H ⟨Vw.sh 0 rfl, trivial⟩ ?_; clear H ey4
  rintro _ _ w6 ⟨rfl, rfl⟩ (H : Cx w0 fp0 S0 w6 [Es (List Int) l_ l_h])
  cases hF5
  exact ⟨_, _, rfl, ⟨rfl, rfl⟩, (H.sel [] rfl).close trivial⟩

theorem spec_rzList_c (p_ : Int) (s_ : List Int) (s_h : Hd) (y : Bool) (hF : F_spec_rzList p_ s_ = some y) :
    ConF Tryd.prog 102 #[(.int .i64 p_), (s_h).v] [Es (List Int) s_ s_h] [] (fun v Γ' => v = (.bool y) ∧ Γ' = []) := by
  intro w0 S0 fp0 hI hS
  have H : Cx w0 fp0 S0 w0 [Es (List Int) s_ s_h] := Cx.start hI hS
  clear hI hS
  refine enterC (args := [_, _]) gok Tryd.func102 rfl _ rfl rfl rfl ?_
  obtain ⟨r16, hF18, hF17⟩ := bindS hF; clear hF
  refine cut (fun (q19 : Bool) => [(4, (.bool q19))]) (fun (q19 : Bool) w' => q19 = r16 ∧ Cx w0 fp0 S0 w' []) ?_ ?_
  · skip
    obtain ⟨y20, e, hF21⟩ := bindS hF18; clear hF18
    have ey20 := e; clear e
    refine callF (spec_fdGood_c p_ y20 ey20) (Γi := []) H trivial ?_; clear H ey20
    rintro _ _ w22 ⟨rfl, rfl⟩ (H : Cx w0 fp0 S0 w22 [Es (List Int) s_ s_h])
    cases y20
    · have hF23 := condF hF21; clear hF21
      exact ⟨false, ⟨rfl, trivial⟩, Option.some.inj hF23, H.sel [] rfl⟩
    · have hF24 := condT hF21; clear hF21
      refine lenE (H.rs (α := List Int) 0 rfl).len ?_
      obtain ⟨a25, e, hF26⟩ := bindS hF24; clear hF24
      refine boolO e ?_; clear e
      cases a25
      · have hF27 := condF hF26; clear hF26
        exact ⟨false, ⟨rfl, trivial⟩, Option.some.inj hF27, H.sel [] rfl⟩
      · have hF28 := condT hF26; clear hF26
        obtain ⟨y29, e, hF30⟩ := bindS hF28; clear hF28
        have ey29 := e; clear e
        refine callF (spec_fdIn_c p_ s_ s_h y29 ey29) (Γi := []) H ⟨Vw.sh 0 rfl, trivial⟩ ?_; clear H ey29
        rintro _ _ w31 ⟨rfl, rfl⟩ (H : Cx w0 fp0 S0 w31 [Es (List Int) s_ s_h])
        exact ⟨y29, ⟨rfl, trivial⟩, Option.some.inj hF30, H.sel [] rfl⟩
  · clear hF18 H
    rintro T33 s14 w32 ⟨hr, (H : Cx w0 fp0 S0 w32 [])⟩
    subst hr
    cases hF17
    exact ⟨_, _, rfl, ⟨rfl, rfl⟩, (H.sel [] rfl).close trivial⟩

theorem spec_fdNeg_c (p_ : Int) (a_ : Int) (y : Int) (hF : F_spec_fdNeg p_ a_ = some y) :
    ConF Tryd.prog 139 #[(.int .i64 p_), (.int .i64 a_)] [] [] (fun v Γ' => v = (.int .i64 y) ∧ Γ' = []) := by
  intro w0 S0 fp0 hI hS
  have H : Cx w0 fp0 S0 w0 [] := Cx.start hI hS
  clear hI hS
  refine enterC (args := [_, _]) gok Tryd.func139 rfl _ rfl rfl rfl ?_
  obtain ⟨a1, e, hF2⟩ := bindS hF; clear hF
  refine arO e ?_; clear e
  obtain ⟨a3, e, hF4⟩ := bindS hF2; clear hF2
  refine remO_ e ?_; clear e
  cases hF4
  exact ⟨_, _, rfl, ⟨rfl, rfl⟩, (H.sel [] rfl).close trivial⟩

theorem spec_l1Own_c (l_ : List Int) (l_h : Hd) (y : List Int) (hF : F_spec_l1Own l_ = some y) :
    ConF Tryd.prog 118 #[(l_h).v] [Es (List Int) l_ l_h] [] (fun v Γ' => ∃ z0 : Hd, v = (z0).v ∧ Γ' = [E (List Int) y z0]) := by
  intro w0 S0 fp0 hI hS
  have H : Cx w0 fp0 S0 w0 [Es (List Int) l_ l_h] := Cx.start hI hS
  clear hI hS
  refine enterC (args := [_]) gok Tryd.func118 rfl _ rfl rfl rfl ?_
  refine lit0 (α := Int) gok rfl rfl H ?_; clear H; intro h3 w2 hx H
  clear hx
  obtain ⟨a5, e, hF6⟩ := bindS hF; clear hF
  refine appendS (α := Int) gok rfl rfl rfl rfl H (Vw.sh 0 rfl) e ?_; clear e H; intro h8 w7 H
  cases hF6
  exact ⟨_, _, rfl, ⟨h8, rfl, rfl⟩, (H.sel [0] rfl).close ⟨cloE, trivial⟩⟩

theorem spec_mxCopy_c (m__0 : Int) (m__1 : List (List Int)) (m__1h : Hd) (y_0 : Int) (y_1 : List (List Int)) (hF : F_spec_mxCopy (m__0, m__1) = some (y_0, y_1)) :
    ConF Tryd.prog 154 #[(.agg #[(.int .i64 m__0), (m__1h).v])] [Es (List (List Int)) m__1 m__1h] [] (fun v Γ' => ∃ z0 : Hd, v = (.agg #[(.int .i64 y_0), (z0).v]) ∧ Γ' = [E (List (List Int)) y_1 z0]) := by
  intro w0 S0 fp0 hI hS
  have H : Cx w0 fp0 S0 w0 [Es (List (List Int)) m__1 m__1h] := Cx.start hI hS
  clear hI hS
  refine enterC (args := [_]) gok Tryd.func154 rfl _ rfl rfl rfl ?_
  refine box_ H ?_; clear H; intro b3 w2 hx H
  clear hx
  replace H : Cx w0 fp0 S0 w2 [Bx b3 [(.int .i64 m__0), (m__1h).v], Es (List (List Int)) m__1 m__1h] := H
  refine alloc_ gok rfl H ?_; clear H; intro b6 w5 hx H
  clear hx
  replace H : Cx w0 fp0 S0 w5 [Bx b6 [(.int .i64 0), (.slice none 0 0)], Bx b3 [(.int .i64 m__0), (m__1h).v], Es (List (List Int)) m__1 m__1h] := H
  refine fld gok rfl rfl rfl rfl ?_
  refine load1 (H.bx 1 rfl (j := 0) rfl) ?_
  refine build_ (cs := #[(.int .i64 m__0), (.slice none 0 0)]) gok rfl rfl rfl ?_
  refine alloc_ gok rfl H ?_; clear H; intro b9 w8 hx H
  clear hx
  replace H : Cx w0 fp0 S0 w8 [Bx b9 [(.int .i64 0), (.slice none 0 0)], Bx b6 [(.int .i64 0), (.slice none 0 0)], Bx b3 [(.int .i64 m__0), (m__1h).v], Es (List (List Int)) m__1 m__1h] := H
  refine stA gok [(.int .i64 m__0), (.slice none 0 0)] rfl H rfl rfl rfl ?_; clear H; intro w11 H
  replace H : Cx w0 fp0 S0 w11 [Bx b9 [(.int .i64 m__0), (.slice none 0 0)], Bx b6 [(.int .i64 0), (.slice none 0 0)], Bx b3 [(.int .i64 m__0), (m__1h).v], Es (List (List Int)) m__1 m__1h] := H
  refine sq ?_
  refine fld gok rfl rfl rfl rfl ?_
  refine load1 (H.bx 2 rfl (j := 1) rfl) ?_
  refine lenE (H.rs (α := List (List Int)) 3 rfl).len ?_
  have hmx72 := (H.rs (α := List (List Int)) 3 rfl).max
  obtain ⟨r73, e, hF74⟩ := bindS hF; clear hF
  replace H := H.nil (α := List Int)
  refine loopS _ m__1.length (fun (k12 : Nat) (s69 : List (List Int)) (g70 : Hd) => [(2, (.pointer (some ⟨b6, 0, none⟩))), (3, (.pointer (some ⟨b9, 0, none⟩))), (10, (m__1h).v), (11, (.int .i64 ((m__1.length : Nat) : Int))), (12, (.int .i64 ((k12 : Nat) : Int)))]) (fun _ (s69 : List (List Int)) (g70 : Hd) w' => Cx w0 fp0 S0 w' [Bx b6 [(.int .i64 0), (.slice none 0 0)], Bx b9 [(.int .i64 m__0), (g70).v], E (List (List Int)) s69 g70, Es (List (List Int)) m__1 m__1h]) [] nilH e ⟨rfl, rfl, rfl, rfl, rfl, trivial⟩ (H.sel [2, 1, 0, 4] rfl) ?_ ?_
  · clear H e
    rintro T77 k12 s69 g70 w76 o78 hk (H : Cx w0 fp0 S0 w76 [Bx b6 [(.int .i64 0), (.slice none 0 0)], Bx b9 [(.int .i64 m__0), (g70).v], E (List (List Int)) s69 g70, Es (List (List Int)) m__1 m__1h]) hF79
    refine boolE (z := true) (ltLen hk) ?_
    refine sq ?_
    refine sq ?_
    obtain ⟨a86, e, hF87⟩ := bindS hF79; clear hF79
    have HH := H; clear H; obtain ⟨p84, m85, h88, c80, c81, c82, c83, H⟩ := HH.elL 3 rfl e; clear HH
    clear e
    refine idxE c80 c81 c82 ?_; clear c80 c81 c82
    refine load1 c83 ?_; clear c83
    refine heldX H [5, 7, 6] (.fst 0 (.fst 2 (.fst 1 (.act 3 (.act 4 (.act 5 (.act 6 (.act 7 .done)))))))) mixed [] trivial (by kernel_rfl) ?_
    clear H; intro w90 H
    have hX : Ext w90 w90 := Upd.refl _ _
    have H0 := H
    refine anyH (fun _ => fld gok rfl rfl rfl rfl ⟨rfl, rfl⟩) ?_
    refine load1X (H.bx 2 rfl (j := 1) rfl) ?_
    obtain ⟨y91, e, hF92⟩ := bindS hF87; clear hF87
    have ey91 := e; clear e
    refine callFx (spec_l1Own_c a86 h88 y91 ey91) H ⟨Vw.sh 0 rfl, trivial⟩ ?_; clear H ey91
    rintro _ _ w93 ⟨h94, rfl, rfl⟩ hx (H : Cx w0 fp0 S0 w93 [E (List Int) y91 h94, Es (List Int) a86 h88, Bx b6 [(.int .i64 0), (.slice none 0 0)], Bx b9 [(.int .i64 m__0), (g70).v], E (List (List Int)) s69 g70, Es (List (List Int)) m__1 m__1h])
    replace hX := hX.trans0 hx; clear hx
    refine hold hX ?_
    refine lit1 (α := List Int) (g := h94) gok rfl rfl rfl rfl rfl H ?_; clear H; intro h97 w96 hx H
    replace hX := hX.trans0 hx; clear hx
    refine hold hX ?_
    obtain ⟨a99, e, hF100⟩ := bindS hF92; clear hF92
    replace H := H.sel [4, 0, 1, 2, 3, 5] rfl
    refine append_ (α := List Int) gok rfl rfl rfl rfl H e ?_; clear e H; intro h102 w101 H
    refine hold trivial ?_
    refine fld gok rfl rfl rfl rfl ?_
    refine hold trivial ?_
    replace H := H.sel [3, 0, 1, 2, 4] rfl
    refine stB (j := 1) H rfl rfl ?_; clear H; intro w104 H
    replace H : Cx w0 fp0 S0 w104 [Bx b9 [(.int .i64 m__0), (h102).v], E (List (List Int)) a99 h102, Es (List Int) a86 h88, Bx b6 [(.int .i64 0), (.slice none 0 0)], Es (List (List Int)) m__1 m__1h] := H
    refine hold trivial ?_
    refine arK hk hmx72 ?_
    have hs := Option.some.inj hF100; subst hs; clear hF100
    exact ⟨h102, ⟨rfl, rfl, rfl, rfl, rfl, trivial⟩, H.sel [3, 0, 1, 4] rfl⟩
  · clear H e
    rintro T106 g108 w105 (H : Cx w0 fp0 S0 w105 [Bx b6 [(.int .i64 0), (.slice none 0 0)], Bx b9 [(.int .i64 m__0), (g108).v], E (List (List Int)) r73 g108, Es (List (List Int)) m__1 m__1h])
    refine boolE (z := false) geLen ?_
    refine sq ?_
    refine loadN [(.int .i64 m__0), (g108).v] rfl (fun j u hj => H.bx 1 rfl hj) ?_
    refine stA gok [(.int .i64 m__0), (g108).v] rfl H rfl rfl rfl ?_; clear H; intro w110 H
    replace H : Cx w0 fp0 S0 w110 [Bx b6 [(.int .i64 m__0), (g108).v], Bx b9 [(.int .i64 m__0), (g108).v], E (List (List Int)) r73 g108, Es (List (List Int)) m__1 m__1h] := H
    refine loadN [(.int .i64 m__0), (g108).v] rfl (fun j u hj => H.bx 0 rfl hj) ?_
    cases hF74
    exact ⟨_, _, rfl, ⟨g108, rfl, rfl⟩, (H.sel [2] rfl).close ⟨cloE, trivial⟩⟩

theorem spec_mxZero_c (rows_ : Int) (cols_ : Int) (y_0 : Int) (y_1 : List (List Int)) (hF : F_spec_mxZero rows_ cols_ = some (y_0, y_1)) :
    ConF Tryd.prog 153 #[(.int .i64 rows_), (.int .i64 cols_)] [] [] (fun v Γ' => ∃ z0 : Hd, v = (.agg #[(.int .i64 y_0), (z0).v]) ∧ Γ' = [E (List (List Int)) y_1 z0]) := by
  intro w0 S0 fp0 hI hS
  have H : Cx w0 fp0 S0 w0 [] := Cx.start hI hS
  clear hI hS
  refine enterC (args := [_, _]) gok Tryd.func153 rfl _ rfl rfl rfl ?_
  refine alloc_ gok rfl H ?_; clear H; intro b2 w1 hx H
  clear hx
  replace H : Cx w0 fp0 S0 w1 [Bx b2 [(.int .i64 0), (.slice none 0 0)]] := H
  obtain ⟨a4, e, hF5⟩ := bindS hF; clear hF
  refine make_ (α := List Int) gok rfl rfl rfl rfl (makeCO_of e) H ?_; clear e H; intro h7 w6 hx H
  clear hx
  refine build_ (cs := #[(.int .i64 cols_), (h7).v]) gok rfl rfl rfl ?_
  refine alloc_ gok rfl H ?_; clear H; intro b10 w9 hx H
  clear hx
  replace H : Cx w0 fp0 S0 w9 [Bx b10 [(.int .i64 0), (.slice none 0 0)], E (List (List Int)) a4 h7, Bx b2 [(.int .i64 0), (.slice none 0 0)]] := H
  refine stA gok [(.int .i64 cols_), (h7).v] rfl H rfl rfl rfl ?_; clear H; intro w12 H
  replace H : Cx w0 fp0 S0 w12 [Bx b10 [(.int .i64 cols_), (h7).v], E (List (List Int)) a4 h7, Bx b2 [(.int .i64 0), (.slice none 0 0)]] := H
  refine sq ?_
  refine fld gok rfl rfl rfl rfl ?_
  refine load1 (H.bx 0 rfl (j := 1) rfl) ?_
  refine lenE (H.ro (α := List (List Int)) 1 rfl).len ?_
  have hmx50 := (H.ro (α := List (List Int)) 1 rfl).max
  obtain ⟨r51, e, hF52⟩ := bindS hF5; clear hF5
  refine loopS _ a4.length (fun (k13 : Nat) (s48 : List (List Int)) (_ : Unit) => [(1, (.int .i64 cols_)), (4, (.pointer (some ⟨b2, 0, none⟩))), (5, (.pointer (some ⟨b10, 0, none⟩))), (13, (.int .i64 ((a4.length : Nat) : Int))), (14, (.int .i64 ((k13 : Nat) : Int)))]) (fun _ (s48 : List (List Int)) (_ : Unit) w' => Cx w0 fp0 S0 w' [Bx b2 [(.int .i64 0), (.slice none 0 0)], Bx b10 [(.int .i64 cols_), (h7).v], E (List (List Int)) s48 h7]) a4 () e ⟨rfl, rfl, rfl, rfl, rfl, trivial⟩ (H.sel [2, 0, 1] rfl) ?_ ?_
  · clear H e
    rintro T54 k13 s48 _ w53 o55 hk (H : Cx w0 fp0 S0 w53 [Bx b2 [(.int .i64 0), (.slice none 0 0)], Bx b10 [(.int .i64 cols_), (h7).v], E (List (List Int)) s48 h7]) hF56
    refine boolE (z := true) (ltLen hk) ?_
    refine sq ?_
    refine sq ?_
    refine heldX H [6] (.fst 0 (.fst 2 (.fst 3 (.fst 1 (.act 4 (.fst 5 (.act 6 .done))))))) mixed [] trivial (by kernel_rfl) ?_
    clear H; intro w57 H
    have hX : Ext w57 w57 := Upd.refl _ _
    have H0 := H
    refine anyH (fun _ => fld gok rfl rfl rfl rfl ⟨rfl, rfl⟩) ?_
    refine load1X (H.bx 1 rfl (j := 1) rfl) ?_
    obtain ⟨a58, e, hF59⟩ := bindS hF56; clear hF56
    refine make_ (α := Int) gok rfl rfl rfl rfl (makeCO_of e) H ?_; clear e H; intro h61 w60 hx H
    replace hX := hX.trans0 hx; clear hx
    refine hold hX ?_
    obtain ⟨a69, e, hF70⟩ := bindS hF59; clear hF59
    have ea69 := e; clear e
    obtain ⟨p67, m68, c63, c64, c65⟩ := (H.ro (α := List (List Int)) 3 rfl).setp ea69
    refine idxE c63 c64 c65 ?_
    replace H := H.sel [3, 0, 1, 2] rfl
    refine setL H c63 c64 ea69 ?_; clear H c63 c64 c65 ea69; intro w71 H
    refine hold trivial ?_
    refine arK hk hmx50 ?_
    have hs := Option.some.inj hF70; subst hs; clear hF70
    exact ⟨(), ⟨rfl, rfl, rfl, rfl, rfl, trivial⟩, H.sel [1, 2, 0] rfl⟩
  · clear H e
    rintro T73 _ w72 (H : Cx w0 fp0 S0 w72 [Bx b2 [(.int .i64 0), (.slice none 0 0)], Bx b10 [(.int .i64 cols_), (h7).v], E (List (List Int)) r51 h7])
    refine boolE (z := false) geLen ?_
    refine sq ?_
    refine loadN [(.int .i64 cols_), (h7).v] rfl (fun j u hj => H.bx 1 rfl hj) ?_
    refine stA gok [(.int .i64 cols_), (h7).v] rfl H rfl rfl rfl ?_; clear H; intro w76 H
    replace H : Cx w0 fp0 S0 w76 [Bx b2 [(.int .i64 cols_), (h7).v], Bx b10 [(.int .i64 cols_), (h7).v], E (List (List Int)) r51 h7] := H
    refine loadN [(.int .i64 cols_), (h7).v] rfl (fun j u hj => H.bx 0 rfl hj) ?_
    cases hF52
    exact ⟨_, _, rfl, ⟨h7, rfl, rfl⟩, (H.sel [2] rfl).close ⟨cloE, trivial⟩⟩

theorem spec_mxId_c (n_ : Int) (y_0 : Int) (y_1 : List (List Int)) (hF : F_spec_mxId n_ = some (y_0, y_1)) :
    ConF Tryd.prog 155 #[(.int .i64 n_)] [] [] (fun v Γ' => ∃ z0 : Hd, v = (.agg #[(.int .i64 y_0), (z0).v]) ∧ Γ' = [E (List (List Int)) y_1 z0]) := by
  intro w0 S0 fp0 hI hS
  have H : Cx w0 fp0 S0 w0 [] := Cx.start hI hS
  clear hI hS
  refine enterC (args := [_]) gok Tryd.func155 rfl _ rfl rfl rfl ?_
  refine alloc_ gok rfl H ?_; clear H; intro b2 w1 hx H
  clear hx
  replace H : Cx w0 fp0 S0 w1 [Bx b2 [(.int .i64 0), (.slice none 0 0)]] := H
  obtain ⟨y4, e, hF5⟩ := bindS hF; clear hF
  obtain ⟨y4_0, y4_1⟩ := y4
  have ey4 := e; clear e
  refine callF (spec_mxZero_c n_ n_ y4_0 y4_1 ey4) (Γi := []) H trivial ?_; clear H ey4
  rintro _ _ w6 ⟨h7, rfl, rfl⟩ (H : Cx w0 fp0 S0 w6 [E (List (List Int)) y4_1 h7, Bx b2 [(.int .i64 0), (.slice none 0 0)]])
  refine alloc_ gok rfl H ?_; clear H; intro b10 w9 hx H
  clear hx
  replace H : Cx w0 fp0 S0 w9 [Bx b10 [(.int .i64 0), (.slice none 0 0)], E (List (List Int)) y4_1 h7, Bx b2 [(.int .i64 0), (.slice none 0 0)]] := H
  refine stA gok [(.int .i64 y4_0), (h7).v] rfl H rfl rfl rfl ?_; clear H; intro w12 H
  replace H : Cx w0 fp0 S0 w12 [Bx b10 [(.int .i64 y4_0), (h7).v], E (List (List Int)) y4_1 h7, Bx b2 [(.int .i64 0), (.slice none 0 0)]] := H
  obtain ⟨r110, hF112, hF111⟩ := bindS hF5; clear hF5
  refine cut (fun (q113 : List (List Int)) => [(2, (.pointer (some ⟨b2, 0, none⟩))), (3, (.pointer (some ⟨b10, 0, none⟩)))]) (fun (q113 : List (List Int)) w' => q113 = r110 ∧ Cx w0 fp0 S0 w' [Bx b2 [(.int .i64 0), (.slice none 0 0)], Bx b10 [(.int .i64 y4_0), (h7).v], E (List (List Int)) q113 h7]) ?_ ?_
  · skip
    refine loopW _ (fun (s172 : List (List Int) × Int) (_ : Unit) => [(0, (.int .i64 n_)), (2, (.pointer (some ⟨b2, 0, none⟩))), (3, (.pointer (some ⟨b10, 0, none⟩))), (4, (.int .i64 s172.2))]) (fun (s172 : List (List Int) × Int) (_ : Unit) w' => Cx w0 fp0 S0 w' [Bx b2 [(.int .i64 0), (.slice none 0 0)], Bx b10 [(.int .i64 y4_0), (h7).v], E (List (List Int)) s172.1 h7]) (y4_1, 0) () hF112 ⟨rfl, rfl, rfl, rfl, trivial⟩ (H.sel [2, 0, 1] rfl) ?_
    · clear H
      rintro T178 ⟨s172_0, s172_1⟩ _ w177 o179 (H : Cx w0 fp0 S0 w177 [Bx b2 [(.int .i64 0), (.slice none 0 0)], Bx b10 [(.int .i64 y4_0), (h7).v], E (List (List Int)) s172_0 h7]) hrt hF180
      refine sq ?_
      obtain ⟨a181, e, hF182⟩ := bindS hF180; clear hF180
      refine boolO e ?_; clear e
      cases a181
      · have hF183 := condF hF182; clear hF182
        have hs := Option.some.inj hF183; subst hs; clear hF183
        have hF184 : some _ = some _ := congrArg some (hrt _ rfl).symm
        exact ⟨s172_0, ⟨rfl, rfl, trivial⟩, Option.some.inj hF184, H.sel [0, 1, 2] rfl⟩
      · have hF185 := condT hF182; clear hF182
        refine sq ?_
        refine fld gok rfl rfl rfl rfl ?_
        refine load1 (H.bx 1 rfl (j := 1) rfl) ?_
        obtain ⟨a192, e, hF193⟩ := bindS hF185; clear hF185
        replace H := H.sel [2, 0, 1] rfl
        replace H := H.toEH (α := List Int)
        have HH := H; clear H; obtain ⟨p190, m191, h194, c186, c187, c188, c189, H⟩ := HH.peekL e; clear HH
        clear e
        refine idxE c186 c187 c188 ?_
        refine load1 c189 ?_; clear c189
        replace H := H.takeK 0 rfl
        obtain ⟨a202, e, hF203⟩ := bindS hF193; clear hF193
        have ea202 := e; clear e
        obtain ⟨p199, m200, c195, c196, c197⟩ := (H.ro (α := List Int) 0 rfl).setp ea202
        refine idxE c195 c196 c197 ?_
        refine setS (α := Int) H c195 c196 ea202 ?_; clear H c195 c196 c197 ea202; intro w204 H
        obtain ⟨a205, e, hF206⟩ := bindS hF203; clear hF203
        replace H := H.put c187 e; clear e
        obtain ⟨a207, e, hF208⟩ := bindS hF206; clear hF206
        refine arO e ?_; clear e
        have hs := Option.some.inj hF208; subst hs; clear hF208
        exact ⟨(a205, a207), (), rfl, ⟨rfl, rfl, rfl, rfl, trivial⟩, H.sel [1, 2, 0] rfl⟩
  · clear hF112 H
    rintro T210 s108 w209 ⟨hr, (H : Cx w0 fp0 S0 w209 [Bx b2 [(.int .i64 0), (.slice none 0 0)], Bx b10 [(.int .i64 y4_0), (h7).v], E (List (List Int)) s108 h7])⟩
    subst hr
    refine loadN [(.int .i64 y4_0), (h7).v] rfl (fun j u hj => H.bx 1 rfl hj) ?_
    refine stA gok [(.int .i64 y4_0), (h7).v] rfl H rfl rfl rfl ?_; clear H; intro w211 H
    replace H : Cx w0 fp0 S0 w211 [Bx b2 [(.int .i64 y4_0), (h7).v], Bx b10 [(.int .i64 y4_0), (h7).v], E (List (List Int)) s108 h7] := H
    refine loadN [(.int .i64 y4_0), (h7).v] rfl (fun j u hj => H.bx 0 rfl hj) ?_
    cases hF111
    exact ⟨_, _, rfl, ⟨h7, rfl, rfl⟩, (H.sel [2] rfl).close ⟨cloE, trivial⟩⟩

theorem spec_fdMul_c (p_ : Int) (a_ : Int) (b_ : Int) (y : Int) (hF : F_spec_fdMul p_ a_ b_ = some y) :
    ConF Tryd.prog 120 #[(.int .i64 p_), (.int .i64 a_), (.int .i64 b_)] [] [] (fun v Γ' => v = (.int .i64 y) ∧ Γ' = []) := by
  intro w0 S0 fp0 hI hS
  have H : Cx w0 fp0 S0 w0 [] := Cx.start hI hS
  clear hI hS
  refine enterC (args := [_, _, _]) gok Tryd.func120 rfl _ rfl rfl rfl ?_
  obtain ⟨a1, e, hF2⟩ := bindS hF; clear hF
  refine arO e ?_; clear e
  obtain ⟨a3, e, hF4⟩ := bindS hF2; clear hF2
  refine remO_ e ?_; clear e
  cases hF4
  exact ⟨_, _, rfl, ⟨rfl, rfl⟩, (H.sel [] rfl).close trivial⟩

theorem spec_fdInv_c (p_ : Int) (a_ : Int) (y : Int) (hF : F_spec_fdInv p_ a_ = some y) :
    ConF Tryd.prog 119 #[(.int .i64 p_), (.int .i64 a_)] [] [] (fun v Γ' => v = (.int .i64 y) ∧ Γ' = []) := by
  intro w0 S0 fp0 hI hS
  have H : Cx w0 fp0 S0 w0 [] := Cx.start hI hS
  clear hI hS
  refine enterC (args := [_, _]) gok Tryd.func119 rfl _ rfl rfl rfl ?_
  obtain ⟨r60, hF62, hF61⟩ := bindS hF; clear hF
  refine cut (fun (q63 : Unit) => []) (fun (q63 : Unit) w' => .inl () = r60 ∧ Cx w0 fp0 S0 w' []) ?_ ?_
  · skip
    refine loopW _ (fun (s96 : Int) (_ : Unit) => [(0, (.int .i64 p_)), (1, (.int .i64 a_)), (5, (.int .i64 s96))]) (fun (s96 : Int) (_ : Unit) w' => Cx w0 fp0 S0 w' []) 1 () hF62 ⟨rfl, rfl, rfl, trivial⟩ (H.sel [] rfl) ?_
    · clear H
      rintro T102 s96 _ w101 o103 (H : Cx w0 fp0 S0 w101 []) hrt hF104
      refine sq ?_
      obtain ⟨a105, e, hF106⟩ := bindS hF104; clear hF104
      refine boolO e ?_; clear e
      cases a105
      · have hF107 := condF hF106; clear hF106
        have hs := Option.some.inj hF107; subst hs; clear hF107
        have hF108 : some _ = some _ := congrArg some (hrt _ rfl).symm
        exact ⟨(), trivial, Option.some.inj hF108, H.sel [] rfl⟩
      · have hF109 := condT hF106; clear hF106
        refine sq ?_
        obtain ⟨a110, e, hF111⟩ := bindS hF109; clear hF109
        refine arO e ?_; clear e
        obtain ⟨a112, e, hF113⟩ := bindS hF111; clear hF111
        refine remO_ e ?_; clear e
        obtain ⟨a114, e, hF115⟩ := bindS hF113; clear hF113
        refine boolO e ?_; clear e
        cases a114
        · have hF116 := condF hF115; clear hF115
          obtain ⟨a117, e, hF118⟩ := bindS hF116; clear hF116
          refine arO e ?_; clear e
          have hs := Option.some.inj hF118; subst hs; clear hF118
          exact ⟨a117, (), rfl, ⟨rfl, rfl, rfl, trivial⟩, H.sel [] rfl⟩
        · have hF119 := condT hF115; clear hF115
          have hs := Option.some.inj hF119; subst hs; clear hF119
          have hF120 : some _ = some _ := congrArg some (hrt _ rfl).symm
          have hs := Option.some.inj hF120; subst hs; clear hF120
          have hF121 : some _ = some _ := hF61; clear hF61
          cases hF121
          exact ⟨_, _, rfl, ⟨rfl, rfl⟩, (H.sel [] rfl).close trivial⟩
  · clear hF62 H
    rintro T123 _ w122 ⟨hr, (H : Cx w0 fp0 S0 w122 [])⟩
    subst hr
    cases hF61
    exact ⟨_, _, rfl, ⟨rfl, rfl⟩, (H.sel [] rfl).close trivial⟩

theorem spec_mxScale_c (p_ : Int) (r_ : List Int) (r_h : Hd) (k_ : Int) (y : List Int) (hF : F_spec_mxScale p_ r_ k_ = some y) :
    ConF Tryd.prog 156 #[(.int .i64 p_), (r_h).v, (.int .i64 k_)] [] [E (List Int) r_ r_h] (fun v Γ' => v = (.tuple #[]) ∧ Γ' = [E (List Int) y r_h]) := by
  intro w0 S0 fp0 hI hS
  have H : Cx w0 fp0 S0 w0 [E (List Int) r_ r_h] := Cx.start hI hS
  clear hI hS
  refine enterC (args := [_, _, _]) gok Tryd.func156 rfl _ rfl rfl rfl ?_
  refine lenE (H.ro (α := List Int) 0 rfl).len ?_
  have hmx49 := (H.ro (α := List Int) 0 rfl).max
  obtain ⟨r50, e, hF51⟩ := bindS hF; clear hF
  refine loopS _ r_.length (fun (k2 : Nat) (s47 : List Int) (_ : Unit) => [(0, (.int .i64 p_)), (1, (r_h).v), (2, (.int .i64 k_)), (8, (.int .i64 ((r_.length : Nat) : Int))), (9, (.int .i64 ((k2 : Nat) : Int)))]) (fun _ (s47 : List Int) (_ : Unit) w' => Cx w0 fp0 S0 w' [E (List Int) s47 r_h]) r_ () e ⟨rfl, rfl, rfl, rfl, rfl, trivial⟩ (H.sel [0] rfl) ?_ ?_
  · clear H e
    rintro T53 k2 s47 _ w52 o54 hk (H : Cx w0 fp0 S0 w52 [E (List Int) s47 r_h]) hF55
    refine boolE (z := true) (ltLen hk) ?_
    refine sq ?_
    refine sq ?_
    obtain ⟨a62, e, hF63⟩ := bindS hF55; clear hF55
    obtain ⟨p60, m61, c56, c57, c58, c59⟩ := (H.ro (α := List Int) 0 rfl).at1 e; clear e
    refine idxE c56 c57 c58 ?_; clear c56 c57 c58
    refine load1 c59 ?_; clear c59
    obtain ⟨y64, e, hF65⟩ := bindS hF63; clear hF63
    have ey64 := e; clear e
    refine callF (spec_fdMul_c p_ a62 k_ y64 ey64) (Γi := []) H trivial ?_; clear H ey64
    rintro _ _ w66 ⟨rfl, rfl⟩ (H : Cx w0 fp0 S0 w66 [E (List Int) s47 r_h])
    obtain ⟨a73, e, hF74⟩ := bindS hF65; clear hF65
    have ea73 := e; clear e
    obtain ⟨p71, m72, c67, c68, c69⟩ := (H.ro (α := List Int) 0 rfl).setp ea73
    refine idxE c67 c68 c69 ?_
    refine setS (α := Int) H c67 c68 ea73 ?_; clear H c67 c68 c69 ea73; intro w75 H
    refine arK hk hmx49 ?_
    have hs := Option.some.inj hF74; subst hs; clear hF74
    exact ⟨(), ⟨rfl, rfl, rfl, rfl, rfl, trivial⟩, H.sel [0] rfl⟩
  · clear H e
    rintro T77 _ w76 (H : Cx w0 fp0 S0 w76 [E (List Int) r50 r_h])
    refine boolE (z := false) geLen ?_
    refine sq ?_
    cases hF51
    exact ⟨_, _, rfl, ⟨rfl, rfl⟩, (H.sel [0] rfl).close ⟨cloE, trivial⟩⟩

theorem spec_fdSub_c (p_ : Int) (a_ : Int) (b_ : Int) (y : Int) (hF : F_spec_fdSub p_ a_ b_ = some y) :
    ConF Tryd.prog 121 #[(.int .i64 p_), (.int .i64 a_), (.int .i64 b_)] [] [] (fun v Γ' => v = (.int .i64 y) ∧ Γ' = []) := by
  intro w0 S0 fp0 hI hS
  have H : Cx w0 fp0 S0 w0 [] := Cx.start hI hS
  clear hI hS
  refine enterC (args := [_, _, _]) gok Tryd.func121 rfl _ rfl rfl rfl ?_
  obtain ⟨a1, e, hF2⟩ := bindS hF; clear hF
  refine arO e ?_; clear e
  obtain ⟨a3, e, hF4⟩ := bindS hF2; clear hF2
  refine arO e ?_; clear e
  obtain ⟨a5, e, hF6⟩ := bindS hF4; clear hF4
  refine remO_ e ?_; clear e
  cases hF6
  exact ⟨_, _, rfl, ⟨rfl, rfl⟩, (H.sel [] rfl).close trivial⟩

theorem spec_mxLess_c (p_ : Int) (r_ : List Int) (r_h : Hd) (s_ : List Int) (s_h : Hd) (k_ : Int) (y : List Int) (hF : F_spec_mxLess p_ r_ s_ k_ = some y) :
    ConF Tryd.prog 142 #[(.int .i64 p_), (r_h).v, (s_h).v, (.int .i64 k_)] [Es (List Int) s_ s_h] [E (List Int) r_ r_h] (fun v Γ' => v = (.tuple #[]) ∧ Γ' = [E (List Int) y r_h]) := by
  intro w0 S0 fp0 hI hS
  have H : Cx w0 fp0 S0 w0 [Es (List Int) s_ s_h, E (List Int) r_ r_h] := Cx.start hI hS
  clear hI hS
  refine enterC (args := [_, _, _, _]) gok Tryd.func142 rfl _ rfl rfl rfl ?_
  refine lenE (H.ro (α := List Int) 1 rfl).len ?_
  have hmx74 := (H.ro (α := List Int) 1 rfl).max
  obtain ⟨r75, e, hF76⟩ := bindS hF; clear hF
  refine loopS _ r_.length (fun (k3 : Nat) (s72 : List Int) (_ : Unit) => [(0, (.int .i64 p_)), (1, (r_h).v), (2, (s_h).v), (3, (.int .i64 k_)), (10, (.int .i64 ((r_.length : Nat) : Int))), (11, (.int .i64 ((k3 : Nat) : Int)))]) (fun _ (s72 : List Int) (_ : Unit) w' => Cx w0 fp0 S0 w' [E (List Int) s72 r_h, Es (List Int) s_ s_h]) r_ () e ⟨rfl, rfl, rfl, rfl, rfl, rfl, trivial⟩ (H.sel [1, 0] rfl) ?_ ?_
  · clear H e
    rintro T78 k3 s72 _ w77 o79 hk (H : Cx w0 fp0 S0 w77 [E (List Int) s72 r_h, Es (List Int) s_ s_h]) hF80
    refine boolE (z := true) (ltLen hk) ?_
    refine sq ?_
    refine sq ?_
    refine heldX H [16] (.fst 0 (.fst 1 (.fst 2 (.fst 3 (.fst 4 (.fst 5 (.fst 7 (.fst 8 (.fst 9 (.fst 10 (.fst 11 (.fst 6 (.fst 12 (.act 13 (.act 14 (.fst 15 (.act 16 .done))))))))))))))))) mixed [] trivial (by kernel_rfl) ?_
    clear H; intro w81 H
    have hX : Ext w81 w81 := Upd.refl _ _
    have H0 := H
    obtain ⟨a88, e, hF89⟩ := bindS hF80; clear hF80
    obtain ⟨p86, m87, c82, c83, c84, c85⟩ := (H.ro (α := List Int) 0 rfl).at1 e; clear e
    refine idxE c82 c83 c84 ?_; clear c82 c83 c84
    obtain ⟨a96, e, hF97⟩ := bindS hF89; clear hF89
    obtain ⟨p94, m95, c90, c91, c92, c93⟩ := (H.rs (α := List Int) 1 rfl).at1 e; clear e
    refine idxE c90 c91 c92 ?_; clear c90 c91 c92
    refine load1X c85 ?_; clear c85
    refine load1X c93 ?_; clear c93
    obtain ⟨y98, e, hF99⟩ := bindS hF97; clear hF97
    have ey98 := e; clear e
    refine callFx (spec_fdMul_c p_ k_ a96 y98 ey98) H trivial ?_; clear H ey98
    rintro _ _ w100 ⟨rfl, rfl⟩ hx (H : Cx w0 fp0 S0 w100 [E (List Int) s72 r_h, Es (List Int) s_ s_h])
    replace hX := hX.trans0 hx; clear hx
    refine hold hX ?_
    obtain ⟨y101, e, hF102⟩ := bindS hF99; clear hF99
    have ey101 := e; clear e
    refine callFx (spec_fdSub_c p_ a88 y98 y101 ey101) H trivial ?_; clear H ey101
    rintro _ _ w103 ⟨rfl, rfl⟩ hx (H : Cx w0 fp0 S0 w103 [E (List Int) s72 r_h, Es (List Int) s_ s_h])
    replace hX := hX.trans0 hx; clear hx
    refine hold hX ?_
    obtain ⟨a110, e, hF111⟩ := bindS hF102; clear hF102
    have ea110 := e; clear e
    obtain ⟨p108, m109, c104, c105, c106⟩ := (H.ro (α := List Int) 0 rfl).setp ea110
    refine idxE c104 c105 c106 ?_
    refine setS (α := Int) H c104 c105 ea110 ?_; clear H c104 c105 c106 ea110; intro w112 H
    refine hold trivial ?_
    refine arK hk hmx74 ?_
    have hs := Option.some.inj hF111; subst hs; clear hF111
    exact ⟨(), ⟨rfl, rfl, rfl, rfl, rfl, rfl, trivial⟩, H.sel [0, 1] rfl⟩
  · clear H e
    rintro T114 _ w113 (H : Cx w0 fp0 S0 w113 [E (List Int) r75 r_h, Es (List Int) s_ s_h])
    refine boolE (z := false) geLen ?_
    refine sq ?_
    cases hF76
    exact ⟨_, _, rfl, ⟨rfl, rfl⟩, (H.sel [0] rfl).close ⟨cloE, trivial⟩⟩

theorem spec_mxReduce_c (p_ : Int) (m__0 : Int) (m__1 : List (List Int)) (m__1h : Hd) (y0_0 : Int) (y0_1 : List (List Int)) (y1_0 : Int) (y1_1 : List (List Int)) (y2 : Int) (y3 : Int) (hF : F_spec_mxReduce p_ (m__0, m__1) = some ((y0_0, y0_1), (y1_0, y1_1), y2, y3)) :
    ConF Tryd.prog 145 #[(.int .i64 p_), (.agg #[(.int .i64 m__0), (m__1h).v])] [Es (List (List Int)) m__1 m__1h] [] (fun v Γ' => ∃ z0 z1 : Hd, v = (.tuple #[(.agg #[(.int .i64 y0_0), (z0).v]), (.agg #[(.int .i64 y1_0), (z1).v]), (.int .i64 y2), (.int .i64 y3)]) ∧ Γ' = [E (List (List Int)) y0_1 z0, E (List (List Int)) y1_1 z1]) := by
  intro w0 S0 fp0 hI hS
  have H : Cx w0 fp0 S0 w0 [Es (List (List Int)) m__1 m__1h] := Cx.start hI hS
  clear hI hS
  refine enterC (args := [_, _]) gok Tryd.func145 rfl _ rfl rfl rfl ?_
  refine box_ H ?_; clear H; intro b3 w2 hx H
  clear hx
  replace H : Cx w0 fp0 S0 w2 [Bx b3 [(.int .i64 m__0), (m__1h).v], Es (List (List Int)) m__1 m__1h] := H
  refine alloc_ gok rfl H ?_; clear H; intro b6 w5 hx H
  clear hx
  replace H : Cx w0 fp0 S0 w5 [Bx b6 [(.int .i64 0), (.slice none 0 0)], Bx b3 [(.int .i64 m__0), (m__1h).v], Es (List (List Int)) m__1 m__1h] := H
  refine alloc_ gok rfl H ?_; clear H; intro b9 w8 hx H
  clear hx
  replace H : Cx w0 fp0 S0 w8 [Bx b9 [(.int .i64 0), (.slice none 0 0)], Bx b6 [(.int .i64 0), (.slice none 0 0)], Bx b3 [(.int .i64 m__0), (m__1h).v], Es (List (List Int)) m__1 m__1h] := H
  obtain ⟨r205, hF207, hF206⟩ := bindS hF; clear hF
  refine heldJ H [8, 9] (.fst 2 (.fst 0 (.fst 3 (.fst 4 (.alts (.alt 1 (.alts (.alt 5 (.alts (.alt 6 (.act 7 (.act 8 (.act 9 .done))) (.alt 7 (.act 6 (.act 8 (.act 9 .done))) .no))) (.alt 6 (.alts (.alt 5 (.act 7 (.act 8 (.act 9 .done))) (.alt 7 (.act 5 (.act 8 (.act 9 .done))) .no))) (.alt 7 (.alts (.alt 5 (.act 6 (.act 8 (.act 9 .done))) (.alt 6 (.act 5 (.act 8 (.act 9 .done))) .no))) .no)))) (.alt 6 (.alts (.alt 1 (.alts (.alt 5 (.act 7 (.act 8 (.act 9 .done))) (.alt 7 (.act 5 (.act 8 (.act 9 .done))) .no))) (.alt 7 (.act 1 (.act 5 (.act 8 (.act 9 .done)))) .no))) (.alt 7 (.alts (.alt 1 (.alts (.alt 5 (.act 6 (.act 8 (.act 9 .done))) (.alt 6 (.act 5 (.act 8 (.act 9 .done))) .no))) (.alt 6 (.act 1 (.act 5 (.act 8 (.act 9 .done)))) .no))) .no)))))))) mixed [] trivial (by kernel_rfl) (fun (q208 : (Int × List (List Int) × Int × List (List Int)) × (Hd × Hd × Nat × Nat)) => [(0, (.int .i64 p_)), (3, (.pointer (some ⟨b3, 0, none⟩))), (4, (.pointer (some ⟨b6, 0, none⟩))), (5, (.pointer (some ⟨b9, 0, none⟩))), (8, (.pointer (some ⟨q208.2.2.2.1, 0, none⟩))), (9, (.pointer (some ⟨q208.2.2.2.2, 0, none⟩)))]) (fun (q208 : (Int × List (List Int) × Int × List (List Int)) × (Hd × Hd × Nat × Nat)) w' => (q208.1.1, q208.1.2.1, q208.1.2.2.1, q208.1.2.2.2) = r205 ∧ Cx w0 fp0 S0 w' [Bx b3 [(.int .i64 m__0), (m__1h).v], Es (List (List Int)) m__1 m__1h, Bx b6 [(.int .i64 0), (.slice none 0 0)], Bx b9 [(.int .i64 0), (.slice none 0 0)], Bx q208.2.2.2.1 [(.int .i64 q208.1.1), (q208.2.1).v], E (List (List Int)) q208.1.2.1 q208.2.1, Bx q208.2.2.2.2 [(.int .i64 q208.1.2.2.1), (q208.2.2.1).v], E (List (List Int)) q208.1.2.2.2 q208.2.2.1]) ?_ ?_
  · skip
    clear H; intro w209 H
    have hX : Ext w209 w209 := Upd.refl _ _
    have H0 := H
    refine anyH (fun _ => fld gok rfl rfl rfl rfl ⟨rfl, rfl⟩) ?_
    refine loadNX [(.int .i64 m__0), (m__1h).v] rfl (fun j u hj => H.bx 2 rfl hj) ?_
    refine load1X (H.bx 2 rfl (j := 1) rfl) ?_
    refine lenE (H.rs (α := List (List Int)) 3 rfl).len ?_
    refine both ?_ ?_
    · skip
      obtain ⟨y228, e, hF229⟩ := bindS hF207; clear hF207
      obtain ⟨y228_0, y228_1⟩ := y228
      have ey228 := e; clear e
      refine callFx (spec_mxCopy_c m__0 m__1 m__1h y228_0 y228_1 ey228) H ⟨Vw.sh 3 rfl, trivial⟩ ?_; clear H ey228
      rintro _ _ w230 ⟨h231, rfl, rfl⟩ hx (H : Cx w0 fp0 S0 w230 [E (List (List Int)) y228_1 h231, Bx b9 [(.int .i64 0), (.slice none 0 0)], Bx b6 [(.int .i64 0), (.slice none 0 0)], Bx b3 [(.int .i64 m__0), (m__1h).v], Es (List (List Int)) m__1 m__1h])
      replace hX := hX.trans0 hx; clear hx
      refine hold hX ?_
      refine both ?_ ?_
      · skip
        obtain ⟨y246, e, hF247⟩ := bindS hF229; clear hF229
        obtain ⟨y246_0, y246_1⟩ := y246
        have ey246 := e; clear e
        refine callFx (spec_mxId_c ((m__1.length : Nat) : Int) y246_0 y246_1 ey246) H trivial ?_; clear H ey246
        rintro _ _ w248 ⟨h249, rfl, rfl⟩ hx (H : Cx w0 fp0 S0 w248 [E (List (List Int)) y246_1 h249, E (List (List Int)) y228_1 h231, Bx b9 [(.int .i64 0), (.slice none 0 0)], Bx b6 [(.int .i64 0), (.slice none 0 0)], Bx b3 [(.int .i64 m__0), (m__1h).v], Es (List (List Int)) m__1 m__1h])
        replace hX := hX.trans0 hx; clear hx
        refine hold hX ?_
        refine both ?_ ?_
        · skip
          refine alloc_ gok rfl H ?_; clear H; intro b260 w259 hx H
          replace hX := hX.trans0 hx; clear hx
          replace H : Cx w0 fp0 S0 w259 [Bx b260 [(.int .i64 0), (.slice none 0 0)], E (List (List Int)) y246_1 h249, E (List (List Int)) y228_1 h231, Bx b9 [(.int .i64 0), (.slice none 0 0)], Bx b6 [(.int .i64 0), (.slice none 0 0)], Bx b3 [(.int .i64 m__0), (m__1h).v], Es (List (List Int)) m__1 m__1h] := H
          refine hold hX ?_
          refine alloc_ gok rfl H ?_; clear H; intro b263 w262 hx H
          replace hX := hX.trans0 hx; clear hx
          replace H : Cx w0 fp0 S0 w262 [Bx b263 [(.int .i64 0), (.slice none 0 0)], Bx b260 [(.int .i64 0), (.slice none 0 0)], E (List (List Int)) y246_1 h249, E (List (List Int)) y228_1 h231, Bx b9 [(.int .i64 0), (.slice none 0 0)], Bx b6 [(.int .i64 0), (.slice none 0 0)], Bx b3 [(.int .i64 m__0), (m__1h).v], Es (List (List Int)) m__1 m__1h] := H
          refine hold hX ?_
          replace H := H.sel [1, 0, 2, 3, 4, 5, 6, 7] rfl
          refine stA gok [(.int .i64 y228_0), (h231).v] rfl H rfl rfl rfl ?_; clear H; intro w265 H
          replace H : Cx w0 fp0 S0 w265 [Bx b260 [(.int .i64 y228_0), (h231).v], Bx b263 [(.int .i64 0), (.slice none 0 0)], E (List (List Int)) y246_1 h249, E (List (List Int)) y228_1 h231, Bx b9 [(.int .i64 0), (.slice none 0 0)], Bx b6 [(.int .i64 0), (.slice none 0 0)], Bx b3 [(.int .i64 m__0), (m__1h).v], Es (List (List Int)) m__1 m__1h] := H
          refine hold trivial ?_
          replace H := H.sel [1, 0, 2, 3, 4, 5, 6, 7] rfl
          refine stA gok [(.int .i64 y246_0), (h249).v] rfl H rfl rfl rfl ?_; clear H; intro w266 H
          replace H : Cx w0 fp0 S0 w266 [Bx b263 [(.int .i64 y246_0), (h249).v], Bx b260 [(.int .i64 y228_0), (h231).v], E (List (List Int)) y246_1 h249, E (List (List Int)) y228_1 h231, Bx b9 [(.int .i64 0), (.slice none 0 0)], Bx b6 [(.int .i64 0), (.slice none 0 0)], Bx b3 [(.int .i64 m__0), (m__1h).v], Es (List (List Int)) m__1 m__1h] := H
          refine hold trivial ?_
          exact ⟨((y228_0, y228_1, y246_0, y246_1), (h231, h249, b260, b263)), ⟨rfl, rfl, rfl, rfl, rfl, rfl, trivial⟩, Option.some.inj hF247, H.sel [6, 7, 5, 4, 1, 3, 0, 2] rfl⟩
        · skip
          refine both ?_ ?_
          · skip
            refine alloc_ gok rfl H ?_; clear H; intro b268 w267 hx H
            replace hX := hX.trans0 hx; clear hx
            replace H : Cx w0 fp0 S0 w267 [Bx b268 [(.int .i64 0), (.slice none 0 0)], E (List (List Int)) y246_1 h249, E (List (List Int)) y228_1 h231, Bx b9 [(.int .i64 0), (.slice none 0 0)], Bx b6 [(.int .i64 0), (.slice none 0 0)], Bx b3 [(.int .i64 m__0), (m__1h).v], Es (List (List Int)) m__1 m__1h] := H
            refine hold hX ?_
            refine alloc_ gok rfl H ?_; clear H; intro b271 w270 hx H
            replace hX := hX.trans0 hx; clear hx
            replace H : Cx w0 fp0 S0 w270 [Bx b271 [(.int .i64 0), (.slice none 0 0)], Bx b268 [(.int .i64 0), (.slice none 0 0)], E (List (List Int)) y246_1 h249, E (List (List Int)) y228_1 h231, Bx b9 [(.int .i64 0), (.slice none 0 0)], Bx b6 [(.int .i64 0), (.slice none 0 0)], Bx b3 [(.int .i64 m__0), (m__1h).v], Es (List (List Int)) m__1 m__1h] := H
            refine hold hX ?_
            refine stA gok [(.int .i64 y228_0), (h231).v] rfl H rfl rfl rfl ?_; clear H; intro w273 H
            replace H : Cx w0 fp0 S0 w273 [Bx b271 [(.int .i64 y228_0), (h231).v], Bx b268 [(.int .i64 0), (.slice none 0 0)], E (List (List Int)) y246_1 h249, E (List (List Int)) y228_1 h231, Bx b9 [(.int .i64 0), (.slice none 0 0)], Bx b6 [(.int .i64 0), (.slice none 0 0)], Bx b3 [(.int .i64 m__0), (m__1h).v], Es (List (List Int)) m__1 m__1h] := H
            refine hold trivial ?_
            replace H := H.sel [1, 0, 2, 3, 4, 5, 6, 7] rfl
            refine stA gok [(.int .i64 y246_0), (h249).v] rfl H rfl rfl rfl ?_; clear H; intro w274 H
            replace H : Cx w0 fp0 S0 w274 [Bx b268 [(.int .i64 y246_0), (h249).v], Bx b271 [(.int .i64 y228_0), (h231).v], E (List (List Int)) y246_1 h249, E (List (List Int)) y228_1 h231, Bx b9 [(.int .i64 0), (.slice none 0 0)], Bx b6 [(.int .i64 0), (.slice none 0 0)], Bx b3 [(.int .i64 m__0), (m__1h).v], Es (List (List Int)) m__1 m__1h] := H
            refine hold trivial ?_
            exact ⟨((y228_0, y228_1, y246_0, y246_1), (h231, h249, b271, b268)), ⟨rfl, rfl, rfl, rfl, rfl, rfl, trivial⟩, Option.some.inj hF247, H.sel [6, 7, 5, 4, 1, 3, 0, 2] rfl⟩
          · skip
            exact trivial
      · skip
        refine both ?_ ?_
        · skip
          obtain ⟨a275, eq276, hF277⟩ := bindS hF229; clear hF229
          refine alloc_ gok rfl H ?_; clear H; intro b279 w278 hx H
          replace hX := hX.trans0 hx; clear hx
          replace H : Cx w0 fp0 S0 w278 [Bx b279 [(.int .i64 0), (.slice none 0 0)], E (List (List Int)) y228_1 h231, Bx b9 [(.int .i64 0), (.slice none 0 0)], Bx b6 [(.int .i64 0), (.slice none 0 0)], Bx b3 [(.int .i64 m__0), (m__1h).v], Es (List (List Int)) m__1 m__1h] := H
          refine hold hX ?_
          refine both ?_ ?_
          · skip
            have e := eq276; clear eq276
            obtain ⟨a275_0, a275_1⟩ := a275
            have ea275 := e; clear e
            refine callFx (spec_mxId_c ((m__1.length : Nat) : Int) a275_0 a275_1 ea275) H trivial ?_; clear H ea275
            rintro _ _ w281 ⟨h282, rfl, rfl⟩ hx (H : Cx w0 fp0 S0 w281 [E (List (List Int)) a275_1 h282, Bx b279 [(.int .i64 0), (.slice none 0 0)], E (List (List Int)) y228_1 h231, Bx b9 [(.int .i64 0), (.slice none 0 0)], Bx b6 [(.int .i64 0), (.slice none 0 0)], Bx b3 [(.int .i64 m__0), (m__1h).v], Es (List (List Int)) m__1 m__1h])
            replace hX := hX.trans0 hx; clear hx
            refine hold hX ?_
            refine alloc_ gok rfl H ?_; clear H; intro b285 w284 hx H
            replace hX := hX.trans0 hx; clear hx
            replace H : Cx w0 fp0 S0 w284 [Bx b285 [(.int .i64 0), (.slice none 0 0)], E (List (List Int)) a275_1 h282, Bx b279 [(.int .i64 0), (.slice none 0 0)], E (List (List Int)) y228_1 h231, Bx b9 [(.int .i64 0), (.slice none 0 0)], Bx b6 [(.int .i64 0), (.slice none 0 0)], Bx b3 [(.int .i64 m__0), (m__1h).v], Es (List (List Int)) m__1 m__1h] := H
            refine hold hX ?_
            replace H := H.sel [2, 0, 1, 3, 4, 5, 6, 7] rfl
            refine stA gok [(.int .i64 y228_0), (h231).v] rfl H rfl rfl rfl ?_; clear H; intro w287 H
            replace H : Cx w0 fp0 S0 w287 [Bx b279 [(.int .i64 y228_0), (h231).v], Bx b285 [(.int .i64 0), (.slice none 0 0)], E (List (List Int)) a275_1 h282, E (List (List Int)) y228_1 h231, Bx b9 [(.int .i64 0), (.slice none 0 0)], Bx b6 [(.int .i64 0), (.slice none 0 0)], Bx b3 [(.int .i64 m__0), (m__1h).v], Es (List (List Int)) m__1 m__1h] := H
            refine hold trivial ?_
            replace H := H.sel [1, 0, 2, 3, 4, 5, 6, 7] rfl
            refine stA gok [(.int .i64 a275_0), (h282).v] rfl H rfl rfl rfl ?_; clear H; intro w288 H
            replace H : Cx w0 fp0 S0 w288 [Bx b285 [(.int .i64 a275_0), (h282).v], Bx b279 [(.int .i64 y228_0), (h231).v], E (List (List Int)) a275_1 h282, E (List (List Int)) y228_1 h231, Bx b9 [(.int .i64 0), (.slice none 0 0)], Bx b6 [(.int .i64 0), (.slice none 0 0)], Bx b3 [(.int .i64 m__0), (m__1h).v], Es (List (List Int)) m__1 m__1h] := H
            refine hold trivial ?_
            exact ⟨((y228_0, y228_1, a275_0, a275_1), (h231, h282, b279, b285)), ⟨rfl, rfl, rfl, rfl, rfl, rfl, trivial⟩, Option.some.inj hF277, H.sel [6, 7, 5, 4, 1, 3, 0, 2] rfl⟩
          · skip
            refine both ?_ ?_
            · skip
              refine alloc_ gok rfl H ?_; clear H; intro b290 w289 hx H
              replace hX := hX.trans0 hx; clear hx
              replace H : Cx w0 fp0 S0 w289 [Bx b290 [(.int .i64 0), (.slice none 0 0)], Bx b279 [(.int .i64 0), (.slice none 0 0)], E (List (List Int)) y228_1 h231, Bx b9 [(.int .i64 0), (.slice none 0 0)], Bx b6 [(.int .i64 0), (.slice none 0 0)], Bx b3 [(.int .i64 m__0), (m__1h).v], Es (List (List Int)) m__1 m__1h] := H
              refine hold hX ?_
              have e := eq276; clear eq276
              obtain ⟨a275_0, a275_1⟩ := a275
              have ea275 := e; clear e
              refine callFx (spec_mxId_c ((m__1.length : Nat) : Int) a275_0 a275_1 ea275) H trivial ?_; clear H ea275
              rintro _ _ w292 ⟨h293, rfl, rfl⟩ hx (H : Cx w0 fp0 S0 w292 [E (List (List Int)) a275_1 h293, Bx b290 [(.int .i64 0), (.slice none 0 0)], Bx b279 [(.int .i64 0), (.slice none 0 0)], E (List (List Int)) y228_1 h231, Bx b9 [(.int .i64 0), (.slice none 0 0)], Bx b6 [(.int .i64 0), (.slice none 0 0)], Bx b3 [(.int .i64 m__0), (m__1h).v], Es (List (List Int)) m__1 m__1h])
              replace hX := hX.trans0 hx; clear hx
              refine hold hX ?_
              replace H := H.sel [2, 0, 1, 3, 4, 5, 6, 7] rfl
              refine stA gok [(.int .i64 y228_0), (h231).v] rfl H rfl rfl rfl ?_; clear H; intro w295 H
              replace H : Cx w0 fp0 S0 w295 [Bx b279 [(.int .i64 y228_0), (h231).v], E (List (List Int)) a275_1 h293, Bx b290 [(.int .i64 0), (.slice none 0 0)], E (List (List Int)) y228_1 h231, Bx b9 [(.int .i64 0), (.slice none 0 0)], Bx b6 [(.int .i64 0), (.slice none 0 0)], Bx b3 [(.int .i64 m__0), (m__1h).v], Es (List (List Int)) m__1 m__1h] := H
              refine hold trivial ?_
              replace H := H.sel [2, 0, 1, 3, 4, 5, 6, 7] rfl
              refine stA gok [(.int .i64 a275_0), (h293).v] rfl H rfl rfl rfl ?_; clear H; intro w296 H
              replace H : Cx w0 fp0 S0 w296 [Bx b290 [(.int .i64 a275_0), (h293).v], Bx b279 [(.int .i64 y228_0), (h231).v], E (List (List Int)) a275_1 h293, E (List (List Int)) y228_1 h231, Bx b9 [(.int .i64 0), (.slice none 0 0)], Bx b6 [(.int .i64 0), (.slice none 0 0)], Bx b3 [(.int .i64 m__0), (m__1h).v], Es (List (List Int)) m__1 m__1h] := H
              refine hold trivial ?_
              exact ⟨((y228_0, y228_1, a275_0, a275_1), (h231, h293, b279, b290)), ⟨rfl, rfl, rfl, rfl, rfl, rfl, trivial⟩, Option.some.inj hF277, H.sel [6, 7, 5, 4, 1, 3, 0, 2] rfl⟩
            · skip
              exact trivial
        · skip
          refine both ?_ ?_
          · skip
            obtain ⟨a297, eq298, hF299⟩ := bindS hF229; clear hF229
            refine alloc_ gok rfl H ?_; clear H; intro b301 w300 hx H
            replace hX := hX.trans0 hx; clear hx
            replace H : Cx w0 fp0 S0 w300 [Bx b301 [(.int .i64 0), (.slice none 0 0)], E (List (List Int)) y228_1 h231, Bx b9 [(.int .i64 0), (.slice none 0 0)], Bx b6 [(.int .i64 0), (.slice none 0 0)], Bx b3 [(.int .i64 m__0), (m__1h).v], Es (List (List Int)) m__1 m__1h] := H
            refine hold hX ?_
            refine both ?_ ?_
            · skip
              have e := eq298; clear eq298
              obtain ⟨a297_0, a297_1⟩ := a297
              have ea297 := e; clear e
              refine callFx (spec_mxId_c ((m__1.length : Nat) : Int) a297_0 a297_1 ea297) H trivial ?_; clear H ea297
              rintro _ _ w303 ⟨h304, rfl, rfl⟩ hx (H : Cx w0 fp0 S0 w303 [E (List (List Int)) a297_1 h304, Bx b301 [(.int .i64 0), (.slice none 0 0)], E (List (List Int)) y228_1 h231, Bx b9 [(.int .i64 0), (.slice none 0 0)], Bx b6 [(.int .i64 0), (.slice none 0 0)], Bx b3 [(.int .i64 m__0), (m__1h).v], Es (List (List Int)) m__1 m__1h])
              replace hX := hX.trans0 hx; clear hx
              refine hold hX ?_
              refine alloc_ gok rfl H ?_; clear H; intro b307 w306 hx H
              replace hX := hX.trans0 hx; clear hx
              replace H : Cx w0 fp0 S0 w306 [Bx b307 [(.int .i64 0), (.slice none 0 0)], E (List (List Int)) a297_1 h304, Bx b301 [(.int .i64 0), (.slice none 0 0)], E (List (List Int)) y228_1 h231, Bx b9 [(.int .i64 0), (.slice none 0 0)], Bx b6 [(.int .i64 0), (.slice none 0 0)], Bx b3 [(.int .i64 m__0), (m__1h).v], Es (List (List Int)) m__1 m__1h] := H
              refine hold hX ?_
              refine stA gok [(.int .i64 y228_0), (h231).v] rfl H rfl rfl rfl ?_; clear H; intro w309 H
              replace H : Cx w0 fp0 S0 w309 [Bx b307 [(.int .i64 y228_0), (h231).v], E (List (List Int)) a297_1 h304, Bx b301 [(.int .i64 0), (.slice none 0 0)], E (List (List Int)) y228_1 h231, Bx b9 [(.int .i64 0), (.slice none 0 0)], Bx b6 [(.int .i64 0), (.slice none 0 0)], Bx b3 [(.int .i64 m__0), (m__1h).v], Es (List (List Int)) m__1 m__1h] := H
              refine hold trivial ?_
              replace H := H.sel [2, 0, 1, 3, 4, 5, 6, 7] rfl
              refine stA gok [(.int .i64 a297_0), (h304).v] rfl H rfl rfl rfl ?_; clear H; intro w310 H
              replace H : Cx w0 fp0 S0 w310 [Bx b301 [(.int .i64 a297_0), (h304).v], Bx b307 [(.int .i64 y228_0), (h231).v], E (List (List Int)) a297_1 h304, E (List (List Int)) y228_1 h231, Bx b9 [(.int .i64 0), (.slice none 0 0)], Bx b6 [(.int .i64 0), (.slice none 0 0)], Bx b3 [(.int .i64 m__0), (m__1h).v], Es (List (List Int)) m__1 m__1h] := H
              refine hold trivial ?_
              exact ⟨((y228_0, y228_1, a297_0, a297_1), (h231, h304, b307, b301)), ⟨rfl, rfl, rfl, rfl, rfl, rfl, trivial⟩, Option.some.inj hF299, H.sel [6, 7, 5, 4, 1, 3, 0, 2] rfl⟩
            · skip
              refine both ?_ ?_
              · skip
                refine alloc_ gok rfl H ?_; clear H; intro b312 w311 hx H
                replace hX := hX.trans0 hx; clear hx
                replace H : Cx w0 fp0 S0 w311 [Bx b312 [(.int .i64 0), (.slice none 0 0)], Bx b301 [(.int .i64 0), (.slice none 0 0)], E (List (List Int)) y228_1 h231, Bx b9 [(.int .i64 0), (.slice none 0 0)], Bx b6 [(.int .i64 0), (.slice none 0 0)], Bx b3 [(.int .i64 m__0), (m__1h).v], Es (List (List Int)) m__1 m__1h] := H
                refine hold hX ?_
                have e := eq298; clear eq298
                obtain ⟨a297_0, a297_1⟩ := a297
                have ea297 := e; clear e
                refine callFx (spec_mxId_c ((m__1.length : Nat) : Int) a297_0 a297_1 ea297) H trivial ?_; clear H ea297
                rintro _ _ w314 ⟨h315, rfl, rfl⟩ hx (H : Cx w0 fp0 S0 w314 [E (List (List Int)) a297_1 h315, Bx b312 [(.int .i64 0), (.slice none 0 0)], Bx b301 [(.int .i64 0), (.slice none 0 0)], E (List (List Int)) y228_1 h231, Bx b9 [(.int .i64 0), (.slice none 0 0)], Bx b6 [(.int .i64 0), (.slice none 0 0)], Bx b3 [(.int .i64 m__0), (m__1h).v], Es (List (List Int)) m__1 m__1h])
                replace hX := hX.trans0 hx; clear hx
                refine hold hX ?_
                replace H := H.sel [1, 0, 2, 3, 4, 5, 6, 7] rfl
                refine stA gok [(.int .i64 y228_0), (h231).v] rfl H rfl rfl rfl ?_; clear H; intro w317 H
                replace H : Cx w0 fp0 S0 w317 [Bx b312 [(.int .i64 y228_0), (h231).v], E (List (List Int)) a297_1 h315, Bx b301 [(.int .i64 0), (.slice none 0 0)], E (List (List Int)) y228_1 h231, Bx b9 [(.int .i64 0), (.slice none 0 0)], Bx b6 [(.int .i64 0), (.slice none 0 0)], Bx b3 [(.int .i64 m__0), (m__1h).v], Es (List (List Int)) m__1 m__1h] := H
                refine hold trivial ?_
                replace H := H.sel [2, 0, 1, 3, 4, 5, 6, 7] rfl
                refine stA gok [(.int .i64 a297_0), (h315).v] rfl H rfl rfl rfl ?_; clear H; intro w318 H
                replace H : Cx w0 fp0 S0 w318 [Bx b301 [(.int .i64 a297_0), (h315).v], Bx b312 [(.int .i64 y228_0), (h231).v], E (List (List Int)) a297_1 h315, E (List (List Int)) y228_1 h231, Bx b9 [(.int .i64 0), (.slice none 0 0)], Bx b6 [(.int .i64 0), (.slice none 0 0)], Bx b3 [(.int .i64 m__0), (m__1h).v], Es (List (List Int)) m__1 m__1h] := H
                refine hold trivial ?_
                exact ⟨((y228_0, y228_1, a297_0, a297_1), (h231, h315, b312, b301)), ⟨rfl, rfl, rfl, rfl, rfl, rfl, trivial⟩, Option.some.inj hF299, H.sel [6, 7, 5, 4, 1, 3, 0, 2] rfl⟩
              · skip
                exact trivial
          · skip
            exact trivial
    · skip
      refine both ?_ ?_
      · skip
        obtain ⟨a319, eq320, hF321⟩ := bindS hF207; clear hF207
        obtain ⟨a322, eq323, hF324⟩ := bindS hF321; clear hF321
        refine alloc_ gok rfl H ?_; clear H; intro b326 w325 hx H
        replace hX := hX.trans0 hx; clear hx
        replace H : Cx w0 fp0 S0 w325 [Bx b326 [(.int .i64 0), (.slice none 0 0)], Bx b9 [(.int .i64 0), (.slice none 0 0)], Bx b6 [(.int .i64 0), (.slice none 0 0)], Bx b3 [(.int .i64 m__0), (m__1h).v], Es (List (List Int)) m__1 m__1h] := H
        refine hold hX ?_
        refine both ?_ ?_
        · skip
          have e := eq320; clear eq320
          obtain ⟨a319_0, a319_1⟩ := a319
          have ea319 := e; clear e
          refine callFx (spec_mxCopy_c m__0 m__1 m__1h a319_0 a319_1 ea319) H ⟨Vw.sh 4 rfl, trivial⟩ ?_; clear H ea319
          rintro _ _ w328 ⟨h329, rfl, rfl⟩ hx (H : Cx w0 fp0 S0 w328 [E (List (List Int)) a319_1 h329, Bx b326 [(.int .i64 0), (.slice none 0 0)], Bx b9 [(.int .i64 0), (.slice none 0 0)], Bx b6 [(.int .i64 0), (.slice none 0 0)], Bx b3 [(.int .i64 m__0), (m__1h).v], Es (List (List Int)) m__1 m__1h])
          replace hX := hX.trans0 hx; clear hx
          refine hold hX ?_
          refine both ?_ ?_
          · skip
            have e := eq323; clear eq323
            obtain ⟨a322_0, a322_1⟩ := a322
            have ea322 := e; clear e
            refine callFx (spec_mxId_c ((m__1.length : Nat) : Int) a322_0 a322_1 ea322) H trivial ?_; clear H ea322
            rintro _ _ w331 ⟨h332, rfl, rfl⟩ hx (H : Cx w0 fp0 S0 w331 [E (List (List Int)) a322_1 h332, E (List (List Int)) a319_1 h329, Bx b326 [(.int .i64 0), (.slice none 0 0)], Bx b9 [(.int .i64 0), (.slice none 0 0)], Bx b6 [(.int .i64 0), (.slice none 0 0)], Bx b3 [(.int .i64 m__0), (m__1h).v], Es (List (List Int)) m__1 m__1h])
            replace hX := hX.trans0 hx; clear hx
            refine hold hX ?_
            refine alloc_ gok rfl H ?_; clear H; intro b335 w334 hx H
            replace hX := hX.trans0 hx; clear hx
            replace H : Cx w0 fp0 S0 w334 [Bx b335 [(.int .i64 0), (.slice none 0 0)], E (List (List Int)) a322_1 h332, E (List (List Int)) a319_1 h329, Bx b326 [(.int .i64 0), (.slice none 0 0)], Bx b9 [(.int .i64 0), (.slice none 0 0)], Bx b6 [(.int .i64 0), (.slice none 0 0)], Bx b3 [(.int .i64 m__0), (m__1h).v], Es (List (List Int)) m__1 m__1h] := H
            refine hold hX ?_
            replace H := H.sel [3, 0, 1, 2, 4, 5, 6, 7] rfl
            refine stA gok [(.int .i64 a319_0), (h329).v] rfl H rfl rfl rfl ?_; clear H; intro w337 H
            replace H : Cx w0 fp0 S0 w337 [Bx b326 [(.int .i64 a319_0), (h329).v], Bx b335 [(.int .i64 0), (.slice none 0 0)], E (List (List Int)) a322_1 h332, E (List (List Int)) a319_1 h329, Bx b9 [(.int .i64 0), (.slice none 0 0)], Bx b6 [(.int .i64 0), (.slice none 0 0)], Bx b3 [(.int .i64 m__0), (m__1h).v], Es (List (List Int)) m__1 m__1h] := H
            refine hold trivial ?_
            replace H := H.sel [1, 0, 2, 3, 4, 5, 6, 7] rfl
            refine stA gok [(.int .i64 a322_0), (h332).v] rfl H rfl rfl rfl ?_; clear H; intro w338 H
            replace H : Cx w0 fp0 S0 w338 [Bx b335 [(.int .i64 a322_0), (h332).v], Bx b326 [(.int .i64 a319_0), (h329).v], E (List (List Int)) a322_1 h332, E (List (List Int)) a319_1 h329, Bx b9 [(.int .i64 0), (.slice none 0 0)], Bx b6 [(.int .i64 0), (.slice none 0 0)], Bx b3 [(.int .i64 m__0), (m__1h).v], Es (List (List Int)) m__1 m__1h] := H
            refine hold trivial ?_
            exact ⟨((a319_0, a319_1, a322_0, a322_1), (h329, h332, b326, b335)), ⟨rfl, rfl, rfl, rfl, rfl, rfl, trivial⟩, Option.some.inj hF324, H.sel [6, 7, 5, 4, 1, 3, 0, 2] rfl⟩
          · skip
            refine both ?_ ?_
            · skip
              refine alloc_ gok rfl H ?_; clear H; intro b340 w339 hx H
              replace hX := hX.trans0 hx; clear hx
              replace H : Cx w0 fp0 S0 w339 [Bx b340 [(.int .i64 0), (.slice none 0 0)], E (List (List Int)) a319_1 h329, Bx b326 [(.int .i64 0), (.slice none 0 0)], Bx b9 [(.int .i64 0), (.slice none 0 0)], Bx b6 [(.int .i64 0), (.slice none 0 0)], Bx b3 [(.int .i64 m__0), (m__1h).v], Es (List (List Int)) m__1 m__1h] := H
              refine hold hX ?_
              have e := eq323; clear eq323
              obtain ⟨a322_0, a322_1⟩ := a322
              have ea322 := e; clear e
              refine callFx (spec_mxId_c ((m__1.length : Nat) : Int) a322_0 a322_1 ea322) H trivial ?_; clear H ea322
              rintro _ _ w342 ⟨h343, rfl, rfl⟩ hx (H : Cx w0 fp0 S0 w342 [E (List (List Int)) a322_1 h343, Bx b340 [(.int .i64 0), (.slice none 0 0)], E (List (List Int)) a319_1 h329, Bx b326 [(.int .i64 0), (.slice none 0 0)], Bx b9 [(.int .i64 0), (.slice none 0 0)], Bx b6 [(.int .i64 0), (.slice none 0 0)], Bx b3 [(.int .i64 m__0), (m__1h).v], Es (List (List Int)) m__1 m__1h])
              replace hX := hX.trans0 hx; clear hx
              refine hold hX ?_
              replace H := H.sel [3, 0, 1, 2, 4, 5, 6, 7] rfl
              refine stA gok [(.int .i64 a319_0), (h329).v] rfl H rfl rfl rfl ?_; clear H; intro w345 H
              replace H : Cx w0 fp0 S0 w345 [Bx b326 [(.int .i64 a319_0), (h329).v], E (List (List Int)) a322_1 h343, Bx b340 [(.int .i64 0), (.slice none 0 0)], E (List (List Int)) a319_1 h329, Bx b9 [(.int .i64 0), (.slice none 0 0)], Bx b6 [(.int .i64 0), (.slice none 0 0)], Bx b3 [(.int .i64 m__0), (m__1h).v], Es (List (List Int)) m__1 m__1h] := H
              refine hold trivial ?_
              replace H := H.sel [2, 0, 1, 3, 4, 5, 6, 7] rfl
              refine stA gok [(.int .i64 a322_0), (h343).v] rfl H rfl rfl rfl ?_; clear H; intro w346 H
              replace H : Cx w0 fp0 S0 w346 [Bx b340 [(.int .i64 a322_0), (h343).v], Bx b326 [(.int .i64 a319_0), (h329).v], E (List (List Int)) a322_1 h343, E (List (List Int)) a319_1 h329, Bx b9 [(.int .i64 0), (.slice none 0 0)], Bx b6 [(.int .i64 0), (.slice none 0 0)], Bx b3 [(.int .i64 m__0), (m__1h).v], Es (List (List Int)) m__1 m__1h] := H
              refine hold trivial ?_
              exact ⟨((a319_0, a319_1, a322_0, a322_1), (h329, h343, b326, b340)), ⟨rfl, rfl, rfl, rfl, rfl, rfl, trivial⟩, Option.some.inj hF324, H.sel [6, 7, 5, 4, 1, 3, 0, 2] rfl⟩
            · skip
              exact trivial
        · skip
          refine both ?_ ?_
          · skip
            refine alloc_ gok rfl H ?_; clear H; intro b348 w347 hx H
            replace hX := hX.trans0 hx; clear hx
            replace H : Cx w0 fp0 S0 w347 [Bx b348 [(.int .i64 0), (.slice none 0 0)], Bx b326 [(.int .i64 0), (.slice none 0 0)], Bx b9 [(.int .i64 0), (.slice none 0 0)], Bx b6 [(.int .i64 0), (.slice none 0 0)], Bx b3 [(.int .i64 m__0), (m__1h).v], Es (List (List Int)) m__1 m__1h] := H
            refine hold hX ?_
            have e := eq320; clear eq320
            obtain ⟨a319_0, a319_1⟩ := a319
            have ea319 := e; clear e
            refine callFx (spec_mxCopy_c m__0 m__1 m__1h a319_0 a319_1 ea319) H ⟨Vw.sh 5 rfl, trivial⟩ ?_; clear H ea319
            rintro _ _ w350 ⟨h351, rfl, rfl⟩ hx (H : Cx w0 fp0 S0 w350 [E (List (List Int)) a319_1 h351, Bx b348 [(.int .i64 0), (.slice none 0 0)], Bx b326 [(.int .i64 0), (.slice none 0 0)], Bx b9 [(.int .i64 0), (.slice none 0 0)], Bx b6 [(.int .i64 0), (.slice none 0 0)], Bx b3 [(.int .i64 m__0), (m__1h).v], Es (List (List Int)) m__1 m__1h])
            replace hX := hX.trans0 hx; clear hx
            refine hold hX ?_
            have e := eq323; clear eq323
            obtain ⟨a322_0, a322_1⟩ := a322
            have ea322 := e; clear e
            refine callFx (spec_mxId_c ((m__1.length : Nat) : Int) a322_0 a322_1 ea322) H trivial ?_; clear H ea322
            rintro _ _ w353 ⟨h354, rfl, rfl⟩ hx (H : Cx w0 fp0 S0 w353 [E (List (List Int)) a322_1 h354, E (List (List Int)) a319_1 h351, Bx b348 [(.int .i64 0), (.slice none 0 0)], Bx b326 [(.int .i64 0), (.slice none 0 0)], Bx b9 [(.int .i64 0), (.slice none 0 0)], Bx b6 [(.int .i64 0), (.slice none 0 0)], Bx b3 [(.int .i64 m__0), (m__1h).v], Es (List (List Int)) m__1 m__1h])
            replace hX := hX.trans0 hx; clear hx
            refine hold hX ?_
            replace H := H.sel [3, 0, 1, 2, 4, 5, 6, 7] rfl
            refine stA gok [(.int .i64 a319_0), (h351).v] rfl H rfl rfl rfl ?_; clear H; intro w356 H
            replace H : Cx w0 fp0 S0 w356 [Bx b326 [(.int .i64 a319_0), (h351).v], E (List (List Int)) a322_1 h354, E (List (List Int)) a319_1 h351, Bx b348 [(.int .i64 0), (.slice none 0 0)], Bx b9 [(.int .i64 0), (.slice none 0 0)], Bx b6 [(.int .i64 0), (.slice none 0 0)], Bx b3 [(.int .i64 m__0), (m__1h).v], Es (List (List Int)) m__1 m__1h] := H
            refine hold trivial ?_
            replace H := H.sel [3, 0, 1, 2, 4, 5, 6, 7] rfl
            refine stA gok [(.int .i64 a322_0), (h354).v] rfl H rfl rfl rfl ?_; clear H; intro w357 H
            replace H : Cx w0 fp0 S0 w357 [Bx b348 [(.int .i64 a322_0), (h354).v], Bx b326 [(.int .i64 a319_0), (h351).v], E (List (List Int)) a322_1 h354, E (List (List Int)) a319_1 h351, Bx b9 [(.int .i64 0), (.slice none 0 0)], Bx b6 [(.int .i64 0), (.slice none 0 0)], Bx b3 [(.int .i64 m__0), (m__1h).v], Es (List (List Int)) m__1 m__1h] := H
            refine hold trivial ?_
            exact ⟨((a319_0, a319_1, a322_0, a322_1), (h351, h354, b326, b348)), ⟨rfl, rfl, rfl, rfl, rfl, rfl, trivial⟩, Option.some.inj hF324, H.sel [6, 7, 5, 4, 1, 3, 0, 2] rfl⟩
          · skip
            exact trivial
      · skip
        refine both ?_ ?_
        · skip
          obtain ⟨a358, eq359, hF360⟩ := bindS hF207; clear hF207
          obtain ⟨a361, eq362, hF363⟩ := bindS hF360; clear hF360
          refine alloc_ gok rfl H ?_; clear H; intro b365 w364 hx H
          replace hX := hX.trans0 hx; clear hx
          replace H : Cx w0 fp0 S0 w364 [Bx b365 [(.int .i64 0), (.slice none 0 0)], Bx b9 [(.int .i64 0), (.slice none 0 0)], Bx b6 [(.int .i64 0), (.slice none 0 0)], Bx b3 [(.int .i64 m__0), (m__1h).v], Es (List (List Int)) m__1 m__1h] := H
          refine hold hX ?_
          refine both ?_ ?_
          · skip
            have e := eq359; clear eq359
            obtain ⟨a358_0, a358_1⟩ := a358
            have ea358 := e; clear e
            refine callFx (spec_mxCopy_c m__0 m__1 m__1h a358_0 a358_1 ea358) H ⟨Vw.sh 4 rfl, trivial⟩ ?_; clear H ea358
            rintro _ _ w367 ⟨h368, rfl, rfl⟩ hx (H : Cx w0 fp0 S0 w367 [E (List (List Int)) a358_1 h368, Bx b365 [(.int .i64 0), (.slice none 0 0)], Bx b9 [(.int .i64 0), (.slice none 0 0)], Bx b6 [(.int .i64 0), (.slice none 0 0)], Bx b3 [(.int .i64 m__0), (m__1h).v], Es (List (List Int)) m__1 m__1h])
            replace hX := hX.trans0 hx; clear hx
            refine hold hX ?_
            refine both ?_ ?_
            · skip
              have e := eq362; clear eq362
              obtain ⟨a361_0, a361_1⟩ := a361
              have ea361 := e; clear e
              refine callFx (spec_mxId_c ((m__1.length : Nat) : Int) a361_0 a361_1 ea361) H trivial ?_; clear H ea361
              rintro _ _ w370 ⟨h371, rfl, rfl⟩ hx (H : Cx w0 fp0 S0 w370 [E (List (List Int)) a361_1 h371, E (List (List Int)) a358_1 h368, Bx b365 [(.int .i64 0), (.slice none 0 0)], Bx b9 [(.int .i64 0), (.slice none 0 0)], Bx b6 [(.int .i64 0), (.slice none 0 0)], Bx b3 [(.int .i64 m__0), (m__1h).v], Es (List (List Int)) m__1 m__1h])
              replace hX := hX.trans0 hx; clear hx
              refine hold hX ?_
              refine alloc_ gok rfl H ?_; clear H; intro b374 w373 hx H
              replace hX := hX.trans0 hx; clear hx
              replace H : Cx w0 fp0 S0 w373 [Bx b374 [(.int .i64 0), (.slice none 0 0)], E (List (List Int)) a361_1 h371, E (List (List Int)) a358_1 h368, Bx b365 [(.int .i64 0), (.slice none 0 0)], Bx b9 [(.int .i64 0), (.slice none 0 0)], Bx b6 [(.int .i64 0), (.slice none 0 0)], Bx b3 [(.int .i64 m__0), (m__1h).v], Es (List (List Int)) m__1 m__1h] := H
              refine hold hX ?_
              refine stA gok [(.int .i64 a358_0), (h368).v] rfl H rfl rfl rfl ?_; clear H; intro w376 H
              replace H : Cx w0 fp0 S0 w376 [Bx b374 [(.int .i64 a358_0), (h368).v], E (List (List Int)) a361_1 h371, E (List (List Int)) a358_1 h368, Bx b365 [(.int .i64 0), (.slice none 0 0)], Bx b9 [(.int .i64 0), (.slice none 0 0)], Bx b6 [(.int .i64 0), (.slice none 0 0)], Bx b3 [(.int .i64 m__0), (m__1h).v], Es (List (List Int)) m__1 m__1h] := H
              refine hold trivial ?_
              replace H := H.sel [3, 0, 1, 2, 4, 5, 6, 7] rfl
              refine stA gok [(.int .i64 a361_0), (h371).v] rfl H rfl rfl rfl ?_; clear H; intro w377 H
              replace H : Cx w0 fp0 S0 w377 [Bx b365 [(.int .i64 a361_0), (h371).v], Bx b374 [(.int .i64 a358_0), (h368).v], E (List (List Int)) a361_1 h371, E (List (List Int)) a358_1 h368, Bx b9 [(.int .i64 0), (.slice none 0 0)], Bx b6 [(.int .i64 0), (.slice none 0 0)], Bx b3 [(.int .i64 m__0), (m__1h).v], Es (List (List Int)) m__1 m__1h] := H
              refine hold trivial ?_
              exact ⟨((a358_0, a358_1, a361_0, a361_1), (h368, h371, b374, b365)), ⟨rfl, rfl, rfl, rfl, rfl, rfl, trivial⟩, Option.some.inj hF363, H.sel [6, 7, 5, 4, 1, 3, 0, 2] rfl⟩
            · skip
              refine both ?_ ?_
              · skip
                refine alloc_ gok rfl H ?_; clear H; intro b379 w378 hx H
                replace hX := hX.trans0 hx; clear hx
                replace H : Cx w0 fp0 S0 w378 [Bx b379 [(.int .i64 0), (.slice none 0 0)], E (List (List Int)) a358_1 h368, Bx b365 [(.int .i64 0), (.slice none 0 0)], Bx b9 [(.int .i64 0), (.slice none 0 0)], Bx b6 [(.int .i64 0), (.slice none 0 0)], Bx b3 [(.int .i64 m__0), (m__1h).v], Es (List (List Int)) m__1 m__1h] := H
                refine hold hX ?_
                have e := eq362; clear eq362
                obtain ⟨a361_0, a361_1⟩ := a361
                have ea361 := e; clear e
                refine callFx (spec_mxId_c ((m__1.length : Nat) : Int) a361_0 a361_1 ea361) H trivial ?_; clear H ea361
                rintro _ _ w381 ⟨h382, rfl, rfl⟩ hx (H : Cx w0 fp0 S0 w381 [E (List (List Int)) a361_1 h382, Bx b379 [(.int .i64 0), (.slice none 0 0)], E (List (List Int)) a358_1 h368, Bx b365 [(.int .i64 0), (.slice none 0 0)], Bx b9 [(.int .i64 0), (.slice none 0 0)], Bx b6 [(.int .i64 0), (.slice none 0 0)], Bx b3 [(.int .i64 m__0), (m__1h).v], Es (List (List Int)) m__1 m__1h])
                replace hX := hX.trans0 hx; clear hx
                refine hold hX ?_
                replace H := H.sel [1, 0, 2, 3, 4, 5, 6, 7] rfl
                refine stA gok [(.int .i64 a358_0), (h368).v] rfl H rfl rfl rfl ?_; clear H; intro w384 H
                replace H : Cx w0 fp0 S0 w384 [Bx b379 [(.int .i64 a358_0), (h368).v], E (List (List Int)) a361_1 h382, E (List (List Int)) a358_1 h368, Bx b365 [(.int .i64 0), (.slice none 0 0)], Bx b9 [(.int .i64 0), (.slice none 0 0)], Bx b6 [(.int .i64 0), (.slice none 0 0)], Bx b3 [(.int .i64 m__0), (m__1h).v], Es (List (List Int)) m__1 m__1h] := H
                refine hold trivial ?_
                replace H := H.sel [3, 0, 1, 2, 4, 5, 6, 7] rfl
                refine stA gok [(.int .i64 a361_0), (h382).v] rfl H rfl rfl rfl ?_; clear H; intro w385 H
                replace H : Cx w0 fp0 S0 w385 [Bx b365 [(.int .i64 a361_0), (h382).v], Bx b379 [(.int .i64 a358_0), (h368).v], E (List (List Int)) a361_1 h382, E (List (List Int)) a358_1 h368, Bx b9 [(.int .i64 0), (.slice none 0 0)], Bx b6 [(.int .i64 0), (.slice none 0 0)], Bx b3 [(.int .i64 m__0), (m__1h).v], Es (List (List Int)) m__1 m__1h] := H
                refine hold trivial ?_
                exact ⟨((a358_0, a358_1, a361_0, a361_1), (h368, h382, b379, b365)), ⟨rfl, rfl, rfl, rfl, rfl, rfl, trivial⟩, Option.some.inj hF363, H.sel [6, 7, 5, 4, 1, 3, 0, 2] rfl⟩
              · skip
                exact trivial
          · skip
            refine both ?_ ?_
            · skip
              refine alloc_ gok rfl H ?_; clear H; intro b387 w386 hx H
              replace hX := hX.trans0 hx; clear hx
              replace H : Cx w0 fp0 S0 w386 [Bx b387 [(.int .i64 0), (.slice none 0 0)], Bx b365 [(.int .i64 0), (.slice none 0 0)], Bx b9 [(.int .i64 0), (.slice none 0 0)], Bx b6 [(.int .i64 0), (.slice none 0 0)], Bx b3 [(.int .i64 m__0), (m__1h).v], Es (List (List Int)) m__1 m__1h] := H
              refine hold hX ?_
              have e := eq359; clear eq359
              obtain ⟨a358_0, a358_1⟩ := a358
              have ea358 := e; clear e
              refine callFx (spec_mxCopy_c m__0 m__1 m__1h a358_0 a358_1 ea358) H ⟨Vw.sh 5 rfl, trivial⟩ ?_; clear H ea358
              rintro _ _ w389 ⟨h390, rfl, rfl⟩ hx (H : Cx w0 fp0 S0 w389 [E (List (List Int)) a358_1 h390, Bx b387 [(.int .i64 0), (.slice none 0 0)], Bx b365 [(.int .i64 0), (.slice none 0 0)], Bx b9 [(.int .i64 0), (.slice none 0 0)], Bx b6 [(.int .i64 0), (.slice none 0 0)], Bx b3 [(.int .i64 m__0), (m__1h).v], Es (List (List Int)) m__1 m__1h])
              replace hX := hX.trans0 hx; clear hx
              refine hold hX ?_
              have e := eq362; clear eq362
              obtain ⟨a361_0, a361_1⟩ := a361
              have ea361 := e; clear e
              refine callFx (spec_mxId_c ((m__1.length : Nat) : Int) a361_0 a361_1 ea361) H trivial ?_; clear H ea361
              rintro _ _ w392 ⟨h393, rfl, rfl⟩ hx (H : Cx w0 fp0 S0 w392 [E (List (List Int)) a361_1 h393, E (List (List Int)) a358_1 h390, Bx b387 [(.int .i64 0), (.slice none 0 0)], Bx b365 [(.int .i64 0), (.slice none 0 0)], Bx b9 [(.int .i64 0), (.slice none 0 0)], Bx b6 [(.int .i64 0), (.slice none 0 0)], Bx b3 [(.int .i64 m__0), (m__1h).v], Es (List (List Int)) m__1 m__1h])
              replace hX := hX.trans0 hx; clear hx
              refine hold hX ?_
              replace H := H.sel [2, 0, 1, 3, 4, 5, 6, 7] rfl
              refine stA gok [(.int .i64 a358_0), (h390).v] rfl H rfl rfl rfl ?_; clear H; intro w395 H
              replace H : Cx w0 fp0 S0 w395 [Bx b387 [(.int .i64 a358_0), (h390).v], E (List (List Int)) a361_1 h393, E (List (List Int)) a358_1 h390, Bx b365 [(.int .i64 0), (.slice none 0 0)], Bx b9 [(.int .i64 0), (.slice none 0 0)], Bx b6 [(.int .i64 0), (.slice none 0 0)], Bx b3 [(.int .i64 m__0), (m__1h).v], Es (List (List Int)) m__1 m__1h] := H
              refine hold trivial ?_
              replace H := H.sel [3, 0, 1, 2, 4, 5, 6, 7] rfl
              refine stA gok [(.int .i64 a361_0), (h393).v] rfl H rfl rfl rfl ?_; clear H; intro w396 H
              replace H : Cx w0 fp0 S0 w396 [Bx b365 [(.int .i64 a361_0), (h393).v], Bx b387 [(.int .i64 a358_0), (h390).v], E (List (List Int)) a361_1 h393, E (List (List Int)) a358_1 h390, Bx b9 [(.int .i64 0), (.slice none 0 0)], Bx b6 [(.int .i64 0), (.slice none 0 0)], Bx b3 [(.int .i64 m__0), (m__1h).v], Es (List (List Int)) m__1 m__1h] := H
              refine hold trivial ?_
              exact ⟨((a358_0, a358_1, a361_0, a361_1), (h390, h393, b387, b365)), ⟨rfl, rfl, rfl, rfl, rfl, rfl, trivial⟩, Option.some.inj hF363, H.sel [6, 7, 5, 4, 1, 3, 0, 2] rfl⟩
            · skip
              exact trivial
        · skip
          exact trivial
  · clear hF207 H
    rintro T398 ⟨⟨s199_0, s199_1, s199_2, s199_3⟩, ⟨g200_0, g200_1, g200_2, g200_3⟩⟩ w397 ⟨hr, (H : Cx w0 fp0 S0 w397 [Bx b3 [(.int .i64 m__0), (m__1h).v], Es (List (List Int)) m__1 m__1h, Bx b6 [(.int .i64 0), (.slice none 0 0)], Bx b9 [(.int .i64 0), (.slice none 0 0)], Bx g200_2 [(.int .i64 s199_0), (g200_0).v], E (List (List Int)) s199_1 g200_0, Bx g200_3 [(.int .i64 s199_2), (g200_1).v], E (List (List Int)) s199_3 g200_1])⟩
    subst hr
    obtain ⟨r6019, hF6021, hF6020⟩ := bindS hF206; clear hF206
    refine cut (fun (q6022 : List (List Int) × List (List Int) × Int × Int) => [(4, (.pointer (some ⟨b6, 0, none⟩))), (5, (.pointer (some ⟨b9, 0, none⟩))), (8, (.pointer (some ⟨g200_2, 0, none⟩))), (9, (.pointer (some ⟨g200_3, 0, none⟩))), (10, (.int .i64 q6022.2.2.1)), (11, (.int .i64 q6022.2.2.2))]) (fun (q6022 : List (List Int) × List (List Int) × Int × Int) w' => (q6022.1, q6022.2.1, q6022.2.2.1, q6022.2.2.2) = r6019 ∧ Cx w0 fp0 S0 w' [Bx b6 [(.int .i64 0), (.slice none 0 0)], Bx b9 [(.int .i64 0), (.slice none 0 0)], Bx g200_2 [(.int .i64 s199_0), (g200_0).v], E (List (List Int)) q6022.1 g200_0, Bx g200_3 [(.int .i64 s199_2), (g200_1).v], E (List (List Int)) q6022.2.1 g200_1]) ?_ ?_
    · skip
      refine loopW _ (fun (s9763 : List (List Int) × List (List Int) × Int × Int × Int) (_ : Unit) => [(0, (.int .i64 p_)), (3, (.pointer (some ⟨b3, 0, none⟩))), (4, (.pointer (some ⟨b6, 0, none⟩))), (5, (.pointer (some ⟨b9, 0, none⟩))), (8, (.pointer (some ⟨g200_2, 0, none⟩))), (9, (.pointer (some ⟨g200_3, 0, none⟩))), (10, (.int .i64 s9763.2.2.1)), (11, (.int .i64 s9763.2.2.2.1)), (12, (.int .i64 s9763.2.2.2.2))]) (fun (s9763 : List (List Int) × List (List Int) × Int × Int × Int) (_ : Unit) w' => Cx w0 fp0 S0 w' [Bx b3 [(.int .i64 m__0), (m__1h).v], Es (List (List Int)) m__1 m__1h, Bx b6 [(.int .i64 0), (.slice none 0 0)], Bx b9 [(.int .i64 0), (.slice none 0 0)], Bx g200_2 [(.int .i64 s199_0), (g200_0).v], E (List (List Int)) s9763.1 g200_0, Bx g200_3 [(.int .i64 s199_2), (g200_1).v], E (List (List Int)) s9763.2.1 g200_1]) (s199_1, s199_3, 0, 1, 0) () hF6021 ⟨rfl, rfl, rfl, rfl, rfl, rfl, rfl, rfl, rfl, trivial⟩ (H.sel [0, 1, 2, 3, 4, 5, 6, 7] rfl) ?_
      · clear H
        rintro T9769 ⟨s9763_0, s9763_1, s9763_2, s9763_3, s9763_4⟩ _ w9768 o9770 (H : Cx w0 fp0 S0 w9768 [Bx b3 [(.int .i64 m__0), (m__1h).v], Es (List (List Int)) m__1 m__1h, Bx b6 [(.int .i64 0), (.slice none 0 0)], Bx b9 [(.int .i64 0), (.slice none 0 0)], Bx g200_2 [(.int .i64 s199_0), (g200_0).v], E (List (List Int)) s9763_0 g200_0, Bx g200_3 [(.int .i64 s199_2), (g200_1).v], E (List (List Int)) s9763_1 g200_1]) hrt hF9771
        refine sq ?_
        refine fld gok rfl rfl rfl rfl ?_
        refine load1 (H.bx 0 rfl (j := 0) rfl) ?_
        obtain ⟨a9772, e, hF9773⟩ := bindS hF9771; clear hF9771
        refine boolO e ?_; clear e
        cases a9772
        · have hF9774 := condF hF9773; clear hF9773
          have hs := Option.some.inj hF9774; subst hs; clear hF9774
          have hF9775 : some _ = some _ := congrArg some (hrt _ rfl).symm
          exact ⟨(s9763_0, s9763_1, s9763_2, s9763_3), ⟨rfl, rfl, rfl, rfl, rfl, rfl, trivial⟩, Option.some.inj hF9775, H.sel [2, 3, 4, 5, 6, 7] rfl⟩
        · have hF9776 := condT hF9773; clear hF9773
          obtain ⟨r10706, hF10708, hF10707⟩ := bindS hF9776; clear hF9776
          refine cut (fun (q10709 : List (List Int) × List (List Int) × Int × Int) => [(0, (.int .i64 p_)), (3, (.pointer (some ⟨b3, 0, none⟩))), (4, (.pointer (some ⟨b6, 0, none⟩))), (5, (.pointer (some ⟨b9, 0, none⟩))), (8, (.pointer (some ⟨g200_2, 0, none⟩))), (9, (.pointer (some ⟨g200_3, 0, none⟩))), (10, (.int .i64 q10709.2.2.1)), (11, (.int .i64 q10709.2.2.2)), (12, (.int .i64 s9763_4))]) (fun (q10709 : List (List Int) × List (List Int) × Int × Int) w' => (q10709.1, q10709.2.1, q10709.2.2.1, q10709.2.2.2) = r10706 ∧ Cx w0 fp0 S0 w' [Bx b3 [(.int .i64 m__0), (m__1h).v], Es (List (List Int)) m__1 m__1h, Bx b6 [(.int .i64 0), (.slice none 0 0)], Bx b9 [(.int .i64 0), (.slice none 0 0)], Bx g200_2 [(.int .i64 s199_0), (g200_0).v], E (List (List Int)) q10709.1 g200_0, Bx g200_3 [(.int .i64 s199_2), (g200_1).v], E (List (List Int)) q10709.2.1 g200_1]) ?_ ?_
          · skip
            obtain ⟨r10900, hF10902, hF10901⟩ := bindS hF10708; clear hF10708
            refine cut (fun (q10903 : Int) => [(0, (.int .i64 p_)), (3, (.pointer (some ⟨b3, 0, none⟩))), (4, (.pointer (some ⟨b6, 0, none⟩))), (5, (.pointer (some ⟨b9, 0, none⟩))), (8, (.pointer (some ⟨g200_2, 0, none⟩))), (9, (.pointer (some ⟨g200_3, 0, none⟩))), (10, (.int .i64 s9763_2)), (11, (.int .i64 s9763_3)), (12, (.int .i64 s9763_4)), (13, (.int .i64 q10903))]) (fun (q10903 : Int) w' => q10903 = r10900 ∧ Cx w0 fp0 S0 w' [Bx b3 [(.int .i64 m__0), (m__1h).v], Es (List (List Int)) m__1 m__1h, Bx b6 [(.int .i64 0), (.slice none 0 0)], Bx b9 [(.int .i64 0), (.slice none 0 0)], Bx g200_2 [(.int .i64 s199_0), (g200_0).v], E (List (List Int)) s9763_0 g200_0, Bx g200_3 [(.int .i64 s199_2), (g200_1).v], E (List (List Int)) s9763_1 g200_1]) ?_ ?_
            · skip
              refine loopW _ (fun (s11024 : Int) (_ : Unit) => [(0, (.int .i64 p_)), (3, (.pointer (some ⟨b3, 0, none⟩))), (4, (.pointer (some ⟨b6, 0, none⟩))), (5, (.pointer (some ⟨b9, 0, none⟩))), (8, (.pointer (some ⟨g200_2, 0, none⟩))), (9, (.pointer (some ⟨g200_3, 0, none⟩))), (10, (.int .i64 s9763_2)), (11, (.int .i64 s9763_3)), (12, (.int .i64 s9763_4)), (13, (.int .i64 s11024))]) (fun (s11024 : Int) (_ : Unit) w' => Cx w0 fp0 S0 w' [Bx b3 [(.int .i64 m__0), (m__1h).v], Es (List (List Int)) m__1 m__1h, Bx b6 [(.int .i64 0), (.slice none 0 0)], Bx b9 [(.int .i64 0), (.slice none 0 0)], Bx g200_2 [(.int .i64 s199_0), (g200_0).v], E (List (List Int)) s9763_0 g200_0, Bx g200_3 [(.int .i64 s199_2), (g200_1).v], E (List (List Int)) s9763_1 g200_1]) s9763_2 () hF10902 ⟨rfl, rfl, rfl, rfl, rfl, rfl, rfl, rfl, rfl, rfl, trivial⟩ (H.sel [0, 1, 2, 3, 4, 5, 6, 7] rfl) ?_
              · clear H
                rintro T11030 s11024 _ w11029 o11031 (H : Cx w0 fp0 S0 w11029 [Bx b3 [(.int .i64 m__0), (m__1h).v], Es (List (List Int)) m__1 m__1h, Bx b6 [(.int .i64 0), (.slice none 0 0)], Bx b9 [(.int .i64 0), (.slice none 0 0)], Bx g200_2 [(.int .i64 s199_0), (g200_0).v], E (List (List Int)) s9763_0 g200_0, Bx g200_3 [(.int .i64 s199_2), (g200_1).v], E (List (List Int)) s9763_1 g200_1]) hrt hF11032
                refine sq ?_
                obtain ⟨r11058, hF11060, hF11059⟩ := bindS hF11032; clear hF11032
                refine cut (fun (q11061 : Bool) => [(0, (.int .i64 p_)), (3, (.pointer (some ⟨b3, 0, none⟩))), (4, (.pointer (some ⟨b6, 0, none⟩))), (5, (.pointer (some ⟨b9, 0, none⟩))), (8, (.pointer (some ⟨g200_2, 0, none⟩))), (9, (.pointer (some ⟨g200_3, 0, none⟩))), (10, (.int .i64 s9763_2)), (11, (.int .i64 s9763_3)), (12, (.int .i64 s9763_4)), (13, (.int .i64 s11024)), (47, (.bool q11061))]) (fun (q11061 : Bool) w' => q11061 = r11058 ∧ Cx w0 fp0 S0 w' [Bx b3 [(.int .i64 m__0), (m__1h).v], Es (List (List Int)) m__1 m__1h, Bx b6 [(.int .i64 0), (.slice none 0 0)], Bx b9 [(.int .i64 0), (.slice none 0 0)], Bx g200_2 [(.int .i64 s199_0), (g200_0).v], E (List (List Int)) s9763_0 g200_0, Bx g200_3 [(.int .i64 s199_2), (g200_1).v], E (List (List Int)) s9763_1 g200_1]) ?_ ?_
                · skip
                  refine fld gok rfl rfl rfl rfl ?_
                  refine load1 (H.bx 4 rfl (j := 1) rfl) ?_
                  refine lenE (H.ro (α := List (List Int)) 5 rfl).len ?_
                  obtain ⟨a11062, e, hF11063⟩ := bindS hF11060; clear hF11060
                  refine boolO e ?_; clear e
                  cases a11062
                  · have hF11064 := condF hF11063; clear hF11063
                    exact ⟨false, ⟨rfl, rfl, rfl, rfl, rfl, rfl, rfl, rfl, rfl, rfl, rfl, trivial⟩, Option.some.inj hF11064, H.sel [0, 1, 2, 3, 4, 5, 6, 7] rfl⟩
                  · have hF11065 := condT hF11063; clear hF11063
                    refine fld gok rfl rfl rfl rfl ?_
                    refine load1 (H.bx 4 rfl (j := 1) rfl) ?_
                    obtain ⟨a11072, e, hF11073⟩ := bindS hF11065; clear hF11065
                    replace H := H.sel [5, 0, 1, 2, 3, 4, 6, 7] rfl
                    replace H := H.toEH (α := List Int)
                    have HH := H; clear H; obtain ⟨p11070, m11071, h11074, c11066, c11067, c11068, c11069, H⟩ := HH.peekL e; clear HH
                    clear e
                    refine idxE c11066 c11067 c11068 ?_
                    refine load1 c11069 ?_; clear c11069
                    obtain ⟨a11081, e, hF11082⟩ := bindS hF11073; clear hF11073
                    obtain ⟨p11079, m11080, c11075, c11076, c11077, c11078⟩ := (H.rh (α := List Int) 0 rfl 0 rfl).at1 e; clear e
                    refine idxE c11075 c11076 c11077 ?_; clear c11075 c11076 c11077
                    refine load1 c11078 ?_; clear c11078
                    obtain ⟨a11083, e, hF11084⟩ := bindS hF11082; clear hF11082
                    refine boolO e ?_; clear e
                    replace H := H.ofEH
                    exact ⟨a11083, ⟨rfl, rfl, rfl, rfl, rfl, rfl, rfl, rfl, rfl, rfl, rfl, trivial⟩, Option.some.inj hF11084, H.sel [1, 2, 3, 4, 5, 0, 6, 7] rfl⟩
                · clear hF11060 H
                  rintro T11086 s11056 w11085 ⟨hr, (H : Cx w0 fp0 S0 w11085 [Bx b3 [(.int .i64 m__0), (m__1h).v], Es (List (List Int)) m__1 m__1h, Bx b6 [(.int .i64 0), (.slice none 0 0)], Bx b9 [(.int .i64 0), (.slice none 0 0)], Bx g200_2 [(.int .i64 s199_0), (g200_0).v], E (List (List Int)) s9763_0 g200_0, Bx g200_3 [(.int .i64 s199_2), (g200_1).v], E (List (List Int)) s9763_1 g200_1])⟩
                  subst hr
                  cases s11056
                  · have hF11087 := condF hF11059; clear hF11059
                    have hs := Option.some.inj hF11087; subst hs; clear hF11087
                    have hF11088 : some _ = some _ := congrArg some (hrt _ rfl).symm
                    exact ⟨s11024, ⟨rfl, rfl, rfl, rfl, rfl, rfl, rfl, rfl, rfl, rfl, trivial⟩, Option.some.inj hF11088, H.sel [0, 1, 2, 3, 4, 5, 6, 7] rfl⟩
                  · have hF11089 := condT hF11059; clear hF11059
                    obtain ⟨a11090, e, hF11091⟩ := bindS hF11089; clear hF11089
                    refine arO e ?_; clear e
                    have hs := Option.some.inj hF11091; subst hs; clear hF11091
                    exact ⟨a11090, (), rfl, ⟨rfl, rfl, rfl, rfl, rfl, rfl, rfl, rfl, rfl, rfl, trivial⟩, H.sel [0, 1, 2, 3, 4, 5, 6, 7] rfl⟩
            · clear hF10902 H
              rintro T11093 s10898 w11092 ⟨hr, (H : Cx w0 fp0 S0 w11092 [Bx b3 [(.int .i64 m__0), (m__1h).v], Es (List (List Int)) m__1 m__1h, Bx b6 [(.int .i64 0), (.slice none 0 0)], Bx b9 [(.int .i64 0), (.slice none 0 0)], Bx g200_2 [(.int .i64 s199_0), (g200_0).v], E (List (List Int)) s9763_0 g200_0, Bx g200_3 [(.int .i64 s199_2), (g200_1).v], E (List (List Int)) s9763_1 g200_1])⟩
              subst hr
              refine sq ?_
              refine fld gok rfl rfl rfl rfl ?_
              refine load1 (H.bx 4 rfl (j := 1) rfl) ?_
              refine lenE (H.ro (α := List (List Int)) 5 rfl).len ?_
              obtain ⟨a11094, e, hF11095⟩ := bindS hF10901; clear hF10901
              refine boolO e ?_; clear e
              cases a11094
              · have hF11096 := condF hF11095; clear hF11095
                obtain ⟨r11177, hF11179, hF11178⟩ := bindS hF11096; clear hF11096
                refine cut (fun (q11180 : List (List Int) × List (List Int) × Int) => [(0, (.int .i64 p_)), (3, (.pointer (some ⟨b3, 0, none⟩))), (4, (.pointer (some ⟨b6, 0, none⟩))), (5, (.pointer (some ⟨b9, 0, none⟩))), (8, (.pointer (some ⟨g200_2, 0, none⟩))), (9, (.pointer (some ⟨g200_3, 0, none⟩))), (10, (.int .i64 s9763_2)), (11, (.int .i64 q11180.2.2)), (12, (.int .i64 s9763_4))]) (fun (q11180 : List (List Int) × List (List Int) × Int) w' => (q11180.1, q11180.2.1, q11180.2.2) = r11177 ∧ Cx w0 fp0 S0 w' [Bx b3 [(.int .i64 m__0), (m__1h).v], Es (List (List Int)) m__1 m__1h, Bx b6 [(.int .i64 0), (.slice none 0 0)], Bx b9 [(.int .i64 0), (.slice none 0 0)], Bx g200_2 [(.int .i64 s199_0), (g200_0).v], E (List (List Int)) q11180.1 g200_0, Bx g200_3 [(.int .i64 s199_2), (g200_1).v], E (List (List Int)) q11180.2.1 g200_1]) ?_ ?_
                · skip
                  obtain ⟨a11181, e, hF11182⟩ := bindS hF11179; clear hF11179
                  refine boolO e ?_; clear e
                  cases a11181
                  · have hF11183 := condF hF11182; clear hF11182
                    exact ⟨(s9763_0, s9763_1, s9763_3), ⟨rfl, rfl, rfl, rfl, rfl, rfl, rfl, rfl, rfl, trivial⟩, Option.some.inj hF11183, H.sel [0, 1, 2, 3, 4, 5, 6, 7] rfl⟩
                  · have hF11184 := condT hF11182; clear hF11182
                    refine heldX H [] (.fst 0 (.fst 2 (.fst 5 (.fst 7 (.fst 1 (.fst 3 (.fst 4 (.fst 10 (.fst 6 (.fst 8 (.fst 9 (.fst 11 .done)))))))))))) mixed [] trivial (by kernel_rfl) ?_
                    clear H; intro w11185 H
                    have hX : Ext w11185 w11185 := Upd.refl _ _
                    have H0 := H
                    refine anyH (fun _ => fld gok rfl rfl rfl rfl ⟨rfl, rfl⟩) ?_
                    refine anyH (fun _ => fld gok rfl rfl rfl rfl ⟨rfl, rfl⟩) ?_
                    refine load1X (H.bx 4 rfl (j := 1) rfl) ?_
                    obtain ⟨a11192, e, hF11193⟩ := bindS hF11184; clear hF11184
                    replace H := H.sel [5, 0, 1, 2, 3, 4, 6, 7] rfl
                    replace H := H.toEH (α := List Int)
                    have HH := H; clear H; obtain ⟨p11190, m11191, h11194, c11186, c11187, c11188, c11189, H⟩ := HH.peekL e; clear HH
                    clear e
                    refine idxE c11186 c11187 c11188 ?_
                    refine load1X c11189 ?_; clear c11189
                    refine load1X (H.bx 6 rfl (j := 1) rfl) ?_
                    obtain ⟨a11201, e, hF11202⟩ := bindS hF11193; clear hF11193
                    replace H := H.sel [7, 0, 1, 2, 3, 4, 5, 6] rfl
                    replace H := H.toEH (α := List Int)
                    have HH := H; clear H; obtain ⟨p11199, m11200, h11203, c11195, c11196, c11197, c11198, H⟩ := HH.peekL e; clear HH
                    clear e
                    refine idxE c11195 c11196 c11197 ?_
                    refine load1X c11198 ?_; clear c11198
                    refine heldX H [9] (.fst 0 (.fst 2 (.fst 3 (.fst 5 (.fst 1 (.fst 4 (.fst 6 (.fst 7 (.fst 8 (.act 9 .done)))))))))) mixed [] trivial (by kernel_rfl) ?_
                    clear H; intro w11204 H
                    have hX : Ext w11204 w11204 := Upd.refl _ _
                    have H0 := H
                    refine anyH (fun _ => fld gok rfl rfl rfl rfl ⟨rfl, rfl⟩) ?_
                    refine anyH (fun _ => fld gok rfl rfl rfl rfl ⟨rfl, rfl⟩) ?_
                    refine load1X (H.bx 6 rfl (j := 1) rfl) ?_
                    refine load1X (H.bx 6 rfl (j := 1) rfl) ?_
                    obtain ⟨a11211, e, hF11212⟩ := bindS hF11202; clear hF11202
                    replace H := H.sel [1, 0, 2, 3, 4, 5, 6, 7] rfl
                    have HH := H; clear H; obtain ⟨p11209, m11210, h11213, c11205, c11206, c11207, c11208, H⟩ := HH.peekL e; clear HH
                    clear e
                    refine idxE c11205 c11206 c11207 ?_
                    refine load1X c11208 ?_; clear c11208
                    refine idxE c11186 c11187 c11188 ?_
                    refine stZ1 (ki := 1) (kj := 0) H rfl rfl c11186 ?_; clear H; intro w11220 H
                    replace H : Cx w0 fp0 S0 w11220 [EZ (List Int) m11191 m11210 a11192 a11211 h11194 h11213 s9763_0 g200_0, EH (List Int) s9763_1 g200_1 [⟨m11200, a11201, h11203⟩], Bx b3 [(.int .i64 m__0), (m__1h).v], Es (List (List Int)) m__1 m__1h, Bx b6 [(.int .i64 0), (.slice none 0 0)], Bx b9 [(.int .i64 0), (.slice none 0 0)], Bx g200_2 [(.int .i64 s199_0), (g200_0).v], Bx g200_3 [(.int .i64 s199_2), (g200_1).v]] := H
                    refine hold trivial ?_
                    refine heldX H [9] (.fst 0 (.fst 2 (.fst 3 (.fst 5 (.fst 1 (.fst 4 (.fst 6 (.fst 7 (.fst 8 (.act 9 .done)))))))))) mixed [] trivial (by kernel_rfl) ?_
                    clear H; intro w11221 H
                    have hX : Ext w11221 w11221 := Upd.refl _ _
                    have H0 := H
                    refine anyH (fun _ => fld gok rfl rfl rfl rfl ⟨rfl, rfl⟩) ?_
                    refine anyH (fun _ => fld gok rfl rfl rfl rfl ⟨rfl, rfl⟩) ?_
                    refine load1X (H.bx 7 rfl (j := 1) rfl) ?_
                    refine load1X (H.bx 7 rfl (j := 1) rfl) ?_
                    obtain ⟨a11228, e, hF11229⟩ := bindS hF11212; clear hF11212
                    replace H := H.sel [1, 0, 2, 3, 4, 5, 6, 7] rfl
                    have HH := H; clear H; obtain ⟨p11226, m11227, h11230, c11222, c11223, c11224, c11225, H⟩ := HH.peekL e; clear HH
                    clear e
                    refine idxE c11222 c11223 c11224 ?_
                    refine load1X c11225 ?_; clear c11225
                    refine idxE c11195 c11196 c11197 ?_
                    refine stZ1 (ki := 1) (kj := 0) H rfl rfl c11195 ?_; clear H; intro w11237 H
                    replace H : Cx w0 fp0 S0 w11237 [EZ (List Int) m11200 m11227 a11201 a11228 h11203 h11230 s9763_1 g200_1, EZ (List Int) m11191 m11210 a11192 a11211 h11194 h11213 s9763_0 g200_0, Bx b3 [(.int .i64 m__0), (m__1h).v], Es (List (List Int)) m__1 m__1h, Bx b6 [(.int .i64 0), (.slice none 0 0)], Bx b9 [(.int .i64 0), (.slice none 0 0)], Bx g200_2 [(.int .i64 s199_0), (g200_0).v], Bx g200_3 [(.int .i64 s199_2), (g200_1).v]] := H
                    refine hold trivial ?_
                    refine fld gok rfl rfl rfl rfl ?_
                    refine load1 (H.bx 6 rfl (j := 1) rfl) ?_
                    refine idxE c11205 c11206 c11207 ?_
                    replace H := H.sel [1, 0, 2, 3, 4, 5, 6, 7] rfl
                    obtain ⟨a11245, e, hF11246⟩ := bindS hF11229; clear hF11229
                    refine stZ2 H c11187 c11206 c11205 e ?_; clear H e; intro w11244 H
                    refine fld gok rfl rfl rfl rfl ?_
                    refine load1 (H.bx 7 rfl (j := 1) rfl) ?_
                    refine idxE c11222 c11223 c11224 ?_
                    replace H := H.sel [1, 0, 2, 3, 4, 5, 6, 7] rfl
                    obtain ⟨a11254, e, hF11255⟩ := bindS hF11246; clear hF11246
                    refine stZ2 H c11196 c11223 c11222 e ?_; clear H e; intro w11253 H
                    obtain ⟨y11256, e, hF11257⟩ := bindS hF11255; clear hF11255
                    have ey11256 := e; clear e
                    refine callF (spec_fdNeg_c p_ s9763_3 y11256 ey11256) (Γi := []) H trivial ?_; clear H ey11256
                    rintro _ _ w11258 ⟨rfl, rfl⟩ (H : Cx w0 fp0 S0 w11258 [E (List (List Int)) a11254 g200_1, E (List (List Int)) a11245 g200_0, Bx b3 [(.int .i64 m__0), (m__1h).v], Es (List (List Int)) m__1 m__1h, Bx b6 [(.int .i64 0), (.slice none 0 0)], Bx b9 [(.int .i64 0), (.slice none 0 0)], Bx g200_2 [(.int .i64 s199_0), (g200_0).v], Bx g200_3 [(.int .i64 s199_2), (g200_1).v]])
                    exact ⟨(a11245, a11254, y11256), ⟨rfl, rfl, rfl, rfl, rfl, rfl, rfl, rfl, rfl, trivial⟩, Option.some.inj hF11257, H.sel [2, 3, 4, 5, 6, 1, 7, 0] rfl⟩
                · clear hF11179 H
                  rintro T11260 ⟨s11175_0, s11175_1, s11175_2⟩ w11259 ⟨hr, (H : Cx w0 fp0 S0 w11259 [Bx b3 [(.int .i64 m__0), (m__1h).v], Es (List (List Int)) m__1 m__1h, Bx b6 [(.int .i64 0), (.slice none 0 0)], Bx b9 [(.int .i64 0), (.slice none 0 0)], Bx g200_2 [(.int .i64 s199_0), (g200_0).v], E (List (List Int)) s11175_0 g200_0, Bx g200_3 [(.int .i64 s199_2), (g200_1).v], E (List (List Int)) s11175_1 g200_1])⟩
                  subst hr
                  refine fld gok rfl rfl rfl rfl ?_
                  refine load1 (H.bx 4 rfl (j := 1) rfl) ?_
                  obtain ⟨a11267, e, hF11268⟩ := bindS hF11178; clear hF11178
                  replace H := H.sel [5, 0, 1, 2, 3, 4, 6, 7] rfl
                  replace H := H.toEH (α := List Int)
                  have HH := H; clear H; obtain ⟨p11265, m11266, h11269, c11261, c11262, c11263, c11264, H⟩ := HH.peekL e; clear HH
                  clear e
                  refine idxE c11261 c11262 c11263 ?_
                  refine load1 c11264 ?_; clear c11264
                  obtain ⟨a11276, e, hF11277⟩ := bindS hF11268; clear hF11268
                  obtain ⟨p11274, m11275, c11270, c11271, c11272, c11273⟩ := (H.rh (α := List Int) 0 rfl 0 rfl).at1 e; clear e
                  refine idxE c11270 c11271 c11272 ?_; clear c11270 c11271 c11272
                  refine load1 c11273 ?_; clear c11273
                  replace H := H.ofEH
                  obtain ⟨y11278, e, hF11279⟩ := bindS hF11277; clear hF11277
                  have ey11278 := e; clear e
                  refine callF (spec_fdMul_c p_ s11175_2 a11276 y11278 ey11278) (Γi := []) H trivial ?_; clear H ey11278
                  rintro _ _ w11280 ⟨rfl, rfl⟩ (H : Cx w0 fp0 S0 w11280 [E (List (List Int)) s11175_0 g200_0, Bx b3 [(.int .i64 m__0), (m__1h).v], Es (List (List Int)) m__1 m__1h, Bx b6 [(.int .i64 0), (.slice none 0 0)], Bx b9 [(.int .i64 0), (.slice none 0 0)], Bx g200_2 [(.int .i64 s199_0), (g200_0).v], Bx g200_3 [(.int .i64 s199_2), (g200_1).v], E (List (List Int)) s11175_1 g200_1])
                  refine heldX H [9] (.fst 0 (.fst 1 (.fst 3 (.fst 6 (.fst 7 (.fst 2 (.fst 4 (.fst 5 (.act 8 (.act 9 .done)))))))))) mixed [] trivial (by kernel_rfl) ?_
                  clear H; intro w11281 H
                  have hX : Ext w11281 w11281 := Upd.refl _ _
                  have H0 := H
                  refine anyH (fun _ => fld gok rfl rfl rfl rfl ⟨rfl, rfl⟩) ?_
                  refine load1X (H.bx 5 rfl (j := 1) rfl) ?_
                  obtain ⟨a11288, e, hF11289⟩ := bindS hF11279; clear hF11279
                  replace H := H.toEH (α := List Int)
                  have HH := H; clear H; obtain ⟨p11286, m11287, h11290, c11282, c11283, c11284, c11285, H⟩ := HH.peekL e; clear HH
                  clear e
                  refine idxE c11282 c11283 c11284 ?_
                  refine load1X c11285 ?_; clear c11285
                  obtain ⟨y11291, e, hF11292⟩ := bindS hF11289; clear hF11289
                  have ey11291 := e; clear e
                  refine callFx (spec_fdInv_c p_ a11276 y11291 ey11291) H trivial ?_; clear H ey11291
                  rintro _ _ w11293 ⟨rfl, rfl⟩ hx (H : Cx w0 fp0 S0 w11293 [EH (List Int) s11175_0 g200_0 [⟨m11287, a11288, h11290⟩], Bx b3 [(.int .i64 m__0), (m__1h).v], Es (List (List Int)) m__1 m__1h, Bx b6 [(.int .i64 0), (.slice none 0 0)], Bx b9 [(.int .i64 0), (.slice none 0 0)], Bx g200_2 [(.int .i64 s199_0), (g200_0).v], Bx g200_3 [(.int .i64 s199_2), (g200_1).v], E (List (List Int)) s11175_1 g200_1])
                  replace hX := hX.trans0 hx; clear hx
                  refine hold hX ?_
                  obtain ⟨y11294, e, hF11295⟩ := bindS hF11292; clear hF11292
                  have ey11294 := e; clear e
                  replace H := H.takeK 0 rfl
                  refine callF (spec_mxScale_c p_ a11288 h11290 y11291 y11294 ey11294) (Γi := [E (List Int) a11288 h11290]) H trivial ?_; clear H ey11294
                  rintro _ _ w11297 ⟨rfl, rfl⟩ (H : Cx w0 fp0 S0 w11297 [E (List Int) y11294 h11290, EX (List Int) m11287 [(h11290).v] s11175_0 g200_0, Bx b3 [(.int .i64 m__0), (m__1h).v], Es (List (List Int)) m__1 m__1h, Bx b6 [(.int .i64 0), (.slice none 0 0)], Bx b9 [(.int .i64 0), (.slice none 0 0)], Bx g200_2 [(.int .i64 s199_0), (g200_0).v], Bx g200_3 [(.int .i64 s199_2), (g200_1).v], E (List (List Int)) s11175_1 g200_1])
                  obtain ⟨a11298, e, hF11299⟩ := bindS hF11295; clear hF11295
                  replace H := H.put c11283 e; clear e
                  refine hold trivial ?_
                  refine heldX H [9] (.fst 0 (.fst 1 (.fst 3 (.fst 6 (.fst 7 (.fst 2 (.fst 4 (.fst 5 (.act 8 (.act 9 .done)))))))))) mixed [] trivial (by kernel_rfl) ?_
                  clear H; intro w11300 H
                  have hX : Ext w11300 w11300 := Upd.refl _ _
                  have H0 := H
                  refine anyH (fun _ => fld gok rfl rfl rfl rfl ⟨rfl, rfl⟩) ?_
                  refine load1X (H.bx 6 rfl (j := 1) rfl) ?_
                  obtain ⟨a11307, e, hF11308⟩ := bindS hF11299; clear hF11299
                  replace H := H.sel [7, 0, 1, 2, 3, 4, 5, 6] rfl
                  replace H := H.toEH (α := List Int)
                  have HH := H; clear H; obtain ⟨p11305, m11306, h11309, c11301, c11302, c11303, c11304, H⟩ := HH.peekL e; clear HH
                  clear e
                  refine idxE c11301 c11302 c11303 ?_
                  refine load1X c11304 ?_; clear c11304
                  obtain ⟨y11310, e, hF11311⟩ := bindS hF11308; clear hF11308
                  have ey11310 := e; clear e
                  refine callFx (spec_fdInv_c p_ a11276 y11310 ey11310) H trivial ?_; clear H ey11310
                  rintro _ _ w11312 ⟨rfl, rfl⟩ hx (H : Cx w0 fp0 S0 w11312 [EH (List Int) s11175_1 g200_1 [⟨m11306, a11307, h11309⟩], E (List (List Int)) a11298 g200_0, Bx b3 [(.int .i64 m__0), (m__1h).v], Es (List (List Int)) m__1 m__1h, Bx b6 [(.int .i64 0), (.slice none 0 0)], Bx b9 [(.int .i64 0), (.slice none 0 0)], Bx g200_2 [(.int .i64 s199_0), (g200_0).v], Bx g200_3 [(.int .i64 s199_2), (g200_1).v]])
                  replace hX := hX.trans0 hx; clear hx
                  refine hold hX ?_
                  obtain ⟨y11313, e, hF11314⟩ := bindS hF11311; clear hF11311
                  have ey11313 := e; clear e
                  replace H := H.takeK 0 rfl
                  refine callF (spec_mxScale_c p_ a11307 h11309 y11310 y11313 ey11313) (Γi := [E (List Int) a11307 h11309]) H trivial ?_; clear H ey11313
                  rintro _ _ w11316 ⟨rfl, rfl⟩ (H : Cx w0 fp0 S0 w11316 [E (List Int) y11313 h11309, EX (List Int) m11306 [(h11309).v] s11175_1 g200_1, E (List (List Int)) a11298 g200_0, Bx b3 [(.int .i64 m__0), (m__1h).v], Es (List (List Int)) m__1 m__1h, Bx b6 [(.int .i64 0), (.slice none 0 0)], Bx b9 [(.int .i64 0), (.slice none 0 0)], Bx g200_2 [(.int .i64 s199_0), (g200_0).v], Bx g200_3 [(.int .i64 s199_2), (g200_1).v]])
                  obtain ⟨a11317, e, hF11318⟩ := bindS hF11314; clear hF11314
                  replace H := H.put c11302 e; clear e
                  refine hold trivial ?_
                  refine sq ?_
                  refine fld gok rfl rfl rfl rfl ?_
                  refine load1 (H.bx 6 rfl (j := 1) rfl) ?_
                  refine lenE (H.ro (α := List (List Int)) 1 rfl).len ?_
                  have hmx11524 := (H.ro (α := List (List Int)) 1 rfl).max
                  obtain ⟨r11525, e, hF11526⟩ := bindS hF11318; clear hF11318
                  refine loopS _ a11298.length (fun (k11319 : Nat) (s11522 : List (List Int) × List (List Int)) (_ : Unit) => [(0, (.int .i64 p_)), (3, (.pointer (some ⟨b3, 0, none⟩))), (4, (.pointer (some ⟨b6, 0, none⟩))), (5, (.pointer (some ⟨b9, 0, none⟩))), (8, (.pointer (some ⟨g200_2, 0, none⟩))), (9, (.pointer (some ⟨g200_3, 0, none⟩))), (10, (.int .i64 s9763_2)), (11, (.int .i64 y11278)), (12, (.int .i64 s9763_4)), (133, (.int .i64 ((a11298.length : Nat) : Int))), (134, (.int .i64 ((k11319 : Nat) : Int)))]) (fun _ (s11522 : List (List Int) × List (List Int)) (_ : Unit) w' => Cx w0 fp0 S0 w' [Bx b3 [(.int .i64 m__0), (m__1h).v], Es (List (List Int)) m__1 m__1h, Bx b6 [(.int .i64 0), (.slice none 0 0)], Bx b9 [(.int .i64 0), (.slice none 0 0)], Bx g200_2 [(.int .i64 s199_0), (g200_0).v], E (List (List Int)) s11522.1 g200_0, Bx g200_3 [(.int .i64 s199_2), (g200_1).v], E (List (List Int)) s11522.2 g200_1]) (a11298, a11317) () e ⟨rfl, rfl, rfl, rfl, rfl, rfl, rfl, rfl, rfl, rfl, rfl, trivial⟩ (H.sel [2, 3, 4, 5, 6, 1, 7, 0] rfl) ?_ ?_
                  · clear H e
                    rintro T11528 k11319 ⟨s11522_0, s11522_1⟩ _ w11527 o11529 hk (H : Cx w0 fp0 S0 w11527 [Bx b3 [(.int .i64 m__0), (m__1h).v], Es (List (List Int)) m__1 m__1h, Bx b6 [(.int .i64 0), (.slice none 0 0)], Bx b9 [(.int .i64 0), (.slice none 0 0)], Bx g200_2 [(.int .i64 s199_0), (g200_0).v], E (List (List Int)) s11522_0 g200_0, Bx g200_3 [(.int .i64 s199_2), (g200_1).v], E (List (List Int)) s11522_1 g200_1]) hF11530
                    refine boolE (z := true) (ltLen hk) ?_
                    refine sq ?_
                    refine sq ?_
                    refine fld gok rfl rfl rfl rfl ?_
                    refine load1 (H.bx 4 rfl (j := 1) rfl) ?_
                    obtain ⟨a11537, e, hF11538⟩ := bindS hF11530; clear hF11530
                    replace H := H.sel [5, 0, 1, 2, 3, 4, 6, 7] rfl
                    replace H := H.toEH (α := List Int)
                    have HH := H; clear H; obtain ⟨p11535, m11536, h11539, c11531, c11532, c11533, c11534, H⟩ := HH.peekL e; clear HH
                    clear e
                    refine idxE c11531 c11532 c11533 ?_
                    refine load1 c11534 ?_; clear c11534
                    obtain ⟨a11546, e, hF11547⟩ := bindS hF11538; clear hF11538
                    obtain ⟨p11544, m11545, c11540, c11541, c11542, c11543⟩ := (H.rh (α := List Int) 0 rfl 0 rfl).at1 e; clear e
                    refine idxE c11540 c11541 c11542 ?_; clear c11540 c11541 c11542
                    refine load1 c11543 ?_; clear c11543
                    replace H := H.ofEH
                    obtain ⟨r11556, hF11558, hF11557⟩ := bindS hF11547; clear hF11547
                    refine cut (fun (q11559 : Bool) => [(0, (.int .i64 p_)), (3, (.pointer (some ⟨b3, 0, none⟩))), (4, (.pointer (some ⟨b6, 0, none⟩))), (5, (.pointer (some ⟨b9, 0, none⟩))), (8, (.pointer (some ⟨g200_2, 0, none⟩))), (9, (.pointer (some ⟨g200_3, 0, none⟩))), (10, (.int .i64 s9763_2)), (11, (.int .i64 y11278)), (12, (.int .i64 s9763_4)), (17, (.int .i64 ((k11319 : Nat) : Int))), (18, (.int .i64 a11546)), (133, (.int .i64 ((a11298.length : Nat) : Int))), (134, (.int .i64 ((k11319 : Nat) : Int))), (151, (.bool q11559))]) (fun (q11559 : Bool) w' => q11559 = r11556 ∧ Cx w0 fp0 S0 w' [Bx b3 [(.int .i64 m__0), (m__1h).v], Es (List (List Int)) m__1 m__1h, Bx b6 [(.int .i64 0), (.slice none 0 0)], Bx b9 [(.int .i64 0), (.slice none 0 0)], Bx g200_2 [(.int .i64 s199_0), (g200_0).v], E (List (List Int)) s11522_0 g200_0, Bx g200_3 [(.int .i64 s199_2), (g200_1).v], E (List (List Int)) s11522_1 g200_1]) ?_ ?_
                    · skip
                      obtain ⟨a11560, e, hF11561⟩ := bindS hF11558; clear hF11558
                      refine boolO e ?_; clear e
                      cases a11560
                      · have hF11562 := condF hF11561; clear hF11561
                        exact ⟨false, ⟨rfl, rfl, rfl, rfl, rfl, rfl, rfl, rfl, rfl, rfl, rfl, rfl, rfl, rfl, trivial⟩, Option.some.inj hF11562, H.sel [1, 2, 3, 4, 5, 0, 6, 7] rfl⟩
                      · have hF11563 := condT hF11561; clear hF11561
                        obtain ⟨a11564, e, hF11565⟩ := bindS hF11563; clear hF11563
                        refine boolO e ?_; clear e
                        exact ⟨a11564, ⟨rfl, rfl, rfl, rfl, rfl, rfl, rfl, rfl, rfl, rfl, rfl, rfl, rfl, rfl, trivial⟩, Option.some.inj hF11565, H.sel [1, 2, 3, 4, 5, 0, 6, 7] rfl⟩
                    · clear hF11558 H
                      rintro T11567 s11554 w11566 ⟨hr, (H : Cx w0 fp0 S0 w11566 [Bx b3 [(.int .i64 m__0), (m__1h).v], Es (List (List Int)) m__1 m__1h, Bx b6 [(.int .i64 0), (.slice none 0 0)], Bx b9 [(.int .i64 0), (.slice none 0 0)], Bx g200_2 [(.int .i64 s199_0), (g200_0).v], E (List (List Int)) s11522_0 g200_0, Bx g200_3 [(.int .i64 s199_2), (g200_1).v], E (List (List Int)) s11522_1 g200_1])⟩
                      subst hr
                      cases s11554
                      · have hF11568 := condF hF11557; clear hF11557
                        refine arK hk hmx11524 ?_
                        have hs := Option.some.inj hF11568; subst hs; clear hF11568
                        exact ⟨(), ⟨rfl, rfl, rfl, rfl, rfl, rfl, rfl, rfl, rfl, rfl, rfl, trivial⟩, H.sel [0, 1, 2, 3, 4, 5, 6, 7] rfl⟩
                      · have hF11569 := condT hF11557; clear hF11557
                        refine heldX H [12] (.fst 0 (.fst 1 (.fst 3 (.fst 6 (.fst 8 (.fst 11 (.fst 2 (.fst 4 (.fst 5 (.fst 7 (.fst 9 (.fst 10 (.act 12 .done))))))))))))) mixed [] trivial (by kernel_rfl) ?_
                        clear H; intro w11570 H
                        have hX : Ext w11570 w11570 := Upd.refl _ _
                        have H0 := H
                        refine anyH (fun _ => fld gok rfl rfl rfl rfl ⟨rfl, rfl⟩) ?_
                        refine anyH (fun _ => fld gok rfl rfl rfl rfl ⟨rfl, rfl⟩) ?_
                        refine load1X (H.bx 4 rfl (j := 1) rfl) ?_
                        obtain ⟨a11577, e, hF11578⟩ := bindS hF11569; clear hF11569
                        replace H := H.sel [5, 0, 1, 2, 3, 4, 6, 7] rfl
                        replace H := H.toEH (α := List Int)
                        have HH := H; clear H; obtain ⟨p11575, m11576, h11579, c11571, c11572, c11573, c11574, H⟩ := HH.peekL e; clear HH
                        clear e
                        refine idxE c11571 c11572 c11573 ?_
                        refine load1X c11574 ?_; clear c11574
                        refine load1X (H.bx 5 rfl (j := 1) rfl) ?_
                        obtain ⟨a11586, e, hF11587⟩ := bindS hF11578; clear hF11578
                        have HH := H; clear H; obtain ⟨p11584, m11585, h11588, c11580, c11581, c11582, c11583, H⟩ := HH.peekL e; clear HH
                        clear e
                        refine idxE c11580 c11581 c11582 ?_
                        refine load1X c11583 ?_; clear c11583
                        obtain ⟨y11589, e, hF11590⟩ := bindS hF11587; clear hF11587
                        have ey11589 := e; clear e
                        have kn11591 := H.kn 0 rfl 0 rfl
                        obtain ⟨u11594, en11593, hF11595⟩ := bindS hF11590; clear hF11590
                        have hm11592 : m11585 ≠ m11576 := fun q => neqO_some en11593 (by omega)
                        replace H := H.takeK 1 rfl
                        refine callF (spec_mxLess_c p_ a11577 h11579 a11586 h11588 a11546 y11589 ey11589) (Γi := [E (List Int) a11577 h11579]) H ⟨Vw.ex (α := List Int) (k := ⟨m11585, a11586, h11588⟩) 0 rfl kn11591 hm11592, trivial⟩ ?_; clear H ey11589
                        rintro _ _ w11597 ⟨rfl, rfl⟩ (H : Cx w0 fp0 S0 w11597 [E (List Int) y11589 h11579, EX (List Int) m11576 [(h11579).v] s11522_0 g200_0, Bx b3 [(.int .i64 m__0), (m__1h).v], Es (List (List Int)) m__1 m__1h, Bx b6 [(.int .i64 0), (.slice none 0 0)], Bx b9 [(.int .i64 0), (.slice none 0 0)], Bx g200_2 [(.int .i64 s199_0), (g200_0).v], Bx g200_3 [(.int .i64 s199_2), (g200_1).v], E (List (List Int)) s11522_1 g200_1])
                        obtain ⟨a11598, e, hF11599⟩ := bindS hF11595; clear hF11595
                        replace H := H.put c11572 e; clear e
                        refine hold trivial ?_
                        refine heldX H [12] (.fst 0 (.fst 1 (.fst 3 (.fst 6 (.fst 8 (.fst 11 (.fst 2 (.fst 4 (.fst 5 (.fst 7 (.fst 9 (.fst 10 (.act 12 .done))))))))))))) mixed [] trivial (by kernel_rfl) ?_
                        clear H; intro w11600 H
                        have hX : Ext w11600 w11600 := Upd.refl _ _
                        have H0 := H
                        refine anyH (fun _ => fld gok rfl rfl rfl rfl ⟨rfl, rfl⟩) ?_
                        refine anyH (fun _ => fld gok rfl rfl rfl rfl ⟨rfl, rfl⟩) ?_
                        refine load1X (H.bx 6 rfl (j := 1) rfl) ?_
                        obtain ⟨a11607, e, hF11608⟩ := bindS hF11599; clear hF11599
                        replace H := H.sel [7, 0, 1, 2, 3, 4, 5, 6] rfl
                        replace H := H.toEH (α := List Int)
                        have HH := H; clear H; obtain ⟨p11605, m11606, h11609, c11601, c11602, c11603, c11604, H⟩ := HH.peekL e; clear HH
                        clear e
                        refine idxE c11601 c11602 c11603 ?_
                        refine load1X c11604 ?_; clear c11604
                        refine load1X (H.bx 7 rfl (j := 1) rfl) ?_
                        obtain ⟨a11616, e, hF11617⟩ := bindS hF11608; clear hF11608
                        have HH := H; clear H; obtain ⟨p11614, m11615, h11618, c11610, c11611, c11612, c11613, H⟩ := HH.peekL e; clear HH
                        clear e
                        refine idxE c11610 c11611 c11612 ?_
                        refine load1X c11613 ?_; clear c11613
                        obtain ⟨y11619, e, hF11620⟩ := bindS hF11617; clear hF11617
                        have ey11619 := e; clear e
                        have kn11621 := H.kn 0 rfl 0 rfl
                        obtain ⟨u11624, en11623, hF11625⟩ := bindS hF11620; clear hF11620
                        have hm11622 : m11615 ≠ m11606 := fun q => neqO_some en11623 (by omega)
                        replace H := H.takeK 1 rfl
                        refine callF (spec_mxLess_c p_ a11607 h11609 a11616 h11618 a11546 y11619 ey11619) (Γi := [E (List Int) a11607 h11609]) H ⟨Vw.ex (α := List Int) (k := ⟨m11615, a11616, h11618⟩) 0 rfl kn11621 hm11622, trivial⟩ ?_; clear H ey11619
                        rintro _ _ w11627 ⟨rfl, rfl⟩ (H : Cx w0 fp0 S0 w11627 [E (List Int) y11619 h11609, EX (List Int) m11606 [(h11609).v] s11522_1 g200_1, E (List (List Int)) a11598 g200_0, Bx b3 [(.int .i64 m__0), (m__1h).v], Es (List (List Int)) m__1 m__1h, Bx b6 [(.int .i64 0), (.slice none 0 0)], Bx b9 [(.int .i64 0), (.slice none 0 0)], Bx g200_2 [(.int .i64 s199_0), (g200_0).v], Bx g200_3 [(.int .i64 s199_2), (g200_1).v]])
                        obtain ⟨a11628, e, hF11629⟩ := bindS hF11625; clear hF11625
                        replace H := H.put c11602 e; clear e
                        refine hold trivial ?_
                        refine arK hk hmx11524 ?_
                        have hs := Option.some.inj hF11629; subst hs; clear hF11629
                        exact ⟨(), ⟨rfl, rfl, rfl, rfl, rfl, rfl, rfl, rfl, rfl, rfl, rfl, trivial⟩, H.sel [2, 3, 4, 5, 6, 1, 7, 0] rfl⟩
                  · clear H e
                    obtain ⟨s11632_0, s11632_1⟩ := r11525
                    rintro T11631 _ w11630 (H : Cx w0 fp0 S0 w11630 [Bx b3 [(.int .i64 m__0), (m__1h).v], Es (List (List Int)) m__1 m__1h, Bx b6 [(.int .i64 0), (.slice none 0 0)], Bx b9 [(.int .i64 0), (.slice none 0 0)], Bx g200_2 [(.int .i64 s199_0), (g200_0).v], E (List (List Int)) s11632_0 g200_0, Bx g200_3 [(.int .i64 s199_2), (g200_1).v], E (List (List Int)) s11632_1 g200_1])
                    refine boolE (z := false) geLen ?_
                    refine sq ?_
                    obtain ⟨a11634, e, hF11635⟩ := bindS hF11526; clear hF11526
                    refine arO e ?_; clear e
                    exact ⟨(s11632_0, s11632_1, a11634, y11278), ⟨rfl, rfl, rfl, rfl, rfl, rfl, rfl, rfl, rfl, trivial⟩, Option.some.inj hF11635, H.sel [0, 1, 2, 3, 4, 5, 6, 7] rfl⟩
              · have hF11636 := condT hF11095; clear hF11095
                exact ⟨(s9763_0, s9763_1, s9763_2, s9763_3), ⟨rfl, rfl, rfl, rfl, rfl, rfl, rfl, rfl, rfl, trivial⟩, Option.some.inj hF11636, H.sel [0, 1, 2, 3, 4, 5, 6, 7] rfl⟩
          · clear hF10708 H
            rintro T11638 ⟨s10704_0, s10704_1, s10704_2, s10704_3⟩ w11637 ⟨hr, (H : Cx w0 fp0 S0 w11637 [Bx b3 [(.int .i64 m__0), (m__1h).v], Es (List (List Int)) m__1 m__1h, Bx b6 [(.int .i64 0), (.slice none 0 0)], Bx b9 [(.int .i64 0), (.slice none 0 0)], Bx g200_2 [(.int .i64 s199_0), (g200_0).v], E (List (List Int)) s10704_0 g200_0, Bx g200_3 [(.int .i64 s199_2), (g200_1).v], E (List (List Int)) s10704_1 g200_1])⟩
            subst hr
            obtain ⟨a11639, e, hF11640⟩ := bindS hF10707; clear hF10707
            refine arO e ?_; clear e
            have hs := Option.some.inj hF11640; subst hs; clear hF11640
            exact ⟨(s10704_0, s10704_1, s10704_2, s10704_3, a11639), (), rfl, ⟨rfl, rfl, rfl, rfl, rfl, rfl, rfl, rfl, rfl, trivial⟩, H.sel [0, 1, 2, 3, 4, 5, 6, 7] rfl⟩
    · clear hF6021 H
      rintro T11642 ⟨s6017_0, s6017_1, s6017_2, s6017_3⟩ w11641 ⟨hr, (H : Cx w0 fp0 S0 w11641 [Bx b6 [(.int .i64 0), (.slice none 0 0)], Bx b9 [(.int .i64 0), (.slice none 0 0)], Bx g200_2 [(.int .i64 s199_0), (g200_0).v], E (List (List Int)) s6017_0 g200_0, Bx g200_3 [(.int .i64 s199_2), (g200_1).v], E (List (List Int)) s6017_1 g200_1])⟩
      subst hr
      refine heldX H [4, 5, 6, 7, 1, 2, 3] (.pure 1 (.pure 2 (.pure 3 (.fst 0 (.act 4 (.act 5 (.act 6 (.act 7 .done)))))))) mixed [((Addr.add ⟨g200_3, 0, none⟩ 0), (.int .i64 s199_2)), ((Addr.add ⟨g200_3, 0, none⟩ 1), (g200_1).v)] ⟨H.bx 4 rfl (j := 0) rfl, H.bx 4 rfl (j := 1) rfl, trivial⟩ (by kernel_rfl) ?_
      clear H; intro w11643 H
      have hX : Ext w11643 w11643 := Upd.refl _ _
      have H0 := H
      refine loadNW 0 [(.int .i64 s199_2), (g200_1).v] rfl ⟨rfl, rfl, trivial⟩ ?_
      refine loadNX [(.int .i64 s199_0), (g200_0).v] rfl (fun j u hj => H.bx 2 rfl hj) ?_
      refine stA gok [(.int .i64 s199_0), (g200_0).v] rfl H rfl rfl rfl ?_; clear H; intro w11644 H
      replace H : Cx w0 fp0 S0 w11644 [Bx b6 [(.int .i64 s199_0), (g200_0).v], Bx b9 [(.int .i64 0), (.slice none 0 0)], Bx g200_2 [(.int .i64 s199_0), (g200_0).v], E (List (List Int)) s6017_0 g200_0, Bx g200_3 [(.int .i64 s199_2), (g200_1).v], E (List (List Int)) s6017_1 g200_1] := H
      refine hold ⟨H.bx 4 rfl (j := 0) rfl, H.bx 4 rfl (j := 1) rfl, trivial⟩ ?_
      replace H := H.sel [1, 0, 2, 3, 4, 5] rfl
      refine stA gok [(.int .i64 s199_2), (g200_1).v] rfl H rfl rfl rfl ?_; clear H; intro w11645 H
      replace H : Cx w0 fp0 S0 w11645 [Bx b9 [(.int .i64 s199_2), (g200_1).v], Bx b6 [(.int .i64 s199_0), (g200_0).v], Bx g200_2 [(.int .i64 s199_0), (g200_0).v], E (List (List Int)) s6017_0 g200_0, Bx g200_3 [(.int .i64 s199_2), (g200_1).v], E (List (List Int)) s6017_1 g200_1] := H
      refine hold ⟨H.bx 4 rfl (j := 0) rfl, H.bx 4 rfl (j := 1) rfl, trivial⟩ ?_
      refine hold ⟨H.bx 4 rfl (j := 0) rfl, H.bx 4 rfl (j := 1) rfl, trivial⟩ ?_
      refine hold ⟨H.bx 4 rfl (j := 0) rfl, H.bx 4 rfl (j := 1) rfl, trivial⟩ ?_
      refine loadN [(.int .i64 s199_0), (g200_0).v] rfl (fun j u hj => H.bx 1 rfl hj) ?_
      refine loadN [(.int .i64 s199_2), (g200_1).v] rfl (fun j u hj => H.bx 0 rfl hj) ?_
      cases hF6020
      exact ⟨_, _, rfl, ⟨g200_0, g200_1, rfl, rfl⟩, (H.sel [3, 5] rfl).close ⟨cloE, cloE, trivial⟩⟩

theorem spec_spLead_c (v_ : List Int) (v_h : Hd) (y : Int) (hF : F_spec_spLead v_ = some y) :
    ConF Tryd.prog 88 #[(v_h).v] [Es (List Int) v_ v_h] [] (fun v Γ' => v = (.int .i64 y) ∧ Γ' = []) := by
  intro w0 S0 fp0 hI hS
  have H : Cx w0 fp0 S0 w0 [Es (List Int) v_ v_h] := Cx.start hI hS
  clear hI hS
  refine enterC (args := [_]) gok Tryd.func88 rfl _ rfl rfl rfl ?_
  obtain ⟨r138, hF140, hF139⟩ := bindS hF; clear hF
  refine cut (fun (q141 : Int) => [(3, (.int .i64 q141))]) (fun (q141 : Int) w' => q141 = r138 ∧ Cx w0 fp0 S0 w' []) ?_ ?_
  · skip
    refine loopW _ (fun (s226 : Int) (_ : Unit) => [(0, (v_h).v), (3, (.int .i64 s226))]) (fun (s226 : Int) (_ : Unit) w' => Cx w0 fp0 S0 w' [Es (List Int) v_ v_h]) 0 () hF140 ⟨rfl, rfl, trivial⟩ (H.sel [0] rfl) ?_
    · clear H
      rintro T232 s226 _ w231 o233 (H : Cx w0 fp0 S0 w231 [Es (List Int) v_ v_h]) hrt hF234
      refine sq ?_
      obtain ⟨r251, hF253, hF252⟩ := bindS hF234; clear hF234
      refine cut (fun (q254 : Bool) => [(0, (v_h).v), (3, (.int .i64 s226)), (14, (.bool q254))]) (fun (q254 : Bool) w' => q254 = r251 ∧ Cx w0 fp0 S0 w' [Es (List Int) v_ v_h]) ?_ ?_
      · skip
        refine lenE (H.rs (α := List Int) 0 rfl).len ?_
        obtain ⟨a255, e, hF256⟩ := bindS hF253; clear hF253
        refine boolO e ?_; clear e
        cases a255
        · have hF257 := condF hF256; clear hF256
          exact ⟨false, ⟨rfl, rfl, rfl, trivial⟩, Option.some.inj hF257, H.sel [0] rfl⟩
        · have hF258 := condT hF256; clear hF256
          obtain ⟨a265, e, hF266⟩ := bindS hF258; clear hF258
          obtain ⟨p263, m264, c259, c260, c261, c262⟩ := (H.rs (α := List Int) 0 rfl).at1 e; clear e
          refine idxE c259 c260 c261 ?_; clear c259 c260 c261
          refine load1 c262 ?_; clear c262
          obtain ⟨a267, e, hF268⟩ := bindS hF266; clear hF266
          refine boolO e ?_; clear e
          exact ⟨a267, ⟨rfl, rfl, rfl, trivial⟩, Option.some.inj hF268, H.sel [0] rfl⟩
      · clear hF253 H
        rintro T270 s249 w269 ⟨hr, (H : Cx w0 fp0 S0 w269 [Es (List Int) v_ v_h])⟩
        subst hr
        cases s249
        · have hF271 := condF hF252; clear hF252
          have hs := Option.some.inj hF271; subst hs; clear hF271
          have hF272 : some _ = some _ := congrArg some (hrt _ rfl).symm
          exact ⟨s226, ⟨rfl, trivial⟩, Option.some.inj hF272, H.sel [] rfl⟩
        · have hF273 := condT hF252; clear hF252
          obtain ⟨a274, e, hF275⟩ := bindS hF273; clear hF273
          refine arO e ?_; clear e
          have hs := Option.some.inj hF275; subst hs; clear hF275
          exact ⟨a274, (), rfl, ⟨rfl, rfl, trivial⟩, H.sel [0] rfl⟩
  · clear hF140 H
    rintro T277 s136 w276 ⟨hr, (H : Cx w0 fp0 S0 w276 [])⟩
    subst hr
    cases hF139
    exact ⟨_, _, rfl, ⟨rfl, rfl⟩, (H.sel [] rfl).close trivial⟩

theorem spec_mxSolve_c (p_ : Int) (m__0 : Int) (m__1 : List (List Int)) (m__1h : Hd) (b_ : List Int) (b_h : Hd) (y0 : List Int) (y1 : Bool) (hF : F_spec_mxSolve p_ (m__0, m__1) b_ = some (y0, y1)) :
    ConF Tryd.prog 107 #[(.int .i64 p_), (.agg #[(.int .i64 m__0), (m__1h).v]), (b_h).v] [Es (List (List Int)) m__1 m__1h, Es (List Int) b_ b_h] [] (fun v Γ' => ∃ z0 : Hd, v = (.tuple #[(z0).v, (.bool y1)]) ∧ Γ' = [E (List Int) y0 z0]) := by
  intro w0 S0 fp0 hI hS
  have H : Cx w0 fp0 S0 w0 [Es (List (List Int)) m__1 m__1h, Es (List Int) b_ b_h] := Cx.start hI hS
  clear hI hS
  refine enterC (args := [_, _, _]) gok Tryd.func107 rfl _ rfl rfl rfl ?_
  refine box_ H ?_; clear H; intro b4 w3 hx H
  clear hx
  replace H : Cx w0 fp0 S0 w3 [Bx b4 [(.int .i64 m__0), (m__1h).v], Es (List (List Int)) m__1 m__1h, Es (List Int) b_ b_h] := H
  refine loadN [(.int .i64 m__0), (m__1h).v] rfl (fun j u hj => H.bx 0 rfl hj) ?_
  obtain ⟨y6, e, hF7⟩ := bindS hF; clear hF
  obtain ⟨⟨y6_0_0, y6_0_1⟩, ⟨y6_1_0, y6_1_1⟩, y6_2, y6_3⟩ := y6
  have ey6 := e; clear e
  refine callF (spec_mxReduce_c p_ m__0 m__1 m__1h y6_0_0 y6_0_1 y6_1_0 y6_1_1 y6_2 y6_3 ey6) (Γi := []) H ⟨Vw.sh 1 rfl, trivial⟩ ?_; clear H ey6
  rintro _ _ w8 ⟨h9, h11, rfl, rfl⟩ (H : Cx w0 fp0 S0 w8 [E (List (List Int)) y6_0_1 h9, E (List (List Int)) y6_1_1 h11, Bx b4 [(.int .i64 m__0), (m__1h).v], Es (List (List Int)) m__1 m__1h, Es (List Int) b_ b_h])
  refine alloc_ gok rfl H ?_; clear H; intro b14 w13 hx H
  clear hx
  replace H : Cx w0 fp0 S0 w13 [Bx b14 [(.int .i64 0), (.slice none 0 0)], E (List (List Int)) y6_0_1 h9, E (List (List Int)) y6_1_1 h11, Bx b4 [(.int .i64 m__0), (m__1h).v], Es (List (List Int)) m__1 m__1h, Es (List Int) b_ b_h] := H
  refine alloc_ gok rfl H ?_; clear H; intro b17 w16 hx H
  clear hx
  replace H : Cx w0 fp0 S0 w16 [Bx b17 [(.int .i64 0), (.slice none 0 0)], Bx b14 [(.int .i64 0), (.slice none 0 0)], E (List (List Int)) y6_0_1 h9, E (List (List Int)) y6_1_1 h11, Bx b4 [(.int .i64 m__0), (m__1h).v], Es (List (List Int)) m__1 m__1h, Es (List Int) b_ b_h] := H
  replace H := H.sel [1, 0, 2, 3, 4, 5, 6] rfl
  refine stA gok [(.int .i64 y6_0_0), (h9).v] rfl H rfl rfl rfl ?_; clear H; intro w19 H
  replace H : Cx w0 fp0 S0 w19 [Bx b14 [(.int .i64 y6_0_0), (h9).v], Bx b17 [(.int .i64 0), (.slice none 0 0)], E (List (List Int)) y6_0_1 h9, E (List (List Int)) y6_1_1 h11, Bx b4 [(.int .i64 m__0), (m__1h).v], Es (List (List Int)) m__1 m__1h, Es (List Int) b_ b_h] := H
  replace H := H.sel [1, 0, 2, 3, 4, 5, 6] rfl
  refine stA gok [(.int .i64 y6_1_0), (h11).v] rfl H rfl rfl rfl ?_; clear H; intro w20 H
  replace H : Cx w0 fp0 S0 w20 [Bx b17 [(.int .i64 y6_1_0), (h11).v], Bx b14 [(.int .i64 y6_0_0), (h9).v], E (List (List Int)) y6_0_1 h9, E (List (List Int)) y6_1_1 h11, Bx b4 [(.int .i64 m__0), (m__1h).v], Es (List (List Int)) m__1 m__1h, Es (List Int) b_ b_h] := H
  obtain ⟨r58, hF60, hF59⟩ := bindS hF7; clear hF7
  refine heldJ H [] (.fst 0 (.fst 4 (.fst 1 (.fst 2 (.alts (.alt 3 (.act 5 (.fst 6 (.fst 7 .done))) (.alt 5 (.act 3 (.fst 6 (.fst 7 .done))) .no))))))) mixed [] trivial (by kernel_rfl) (fun (q61 : (List Int × List Int) × (Hd × Hd)) => [(0, (.int .i64 p_)), (8, (.pointer (some ⟨b14, 0, none⟩))), (9, (.pointer (some ⟨b17, 0, none⟩))), (10, (.int .i64 y6_2)), (12, (q61.2.1).v), (13, (q61.2.2).v)]) (fun (q61 : (List Int × List Int) × (Hd × Hd)) w' => (q61.1.1, q61.1.2) = r58 ∧ Cx w0 fp0 S0 w' [Bx b14 [(.int .i64 y6_0_0), (h9).v], E (List (List Int)) y6_0_1 h9, Bx b17 [(.int .i64 y6_1_0), (h11).v], E (List (List Int)) y6_1_1 h11, E (List Int) q61.1.1 q61.2.1, E (List Int) q61.1.2 q61.2.2]) ?_ ?_
  · skip
    clear H; intro w62 H
    have hX : Ext w62 w62 := Upd.refl _ _
    have H0 := H
    refine anyH (fun _ => fld gok rfl rfl rfl rfl ⟨rfl, rfl⟩) ?_
    refine load1X (H.bx 4 rfl (j := 1) rfl) ?_
    refine lenE (H.rs (α := List (List Int)) 5 rfl).len ?_
    refine both ?_ ?_
    · skip
      obtain ⟨a73, e, hF74⟩ := bindS hF60; clear hF60
      refine make_ (α := Int) gok rfl rfl rfl rfl (makeCO_of e) H ?_; clear e H; intro h76 w75 hx H
      replace hX := hX.trans0 hx; clear hx
      refine hold hX ?_
      obtain ⟨y78, e, hF79⟩ := bindS hF74; clear hF74
      have ey78 := e; clear e
      refine callFx (spec_l1Own_c b_ b_h y78 ey78) H ⟨Vw.sh 7 rfl, trivial⟩ ?_; clear H ey78
      rintro _ _ w80 ⟨h81, rfl, rfl⟩ hx (H : Cx w0 fp0 S0 w80 [E (List Int) y78 h81, E (List Int) a73 h76, Bx b17 [(.int .i64 y6_1_0), (h11).v], Bx b14 [(.int .i64 y6_0_0), (h9).v], E (List (List Int)) y6_0_1 h9, E (List (List Int)) y6_1_1 h11, Bx b4 [(.int .i64 m__0), (m__1h).v], Es (List (List Int)) m__1 m__1h, Es (List Int) b_ b_h])
      replace hX := hX.trans0 hx; clear hx
      refine hold hX ?_
      exact ⟨((a73, y78), (h76, h81)), ⟨rfl, rfl, rfl, rfl, rfl, rfl, trivial⟩, Option.some.inj hF79, H.sel [3, 4, 2, 5, 1, 0] rfl⟩
    · skip
      refine both ?_ ?_
      · skip
        obtain ⟨a83, eq84, hF85⟩ := bindS hF60; clear hF60
        obtain ⟨a86, eq87, hF88⟩ := bindS hF85; clear hF85
        have e := eq87; clear eq87
        have ea86 := e; clear e
        refine callFx (spec_l1Own_c b_ b_h a86 ea86) H ⟨Vw.sh 6 rfl, trivial⟩ ?_; clear H ea86
        rintro _ _ w89 ⟨h90, rfl, rfl⟩ hx (H : Cx w0 fp0 S0 w89 [E (List Int) a86 h90, Bx b17 [(.int .i64 y6_1_0), (h11).v], Bx b14 [(.int .i64 y6_0_0), (h9).v], E (List (List Int)) y6_0_1 h9, E (List (List Int)) y6_1_1 h11, Bx b4 [(.int .i64 m__0), (m__1h).v], Es (List (List Int)) m__1 m__1h, Es (List Int) b_ b_h])
        replace hX := hX.trans0 hx; clear hx
        refine hold hX ?_
        have e := eq84; clear eq84
        refine make_ (α := Int) gok rfl rfl rfl rfl (makeCO_of e) H ?_; clear e H; intro h93 w92 hx H
        replace hX := hX.trans0 hx; clear hx
        refine hold hX ?_
        exact ⟨((a83, a86), (h93, h90)), ⟨rfl, rfl, rfl, rfl, rfl, rfl, trivial⟩, Option.some.inj hF88, H.sel [3, 4, 2, 5, 0, 1] rfl⟩
      · skip
        exact trivial
  · clear hF60 H
    rintro T96 ⟨⟨s54_0, s54_1⟩, ⟨g55_0, g55_1⟩⟩ w95 ⟨hr, (H : Cx w0 fp0 S0 w95 [Bx b14 [(.int .i64 y6_0_0), (h9).v], E (List (List Int)) y6_0_1 h9, Bx b17 [(.int .i64 y6_1_0), (h11).v], E (List (List Int)) y6_1_1 h11, E (List Int) s54_0 g55_0, E (List Int) s54_1 g55_1])⟩
    subst hr
    obtain ⟨r275, hF277, hF276⟩ := bindS hF59; clear hF59
    refine cut (fun (q278 : List Int × List Int) => [(12, (g55_0).v), (13, (g55_1).v)]) (fun (q278 : List Int × List Int) w' => (q278.1, q278.2) = r275 ∧ Cx w0 fp0 S0 w' [E (List Int) q278.1 g55_0, E (List Int) q278.2 g55_1]) ?_ ?_
    · skip
      refine loopW _ (fun (s391 : List Int × List Int × Int) (_ : Unit) => [(0, (.int .i64 p_)), (8, (.pointer (some ⟨b14, 0, none⟩))), (9, (.pointer (some ⟨b17, 0, none⟩))), (10, (.int .i64 y6_2)), (12, (g55_0).v), (13, (g55_1).v), (14, (.int .i64 s391.2.2))]) (fun (s391 : List Int × List Int × Int) (_ : Unit) w' => Cx w0 fp0 S0 w' [Bx b14 [(.int .i64 y6_0_0), (h9).v], E (List (List Int)) y6_0_1 h9, Bx b17 [(.int .i64 y6_1_0), (h11).v], E (List (List Int)) y6_1_1 h11, E (List Int) s391.1 g55_0, E (List Int) s391.2.1 g55_1]) (s54_0, s54_1, 0) () hF277 ⟨rfl, rfl, rfl, rfl, rfl, rfl, rfl, trivial⟩ (H.sel [0, 1, 2, 3, 4, 5] rfl) ?_
      · clear H
        rintro T397 ⟨s391_0, s391_1, s391_2⟩ _ w396 o398 (H : Cx w0 fp0 S0 w396 [Bx b14 [(.int .i64 y6_0_0), (h9).v], E (List (List Int)) y6_0_1 h9, Bx b17 [(.int .i64 y6_1_0), (h11).v], E (List (List Int)) y6_1_1 h11, E (List Int) s391_0 g55_0, E (List Int) s391_1 g55_1]) hrt hF399
        refine sq ?_
        obtain ⟨a400, e, hF401⟩ := bindS hF399; clear hF399
        refine boolO e ?_; clear e
        cases a400
        · have hF402 := condF hF401; clear hF401
          have hs := Option.some.inj hF402; subst hs; clear hF402
          have hF403 : some _ = some _ := congrArg some (hrt _ rfl).symm
          exact ⟨(s391_0, s391_1), ⟨rfl, rfl, trivial⟩, Option.some.inj hF403, H.sel [4, 5] rfl⟩
        · have hF404 := condT hF401; clear hF401
          refine sq ?_
          refine fld gok rfl rfl rfl rfl ?_
          refine load1 (H.bx 0 rfl (j := 1) rfl) ?_
          obtain ⟨a411, e, hF412⟩ := bindS hF404; clear hF404
          replace H := H.sel [1, 0, 2, 3, 4, 5] rfl
          replace H := H.toEH (α := List Int)
          have HH := H; clear H; obtain ⟨p409, m410, h413, c405, c406, c407, c408, H⟩ := HH.peekL e; clear HH
          clear e
          refine idxE c405 c406 c407 ?_
          refine load1 c408 ?_; clear c408
          obtain ⟨y414, e, hF415⟩ := bindS hF412; clear hF412
          have ey414 := e; clear e
          refine callF (spec_spLead_c a411 h413 y414 ey414) (Γi := []) H ⟨Vw.eh (α := List Int) (k := ⟨m410, a411, h413⟩) 0 rfl 0 rfl, trivial⟩ ?_; clear H ey414
          rintro _ _ w416 ⟨rfl, rfl⟩ (H : Cx w0 fp0 S0 w416 [EH (List Int) y6_0_1 h9 [⟨m410, a411, h413⟩], Bx b14 [(.int .i64 y6_0_0), (h9).v], Bx b17 [(.int .i64 y6_1_0), (h11).v], E (List (List Int)) y6_1_1 h11, E (List Int) s391_0 g55_0, E (List Int) s391_1 g55_1])
          obtain ⟨a423, e, hF424⟩ := bindS hF415; clear hF415
          obtain ⟨p421, m422, c417, c418, c419, c420⟩ := (H.ro (α := List Int) 5 rfl).at1 e; clear e
          refine idxE c417 c418 c419 ?_; clear c417 c418 c419
          refine load1 c420 ?_; clear c420
          replace H := H.ofEH
          refine fld gok rfl rfl rfl rfl ?_
          refine load1 (H.bx 1 rfl (j := 1) rfl) ?_
          obtain ⟨a431, e, hF432⟩ := bindS hF424; clear hF424
          replace H := H.toEH (α := List Int)
          have HH := H; clear H; obtain ⟨p429, m430, h433, c425, c426, c427, c428, H⟩ := HH.peekL e; clear HH
          clear e
          refine idxE c425 c426 c427 ?_
          refine load1 c428 ?_; clear c428
          obtain ⟨y434, e, hF435⟩ := bindS hF432; clear hF432
          have ey434 := e; clear e
          replace H := H.sel [5, 0, 1, 2, 3, 4] rfl
          refine callF (spec_mxLess_c p_ s391_1 g55_1 a431 h433 a423 y434 ey434) (Γi := [E (List Int) s391_1 g55_1]) H ⟨Vw.eh (α := List Int) (k := ⟨m430, a431, h433⟩) 0 rfl 0 rfl, trivial⟩ ?_; clear H ey434
          rintro _ _ w436 ⟨rfl, rfl⟩ (H : Cx w0 fp0 S0 w436 [E (List Int) y434 g55_1, EH (List Int) y6_0_1 h9 [⟨m430, a431, h433⟩], Bx b14 [(.int .i64 y6_0_0), (h9).v], Bx b17 [(.int .i64 y6_1_0), (h11).v], E (List (List Int)) y6_1_1 h11, E (List Int) s391_0 g55_0])
          replace H := H.sel [1, 0, 2, 3, 4, 5] rfl
          replace H := H.ofEH
          refine heldX H [10] (.fst 0 (.fst 1 (.fst 2 (.fst 4 (.fst 7 (.fst 8 (.fst 3 (.fst 5 (.fst 6 (.act 9 (.act 10 .done))))))))))) mixed [] trivial (by kernel_rfl) ?_
          clear H; intro w437 H
          have hX : Ext w437 w437 := Upd.refl _ _
          have H0 := H
          refine anyH (fun _ => fld gok rfl rfl rfl rfl ⟨rfl, rfl⟩) ?_
          refine load1X (H.bx 3 rfl (j := 1) rfl) ?_
          obtain ⟨a444, e, hF445⟩ := bindS hF435; clear hF435
          replace H := H.sel [4, 0, 1, 2, 3, 5] rfl
          replace H := H.toEH (α := List Int)
          have HH := H; clear H; obtain ⟨p442, m443, h446, c438, c439, c440, c441, H⟩ := HH.peekL e; clear HH
          clear e
          refine idxE c438 c439 c440 ?_
          refine load1X c441 ?_; clear c441
          obtain ⟨y447, e, hF448⟩ := bindS hF445; clear hF445
          have ey447 := e; clear e
          refine callFx (spec_fdNeg_c p_ a423 y447 ey447) H trivial ?_; clear H ey447
          rintro _ _ w449 ⟨rfl, rfl⟩ hx (H : Cx w0 fp0 S0 w449 [EH (List Int) y6_1_1 h11 [⟨m443, a444, h446⟩], E (List (List Int)) y6_0_1 h9, E (List Int) y434 g55_1, Bx b14 [(.int .i64 y6_0_0), (h9).v], Bx b17 [(.int .i64 y6_1_0), (h11).v], E (List Int) s391_0 g55_0])
          replace hX := hX.trans0 hx; clear hx
          refine hold hX ?_
          obtain ⟨y450, e, hF451⟩ := bindS hF448; clear hF448
          have ey450 := e; clear e
          replace H := H.sel [5, 0, 1, 2, 3, 4] rfl
          refine callF (spec_mxLess_c p_ s391_0 g55_0 a444 h446 y447 y450 ey450) (Γi := [E (List Int) s391_0 g55_0]) H ⟨Vw.eh (α := List Int) (k := ⟨m443, a444, h446⟩) 0 rfl 0 rfl, trivial⟩ ?_; clear H ey450
          rintro _ _ w452 ⟨rfl, rfl⟩ (H : Cx w0 fp0 S0 w452 [E (List Int) y450 g55_0, EH (List Int) y6_1_1 h11 [⟨m443, a444, h446⟩], E (List (List Int)) y6_0_1 h9, E (List Int) y434 g55_1, Bx b14 [(.int .i64 y6_0_0), (h9).v], Bx b17 [(.int .i64 y6_1_0), (h11).v]])
          refine hold trivial ?_
          replace H := H.sel [1, 0, 2, 3, 4, 5] rfl
          replace H := H.ofEH
          obtain ⟨a453, e, hF454⟩ := bindS hF451; clear hF451
          refine arO e ?_; clear e
          have hs := Option.some.inj hF454; subst hs; clear hF454
          exact ⟨(y450, y434, a453), (), rfl, ⟨rfl, rfl, rfl, rfl, rfl, rfl, rfl, trivial⟩, H.sel [4, 2, 5, 0, 1, 3] rfl⟩
    · clear hF277 H
      rintro T456 ⟨s273_0, s273_1⟩ w455 ⟨hr, (H : Cx w0 fp0 S0 w455 [E (List Int) s273_0 g55_0, E (List Int) s273_1 g55_1])⟩
      subst hr
      obtain ⟨y457, e, hF458⟩ := bindS hF276; clear hF276
      have ey457 := e; clear e
      refine callF (spec_l1All_c s273_1 g55_1 0 0 y457 ey457) (Γi := []) H ⟨Vw.own 1 rfl, trivial⟩ ?_; clear H ey457
      rintro _ _ w459 ⟨rfl, rfl⟩ (H : Cx w0 fp0 S0 w459 [E (List Int) s273_0 g55_0, E (List Int) s273_1 g55_1])
      cases hF458
      exact ⟨_, _, rfl, ⟨g55_0, rfl, rfl⟩, (H.sel [0] rfl).close ⟨cloE, trivial⟩⟩

theorem spec_mxTurn_c (m__0 : Int) (m__1 : List (List Int)) (m__1h : Hd) (y_0 : Int) (y_1 : List (List Int)) (hF : F_spec_mxTurn (m__0, m__1) = some (y_0, y_1)) :
    ConF Tryd.prog 141 #[(.agg #[(.int .i64 m__0), (m__1h).v])] [Es (List (List Int)) m__1 m__1h] [] (fun v Γ' => ∃ z0 : Hd, v = (.agg #[(.int .i64 y_0), (z0).v]) ∧ Γ' = [E (List (List Int)) y_1 z0]) := by
  intro w0 S0 fp0 hI hS
  have H : Cx w0 fp0 S0 w0 [Es (List (List Int)) m__1 m__1h] := Cx.start hI hS
  clear hI hS
  refine enterC (args := [_]) gok Tryd.func141 rfl _ rfl rfl rfl ?_
  refine box_ H ?_; clear H; intro b3 w2 hx H
  clear hx
  replace H : Cx w0 fp0 S0 w2 [Bx b3 [(.int .i64 m__0), (m__1h).v], Es (List (List Int)) m__1 m__1h] := H
  refine alloc_ gok rfl H ?_; clear H; intro b6 w5 hx H
  clear hx
  replace H : Cx w0 fp0 S0 w5 [Bx b6 [(.int .i64 0), (.slice none 0 0)], Bx b3 [(.int .i64 m__0), (m__1h).v], Es (List (List Int)) m__1 m__1h] := H
  refine fld gok rfl rfl rfl rfl ?_
  refine load1 (H.bx 1 rfl (j := 0) rfl) ?_
  refine fld gok rfl rfl rfl rfl ?_
  refine load1 (H.bx 1 rfl (j := 1) rfl) ?_
  refine lenE (H.rs (α := List (List Int)) 2 rfl).len ?_
  obtain ⟨y8, e, hF9⟩ := bindS hF; clear hF
  obtain ⟨y8_0, y8_1⟩ := y8
  have ey8 := e; clear e
  refine callF (spec_mxZero_c m__0 ((m__1.length : Nat) : Int) y8_0 y8_1 ey8) (Γi := []) H trivial ?_; clear H ey8
  rintro _ _ w10 ⟨h11, rfl, rfl⟩ (H : Cx w0 fp0 S0 w10 [E (List (List Int)) y8_1 h11, Bx b6 [(.int .i64 0), (.slice none 0 0)], Bx b3 [(.int .i64 m__0), (m__1h).v], Es (List (List Int)) m__1 m__1h])
  refine alloc_ gok rfl H ?_; clear H; intro b14 w13 hx H
  clear hx
  replace H : Cx w0 fp0 S0 w13 [Bx b14 [(.int .i64 0), (.slice none 0 0)], E (List (List Int)) y8_1 h11, Bx b6 [(.int .i64 0), (.slice none 0 0)], Bx b3 [(.int .i64 m__0), (m__1h).v], Es (List (List Int)) m__1 m__1h] := H
  refine stA gok [(.int .i64 y8_0), (h11).v] rfl H rfl rfl rfl ?_; clear H; intro w16 H
  replace H : Cx w0 fp0 S0 w16 [Bx b14 [(.int .i64 y8_0), (h11).v], E (List (List Int)) y8_1 h11, Bx b6 [(.int .i64 0), (.slice none 0 0)], Bx b3 [(.int .i64 m__0), (m__1h).v], Es (List (List Int)) m__1 m__1h] := H
  refine sq ?_
  refine fld gok rfl rfl rfl rfl ?_
  refine load1 (H.bx 3 rfl (j := 1) rfl) ?_
  refine lenE (H.rs (α := List (List Int)) 4 rfl).len ?_
  have hmx254 := (H.rs (α := List (List Int)) 4 rfl).max
  obtain ⟨r255, e, hF256⟩ := bindS hF9; clear hF9
  refine loopS _ m__1.length (fun (k17 : Nat) (s252 : List (List Int)) (_ : Unit) => [(2, (.pointer (some ⟨b6, 0, none⟩))), (3, (.pointer (some ⟨b14, 0, none⟩))), (15, (m__1h).v), (16, (.int .i64 ((m__1.length : Nat) : Int))), (17, (.int .i64 ((k17 : Nat) : Int)))]) (fun _ (s252 : List (List Int)) (_ : Unit) w' => Cx w0 fp0 S0 w' [Bx b6 [(.int .i64 0), (.slice none 0 0)], Bx b14 [(.int .i64 y8_0), (h11).v], E (List (List Int)) s252 h11, Es (List (List Int)) m__1 m__1h]) y8_1 () e ⟨rfl, rfl, rfl, rfl, rfl, trivial⟩ (H.sel [2, 0, 1, 4] rfl) ?_ ?_
  · clear H e
    rintro T258 k17 s252 _ w257 o259 hk (H : Cx w0 fp0 S0 w257 [Bx b6 [(.int .i64 0), (.slice none 0 0)], Bx b14 [(.int .i64 y8_0), (h11).v], E (List (List Int)) s252 h11, Es (List (List Int)) m__1 m__1h]) hF260
    refine boolE (z := true) (ltLen hk) ?_
    refine sq ?_
    refine sq ?_
    obtain ⟨a267, e, hF268⟩ := bindS hF260; clear hF260
    have HH := H; clear H; obtain ⟨p265, m266, h269, c261, c262, c263, c264, H⟩ := HH.elL 3 rfl e; clear HH
    clear e
    refine idxE c261 c262 c263 ?_; clear c261 c262 c263
    refine load1 c264 ?_; clear c264
    refine lenE (H.rs (α := List Int) 0 rfl).len ?_
    have hmx336 := (H.rs (α := List Int) 0 rfl).max
    obtain ⟨r337, e, hF338⟩ := bindS hF268; clear hF268
    refine loopS _ a267.length (fun (k271 : Nat) (s334 : List (List Int)) (_ : Unit) => [(2, (.pointer (some ⟨b6, 0, none⟩))), (3, (.pointer (some ⟨b14, 0, none⟩))), (4, (.int .i64 ((k17 : Nat) : Int))), (15, (m__1h).v), (16, (.int .i64 ((m__1.length : Nat) : Int))), (17, (.int .i64 ((k17 : Nat) : Int))), (22, (h269).v), (23, (.int .i64 ((a267.length : Nat) : Int))), (24, (.int .i64 ((k271 : Nat) : Int)))]) (fun _ (s334 : List (List Int)) (_ : Unit) w' => Cx w0 fp0 S0 w' [Bx b6 [(.int .i64 0), (.slice none 0 0)], Bx b14 [(.int .i64 y8_0), (h11).v], E (List (List Int)) s334 h11, Es (List (List Int)) m__1 m__1h, Es (List Int) a267 h269]) s252 () e ⟨rfl, rfl, rfl, rfl, rfl, rfl, rfl, rfl, rfl, trivial⟩ (H.sel [1, 2, 3, 4, 0] rfl) ?_ ?_
    · clear H e
      rintro T340 k271 s334 _ w339 o341 hk (H : Cx w0 fp0 S0 w339 [Bx b6 [(.int .i64 0), (.slice none 0 0)], Bx b14 [(.int .i64 y8_0), (h11).v], E (List (List Int)) s334 h11, Es (List (List Int)) m__1 m__1h, Es (List Int) a267 h269]) hF342
      refine boolE (z := true) (ltLen hk) ?_
      refine sq ?_
      refine sq ?_
      obtain ⟨a349, e, hF350⟩ := bindS hF342; clear hF342
      obtain ⟨p347, m348, c343, c344, c345, c346⟩ := (H.rs (α := List Int) 4 rfl).at1 e; clear e
      refine idxE c343 c344 c345 ?_; clear c343 c344 c345
      refine load1 c346 ?_; clear c346
      refine fld gok rfl rfl rfl rfl ?_
      refine load1 (H.bx 1 rfl (j := 1) rfl) ?_
      obtain ⟨a357, e, hF358⟩ := bindS hF350; clear hF350
      replace H := H.sel [2, 0, 1, 3, 4] rfl
      replace H := H.toEH (α := List Int)
      have HH := H; clear H; obtain ⟨p355, m356, h359, c351, c352, c353, c354, H⟩ := HH.peekL e; clear HH
      clear e
      refine idxE c351 c352 c353 ?_
      refine load1 c354 ?_; clear c354
      replace H := H.takeK 0 rfl
      obtain ⟨a367, e, hF368⟩ := bindS hF358; clear hF358
      have ea367 := e; clear e
      obtain ⟨p364, m365, c360, c361, c362⟩ := (H.ro (α := List Int) 0 rfl).setp ea367
      refine idxE c360 c361 c362 ?_
      refine setS (α := Int) H c360 c361 ea367 ?_; clear H c360 c361 c362 ea367; intro w369 H
      obtain ⟨a370, e, hF371⟩ := bindS hF368; clear hF368
      replace H := H.put c352 e; clear e
      refine arK hk hmx336 ?_
      have hs := Option.some.inj hF371; subst hs; clear hF371
      exact ⟨(), ⟨rfl, rfl, rfl, rfl, rfl, rfl, rfl, rfl, rfl, trivial⟩, H.sel [1, 2, 0, 3, 4] rfl⟩
    · clear H e
      rintro T373 _ w372 (H : Cx w0 fp0 S0 w372 [Bx b6 [(.int .i64 0), (.slice none 0 0)], Bx b14 [(.int .i64 y8_0), (h11).v], E (List (List Int)) r337 h11, Es (List (List Int)) m__1 m__1h, Es (List Int) a267 h269])
      refine boolE (z := false) geLen ?_
      refine sq ?_
      refine arK hk hmx254 ?_
      have hs := Option.some.inj hF338; subst hs; clear hF338
      exact ⟨(), ⟨rfl, rfl, rfl, rfl, rfl, trivial⟩, H.sel [0, 1, 2, 3] rfl⟩
  · clear H e
    rintro T377 _ w376 (H : Cx w0 fp0 S0 w376 [Bx b6 [(.int .i64 0), (.slice none 0 0)], Bx b14 [(.int .i64 y8_0), (h11).v], E (List (List Int)) r255 h11, Es (List (List Int)) m__1 m__1h])
    refine boolE (z := false) geLen ?_
    refine sq ?_
    refine loadN [(.int .i64 y8_0), (h11).v] rfl (fun j u hj => H.bx 1 rfl hj) ?_
    refine stA gok [(.int .i64 y8_0), (h11).v] rfl H rfl rfl rfl ?_; clear H; intro w380 H
    replace H : Cx w0 fp0 S0 w380 [Bx b6 [(.int .i64 y8_0), (h11).v], Bx b14 [(.int .i64 y8_0), (h11).v], E (List (List Int)) r255 h11, Es (List (List Int)) m__1 m__1h] := H
    refine loadN [(.int .i64 y8_0), (h11).v] rfl (fun j u hj => H.bx 0 rfl hj) ?_
    cases hF256
    exact ⟨_, _, rfl, ⟨h11, rfl, rfl⟩, (H.sel [2] rfl).close ⟨cloE, trivial⟩⟩

theorem spec_spReduce_c (p_ : Int) (size_ : Int) (rows_ : List (List Int)) (rows_h : Hd) (y : List (List Int)) (hF : F_spec_spReduce p_ size_ rows_ = some y) :
    ConF Tryd.prog 69 #[(.int .i64 p_), (.int .i64 size_), (rows_h).v] [Es (List (List Int)) rows_ rows_h] [] (fun v Γ' => ∃ z0 : Hd, v = (z0).v ∧ Γ' = [E (List (List Int)) y z0]) := by
  intro w0 S0 fp0 hI hS
  have H : Cx w0 fp0 S0 w0 [Es (List (List Int)) rows_ rows_h] := Cx.start hI hS
  clear hI hS
  refine enterC (args := [_, _, _]) gok Tryd.func69 rfl _ rfl rfl rfl ?_
  refine sq ?_
  refine lenE (H.rs (α := List (List Int)) 0 rfl).len ?_
  have hmx58 := (H.rs (α := List (List Int)) 0 rfl).max
  obtain ⟨r59, e, hF60⟩ := bindS hF; clear hF
  replace H := H.nil (α := List Int)
  refine loopS _ rows_.length (fun (k2 : Nat) (s55 : List (List Int)) (g56 : Hd) => [(0, (.int .i64 p_)), (1, (.int .i64 size_)), (7, (g56).v), (19, (rows_h).v), (20, (.int .i64 ((rows_.length : Nat) : Int))), (21, (.int .i64 ((k2 : Nat) : Int)))]) (fun _ (s55 : List (List Int)) (g56 : Hd) w' => Cx w0 fp0 S0 w' [E (List (List Int)) s55 g56, Es (List (List Int)) rows_ rows_h]) [] nilH e ⟨rfl, rfl, rfl, rfl, rfl, rfl, trivial⟩ (H.sel [0, 1] rfl) ?_ ?_
  · clear H e
    rintro T63 k2 s55 g56 w62 o64 hk (H : Cx w0 fp0 S0 w62 [E (List (List Int)) s55 g56, Es (List (List Int)) rows_ rows_h]) hF65
    refine boolE (z := true) (ltLen hk) ?_
    refine sq ?_
    refine sq ?_
    obtain ⟨a72, e, hF73⟩ := bindS hF65; clear hF65
    have HH := H; clear H; obtain ⟨p70, m71, h74, c66, c67, c68, c69, H⟩ := HH.elL 1 rfl e; clear HH
    clear e
    refine idxE c66 c67 c68 ?_; clear c66 c67 c68
    refine load1 c69 ?_; clear c69
    obtain ⟨y76, e, hF77⟩ := bindS hF73; clear hF73
    have ey76 := e; clear e
    refine callF (spec_l1Own_c a72 h74 y76 ey76) (Γi := []) H ⟨Vw.sh 0 rfl, trivial⟩ ?_; clear H ey76
    rintro _ _ w78 ⟨h79, rfl, rfl⟩ (H : Cx w0 fp0 S0 w78 [E (List Int) y76 h79, Es (List Int) a72 h74, E (List (List Int)) s55 g56, Es (List (List Int)) rows_ rows_h])
    refine lit1 (α := List Int) (g := h79) gok rfl rfl rfl rfl rfl H ?_; clear H; intro h82 w81 hx H
    clear hx
    obtain ⟨a84, e, hF85⟩ := bindS hF77; clear hF77
    replace H := H.sel [2, 0, 1, 3] rfl
    refine append_ (α := List Int) gok rfl rfl rfl rfl H e ?_; clear e H; intro h87 w86 H
    refine arK hk hmx58 ?_
    have hs := Option.some.inj hF85; subst hs; clear hF85
    exact ⟨h87, ⟨rfl, rfl, rfl, rfl, rfl, rfl, trivial⟩, H.sel [0, 2] rfl⟩
  · clear H e
    rintro T90 g92 w89 (H : Cx w0 fp0 S0 w89 [E (List (List Int)) r59 g92, Es (List (List Int)) rows_ rows_h])
    refine boolE (z := false) geLen ?_
    refine sq ?_
    obtain ⟨r14378, hF14380, hF14379⟩ := bindS hF60; clear hF60
    refine cut (fun (q14381 : List (List Int) × Int) => [(7, (g92).v), (10, (.int .i64 q14381.2))]) (fun (q14381 : List (List Int) × Int) w' => (q14381.1, q14381.2) = r14378 ∧ Cx w0 fp0 S0 w' [E (List (List Int)) q14381.1 g92]) ?_ ?_
    · skip
      refine loopW _ (fun (s23898 : List (List Int) × Int × Int) (_ : Unit) => [(0, (.int .i64 p_)), (1, (.int .i64 size_)), (7, (g92).v), (10, (.int .i64 s23898.2.1)), (11, (.int .i64 s23898.2.2))]) (fun (s23898 : List (List Int) × Int × Int) (_ : Unit) w' => Cx w0 fp0 S0 w' [E (List (List Int)) s23898.1 g92]) (r59, 0, 0) () hF14380 ⟨rfl, rfl, rfl, rfl, rfl, trivial⟩ (H.sel [0] rfl) ?_
      · clear H
        rintro T23904 ⟨s23898_0, s23898_1, s23898_2⟩ _ w23903 o23905 (H : Cx w0 fp0 S0 w23903 [E (List (List Int)) s23898_0 g92]) hrt hF23906
        refine sq ?_
        obtain ⟨r23915, hF23917, hF23916⟩ := bindS hF23906; clear hF23906
        refine cut (fun (q23918 : Bool) => [(0, (.int .i64 p_)), (1, (.int .i64 size_)), (7, (g92).v), (10, (.int .i64 s23898_1)), (11, (.int .i64 s23898_2)), (39, (.bool q23918))]) (fun (q23918 : Bool) w' => q23918 = r23915 ∧ Cx w0 fp0 S0 w' [E (List (List Int)) s23898_0 g92]) ?_ ?_
        · skip
          obtain ⟨a23919, e, hF23920⟩ := bindS hF23917; clear hF23917
          refine boolO e ?_; clear e
          cases a23919
          · have hF23921 := condF hF23920; clear hF23920
            exact ⟨false, ⟨rfl, rfl, rfl, rfl, rfl, rfl, trivial⟩, Option.some.inj hF23921, H.sel [0] rfl⟩
          · have hF23922 := condT hF23920; clear hF23920
            refine lenE (H.ro (α := List (List Int)) 0 rfl).len ?_
            obtain ⟨a23923, e, hF23924⟩ := bindS hF23922; clear hF23922
            refine boolO e ?_; clear e
            exact ⟨a23923, ⟨rfl, rfl, rfl, rfl, rfl, rfl, trivial⟩, Option.some.inj hF23924, H.sel [0] rfl⟩
        · clear hF23917 H
          rintro T23926 s23913 w23925 ⟨hr, (H : Cx w0 fp0 S0 w23925 [E (List (List Int)) s23898_0 g92])⟩
          subst hr
          cases s23913
          · have hF23927 := condF hF23916; clear hF23916
            have hs := Option.some.inj hF23927; subst hs; clear hF23927
            have hF23928 : some _ = some _ := congrArg some (hrt _ rfl).symm
            exact ⟨(s23898_0, s23898_1), ⟨rfl, rfl, trivial⟩, Option.some.inj hF23928, H.sel [0] rfl⟩
          · have hF23929 := condT hF23916; clear hF23916
            obtain ⟨r26294, hF26296, hF26295⟩ := bindS hF23929; clear hF23929
            refine cut (fun (q26297 : List (List Int) × Int) => [(0, (.int .i64 p_)), (1, (.int .i64 size_)), (7, (g92).v), (10, (.int .i64 q26297.2)), (11, (.int .i64 s23898_2))]) (fun (q26297 : List (List Int) × Int) w' => (q26297.1, q26297.2) = r26294 ∧ Cx w0 fp0 S0 w' [E (List (List Int)) q26297.1 g92]) ?_ ?_
            · skip
              obtain ⟨r26488, hF26490, hF26489⟩ := bindS hF26296; clear hF26296
              refine cut (fun (q26491 : Int) => [(0, (.int .i64 p_)), (1, (.int .i64 size_)), (7, (g92).v), (10, (.int .i64 s23898_1)), (11, (.int .i64 s23898_2)), (12, (.int .i64 q26491))]) (fun (q26491 : Int) w' => q26491 = r26488 ∧ Cx w0 fp0 S0 w' [E (List (List Int)) s23898_0 g92]) ?_ ?_
              · skip
                refine loopW _ (fun (s26612 : Int) (_ : Unit) => [(0, (.int .i64 p_)), (1, (.int .i64 size_)), (7, (g92).v), (10, (.int .i64 s23898_1)), (11, (.int .i64 s23898_2)), (12, (.int .i64 s26612))]) (fun (s26612 : Int) (_ : Unit) w' => Cx w0 fp0 S0 w' [E (List (List Int)) s23898_0 g92]) s23898_1 () hF26490 ⟨rfl, rfl, rfl, rfl, rfl, rfl, trivial⟩ (H.sel [0] rfl) ?_
                · clear H
                  rintro T26618 s26612 _ w26617 o26619 (H : Cx w0 fp0 S0 w26617 [E (List (List Int)) s23898_0 g92]) hrt hF26620
                  refine sq ?_
                  obtain ⟨r26646, hF26648, hF26647⟩ := bindS hF26620; clear hF26620
                  refine cut (fun (q26649 : Bool) => [(0, (.int .i64 p_)), (1, (.int .i64 size_)), (7, (g92).v), (10, (.int .i64 s23898_1)), (11, (.int .i64 s23898_2)), (12, (.int .i64 s26612)), (56, (.bool q26649))]) (fun (q26649 : Bool) w' => q26649 = r26646 ∧ Cx w0 fp0 S0 w' [E (List (List Int)) s23898_0 g92]) ?_ ?_
                  · skip
                    refine lenE (H.ro (α := List (List Int)) 0 rfl).len ?_
                    obtain ⟨a26650, e, hF26651⟩ := bindS hF26648; clear hF26648
                    refine boolO e ?_; clear e
                    cases a26650
                    · have hF26652 := condF hF26651; clear hF26651
                      exact ⟨false, ⟨rfl, rfl, rfl, rfl, rfl, rfl, rfl, trivial⟩, Option.some.inj hF26652, H.sel [0] rfl⟩
                    · have hF26653 := condT hF26651; clear hF26651
                      obtain ⟨a26660, e, hF26661⟩ := bindS hF26653; clear hF26653
                      replace H := H.toEH (α := List Int)
                      have HH := H; clear H; obtain ⟨p26658, m26659, h26662, c26654, c26655, c26656, c26657, H⟩ := HH.peekL e; clear HH
                      clear e
                      refine idxE c26654 c26655 c26656 ?_
                      refine load1 c26657 ?_; clear c26657
                      obtain ⟨a26669, e, hF26670⟩ := bindS hF26661; clear hF26661
                      obtain ⟨p26667, m26668, c26663, c26664, c26665, c26666⟩ := (H.rh (α := List Int) 0 rfl 0 rfl).at1 e; clear e
                      refine idxE c26663 c26664 c26665 ?_; clear c26663 c26664 c26665
                      refine load1 c26666 ?_; clear c26666
                      obtain ⟨a26671, e, hF26672⟩ := bindS hF26670; clear hF26670
                      refine boolO e ?_; clear e
                      replace H := H.ofEH
                      exact ⟨a26671, ⟨rfl, rfl, rfl, rfl, rfl, rfl, rfl, trivial⟩, Option.some.inj hF26672, H.sel [0] rfl⟩
                  · clear hF26648 H
                    rintro T26674 s26644 w26673 ⟨hr, (H : Cx w0 fp0 S0 w26673 [E (List (List Int)) s23898_0 g92])⟩
                    subst hr
                    cases s26644
                    · have hF26675 := condF hF26647; clear hF26647
                      have hs := Option.some.inj hF26675; subst hs; clear hF26675
                      have hF26676 : some _ = some _ := congrArg some (hrt _ rfl).symm
                      exact ⟨s26612, ⟨rfl, rfl, rfl, rfl, rfl, rfl, trivial⟩, Option.some.inj hF26676, H.sel [0] rfl⟩
                    · have hF26677 := condT hF26647; clear hF26647
                      obtain ⟨a26678, e, hF26679⟩ := bindS hF26677; clear hF26677
                      refine arO e ?_; clear e
                      have hs := Option.some.inj hF26679; subst hs; clear hF26679
                      exact ⟨a26678, (), rfl, ⟨rfl, rfl, rfl, rfl, rfl, rfl, trivial⟩, H.sel [0] rfl⟩
              · clear hF26490 H
                rintro T26681 s26486 w26680 ⟨hr, (H : Cx w0 fp0 S0 w26680 [E (List (List Int)) s23898_0 g92])⟩
                subst hr
                refine sq ?_
                refine lenE (H.ro (α := List (List Int)) 0 rfl).len ?_
                obtain ⟨a26682, e, hF26683⟩ := bindS hF26489; clear hF26489
                refine boolO e ?_; clear e
                cases a26682
                · have hF26684 := condF hF26683; clear hF26683
                  obtain ⟨a26691, e, hF26692⟩ := bindS hF26684; clear hF26684
                  replace H := H.toEH (α := List Int)
                  have HH := H; clear H; obtain ⟨p26689, m26690, h26693, c26685, c26686, c26687, c26688, H⟩ := HH.peekL e; clear HH
                  clear e
                  refine idxE c26685 c26686 c26687 ?_
                  refine load1 c26688 ?_; clear c26688
                  obtain ⟨a26700, e, hF26701⟩ := bindS hF26692; clear hF26692
                  have HH := H; clear H; obtain ⟨p26698, m26699, h26702, c26694, c26695, c26696, c26697, H⟩ := HH.peekL e; clear HH
                  clear e
                  refine idxE c26694 c26695 c26696 ?_
                  refine load1 c26697 ?_; clear c26697
                  refine idxE c26685 c26686 c26687 ?_
                  refine stZ1 (ki := 1) (kj := 0) H rfl rfl c26685 ?_; clear H; intro w26709 H
                  replace H : Cx w0 fp0 S0 w26709 [EZ (List Int) m26690 m26699 a26691 a26700 h26693 h26702 s23898_0 g92] := H
                  refine idxE c26694 c26695 c26696 ?_
                  obtain ⟨a26717, e, hF26718⟩ := bindS hF26701; clear hF26701
                  refine stZ2 H c26686 c26695 c26694 e ?_; clear H e; intro w26716 H
                  obtain ⟨a26725, e, hF26726⟩ := bindS hF26718; clear hF26718
                  replace H := H.toEH (α := List Int)
                  have HH := H; clear H; obtain ⟨p26723, m26724, h26727, c26719, c26720, c26721, c26722, H⟩ := HH.peekL e; clear HH
                  clear e
                  refine idxE c26719 c26720 c26721 ?_
                  refine load1 c26722 ?_; clear c26722
                  obtain ⟨a26734, e, hF26735⟩ := bindS hF26726; clear hF26726
                  obtain ⟨p26732, m26733, c26728, c26729, c26730, c26731⟩ := (H.rh (α := List Int) 0 rfl 0 rfl).at1 e; clear e
                  refine idxE c26728 c26729 c26730 ?_; clear c26728 c26729 c26730
                  refine load1 c26731 ?_; clear c26731
                  obtain ⟨y26736, e, hF26737⟩ := bindS hF26735; clear hF26735
                  have ey26736 := e; clear e
                  refine callF (spec_fdInv_c p_ a26734 y26736 ey26736) (Γi := []) H trivial ?_; clear H ey26736
                  rintro _ _ w26738 ⟨rfl, rfl⟩ (H : Cx w0 fp0 S0 w26738 [EH (List Int) a26717 g92 [⟨m26724, a26725, h26727⟩]])
                  refine sq ?_
                  obtain ⟨a26745, e, hF26746⟩ := bindS hF26737; clear hF26737
                  have HH := H; clear H; obtain ⟨p26743, m26744, h26747, c26739, c26740, c26741, c26742, H⟩ := HH.peekL e; clear HH
                  clear e
                  refine idxE c26739 c26740 c26741 ?_
                  refine load1 c26742 ?_; clear c26742
                  have hmx26748 := (H.rh (α := List Int) 0 rfl 0 rfl).max
                  refine lenE (H.rh (α := List Int) 0 rfl 0 rfl).len ?_
                  replace H := H.ofEH
                  obtain ⟨r26841, e, hF26842⟩ := bindS hF26746; clear hF26746
                  refine loopS _ a26745.length (fun (k26749 : Nat) (s26838 : List (List Int)) (_ : Unit) => [(0, (.int .i64 p_)), (1, (.int .i64 size_)), (7, (g92).v), (10, (.int .i64 s23898_1)), (11, (.int .i64 s23898_2)), (14, (.int .i64 y26736)), (91, (.int .i64 ((a26745.length : Nat) : Int))), (92, (.int .i64 ((k26749 : Nat) : Int)))]) (fun _ (s26838 : List (List Int)) (_ : Unit) w' => Cx w0 fp0 S0 w' [E (List (List Int)) s26838 g92]) a26717 () e ⟨rfl, rfl, rfl, rfl, rfl, rfl, rfl, rfl, trivial⟩ (H.sel [0] rfl) ?_ ?_
                  · clear H e
                    rintro T26844 k26749 s26838 _ w26843 o26845 hk (H : Cx w0 fp0 S0 w26843 [E (List (List Int)) s26838 g92]) hF26846
                    refine boolE (z := true) (ltLen hk) ?_
                    refine sq ?_
                    refine sq ?_
                    refine heldX H [16] (.fst 0 (.fst 1 (.fst 2 (.fst 4 (.fst 5 (.fst 6 (.fst 7 (.fst 8 (.fst 10 (.fst 13 (.fst 3 (.fst 9 (.fst 11 (.fst 12 (.act 14 (.fst 15 (.act 16 .done))))))))))))))))) mixed [] trivial (by kernel_rfl) ?_
                    clear H; intro w26847 H
                    have hX : Ext w26847 w26847 := Upd.refl _ _
                    have H0 := H
                    obtain ⟨a26854, e, hF26855⟩ := bindS hF26846; clear hF26846
                    replace H := H.toEH (α := List Int)
                    have HH := H; clear H; obtain ⟨p26852, m26853, h26856, c26848, c26849, c26850, c26851, H⟩ := HH.peekL e; clear HH
                    clear e
                    refine idxE c26848 c26849 c26850 ?_
                    obtain ⟨a26863, e, hF26864⟩ := bindS hF26855; clear hF26855
                    have HH := H; clear H; obtain ⟨p26861, m26862, h26865, c26857, c26858, c26859, c26860, H⟩ := HH.peekL e; clear HH
                    clear e
                    refine idxE c26857 c26858 c26859 ?_
                    refine load1X c26851 ?_; clear c26851
                    refine load1X c26860 ?_; clear c26860
                    obtain ⟨a26872, e, hF26873⟩ := bindS hF26864; clear hF26864
                    obtain ⟨p26870, m26871, c26866, c26867, c26868, c26869⟩ := (H.rh (α := List Int) 0 rfl 0 rfl).at1 e; clear e
                    refine idxE c26866 c26867 c26868 ?_; clear c26866 c26867 c26868
                    refine load1X c26869 ?_; clear c26869
                    obtain ⟨y26874, e, hF26875⟩ := bindS hF26873; clear hF26873
                    have ey26874 := e; clear e
                    refine callFx (spec_fdMul_c p_ a26872 y26736 y26874 ey26874) H trivial ?_; clear H ey26874
                    rintro _ _ w26876 ⟨rfl, rfl⟩ hx (H : Cx w0 fp0 S0 w26876 [EH (List Int) s26838 g92 [⟨m26862, a26863, h26865⟩, ⟨m26853, a26854, h26856⟩]])
                    replace hX := hX.trans0 hx; clear hx
                    refine hold hX ?_
                    replace H := H.takeK 1 rfl
                    obtain ⟨a26884, e, hF26885⟩ := bindS hF26875; clear hF26875
                    have ea26884 := e; clear e
                    obtain ⟨p26881, m26882, c26877, c26878, c26879⟩ := (H.ro (α := List Int) 0 rfl).setp ea26884
                    refine idxE c26877 c26878 c26879 ?_
                    refine setS (α := Int) H c26877 c26878 ea26884 ?_; clear H c26877 c26878 c26879 ea26884; intro w26886 H
                    obtain ⟨a26887, e, hF26888⟩ := bindS hF26885; clear hF26885
                    replace H := H.put c26849 e; clear e
                    refine hold trivial ?_
                    refine arK hk hmx26748 ?_
                    have hs := Option.some.inj hF26888; subst hs; clear hF26888
                    exact ⟨(), ⟨rfl, rfl, rfl, rfl, rfl, rfl, rfl, rfl, trivial⟩, H.sel [0] rfl⟩
                  · clear H e
                    rintro T26890 _ w26889 (H : Cx w0 fp0 S0 w26889 [E (List (List Int)) r26841 g92])
                    refine boolE (z := false) geLen ?_
                    refine sq ?_
                    refine sq ?_
                    refine lenE (H.ro (α := List (List Int)) 0 rfl).len ?_
                    have hmx28064 := (H.ro (α := List (List Int)) 0 rfl).max
                    obtain ⟨r28065, e, hF28066⟩ := bindS hF26842; clear hF26842
                    refine loopS _ r26841.length (fun (k26893 : Nat) (s28062 : List (List Int)) (_ : Unit) => [(0, (.int .i64 p_)), (1, (.int .i64 size_)), (7, (g92).v), (10, (.int .i64 s23898_1)), (11, (.int .i64 s23898_2)), (113, (.int .i64 ((r26841.length : Nat) : Int))), (114, (.int .i64 ((k26893 : Nat) : Int)))]) (fun _ (s28062 : List (List Int)) (_ : Unit) w' => Cx w0 fp0 S0 w' [E (List (List Int)) s28062 g92]) r26841 () e ⟨rfl, rfl, rfl, rfl, rfl, rfl, rfl, trivial⟩ (H.sel [0] rfl) ?_ ?_
                    · clear H e
                      rintro T28068 k26893 s28062 _ w28067 o28069 hk (H : Cx w0 fp0 S0 w28067 [E (List (List Int)) s28062 g92]) hF28070
                      refine boolE (z := true) (ltLen hk) ?_
                      refine sq ?_
                      obtain ⟨r28360, hF28362, hF28361⟩ := bindS hF28070; clear hF28070
                      refine cut (fun (q28363 : List (List Int)) => [(0, (.int .i64 p_)), (1, (.int .i64 size_)), (7, (g92).v), (10, (.int .i64 s23898_1)), (11, (.int .i64 s23898_2)), (113, (.int .i64 ((r26841.length : Nat) : Int))), (114, (.int .i64 ((k26893 : Nat) : Int)))]) (fun (q28363 : List (List Int)) w' => q28363 = r28360 ∧ Cx w0 fp0 S0 w' [E (List (List Int)) q28363 g92]) ?_ ?_
                      · skip
                        refine sq ?_
                        obtain ⟨r28389, hF28391, hF28390⟩ := bindS hF28362; clear hF28362
                        refine cut (fun (q28392 : Bool) => [(0, (.int .i64 p_)), (1, (.int .i64 size_)), (7, (g92).v), (10, (.int .i64 s23898_1)), (11, (.int .i64 s23898_2)), (16, (.int .i64 ((k26893 : Nat) : Int))), (113, (.int .i64 ((r26841.length : Nat) : Int))), (114, (.int .i64 ((k26893 : Nat) : Int))), (129, (.bool q28392))]) (fun (q28392 : Bool) w' => q28392 = r28389 ∧ Cx w0 fp0 S0 w' [E (List (List Int)) s28062 g92]) ?_ ?_
                        · skip
                          obtain ⟨a28393, e, hF28394⟩ := bindS hF28391; clear hF28391
                          refine boolO e ?_; clear e
                          cases a28393
                          · have hF28395 := condF hF28394; clear hF28394
                            obtain ⟨a28402, e, hF28403⟩ := bindS hF28395; clear hF28395
                            replace H := H.toEH (α := List Int)
                            have HH := H; clear H; obtain ⟨p28400, m28401, h28404, c28396, c28397, c28398, c28399, H⟩ := HH.peekL e; clear HH
                            clear e
                            refine idxE c28396 c28397 c28398 ?_
                            refine load1 c28399 ?_; clear c28399
                            obtain ⟨a28411, e, hF28412⟩ := bindS hF28403; clear hF28403
                            obtain ⟨p28409, m28410, c28405, c28406, c28407, c28408⟩ := (H.rh (α := List Int) 0 rfl 0 rfl).at1 e; clear e
                            refine idxE c28405 c28406 c28407 ?_; clear c28405 c28406 c28407
                            refine load1 c28408 ?_; clear c28408
                            obtain ⟨a28413, e, hF28414⟩ := bindS hF28412; clear hF28412
                            refine boolO e ?_; clear e
                            replace H := H.ofEH
                            exact ⟨a28413, ⟨rfl, rfl, rfl, rfl, rfl, rfl, rfl, rfl, rfl, trivial⟩, Option.some.inj hF28414, H.sel [0] rfl⟩
                          · have hF28415 := condT hF28394; clear hF28394
                            exact ⟨true, ⟨rfl, rfl, rfl, rfl, rfl, rfl, rfl, rfl, rfl, trivial⟩, Option.some.inj hF28415, H.sel [0] rfl⟩
                        · clear hF28391 H
                          rintro T28417 s28387 w28416 ⟨hr, (H : Cx w0 fp0 S0 w28416 [E (List (List Int)) s28062 g92])⟩
                          subst hr
                          cases s28387
                          · have hF28418 := condF hF28390; clear hF28390
                            obtain ⟨a28425, e, hF28426⟩ := bindS hF28418; clear hF28418
                            replace H := H.toEH (α := List Int)
                            have HH := H; clear H; obtain ⟨p28423, m28424, h28427, c28419, c28420, c28421, c28422, H⟩ := HH.peekL e; clear HH
                            clear e
                            refine idxE c28419 c28420 c28421 ?_
                            refine load1 c28422 ?_; clear c28422
                            obtain ⟨a28434, e, hF28435⟩ := bindS hF28426; clear hF28426
                            obtain ⟨p28432, m28433, c28428, c28429, c28430, c28431⟩ := (H.rh (α := List Int) 0 rfl 0 rfl).at1 e; clear e
                            refine idxE c28428 c28429 c28430 ?_; clear c28428 c28429 c28430
                            refine load1 c28431 ?_; clear c28431
                            replace H := H.ofEH
                            obtain ⟨a28442, e, hF28443⟩ := bindS hF28435; clear hF28435
                            replace H := H.toEH (α := List Int)
                            have HH := H; clear H; obtain ⟨p28440, m28441, h28444, c28436, c28437, c28438, c28439, H⟩ := HH.peekL e; clear HH
                            clear e
                            refine idxE c28436 c28437 c28438 ?_
                            refine load1 c28439 ?_; clear c28439
                            have hmx28445 := (H.rh (α := List Int) 0 rfl 0 rfl).max
                            refine lenE (H.rh (α := List Int) 0 rfl 0 rfl).len ?_
                            replace H := H.ofEH
                            obtain ⟨r28578, e, hF28579⟩ := bindS hF28443; clear hF28443
                            refine loopS _ a28442.length (fun (k28446 : Nat) (s28575 : List (List Int)) (_ : Unit) => [(0, (.int .i64 p_)), (1, (.int .i64 size_)), (7, (g92).v), (10, (.int .i64 s23898_1)), (11, (.int .i64 s23898_2)), (16, (.int .i64 ((k26893 : Nat) : Int))), (17, (.int .i64 a28434)), (113, (.int .i64 ((r26841.length : Nat) : Int))), (114, (.int .i64 ((k26893 : Nat) : Int))), (141, (.int .i64 ((a28442.length : Nat) : Int))), (142, (.int .i64 ((k28446 : Nat) : Int)))]) (fun _ (s28575 : List (List Int)) (_ : Unit) w' => Cx w0 fp0 S0 w' [E (List (List Int)) s28575 g92]) s28062 () e ⟨rfl, rfl, rfl, rfl, rfl, rfl, rfl, rfl, rfl, rfl, rfl, trivial⟩ (H.sel [0] rfl) ?_ ?_
                            · clear H e
                              rintro T28581 k28446 s28575 _ w28580 o28582 hk (H : Cx w0 fp0 S0 w28580 [E (List (List Int)) s28575 g92]) hF28583
                              refine boolE (z := true) (ltLen hk) ?_
                              refine sq ?_
                              refine sq ?_
                              refine heldX H [25] (.fst 0 (.fst 1 (.fst 2 (.fst 4 (.fst 5 (.fst 6 (.fst 7 (.fst 8 (.fst 10 (.fst 13 (.fst 14 (.fst 15 (.fst 16 (.fst 17 (.fst 19 (.fst 3 (.fst 9 (.fst 11 (.fst 12 (.fst 18 (.fst 20 (.fst 21 (.act 22 (.act 23 (.fst 24 (.act 25 .done)))))))))))))))))))))))))) mixed [] trivial (by kernel_rfl) ?_
                              clear H; intro w28584 H
                              have hX : Ext w28584 w28584 := Upd.refl _ _
                              have H0 := H
                              obtain ⟨a28591, e, hF28592⟩ := bindS hF28583; clear hF28583
                              replace H := H.toEH (α := List Int)
                              have HH := H; clear H; obtain ⟨p28589, m28590, h28593, c28585, c28586, c28587, c28588, H⟩ := HH.peekL e; clear HH
                              clear e
                              refine idxE c28585 c28586 c28587 ?_
                              obtain ⟨a28600, e, hF28601⟩ := bindS hF28592; clear hF28592
                              have HH := H; clear H; obtain ⟨p28598, m28599, h28602, c28594, c28595, c28596, c28597, H⟩ := HH.peekL e; clear HH
                              clear e
                              refine idxE c28594 c28595 c28596 ?_
                              obtain ⟨a28609, e, hF28610⟩ := bindS hF28601; clear hF28601
                              have HH := H; clear H; obtain ⟨p28607, m28608, h28611, c28603, c28604, c28605, c28606, H⟩ := HH.peekL e; clear HH
                              clear e
                              refine idxE c28603 c28604 c28605 ?_
                              refine load1X c28588 ?_; clear c28588
                              refine load1X c28597 ?_; clear c28597
                              obtain ⟨a28618, e, hF28619⟩ := bindS hF28610; clear hF28610
                              obtain ⟨p28616, m28617, c28612, c28613, c28614, c28615⟩ := (H.rh (α := List Int) 0 rfl 1 rfl).at1 e; clear e
                              refine idxE c28612 c28613 c28614 ?_; clear c28612 c28613 c28614
                              refine load1X c28615 ?_; clear c28615
                              refine load1X c28606 ?_; clear c28606
                              obtain ⟨a28626, e, hF28627⟩ := bindS hF28619; clear hF28619
                              obtain ⟨p28624, m28625, c28620, c28621, c28622, c28623⟩ := (H.rh (α := List Int) 0 rfl 0 rfl).at1 e; clear e
                              refine idxE c28620 c28621 c28622 ?_; clear c28620 c28621 c28622
                              refine load1X c28623 ?_; clear c28623
                              obtain ⟨y28628, e, hF28629⟩ := bindS hF28627; clear hF28627
                              have ey28628 := e; clear e
                              refine callFx (spec_fdMul_c p_ a28434 a28626 y28628 ey28628) H trivial ?_; clear H ey28628
                              rintro _ _ w28630 ⟨rfl, rfl⟩ hx (H : Cx w0 fp0 S0 w28630 [EH (List Int) s28575 g92 [⟨m28608, a28609, h28611⟩, ⟨m28599, a28600, h28602⟩, ⟨m28590, a28591, h28593⟩]])
                              replace hX := hX.trans0 hx; clear hx
                              refine hold hX ?_
                              obtain ⟨y28631, e, hF28632⟩ := bindS hF28629; clear hF28629
                              have ey28631 := e; clear e
                              refine callFx (spec_fdSub_c p_ a28618 y28628 y28631 ey28631) H trivial ?_; clear H ey28631
                              rintro _ _ w28633 ⟨rfl, rfl⟩ hx (H : Cx w0 fp0 S0 w28633 [EH (List Int) s28575 g92 [⟨m28608, a28609, h28611⟩, ⟨m28599, a28600, h28602⟩, ⟨m28590, a28591, h28593⟩]])
                              replace hX := hX.trans0 hx; clear hx
                              refine hold hX ?_
                              replace H := H.takeK 2 rfl
                              obtain ⟨a28641, e, hF28642⟩ := bindS hF28632; clear hF28632
                              have ea28641 := e; clear e
                              obtain ⟨p28638, m28639, c28634, c28635, c28636⟩ := (H.ro (α := List Int) 0 rfl).setp ea28641
                              refine idxE c28634 c28635 c28636 ?_
                              refine setS (α := Int) H c28634 c28635 ea28641 ?_; clear H c28634 c28635 c28636 ea28641; intro w28643 H
                              obtain ⟨a28644, e, hF28645⟩ := bindS hF28642; clear hF28642
                              replace H := H.put c28586 e; clear e
                              refine hold trivial ?_
                              refine arK hk hmx28445 ?_
                              have hs := Option.some.inj hF28645; subst hs; clear hF28645
                              exact ⟨(), ⟨rfl, rfl, rfl, rfl, rfl, rfl, rfl, rfl, rfl, rfl, rfl, trivial⟩, H.sel [0] rfl⟩
                            · clear H e
                              rintro T28647 _ w28646 (H : Cx w0 fp0 S0 w28646 [E (List (List Int)) r28578 g92])
                              refine boolE (z := false) geLen ?_
                              refine sq ?_
                              exact ⟨r28578, ⟨rfl, rfl, rfl, rfl, rfl, rfl, rfl, trivial⟩, Option.some.inj hF28579, H.sel [0] rfl⟩
                          · have hF28650 := condT hF28390; clear hF28390
                            exact ⟨s28062, ⟨rfl, rfl, rfl, rfl, rfl, rfl, rfl, trivial⟩, Option.some.inj hF28650, H.sel [0] rfl⟩
                      · clear hF28362 H
                        rintro T28652 s28358 w28651 ⟨hr, (H : Cx w0 fp0 S0 w28651 [E (List (List Int)) s28358 g92])⟩
                        subst hr
                        refine arK hk hmx28064 ?_
                        have hs := Option.some.inj hF28361; subst hs; clear hF28361
                        exact ⟨(), ⟨rfl, rfl, rfl, rfl, rfl, rfl, rfl, trivial⟩, H.sel [0] rfl⟩
                    · clear H e
                      rintro T28654 _ w28653 (H : Cx w0 fp0 S0 w28653 [E (List (List Int)) r28065 g92])
                      refine boolE (z := false) geLen ?_
                      refine sq ?_
                      obtain ⟨a28657, e, hF28658⟩ := bindS hF28066; clear hF28066
                      refine arO e ?_; clear e
                      exact ⟨(r28065, a28657), ⟨rfl, rfl, rfl, rfl, rfl, trivial⟩, Option.some.inj hF28658, H.sel [0] rfl⟩
                · have hF28659 := condT hF26683; clear hF26683
                  exact ⟨(s23898_0, s23898_1), ⟨rfl, rfl, rfl, rfl, rfl, trivial⟩, Option.some.inj hF28659, H.sel [0] rfl⟩
            · clear hF26296 H
              rintro T28661 ⟨s26292_0, s26292_1⟩ w28660 ⟨hr, (H : Cx w0 fp0 S0 w28660 [E (List (List Int)) s26292_0 g92])⟩
              subst hr
              obtain ⟨a28662, e, hF28663⟩ := bindS hF26295; clear hF26295
              refine arO e ?_; clear e
              have hs := Option.some.inj hF28663; subst hs; clear hF28663
              exact ⟨(s26292_0, s26292_1, a28662), (), rfl, ⟨rfl, rfl, rfl, rfl, rfl, trivial⟩, H.sel [0] rfl⟩
    · clear hF14380 H
      rintro T28665 ⟨s14376_0, s14376_1⟩ w28664 ⟨hr, (H : Cx w0 fp0 S0 w28664 [E (List (List Int)) s14376_0 g92])⟩
      subst hr
      obtain ⟨a28666, e, hF28667⟩ := bindS hF14379; clear hF14379
      refine slO (α := List Int) gok rfl rfl H e rfl rfl ?_; clear e H; intro h28668 H
      cases hF28667
      exact ⟨_, _, rfl, ⟨h28668, rfl, rfl⟩, (H.sel [0] rfl).close ⟨cloE, trivial⟩⟩

theorem spec_spNull_c (p_ : Int) (size_ : Int) (rows_ : List (List Int)) (rows_h : Hd) (y : List (List Int)) (hF : F_spec_spNull p_ size_ rows_ = some y) :
    ConF Tryd.prog 140 #[(.int .i64 p_), (.int .i64 size_), (rows_h).v] [Es (List (List Int)) rows_ rows_h] [] (fun v Γ' => ∃ z0 : Hd, v = (z0).v ∧ Γ' = [E (List (List Int)) y z0]) := by
  intro w0 S0 fp0 hI hS
  have H : Cx w0 fp0 S0 w0 [Es (List (List Int)) rows_ rows_h] := Cx.start hI hS
  clear hI hS
  refine enterC (args := [_, _, _]) gok Tryd.func140 rfl _ rfl rfl rfl ?_
  obtain ⟨y2, e, hF3⟩ := bindS hF; clear hF
  have ey2 := e; clear e
  refine callF (spec_spReduce_c p_ size_ rows_ rows_h y2 ey2) (Γi := []) H ⟨Vw.sh 0 rfl, trivial⟩ ?_; clear H ey2
  rintro _ _ w4 ⟨h5, rfl, rfl⟩ (H : Cx w0 fp0 S0 w4 [E (List (List Int)) y2 h5, Es (List (List Int)) rows_ rows_h])
  obtain ⟨a7, e, hF8⟩ := bindS hF3; clear hF3
  refine make_ (α := Int) gok rfl rfl rfl rfl (makeCO_of e) H ?_; clear e H; intro h10 w9 hx H
  clear hx
  refine sq ?_
  refine lenE (H.ro (α := List Int) 0 rfl).len ?_
  have hmx37 := (H.ro (α := List Int) 0 rfl).max
  obtain ⟨r38, e, hF39⟩ := bindS hF8; clear hF8
  refine loopS _ a7.length (fun (k12 : Nat) (s35 : List Int) (_ : Unit) => [(0, (.int .i64 p_)), (1, (.int .i64 size_)), (7, (h5).v), (8, (h10).v), (24, (.int .i64 ((a7.length : Nat) : Int))), (25, (.int .i64 ((k12 : Nat) : Int)))]) (fun _ (s35 : List Int) (_ : Unit) w' => Cx w0 fp0 S0 w' [E (List (List Int)) y2 h5, E (List Int) s35 h10]) a7 () e ⟨rfl, rfl, rfl, rfl, rfl, rfl, trivial⟩ (H.sel [1, 0] rfl) ?_ ?_
  · clear H e
    rintro T41 k12 s35 _ w40 o42 hk (H : Cx w0 fp0 S0 w40 [E (List (List Int)) y2 h5, E (List Int) s35 h10]) hF43
    refine boolE (z := true) (ltLen hk) ?_
    refine sq ?_
    refine sq ?_
    obtain ⟨a50, e, hF51⟩ := bindS hF43; clear hF43
    have ea50 := e; clear e
    obtain ⟨p48, m49, c44, c45, c46⟩ := (H.ro (α := List Int) 1 rfl).setp ea50
    refine idxE c44 c45 c46 ?_
    replace H := H.sel [1, 0] rfl
    refine setS (α := Int) H c44 c45 ea50 ?_; clear H c44 c45 c46 ea50; intro w52 H
    refine arK hk hmx37 ?_
    have hs := Option.some.inj hF51; subst hs; clear hF51
    exact ⟨(), ⟨rfl, rfl, rfl, rfl, rfl, rfl, trivial⟩, H.sel [1, 0] rfl⟩
  · clear H e
    rintro T54 _ w53 (H : Cx w0 fp0 S0 w53 [E (List (List Int)) y2 h5, E (List Int) r38 h10])
    refine boolE (z := false) geLen ?_
    refine sq ?_
    refine sq ?_
    refine lenE (H.ro (α := List (List Int)) 0 rfl).len ?_
    replace H := H.frz
    have hmx132 := (H.rs (α := List (List Int)) 0 rfl).max
    obtain ⟨r133, e, hF134⟩ := bindS hF39; clear hF39
    refine loopS _ y2.length (fun (k57 : Nat) (s130 : List Int) (_ : Unit) => [(0, (.int .i64 p_)), (1, (.int .i64 size_)), (7, (h5).v), (8, (h10).v), (32, (h5).v), (33, (.int .i64 ((y2.length : Nat) : Int))), (34, (.int .i64 ((k57 : Nat) : Int)))]) (fun _ (s130 : List Int) (_ : Unit) w' => Cx w0 fp0 S0 w' [Es (List (List Int)) y2 h5, E (List Int) s130 h10]) r38 () e ⟨rfl, rfl, rfl, rfl, rfl, rfl, rfl, trivial⟩ (H.sel [0, 1] rfl) ?_ ?_
    · clear H e
      rintro T136 k57 s130 _ w135 o137 hk (H : Cx w0 fp0 S0 w135 [Es (List (List Int)) y2 h5, E (List Int) s130 h10]) hF138
      refine boolE (z := true) (ltLen hk) ?_
      refine sq ?_
      refine sq ?_
      obtain ⟨a145, e, hF146⟩ := bindS hF138; clear hF138
      have HH := H; clear H; obtain ⟨p143, m144, h147, c139, c140, c141, c142, H⟩ := HH.elL 0 rfl e; clear HH
      clear e
      refine idxE c139 c140 c141 ?_; clear c139 c140 c141
      refine load1 c142 ?_; clear c142
      obtain ⟨y149, e, hF150⟩ := bindS hF146; clear hF146
      have ey149 := e; clear e
      refine callF (spec_spLead_c a145 h147 y149 ey149) (Γi := []) H ⟨Vw.sh 0 rfl, trivial⟩ ?_; clear H ey149
      rintro _ _ w151 ⟨rfl, rfl⟩ (H : Cx w0 fp0 S0 w151 [Es (List Int) a145 h147, Es (List (List Int)) y2 h5, E (List Int) s130 h10])
      obtain ⟨a158, e, hF159⟩ := bindS hF150; clear hF150
      have ea158 := e; clear e
      obtain ⟨p156, m157, c152, c153, c154⟩ := (H.ro (α := List Int) 2 rfl).setp ea158
      refine idxE c152 c153 c154 ?_
      replace H := H.sel [2, 0, 1] rfl
      refine setS (α := Int) H c152 c153 ea158 ?_; clear H c152 c153 c154 ea158; intro w160 H
      refine arK hk hmx132 ?_
      have hs := Option.some.inj hF159; subst hs; clear hF159
      exact ⟨(), ⟨rfl, rfl, rfl, rfl, rfl, rfl, rfl, trivial⟩, H.sel [2, 0] rfl⟩
    · clear H e
      rintro T162 _ w161 (H : Cx w0 fp0 S0 w161 [Es (List (List Int)) y2 h5, E (List Int) r133 h10])
      refine boolE (z := false) geLen ?_
      refine sq ?_
      obtain ⟨r1338, hF1340, hF1339⟩ := bindS hF134; clear hF134
      refine cut (fun (q1341 : List (List Int) × Hd) => [(0, (.int .i64 p_)), (1, (.int .i64 size_)), (12, (q1341.2).v)]) (fun (q1341 : List (List Int) × Hd) w' => q1341.1 = r1338 ∧ Cx w0 fp0 S0 w' [E (List (List Int)) q1341.1 q1341.2]) ?_ ?_
      · skip
        replace H := H.nil (α := List Int)
        refine loopW _ (fun (s2117 : List (List Int) × Int) (g2118 : Hd) => [(0, (.int .i64 p_)), (1, (.int .i64 size_)), (7, (h5).v), (8, (h10).v), (12, (g2118).v), (13, (.int .i64 s2117.2))]) (fun (s2117 : List (List Int) × Int) (g2118 : Hd) w' => Cx w0 fp0 S0 w' [Es (List (List Int)) y2 h5, E (List Int) r133 h10, E (List (List Int)) s2117.1 g2118]) ([], 0) nilH hF1340 ⟨rfl, rfl, rfl, rfl, rfl, rfl, trivial⟩ (H.sel [1, 2, 0] rfl) ?_
        · clear H
          rintro T2125 ⟨s2117_0, s2117_1⟩ g2118 w2124 o2126 (H : Cx w0 fp0 S0 w2124 [Es (List (List Int)) y2 h5, E (List Int) r133 h10, E (List (List Int)) s2117_0 g2118]) hrt hF2127
          refine sq ?_
          obtain ⟨a2128, e, hF2129⟩ := bindS hF2127; clear hF2127
          refine boolO e ?_; clear e
          cases a2128
          · have hF2130 := condF hF2129; clear hF2129
            have hs := Option.some.inj hF2130; subst hs; clear hF2130
            have hF2131 : some _ = some _ := congrArg some (hrt _ rfl).symm
            exact ⟨(s2117_0, g2118), ⟨rfl, rfl, rfl, trivial⟩, Option.some.inj hF2131, H.sel [2] rfl⟩
          · have hF2132 := condT hF2129; clear hF2129
            obtain ⟨r2320, hF2322, hF2321⟩ := bindS hF2132; clear hF2132
            refine cut (fun (q2323 : List (List Int) × Hd) => [(0, (.int .i64 p_)), (1, (.int .i64 size_)), (7, (h5).v), (8, (h10).v), (12, (q2323.2).v), (13, (.int .i64 s2117_1))]) (fun (q2323 : List (List Int) × Hd) w' => q2323.1 = r2320 ∧ Cx w0 fp0 S0 w' [Es (List (List Int)) y2 h5, E (List Int) r133 h10, E (List (List Int)) q2323.1 q2323.2]) ?_ ?_
            · skip
              refine sq ?_
              obtain ⟨a2330, e, hF2331⟩ := bindS hF2322; clear hF2322
              obtain ⟨p2328, m2329, c2324, c2325, c2326, c2327⟩ := (H.ro (α := List Int) 1 rfl).at1 e; clear e
              refine idxE c2324 c2325 c2326 ?_; clear c2324 c2325 c2326
              refine load1 c2327 ?_; clear c2327
              obtain ⟨a2332, e, hF2333⟩ := bindS hF2331; clear hF2331
              refine boolO e ?_; clear e
              cases a2332
              · have hF2334 := condF hF2333; clear hF2333
                obtain ⟨a2335, e, hF2336⟩ := bindS hF2334; clear hF2334
                refine make_ (α := Int) gok rfl rfl rfl rfl (makeCO_of e) H ?_; clear e H; intro h2338 w2337 hx H
                clear hx
                obtain ⟨a2346, e, hF2347⟩ := bindS hF2336; clear hF2336
                have ea2346 := e; clear e
                obtain ⟨p2344, m2345, c2340, c2341, c2342⟩ := (H.ro (α := List Int) 0 rfl).setp ea2346
                refine idxE c2340 c2341 c2342 ?_
                refine setS (α := Int) H c2340 c2341 ea2346 ?_; clear H c2340 c2341 c2342 ea2346; intro w2348 H
                refine sq ?_
                refine lenE (H.rs (α := List (List Int)) 1 rfl).len ?_
                have hmx2444 := (H.rs (α := List (List Int)) 1 rfl).max
                obtain ⟨r2445, e, hF2446⟩ := bindS hF2347; clear hF2347
                refine loopS _ y2.length (fun (k2349 : Nat) (s2442 : List Int) (_ : Unit) => [(0, (.int .i64 p_)), (1, (.int .i64 size_)), (7, (h5).v), (8, (h10).v), (12, (g2118).v), (13, (.int .i64 s2117_1)), (14, (h2338).v), (60, (h5).v), (61, (.int .i64 ((y2.length : Nat) : Int))), (62, (.int .i64 ((k2349 : Nat) : Int)))]) (fun _ (s2442 : List Int) (_ : Unit) w' => Cx w0 fp0 S0 w' [Es (List (List Int)) y2 h5, E (List Int) r133 h10, E (List (List Int)) s2117_0 g2118, E (List Int) s2442 h2338]) a2346 () e ⟨rfl, rfl, rfl, rfl, rfl, rfl, rfl, rfl, rfl, rfl, trivial⟩ (H.sel [1, 2, 3, 0] rfl) ?_ ?_
                · clear H e
                  rintro T2448 k2349 s2442 _ w2447 o2449 hk (H : Cx w0 fp0 S0 w2447 [Es (List (List Int)) y2 h5, E (List Int) r133 h10, E (List (List Int)) s2117_0 g2118, E (List Int) s2442 h2338]) hF2450
                  refine boolE (z := true) (ltLen hk) ?_
                  refine sq ?_
                  refine sq ?_
                  obtain ⟨a2457, e, hF2458⟩ := bindS hF2450; clear hF2450
                  have HH := H; clear H; obtain ⟨p2455, m2456, h2459, c2451, c2452, c2453, c2454, H⟩ := HH.elL 0 rfl e; clear HH
                  clear e
                  refine idxE c2451 c2452 c2453 ?_; clear c2451 c2452 c2453
                  refine load1 c2454 ?_; clear c2454
                  refine heldX H [13] (.fst 0 (.fst 1 (.fst 2 (.fst 3 (.fst 6 (.fst 7 (.fst 8 (.fst 9 (.fst 4 (.fst 10 (.act 5 (.act 11 (.fst 12 (.act 13 .done)))))))))))))) mixed [] trivial (by kernel_rfl) ?_
                  clear H; intro w2461 H
                  have hX : Ext w2461 w2461 := Upd.refl _ _
                  have H0 := H
                  obtain ⟨a2468, e, hF2469⟩ := bindS hF2458; clear hF2458
                  have HH := H; clear H; obtain ⟨p2466, m2467, h2470, c2462, c2463, c2464, c2465, H⟩ := HH.elL 1 rfl e; clear HH
                  clear e
                  refine idxE c2462 c2463 c2464 ?_; clear c2462 c2463 c2464
                  obtain ⟨a2478, e, hF2479⟩ := bindS hF2469; clear hF2469
                  obtain ⟨p2476, m2477, c2472, c2473, c2474, c2475⟩ := (H.rs (α := List Int) 1 rfl).at1 e; clear e
                  refine idxE c2472 c2473 c2474 ?_; clear c2472 c2473 c2474
                  refine load1X c2465 ?_; clear c2465
                  refine load1X c2475 ?_; clear c2475
                  obtain ⟨y2480, e, hF2481⟩ := bindS hF2479; clear hF2479
                  have ey2480 := e; clear e
                  refine callFx (spec_spLead_c a2468 h2470 y2480 ey2480) H ⟨Vw.sh 0 rfl, trivial⟩ ?_; clear H ey2480
                  rintro _ _ w2482 ⟨rfl, rfl⟩ hx (H : Cx w0 fp0 S0 w2482 [Es (List Int) a2468 h2470, Es (List Int) a2457 h2459, Es (List (List Int)) y2 h5, E (List Int) r133 h10, E (List (List Int)) s2117_0 g2118, E (List Int) s2442 h2338])
                  replace hX := hX.trans0 hx; clear hx
                  refine hold hX ?_
                  obtain ⟨y2483, e, hF2484⟩ := bindS hF2481; clear hF2481
                  have ey2483 := e; clear e
                  refine callFx (spec_fdNeg_c p_ a2478 y2483 ey2483) H trivial ?_; clear H ey2483
                  rintro _ _ w2485 ⟨rfl, rfl⟩ hx (H : Cx w0 fp0 S0 w2485 [Es (List Int) a2468 h2470, Es (List Int) a2457 h2459, Es (List (List Int)) y2 h5, E (List Int) r133 h10, E (List (List Int)) s2117_0 g2118, E (List Int) s2442 h2338])
                  replace hX := hX.trans0 hx; clear hx
                  refine hold hX ?_
                  obtain ⟨a2492, e, hF2493⟩ := bindS hF2484; clear hF2484
                  have ea2492 := e; clear e
                  obtain ⟨p2490, m2491, c2486, c2487, c2488⟩ := (H.ro (α := List Int) 5 rfl).setp ea2492
                  refine idxE c2486 c2487 c2488 ?_
                  replace H := H.sel [5, 0, 1, 2, 3, 4] rfl
                  refine setS (α := Int) H c2486 c2487 ea2492 ?_; clear H c2486 c2487 c2488 ea2492; intro w2494 H
                  refine hold trivial ?_
                  refine arK hk hmx2444 ?_
                  have hs := Option.some.inj hF2493; subst hs; clear hF2493
                  exact ⟨(), ⟨rfl, rfl, rfl, rfl, rfl, rfl, rfl, rfl, rfl, rfl, trivial⟩, H.sel [3, 4, 5, 0] rfl⟩
                · clear H e
                  rintro T2496 _ w2495 (H : Cx w0 fp0 S0 w2495 [Es (List (List Int)) y2 h5, E (List Int) r133 h10, E (List (List Int)) s2117_0 g2118, E (List Int) r2445 h2338])
                  refine boolE (z := false) geLen ?_
                  refine sq ?_
                  replace H := H.sel [3, 0, 1, 2] rfl
                  refine lit1 (α := List Int) (g := h2338) gok rfl rfl rfl rfl rfl H ?_; clear H; intro h2500 w2499 hx H
                  clear hx
                  obtain ⟨a2502, e, hF2503⟩ := bindS hF2446; clear hF2446
                  replace H := H.sel [3, 0, 1, 2] rfl
                  refine append_ (α := List Int) gok rfl rfl rfl rfl H e ?_; clear e H; intro h2505 w2504 H
                  exact ⟨(a2502, h2505), ⟨rfl, rfl, rfl, rfl, rfl, rfl, trivial⟩, Option.some.inj hF2503, H.sel [1, 2, 0] rfl⟩
              · have hF2507 := condT hF2333; clear hF2333
                exact ⟨(s2117_0, g2118), ⟨rfl, rfl, rfl, rfl, rfl, rfl, trivial⟩, Option.some.inj hF2507, H.sel [0, 1, 2] rfl⟩
            · clear hF2322 H
              rintro T2509 ⟨s2317, g2318⟩ w2508 ⟨hr, (H : Cx w0 fp0 S0 w2508 [Es (List (List Int)) y2 h5, E (List Int) r133 h10, E (List (List Int)) s2317 g2318])⟩
              subst hr
              obtain ⟨a2510, e, hF2511⟩ := bindS hF2321; clear hF2321
              refine arO e ?_; clear e
              have hs := Option.some.inj hF2511; subst hs; clear hF2511
              exact ⟨(s2317, a2510), g2318, rfl, ⟨rfl, rfl, rfl, rfl, rfl, rfl, trivial⟩, H.sel [0, 1, 2] rfl⟩
      · clear hF1340 H
        rintro T2513 ⟨s1335, g1336⟩ w2512 ⟨hr, (H : Cx w0 fp0 S0 w2512 [E (List (List Int)) s1335 g1336])⟩
        subst hr
        obtain ⟨y2514, e, hF2515⟩ := bindS hF1339; clear hF1339
        have ey2514 := e; clear e
        refine callF (spec_spReduce_c p_ size_ s1335 g1336 y2514 ey2514) (Γi := []) H ⟨Vw.own 0 rfl, trivial⟩ ?_; clear H ey2514
        rintro _ _ w2516 ⟨h2517, rfl, rfl⟩ (H : Cx w0 fp0 S0 w2516 [E (List (List Int)) y2514 h2517, E (List (List Int)) s1335 g1336])
        cases hF2515
        exact ⟨_, _, rfl, ⟨h2517, rfl, rfl⟩, (H.sel [0] rfl).close ⟨cloE, trivial⟩⟩

theorem spec_rzRecurrence_c (p_ : Int) (s_ : List Int) (s_h : Hd) (m_ : Int) (y0 : List Int) (y1 : Bool) (hF : F_spec_rzRecurrence p_ s_ m_ = some (y0, y1)) :
    ConF Tryd.prog 103 #[(.int .i64 p_), (s_h).v, (.int .i64 m_)] [Es (List Int) s_ s_h] [] (fun v Γ' => ∃ z0 : Hd, v = (.tuple #[(z0).v, (.bool y1)]) ∧ Γ' = [E (List Int) y0 z0]) := by
  intro w0 S0 fp0 hI hS
  have H : Cx w0 fp0 S0 w0 [Es (List Int) s_ s_h] := Cx.start hI hS
  clear hI hS
  refine enterC (args := [_, _, _]) gok Tryd.func103 rfl _ rfl rfl rfl ?_
  obtain ⟨a2, e, hF3⟩ := bindS hF; clear hF
  refine make_ (α := List Int) gok rfl rfl rfl rfl (makeCO_of e) H ?_; clear e H; intro h5 w4 hx H
  clear hx
  obtain ⟨r517, hF519, hF518⟩ := bindS hF3; clear hF3
  refine cut (fun (q520 : (List (List Int) × List Int) × Hd) => [(0, (.int .i64 p_)), (2, (.int .i64 m_)), (8, (h5).v), (9, (q520.2).v)]) (fun (q520 : (List (List Int) × List Int) × Hd) w' => (q520.1.1, q520.1.2) = r517 ∧ Cx w0 fp0 S0 w' [E (List (List Int)) q520.1.1 h5, E (List Int) q520.1.2 q520.2]) ?_ ?_
  · skip
    replace H := H.nil (α := Int)
    refine loopW _ (fun (s853 : List (List Int) × Int × List Int) (g854 : Hd) => [(0, (.int .i64 p_)), (1, (s_h).v), (2, (.int .i64 m_)), (8, (h5).v), (9, (g854).v), (10, (.int .i64 s853.2.1))]) (fun (s853 : List (List Int) × Int × List Int) (g854 : Hd) w' => Cx w0 fp0 S0 w' [Es (List Int) s_ s_h, E (List (List Int)) s853.1 h5, E (List Int) s853.2.2 g854]) (a2, m_, []) nilH hF519 ⟨rfl, rfl, rfl, rfl, rfl, rfl, trivial⟩ (H.sel [2, 1, 0] rfl) ?_
    · clear H
      rintro T861 ⟨s853_0, s853_1, s853_2⟩ g854 w860 o862 (H : Cx w0 fp0 S0 w860 [Es (List Int) s_ s_h, E (List (List Int)) s853_0 h5, E (List Int) s853_2 g854]) hrt hF863
      refine sq ?_
      refine lenE (H.rs (α := List Int) 0 rfl).len ?_
      obtain ⟨a864, e, hF865⟩ := bindS hF863; clear hF863
      refine boolO e ?_; clear e
      cases a864
      · have hF866 := condF hF865; clear hF865
        have hs := Option.some.inj hF866; subst hs; clear hF866
        have hF867 : some _ = some _ := congrArg some (hrt _ rfl).symm
        exact ⟨((s853_0, s853_2), g854), ⟨rfl, rfl, rfl, rfl, trivial⟩, Option.some.inj hF867, H.sel [1, 2] rfl⟩
      · have hF868 := condT hF865; clear hF865
        refine sq ?_
        obtain ⟨a875, e, hF876⟩ := bindS hF868; clear hF868
        obtain ⟨p873, m874, c869, c870, c871, c872⟩ := (H.rs (α := List Int) 0 rfl).at1 e; clear e
        refine idxE c869 c870 c871 ?_; clear c869 c870 c871
        refine load1 c872 ?_; clear c872
        obtain ⟨y877, e, hF878⟩ := bindS hF876; clear hF876
        have ey877 := e; clear e
        refine callF (spec_fdNeg_c p_ a875 y877 ey877) (Γi := []) H trivial ?_; clear H ey877
        rintro _ _ w879 ⟨rfl, rfl⟩ (H : Cx w0 fp0 S0 w879 [Es (List Int) s_ s_h, E (List (List Int)) s853_0 h5, E (List Int) s853_2 g854])
        refine lit1S (α := Int) gok rfl rfl rfl rfl H ?_; clear H; intro h881 w880 hx H
        clear hx
        obtain ⟨a883, e, hF884⟩ := bindS hF878; clear hF878
        replace H := H.sel [3, 0, 1, 2] rfl
        refine append_ (α := Int) gok rfl rfl rfl rfl H e ?_; clear e H; intro h886 w885 H
        refine lenE (H.ro (α := List (List Int)) 2 rfl).len ?_
        have hmx975 := (H.ro (α := List (List Int)) 2 rfl).max
        obtain ⟨r976, e, hF977⟩ := bindS hF884; clear hF884
        refine loopS _ s853_0.length (fun (k888 : Nat) (s973 : List (List Int)) (_ : Unit) => [(0, (.int .i64 p_)), (1, (s_h).v), (2, (.int .i64 m_)), (8, (h5).v), (9, (h886).v), (10, (.int .i64 s853_1)), (36, (.int .i64 ((s853_0.length : Nat) : Int))), (37, (.int .i64 ((k888 : Nat) : Int)))]) (fun _ (s973 : List (List Int)) (_ : Unit) w' => Cx w0 fp0 S0 w' [Es (List Int) s_ s_h, E (List (List Int)) s973 h5, E (List Int) a883 h886]) s853_0 () e ⟨rfl, rfl, rfl, rfl, rfl, rfl, rfl, rfl, trivial⟩ (H.sel [1, 2, 0] rfl) ?_ ?_
        · clear H e
          rintro T979 k888 s973 _ w978 o980 hk (H : Cx w0 fp0 S0 w978 [Es (List Int) s_ s_h, E (List (List Int)) s973 h5, E (List Int) a883 h886]) hF981
          refine boolE (z := true) (ltLen hk) ?_
          refine sq ?_
          refine sq ?_
          refine heldX H [14, 16, 15, 0, 1] (.pure 0 (.pure 1 (.fst 2 (.fst 3 (.fst 4 (.fst 6 (.fst 7 (.fst 8 (.fst 9 (.fst 10 (.fst 11 (.fst 5 (.fst 12 (.act 13 (.act 14 (.act 15 (.act 16 .done))))))))))))))))) mixed [] trivial (by kernel_rfl) ?_
          clear H; intro w982 H
          have hX : Ext w982 w982 := Upd.refl _ _
          have H0 := H
          obtain ⟨a989, e, hF990⟩ := bindS hF981; clear hF981
          replace H := H.sel [1, 0, 2] rfl
          replace H := H.toEH (α := List Int)
          have HH := H; clear H; obtain ⟨p987, m988, h991, c983, c984, c985, c986, H⟩ := HH.peekL e; clear HH
          clear e
          refine idxE c983 c984 c985 ?_
          obtain ⟨a992, e, hF993⟩ := bindS hF990; clear hF990
          refine arO e ?_; clear e
          obtain ⟨a994, e, hF995⟩ := bindS hF993; clear hF993
          refine arO e ?_; clear e
          obtain ⟨a1002, e, hF1003⟩ := bindS hF995; clear hF995
          obtain ⟨p1000, m1001, c996, c997, c998, c999⟩ := (H.rs (α := List Int) 1 rfl).at1 e; clear e
          refine idxE c996 c997 c998 ?_; clear c996 c997 c998
          refine load1X c986 ?_; clear c986
          refine load1X c999 ?_; clear c999
          refine lit1S (α := Int) gok rfl rfl rfl rfl H ?_; clear H; intro h1005 w1004 hx H
          replace hX := hX.trans0 hx; clear hx
          refine hold hX ?_
          replace H := H.sel [1, 0, 2, 3] rfl
          replace H := H.takeK 0 rfl
          obtain ⟨a1008, e, hF1009⟩ := bindS hF1003; clear hF1003
          replace H := H.sel [0, 2, 1, 3, 4] rfl
          refine append_ (α := Int) gok rfl rfl rfl rfl H e ?_; clear e H; intro h1011 w1010 H
          refine hold trivial ?_
          refine idxE c983 c984 c985 ?_
          refine hold trivial ?_
          replace H := H.sel [1, 0, 2, 3] rfl
          refine stX0 H c983 rfl rfl ?_; clear H; intro w1019 H
          obtain ⟨a1020, e, hF1021⟩ := bindS hF1009; clear hF1009
          replace H := H.sel [1, 0, 2, 3] rfl
          replace H := H.put c984 e; clear e
          refine hold trivial ?_
          refine arK hk hmx975 ?_
          have hs := Option.some.inj hF1021; subst hs; clear hF1021
          exact ⟨(), ⟨rfl, rfl, rfl, rfl, rfl, rfl, rfl, rfl, trivial⟩, H.sel [1, 0, 2] rfl⟩
        · clear H e
          rintro T1023 _ w1022 (H : Cx w0 fp0 S0 w1022 [Es (List Int) s_ s_h, E (List (List Int)) r976 h5, E (List Int) a883 h886])
          refine boolE (z := false) geLen ?_
          refine sq ?_
          obtain ⟨a1026, e, hF1027⟩ := bindS hF977; clear hF977
          refine arO e ?_; clear e
          have hs := Option.some.inj hF1027; subst hs; clear hF1027
          exact ⟨(r976, a1026, a883), h886, rfl, ⟨rfl, rfl, rfl, rfl, rfl, rfl, trivial⟩, H.sel [0, 1, 2] rfl⟩
  · clear hF519 H
    rintro T1029 ⟨⟨s514_0, s514_1⟩, g515⟩ w1028 ⟨hr, (H : Cx w0 fp0 S0 w1028 [E (List (List Int)) s514_0 h5, E (List Int) s514_1 g515])⟩
    subst hr
    refine lenE (H.ro (α := List Int) 1 rfl).len ?_
    refine build_ (cs := #[(.int .i64 ((s514_1.length : Nat) : Int)), (h5).v]) gok rfl rfl rfl ?_
    refine alloc_ gok rfl H ?_; clear H; intro b1031 w1030 hx H
    clear hx
    replace H : Cx w0 fp0 S0 w1030 [Bx b1031 [(.int .i64 0), (.slice none 0 0)], E (List (List Int)) s514_0 h5, E (List Int) s514_1 g515] := H
    refine stA gok [(.int .i64 ((s514_1.length : Nat) : Int)), (h5).v] rfl H rfl rfl rfl ?_; clear H; intro w1033 H
    replace H : Cx w0 fp0 S0 w1033 [Bx b1031 [(.int .i64 ((s514_1.length : Nat) : Int)), (h5).v], E (List (List Int)) s514_0 h5, E (List Int) s514_1 g515] := H
    refine loadN [(.int .i64 ((s514_1.length : Nat) : Int)), (h5).v] rfl (fun j u hj => H.bx 0 rfl hj) ?_
    obtain ⟨y1034, e, hF1035⟩ := bindS hF518; clear hF518
    obtain ⟨y1034_0, y1034_1⟩ := y1034
    have ey1034 := e; clear e
    refine callF (spec_mxSolve_c p_ ((s514_1.length : Nat) : Int) s514_0 h5 s514_1 g515 y1034_0 y1034_1 ey1034) (Γi := []) H ⟨Vw.own 1 rfl, Vw.own 2 rfl, trivial⟩ ?_; clear H ey1034
    rintro _ _ w1036 ⟨h1037, rfl, rfl⟩ (H : Cx w0 fp0 S0 w1036 [E (List Int) y1034_0 h1037, Bx b1031 [(.int .i64 ((s514_1.length : Nat) : Int)), (h5).v], E (List (List Int)) s514_0 h5, E (List Int) s514_1 g515])
    refine sq ?_
    obtain ⟨a1039, e, hF1040⟩ := bindS hF1035; clear hF1035
    refine boolO e ?_; clear e
    cases a1039
    · have hF1041 := condF hF1040; clear hF1040
      refine sq ?_
      refine loadN [(.int .i64 ((s514_1.length : Nat) : Int)), (h5).v] rfl (fun j u hj => H.bx 1 rfl hj) ?_
      obtain ⟨y1042, e, hF1043⟩ := bindS hF1041; clear hF1041
      obtain ⟨y1042_0, y1042_1⟩ := y1042
      have ey1042 := e; clear e
      refine callF (spec_mxTurn_c ((s514_1.length : Nat) : Int) s514_0 h5 y1042_0 y1042_1 ey1042) (Γi := []) H ⟨Vw.own 2 rfl, trivial⟩ ?_; clear H ey1042
      rintro _ _ w1044 ⟨h1045, rfl, rfl⟩ (H : Cx w0 fp0 S0 w1044 [E (List (List Int)) y1042_1 h1045, E (List Int) y1034_0 h1037, Bx b1031 [(.int .i64 ((s514_1.length : Nat) : Int)), (h5).v], E (List (List Int)) s514_0 h5, E (List Int) s514_1 g515])
      obtain ⟨y1047, e, hF1048⟩ := bindS hF1043; clear hF1043
      have ey1047 := e; clear e
      refine callF (spec_spNull_c p_ m_ y1042_1 h1045 y1047 ey1047) (Γi := []) H ⟨Vw.own 0 rfl, trivial⟩ ?_; clear H ey1047
      rintro _ _ w1049 ⟨h1050, rfl, rfl⟩ (H : Cx w0 fp0 S0 w1049 [E (List (List Int)) y1047 h1050, E (List (List Int)) y1042_1 h1045, E (List Int) y1034_0 h1037, Bx b1031 [(.int .i64 ((s514_1.length : Nat) : Int)), (h5).v], E (List (List Int)) s514_0 h5, E (List Int) s514_1 g515])
      refine lenE (H.ro (α := List (List Int)) 0 rfl).len ?_
      replace H := H.frz
      have hmx1133 := (H.rs (α := List (List Int)) 0 rfl).max
      obtain ⟨r1134, e, hF1135⟩ := bindS hF1048; clear hF1048
      refine loopS _ y1047.length (fun (k1052 : Nat) (s1131 : List Int) (_ : Unit) => [(0, (.int .i64 p_)), (13, (h1037).v), (75, (h1050).v), (76, (.int .i64 ((y1047.length : Nat) : Int))), (77, (.int .i64 ((k1052 : Nat) : Int)))]) (fun _ (s1131 : List Int) (_ : Unit) w' => Cx w0 fp0 S0 w' [E (List Int) s1131 h1037, Es (List (List Int)) y1047 h1050]) y1034_0 () e ⟨rfl, rfl, rfl, rfl, rfl, trivial⟩ (H.sel [2, 0] rfl) ?_ ?_
      · clear H e
        rintro T1137 k1052 s1131 _ w1136 o1138 hk (H : Cx w0 fp0 S0 w1136 [E (List Int) s1131 h1037, Es (List (List Int)) y1047 h1050]) hF1139
        refine boolE (z := true) (ltLen hk) ?_
        refine sq ?_
        refine sq ?_
        obtain ⟨a1146, e, hF1147⟩ := bindS hF1139; clear hF1139
        have HH := H; clear H; obtain ⟨p1144, m1145, h1148, c1140, c1141, c1142, c1143, H⟩ := HH.elL 1 rfl e; clear HH
        clear e
        refine idxE c1140 c1141 c1142 ?_; clear c1140 c1141 c1142
        refine load1 c1143 ?_; clear c1143
        obtain ⟨y1150, e, hF1151⟩ := bindS hF1147; clear hF1147
        have ey1150 := e; clear e
        refine callF (spec_spLead_c a1146 h1148 y1150 ey1150) (Γi := []) H ⟨Vw.sh 0 rfl, trivial⟩ ?_; clear H ey1150
        rintro _ _ w1152 ⟨rfl, rfl⟩ (H : Cx w0 fp0 S0 w1152 [Es (List Int) a1146 h1148, E (List Int) s1131 h1037, Es (List (List Int)) y1047 h1050])
        obtain ⟨a1159, e, hF1160⟩ := bindS hF1151; clear hF1151
        obtain ⟨p1157, m1158, c1153, c1154, c1155, c1156⟩ := (H.ro (α := List Int) 1 rfl).at1 e; clear e
        refine idxE c1153 c1154 c1155 ?_; clear c1153 c1154 c1155
        refine load1 c1156 ?_; clear c1156
        obtain ⟨y1161, e, hF1162⟩ := bindS hF1160; clear hF1160
        have ey1161 := e; clear e
        replace H := H.sel [1, 0, 2] rfl
        refine callF (spec_mxLess_c p_ s1131 h1037 a1146 h1148 a1159 y1161 ey1161) (Γi := [E (List Int) s1131 h1037]) H ⟨Vw.sh 0 rfl, trivial⟩ ?_; clear H ey1161
        rintro _ _ w1163 ⟨rfl, rfl⟩ (H : Cx w0 fp0 S0 w1163 [E (List Int) y1161 h1037, Es (List Int) a1146 h1148, Es (List (List Int)) y1047 h1050])
        refine arK hk hmx1133 ?_
        have hs := Option.some.inj hF1162; subst hs; clear hF1162
        exact ⟨(), ⟨rfl, rfl, rfl, rfl, rfl, trivial⟩, H.sel [0, 2] rfl⟩
      · clear H e
        rintro T1165 _ w1164 (H : Cx w0 fp0 S0 w1164 [E (List Int) r1134 h1037, Es (List (List Int)) y1047 h1050])
        refine boolE (z := false) geLen ?_
        refine sq ?_
        cases hF1135
        exact ⟨_, _, rfl, ⟨h1037, rfl, rfl⟩, (H.sel [0] rfl).close ⟨cloE, trivial⟩⟩
    · have hF1168 := condT hF1040; clear hF1040
      replace H := H.nil (α := Int)
      cases hF1168
      exact ⟨_, _, rfl, ⟨nilH, rfl, rfl⟩, (H.sel [0] rfl).close ⟨cloE, trivial⟩⟩

theorem spec_ShortestRecurrence_c (p_ : Int) (s_ : List Int) (s_h : Hd) (y0 : List Int) (y1 : Bool) (hF : F_spec_ShortestRecurrence p_ s_ = some (y0, y1)) :
    ConF Tryd.prog 53 #[(.int .i64 p_), (s_h).v] [Es (List Int) s_ s_h] [] (fun v Γ' => ∃ z0 : Hd, v = (.tuple #[(z0).v, (.bool y1)]) ∧ Γ' = [E (List Int) y0 z0]) := by
  intro w0 S0 fp0 hI hS
  have H : Cx w0 fp0 S0 w0 [Es (List Int) s_ s_h] := Cx.start hI hS
  clear hI hS
  refine enterC (args := [_, _]) gok Tryd.func53 rfl _ rfl rfl rfl ?_
  refine sq ?_
  obtain ⟨y2, e, hF3⟩ := bindS hF; clear hF
  have ey2 := e; clear e
  refine callF (spec_rzList_c p_ s_ s_h y2 ey2) (Γi := []) H ⟨Vw.sh 0 rfl, trivial⟩ ?_; clear H ey2
  rintro _ _ w4 ⟨rfl, rfl⟩ (H : Cx w0 fp0 S0 w4 [Es (List Int) s_ s_h])
  obtain ⟨a5, e, hF6⟩ := bindS hF3; clear hF3
  refine boolO e ?_; clear e
  cases a5
  · have hF7 := condF hF6; clear hF6
    obtain ⟨r64, hF66, hF65⟩ := bindS hF7; clear hF7
    refine cut (fun (q67 : Unit) => []) (fun (q67 : Unit) w' => .inl () = r64 ∧ Cx w0 fp0 S0 w' []) ?_ ?_
    · skip
      refine loopW _ (fun (s98 : Int) (_ : Unit) => [(0, (.int .i64 p_)), (1, (s_h).v), (6, (.int .i64 s98))]) (fun (s98 : Int) (_ : Unit) w' => Cx w0 fp0 S0 w' [Es (List Int) s_ s_h]) 0 () hF66 ⟨rfl, rfl, rfl, trivial⟩ (H.sel [0] rfl) ?_
      · clear H
        rintro T104 s98 _ w103 o105 (H : Cx w0 fp0 S0 w103 [Es (List Int) s_ s_h]) hrt hF106
        refine sq ?_
        refine lenE (H.rs (α := List Int) 0 rfl).len ?_
        obtain ⟨a107, e, hF108⟩ := bindS hF106; clear hF106
        refine boolO e ?_; clear e
        cases a107
        · have hF109 := condF hF108; clear hF108
          have hs := Option.some.inj hF109; subst hs; clear hF109
          have hF110 : some _ = some _ := congrArg some (hrt _ rfl).symm
          exact ⟨(), trivial, Option.some.inj hF110, H.sel [] rfl⟩
        · have hF111 := condT hF108; clear hF108
          refine sq ?_
          obtain ⟨y112, e, hF113⟩ := bindS hF111; clear hF111
          obtain ⟨y112_0, y112_1⟩ := y112
          have ey112 := e; clear e
          refine callF (spec_rzRecurrence_c p_ s_ s_h s98 y112_0 y112_1 ey112) (Γi := []) H ⟨Vw.sh 0 rfl, trivial⟩ ?_; clear H ey112
          rintro _ _ w114 ⟨h115, rfl, rfl⟩ (H : Cx w0 fp0 S0 w114 [E (List Int) y112_0 h115, Es (List Int) s_ s_h])
          cases y112_1
          · have hF117 := condF hF113; clear hF113
            obtain ⟨a118, e, hF119⟩ := bindS hF117; clear hF117
            refine arO e ?_; clear e
            have hs := Option.some.inj hF119; subst hs; clear hF119
            exact ⟨a118, (), rfl, ⟨rfl, rfl, rfl, trivial⟩, H.sel [1] rfl⟩
          · have hF120 := condT hF113; clear hF113
            have hs := Option.some.inj hF120; subst hs; clear hF120
            have hF121 : some _ = some _ := congrArg some (hrt _ rfl).symm
            have hs := Option.some.inj hF121; subst hs; clear hF121
            have hF122 : some _ = some _ := hF65; clear hF65
            cases hF122
            exact ⟨_, _, rfl, ⟨h115, rfl, rfl⟩, (H.sel [0] rfl).close ⟨cloE, trivial⟩⟩
    · clear hF66 H
      rintro T124 _ w123 ⟨hr, (H : Cx w0 fp0 S0 w123 [])⟩
      subst hr
      replace H := H.nil (α := Int)
      cases hF65
      exact ⟨_, _, rfl, ⟨nilH, rfl, rfl⟩, (H.sel [0] rfl).close ⟨cloE, trivial⟩⟩
  · have hF126 := condT hF6; clear hF6
    replace H := H.nil (α := Int)
    cases hF126
    exact ⟨_, _, rfl, ⟨nilH, rfl, rfl⟩, (H.sel [0] rfl).close ⟨cloE, trivial⟩⟩

theorem impl_isField_c (p_ : Int) (y : Bool) (hF : F_impl_isField p_ = some y) :
    ConF Tryd.prog 104 #[(.int .i64 p_)] [Gl 0 [.int .i64 2, .int .i64 3, .int .i64 5, .int .i64 7]] [] (fun v Γ' => v = (.bool y) ∧ Γ' = []) := by
  intro w0 S0 fp0 hI hS
  have H : Cx w0 fp0 S0 w0 [Gl 0 [.int .i64 2, .int .i64 3, .int .i64 5, .int .i64 7]] := Cx.start hI hS
  clear hI hS
  refine enterC (args := [_]) gok Tryd.func104 rfl _ rfl rfl rfl ?_
  refine sq ?_
  obtain ⟨r10, hF12, hF11⟩ := bindS hF; clear hF
  refine cut (fun (q13 : Bool) => [(0, (.int .i64 p_)), (10, (.bool q13))]) (fun (q13 : Bool) w' => q13 = r10 ∧ Cx w0 fp0 S0 w' [Gl 0 [.int .i64 2, .int .i64 3, .int .i64 5, .int .i64 7]]) ?_ ?_
  · skip
    obtain ⟨a14, e, hF15⟩ := bindS hF12; clear hF12
    refine boolO e ?_; clear e
    cases a14
    · have hF16 := condF hF15; clear hF15
      obtain ⟨a17, e, hF18⟩ := bindS hF16; clear hF16
      refine boolO e ?_; clear e
      exact ⟨a17, ⟨rfl, rfl, trivial⟩, Option.some.inj hF18, H.sel [0] rfl⟩
    · have hF19 := condT hF15; clear hF15
      exact ⟨true, ⟨rfl, rfl, trivial⟩, Option.some.inj hF19, H.sel [0] rfl⟩
  · clear hF12 H
    rintro T21 s8 w20 ⟨hr, (H : Cx w0 fp0 S0 w20 [Gl 0 [.int .i64 2, .int .i64 3, .int .i64 5, .int .i64 7]])⟩
    subst hr
    cases s8
    · have hF22 := condF hF11; clear hF11
      refine sq ?_
      refine loadN [.int .i64 2, .int .i64 3, .int .i64 5, .int .i64 7] rfl (H.gl 0 rfl) ?_
      obtain ⟨a56, hn, hF57⟩ := bindS hF22; clear hF22
      obtain ⟨r59, e, hF60⟩ := bindS hF57; clear hF57
      refine loopO _ ((4 : Int).toNat) (fun (k23 : Nat) (_ : Unit) (_ : Unit) => [(0, (.int .i64 p_)), (11, (.agg #[.int .i64 2, .int .i64 3, .int .i64 5, .int .i64 7])), (12, (.int .i64 ((k23 : Nat) : Int)))]) (fun _ (_ : Unit) (_ : Unit) w' => Cx w0 fp0 S0 w' [Gl 0 [.int .i64 2, .int .i64 3, .int .i64 5, .int .i64 7]]) () () e ⟨rfl, rfl, rfl, trivial⟩ (H.sel [0] rfl) ?_ ?_
      · clear H e
        rintro T62 k23 _ _ w61 o63 hk (H : Cx w0 fp0 S0 w61 [Gl 0 [.int .i64 2, .int .i64 3, .int .i64 5, .int .i64 7]]) hrt hF64
        refine boolE (z := true) (ltNat hk) ?_
        refine sq ?_
        refine sq ?_
        obtain ⟨a65, e, hF66⟩ := bindS hF64; clear hF64
        refine indexI gok rfl rfl rfl rfl rfl e ?_; clear e
        obtain ⟨r77, hF79, hF78⟩ := bindS hF66; clear hF66
        refine cut (fun (q80 : Bool) => [(0, (.int .i64 p_)), (11, (.agg #[.int .i64 2, .int .i64 3, .int .i64 5, .int .i64 7])), (12, (.int .i64 ((k23 : Nat) : Int))), (23, (.bool q80))]) (fun (q80 : Bool) w' => q80 = r77 ∧ Cx w0 fp0 S0 w' [Gl 0 [.int .i64 2, .int .i64 3, .int .i64 5, .int .i64 7]]) ?_ ?_
        · skip
          obtain ⟨a81, e, hF82⟩ := bindS hF79; clear hF79
          refine remO_ e ?_; clear e
          obtain ⟨a83, e, hF84⟩ := bindS hF82; clear hF82
          refine boolO e ?_; clear e
          cases a83
          · have hF85 := condF hF84; clear hF84
            exact ⟨false, ⟨rfl, rfl, rfl, rfl, trivial⟩, Option.some.inj hF85, H.sel [0] rfl⟩
          · have hF86 := condT hF84; clear hF84
            obtain ⟨a87, e, hF88⟩ := bindS hF86; clear hF86
            refine boolO e ?_; clear e
            exact ⟨a87, ⟨rfl, rfl, rfl, rfl, trivial⟩, Option.some.inj hF88, H.sel [0] rfl⟩
        · clear hF79 H
          rintro T90 s75 w89 ⟨hr, (H : Cx w0 fp0 S0 w89 [Gl 0 [.int .i64 2, .int .i64 3, .int .i64 5, .int .i64 7]])⟩
          subst hr
          cases s75
          · have hF91 := condF hF78; clear hF78
            refine arK hk (maxI hn) ?_
            have hs := Option.some.inj hF91; subst hs; clear hF91
            exact ⟨(), (), rfl, ⟨rfl, rfl, rfl, trivial⟩, H.sel [0] rfl⟩
          · have hF92 := condT hF78; clear hF78
            have hs := Option.some.inj hF92; subst hs; clear hF92
            have hr := hrt _ rfl; subst hr
            have hF93 : some _ = some _ := hF60
            cases hF93
            exact ⟨_, _, rfl, ⟨rfl, rfl⟩, (H.sel [] rfl).close trivial⟩
      · clear H e
        rintro T95 _ _ w94 hr (H : Cx w0 fp0 S0 w94 [Gl 0 [.int .i64 2, .int .i64 3, .int .i64 5, .int .i64 7]])
        subst hr
        refine boolE (z := false) geNat ?_
        refine sq ?_
        cases hF60
        exact ⟨_, _, rfl, ⟨rfl, rfl⟩, (H.sel [] rfl).close trivial⟩
    · have hF98 := condT hF11; clear hF11
      cases hF98
      exact ⟨_, _, rfl, ⟨rfl, rfl⟩, (H.sel [] rfl).close trivial⟩

theorem impl_isElement_c (p_ : Int) (a_ : Int) (y : Bool) (hF : F_impl_isElement p_ a_ = some y) :
    ConF Tryd.prog 133 #[(.int .i64 p_), (.int .i64 a_)] [] [] (fun v Γ' => v = (.bool y) ∧ Γ' = []) := by
  intro w0 S0 fp0 hI hS
  have H : Cx w0 fp0 S0 w0 [] := Cx.start hI hS
  clear hI hS
  refine enterC (args := [_, _]) gok Tryd.func133 rfl _ rfl rfl rfl ?_
  obtain ⟨r9, hF11, hF10⟩ := bindS hF; clear hF
  refine cut (fun (q12 : Bool) => [(4, (.bool q12))]) (fun (q12 : Bool) w' => q12 = r9 ∧ Cx w0 fp0 S0 w' []) ?_ ?_
  · skip
    obtain ⟨a13, e, hF14⟩ := bindS hF11; clear hF11
    refine boolO e ?_; clear e
    cases a13
    · have hF15 := condF hF14; clear hF14
      exact ⟨false, ⟨rfl, trivial⟩, Option.some.inj hF15, H.sel [] rfl⟩
    · have hF16 := condT hF14; clear hF14
      obtain ⟨a17, e, hF18⟩ := bindS hF16; clear hF16
      refine boolO e ?_; clear e
      exact ⟨a17, ⟨rfl, trivial⟩, Option.some.inj hF18, H.sel [] rfl⟩
  · clear hF11 H
    rintro T20 s7 w19 ⟨hr, (H : Cx w0 fp0 S0 w19 [])⟩
    subst hr
    cases hF10
    exact ⟨_, _, rfl, ⟨rfl, rfl⟩, (H.sel [] rfl).close trivial⟩

theorem impl_isVector_c (p_ : Int) (v_ : List Int) (v_h : Hd) (n_ : Int) (y : Bool) (hF : F_impl_isVector p_ v_ n_ = some y) :
    ConF Tryd.prog 85 #[(.int .i64 p_), (v_h).v, (.int .i64 n_)] [Es (List Int) v_ v_h] [] (fun v Γ' => v = (.bool y) ∧ Γ' = []) := by
  intro w0 S0 fp0 hI hS
  have H : Cx w0 fp0 S0 w0 [Es (List Int) v_ v_h] := Cx.start hI hS
  clear hI hS
  refine enterC (args := [_, _, _]) gok Tryd.func85 rfl _ rfl rfl rfl ?_
  refine sq ?_
  refine lenE (H.rs (α := List Int) 0 rfl).len ?_
  obtain ⟨a2, e, hF3⟩ := bindS hF; clear hF
  refine boolO e ?_; clear e
  cases a2
  · have hF4 := condF hF3; clear hF3
    refine sq ?_
    refine lenE (H.rs (α := List Int) 0 rfl).len ?_
    have hmx25 := (H.rs (α := List Int) 0 rfl).max
    obtain ⟨r26, e, hF27⟩ := bindS hF4; clear hF4
    refine loopO _ v_.length (fun (k5 : Nat) (_ : Unit) (_ : Unit) => [(0, (.int .i64 p_)), (13, (v_h).v), (14, (.int .i64 ((v_.length : Nat) : Int))), (15, (.int .i64 ((k5 : Nat) : Int)))]) (fun _ (_ : Unit) (_ : Unit) w' => Cx w0 fp0 S0 w' [Es (List Int) v_ v_h]) () () e ⟨rfl, rfl, rfl, rfl, trivial⟩ (H.sel [0] rfl) ?_ ?_
    · clear H e
      rintro T29 k5 _ _ w28 o30 hk (H : Cx w0 fp0 S0 w28 [Es (List Int) v_ v_h]) hrt hF31
      refine boolE (z := true) (ltLen hk) ?_
      refine sq ?_
      refine sq ?_
      obtain ⟨a38, e, hF39⟩ := bindS hF31; clear hF31
      obtain ⟨p36, m37, c32, c33, c34, c35⟩ := (H.rs (α := List Int) 0 rfl).at1 e; clear e
      refine idxE c32 c33 c34 ?_; clear c32 c33 c34
      refine load1 c35 ?_; clear c35
      obtain ⟨y40, e, hF41⟩ := bindS hF39; clear hF39
      have ey40 := e; clear e
      refine callF (impl_isElement_c p_ a38 y40 ey40) (Γi := []) H trivial ?_; clear H ey40
      rintro _ _ w42 ⟨rfl, rfl⟩ (H : Cx w0 fp0 S0 w42 [Es (List Int) v_ v_h])
      obtain ⟨a43, e, hF44⟩ := bindS hF41; clear hF41
      refine boolO e ?_; clear e
      cases a43
      · have hF45 := condF hF44; clear hF44
        refine arK hk hmx25 ?_
        have hs := Option.some.inj hF45; subst hs; clear hF45
        exact ⟨(), (), rfl, ⟨rfl, rfl, rfl, rfl, trivial⟩, H.sel [0] rfl⟩
      · have hF46 := condT hF44; clear hF44
        have hs := Option.some.inj hF46; subst hs; clear hF46
        have hr := hrt _ rfl; subst hr
        have hF47 : some _ = some _ := hF27
        cases hF47
        exact ⟨_, _, rfl, ⟨rfl, rfl⟩, (H.sel [] rfl).close trivial⟩
    · clear H e
      rintro T49 _ _ w48 hr (H : Cx w0 fp0 S0 w48 [Es (List Int) v_ v_h])
      subst hr
      refine boolE (z := false) geLen ?_
      refine sq ?_
      cases hF27
      exact ⟨_, _, rfl, ⟨rfl, rfl⟩, (H.sel [] rfl).close trivial⟩
  · have hF52 := condT hF3; clear hF3
    cases hF52
    exact ⟨_, _, rfl, ⟨rfl, rfl⟩, (H.sel [] rfl).close trivial⟩

theorem impl_mod_c (p_ : Int) (a_ : Int) (y : Int) (hF : F_impl_mod p_ a_ = some y) :
    ConF Tryd.prog 143 #[(.int .i64 p_), (.int .i64 a_)] [] [] (fun v Γ' => v = (.int .i64 y) ∧ Γ' = []) := by
  intro w0 S0 fp0 hI hS
  have H : Cx w0 fp0 S0 w0 [] := Cx.start hI hS
  clear hI hS
  refine enterC (args := [_, _]) gok Tryd.func143 rfl _ rfl rfl rfl ?_
  obtain ⟨a1, e, hF2⟩ := bindS hF; clear hF
  refine remO_ e ?_; clear e
  refine sq ?_
  obtain ⟨a3, e, hF4⟩ := bindS hF2; clear hF2
  refine boolO e ?_; clear e
  cases a3
  · have hF5 := condF hF4; clear hF4
    cases hF5
    exact ⟨_, _, rfl, ⟨rfl, rfl⟩, (H.sel [] rfl).close trivial⟩
  · have hF6 := condT hF4; clear hF4
    obtain ⟨a7, e, hF8⟩ := bindS hF6; clear hF6
    refine arO e ?_; clear e
    cases hF8
    exact ⟨_, _, rfl, ⟨rfl, rfl⟩, (H.sel [] rfl).close trivial⟩

theorem impl_zeros_c (n_ : Int) (y : List Int) (hF : F_impl_zeros n_ = some y) :
    ConF Tryd.prog 149 #[(.int .i64 n_)] [] [] (fun v Γ' => ∃ z0 : Hd, v = (z0).v ∧ Γ' = [E (List Int) y z0]) := by
  intro w0 S0 fp0 hI hS
  have H : Cx w0 fp0 S0 w0 [] := Cx.start hI hS
  clear hI hS
  refine enterC (args := [_]) gok Tryd.func149 rfl _ rfl rfl rfl ?_
  obtain ⟨a1, e, hF2⟩ := bindS hF; clear hF
  refine make_ (α := Int) gok rfl rfl rfl rfl (makeCO_of e) H ?_; clear e H; intro h4 w3 hx H
  clear hx
  cases hF2
  exact ⟨_, _, rfl, ⟨h4, rfl, rfl⟩, (H.sel [0] rfl).close ⟨cloE, trivial⟩⟩

theorem impl_clone_c (list_ : List Int) (list_h : Hd) (y : List Int) (hF : F_impl_clone list_ = some y) :
    ConF Tryd.prog 134 #[(list_h).v] [Es (List Int) list_ list_h] [] (fun v Γ' => ∃ z0 : Hd, v = (z0).v ∧ Γ' = [E (List Int) y z0]) := by
  intro w0 S0 fp0 hI hS
  have H : Cx w0 fp0 S0 w0 [Es (List Int) list_ list_h] := Cx.start hI hS
  clear hI hS
  refine enterC (args := [_]) gok Tryd.func134 rfl _ rfl rfl rfl ?_
  refine lit0 (α := Int) gok rfl rfl H ?_; clear H; intro h3 w2 hx H
  clear hx
  obtain ⟨a5, e, hF6⟩ := bindS hF; clear hF
  refine appendS (α := Int) gok rfl rfl rfl rfl H (Vw.sh 0 rfl) e ?_; clear e H; intro h8 w7 H
  cases hF6
  exact ⟨_, _, rfl, ⟨h8, rfl, rfl⟩, (H.sel [0] rfl).close ⟨cloE, trivial⟩⟩

theorem impl_clones_c (list_ : List (List Int)) (list_h : Hd) (y : List (List Int)) (hF : F_impl_clones list_ = some y) :
    ConF Tryd.prog 109 #[(list_h).v] [Es (List (List Int)) list_ list_h] [] (fun v Γ' => ∃ z0 : Hd, v = (z0).v ∧ Γ' = [E (List (List Int)) y z0]) := by
  intro w0 S0 fp0 hI hS
  have H : Cx w0 fp0 S0 w0 [Es (List (List Int)) list_ list_h] := Cx.start hI hS
  clear hI hS
  refine enterC (args := [_]) gok Tryd.func109 rfl _ rfl rfl rfl ?_
  refine lenE (H.rs (α := List (List Int)) 0 rfl).len ?_
  obtain ⟨a2, e, hF3⟩ := bindS hF; clear hF
  refine make_ (α := List Int) gok rfl rfl rfl rfl e H ?_; clear e H; intro h5 w4 hx H
  clear hx
  refine sq ?_
  refine lenE (H.rs (α := List (List Int)) 1 rfl).len ?_
  have hmx62 := (H.rs (α := List (List Int)) 1 rfl).max
  obtain ⟨r63, e, hF64⟩ := bindS hF3; clear hF3
  refine loopS _ list_.length (fun (k7 : Nat) (s59 : List (List Int)) (g60 : Hd) => [(3, (g60).v), (9, (list_h).v), (10, (.int .i64 ((list_.length : Nat) : Int))), (11, (.int .i64 ((k7 : Nat) : Int)))]) (fun _ (s59 : List (List Int)) (g60 : Hd) w' => Cx w0 fp0 S0 w' [E (List (List Int)) s59 g60, Es (List (List Int)) list_ list_h]) a2 h5 e ⟨rfl, rfl, rfl, rfl, trivial⟩ (H.sel [0, 1] rfl) ?_ ?_
  · clear H e
    rintro T66 k7 s59 g60 w65 o67 hk (H : Cx w0 fp0 S0 w65 [E (List (List Int)) s59 g60, Es (List (List Int)) list_ list_h]) hF68
    refine boolE (z := true) (ltLen hk) ?_
    refine sq ?_
    refine sq ?_
    obtain ⟨a75, e, hF76⟩ := bindS hF68; clear hF68
    have HH := H; clear H; obtain ⟨p73, m74, h77, c69, c70, c71, c72, H⟩ := HH.elL 1 rfl e; clear HH
    clear e
    refine idxE c69 c70 c71 ?_; clear c69 c70 c71
    refine load1 c72 ?_; clear c72
    obtain ⟨y79, e, hF80⟩ := bindS hF76; clear hF76
    have ey79 := e; clear e
    refine callF (impl_clone_c a75 h77 y79 ey79) (Γi := []) H ⟨Vw.sh 0 rfl, trivial⟩ ?_; clear H ey79
    rintro _ _ w81 ⟨h82, rfl, rfl⟩ (H : Cx w0 fp0 S0 w81 [E (List Int) y79 h82, Es (List Int) a75 h77, E (List (List Int)) s59 g60, Es (List (List Int)) list_ list_h])
    refine lit1 (α := List Int) (g := h82) gok rfl rfl rfl rfl rfl H ?_; clear H; intro h85 w84 hx H
    clear hx
    obtain ⟨a87, e, hF88⟩ := bindS hF80; clear hF80
    replace H := H.sel [2, 0, 1, 3] rfl
    refine append_ (α := List Int) gok rfl rfl rfl rfl H e ?_; clear e H; intro h90 w89 H
    refine arK hk hmx62 ?_
    have hs := Option.some.inj hF88; subst hs; clear hF88
    exact ⟨h90, ⟨rfl, rfl, rfl, rfl, trivial⟩, H.sel [0, 2] rfl⟩
  · clear H e
    rintro T93 g95 w92 (H : Cx w0 fp0 S0 w92 [E (List (List Int)) r63 g95, Es (List (List Int)) list_ list_h])
    refine boolE (z := false) geLen ?_
    refine sq ?_
    cases hF64
    exact ⟨_, _, rfl, ⟨g95, rfl, rfl⟩, (H.sel [0] rfl).close ⟨cloE, trivial⟩⟩

theorem impl_bit_c (yes_ : Bool) (y : Int) (hF : F_impl_bit yes_ = some y) :
    ConF Tryd.prog 161 #[(.bool yes_)] [] [] (fun v Γ' => v = (.int .i64 y) ∧ Γ' = []) := by
  intro w0 S0 fp0 hI hS
  have H : Cx w0 fp0 S0 w0 [] := Cx.start hI hS
  clear hI hS
  refine enterC (args := [_]) gok Tryd.func161 rfl _ rfl rfl rfl ?_
  refine sq ?_
  cases yes_
  · have hF1 := condF hF; clear hF
    cases hF1
    exact ⟨_, _, rfl, ⟨rfl, rfl⟩, (H.sel [] rfl).close trivial⟩
  · have hF2 := condT hF; clear hF
    cases hF2
    exact ⟨_, _, rfl, ⟨rfl, rfl⟩, (H.sel [] rfl).close trivial⟩

theorem impl_power_c (p_ : Int) (a_ : Int) (n_ : Int) (y : Int) (hF : F_impl_power p_ a_ n_ = some y) :
    ConF Tryd.prog 160 #[(.int .i64 p_), (.int .i64 a_), (.int .i64 n_)] [] [] (fun v Γ' => v = (.int .i64 y) ∧ Γ' = []) := by
  intro w0 S0 fp0 hI hS
  have H : Cx w0 fp0 S0 w0 [] := Cx.start hI hS
  clear hI hS
  refine enterC (args := [_, _, _]) gok Tryd.func160 rfl _ rfl rfl rfl ?_
  obtain ⟨a1, e, hF2⟩ := bindS hF; clear hF
  refine remO_ e ?_; clear e
  obtain ⟨r133, hF135, hF134⟩ := bindS hF2; clear hF2
  refine cut (fun (q136 : Int) => [(7, (.int .i64 q136))]) (fun (q136 : Int) w' => q136 = r133 ∧ Cx w0 fp0 S0 w' []) ?_ ?_
  · skip
    refine loopW _ (fun (s217 : Int × Int × Int) (_ : Unit) => [(0, (.int .i64 p_)), (1, (.int .i64 s217.1)), (2, (.int .i64 s217.2.1)), (7, (.int .i64 s217.2.2))]) (fun (s217 : Int × Int × Int) (_ : Unit) w' => Cx w0 fp0 S0 w' []) (a_, n_, a1) () hF135 ⟨rfl, rfl, rfl, rfl, trivial⟩ (H.sel [] rfl) ?_
    · clear H
      rintro T223 ⟨s217_0, s217_1, s217_2⟩ _ w222 o224 (H : Cx w0 fp0 S0 w222 []) hrt hF225
      refine sq ?_
      obtain ⟨a226, e, hF227⟩ := bindS hF225; clear hF225
      refine boolO e ?_; clear e
      cases a226
      · have hF228 := condF hF227; clear hF227
        have hs := Option.some.inj hF228; subst hs; clear hF228
        have hF229 : some _ = some _ := congrArg some (hrt _ rfl).symm
        exact ⟨s217_2, ⟨rfl, trivial⟩, Option.some.inj hF229, H.sel [] rfl⟩
      · have hF230 := condT hF227; clear hF227
        refine sq ?_
        obtain ⟨r243, hF245, hF244⟩ := bindS hF230; clear hF230
        refine cut (fun (q246 : Int) => [(0, (.int .i64 p_)), (1, (.int .i64 s217_0)), (2, (.int .i64 s217_1)), (7, (.int .i64 q246))]) (fun (q246 : Int) w' => q246 = r243 ∧ Cx w0 fp0 S0 w' []) ?_ ?_
        · skip
          obtain ⟨a247, e, hF248⟩ := bindS hF245; clear hF245
          refine remO_ e ?_; clear e
          obtain ⟨a249, e, hF250⟩ := bindS hF248; clear hF248
          refine boolO e ?_; clear e
          cases a249
          · have hF251 := condF hF250; clear hF250
            exact ⟨s217_2, ⟨rfl, rfl, rfl, rfl, trivial⟩, Option.some.inj hF251, H.sel [] rfl⟩
          · have hF252 := condT hF250; clear hF250
            obtain ⟨a253, e, hF254⟩ := bindS hF252; clear hF252
            refine arO e ?_; clear e
            obtain ⟨a255, e, hF256⟩ := bindS hF254; clear hF254
            refine remO_ e ?_; clear e
            exact ⟨a255, ⟨rfl, rfl, rfl, rfl, trivial⟩, Option.some.inj hF256, H.sel [] rfl⟩
        · clear hF245 H
          rintro T258 s241 w257 ⟨hr, (H : Cx w0 fp0 S0 w257 [])⟩
          subst hr
          obtain ⟨a259, e, hF260⟩ := bindS hF244; clear hF244
          refine arO e ?_; clear e
          obtain ⟨a261, e, hF262⟩ := bindS hF260; clear hF260
          refine remO_ e ?_; clear e
          obtain ⟨a263, e, hF264⟩ := bindS hF262; clear hF262
          refine quoO_ e ?_; clear e
          have hs := Option.some.inj hF264; subst hs; clear hF264
          exact ⟨(a261, a263, s241), (), rfl, ⟨rfl, rfl, rfl, rfl, trivial⟩, H.sel [] rfl⟩
  · clear hF135 H
    rintro T266 s131 w265 ⟨hr, (H : Cx w0 fp0 S0 w265 [])⟩
    subst hr
    cases hF134
    exact ⟨_, _, rfl, ⟨rfl, rfl⟩, (H.sel [] rfl).close trivial⟩

theorem impl_inverse_c (p_ : Int) (a_ : Int) (y : Int) (hF : F_impl_inverse p_ a_ = some y) :
    ConF Tryd.prog 157 #[(.int .i64 p_), (.int .i64 a_)] [] [] (fun v Γ' => v = (.int .i64 y) ∧ Γ' = []) := by
  intro w0 S0 fp0 hI hS
  have H : Cx w0 fp0 S0 w0 [] := Cx.start hI hS
  clear hI hS
  refine enterC (args := [_, _]) gok Tryd.func157 rfl _ rfl rfl rfl ?_
  obtain ⟨a1, e, hF2⟩ := bindS hF; clear hF
  refine arO e ?_; clear e
  obtain ⟨a3, e, hF4⟩ := bindS hF2; clear hF2
  refine boolO e ?_; clear e
  obtain ⟨y5, e, hF6⟩ := bindS hF4; clear hF4
  have ey5 := e; clear e
  refine callF (impl_bit_c a3 y5 ey5) (Γi := []) H trivial ?_; clear H ey5
  rintro _ _ w7 ⟨rfl, rfl⟩ (H : Cx w0 fp0 S0 w7 [])
  obtain ⟨a8, e, hF9⟩ := bindS hF6; clear hF6
  refine arO e ?_; clear e
  obtain ⟨y10, e, hF11⟩ := bindS hF9; clear hF9
  have ey10 := e; clear e
  refine callF (impl_power_c p_ a_ a8 y10 ey10) (Γi := []) H trivial ?_; clear H ey10
  rintro _ _ w12 ⟨rfl, rfl⟩ (H : Cx w0 fp0 S0 w12 [])
  cases hF11
  exact ⟨_, _, rfl, ⟨rfl, rfl⟩, (H.sel [] rfl).close trivial⟩

theorem impl_addTimes_c (p_ : Int) (v_ : List Int) (v_h : Hd) (by_ : Int) (w_ : List Int) (w_h : Hd) (y : List Int) (hF : F_impl_addTimes p_ v_ by_ w_ = some y) :
    ConF Tryd.prog 135 #[(.int .i64 p_), (v_h).v, (.int .i64 by_), (w_h).v] [Es (List Int) w_ w_h] [E (List Int) v_ v_h] (fun v Γ' => v = (.tuple #[]) ∧ Γ' = [E (List Int) y v_h]) := by
  intro w0 S0 fp0 hI hS
  have H : Cx w0 fp0 S0 w0 [Es (List Int) w_ w_h, E (List Int) v_ v_h] := Cx.start hI hS
  clear hI hS
  refine enterC (args := [_, _, _, _]) gok Tryd.func135 rfl _ rfl rfl rfl ?_
  refine lenE (H.rs (α := List Int) 0 rfl).len ?_
  have hmx74 := (H.rs (α := List Int) 0 rfl).max
  obtain ⟨r75, e, hF76⟩ := bindS hF; clear hF
  refine loopS _ w_.length (fun (k3 : Nat) (s72 : List Int) (_ : Unit) => [(0, (.int .i64 p_)), (1, (v_h).v), (2, (.int .i64 by_)), (10, (w_h).v), (11, (.int .i64 ((w_.length : Nat) : Int))), (12, (.int .i64 ((k3 : Nat) : Int)))]) (fun _ (s72 : List Int) (_ : Unit) w' => Cx w0 fp0 S0 w' [E (List Int) s72 v_h, Es (List Int) w_ w_h]) v_ () e ⟨rfl, rfl, rfl, rfl, rfl, rfl, trivial⟩ (H.sel [1, 0] rfl) ?_ ?_
  · clear H e
    rintro T78 k3 s72 _ w77 o79 hk (H : Cx w0 fp0 S0 w77 [E (List Int) s72 v_h, Es (List Int) w_ w_h]) hF80
    refine boolE (z := true) (ltLen hk) ?_
    refine sq ?_
    refine sq ?_
    obtain ⟨a87, e, hF88⟩ := bindS hF80; clear hF80
    obtain ⟨p85, m86, c81, c82, c83, c84⟩ := (H.rs (α := List Int) 1 rfl).at1 e; clear e
    refine idxE c81 c82 c83 ?_; clear c81 c82 c83
    refine load1 c84 ?_; clear c84
    obtain ⟨a95, e, hF96⟩ := bindS hF88; clear hF88
    obtain ⟨p93, m94, c89, c90, c91, c92⟩ := (H.ro (α := List Int) 0 rfl).at1 e; clear e
    refine idxE c89 c90 c91 ?_; clear c89 c90 c91
    refine load1 c92 ?_; clear c92
    obtain ⟨a97, e, hF98⟩ := bindS hF96; clear hF96
    refine arO e ?_; clear e
    obtain ⟨a99, e, hF100⟩ := bindS hF98; clear hF98
    refine arO e ?_; clear e
    obtain ⟨y101, e, hF102⟩ := bindS hF100; clear hF100
    have ey101 := e; clear e
    refine callF (impl_mod_c p_ a99 y101 ey101) (Γi := []) H trivial ?_; clear H ey101
    rintro _ _ w103 ⟨rfl, rfl⟩ (H : Cx w0 fp0 S0 w103 [E (List Int) s72 v_h, Es (List Int) w_ w_h])
    obtain ⟨a110, e, hF111⟩ := bindS hF102; clear hF102
    have ea110 := e; clear e
    obtain ⟨p108, m109, c104, c105, c106⟩ := (H.ro (α := List Int) 0 rfl).setp ea110
    refine idxE c104 c105 c106 ?_
    refine setS (α := Int) H c104 c105 ea110 ?_; clear H c104 c105 c106 ea110; intro w112 H
    refine arK hk hmx74 ?_
    have hs := Option.some.inj hF111; subst hs; clear hF111
    exact ⟨(), ⟨rfl, rfl, rfl, rfl, rfl, rfl, trivial⟩, H.sel [0, 1] rfl⟩
  · clear H e
    rintro T114 _ w113 (H : Cx w0 fp0 S0 w113 [E (List Int) r75 v_h, Es (List Int) w_ w_h])
    refine boolE (z := false) geLen ?_
    refine sq ?_
    cases hF76
    exact ⟨_, _, rfl, ⟨rfl, rfl⟩, (H.sel [0] rfl).close ⟨cloE, trivial⟩⟩

theorem impl_rowOperation_apply_c (o__0 : Int) (o__1 : Int) (o__2 : Int) (o__3 : Int) (p_ : Int) (rows_ : List (List Int)) (rows_h : Hd) (y : List (List Int)) (hF : F_impl_rowOperation_apply (o__0, o__1, o__2, o__3) p_ rows_ = some y) :
    ConF Tryd.prog 148 #[(.agg #[(.int .i64 o__0), (.int .i64 o__1), (.int .i64 o__2), (.int .i64 o__3)]), (.int .i64 p_), (rows_h).v] [] [E (List (List Int)) rows_ rows_h] (fun v Γ' => v = (.tuple #[]) ∧ Γ' = [E (List (List Int)) y rows_h]) := by
  intro w0 S0 fp0 hI hS
  have H : Cx w0 fp0 S0 w0 [E (List (List Int)) rows_ rows_h] := Cx.start hI hS
  clear hI hS
  refine enterC (args := [_, _, _]) gok Tryd.func148 rfl _ rfl rfl rfl ?_
  refine box_ H ?_; clear H; intro b3 w2 hx H
  clear hx
  replace H : Cx w0 fp0 S0 w2 [Bx b3 [(.int .i64 o__0), (.int .i64 o__1), (.int .i64 o__2), (.int .i64 o__3)], E (List (List Int)) rows_ rows_h] := H
  refine fld gok rfl rfl rfl rfl ?_
  refine load1 (H.bx 0 rfl (j := 0) rfl) ?_
  obtain ⟨a5, e, hF6⟩ := bindS hF; clear hF
  refine boolO e ?_; clear e
  cases a5
  · have hF7 := condF hF6; clear hF6
    obtain ⟨a8, e, hF9⟩ := bindS hF7; clear hF7
    refine boolO e ?_; clear e
    cases a8
    · have hF10 := condF hF9; clear hF9
      obtain ⟨a11, e, hF12⟩ := bindS hF10; clear hF10
      refine boolO e ?_; clear e
      cases a11
      · have hF13 := condF hF12; clear hF12
        cases hF13
        exact ⟨_, _, rfl, ⟨rfl, rfl⟩, (H.sel [1] rfl).close ⟨cloE, trivial⟩⟩
      · have hF14 := condT hF12; clear hF12
        refine heldX H [14] (.fst 0 (.fst 1 (.fst 2 (.fst 6 (.fst 9 (.fst 10 (.fst 3 (.fst 4 (.fst 5 (.fst 7 (.fst 8 (.fst 11 (.fst 12 (.fst 13 (.act 14 .done))))))))))))))) mixed [] trivial (by kernel_rfl) ?_
        clear H; intro w15 H
        have hX : Ext w15 w15 := Upd.refl _ _
        have H0 := H
        refine anyH (fun _ => fld gok rfl rfl rfl rfl ⟨rfl, rfl⟩) ?_
        refine anyH (fun _ => fld gok rfl rfl rfl rfl ⟨rfl, rfl⟩) ?_
        refine anyH (fun _ => fld gok rfl rfl rfl rfl ⟨rfl, rfl⟩) ?_
        refine load1X (H.bx 0 rfl (j := 1) rfl) ?_
        obtain ⟨a22, e, hF23⟩ := bindS hF14; clear hF14
        replace H := H.sel [1, 0] rfl
        replace H := H.toEH (α := List Int)
        have HH := H; clear H; obtain ⟨p20, m21, h24, c16, c17, c18, c19, H⟩ := HH.peekL e; clear HH
        clear e
        refine idxE c16 c17 c18 ?_
        refine load1X c19 ?_; clear c19
        refine load1X (H.bx 1 rfl (j := 3) rfl) ?_
        obtain ⟨a25, e, hF26⟩ := bindS hF23; clear hF23
        refine arO e ?_; clear e
        refine load1X (H.bx 1 rfl (j := 2) rfl) ?_
        obtain ⟨a33, e, hF34⟩ := bindS hF26; clear hF26
        have HH := H; clear H; obtain ⟨p31, m32, h35, c27, c28, c29, c30, H⟩ := HH.peekL e; clear HH
        clear e
        refine idxE c27 c28 c29 ?_
        refine load1X c30 ?_; clear c30
        obtain ⟨y36, e, hF37⟩ := bindS hF34; clear hF34
        have ey36 := e; clear e
        have kn38 := H.kn 0 rfl 0 rfl
        obtain ⟨u41, en40, hF42⟩ := bindS hF37; clear hF37
        have hm39 : m32 ≠ m21 := fun q => neqO_some en40 (by omega)
        replace H := H.takeK 1 rfl
        refine callF (impl_addTimes_c p_ a22 h24 a25 a33 h35 y36 ey36) (Γi := [E (List Int) a22 h24]) H ⟨Vw.ex (α := List Int) (k := ⟨m32, a33, h35⟩) 0 rfl kn38 hm39, trivial⟩ ?_; clear H ey36
        rintro _ _ w44 ⟨rfl, rfl⟩ (H : Cx w0 fp0 S0 w44 [E (List Int) y36 h24, EX (List Int) m21 [(h24).v] rows_ rows_h, Bx b3 [(.int .i64 o__0), (.int .i64 o__1), (.int .i64 o__2), (.int .i64 o__3)]])
        obtain ⟨a45, e, hF46⟩ := bindS hF42; clear hF42
        replace H := H.put c17 e; clear e
        refine hold trivial ?_
        cases hF46
        exact ⟨_, _, rfl, ⟨rfl, rfl⟩, (H.sel [0] rfl).close ⟨cloE, trivial⟩⟩
    · have hF47 := condT hF9; clear hF9
      refine fld gok rfl rfl rfl rfl ?_
      refine load1 (H.bx 0 rfl (j := 3) rfl) ?_
      obtain ⟨y48, e, hF49⟩ := bindS hF47; clear hF47
      have ey48 := e; clear e
      refine callF (impl_inverse_c p_ o__3 y48 ey48) (Γi := []) H trivial ?_; clear H ey48
      rintro _ _ w50 ⟨rfl, rfl⟩ (H : Cx w0 fp0 S0 w50 [Bx b3 [(.int .i64 o__0), (.int .i64 o__1), (.int .i64 o__2), (.int .i64 o__3)], E (List (List Int)) rows_ rows_h])
      refine fld gok rfl rfl rfl rfl ?_
      refine load1 (H.bx 0 rfl (j := 1) rfl) ?_
      obtain ⟨a57, e, hF58⟩ := bindS hF49; clear hF49
      replace H := H.sel [1, 0] rfl
      have HH := H; clear H; obtain ⟨p55, m56, h59, c51, c52, c53, H⟩ := HH.take e; clear HH
      clear e
      have c54 := H.hx0 1 rfl c51 rfl
      refine idxE c51 c52 c53 ?_
      refine load1 c54 ?_; clear c54
      refine lenE (H.ro (α := List Int) 0 rfl).len ?_
      have hmx124 := (H.ro (α := List Int) 0 rfl).max
      obtain ⟨r125, e, hF126⟩ := bindS hF58; clear hF58
      refine loopS _ a57.length (fun (k61 : Nat) (s122 : List Int) (_ : Unit) => [(1, (.int .i64 p_)), (2, (rows_h).v), (3, (.pointer (some ⟨b3, 0, none⟩))), (6, (.int .i64 y48)), (41, (h59).v), (42, (.int .i64 ((a57.length : Nat) : Int))), (43, (.int .i64 ((k61 : Nat) : Int)))]) (fun _ (s122 : List Int) (_ : Unit) w' => Cx w0 fp0 S0 w' [EX (List Int) m56 [(h59).v] rows_ rows_h, Bx b3 [(.int .i64 o__0), (.int .i64 o__1), (.int .i64 o__2), (.int .i64 o__3)], E (List Int) s122 h59]) a57 () e ⟨rfl, rfl, rfl, rfl, rfl, rfl, rfl, trivial⟩ (H.sel [1, 2, 0] rfl) ?_ ?_
      · clear H e
        rintro T128 k61 s122 _ w127 o129 hk (H : Cx w0 fp0 S0 w127 [EX (List Int) m56 [(h59).v] rows_ rows_h, Bx b3 [(.int .i64 o__0), (.int .i64 o__1), (.int .i64 o__2), (.int .i64 o__3)], E (List Int) s122 h59]) hF130
        refine boolE (z := true) (ltLen hk) ?_
        refine sq ?_
        refine sq ?_
        obtain ⟨a137, e, hF138⟩ := bindS hF130; clear hF130
        obtain ⟨p135, m136, c131, c132, c133, c134⟩ := (H.ro (α := List Int) 2 rfl).at1 e; clear e
        refine idxE c131 c132 c133 ?_; clear c131 c132 c133
        refine load1 c134 ?_; clear c134
        refine heldX H [12] (.fst 0 (.fst 1 (.fst 5 (.fst 6 (.fst 7 (.fst 8 (.fst 9 (.fst 10 (.fst 2 (.fst 3 (.fst 4 (.fst 11 (.act 12 .done))))))))))))) mixed [] trivial (by kernel_rfl) ?_
        clear H; intro w139 H
        have hX : Ext w139 w139 := Upd.refl _ _
        have H0 := H
        refine anyH (fun _ => fld gok rfl rfl rfl rfl ⟨rfl, rfl⟩) ?_
        obtain ⟨a140, e, hF141⟩ := bindS hF138; clear hF138
        refine arO e ?_; clear e
        obtain ⟨a142, e, hF143⟩ := bindS hF141; clear hF141
        refine remO_ e ?_; clear e
        refine load1X (H.bx 1 rfl (j := 1) rfl) ?_
        have c147 := H.hx0 0 rfl c51 rfl
        refine idxE c51 c52 c53 ?_
        refine load1X c147 ?_; clear c147
        obtain ⟨a156, e, hF157⟩ := bindS hF143; clear hF143
        have ea156 := e; clear e
        obtain ⟨p154, m155, c150, c151, c152⟩ := (H.ro (α := List Int) 2 rfl).setp ea156
        refine idxE c150 c151 c152 ?_
        replace H := H.sel [2, 0, 1] rfl
        refine setS (α := Int) H c150 c151 ea156 ?_; clear H c150 c151 c152 ea156; intro w158 H
        refine hold trivial ?_
        refine arK hk hmx124 ?_
        have hs := Option.some.inj hF157; subst hs; clear hF157
        exact ⟨(), ⟨rfl, rfl, rfl, rfl, rfl, rfl, rfl, trivial⟩, H.sel [1, 2, 0] rfl⟩
      · clear H e
        rintro T160 _ w159 (H : Cx w0 fp0 S0 w159 [EX (List Int) m56 [(h59).v] rows_ rows_h, Bx b3 [(.int .i64 o__0), (.int .i64 o__1), (.int .i64 o__2), (.int .i64 o__3)], E (List Int) r125 h59])
        refine boolE (z := false) geLen ?_
        refine sq ?_
        obtain ⟨a163, e, hF164⟩ := bindS hF126; clear hF126
        replace H := H.sel [2, 0, 1] rfl
        replace H := H.put c52 e; clear e
        cases hF164
        exact ⟨_, _, rfl, ⟨rfl, rfl⟩, (H.sel [0] rfl).close ⟨cloE, trivial⟩⟩
  · have hF165 := condT hF6; clear hF6
    refine heldX H [17, 19, 18, 3, 4, 5] (.pure 3 (.pure 4 (.pure 5 (.fst 0 (.fst 1 (.fst 6 (.fst 7 (.fst 11 (.fst 12 (.fst 2 (.fst 8 (.fst 9 (.fst 10 (.fst 13 (.fst 14 (.fst 15 (.fst 16 (.act 17 (.act 18 (.act 19 .done)))))))))))))))))))) mixed [((Addr.add ⟨b3, 0, none⟩ 2), (.int .i64 o__2))] ⟨H.bx 0 rfl (j := 2) rfl, trivial⟩ (by kernel_rfl) ?_
    clear H; intro w166 H
    have hX : Ext w166 w166 := Upd.refl _ _
    have H0 := H
    refine anyH (fun _ => fld gok rfl rfl rfl rfl ⟨rfl, rfl⟩) ?_
    refine load1W 0 rfl ?_
    refine anyH (fun _ => fld gok rfl rfl rfl rfl ⟨rfl, rfl⟩) ?_
    refine anyH (fun _ => fld gok rfl rfl rfl rfl ⟨rfl, rfl⟩) ?_
    refine anyH (fun _ => fld gok rfl rfl rfl rfl ⟨rfl, rfl⟩) ?_
    refine load1X (H.bx 0 rfl (j := 1) rfl) ?_
    refine load1X (H.bx 0 rfl (j := 2) rfl) ?_
    obtain ⟨a173, e, hF174⟩ := bindS hF165; clear hF165
    replace H := H.sel [1, 0] rfl
    replace H := H.toEH (α := List Int)
    have HH := H; clear H; obtain ⟨p171, m172, h175, c167, c168, c169, c170, H⟩ := HH.peekL e; clear HH
    clear e
    refine idxE c167 c168 c169 ?_
    refine load1X c170 ?_; clear c170
    refine load1X (H.bx 1 rfl (j := 1) rfl) ?_
    obtain ⟨a182, e, hF183⟩ := bindS hF174; clear hF174
    have HH := H; clear H; obtain ⟨p180, m181, h184, c176, c177, c178, c179, H⟩ := HH.peekL e; clear HH
    clear e
    refine idxE c176 c177 c178 ?_
    refine load1X c179 ?_; clear c179
    refine idxE c176 c177 c178 ?_
    refine stZ1 (ki := 0) (kj := 1) H rfl rfl c176 ?_; clear H; intro w191 H
    replace H : Cx w0 fp0 S0 w191 [EZ (List Int) m181 m172 a182 a173 h184 h175 rows_ rows_h, Bx b3 [(.int .i64 o__0), (.int .i64 o__1), (.int .i64 o__2), (.int .i64 o__3)]] := H
    refine hold ⟨H.bx 1 rfl (j := 2) rfl, trivial⟩ ?_
    refine idxE c167 c168 c169 ?_
    refine hold ⟨H.bx 1 rfl (j := 2) rfl, trivial⟩ ?_
    obtain ⟨a199, e, hF200⟩ := bindS hF183; clear hF183
    refine stZ2 H c177 c168 c167 e ?_; clear H e; intro w198 H
    refine hold ⟨H.bx 1 rfl (j := 2) rfl, trivial⟩ ?_
    cases hF200
    exact ⟨_, _, rfl, ⟨rfl, rfl⟩, (H.sel [0] rfl).close ⟨cloE, trivial⟩⟩

theorem impl_reduction_1_c (o__0 : Int) (o__1 : Int) (o__2 : Int) (o__3 : Int) (c0_b : Nat) (c0_ : Int) (c1_b : Nat) (c1_ : List (List Int)) (c1_h : Hd) (c2_b : Nat) (c2_ : List (List Int)) (c2_h : Hd) (y0 : List (List Int)) (y1 : List (List Int)) (hF : F_impl_reduction_1 (o__0, o__1, o__2, o__3) c0_ c1_ c2_ = some (y0, y1)) :
    ConF Tryd.prog 147 #[(.agg #[(.int .i64 o__0), (.int .i64 o__1), (.int .i64 o__2), (.int .i64 o__3)]), (.pointer (some ⟨c0_b, 0, none⟩)), (.pointer (some ⟨c1_b, 0, none⟩)), (.pointer (some ⟨c2_b, 0, none⟩))] [] [Bx c0_b [(.int .i64 c0_)], Bx c1_b [(c1_h).v], E (List (List Int)) c1_ c1_h, Bx c2_b [(c2_h).v], E (List (List Int)) c2_ c2_h] (fun v Γ' => v = (.tuple #[]) ∧ Γ' = [Bx c0_b [(.int .i64 c0_)], Bx c1_b [(c1_h).v], E (List (List Int)) y0 c1_h, Bx c2_b [(c2_h).v], E (List (List Int)) y1 c2_h]) := by
  intro w0 S0 fp0 hI hS
  have H : Cx w0 fp0 S0 w0 [Bx c0_b [(.int .i64 c0_)], Bx c1_b [(c1_h).v], E (List (List Int)) c1_ c1_h, Bx c2_b [(c2_h).v], E (List (List Int)) c2_ c2_h] := Cx.start hI hS
  clear hI hS
  refine enterC (args := [_, _, _, _]) gok Tryd.func147 rfl _ rfl rfl rfl ?_
  refine box_ H ?_; clear H; intro b7 w6 hx H
  clear hx
  replace H : Cx w0 fp0 S0 w6 [Bx b7 [(.int .i64 o__0), (.int .i64 o__1), (.int .i64 o__2), (.int .i64 o__3)], Bx c0_b [(.int .i64 c0_)], Bx c1_b [(c1_h).v], E (List (List Int)) c1_ c1_h, Bx c2_b [(c2_h).v], E (List (List Int)) c2_ c2_h] := H
  refine sq ?_
  refine loadN [(.int .i64 o__0), (.int .i64 o__1), (.int .i64 o__2), (.int .i64 o__3)] rfl (fun j u hj => H.bx 0 rfl hj) ?_
  refine fld gok rfl rfl rfl rfl ?_
  refine load1 (H.bx 0 rfl (j := 1) rfl) ?_
  refine fld gok rfl rfl rfl rfl ?_
  refine load1 (H.bx 0 rfl (j := 1) rfl) ?_
  refine build_ (cs := #[(.int .i64 0), (.int .i64 o__1), (.int .i64 o__1), (.int .i64 0)]) gok rfl rfl rfl ?_
  obtain ⟨a9, e, hF10⟩ := bindS hF; clear hF
  refine eqA gok rfl Tryd.underlying140 (by kernel_rfl) (by kernel_rfl) (by kernel_rfl) (by refine ⟨rfl, ⟨_, _, rfl⟩, rfl, ⟨_, _, rfl⟩, rfl, ⟨_, _, rfl⟩, rfl, ⟨_, _, rfl⟩, trivial⟩) (ls := [o__0, o__1, o__2, o__3]) (bs := [0, o__1, o__1, 0]) rfl rfl rfl rfl e ?_; clear e
  cases a9
  · have hF11 := condF hF10; clear hF10
    refine loadN [(.int .i64 o__0), (.int .i64 o__1), (.int .i64 o__2), (.int .i64 o__3)] rfl (fun j u hj => H.bx 0 rfl hj) ?_
    refine load1 (H.bx0 1 rfl) ?_
    refine load1 (H.bx0 2 rfl) ?_
    obtain ⟨y12, e, hF13⟩ := bindS hF11; clear hF11
    have ey12 := e; clear e
    replace H := H.sel [3, 0, 1, 2, 4, 5] rfl
    refine callF (impl_rowOperation_apply_c o__0 o__1 o__2 o__3 c0_ c1_ c1_h y12 ey12) (Γi := [E (List (List Int)) c1_ c1_h]) H trivial ?_; clear H ey12
    rintro _ _ w14 ⟨rfl, rfl⟩ (H : Cx w0 fp0 S0 w14 [E (List (List Int)) y12 c1_h, Bx b7 [(.int .i64 o__0), (.int .i64 o__1), (.int .i64 o__2), (.int .i64 o__3)], Bx c0_b [(.int .i64 c0_)], Bx c1_b [(c1_h).v], Bx c2_b [(c2_h).v], E (List (List Int)) c2_ c2_h])
    refine loadN [(.int .i64 o__0), (.int .i64 o__1), (.int .i64 o__2), (.int .i64 o__3)] rfl (fun j u hj => H.bx 1 rfl hj) ?_
    refine load1 (H.bx0 2 rfl) ?_
    refine load1 (H.bx0 4 rfl) ?_
    obtain ⟨y15, e, hF16⟩ := bindS hF13; clear hF13
    have ey15 := e; clear e
    replace H := H.sel [5, 0, 1, 2, 3, 4] rfl
    refine callF (impl_rowOperation_apply_c o__0 o__1 o__2 o__3 c0_ c2_ c2_h y15 ey15) (Γi := [E (List (List Int)) c2_ c2_h]) H trivial ?_; clear H ey15
    rintro _ _ w17 ⟨rfl, rfl⟩ (H : Cx w0 fp0 S0 w17 [E (List (List Int)) y15 c2_h, E (List (List Int)) y12 c1_h, Bx b7 [(.int .i64 o__0), (.int .i64 o__1), (.int .i64 o__2), (.int .i64 o__3)], Bx c0_b [(.int .i64 c0_)], Bx c1_b [(c1_h).v], Bx c2_b [(c2_h).v]])
    cases hF16
    exact ⟨_, _, rfl, ⟨rfl, rfl⟩, (H.sel [3, 4, 1, 5, 0] rfl).close ⟨cloB, cloB, cloE, cloB, cloE, trivial⟩⟩
  · have hF18 := condT hF10; clear hF10
    cases hF18
    exact ⟨_, _, rfl, ⟨rfl, rfl⟩, (H.sel [1, 2, 3, 4, 5] rfl).close ⟨cloB, cloB, cloE, cloB, cloE, trivial⟩⟩
end Go.Proofs.YtnlbhdepagkjgaaDoor
