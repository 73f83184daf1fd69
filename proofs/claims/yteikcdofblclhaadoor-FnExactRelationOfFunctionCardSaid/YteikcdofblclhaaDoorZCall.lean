/-
  Contracts, printed by a program (wip/y/gen.py): each function of Go computes its partial function. Condition of each: its partial function yields a value.
-/
import Derived.Test.YteikcdofblclhaaDoorZEng
import Derived.Test.YteikcdofblclhaaDoorZFn
namespace Go.Proofs.YteikcdofblclhaaDoor
open Go Go.Proofs.YteikcdofblclhaaDoor.RW
set_option maxRecDepth 100000
set_option linter.unusedVariables false

theorem laws_szIntS_c (a_ : List Int) (a_h : Hd) (left_ : Int) (y : Int) (hF : F_laws_szIntS a_ left_ = some y) :
    ConF Tryd.prog 130 #[(a_h).v, (.int .i64 left_)] [Es (List Int) a_ a_h] [] (fun v Γ' => v = (.int .i64 y) ∧ Γ' = []) := by
  intro w0 S0 fp0 hI hS
  have H : Cx w0 fp0 S0 w0 [Es (List Int) a_ a_h] := Cx.start hI hS
  clear hI hS
  refine enterC (args := [_, _]) gok Tryd.func130 rfl _ rfl rfl rfl ?_
  refine lenE (H.rs (α := List Int) 0 rfl).len ?_
  obtain ⟨a2, e, hF3⟩ := bindS hF; clear hF
  refine arO e ?_; clear e
  refine sq ?_
  obtain ⟨a4, e, hF5⟩ := bindS hF3; clear hF3
  refine boolO e ?_; clear e
  cases a4
  · have hF6 := condF hF5; clear hF5
    cases hF6
    exact ⟨_, _, rfl, ⟨rfl, rfl⟩, (H.sel [] rfl).close trivial⟩
  · have hF7 := condT hF5; clear hF5
    cases hF7
    exact ⟨_, _, rfl, ⟨rfl, rfl⟩, (H.sel [] rfl).close trivial⟩

theorem laws_szIntSS_c (a_ : List (List Int)) (a_h : Hd) (left_ : Int) (y : Int) (hF : F_laws_szIntSS a_ left_ = some y) :
    ConF Tryd.prog 65 #[(a_h).v, (.int .i64 left_)] [Es (List (List Int)) a_ a_h] [] (fun v Γ' => v = (.int .i64 y) ∧ Γ' = []) := by
  intro w0 S0 fp0 hI hS
  have H : Cx w0 fp0 S0 w0 [Es (List (List Int)) a_ a_h] := Cx.start hI hS
  clear hI hS
  refine enterC (args := [_, _]) gok Tryd.func65 rfl _ rfl rfl rfl ?_
  refine lenE (H.rs (α := List (List Int)) 0 rfl).len ?_
  obtain ⟨a2, e, hF3⟩ := bindS hF; clear hF
  refine arO e ?_; clear e
  refine sq ?_
  obtain ⟨a4, e, hF5⟩ := bindS hF3; clear hF3
  refine boolO e ?_; clear e
  cases a4
  · have hF6 := condF hF5; clear hF5
    obtain ⟨r93, hF95, hF94⟩ := bindS hF6; clear hF6
    refine cut (fun (q96 : Int) => [(1, (.int .i64 q96))]) (fun (q96 : Int) w' => .inl q96 = r93 ∧ Cx w0 fp0 S0 w' []) ?_ ?_
    · skip
      refine loopW _ (fun (s147 : Int × Int) (_ : Unit) => [(0, (a_h).v), (1, (.int .i64 s147.1)), (5, (.int .i64 s147.2))]) (fun (s147 : Int × Int) (_ : Unit) w' => Cx w0 fp0 S0 w' [Es (List (List Int)) a_ a_h]) (a2, 0) () hF95 ⟨rfl, rfl, rfl, trivial⟩ (H.sel [0] rfl) ?_
      · clear H
        rintro T153 ⟨s147_0, s147_1⟩ _ w152 o154 (H : Cx w0 fp0 S0 w152 [Es (List (List Int)) a_ a_h]) hrt hF155
        refine sq ?_
        refine lenE (H.rs (α := List (List Int)) 0 rfl).len ?_
        obtain ⟨a156, e, hF157⟩ := bindS hF155; clear hF155
        refine boolO e ?_; clear e
        cases a156
        · have hF158 := condF hF157; clear hF157
          have hs := Option.some.inj hF158; subst hs; clear hF158
          have hF159 : some _ = some _ := congrArg some (hrt _ rfl).symm
          exact ⟨s147_0, ⟨rfl, trivial⟩, Option.some.inj hF159, H.sel [] rfl⟩
        · have hF160 := condT hF157; clear hF157
          refine sq ?_
          obtain ⟨a167, e, hF168⟩ := bindS hF160; clear hF160
          have HH := H; clear H; obtain ⟨p165, m166, h169, c161, c162, c163, c164, H⟩ := HH.elL 0 rfl e; clear HH
          clear e
          refine idxE c161 c162 c163 ?_; clear c161 c162 c163
          refine load1 c164 ?_; clear c164
          obtain ⟨y171, e, hF172⟩ := bindS hF168; clear hF168
          have ey171 := e; clear e
          refine callF (laws_szIntS_c a167 h169 s147_0 y171 ey171) (Γi := []) H ⟨Vw.sh 0 rfl, trivial⟩ ?_; clear H ey171
          rintro _ _ w173 ⟨rfl, rfl⟩ (H : Cx w0 fp0 S0 w173 [Es (List Int) a167 h169, Es (List (List Int)) a_ a_h])
          obtain ⟨a174, e, hF175⟩ := bindS hF172; clear hF172
          refine boolO e ?_; clear e
          cases a174
          · have hF176 := condF hF175; clear hF175
            obtain ⟨a177, e, hF178⟩ := bindS hF176; clear hF176
            refine arO e ?_; clear e
            have hs := Option.some.inj hF178; subst hs; clear hF178
            exact ⟨(y171, a177), (), rfl, ⟨rfl, rfl, rfl, trivial⟩, H.sel [1] rfl⟩
          · have hF179 := condT hF175; clear hF175
            have hs := Option.some.inj hF179; subst hs; clear hF179
            have hF180 : some _ = some _ := congrArg some (hrt _ rfl).symm
            have hs := Option.some.inj hF180; subst hs; clear hF180
            have hF181 : some _ = some _ := hF94; clear hF94
            cases hF181
            exact ⟨_, _, rfl, ⟨rfl, rfl⟩, (H.sel [] rfl).close trivial⟩
    · clear hF95 H
      rintro T183 s91 w182 ⟨hr, (H : Cx w0 fp0 S0 w182 [])⟩
      subst hr
      cases hF94
      exact ⟨_, _, rfl, ⟨rfl, rfl⟩, (H.sel [] rfl).close trivial⟩
  · have hF184 := condT hF5; clear hF5
    cases hF184
    exact ⟨_, _, rfl, ⟨rfl, rfl⟩, (H.sel [] rfl).close trivial⟩

theorem laws_szMatrix_c (a__0 : Int) (a__1 : List (List Int)) (a__1h : Hd) (left_ : Int) (y : Int) (hF : F_laws_szMatrix (a__0, a__1) left_ = some y) :
    ConF Tryd.prog 29 #[(.agg #[(.int .i64 a__0), (a__1h).v]), (.int .i64 left_)] [Es (List (List Int)) a__1 a__1h] [] (fun v Γ' => v = (.int .i64 y) ∧ Γ' = []) := by
  intro w0 S0 fp0 hI hS
  have H : Cx w0 fp0 S0 w0 [Es (List (List Int)) a__1 a__1h] := Cx.start hI hS
  clear hI hS
  refine enterC (args := [_, _]) gok Tryd.func29 rfl _ rfl rfl rfl ?_
  refine box_ H ?_; clear H; intro b3 w2 hx H
  clear hx
  replace H : Cx w0 fp0 S0 w2 [Bx b3 [(.int .i64 a__0), (a__1h).v], Es (List (List Int)) a__1 a__1h] := H
  refine fld gok rfl rfl rfl rfl ?_
  refine load1 (H.bx 0 rfl (j := 1) rfl) ?_
  obtain ⟨y5, e, hF6⟩ := bindS hF; clear hF
  have ey5 := e; clear e
  refine callF (laws_szIntSS_c a__1 a__1h left_ y5 ey5) (Γi := []) H ⟨Vw.sh 1 rfl, trivial⟩ ?_; clear H ey5
  rintro _ _ w7 ⟨rfl, rfl⟩ (H : Cx w0 fp0 S0 w7 [Bx b3 [(.int .i64 a__0), (a__1h).v], Es (List (List Int)) a__1 a__1h])
  refine sq ?_
  obtain ⟨a8, e, hF9⟩ := bindS hF6; clear hF6
  refine boolO e ?_; clear e
  cases a8
  · have hF10 := condF hF9; clear hF9
    cases hF10
    exact ⟨_, _, rfl, ⟨rfl, rfl⟩, (H.sel [] rfl).close trivial⟩
  · have hF11 := condT hF9; clear hF9
    cases hF11
    exact ⟨_, _, rfl, ⟨rfl, rfl⟩, (H.sel [] rfl).close trivial⟩

theorem laws_toIntS_c (a_ : List Int) (a_h : Hd) (y : List Int) (hF : F_laws_toIntS a_ = some y) :
    ConF Tryd.prog 31 #[(a_h).v] [Es (List Int) a_ a_h] [] (fun v Γ' => ∃ z0 : Hd, v = (z0).v ∧ Γ' = [E (List Int) y z0]) := by
  intro w0 S0 fp0 hI hS
  have H : Cx w0 fp0 S0 w0 [Es (List Int) a_ a_h] := Cx.start hI hS
  clear hI hS
  refine enterC (args := [_]) gok Tryd.func31 rfl _ rfl rfl rfl ?_
  refine lenE (H.rs (α := List Int) 0 rfl).len ?_
  obtain ⟨a2, e, hF3⟩ := bindS hF; clear hF
  refine make_ (α := Int) gok rfl rfl rfl rfl (makeCO_of e) H ?_; clear e H; intro h5 w4 hx H
  clear hx
  obtain ⟨r92, hF94, hF93⟩ := bindS hF3; clear hF3
  refine cut (fun (q95 : List Int) => [(3, (h5).v)]) (fun (q95 : List Int) w' => q95 = r92 ∧ Cx w0 fp0 S0 w' [E (List Int) q95 h5]) ?_ ?_
  · skip
    refine loopW _ (fun (s146 : List Int × Int) (_ : Unit) => [(0, (a_h).v), (3, (h5).v), (4, (.int .i64 s146.2))]) (fun (s146 : List Int × Int) (_ : Unit) w' => Cx w0 fp0 S0 w' [Es (List Int) a_ a_h, E (List Int) s146.1 h5]) (a2, 0) () hF94 ⟨rfl, rfl, rfl, trivial⟩ (H.sel [1, 0] rfl) ?_
    · clear H
      rintro T152 ⟨s146_0, s146_1⟩ _ w151 o153 (H : Cx w0 fp0 S0 w151 [Es (List Int) a_ a_h, E (List Int) s146_0 h5]) hrt hF154
      refine sq ?_
      refine lenE (H.rs (α := List Int) 0 rfl).len ?_
      obtain ⟨a155, e, hF156⟩ := bindS hF154; clear hF154
      refine boolO e ?_; clear e
      cases a155
      · have hF157 := condF hF156; clear hF156
        have hs := Option.some.inj hF157; subst hs; clear hF157
        have hF158 : some _ = some _ := congrArg some (hrt _ rfl).symm
        exact ⟨s146_0, ⟨rfl, trivial⟩, Option.some.inj hF158, H.sel [1] rfl⟩
      · have hF159 := condT hF156; clear hF156
        refine sq ?_
        obtain ⟨a166, e, hF167⟩ := bindS hF159; clear hF159
        obtain ⟨p164, m165, c160, c161, c162, c163⟩ := (H.rs (α := List Int) 0 rfl).at1 e; clear e
        refine idxE c160 c161 c162 ?_; clear c160 c161 c162
        refine load1 c163 ?_; clear c163
        obtain ⟨a174, e, hF175⟩ := bindS hF167; clear hF167
        have ea174 := e; clear e
        obtain ⟨p172, m173, c168, c169, c170⟩ := (H.ro (α := List Int) 1 rfl).setp ea174
        refine idxE c168 c169 c170 ?_
        replace H := H.sel [1, 0] rfl
        refine setS (α := Int) H c168 c169 ea174 ?_; clear H c168 c169 c170 ea174; intro w176 H
        obtain ⟨a177, e, hF178⟩ := bindS hF175; clear hF175
        refine arO e ?_; clear e
        have hs := Option.some.inj hF178; subst hs; clear hF178
        exact ⟨(a174, a177), (), rfl, ⟨rfl, rfl, rfl, trivial⟩, H.sel [1, 0] rfl⟩
  · clear hF94 H
    rintro T180 s90 w179 ⟨hr, (H : Cx w0 fp0 S0 w179 [E (List Int) s90 h5])⟩
    subst hr
    cases hF93
    exact ⟨_, _, rfl, ⟨h5, rfl, rfl⟩, (H.sel [0] rfl).close ⟨cloE, trivial⟩⟩

theorem laws_toIntSS_c (a_ : List (List Int)) (a_h : Hd) (y : List (List Int)) (hF : F_laws_toIntSS a_ = some y) :
    ConF Tryd.prog 69 #[(a_h).v] [Es (List (List Int)) a_ a_h] [] (fun v Γ' => ∃ z0 : Hd, v = (z0).v ∧ Γ' = [E (List (List Int)) y z0]) := by
  intro w0 S0 fp0 hI hS
  have H : Cx w0 fp0 S0 w0 [Es (List (List Int)) a_ a_h] := Cx.start hI hS
  clear hI hS
  refine enterC (args := [_]) gok Tryd.func69 rfl _ rfl rfl rfl ?_
  refine lenE (H.rs (α := List (List Int)) 0 rfl).len ?_
  obtain ⟨a2, e, hF3⟩ := bindS hF; clear hF
  refine make_ (α := List Int) gok rfl rfl rfl rfl (makeCO_of e) H ?_; clear e H; intro h5 w4 hx H
  clear hx
  obtain ⟨r113, hF115, hF114⟩ := bindS hF3; clear hF3
  refine cut (fun (q116 : List (List Int)) => [(3, (h5).v)]) (fun (q116 : List (List Int)) w' => q116 = r113 ∧ Cx w0 fp0 S0 w' [E (List (List Int)) q116 h5]) ?_ ?_
  · skip
    refine loopW _ (fun (s181 : List (List Int) × Int) (_ : Unit) => [(0, (a_h).v), (3, (h5).v), (4, (.int .i64 s181.2))]) (fun (s181 : List (List Int) × Int) (_ : Unit) w' => Cx w0 fp0 S0 w' [Es (List (List Int)) a_ a_h, E (List (List Int)) s181.1 h5]) (a2, 0) () hF115 ⟨rfl, rfl, rfl, trivial⟩ (H.sel [1, 0] rfl) ?_
    · clear H
      rintro T187 ⟨s181_0, s181_1⟩ _ w186 o188 (H : Cx w0 fp0 S0 w186 [Es (List (List Int)) a_ a_h, E (List (List Int)) s181_0 h5]) hrt hF189
      refine sq ?_
      refine lenE (H.rs (α := List (List Int)) 0 rfl).len ?_
      obtain ⟨a190, e, hF191⟩ := bindS hF189; clear hF189
      refine boolO e ?_; clear e
      cases a190
      · have hF192 := condF hF191; clear hF191
        have hs := Option.some.inj hF192; subst hs; clear hF192
        have hF193 : some _ = some _ := congrArg some (hrt _ rfl).symm
        exact ⟨s181_0, ⟨rfl, trivial⟩, Option.some.inj hF193, H.sel [1] rfl⟩
      · have hF194 := condT hF191; clear hF191
        refine sq ?_
        obtain ⟨a201, e, hF202⟩ := bindS hF194; clear hF194
        have HH := H; clear H; obtain ⟨p199, m200, h203, c195, c196, c197, c198, H⟩ := HH.elL 0 rfl e; clear HH
        clear e
        refine idxE c195 c196 c197 ?_; clear c195 c196 c197
        refine load1 c198 ?_; clear c198
        obtain ⟨y205, e, hF206⟩ := bindS hF202; clear hF202
        have ey205 := e; clear e
        refine callF (laws_toIntS_c a201 h203 y205 ey205) (Γi := []) H ⟨Vw.sh 0 rfl, trivial⟩ ?_; clear H ey205
        rintro _ _ w207 ⟨h208, rfl, rfl⟩ (H : Cx w0 fp0 S0 w207 [E (List Int) y205 h208, Es (List Int) a201 h203, Es (List (List Int)) a_ a_h, E (List (List Int)) s181_0 h5])
        obtain ⟨a216, e, hF217⟩ := bindS hF206; clear hF206
        have ea216 := e; clear e
        obtain ⟨p214, m215, c210, c211, c212⟩ := (H.ro (α := List (List Int)) 3 rfl).setp ea216
        refine idxE c210 c211 c212 ?_
        replace H := H.sel [3, 0, 1, 2] rfl
        refine setL H c210 c211 ea216 ?_; clear H c210 c211 c212 ea216; intro w218 H
        obtain ⟨a219, e, hF220⟩ := bindS hF217; clear hF217
        refine arO e ?_; clear e
        have hs := Option.some.inj hF220; subst hs; clear hF220
        exact ⟨(a216, a219), (), rfl, ⟨rfl, rfl, rfl, trivial⟩, H.sel [2, 0] rfl⟩
  · clear hF115 H
    rintro T222 s111 w221 ⟨hr, (H : Cx w0 fp0 S0 w221 [E (List (List Int)) s111 h5])⟩
    subst hr
    cases hF114
    exact ⟨_, _, rfl, ⟨h5, rfl, rfl⟩, (H.sel [0] rfl).close ⟨cloE, trivial⟩⟩

theorem laws_toMatrix_c (a__0 : Int) (a__1 : List (List Int)) (a__1h : Hd) (y_0 : Int) (y_1 : List (List Int)) (hF : F_laws_toMatrix (a__0, a__1) = some (y_0, y_1)) :
    ConF Tryd.prog 32 #[(.agg #[(.int .i64 a__0), (a__1h).v])] [Es (List (List Int)) a__1 a__1h] [] (fun v Γ' => ∃ z0 : Hd, v = (.agg #[(.int .i64 y_0), (z0).v]) ∧ Γ' = [E (List (List Int)) y_1 z0]) := by
  intro w0 S0 fp0 hI hS
  have H : Cx w0 fp0 S0 w0 [Es (List (List Int)) a__1 a__1h] := Cx.start hI hS
  clear hI hS
  refine enterC (args := [_]) gok Tryd.func32 rfl _ rfl rfl rfl ?_
  refine box_ H ?_; clear H; intro b3 w2 hx H
  clear hx
  replace H : Cx w0 fp0 S0 w2 [Bx b3 [(.int .i64 a__0), (a__1h).v], Es (List (List Int)) a__1 a__1h] := H
  refine alloc_ gok rfl H ?_; clear H; intro b6 w5 hx H
  clear hx
  replace H : Cx w0 fp0 S0 w5 [Bx b6 [(.int .i64 0), (.slice none 0 0)], Bx b3 [(.int .i64 a__0), (a__1h).v], Es (List (List Int)) a__1 a__1h] := H
  refine alloc_ gok rfl H ?_; clear H; intro b9 w8 hx H
  clear hx
  replace H : Cx w0 fp0 S0 w8 [Bx b9 [(.int .i64 0), (.slice none 0 0)], Bx b6 [(.int .i64 0), (.slice none 0 0)], Bx b3 [(.int .i64 a__0), (a__1h).v], Es (List (List Int)) a__1 a__1h] := H
  refine fld gok rfl rfl rfl rfl ?_
  refine load1 (H.bx 2 rfl (j := 0) rfl) ?_
  refine fld gok rfl rfl rfl rfl ?_
  refine stB (j := 0) H rfl rfl ?_; clear H; intro w11 H
  replace H : Cx w0 fp0 S0 w11 [Bx b9 [(.int .i64 a__0), (.slice none 0 0)], Bx b6 [(.int .i64 0), (.slice none 0 0)], Bx b3 [(.int .i64 a__0), (a__1h).v], Es (List (List Int)) a__1 a__1h] := H
  refine fld gok rfl rfl rfl rfl ?_
  refine load1 (H.bx 2 rfl (j := 1) rfl) ?_
  obtain ⟨y12, e, hF13⟩ := bindS hF; clear hF
  have ey12 := e; clear e
  refine callF (laws_toIntSS_c a__1 a__1h y12 ey12) (Γi := []) H ⟨Vw.sh 3 rfl, trivial⟩ ?_; clear H ey12
  rintro _ _ w14 ⟨h15, rfl, rfl⟩ (H : Cx w0 fp0 S0 w14 [E (List (List Int)) y12 h15, Bx b9 [(.int .i64 a__0), (.slice none 0 0)], Bx b6 [(.int .i64 0), (.slice none 0 0)], Bx b3 [(.int .i64 a__0), (a__1h).v], Es (List (List Int)) a__1 a__1h])
  refine fld gok rfl rfl rfl rfl ?_
  replace H := H.sel [1, 0, 2, 3, 4] rfl
  refine stB (j := 1) H rfl rfl ?_; clear H; intro w17 H
  replace H : Cx w0 fp0 S0 w17 [Bx b9 [(.int .i64 a__0), (h15).v], E (List (List Int)) y12 h15, Bx b6 [(.int .i64 0), (.slice none 0 0)], Bx b3 [(.int .i64 a__0), (a__1h).v], Es (List (List Int)) a__1 a__1h] := H
  refine loadN [(.int .i64 a__0), (h15).v] rfl (fun j u hj => H.bx 0 rfl hj) ?_
  replace H := H.sel [2, 0, 1, 3, 4] rfl
  refine stA gok [(.int .i64 a__0), (h15).v] rfl H rfl rfl rfl ?_; clear H; intro w18 H
  replace H : Cx w0 fp0 S0 w18 [Bx b6 [(.int .i64 a__0), (h15).v], Bx b9 [(.int .i64 a__0), (h15).v], E (List (List Int)) y12 h15, Bx b3 [(.int .i64 a__0), (a__1h).v], Es (List (List Int)) a__1 a__1h] := H
  refine loadN [(.int .i64 a__0), (h15).v] rfl (fun j u hj => H.bx 0 rfl hj) ?_
  cases hF13
  exact ⟨_, _, rfl, ⟨h15, rfl, rfl⟩, (H.sel [2] rfl).close ⟨cloE, trivial⟩⟩

theorem spec_l1In_c (n_ : Int) (lo_ : Int) (hi_ : Int) (y : Bool) (hF : F_spec_l1In n_ lo_ hi_ = some y) :
    ConF Tryd.prog 80 #[(.int .i64 n_), (.int .i64 lo_), (.int .i64 hi_)] [] [] (fun v Γ' => v = (.bool y) ∧ Γ' = []) := by
  intro w0 S0 fp0 hI hS
  have H : Cx w0 fp0 S0 w0 [] := Cx.start hI hS
  clear hI hS
  refine enterC (args := [_, _, _]) gok Tryd.func80 rfl _ rfl rfl rfl ?_
  obtain ⟨r9, hF11, hF10⟩ := bindS hF; clear hF
  refine cut (fun (q12 : Bool) => [(6, (.bool q12))]) (fun (q12 : Bool) w' => q12 = r9 ∧ Cx w0 fp0 S0 w' []) ?_ ?_
  · skip
    obtain ⟨a13, e, hF14⟩ := bindS hF11; clear hF11
    refine boolO e ?_; clear e
    cases a13
    · have hF15 := condF hF14; clear hF14
      exact ⟨false, ⟨rfl, trivial⟩, Option.some.inj hF15, H.sel [] rfl⟩
    · have hF16 := condT hF14; clear hF14
      obtain ⟨a17, e, hF18⟩ := bindS hF16; clear hF16
      refine boolO e ?_; clear e
      exact ⟨a17, ⟨rfl, trivial⟩, Option.some.inj hF18, H.sel [] rfl⟩
  · clear hF11 H
    rintro T20 s7 w19 ⟨hr, (H : Cx w0 fp0 S0 w19 [])⟩
    subst hr
    cases hF10
    exact ⟨_, _, rfl, ⟨rfl, rfl⟩, (H.sel [] rfl).close trivial⟩

theorem spec_fdGood_c (p_ : Int) (y : Bool) (hF : F_spec_fdGood p_ = some y) :
    ConF Tryd.prog 131 #[(.int .i64 p_)] [] [] (fun v Γ' => v = (.bool y) ∧ Γ' = []) := by
  intro w0 S0 fp0 hI hS
  have H : Cx w0 fp0 S0 w0 [] := Cx.start hI hS
  clear hI hS
  refine enterC (args := [_]) gok Tryd.func131 rfl _ rfl rfl rfl ?_
  refine sq ?_
  obtain ⟨y1, e, hF2⟩ := bindS hF; clear hF
  have ey1 := e; clear e
  refine callF (spec_l1In_c p_ 2 97 y1 ey1) (Γi := []) H trivial ?_; clear H ey1
  rintro _ _ w3 ⟨rfl, rfl⟩ (H : Cx w0 fp0 S0 w3 [])
  obtain ⟨a4, e, hF5⟩ := bindS hF2; clear hF2
  refine boolO e ?_; clear e
  cases a4
  · have hF6 := condF hF5; clear hF5
    obtain ⟨r66, hF68, hF67⟩ := bindS hF6; clear hF6
    refine cut (fun (q69 : Unit) => []) (fun (q69 : Unit) w' => .inl () = r66 ∧ Cx w0 fp0 S0 w' []) ?_ ?_
    · skip
      refine loopW _ (fun (s102 : Int) (_ : Unit) => [(0, (.int .i64 p_)), (3, (.int .i64 s102))]) (fun (s102 : Int) (_ : Unit) w' => Cx w0 fp0 S0 w' []) 2 () hF68 ⟨rfl, rfl, trivial⟩ (H.sel [] rfl) ?_
      · clear H
        rintro T108 s102 _ w107 o109 (H : Cx w0 fp0 S0 w107 []) hrt hF110
        refine sq ?_
        obtain ⟨a111, e, hF112⟩ := bindS hF110; clear hF110
        refine arO e ?_; clear e
        obtain ⟨a113, e, hF114⟩ := bindS hF112; clear hF112
        refine boolO e ?_; clear e
        cases a113
        · have hF115 := condF hF114; clear hF114
          have hs := Option.some.inj hF115; subst hs; clear hF115
          have hF116 : some _ = some _ := congrArg some (hrt _ rfl).symm
          exact ⟨(), trivial, Option.some.inj hF116, H.sel [] rfl⟩
        · have hF117 := condT hF114; clear hF114
          refine sq ?_
          obtain ⟨a118, e, hF119⟩ := bindS hF117; clear hF117
          refine remO_ e ?_; clear e
          obtain ⟨a120, e, hF121⟩ := bindS hF119; clear hF119
          refine boolO e ?_; clear e
          cases a120
          · have hF122 := condF hF121; clear hF121
            obtain ⟨a123, e, hF124⟩ := bindS hF122; clear hF122
            refine arO e ?_; clear e
            have hs := Option.some.inj hF124; subst hs; clear hF124
            exact ⟨a123, (), rfl, ⟨rfl, rfl, trivial⟩, H.sel [] rfl⟩
          · have hF125 := condT hF121; clear hF121
            have hs := Option.some.inj hF125; subst hs; clear hF125
            have hF126 : some _ = some _ := congrArg some (hrt _ rfl).symm
            have hs := Option.some.inj hF126; subst hs; clear hF126
            have hF127 : some _ = some _ := hF67; clear hF67
            cases hF127
            exact ⟨_, _, rfl, ⟨rfl, rfl⟩, (H.sel [] rfl).close trivial⟩
    · clear hF68 H
      rintro T129 _ w128 ⟨hr, (H : Cx w0 fp0 S0 w128 [])⟩
      subst hr
      cases hF67
      exact ⟨_, _, rfl, ⟨rfl, rfl⟩, (H.sel [] rfl).close trivial⟩
  · have hF130 := condT hF5; clear hF5
    cases hF130
    exact ⟨_, _, rfl, ⟨rfl, rfl⟩, (H.sel [] rfl).close trivial⟩

theorem spec_l1All_c (l_ : List Int) (l_h : Hd) (lo_ : Int) (hi_ : Int) (y : Bool) (hF : F_spec_l1All l_ lo_ hi_ = some y) :
    ConF Tryd.prog 178 #[(l_h).v, (.int .i64 lo_), (.int .i64 hi_)] [Es (List Int) l_ l_h] [] (fun v Γ' => v = (.bool y) ∧ Γ' = []) := by
  intro w0 S0 fp0 hI hS
  have H : Cx w0 fp0 S0 w0 [Es (List Int) l_ l_h] := Cx.start hI hS
  clear hI hS
  refine enterC (args := [_, _, _]) gok Tryd.func178 rfl _ rfl rfl rfl ?_
  refine sq ?_
  refine lenE (H.rs (α := List Int) 0 rfl).len ?_
  have hmx22 := (H.rs (α := List Int) 0 rfl).max
  obtain ⟨r23, e, hF24⟩ := bindS hF; clear hF
  refine loopO _ l_.length (fun (k2 : Nat) (_ : Unit) (_ : Unit) => [(1, (.int .i64 lo_)), (2, (.int .i64 hi_)), (9, (l_h).v), (10, (.int .i64 ((l_.length : Nat) : Int))), (11, (.int .i64 ((k2 : Nat) : Int)))]) (fun _ (_ : Unit) (_ : Unit) w' => Cx w0 fp0 S0 w' [Es (List Int) l_ l_h]) () () e ⟨rfl, rfl, rfl, rfl, rfl, trivial⟩ (H.sel [0] rfl) ?_ ?_
  · clear H e
    rintro T26 k2 _ _ w25 o27 hk (H : Cx w0 fp0 S0 w25 [Es (List Int) l_ l_h]) hrt hF28
    refine boolE (z := true) (ltLen hk) ?_
    refine sq ?_
    refine sq ?_
    obtain ⟨a35, e, hF36⟩ := bindS hF28; clear hF28
    obtain ⟨p33, m34, c29, c30, c31, c32⟩ := (H.rs (α := List Int) 0 rfl).at1 e; clear e
    refine idxE c29 c30 c31 ?_; clear c29 c30 c31
    refine load1 c32 ?_; clear c32
    obtain ⟨y37, e, hF38⟩ := bindS hF36; clear hF36
    have ey37 := e; clear e
    refine callF (spec_l1In_c a35 lo_ hi_ y37 ey37) (Γi := []) H trivial ?_; clear H ey37
    rintro _ _ w39 ⟨rfl, rfl⟩ (H : Cx w0 fp0 S0 w39 [Es (List Int) l_ l_h])
    obtain ⟨a40, e, hF41⟩ := bindS hF38; clear hF38
    refine boolO e ?_; clear e
    cases a40
    · have hF42 := condF hF41; clear hF41
      refine arK hk hmx22 ?_
      have hs := Option.some.inj hF42; subst hs; clear hF42
      exact ⟨(), (), rfl, ⟨rfl, rfl, rfl, rfl, rfl, trivial⟩, H.sel [0] rfl⟩
    · have hF43 := condT hF41; clear hF41
      have hs := Option.some.inj hF43; subst hs; clear hF43
      have hr := hrt _ rfl; subst hr
      have hF44 : some _ = some _ := hF24
      cases hF44
      exact ⟨_, _, rfl, ⟨rfl, rfl⟩, (H.sel [] rfl).close trivial⟩
  · clear H e
    rintro T46 _ _ w45 hr (H : Cx w0 fp0 S0 w45 [Es (List Int) l_ l_h])
    subst hr
    refine boolE (z := false) geLen ?_
    refine sq ?_
    cases hF24
    exact ⟨_, _, rfl, ⟨rfl, rfl⟩, (H.sel [] rfl).close trivial⟩

theorem spec_fdIn_c (p_ : Int) (l_ : List Int) (l_h : Hd) (y : Bool) (hF : F_spec_fdIn p_ l_ = some y) :
    ConF Tryd.prog 142 #[(.int .i64 p_), (l_h).v] [Es (List Int) l_ l_h] [] (fun v Γ' => v = (.bool y) ∧ Γ' = []) := by
  intro w0 S0 fp0 hI hS
  have H : Cx w0 fp0 S0 w0 [Es (List Int) l_ l_h] := Cx.start hI hS
  clear hI hS
  refine enterC (args := [_, _]) gok Tryd.func142 rfl _ rfl rfl rfl ?_
  obtain ⟨a2, e, hF3⟩ := bindS hF; clear hF
  refine arO e ?_; clear e
  obtain ⟨y4, e, hF5⟩ := bindS hF3; clear hF3
  have ey4 := e; clear e
  refine callF (spec_l1All_c l_ l_h 0 a2 y4 ey4) (Γi := []) H ⟨Vw.sh 0 rfl, trivial⟩ ?_; clear H ey4
  rintro _ _ w6 ⟨rfl, rfl⟩ (H : Cx w0 fp0 S0 w6 [Es (List Int) l_ l_h])
  cases hF5
  exact ⟨_, _, rfl, ⟨rfl, rfl⟩, (H.sel [] rfl).close trivial⟩

theorem spec_mxGood_c (p_ : Int) (m__0 : Int) (m__1 : List (List Int)) (m__1h : Hd) (y : Bool) (hF : F_spec_mxGood p_ (m__0, m__1) = some y) :
    ConF Tryd.prog 81 #[(.int .i64 p_), (.agg #[(.int .i64 m__0), (m__1h).v])] [Es (List (List Int)) m__1 m__1h] [] (fun v Γ' => v = (.bool y) ∧ Γ' = []) := by
  intro w0 S0 fp0 hI hS
  have H : Cx w0 fp0 S0 w0 [Es (List (List Int)) m__1 m__1h] := Cx.start hI hS
  clear hI hS
  refine enterC (args := [_, _]) gok Tryd.func81 rfl _ rfl rfl rfl ?_
  refine box_ H ?_; clear H; intro b3 w2 hx H
  clear hx
  replace H : Cx w0 fp0 S0 w2 [Bx b3 [(.int .i64 m__0), (m__1h).v], Es (List (List Int)) m__1 m__1h] := H
  refine sq ?_
  obtain ⟨r23, hF25, hF24⟩ := bindS hF; clear hF
  refine cut (fun (q26 : Bool) => [(0, (.int .i64 p_)), (3, (.pointer (some ⟨b3, 0, none⟩))), (21, (.bool q26))]) (fun (q26 : Bool) w' => q26 = r23 ∧ Cx w0 fp0 S0 w' [Bx b3 [(.int .i64 m__0), (m__1h).v], Es (List (List Int)) m__1 m__1h]) ?_ ?_
  · skip
    obtain ⟨y27, e, hF28⟩ := bindS hF25; clear hF25
    have ey27 := e; clear e
    refine callF (spec_fdGood_c p_ y27 ey27) (Γi := []) H trivial ?_; clear H ey27
    rintro _ _ w29 ⟨rfl, rfl⟩ (H : Cx w0 fp0 S0 w29 [Bx b3 [(.int .i64 m__0), (m__1h).v], Es (List (List Int)) m__1 m__1h])
    obtain ⟨a30, e, hF31⟩ := bindS hF28; clear hF28
    refine boolO e ?_; clear e
    cases a30
    · have hF32 := condF hF31; clear hF31
      refine fld gok rfl rfl rfl rfl ?_
      refine load1 (H.bx 0 rfl (j := 0) rfl) ?_
      obtain ⟨y33, e, hF34⟩ := bindS hF32; clear hF32
      have ey33 := e; clear e
      refine callF (spec_l1In_c m__0 0 24 y33 ey33) (Γi := []) H trivial ?_; clear H ey33
      rintro _ _ w35 ⟨rfl, rfl⟩ (H : Cx w0 fp0 S0 w35 [Bx b3 [(.int .i64 m__0), (m__1h).v], Es (List (List Int)) m__1 m__1h])
      obtain ⟨a36, e, hF37⟩ := bindS hF34; clear hF34
      refine boolO e ?_; clear e
      cases a36
      · have hF38 := condF hF37; clear hF37
        refine fld gok rfl rfl rfl rfl ?_
        refine load1 (H.bx 0 rfl (j := 1) rfl) ?_
        refine lenE (H.rs (α := List (List Int)) 1 rfl).len ?_
        obtain ⟨a39, e, hF40⟩ := bindS hF38; clear hF38
        refine boolO e ?_; clear e
        exact ⟨a39, ⟨rfl, rfl, rfl, trivial⟩, Option.some.inj hF40, H.sel [0, 1] rfl⟩
      · have hF41 := condT hF37; clear hF37
        exact ⟨true, ⟨rfl, rfl, rfl, trivial⟩, Option.some.inj hF41, H.sel [0, 1] rfl⟩
    · have hF42 := condT hF31; clear hF31
      exact ⟨true, ⟨rfl, rfl, rfl, trivial⟩, Option.some.inj hF42, H.sel [0, 1] rfl⟩
  · clear hF25 H
    rintro T44 s21 w43 ⟨hr, (H : Cx w0 fp0 S0 w43 [Bx b3 [(.int .i64 m__0), (m__1h).v], Es (List (List Int)) m__1 m__1h])⟩
    subst hr
    cases s21
    · have hF45 := condF hF24; clear hF24
      refine sq ?_
      refine fld gok rfl rfl rfl rfl ?_
      refine load1 (H.bx 0 rfl (j := 1) rfl) ?_
      refine lenE (H.rs (α := List (List Int)) 1 rfl).len ?_
      have hmx89 := (H.rs (α := List (List Int)) 1 rfl).max
      obtain ⟨r90, e, hF91⟩ := bindS hF45; clear hF45
      refine loopO _ m__1.length (fun (k46 : Nat) (_ : Unit) (_ : Unit) => [(0, (.int .i64 p_)), (3, (.pointer (some ⟨b3, 0, none⟩))), (23, (m__1h).v), (24, (.int .i64 ((m__1.length : Nat) : Int))), (25, (.int .i64 ((k46 : Nat) : Int)))]) (fun _ (_ : Unit) (_ : Unit) w' => Cx w0 fp0 S0 w' [Bx b3 [(.int .i64 m__0), (m__1h).v], Es (List (List Int)) m__1 m__1h]) () () e ⟨rfl, rfl, rfl, rfl, rfl, trivial⟩ (H.sel [0, 1] rfl) ?_ ?_
      · clear H e
        rintro T93 k46 _ _ w92 o94 hk (H : Cx w0 fp0 S0 w92 [Bx b3 [(.int .i64 m__0), (m__1h).v], Es (List (List Int)) m__1 m__1h]) hrt hF95
        refine boolE (z := true) (ltLen hk) ?_
        refine sq ?_
        refine sq ?_
        obtain ⟨a102, e, hF103⟩ := bindS hF95; clear hF95
        have HH := H; clear H; obtain ⟨p100, m101, h104, c96, c97, c98, c99, H⟩ := HH.elL 1 rfl e; clear HH
        clear e
        refine idxE c96 c97 c98 ?_; clear c96 c97 c98
        refine load1 c99 ?_; clear c99
        obtain ⟨r117, hF119, hF118⟩ := bindS hF103; clear hF103
        refine cut (fun (q120 : Bool) => [(0, (.int .i64 p_)), (3, (.pointer (some ⟨b3, 0, none⟩))), (23, (m__1h).v), (24, (.int .i64 ((m__1.length : Nat) : Int))), (25, (.int .i64 ((k46 : Nat) : Int))), (39, (.bool q120))]) (fun (q120 : Bool) w' => q120 = r117 ∧ Cx w0 fp0 S0 w' [Bx b3 [(.int .i64 m__0), (m__1h).v], Es (List (List Int)) m__1 m__1h]) ?_ ?_
        · skip
          refine lenE (H.rs (α := List Int) 0 rfl).len ?_
          refine fld gok rfl rfl rfl rfl ?_
          refine load1 (H.bx 1 rfl (j := 0) rfl) ?_
          obtain ⟨a121, e, hF122⟩ := bindS hF119; clear hF119
          refine boolO e ?_; clear e
          cases a121
          · have hF123 := condF hF122; clear hF122
            obtain ⟨y124, e, hF125⟩ := bindS hF123; clear hF123
            have ey124 := e; clear e
            refine callF (spec_fdIn_c p_ a102 h104 y124 ey124) (Γi := []) H ⟨Vw.sh 0 rfl, trivial⟩ ?_; clear H ey124
            rintro _ _ w126 ⟨rfl, rfl⟩ (H : Cx w0 fp0 S0 w126 [Es (List Int) a102 h104, Bx b3 [(.int .i64 m__0), (m__1h).v], Es (List (List Int)) m__1 m__1h])
            obtain ⟨a127, e, hF128⟩ := bindS hF125; clear hF125
            refine boolO e ?_; clear e
            exact ⟨a127, ⟨rfl, rfl, rfl, rfl, rfl, rfl, trivial⟩, Option.some.inj hF128, H.sel [1, 2] rfl⟩
          · have hF129 := condT hF122; clear hF122
            exact ⟨true, ⟨rfl, rfl, rfl, rfl, rfl, rfl, trivial⟩, Option.some.inj hF129, H.sel [1, 2] rfl⟩
        · clear hF119 H
          rintro T131 s115 w130 ⟨hr, (H : Cx w0 fp0 S0 w130 [Bx b3 [(.int .i64 m__0), (m__1h).v], Es (List (List Int)) m__1 m__1h])⟩
          subst hr
          cases s115
          · have hF132 := condF hF118; clear hF118
            refine arK hk hmx89 ?_
            have hs := Option.some.inj hF132; subst hs; clear hF132
            exact ⟨(), (), rfl, ⟨rfl, rfl, rfl, rfl, rfl, trivial⟩, H.sel [0, 1] rfl⟩
          · have hF133 := condT hF118; clear hF118
            have hs := Option.some.inj hF133; subst hs; clear hF133
            have hr := hrt _ rfl; subst hr
            have hF134 : some _ = some _ := hF91
            cases hF134
            exact ⟨_, _, rfl, ⟨rfl, rfl⟩, (H.sel [] rfl).close trivial⟩
      · clear H e
        rintro T136 _ _ w135 hr (H : Cx w0 fp0 S0 w135 [Bx b3 [(.int .i64 m__0), (m__1h).v], Es (List (List Int)) m__1 m__1h])
        subst hr
        refine boolE (z := false) geLen ?_
        refine sq ?_
        cases hF91
        exact ⟨_, _, rfl, ⟨rfl, rfl⟩, (H.sel [] rfl).close trivial⟩
    · have hF139 := condT hF24; clear hF24
      cases hF139
      exact ⟨_, _, rfl, ⟨rfl, rfl⟩, (H.sel [] rfl).close trivial⟩

theorem spec_l1Rising_c (l_ : List Int) (l_h : Hd) (lo_ : Int) (hi_ : Int) (y : Bool) (hF : F_spec_l1Rising l_ lo_ hi_ = some y) :
    ConF Tryd.prog 143 #[(l_h).v, (.int .i64 lo_), (.int .i64 hi_)] [Es (List Int) l_ l_h] [] (fun v Γ' => v = (.bool y) ∧ Γ' = []) := by
  intro w0 S0 fp0 hI hS
  have H : Cx w0 fp0 S0 w0 [Es (List Int) l_ l_h] := Cx.start hI hS
  clear hI hS
  refine enterC (args := [_, _, _]) gok Tryd.func143 rfl _ rfl rfl rfl ?_
  refine sq ?_
  refine lenE (H.rs (α := List Int) 0 rfl).len ?_
  have hmx71 := (H.rs (α := List Int) 0 rfl).max
  obtain ⟨r72, e, hF73⟩ := bindS hF; clear hF
  refine loopO _ l_.length (fun (k2 : Nat) (_ : Unit) (_ : Unit) => [(0, (l_h).v), (1, (.int .i64 lo_)), (2, (.int .i64 hi_)), (9, (l_h).v), (10, (.int .i64 ((l_.length : Nat) : Int))), (11, (.int .i64 ((k2 : Nat) : Int)))]) (fun _ (_ : Unit) (_ : Unit) w' => Cx w0 fp0 S0 w' [Es (List Int) l_ l_h]) () () e ⟨rfl, rfl, rfl, rfl, rfl, rfl, trivial⟩ (H.sel [0] rfl) ?_ ?_
  · clear H e
    rintro T75 k2 _ _ w74 o76 hk (H : Cx w0 fp0 S0 w74 [Es (List Int) l_ l_h]) hrt hF77
    refine boolE (z := true) (ltLen hk) ?_
    refine sq ?_
    refine sq ?_
    obtain ⟨a84, e, hF85⟩ := bindS hF77; clear hF77
    obtain ⟨p82, m83, c78, c79, c80, c81⟩ := (H.rs (α := List Int) 0 rfl).at1 e; clear e
    refine idxE c78 c79 c80 ?_; clear c78 c79 c80
    refine load1 c81 ?_; clear c81
    obtain ⟨r111, hF113, hF112⟩ := bindS hF85; clear hF85
    refine cut (fun (q114 : Bool) => [(0, (l_h).v), (1, (.int .i64 lo_)), (2, (.int .i64 hi_)), (9, (l_h).v), (10, (.int .i64 ((l_.length : Nat) : Int))), (11, (.int .i64 ((k2 : Nat) : Int))), (33, (.bool q114))]) (fun (q114 : Bool) w' => q114 = r111 ∧ Cx w0 fp0 S0 w' [Es (List Int) l_ l_h]) ?_ ?_
    · skip
      obtain ⟨y115, e, hF116⟩ := bindS hF113; clear hF113
      have ey115 := e; clear e
      refine callF (spec_l1In_c a84 lo_ hi_ y115 ey115) (Γi := []) H trivial ?_; clear H ey115
      rintro _ _ w117 ⟨rfl, rfl⟩ (H : Cx w0 fp0 S0 w117 [Es (List Int) l_ l_h])
      obtain ⟨a118, e, hF119⟩ := bindS hF116; clear hF116
      refine boolO e ?_; clear e
      cases a118
      · have hF120 := condF hF119; clear hF119
        obtain ⟨a121, e, hF122⟩ := bindS hF120; clear hF120
        refine boolO e ?_; clear e
        cases a121
        · have hF123 := condF hF122; clear hF122
          exact ⟨false, ⟨rfl, rfl, rfl, rfl, rfl, rfl, rfl, trivial⟩, Option.some.inj hF123, H.sel [0] rfl⟩
        · have hF124 := condT hF122; clear hF122
          obtain ⟨a125, e, hF126⟩ := bindS hF124; clear hF124
          refine arO e ?_; clear e
          obtain ⟨a133, e, hF134⟩ := bindS hF126; clear hF126
          obtain ⟨p131, m132, c127, c128, c129, c130⟩ := (H.rs (α := List Int) 0 rfl).at1 e; clear e
          refine idxE c127 c128 c129 ?_; clear c127 c128 c129
          refine load1 c130 ?_; clear c130
          obtain ⟨a135, e, hF136⟩ := bindS hF134; clear hF134
          refine boolO e ?_; clear e
          exact ⟨a135, ⟨rfl, rfl, rfl, rfl, rfl, rfl, rfl, trivial⟩, Option.some.inj hF136, H.sel [0] rfl⟩
      · have hF137 := condT hF119; clear hF119
        exact ⟨true, ⟨rfl, rfl, rfl, rfl, rfl, rfl, rfl, trivial⟩, Option.some.inj hF137, H.sel [0] rfl⟩
    · clear hF113 H
      rintro T139 s109 w138 ⟨hr, (H : Cx w0 fp0 S0 w138 [Es (List Int) l_ l_h])⟩
      subst hr
      cases s109
      · have hF140 := condF hF112; clear hF112
        refine arK hk hmx71 ?_
        have hs := Option.some.inj hF140; subst hs; clear hF140
        exact ⟨(), (), rfl, ⟨rfl, rfl, rfl, rfl, rfl, rfl, trivial⟩, H.sel [0] rfl⟩
      · have hF141 := condT hF112; clear hF112
        have hs := Option.some.inj hF141; subst hs; clear hF141
        have hr := hrt _ rfl; subst hr
        have hF142 : some _ = some _ := hF73
        cases hF142
        exact ⟨_, _, rfl, ⟨rfl, rfl⟩, (H.sel [] rfl).close trivial⟩
  · clear H e
    rintro T144 _ _ w143 hr (H : Cx w0 fp0 S0 w143 [Es (List Int) l_ l_h])
    subst hr
    refine boolE (z := false) geLen ?_
    refine sq ?_
    cases hF73
    exact ⟨_, _, rfl, ⟨rfl, rfl⟩, (H.sel [] rfl).close trivial⟩

theorem spec_riPorts_c (ports_ : List Int) (ports_h : Hd) (n_ : Int) (y : Bool) (hF : F_spec_riPorts ports_ n_ = some y) :
    ConF Tryd.prog 82 #[(ports_h).v, (.int .i64 n_)] [Es (List Int) ports_ ports_h] [] (fun v Γ' => v = (.bool y) ∧ Γ' = []) := by
  intro w0 S0 fp0 hI hS
  have H : Cx w0 fp0 S0 w0 [Es (List Int) ports_ ports_h] := Cx.start hI hS
  clear hI hS
  refine enterC (args := [_, _]) gok Tryd.func82 rfl _ rfl rfl rfl ?_
  obtain ⟨a2, e, hF3⟩ := bindS hF; clear hF
  refine arO e ?_; clear e
  obtain ⟨y4, e, hF5⟩ := bindS hF3; clear hF3
  have ey4 := e; clear e
  refine callF (spec_l1Rising_c ports_ ports_h 0 a2 y4 ey4) (Γi := []) H ⟨Vw.sh 0 rfl, trivial⟩ ?_; clear H ey4
  rintro _ _ w6 ⟨rfl, rfl⟩ (H : Cx w0 fp0 S0 w6 [Es (List Int) ports_ ports_h])
  cases hF5
  exact ⟨_, _, rfl, ⟨rfl, rfl⟩, (H.sel [] rfl).close trivial⟩

theorem spec_l1Has_c (l_ : List Int) (l_h : Hd) (n_ : Int) (y : Bool) (hF : F_spec_l1Has l_ n_ = some y) :
    ConF Tryd.prog 108 #[(l_h).v, (.int .i64 n_)] [Es (List Int) l_ l_h] [] (fun v Γ' => v = (.bool y) ∧ Γ' = []) := by
  intro w0 S0 fp0 hI hS
  have H : Cx w0 fp0 S0 w0 [Es (List Int) l_ l_h] := Cx.start hI hS
  clear hI hS
  refine enterC (args := [_, _]) gok Tryd.func108 rfl _ rfl rfl rfl ?_
  refine sq ?_
  refine lenE (H.rs (α := List Int) 0 rfl).len ?_
  have hmx19 := (H.rs (α := List Int) 0 rfl).max
  obtain ⟨r20, e, hF21⟩ := bindS hF; clear hF
  refine loopO _ l_.length (fun (k2 : Nat) (_ : Unit) (_ : Unit) => [(1, (.int .i64 n_)), (7, (l_h).v), (8, (.int .i64 ((l_.length : Nat) : Int))), (9, (.int .i64 ((k2 : Nat) : Int)))]) (fun _ (_ : Unit) (_ : Unit) w' => Cx w0 fp0 S0 w' [Es (List Int) l_ l_h]) () () e ⟨rfl, rfl, rfl, rfl, trivial⟩ (H.sel [0] rfl) ?_ ?_
  · clear H e
    rintro T23 k2 _ _ w22 o24 hk (H : Cx w0 fp0 S0 w22 [Es (List Int) l_ l_h]) hrt hF25
    refine boolE (z := true) (ltLen hk) ?_
    refine sq ?_
    refine sq ?_
    obtain ⟨a32, e, hF33⟩ := bindS hF25; clear hF25
    obtain ⟨p30, m31, c26, c27, c28, c29⟩ := (H.rs (α := List Int) 0 rfl).at1 e; clear e
    refine idxE c26 c27 c28 ?_; clear c26 c27 c28
    refine load1 c29 ?_; clear c29
    obtain ⟨a34, e, hF35⟩ := bindS hF33; clear hF33
    refine boolO e ?_; clear e
    cases a34
    · have hF36 := condF hF35; clear hF35
      refine arK hk hmx19 ?_
      have hs := Option.some.inj hF36; subst hs; clear hF36
      exact ⟨(), (), rfl, ⟨rfl, rfl, rfl, rfl, trivial⟩, H.sel [0] rfl⟩
    · have hF37 := condT hF35; clear hF35
      have hs := Option.some.inj hF37; subst hs; clear hF37
      have hr := hrt _ rfl; subst hr
      have hF38 : some _ = some _ := hF21
      cases hF38
      exact ⟨_, _, rfl, ⟨rfl, rfl⟩, (H.sel [] rfl).close trivial⟩
  · clear H e
    rintro T40 _ _ w39 hr (H : Cx w0 fp0 S0 w39 [Es (List Int) l_ l_h])
    subst hr
    refine boolE (z := false) geLen ?_
    refine sq ?_
    cases hF21
    exact ⟨_, _, rfl, ⟨rfl, rfl⟩, (H.sel [] rfl).close trivial⟩

theorem spec_riRest_c (ports_ : List Int) (ports_h : Hd) (n_ : Int) (y : List Int) (hF : F_spec_riRest ports_ n_ = some y) :
    ConF Tryd.prog 83 #[(ports_h).v, (.int .i64 n_)] [Es (List Int) ports_ ports_h] [] (fun v Γ' => ∃ z0 : Hd, v = (z0).v ∧ Γ' = [E (List Int) y z0]) := by
  intro w0 S0 fp0 hI hS
  have H : Cx w0 fp0 S0 w0 [Es (List Int) ports_ ports_h] := Cx.start hI hS
  clear hI hS
  refine enterC (args := [_, _]) gok Tryd.func83 rfl _ rfl rfl rfl ?_
  obtain ⟨r92, hF94, hF93⟩ := bindS hF; clear hF
  refine cut (fun (q95 : List Int × Hd) => [(5, (q95.2).v)]) (fun (q95 : List Int × Hd) w' => q95.1 = r92 ∧ Cx w0 fp0 S0 w' [E (List Int) q95.1 q95.2]) ?_ ?_
  · skip
    replace H := H.nil (α := Int)
    refine loopW _ (fun (s148 : List Int × Int) (g149 : Hd) => [(0, (ports_h).v), (1, (.int .i64 n_)), (5, (g149).v), (6, (.int .i64 s148.2))]) (fun (s148 : List Int × Int) (g149 : Hd) w' => Cx w0 fp0 S0 w' [Es (List Int) ports_ ports_h, E (List Int) s148.1 g149]) ([], 0) nilH hF94 ⟨rfl, rfl, rfl, rfl, trivial⟩ (H.sel [1, 0] rfl) ?_
    · clear H
      rintro T156 ⟨s148_0, s148_1⟩ g149 w155 o157 (H : Cx w0 fp0 S0 w155 [Es (List Int) ports_ ports_h, E (List Int) s148_0 g149]) hrt hF158
      refine sq ?_
      obtain ⟨a159, e, hF160⟩ := bindS hF158; clear hF158
      refine boolO e ?_; clear e
      cases a159
      · have hF161 := condF hF160; clear hF160
        have hs := Option.some.inj hF161; subst hs; clear hF161
        have hF162 : some _ = some _ := congrArg some (hrt _ rfl).symm
        exact ⟨(s148_0, g149), ⟨rfl, trivial⟩, Option.some.inj hF162, H.sel [1] rfl⟩
      · have hF163 := condT hF160; clear hF160
        refine sq ?_
        obtain ⟨y164, e, hF165⟩ := bindS hF163; clear hF163
        have ey164 := e; clear e
        refine callF (spec_l1Has_c ports_ ports_h s148_1 y164 ey164) (Γi := []) H ⟨Vw.sh 0 rfl, trivial⟩ ?_; clear H ey164
        rintro _ _ w166 ⟨rfl, rfl⟩ (H : Cx w0 fp0 S0 w166 [Es (List Int) ports_ ports_h, E (List Int) s148_0 g149])
        obtain ⟨a167, e, hF168⟩ := bindS hF165; clear hF165
        refine boolO e ?_; clear e
        cases a167
        · have hF169 := condF hF168; clear hF168
          obtain ⟨a170, e, hF171⟩ := bindS hF169; clear hF169
          refine arO e ?_; clear e
          have hs := Option.some.inj hF171; subst hs; clear hF171
          exact ⟨(s148_0, a170), g149, rfl, ⟨rfl, rfl, rfl, rfl, trivial⟩, H.sel [0, 1] rfl⟩
        · have hF172 := condT hF168; clear hF168
          refine lit1S (α := Int) gok rfl rfl rfl rfl H ?_; clear H; intro h174 w173 hx H
          clear hx
          obtain ⟨a176, e, hF177⟩ := bindS hF172; clear hF172
          replace H := H.sel [2, 0, 1] rfl
          refine append_ (α := Int) gok rfl rfl rfl rfl H e ?_; clear e H; intro h179 w178 H
          obtain ⟨a181, e, hF182⟩ := bindS hF177; clear hF177
          refine arO e ?_; clear e
          have hs := Option.some.inj hF182; subst hs; clear hF182
          exact ⟨(a176, a181), h179, rfl, ⟨rfl, rfl, rfl, rfl, trivial⟩, H.sel [1, 0] rfl⟩
  · clear hF94 H
    rintro T184 ⟨s89, g90⟩ w183 ⟨hr, (H : Cx w0 fp0 S0 w183 [E (List Int) s89 g90])⟩
    subst hr
    cases hF93
    exact ⟨_, _, rfl, ⟨g90, rfl, rfl⟩, (H.sel [0] rfl).close ⟨cloE, trivial⟩⟩

theorem spec_l1Own_c (l_ : List Int) (l_h : Hd) (y : List Int) (hF : F_spec_l1Own l_ = some y) :
    ConF Tryd.prog 144 #[(l_h).v] [Es (List Int) l_ l_h] [] (fun v Γ' => ∃ z0 : Hd, v = (z0).v ∧ Γ' = [E (List Int) y z0]) := by
  intro w0 S0 fp0 hI hS
  have H : Cx w0 fp0 S0 w0 [Es (List Int) l_ l_h] := Cx.start hI hS
  clear hI hS
  refine enterC (args := [_]) gok Tryd.func144 rfl _ rfl rfl rfl ?_
  refine lit0 (α := Int) gok rfl rfl H ?_; clear H; intro h3 w2 hx H
  clear hx
  obtain ⟨a5, e, hF6⟩ := bindS hF; clear hF
  refine appendS (α := Int) gok rfl rfl rfl rfl H (Vw.sh 0 rfl) e ?_; clear e H; intro h8 w7 H
  cases hF6
  exact ⟨_, _, rfl, ⟨h8, rfl, rfl⟩, (H.sel [0] rfl).close ⟨cloE, trivial⟩⟩

theorem spec_fdInv_c (p_ : Int) (a_ : Int) (y : Int) (hF : F_spec_fdInv p_ a_ = some y) :
    ConF Tryd.prog 145 #[(.int .i64 p_), (.int .i64 a_)] [] [] (fun v Γ' => v = (.int .i64 y) ∧ Γ' = []) := by
  intro w0 S0 fp0 hI hS
  have H : Cx w0 fp0 S0 w0 [] := Cx.start hI hS
  clear hI hS
  refine enterC (args := [_, _]) gok Tryd.func145 rfl _ rfl rfl rfl ?_
  obtain ⟨r60, hF62, hF61⟩ := bindS hF; clear hF
  refine cut (fun (q63 : Unit) => []) (fun (q63 : Unit) w' => .inl () = r60 ∧ Cx w0 fp0 S0 w' []) ?_ ?_
  · skip
    refine loopW _ (fun (s96 : Int) (_ : Unit) => [(0, (.int .i64 p_)), (1, (.int .i64 a_)), (5, (.int .i64 s96))]) (fun (s96 : Int) (_ : Unit) w' => Cx w0 fp0 S0 w' []) 1 () hF62 ⟨rfl, rfl, rfl, trivial⟩ (H.sel [] rfl) ?_
    · clear H
      rintro T102 s96 _ w101 o103 (H : Cx w0 fp0 S0 w101 []) hrt hF104
      refine sq ?_
      obtain ⟨a105, e, hF106⟩ := bindS hF104; clear hF104
      refine boolO e ?_; clear e
      cases a105
      · have hF107 := condF hF106; clear hF106
        have hs := Option.some.inj hF107; subst hs; clear hF107
        have hF108 : some _ = some _ := congrArg some (hrt _ rfl).symm
        exact ⟨(), trivial, Option.some.inj hF108, H.sel [] rfl⟩
      · have hF109 := condT hF106; clear hF106
        refine sq ?_
        obtain ⟨a110, e, hF111⟩ := bindS hF109; clear hF109
        refine arO e ?_; clear e
        obtain ⟨a112, e, hF113⟩ := bindS hF111; clear hF111
        refine remO_ e ?_; clear e
        obtain ⟨a114, e, hF115⟩ := bindS hF113; clear hF113
        refine boolO e ?_; clear e
        cases a114
        · have hF116 := condF hF115; clear hF115
          obtain ⟨a117, e, hF118⟩ := bindS hF116; clear hF116
          refine arO e ?_; clear e
          have hs := Option.some.inj hF118; subst hs; clear hF118
          exact ⟨a117, (), rfl, ⟨rfl, rfl, rfl, trivial⟩, H.sel [] rfl⟩
        · have hF119 := condT hF115; clear hF115
          have hs := Option.some.inj hF119; subst hs; clear hF119
          have hF120 : some _ = some _ := congrArg some (hrt _ rfl).symm
          have hs := Option.some.inj hF120; subst hs; clear hF120
          have hF121 : some _ = some _ := hF61; clear hF61
          cases hF121
          exact ⟨_, _, rfl, ⟨rfl, rfl⟩, (H.sel [] rfl).close trivial⟩
  · clear hF62 H
    rintro T123 _ w122 ⟨hr, (H : Cx w0 fp0 S0 w122 [])⟩
    subst hr
    cases hF61
    exact ⟨_, _, rfl, ⟨rfl, rfl⟩, (H.sel [] rfl).close trivial⟩

theorem spec_fdMul_c (p_ : Int) (a_ : Int) (b_ : Int) (y : Int) (hF : F_spec_fdMul p_ a_ b_ = some y) :
    ConF Tryd.prog 146 #[(.int .i64 p_), (.int .i64 a_), (.int .i64 b_)] [] [] (fun v Γ' => v = (.int .i64 y) ∧ Γ' = []) := by
  intro w0 S0 fp0 hI hS
  have H : Cx w0 fp0 S0 w0 [] := Cx.start hI hS
  clear hI hS
  refine enterC (args := [_, _, _]) gok Tryd.func146 rfl _ rfl rfl rfl ?_
  obtain ⟨a1, e, hF2⟩ := bindS hF; clear hF
  refine arO e ?_; clear e
  obtain ⟨a3, e, hF4⟩ := bindS hF2; clear hF2
  refine remO_ e ?_; clear e
  cases hF4
  exact ⟨_, _, rfl, ⟨rfl, rfl⟩, (H.sel [] rfl).close trivial⟩

theorem spec_fdSub_c (p_ : Int) (a_ : Int) (b_ : Int) (y : Int) (hF : F_spec_fdSub p_ a_ b_ = some y) :
    ConF Tryd.prog 147 #[(.int .i64 p_), (.int .i64 a_), (.int .i64 b_)] [] [] (fun v Γ' => v = (.int .i64 y) ∧ Γ' = []) := by
  intro w0 S0 fp0 hI hS
  have H : Cx w0 fp0 S0 w0 [] := Cx.start hI hS
  clear hI hS
  refine enterC (args := [_, _, _]) gok Tryd.func147 rfl _ rfl rfl rfl ?_
  obtain ⟨a1, e, hF2⟩ := bindS hF; clear hF
  refine arO e ?_; clear e
  obtain ⟨a3, e, hF4⟩ := bindS hF2; clear hF2
  refine arO e ?_; clear e
  obtain ⟨a5, e, hF6⟩ := bindS hF4; clear hF4
  refine remO_ e ?_; clear e
  cases hF6
  exact ⟨_, _, rfl, ⟨rfl, rfl⟩, (H.sel [] rfl).close trivial⟩

theorem spec_spReduce_c (p_ : Int) (size_ : Int) (rows_ : List (List Int)) (rows_h : Hd) (y : List (List Int)) (hF : F_spec_spReduce p_ size_ rows_ = some y) :
    ConF Tryd.prog 84 #[(.int .i64 p_), (.int .i64 size_), (rows_h).v] [Es (List (List Int)) rows_ rows_h] [] (fun v Γ' => ∃ z0 : Hd, v = (z0).v ∧ Γ' = [E (List (List Int)) y z0]) := by
  intro w0 S0 fp0 hI hS
  have H : Cx w0 fp0 S0 w0 [Es (List (List Int)) rows_ rows_h] := Cx.start hI hS
  clear hI hS
  refine enterC (args := [_, _, _]) gok Tryd.func84 rfl _ rfl rfl rfl ?_
  refine sq ?_
  refine lenE (H.rs (α := List (List Int)) 0 rfl).len ?_
  have hmx58 := (H.rs (α := List (List Int)) 0 rfl).max
  obtain ⟨r59, e, hF60⟩ := bindS hF; clear hF
  replace H := H.nil (α := List Int)
  refine loopS _ rows_.length (fun (k2 : Nat) (s55 : List (List Int)) (g56 : Hd) => [(0, (.int .i64 p_)), (1, (.int .i64 size_)), (7, (g56).v), (19, (rows_h).v), (20, (.int .i64 ((rows_.length : Nat) : Int))), (21, (.int .i64 ((k2 : Nat) : Int)))]) (fun _ (s55 : List (List Int)) (g56 : Hd) w' => Cx w0 fp0 S0 w' [E (List (List Int)) s55 g56, Es (List (List Int)) rows_ rows_h]) [] nilH e ⟨rfl, rfl, rfl, rfl, rfl, rfl, trivial⟩ (H.sel [0, 1] rfl) ?_ ?_
  · clear H e
    rintro T63 k2 s55 g56 w62 o64 hk (H : Cx w0 fp0 S0 w62 [E (List (List Int)) s55 g56, Es (List (List Int)) rows_ rows_h]) hF65
    refine boolE (z := true) (ltLen hk) ?_
    refine sq ?_
    refine sq ?_
    obtain ⟨a72, e, hF73⟩ := bindS hF65; clear hF65
    have HH := H; clear H; obtain ⟨p70, m71, h74, c66, c67, c68, c69, H⟩ := HH.elL 1 rfl e; clear HH
    clear e
    refine idxE c66 c67 c68 ?_; clear c66 c67 c68
    refine load1 c69 ?_; clear c69
    obtain ⟨y76, e, hF77⟩ := bindS hF73; clear hF73
    have ey76 := e; clear e
    refine callF (spec_l1Own_c a72 h74 y76 ey76) (Γi := []) H ⟨Vw.sh 0 rfl, trivial⟩ ?_; clear H ey76
    rintro _ _ w78 ⟨h79, rfl, rfl⟩ (H : Cx w0 fp0 S0 w78 [E (List Int) y76 h79, Es (List Int) a72 h74, E (List (List Int)) s55 g56, Es (List (List Int)) rows_ rows_h])
    refine lit1 (α := List Int) (g := h79) gok rfl rfl rfl rfl rfl H ?_; clear H; intro h82 w81 hx H
    clear hx
    obtain ⟨a84, e, hF85⟩ := bindS hF77; clear hF77
    replace H := H.sel [2, 0, 1, 3] rfl
    refine append_ (α := List Int) gok rfl rfl rfl rfl H e ?_; clear e H; intro h87 w86 H
    refine arK hk hmx58 ?_
    have hs := Option.some.inj hF85; subst hs; clear hF85
    exact ⟨h87, ⟨rfl, rfl, rfl, rfl, rfl, rfl, trivial⟩, H.sel [0, 2] rfl⟩
  · clear H e
    rintro T90 g92 w89 (H : Cx w0 fp0 S0 w89 [E (List (List Int)) r59 g92, Es (List (List Int)) rows_ rows_h])
    refine boolE (z := false) geLen ?_
    refine sq ?_
    obtain ⟨r14378, hF14380, hF14379⟩ := bindS hF60; clear hF60
    refine cut (fun (q14381 : List (List Int) × Int) => [(7, (g92).v), (10, (.int .i64 q14381.2))]) (fun (q14381 : List (List Int) × Int) w' => (q14381.1, q14381.2) = r14378 ∧ Cx w0 fp0 S0 w' [E (List (List Int)) q14381.1 g92]) ?_ ?_
    · skip
      refine loopW _ (fun (s23898 : List (List Int) × Int × Int) (_ : Unit) => [(0, (.int .i64 p_)), (1, (.int .i64 size_)), (7, (g92).v), (10, (.int .i64 s23898.2.1)), (11, (.int .i64 s23898.2.2))]) (fun (s23898 : List (List Int) × Int × Int) (_ : Unit) w' => Cx w0 fp0 S0 w' [E (List (List Int)) s23898.1 g92]) (r59, 0, 0) () hF14380 ⟨rfl, rfl, rfl, rfl, rfl, trivial⟩ (H.sel [0] rfl) ?_
      · clear H
        rintro T23904 ⟨s23898_0, s23898_1, s23898_2⟩ _ w23903 o23905 (H : Cx w0 fp0 S0 w23903 [E (List (List Int)) s23898_0 g92]) hrt hF23906
        refine sq ?_
        obtain ⟨r23915, hF23917, hF23916⟩ := bindS hF23906; clear hF23906
        refine cut (fun (q23918 : Bool) => [(0, (.int .i64 p_)), (1, (.int .i64 size_)), (7, (g92).v), (10, (.int .i64 s23898_1)), (11, (.int .i64 s23898_2)), (39, (.bool q23918))]) (fun (q23918 : Bool) w' => q23918 = r23915 ∧ Cx w0 fp0 S0 w' [E (List (List Int)) s23898_0 g92]) ?_ ?_
        · skip
          obtain ⟨a23919, e, hF23920⟩ := bindS hF23917; clear hF23917
          refine boolO e ?_; clear e
          cases a23919
          · have hF23921 := condF hF23920; clear hF23920
            exact ⟨false, ⟨rfl, rfl, rfl, rfl, rfl, rfl, trivial⟩, Option.some.inj hF23921, H.sel [0] rfl⟩
          · have hF23922 := condT hF23920; clear hF23920
            refine lenE (H.ro (α := List (List Int)) 0 rfl).len ?_
            obtain ⟨a23923, e, hF23924⟩ := bindS hF23922; clear hF23922
            refine boolO e ?_; clear e
            exact ⟨a23923, ⟨rfl, rfl, rfl, rfl, rfl, rfl, trivial⟩, Option.some.inj hF23924, H.sel [0] rfl⟩
        · clear hF23917 H
          rintro T23926 s23913 w23925 ⟨hr, (H : Cx w0 fp0 S0 w23925 [E (List (List Int)) s23898_0 g92])⟩
          subst hr
          cases s23913
          · have hF23927 := condF hF23916; clear hF23916
            have hs := Option.some.inj hF23927; subst hs; clear hF23927
            have hF23928 : some _ = some _ := congrArg some (hrt _ rfl).symm
            exact ⟨(s23898_0, s23898_1), ⟨rfl, rfl, trivial⟩, Option.some.inj hF23928, H.sel [0] rfl⟩
          · have hF23929 := condT hF23916; clear hF23916
            obtain ⟨r26294, hF26296, hF26295⟩ := bindS hF23929; clear hF23929
            refine cut (fun (q26297 : List (List Int) × Int) => [(0, (.int .i64 p_)), (1, (.int .i64 size_)), (7, (g92).v), (10, (.int .i64 q26297.2)), (11, (.int .i64 s23898_2))]) (fun (q26297 : List (List Int) × Int) w' => (q26297.1, q26297.2) = r26294 ∧ Cx w0 fp0 S0 w' [E (List (List Int)) q26297.1 g92]) ?_ ?_
            · skip
              obtain ⟨r26488, hF26490, hF26489⟩ := bindS hF26296; clear hF26296
              refine cut (fun (q26491 : Int) => [(0, (.int .i64 p_)), (1, (.int .i64 size_)), (7, (g92).v), (10, (.int .i64 s23898_1)), (11, (.int .i64 s23898_2)), (12, (.int .i64 q26491))]) (fun (q26491 : Int) w' => q26491 = r26488 ∧ Cx w0 fp0 S0 w' [E (List (List Int)) s23898_0 g92]) ?_ ?_
              · skip
                refine loopW _ (fun (s26612 : Int) (_ : Unit) => [(0, (.int .i64 p_)), (1, (.int .i64 size_)), (7, (g92).v), (10, (.int .i64 s23898_1)), (11, (.int .i64 s23898_2)), (12, (.int .i64 s26612))]) (fun (s26612 : Int) (_ : Unit) w' => Cx w0 fp0 S0 w' [E (List (List Int)) s23898_0 g92]) s23898_1 () hF26490 ⟨rfl, rfl, rfl, rfl, rfl, rfl, trivial⟩ (H.sel [0] rfl) ?_
                · clear H
                  rintro T26618 s26612 _ w26617 o26619 (H : Cx w0 fp0 S0 w26617 [E (List (List Int)) s23898_0 g92]) hrt hF26620
                  refine sq ?_
                  obtain ⟨r26646, hF26648, hF26647⟩ := bindS hF26620; clear hF26620
                  refine cut (fun (q26649 : Bool) => [(0, (.int .i64 p_)), (1, (.int .i64 size_)), (7, (g92).v), (10, (.int .i64 s23898_1)), (11, (.int .i64 s23898_2)), (12, (.int .i64 s26612)), (56, (.bool q26649))]) (fun (q26649 : Bool) w' => q26649 = r26646 ∧ Cx w0 fp0 S0 w' [E (List (List Int)) s23898_0 g92]) ?_ ?_
                  · skip
                    refine lenE (H.ro (α := List (List Int)) 0 rfl).len ?_
                    obtain ⟨a26650, e, hF26651⟩ := bindS hF26648; clear hF26648
                    refine boolO e ?_; clear e
                    cases a26650
                    · have hF26652 := condF hF26651; clear hF26651
                      exact ⟨false, ⟨rfl, rfl, rfl, rfl, rfl, rfl, rfl, trivial⟩, Option.some.inj hF26652, H.sel [0] rfl⟩
                    · have hF26653 := condT hF26651; clear hF26651
                      obtain ⟨a26660, e, hF26661⟩ := bindS hF26653; clear hF26653
                      replace H := H.toEH (α := List Int)
                      have HH := H; clear H; obtain ⟨p26658, m26659, h26662, c26654, c26655, c26656, c26657, H⟩ := HH.peekL e; clear HH
                      clear e
                      refine idxE c26654 c26655 c26656 ?_
                      refine load1 c26657 ?_; clear c26657
                      obtain ⟨a26669, e, hF26670⟩ := bindS hF26661; clear hF26661
                      obtain ⟨p26667, m26668, c26663, c26664, c26665, c26666⟩ := (H.rh (α := List Int) 0 rfl 0 rfl).at1 e; clear e
                      refine idxE c26663 c26664 c26665 ?_; clear c26663 c26664 c26665
                      refine load1 c26666 ?_; clear c26666
                      obtain ⟨a26671, e, hF26672⟩ := bindS hF26670; clear hF26670
                      refine boolO e ?_; clear e
                      replace H := H.ofEH
                      exact ⟨a26671, ⟨rfl, rfl, rfl, rfl, rfl, rfl, rfl, trivial⟩, Option.some.inj hF26672, H.sel [0] rfl⟩
                  · clear hF26648 H
                    rintro T26674 s26644 w26673 ⟨hr, (H : Cx w0 fp0 S0 w26673 [E (List (List Int)) s23898_0 g92])⟩
                    subst hr
                    cases s26644
                    · have hF26675 := condF hF26647; clear hF26647
                      have hs := Option.some.inj hF26675; subst hs; clear hF26675
                      have hF26676 : some _ = some _ := congrArg some (hrt _ rfl).symm
                      exact ⟨s26612, ⟨rfl, rfl, rfl, rfl, rfl, rfl, trivial⟩, Option.some.inj hF26676, H.sel [0] rfl⟩
                    · have hF26677 := condT hF26647; clear hF26647
                      obtain ⟨a26678, e, hF26679⟩ := bindS hF26677; clear hF26677
                      refine arO e ?_; clear e
                      have hs := Option.some.inj hF26679; subst hs; clear hF26679
                      exact ⟨a26678, (), rfl, ⟨rfl, rfl, rfl, rfl, rfl, rfl, trivial⟩, H.sel [0] rfl⟩
              · clear hF26490 H
                rintro T26681 s26486 w26680 ⟨hr, (H : Cx w0 fp0 S0 w26680 [E (List (List Int)) s23898_0 g92])⟩
                subst hr
                refine sq ?_
                refine lenE (H.ro (α := List (List Int)) 0 rfl).len ?_
                obtain ⟨a26682, e, hF26683⟩ := bindS hF26489; clear hF26489
                refine boolO e ?_; clear e
                cases a26682
                · have hF26684 := condF hF26683; clear hF26683
                  obtain ⟨a26691, e, hF26692⟩ := bindS hF26684; clear hF26684
                  replace H := H.toEH (α := List Int)
                  have HH := H; clear H; obtain ⟨p26689, m26690, h26693, c26685, c26686, c26687, c26688, H⟩ := HH.peekL e; clear HH
                  clear e
                  refine idxE c26685 c26686 c26687 ?_
                  refine load1 c26688 ?_; clear c26688
                  obtain ⟨a26700, e, hF26701⟩ := bindS hF26692; clear hF26692
                  have HH := H; clear H; obtain ⟨p26698, m26699, h26702, c26694, c26695, c26696, c26697, H⟩ := HH.peekL e; clear HH
                  clear e
                  refine idxE c26694 c26695 c26696 ?_
                  refine load1 c26697 ?_; clear c26697
                  refine idxE c26685 c26686 c26687 ?_
                  refine stZ1 (ki := 1) (kj := 0) H rfl rfl c26685 ?_; clear H; intro w26709 H
                  replace H : Cx w0 fp0 S0 w26709 [EZ (List Int) m26690 m26699 a26691 a26700 h26693 h26702 s23898_0 g92] := H
                  refine idxE c26694 c26695 c26696 ?_
                  obtain ⟨a26717, e, hF26718⟩ := bindS hF26701; clear hF26701
                  refine stZ2 H c26686 c26695 c26694 e ?_; clear H e; intro w26716 H
                  obtain ⟨a26725, e, hF26726⟩ := bindS hF26718; clear hF26718
                  replace H := H.toEH (α := List Int)
                  have HH := H; clear H; obtain ⟨p26723, m26724, h26727, c26719, c26720, c26721, c26722, H⟩ := HH.peekL e; clear HH
                  clear e
                  refine idxE c26719 c26720 c26721 ?_
                  refine load1 c26722 ?_; clear c26722
                  obtain ⟨a26734, e, hF26735⟩ := bindS hF26726; clear hF26726
                  obtain ⟨p26732, m26733, c26728, c26729, c26730, c26731⟩ := (H.rh (α := List Int) 0 rfl 0 rfl).at1 e; clear e
                  refine idxE c26728 c26729 c26730 ?_; clear c26728 c26729 c26730
                  refine load1 c26731 ?_; clear c26731
                  obtain ⟨y26736, e, hF26737⟩ := bindS hF26735; clear hF26735
                  have ey26736 := e; clear e
                  refine callF (spec_fdInv_c p_ a26734 y26736 ey26736) (Γi := []) H trivial ?_; clear H ey26736
                  rintro _ _ w26738 ⟨rfl, rfl⟩ (H : Cx w0 fp0 S0 w26738 [EH (List Int) a26717 g92 [⟨m26724, a26725, h26727⟩]])
                  refine sq ?_
                  obtain ⟨a26745, e, hF26746⟩ := bindS hF26737; clear hF26737
                  have HH := H; clear H; obtain ⟨p26743, m26744, h26747, c26739, c26740, c26741, c26742, H⟩ := HH.peekL e; clear HH
                  clear e
                  refine idxE c26739 c26740 c26741 ?_
                  refine load1 c26742 ?_; clear c26742
                  have hmx26748 := (H.rh (α := List Int) 0 rfl 0 rfl).max
                  refine lenE (H.rh (α := List Int) 0 rfl 0 rfl).len ?_
                  replace H := H.ofEH
                  obtain ⟨r26841, e, hF26842⟩ := bindS hF26746; clear hF26746
                  refine loopS _ a26745.length (fun (k26749 : Nat) (s26838 : List (List Int)) (_ : Unit) => [(0, (.int .i64 p_)), (1, (.int .i64 size_)), (7, (g92).v), (10, (.int .i64 s23898_1)), (11, (.int .i64 s23898_2)), (14, (.int .i64 y26736)), (91, (.int .i64 ((a26745.length : Nat) : Int))), (92, (.int .i64 ((k26749 : Nat) : Int)))]) (fun _ (s26838 : List (List Int)) (_ : Unit) w' => Cx w0 fp0 S0 w' [E (List (List Int)) s26838 g92]) a26717 () e ⟨rfl, rfl, rfl, rfl, rfl, rfl, rfl, rfl, trivial⟩ (H.sel [0] rfl) ?_ ?_
                  · clear H e
                    rintro T26844 k26749 s26838 _ w26843 o26845 hk (H : Cx w0 fp0 S0 w26843 [E (List (List Int)) s26838 g92]) hF26846
                    refine boolE (z := true) (ltLen hk) ?_
                    refine sq ?_
                    refine sq ?_
                    refine heldX H [16] (.fst 0 (.fst 1 (.fst 2 (.fst 4 (.fst 5 (.fst 6 (.fst 7 (.fst 8 (.fst 10 (.fst 13 (.fst 3 (.fst 9 (.fst 11 (.fst 12 (.act 14 (.fst 15 (.act 16 .done))))))))))))))))) mixed [] trivial (by kernel_rfl) ?_
                    clear H; intro w26847 H
                    have hX : Ext w26847 w26847 := Upd.refl _ _
                    have H0 := H
                    obtain ⟨a26854, e, hF26855⟩ := bindS hF26846; clear hF26846
                    replace H := H.toEH (α := List Int)
                    have HH := H; clear H; obtain ⟨p26852, m26853, h26856, c26848, c26849, c26850, c26851, H⟩ := HH.peekL e; clear HH
                    clear e
                    refine idxE c26848 c26849 c26850 ?_
                    obtain ⟨a26863, e, hF26864⟩ := bindS hF26855; clear hF26855
                    have HH := H; clear H; obtain ⟨p26861, m26862, h26865, c26857, c26858, c26859, c26860, H⟩ := HH.peekL e; clear HH
                    clear e
                    refine idxE c26857 c26858 c26859 ?_
                    refine load1X c26851 ?_; clear c26851
                    refine load1X c26860 ?_; clear c26860
                    obtain ⟨a26872, e, hF26873⟩ := bindS hF26864; clear hF26864
                    obtain ⟨p26870, m26871, c26866, c26867, c26868, c26869⟩ := (H.rh (α := List Int) 0 rfl 0 rfl).at1 e; clear e
                    refine idxE c26866 c26867 c26868 ?_; clear c26866 c26867 c26868
                    refine load1X c26869 ?_; clear c26869
                    obtain ⟨y26874, e, hF26875⟩ := bindS hF26873; clear hF26873
                    have ey26874 := e; clear e
                    refine callFx (spec_fdMul_c p_ a26872 y26736 y26874 ey26874) H trivial ?_; clear H ey26874
                    rintro _ _ w26876 ⟨rfl, rfl⟩ hx (H : Cx w0 fp0 S0 w26876 [EH (List Int) s26838 g92 [⟨m26862, a26863, h26865⟩, ⟨m26853, a26854, h26856⟩]])
                    replace hX := hX.trans0 hx; clear hx
                    refine hold hX ?_
                    replace H := H.takeK 1 rfl
                    obtain ⟨a26884, e, hF26885⟩ := bindS hF26875; clear hF26875
                    have ea26884 := e; clear e
                    obtain ⟨p26881, m26882, c26877, c26878, c26879⟩ := (H.ro (α := List Int) 0 rfl).setp ea26884
                    refine idxE c26877 c26878 c26879 ?_
                    refine setS (α := Int) H c26877 c26878 ea26884 ?_; clear H c26877 c26878 c26879 ea26884; intro w26886 H
                    obtain ⟨a26887, e, hF26888⟩ := bindS hF26885; clear hF26885
                    replace H := H.put c26849 e; clear e
                    refine hold trivial ?_
                    refine arK hk hmx26748 ?_
                    have hs := Option.some.inj hF26888; subst hs; clear hF26888
                    exact ⟨(), ⟨rfl, rfl, rfl, rfl, rfl, rfl, rfl, rfl, trivial⟩, H.sel [0] rfl⟩
                  · clear H e
                    rintro T26890 _ w26889 (H : Cx w0 fp0 S0 w26889 [E (List (List Int)) r26841 g92])
                    refine boolE (z := false) geLen ?_
                    refine sq ?_
                    refine sq ?_
                    refine lenE (H.ro (α := List (List Int)) 0 rfl).len ?_
                    have hmx28064 := (H.ro (α := List (List Int)) 0 rfl).max
                    obtain ⟨r28065, e, hF28066⟩ := bindS hF26842; clear hF26842
                    refine loopS _ r26841.length (fun (k26893 : Nat) (s28062 : List (List Int)) (_ : Unit) => [(0, (.int .i64 p_)), (1, (.int .i64 size_)), (7, (g92).v), (10, (.int .i64 s23898_1)), (11, (.int .i64 s23898_2)), (113, (.int .i64 ((r26841.length : Nat) : Int))), (114, (.int .i64 ((k26893 : Nat) : Int)))]) (fun _ (s28062 : List (List Int)) (_ : Unit) w' => Cx w0 fp0 S0 w' [E (List (List Int)) s28062 g92]) r26841 () e ⟨rfl, rfl, rfl, rfl, rfl, rfl, rfl, trivial⟩ (H.sel [0] rfl) ?_ ?_
                    · clear H e
                      rintro T28068 k26893 s28062 _ w28067 o28069 hk (H : Cx w0 fp0 S0 w28067 [E (List (List Int)) s28062 g92]) hF28070
                      refine boolE (z := true) (ltLen hk) ?_
                      refine sq ?_
                      obtain ⟨r28360, hF28362, hF28361⟩ := bindS hF28070; clear hF28070
                      refine cut (fun (q28363 : List (List Int)) => [(0, (.int .i64 p_)), (1, (.int .i64 size_)), (7, (g92).v), (10, (.int .i64 s23898_1)), (11, (.int .i64 s23898_2)), (113, (.int .i64 ((r26841.length : Nat) : Int))), (114, (.int .i64 ((k26893 : Nat) : Int)))]) (fun (q28363 : List (List Int)) w' => q28363 = r28360 ∧ Cx w0 fp0 S0 w' [E (List (List Int)) q28363 g92]) ?_ ?_
                      · skip
                        refine sq ?_
                        obtain ⟨r28389, hF28391, hF28390⟩ := bindS hF28362; clear hF28362
                        refine cut (fun (q28392 : Bool) => [(0, (.int .i64 p_)), (1, (.int .i64 size_)), (7, (g92).v), (10, (.int .i64 s23898_1)), (11, (.int .i64 s23898_2)), (16, (.int .i64 ((k26893 : Nat) : Int))), (113, (.int .i64 ((r26841.length : Nat) : Int))), (114, (.int .i64 ((k26893 : Nat) : Int))), (129, (.bool q28392))]) (fun (q28392 : Bool) w' => q28392 = r28389 ∧ Cx w0 fp0 S0 w' [E (List (List Int)) s28062 g92]) ?_ ?_
                        · skip
                          obtain ⟨a28393, e, hF28394⟩ := bindS hF28391; clear hF28391
                          refine boolO e ?_; clear e
                          cases a28393
                          · have hF28395 := condF hF28394; clear hF28394
                            obtain ⟨a28402, e, hF28403⟩ := bindS hF28395; clear hF28395
                            replace H := H.toEH (α := List Int)
                            have HH := H; clear H; obtain ⟨p28400, m28401, h28404, c28396, c28397, c28398, c28399, H⟩ := HH.peekL e; clear HH
                            clear e
                            refine idxE c28396 c28397 c28398 ?_
                            refine load1 c28399 ?_; clear c28399
                            obtain ⟨a28411, e, hF28412⟩ := bindS hF28403; clear hF28403
                            obtain ⟨p28409, m28410, c28405, c28406, c28407, c28408⟩ := (H.rh (α := List Int) 0 rfl 0 rfl).at1 e; clear e
                            refine idxE c28405 c28406 c28407 ?_; clear c28405 c28406 c28407
                            refine load1 c28408 ?_; clear c28408
                            obtain ⟨a28413, e, hF28414⟩ := bindS hF28412; clear hF28412
                            refine boolO e ?_; clear e
                            replace H := H.ofEH
                            exact ⟨a28413, ⟨rfl, rfl, rfl, rfl, rfl, rfl, rfl, rfl, rfl, trivial⟩, Option.some.inj hF28414, H.sel [0] rfl⟩
                          · have hF28415 := condT hF28394; clear hF28394
                            exact ⟨true, ⟨rfl, rfl, rfl, rfl, rfl, rfl, rfl, rfl, rfl, trivial⟩, Option.some.inj hF28415, H.sel [0] rfl⟩
                        · clear hF28391 H
                          rintro T28417 s28387 w28416 ⟨hr, (H : Cx w0 fp0 S0 w28416 [E (List (List Int)) s28062 g92])⟩
                          subst hr
                          cases s28387
                          · have hF28418 := condF hF28390; clear hF28390
                            obtain ⟨a28425, e, hF28426⟩ := bindS hF28418; clear hF28418
                            replace H := H.toEH (α := List Int)
                            have HH := H; clear H; obtain ⟨p28423, m28424, h28427, c28419, c28420, c28421, c28422, H⟩ := HH.peekL e; clear HH
                            clear e
                            refine idxE c28419 c28420 c28421 ?_
                            refine load1 c28422 ?_; clear c28422
                            obtain ⟨a28434, e, hF28435⟩ := bindS hF28426; clear hF28426
                            obtain ⟨p28432, m28433, c28428, c28429, c28430, c28431⟩ := (H.rh (α := List Int) 0 rfl 0 rfl).at1 e; clear e
                            refine idxE c28428 c28429 c28430 ?_; clear c28428 c28429 c28430
                            refine load1 c28431 ?_; clear c28431
                            replace H := H.ofEH
                            obtain ⟨a28442, e, hF28443⟩ := bindS hF28435; clear hF28435
                            replace H := H.toEH (α := List Int)
                            have HH := H; clear H; obtain ⟨p28440, m28441, h28444, c28436, c28437, c28438, c28439, H⟩ := HH.peekL e; clear HH
                            clear e
                            refine idxE c28436 c28437 c28438 ?_
                            refine load1 c28439 ?_; clear c28439
                            have hmx28445 := (H.rh (α := List Int) 0 rfl 0 rfl).max
                            refine lenE (H.rh (α := List Int) 0 rfl 0 rfl).len ?_
                            replace H := H.ofEH
                            obtain ⟨r28578, e, hF28579⟩ := bindS hF28443; clear hF28443
                            refine loopS _ a28442.length (fun (k28446 : Nat) (s28575 : List (List Int)) (_ : Unit) => [(0, (.int .i64 p_)), (1, (.int .i64 size_)), (7, (g92).v), (10, (.int .i64 s23898_1)), (11, (.int .i64 s23898_2)), (16, (.int .i64 ((k26893 : Nat) : Int))), (17, (.int .i64 a28434)), (113, (.int .i64 ((r26841.length : Nat) : Int))), (114, (.int .i64 ((k26893 : Nat) : Int))), (141, (.int .i64 ((a28442.length : Nat) : Int))), (142, (.int .i64 ((k28446 : Nat) : Int)))]) (fun _ (s28575 : List (List Int)) (_ : Unit) w' => Cx w0 fp0 S0 w' [E (List (List Int)) s28575 g92]) s28062 () e ⟨rfl, rfl, rfl, rfl, rfl, rfl, rfl, rfl, rfl, rfl, rfl, trivial⟩ (H.sel [0] rfl) ?_ ?_
                            · clear H e
                              rintro T28581 k28446 s28575 _ w28580 o28582 hk (H : Cx w0 fp0 S0 w28580 [E (List (List Int)) s28575 g92]) hF28583
                              refine boolE (z := true) (ltLen hk) ?_
                              refine sq ?_
                              refine sq ?_
                              refine heldX H [25] (.fst 0 (.fst 1 (.fst 2 (.fst 4 (.fst 5 (.fst 6 (.fst 7 (.fst 8 (.fst 10 (.fst 13 (.fst 14 (.fst 15 (.fst 16 (.fst 17 (.fst 19 (.fst 3 (.fst 9 (.fst 11 (.fst 12 (.fst 18 (.fst 20 (.fst 21 (.act 22 (.act 23 (.fst 24 (.act 25 .done)))))))))))))))))))))))))) mixed [] trivial (by kernel_rfl) ?_
                              clear H; intro w28584 H
                              have hX : Ext w28584 w28584 := Upd.refl _ _
                              have H0 := H
                              obtain ⟨a28591, e, hF28592⟩ := bindS hF28583; clear hF28583
                              replace H := H.toEH (α := List Int)
                              have HH := H; clear H; obtain ⟨p28589, m28590, h28593, c28585, c28586, c28587, c28588, H⟩ := HH.peekL e; clear HH
                              clear e
                              refine idxE c28585 c28586 c28587 ?_
                              obtain ⟨a28600, e, hF28601⟩ := bindS hF28592; clear hF28592
                              have HH := H; clear H; obtain ⟨p28598, m28599, h28602, c28594, c28595, c28596, c28597, H⟩ := HH.peekL e; clear HH
                              clear e
                              refine idxE c28594 c28595 c28596 ?_
                              obtain ⟨a28609, e, hF28610⟩ := bindS hF28601; clear hF28601
                              have HH := H; clear H; obtain ⟨p28607, m28608, h28611, c28603, c28604, c28605, c28606, H⟩ := HH.peekL e; clear HH
                              clear e
                              refine idxE c28603 c28604 c28605 ?_
                              refine load1X c28588 ?_; clear c28588
                              refine load1X c28597 ?_; clear c28597
                              obtain ⟨a28618, e, hF28619⟩ := bindS hF28610; clear hF28610
                              obtain ⟨p28616, m28617, c28612, c28613, c28614, c28615⟩ := (H.rh (α := List Int) 0 rfl 1 rfl).at1 e; clear e
                              refine idxE c28612 c28613 c28614 ?_; clear c28612 c28613 c28614
                              refine load1X c28615 ?_; clear c28615
                              refine load1X c28606 ?_; clear c28606
                              obtain ⟨a28626, e, hF28627⟩ := bindS hF28619; clear hF28619
                              obtain ⟨p28624, m28625, c28620, c28621, c28622, c28623⟩ := (H.rh (α := List Int) 0 rfl 0 rfl).at1 e; clear e
                              refine idxE c28620 c28621 c28622 ?_; clear c28620 c28621 c28622
                              refine load1X c28623 ?_; clear c28623
                              obtain ⟨y28628, e, hF28629⟩ := bindS hF28627; clear hF28627
                              have ey28628 := e; clear e
                              refine callFx (spec_fdMul_c p_ a28434 a28626 y28628 ey28628) H trivial ?_; clear H ey28628
                              rintro _ _ w28630 ⟨rfl, rfl⟩ hx (H : Cx w0 fp0 S0 w28630 [EH (List Int) s28575 g92 [⟨m28608, a28609, h28611⟩, ⟨m28599, a28600, h28602⟩, ⟨m28590, a28591, h28593⟩]])
                              replace hX := hX.trans0 hx; clear hx
                              refine hold hX ?_
                              obtain ⟨y28631, e, hF28632⟩ := bindS hF28629; clear hF28629
                              have ey28631 := e; clear e
                              refine callFx (spec_fdSub_c p_ a28618 y28628 y28631 ey28631) H trivial ?_; clear H ey28631
                              rintro _ _ w28633 ⟨rfl, rfl⟩ hx (H : Cx w0 fp0 S0 w28633 [EH (List Int) s28575 g92 [⟨m28608, a28609, h28611⟩, ⟨m28599, a28600, h28602⟩, ⟨m28590, a28591, h28593⟩]])
                              replace hX := hX.trans0 hx; clear hx
                              refine hold hX ?_
                              replace H := H.takeK 2 rfl
                              obtain ⟨a28641, e, hF28642⟩ := bindS hF28632; clear hF28632
                              have ea28641 := e; clear e
                              obtain ⟨p28638, m28639, c28634, c28635, c28636⟩ := (H.ro (α := List Int) 0 rfl).setp ea28641
                              refine idxE c28634 c28635 c28636 ?_
                              refine setS (α := Int) H c28634 c28635 ea28641 ?_; clear H c28634 c28635 c28636 ea28641; intro w28643 H
                              obtain ⟨a28644, e, hF28645⟩ := bindS hF28642; clear hF28642
                              replace H := H.put c28586 e; clear e
                              refine hold trivial ?_
                              refine arK hk hmx28445 ?_
                              have hs := Option.some.inj hF28645; subst hs; clear hF28645
                              exact ⟨(), ⟨rfl, rfl, rfl, rfl, rfl, rfl, rfl, rfl, rfl, rfl, rfl, trivial⟩, H.sel [0] rfl⟩
                            · clear H e
                              rintro T28647 _ w28646 (H : Cx w0 fp0 S0 w28646 [E (List (List Int)) r28578 g92])
                              refine boolE (z := false) geLen ?_
                              refine sq ?_
                              exact ⟨r28578, ⟨rfl, rfl, rfl, rfl, rfl, rfl, rfl, trivial⟩, Option.some.inj hF28579, H.sel [0] rfl⟩
                          · have hF28650 := condT hF28390; clear hF28390
                            exact ⟨s28062, ⟨rfl, rfl, rfl, rfl, rfl, rfl, rfl, trivial⟩, Option.some.inj hF28650, H.sel [0] rfl⟩
                      · clear hF28362 H
                        rintro T28652 s28358 w28651 ⟨hr, (H : Cx w0 fp0 S0 w28651 [E (List (List Int)) s28358 g92])⟩
                        subst hr
                        refine arK hk hmx28064 ?_
                        have hs := Option.some.inj hF28361; subst hs; clear hF28361
                        exact ⟨(), ⟨rfl, rfl, rfl, rfl, rfl, rfl, rfl, trivial⟩, H.sel [0] rfl⟩
                    · clear H e
                      rintro T28654 _ w28653 (H : Cx w0 fp0 S0 w28653 [E (List (List Int)) r28065 g92])
                      refine boolE (z := false) geLen ?_
                      refine sq ?_
                      obtain ⟨a28657, e, hF28658⟩ := bindS hF28066; clear hF28066
                      refine arO e ?_; clear e
                      exact ⟨(r28065, a28657), ⟨rfl, rfl, rfl, rfl, rfl, trivial⟩, Option.some.inj hF28658, H.sel [0] rfl⟩
                · have hF28659 := condT hF26683; clear hF26683
                  exact ⟨(s23898_0, s23898_1), ⟨rfl, rfl, rfl, rfl, rfl, trivial⟩, Option.some.inj hF28659, H.sel [0] rfl⟩
            · clear hF26296 H
              rintro T28661 ⟨s26292_0, s26292_1⟩ w28660 ⟨hr, (H : Cx w0 fp0 S0 w28660 [E (List (List Int)) s26292_0 g92])⟩
              subst hr
              obtain ⟨a28662, e, hF28663⟩ := bindS hF26295; clear hF26295
              refine arO e ?_; clear e
              have hs := Option.some.inj hF28663; subst hs; clear hF28663
              exact ⟨(s26292_0, s26292_1, a28662), (), rfl, ⟨rfl, rfl, rfl, rfl, rfl, trivial⟩, H.sel [0] rfl⟩
    · clear hF14380 H
      rintro T28665 ⟨s14376_0, s14376_1⟩ w28664 ⟨hr, (H : Cx w0 fp0 S0 w28664 [E (List (List Int)) s14376_0 g92])⟩
      subst hr
      obtain ⟨a28666, e, hF28667⟩ := bindS hF14379; clear hF14379
      refine slO (α := List Int) gok rfl rfl H e rfl rfl ?_; clear e H; intro h28668 H
      cases hF28667
      exact ⟨_, _, rfl, ⟨h28668, rfl, rfl⟩, (H.sel [0] rfl).close ⟨cloE, trivial⟩⟩

theorem spec_RelationOfFunction_c (p_ : Int) (left_ : Int) (right_ : Int) (ports_ : List Int) (ports_h : Hd) (m__0 : Int) (m__1 : List (List Int)) (m__1h : Hd) (y0_0 : Int) (y0_1 : Int) (y0_2 : List (List Int)) (y1 : Bool) (hF : F_spec_RelationOfFunction p_ left_ right_ ports_ (m__0, m__1) = some ((y0_0, y0_1, y0_2), y1)) :
    ConF Tryd.prog 30 #[(.int .i64 p_), (.int .i64 left_), (.int .i64 right_), (ports_h).v, (.agg #[(.int .i64 m__0), (m__1h).v])] [Es (List Int) ports_ ports_h, Es (List (List Int)) m__1 m__1h] [] (fun v Γ' => ∃ z0 : Hd, v = (.tuple #[(.agg #[(.int .i64 y0_0), (.int .i64 y0_1), (z0).v]), (.bool y1)]) ∧ Γ' = [E (List (List Int)) y0_2 z0]) := by
  intro w0 S0 fp0 hI hS
  have H : Cx w0 fp0 S0 w0 [Es (List Int) ports_ ports_h, Es (List (List Int)) m__1 m__1h] := Cx.start hI hS
  clear hI hS
  refine enterC (args := [_, _, _, _, _]) gok Tryd.func30 rfl _ rfl rfl rfl ?_
  refine box_ H ?_; clear H; intro b4 w3 hx H
  clear hx
  replace H : Cx w0 fp0 S0 w3 [Bx b4 [(.int .i64 m__0), (m__1h).v], Es (List Int) ports_ ports_h, Es (List (List Int)) m__1 m__1h] := H
  refine alloc_ gok rfl H ?_; clear H; intro b7 w6 hx H
  clear hx
  replace H : Cx w0 fp0 S0 w6 [Bx b7 [(.int .i64 0), (.int .i64 0), (.slice none 0 0)], Bx b4 [(.int .i64 m__0), (m__1h).v], Es (List Int) ports_ ports_h, Es (List (List Int)) m__1 m__1h] := H
  refine sq ?_
  obtain ⟨r53, hF55, hF54⟩ := bindS hF; clear hF
  refine cut (fun (q56 : Bool) => [(0, (.int .i64 p_)), (1, (.int .i64 left_)), (2, (.int .i64 right_)), (3, (ports_h).v), (9, (.pointer (some ⟨b4, 0, none⟩))), (10, (.pointer (some ⟨b7, 0, none⟩))), (61, (.bool q56))]) (fun (q56 : Bool) w' => q56 = r53 ∧ Cx w0 fp0 S0 w' [Es (List Int) ports_ ports_h, Bx b4 [(.int .i64 m__0), (m__1h).v], Es (List (List Int)) m__1 m__1h, Bx b7 [(.int .i64 0), (.int .i64 0), (.slice none 0 0)]]) ?_ ?_
  · skip
    obtain ⟨y57, e, hF58⟩ := bindS hF55; clear hF55
    have ey57 := e; clear e
    refine callF (spec_l1In_c left_ 0 24 y57 ey57) (Γi := []) H trivial ?_; clear H ey57
    rintro _ _ w59 ⟨rfl, rfl⟩ (H : Cx w0 fp0 S0 w59 [Bx b7 [(.int .i64 0), (.int .i64 0), (.slice none 0 0)], Bx b4 [(.int .i64 m__0), (m__1h).v], Es (List Int) ports_ ports_h, Es (List (List Int)) m__1 m__1h])
    obtain ⟨a60, e, hF61⟩ := bindS hF58; clear hF58
    refine boolO e ?_; clear e
    cases a60
    · have hF62 := condF hF61; clear hF61
      obtain ⟨a63, e, hF64⟩ := bindS hF62; clear hF62
      refine arO e ?_; clear e
      obtain ⟨y65, e, hF66⟩ := bindS hF64; clear hF64
      have ey65 := e; clear e
      refine callF (spec_l1In_c right_ 0 a63 y65 ey65) (Γi := []) H trivial ?_; clear H ey65
      rintro _ _ w67 ⟨rfl, rfl⟩ (H : Cx w0 fp0 S0 w67 [Bx b7 [(.int .i64 0), (.int .i64 0), (.slice none 0 0)], Bx b4 [(.int .i64 m__0), (m__1h).v], Es (List Int) ports_ ports_h, Es (List (List Int)) m__1 m__1h])
      obtain ⟨a68, e, hF69⟩ := bindS hF66; clear hF66
      refine boolO e ?_; clear e
      cases a68
      · have hF70 := condF hF69; clear hF69
        refine loadN [(.int .i64 m__0), (m__1h).v] rfl (fun j u hj => H.bx 1 rfl hj) ?_
        obtain ⟨y71, e, hF72⟩ := bindS hF70; clear hF70
        have ey71 := e; clear e
        refine callF (spec_mxGood_c p_ m__0 m__1 m__1h y71 ey71) (Γi := []) H ⟨Vw.sh 3 rfl, trivial⟩ ?_; clear H ey71
        rintro _ _ w73 ⟨rfl, rfl⟩ (H : Cx w0 fp0 S0 w73 [Bx b7 [(.int .i64 0), (.int .i64 0), (.slice none 0 0)], Bx b4 [(.int .i64 m__0), (m__1h).v], Es (List Int) ports_ ports_h, Es (List (List Int)) m__1 m__1h])
        obtain ⟨a74, e, hF75⟩ := bindS hF72; clear hF72
        refine boolO e ?_; clear e
        cases a74
        · have hF76 := condF hF75; clear hF75
          obtain ⟨a77, e, hF78⟩ := bindS hF76; clear hF76
          refine arO e ?_; clear e
          obtain ⟨y79, e, hF80⟩ := bindS hF78; clear hF78
          have ey79 := e; clear e
          refine callF (spec_riPorts_c ports_ ports_h a77 y79 ey79) (Γi := []) H ⟨Vw.sh 2 rfl, trivial⟩ ?_; clear H ey79
          rintro _ _ w81 ⟨rfl, rfl⟩ (H : Cx w0 fp0 S0 w81 [Bx b7 [(.int .i64 0), (.int .i64 0), (.slice none 0 0)], Bx b4 [(.int .i64 m__0), (m__1h).v], Es (List Int) ports_ ports_h, Es (List (List Int)) m__1 m__1h])
          obtain ⟨a82, e, hF83⟩ := bindS hF80; clear hF80
          refine boolO e ?_; clear e
          cases a82
          · have hF84 := condF hF83; clear hF83
            refine fld gok rfl rfl rfl rfl ?_
            refine load1 (H.bx 1 rfl (j := 1) rfl) ?_
            refine lenE (H.rs (α := List (List Int)) 3 rfl).len ?_
            refine lenE (H.rs (α := List Int) 2 rfl).len ?_
            obtain ⟨a85, e, hF86⟩ := bindS hF84; clear hF84
            refine boolO e ?_; clear e
            cases a85
            · have hF87 := condF hF86; clear hF86
              refine fld gok rfl rfl rfl rfl ?_
              refine load1 (H.bx 1 rfl (j := 0) rfl) ?_
              obtain ⟨a88, e, hF89⟩ := bindS hF87; clear hF87
              refine arO e ?_; clear e
              refine lenE (H.rs (α := List Int) 2 rfl).len ?_
              obtain ⟨a90, e, hF91⟩ := bindS hF89; clear hF89
              refine arO e ?_; clear e
              obtain ⟨a92, e, hF93⟩ := bindS hF91; clear hF91
              refine boolO e ?_; clear e
              exact ⟨a92, ⟨rfl, rfl, rfl, rfl, rfl, rfl, rfl, trivial⟩, Option.some.inj hF93, H.sel [2, 1, 3, 0] rfl⟩
            · have hF94 := condT hF86; clear hF86
              exact ⟨true, ⟨rfl, rfl, rfl, rfl, rfl, rfl, rfl, trivial⟩, Option.some.inj hF94, H.sel [2, 1, 3, 0] rfl⟩
          · have hF95 := condT hF83; clear hF83
            exact ⟨true, ⟨rfl, rfl, rfl, rfl, rfl, rfl, rfl, trivial⟩, Option.some.inj hF95, H.sel [2, 1, 3, 0] rfl⟩
        · have hF96 := condT hF75; clear hF75
          exact ⟨true, ⟨rfl, rfl, rfl, rfl, rfl, rfl, rfl, trivial⟩, Option.some.inj hF96, H.sel [2, 1, 3, 0] rfl⟩
      · have hF97 := condT hF69; clear hF69
        exact ⟨true, ⟨rfl, rfl, rfl, rfl, rfl, rfl, rfl, trivial⟩, Option.some.inj hF97, H.sel [2, 1, 3, 0] rfl⟩
    · have hF98 := condT hF61; clear hF61
      exact ⟨true, ⟨rfl, rfl, rfl, rfl, rfl, rfl, rfl, trivial⟩, Option.some.inj hF98, H.sel [2, 1, 3, 0] rfl⟩
  · clear hF55 H
    rintro T100 s51 w99 ⟨hr, (H : Cx w0 fp0 S0 w99 [Es (List Int) ports_ ports_h, Bx b4 [(.int .i64 m__0), (m__1h).v], Es (List (List Int)) m__1 m__1h, Bx b7 [(.int .i64 0), (.int .i64 0), (.slice none 0 0)]])⟩
    subst hr
    cases s51
    · have hF101 := condF hF54; clear hF54
      obtain ⟨a102, e, hF103⟩ := bindS hF101; clear hF101
      refine arO e ?_; clear e
      obtain ⟨y104, e, hF105⟩ := bindS hF103; clear hF103
      have ey104 := e; clear e
      refine callF (spec_riRest_c ports_ ports_h a102 y104 ey104) (Γi := []) H ⟨Vw.sh 0 rfl, trivial⟩ ?_; clear H ey104
      rintro _ _ w106 ⟨h107, rfl, rfl⟩ (H : Cx w0 fp0 S0 w106 [E (List Int) y104 h107, Es (List Int) ports_ ports_h, Bx b4 [(.int .i64 m__0), (m__1h).v], Es (List (List Int)) m__1 m__1h, Bx b7 [(.int .i64 0), (.int .i64 0), (.slice none 0 0)]])
      refine sq ?_
      refine lenE (H.rs (α := List Int) 1 rfl).len ?_
      have hmx389 := (H.rs (α := List Int) 1 rfl).max
      obtain ⟨r390, e, hF391⟩ := bindS hF105; clear hF105
      replace H := H.nil (α := List Int)
      refine loopS _ ports_.length (fun (k109 : Nat) (s386 : List (List Int)) (g387 : Hd) => [(0, (.int .i64 p_)), (1, (.int .i64 left_)), (2, (.int .i64 right_)), (9, (.pointer (some ⟨b4, 0, none⟩))), (10, (.pointer (some ⟨b7, 0, none⟩))), (12, (h107).v), (13, (g387).v), (68, (ports_h).v), (69, (.int .i64 ((ports_.length : Nat) : Int))), (70, (.int .i64 ((k109 : Nat) : Int)))]) (fun _ (s386 : List (List Int)) (g387 : Hd) w' => Cx w0 fp0 S0 w' [Bx b4 [(.int .i64 m__0), (m__1h).v], Es (List (List Int)) m__1 m__1h, Bx b7 [(.int .i64 0), (.int .i64 0), (.slice none 0 0)], E (List Int) y104 h107, E (List (List Int)) s386 g387, Es (List Int) ports_ ports_h]) [] nilH e ⟨rfl, rfl, rfl, rfl, rfl, rfl, rfl, rfl, rfl, rfl, trivial⟩ (H.sel [3, 4, 5, 1, 0, 2] rfl) ?_ ?_
      · clear H e
        rintro T394 k109 s386 g387 w393 o395 hk (H : Cx w0 fp0 S0 w393 [Bx b4 [(.int .i64 m__0), (m__1h).v], Es (List (List Int)) m__1 m__1h, Bx b7 [(.int .i64 0), (.int .i64 0), (.slice none 0 0)], E (List Int) y104 h107, E (List (List Int)) s386 g387, Es (List Int) ports_ ports_h]) hF396
        refine boolE (z := true) (ltLen hk) ?_
        refine sq ?_
        refine sq ?_
        obtain ⟨a403, e, hF404⟩ := bindS hF396; clear hF396
        obtain ⟨p401, m402, c397, c398, c399, c400⟩ := (H.rs (α := List Int) 5 rfl).at1 e; clear e
        refine idxE c397 c398 c399 ?_; clear c397 c398 c399
        refine load1 c400 ?_; clear c400
        obtain ⟨a405, e, hF406⟩ := bindS hF404; clear hF404
        refine arO e ?_; clear e
        obtain ⟨a407, e, hF408⟩ := bindS hF406; clear hF406
        refine make_ (α := Int) gok rfl rfl rfl rfl (makeCO_of e) H ?_; clear e H; intro h410 w409 hx H
        clear hx
        obtain ⟨a418, e, hF419⟩ := bindS hF408; clear hF408
        have ea418 := e; clear e
        obtain ⟨p416, m417, c412, c413, c414⟩ := (H.ro (α := List Int) 0 rfl).setp ea418
        refine idxE c412 c413 c414 ?_
        refine setS (α := Int) H c412 c413 ea418 ?_; clear H c412 c413 c414 ea418; intro w420 H
        refine sq ?_
        refine fld gok rfl rfl rfl rfl ?_
        refine load1 (H.bx 1 rfl (j := 1) rfl) ?_
        obtain ⟨a427, e, hF428⟩ := bindS hF419; clear hF419
        have HH := H; clear H; obtain ⟨p425, m426, h429, c421, c422, c423, c424, H⟩ := HH.elL 2 rfl e; clear HH
        clear e
        refine idxE c421 c422 c423 ?_; clear c421 c422 c423
        refine load1 c424 ?_; clear c424
        refine lenE (H.rs (α := List Int) 0 rfl).len ?_
        have hmx488 := (H.rs (α := List Int) 0 rfl).max
        obtain ⟨r489, e, hF490⟩ := bindS hF428; clear hF428
        refine loopS _ a427.length (fun (k431 : Nat) (s486 : List Int) (_ : Unit) => [(0, (.int .i64 p_)), (1, (.int .i64 left_)), (2, (.int .i64 right_)), (9, (.pointer (some ⟨b4, 0, none⟩))), (10, (.pointer (some ⟨b7, 0, none⟩))), (12, (h107).v), (13, (g387).v), (16, (h410).v), (68, (ports_h).v), (69, (.int .i64 ((ports_.length : Nat) : Int))), (70, (.int .i64 ((k109 : Nat) : Int))), (86, (h429).v), (87, (.int .i64 ((a427.length : Nat) : Int))), (88, (.int .i64 ((k431 : Nat) : Int)))]) (fun _ (s486 : List Int) (_ : Unit) w' => Cx w0 fp0 S0 w' [Bx b4 [(.int .i64 m__0), (m__1h).v], Es (List (List Int)) m__1 m__1h, Bx b7 [(.int .i64 0), (.int .i64 0), (.slice none 0 0)], E (List Int) y104 h107, E (List (List Int)) s386 g387, E (List Int) s486 h410, Es (List Int) ports_ ports_h, Es (List Int) a427 h429]) a418 () e ⟨rfl, rfl, rfl, rfl, rfl, rfl, rfl, rfl, rfl, rfl, rfl, rfl, rfl, rfl, trivial⟩ (H.sel [2, 3, 4, 5, 6, 1, 7, 0] rfl) ?_ ?_
        · clear H e
          rintro T492 k431 s486 _ w491 o493 hk (H : Cx w0 fp0 S0 w491 [Bx b4 [(.int .i64 m__0), (m__1h).v], Es (List (List Int)) m__1 m__1h, Bx b7 [(.int .i64 0), (.int .i64 0), (.slice none 0 0)], E (List Int) y104 h107, E (List (List Int)) s386 g387, E (List Int) s486 h410, Es (List Int) ports_ ports_h, Es (List Int) a427 h429]) hF494
          refine boolE (z := true) (ltLen hk) ?_
          refine sq ?_
          refine sq ?_
          obtain ⟨a501, e, hF502⟩ := bindS hF494; clear hF494
          obtain ⟨p499, m500, c495, c496, c497, c498⟩ := (H.rs (α := List Int) 7 rfl).at1 e; clear e
          refine idxE c495 c496 c497 ?_; clear c495 c496 c497
          refine load1 c498 ?_; clear c498
          obtain ⟨a509, e, hF510⟩ := bindS hF502; clear hF502
          obtain ⟨p507, m508, c503, c504, c505, c506⟩ := (H.ro (α := List Int) 3 rfl).at1 e; clear e
          refine idxE c503 c504 c505 ?_; clear c503 c504 c505
          refine load1 c506 ?_; clear c506
          obtain ⟨a517, e, hF518⟩ := bindS hF510; clear hF510
          have ea517 := e; clear e
          obtain ⟨p515, m516, c511, c512, c513⟩ := (H.ro (α := List Int) 5 rfl).setp ea517
          refine idxE c511 c512 c513 ?_
          replace H := H.sel [5, 0, 1, 2, 3, 4, 6, 7] rfl
          refine setS (α := Int) H c511 c512 ea517 ?_; clear H c511 c512 c513 ea517; intro w519 H
          refine arK hk hmx488 ?_
          have hs := Option.some.inj hF518; subst hs; clear hF518
          exact ⟨(), ⟨rfl, rfl, rfl, rfl, rfl, rfl, rfl, rfl, rfl, rfl, rfl, rfl, rfl, rfl, trivial⟩, H.sel [1, 2, 3, 4, 5, 0, 6, 7] rfl⟩
        · clear H e
          rintro T521 _ w520 (H : Cx w0 fp0 S0 w520 [Bx b4 [(.int .i64 m__0), (m__1h).v], Es (List (List Int)) m__1 m__1h, Bx b7 [(.int .i64 0), (.int .i64 0), (.slice none 0 0)], E (List Int) y104 h107, E (List (List Int)) s386 g387, E (List Int) r489 h410, Es (List Int) ports_ ports_h, Es (List Int) a427 h429])
          refine boolE (z := false) geLen ?_
          refine sq ?_
          replace H := H.sel [5, 0, 1, 2, 3, 4, 6, 7] rfl
          refine lit1 (α := List Int) (g := h410) gok rfl rfl rfl rfl rfl H ?_; clear H; intro h525 w524 hx H
          clear hx
          obtain ⟨a527, e, hF528⟩ := bindS hF490; clear hF490
          replace H := H.sel [5, 0, 1, 2, 3, 4, 6, 7] rfl
          refine append_ (α := List Int) gok rfl rfl rfl rfl H e ?_; clear e H; intro h530 w529 H
          refine arK hk hmx389 ?_
          have hs := Option.some.inj hF528; subst hs; clear hF528
          exact ⟨h530, ⟨rfl, rfl, rfl, rfl, rfl, rfl, rfl, rfl, rfl, rfl, trivial⟩, H.sel [1, 2, 3, 4, 0, 5] rfl⟩
      · clear H e
        rintro T533 g535 w532 (H : Cx w0 fp0 S0 w532 [Bx b4 [(.int .i64 m__0), (m__1h).v], Es (List (List Int)) m__1 m__1h, Bx b7 [(.int .i64 0), (.int .i64 0), (.slice none 0 0)], E (List Int) y104 h107, E (List (List Int)) r390 g535, Es (List Int) ports_ ports_h])
        refine boolE (z := false) geLen ?_
        refine sq ?_
        obtain ⟨a537, e, hF538⟩ := bindS hF391; clear hF391
        refine arO e ?_; clear e
        obtain ⟨y539, e, hF540⟩ := bindS hF538; clear hF538
        have ey539 := e; clear e
        refine callF (spec_spReduce_c p_ a537 r390 g535 y539 ey539) (Γi := []) H ⟨Vw.own 4 rfl, trivial⟩ ?_; clear H ey539
        rintro _ _ w541 ⟨h542, rfl, rfl⟩ (H : Cx w0 fp0 S0 w541 [E (List (List Int)) y539 h542, Bx b4 [(.int .i64 m__0), (m__1h).v], Es (List (List Int)) m__1 m__1h, Bx b7 [(.int .i64 0), (.int .i64 0), (.slice none 0 0)], E (List Int) y104 h107, E (List (List Int)) r390 g535, Es (List Int) ports_ ports_h])
        refine build_ (cs := #[(.int .i64 left_), (.int .i64 right_), (h542).v]) gok rfl rfl rfl ?_
        replace H := H.sel [3, 0, 1, 2, 4, 5, 6] rfl
        refine stA gok [(.int .i64 left_), (.int .i64 right_), (h542).v] rfl H rfl rfl rfl ?_; clear H; intro w544 H
        replace H : Cx w0 fp0 S0 w544 [Bx b7 [(.int .i64 left_), (.int .i64 right_), (h542).v], E (List (List Int)) y539 h542, Bx b4 [(.int .i64 m__0), (m__1h).v], Es (List (List Int)) m__1 m__1h, E (List Int) y104 h107, E (List (List Int)) r390 g535, Es (List Int) ports_ ports_h] := H
        refine loadN [(.int .i64 left_), (.int .i64 right_), (h542).v] rfl (fun j u hj => H.bx 0 rfl hj) ?_
        cases hF540
        exact ⟨_, _, rfl, ⟨h542, rfl, rfl⟩, (H.sel [1] rfl).close ⟨cloE, trivial⟩⟩
    · have hF545 := condT hF54; clear hF54
      refine build_ (cs := #[(.int .i64 0), (.int .i64 0), (.slice none 0 0)]) gok rfl rfl rfl ?_
      replace H := H.sel [3, 0, 1, 2] rfl
      refine stA gok [(.int .i64 0), (.int .i64 0), (.slice none 0 0)] rfl H rfl rfl rfl ?_; clear H; intro w546 H
      replace H : Cx w0 fp0 S0 w546 [Bx b7 [(.int .i64 0), (.int .i64 0), (.slice none 0 0)], Es (List Int) ports_ ports_h, Bx b4 [(.int .i64 m__0), (m__1h).v], Es (List (List Int)) m__1 m__1h] := H
      refine loadN [(.int .i64 0), (.int .i64 0), (.slice none 0 0)] rfl (fun j u hj => H.bx 0 rfl hj) ?_
      replace H := H.nil (α := List Int)
      cases hF545
      exact ⟨_, _, rfl, ⟨nilH, rfl, rfl⟩, (H.sel [0] rfl).close ⟨cloE, trivial⟩⟩

theorem impl_isField_c (p_ : Int) (y : Bool) (hF : F_impl_isField p_ = some y) :
    ConF Tryd.prog 135 #[(.int .i64 p_)] [Gl 0 [.int .i64 2, .int .i64 3, .int .i64 5, .int .i64 7]] [] (fun v Γ' => v = (.bool y) ∧ Γ' = []) := by
  intro w0 S0 fp0 hI hS
  have H : Cx w0 fp0 S0 w0 [Gl 0 [.int .i64 2, .int .i64 3, .int .i64 5, .int .i64 7]] := Cx.start hI hS
  clear hI hS
  refine enterC (args := [_]) gok Tryd.func135 rfl _ rfl rfl rfl ?_
  refine sq ?_
  obtain ⟨r10, hF12, hF11⟩ := bindS hF; clear hF
  refine cut (fun (q13 : Bool) => [(0, (.int .i64 p_)), (10, (.bool q13))]) (fun (q13 : Bool) w' => q13 = r10 ∧ Cx w0 fp0 S0 w' [Gl 0 [.int .i64 2, .int .i64 3, .int .i64 5, .int .i64 7]]) ?_ ?_
  · skip
    obtain ⟨a14, e, hF15⟩ := bindS hF12; clear hF12
    refine boolO e ?_; clear e
    cases a14
    · have hF16 := condF hF15; clear hF15
      obtain ⟨a17, e, hF18⟩ := bindS hF16; clear hF16
      refine boolO e ?_; clear e
      exact ⟨a17, ⟨rfl, rfl, trivial⟩, Option.some.inj hF18, H.sel [0] rfl⟩
    · have hF19 := condT hF15; clear hF15
      exact ⟨true, ⟨rfl, rfl, trivial⟩, Option.some.inj hF19, H.sel [0] rfl⟩
  · clear hF12 H
    rintro T21 s8 w20 ⟨hr, (H : Cx w0 fp0 S0 w20 [Gl 0 [.int .i64 2, .int .i64 3, .int .i64 5, .int .i64 7]])⟩
    subst hr
    cases s8
    · have hF22 := condF hF11; clear hF11
      refine sq ?_
      refine loadN [.int .i64 2, .int .i64 3, .int .i64 5, .int .i64 7] rfl (H.gl 0 rfl) ?_
      obtain ⟨a56, hn, hF57⟩ := bindS hF22; clear hF22
      obtain ⟨r59, e, hF60⟩ := bindS hF57; clear hF57
      refine loopO _ ((4 : Int).toNat) (fun (k23 : Nat) (_ : Unit) (_ : Unit) => [(0, (.int .i64 p_)), (11, (.agg #[.int .i64 2, .int .i64 3, .int .i64 5, .int .i64 7])), (12, (.int .i64 ((k23 : Nat) : Int)))]) (fun _ (_ : Unit) (_ : Unit) w' => Cx w0 fp0 S0 w' [Gl 0 [.int .i64 2, .int .i64 3, .int .i64 5, .int .i64 7]]) () () e ⟨rfl, rfl, rfl, trivial⟩ (H.sel [0] rfl) ?_ ?_
      · clear H e
        rintro T62 k23 _ _ w61 o63 hk (H : Cx w0 fp0 S0 w61 [Gl 0 [.int .i64 2, .int .i64 3, .int .i64 5, .int .i64 7]]) hrt hF64
        refine boolE (z := true) (ltNat hk) ?_
        refine sq ?_
        refine sq ?_
        obtain ⟨a65, e, hF66⟩ := bindS hF64; clear hF64
        refine indexI gok rfl rfl rfl rfl rfl e ?_; clear e
        obtain ⟨r77, hF79, hF78⟩ := bindS hF66; clear hF66
        refine cut (fun (q80 : Bool) => [(0, (.int .i64 p_)), (11, (.agg #[.int .i64 2, .int .i64 3, .int .i64 5, .int .i64 7])), (12, (.int .i64 ((k23 : Nat) : Int))), (23, (.bool q80))]) (fun (q80 : Bool) w' => q80 = r77 ∧ Cx w0 fp0 S0 w' [Gl 0 [.int .i64 2, .int .i64 3, .int .i64 5, .int .i64 7]]) ?_ ?_
        · skip
          obtain ⟨a81, e, hF82⟩ := bindS hF79; clear hF79
          refine remO_ e ?_; clear e
          obtain ⟨a83, e, hF84⟩ := bindS hF82; clear hF82
          refine boolO e ?_; clear e
          cases a83
          · have hF85 := condF hF84; clear hF84
            exact ⟨false, ⟨rfl, rfl, rfl, rfl, trivial⟩, Option.some.inj hF85, H.sel [0] rfl⟩
          · have hF86 := condT hF84; clear hF84
            obtain ⟨a87, e, hF88⟩ := bindS hF86; clear hF86
            refine boolO e ?_; clear e
            exact ⟨a87, ⟨rfl, rfl, rfl, rfl, trivial⟩, Option.some.inj hF88, H.sel [0] rfl⟩
        · clear hF79 H
          rintro T90 s75 w89 ⟨hr, (H : Cx w0 fp0 S0 w89 [Gl 0 [.int .i64 2, .int .i64 3, .int .i64 5, .int .i64 7]])⟩
          subst hr
          cases s75
          · have hF91 := condF hF78; clear hF78
            refine arK hk (maxI hn) ?_
            have hs := Option.some.inj hF91; subst hs; clear hF91
            exact ⟨(), (), rfl, ⟨rfl, rfl, rfl, trivial⟩, H.sel [0] rfl⟩
          · have hF92 := condT hF78; clear hF78
            have hs := Option.some.inj hF92; subst hs; clear hF92
            have hr := hrt _ rfl; subst hr
            have hF93 : some _ = some _ := hF60
            cases hF93
            exact ⟨_, _, rfl, ⟨rfl, rfl⟩, (H.sel [] rfl).close trivial⟩
      · clear H e
        rintro T95 _ _ w94 hr (H : Cx w0 fp0 S0 w94 [Gl 0 [.int .i64 2, .int .i64 3, .int .i64 5, .int .i64 7]])
        subst hr
        refine boolE (z := false) geNat ?_
        refine sq ?_
        cases hF60
        exact ⟨_, _, rfl, ⟨rfl, rfl⟩, (H.sel [] rfl).close trivial⟩
    · have hF98 := condT hF11; clear hF11
      cases hF98
      exact ⟨_, _, rfl, ⟨rfl, rfl⟩, (H.sel [] rfl).close trivial⟩

theorem impl_within_c (n_ : Int) (low_ : Int) (high_ : Int) (y : Bool) (hF : F_impl_within n_ low_ high_ = some y) :
    ConF Tryd.prog 111 #[(.int .i64 n_), (.int .i64 low_), (.int .i64 high_)] [] [] (fun v Γ' => v = (.bool y) ∧ Γ' = []) := by
  intro w0 S0 fp0 hI hS
  have H : Cx w0 fp0 S0 w0 [] := Cx.start hI hS
  clear hI hS
  refine enterC (args := [_, _, _]) gok Tryd.func111 rfl _ rfl rfl rfl ?_
  obtain ⟨r9, hF11, hF10⟩ := bindS hF; clear hF
  refine cut (fun (q12 : Bool) => [(6, (.bool q12))]) (fun (q12 : Bool) w' => q12 = r9 ∧ Cx w0 fp0 S0 w' []) ?_ ?_
  · skip
    obtain ⟨a13, e, hF14⟩ := bindS hF11; clear hF11
    refine boolO e ?_; clear e
    cases a13
    · have hF15 := condF hF14; clear hF14
      exact ⟨false, ⟨rfl, trivial⟩, Option.some.inj hF15, H.sel [] rfl⟩
    · have hF16 := condT hF14; clear hF14
      obtain ⟨a17, e, hF18⟩ := bindS hF16; clear hF16
      refine boolO e ?_; clear e
      exact ⟨a17, ⟨rfl, trivial⟩, Option.some.inj hF18, H.sel [] rfl⟩
  · clear hF11 H
    rintro T20 s7 w19 ⟨hr, (H : Cx w0 fp0 S0 w19 [])⟩
    subst hr
    cases hF10
    exact ⟨_, _, rfl, ⟨rfl, rfl⟩, (H.sel [] rfl).close trivial⟩

theorem impl_isElement_c (p_ : Int) (a_ : Int) (y : Bool) (hF : F_impl_isElement p_ a_ = some y) :
    ConF Tryd.prog 193 #[(.int .i64 p_), (.int .i64 a_)] [] [] (fun v Γ' => v = (.bool y) ∧ Γ' = []) := by
  intro w0 S0 fp0 hI hS
  have H : Cx w0 fp0 S0 w0 [] := Cx.start hI hS
  clear hI hS
  refine enterC (args := [_, _]) gok Tryd.func193 rfl _ rfl rfl rfl ?_
  obtain ⟨r9, hF11, hF10⟩ := bindS hF; clear hF
  refine cut (fun (q12 : Bool) => [(4, (.bool q12))]) (fun (q12 : Bool) w' => q12 = r9 ∧ Cx w0 fp0 S0 w' []) ?_ ?_
  · skip
    obtain ⟨a13, e, hF14⟩ := bindS hF11; clear hF11
    refine boolO e ?_; clear e
    cases a13
    · have hF15 := condF hF14; clear hF14
      exact ⟨false, ⟨rfl, trivial⟩, Option.some.inj hF15, H.sel [] rfl⟩
    · have hF16 := condT hF14; clear hF14
      obtain ⟨a17, e, hF18⟩ := bindS hF16; clear hF16
      refine boolO e ?_; clear e
      exact ⟨a17, ⟨rfl, trivial⟩, Option.some.inj hF18, H.sel [] rfl⟩
  · clear hF11 H
    rintro T20 s7 w19 ⟨hr, (H : Cx w0 fp0 S0 w19 [])⟩
    subst hr
    cases hF10
    exact ⟨_, _, rfl, ⟨rfl, rfl⟩, (H.sel [] rfl).close trivial⟩

theorem impl_isVector_c (p_ : Int) (v_ : List Int) (v_h : Hd) (n_ : Int) (y : Bool) (hF : F_impl_isVector p_ v_ n_ = some y) :
    ConF Tryd.prog 174 #[(.int .i64 p_), (v_h).v, (.int .i64 n_)] [Es (List Int) v_ v_h] [] (fun v Γ' => v = (.bool y) ∧ Γ' = []) := by
  intro w0 S0 fp0 hI hS
  have H : Cx w0 fp0 S0 w0 [Es (List Int) v_ v_h] := Cx.start hI hS
  clear hI hS
  refine enterC (args := [_, _, _]) gok Tryd.func174 rfl _ rfl rfl rfl ?_
  refine sq ?_
  refine lenE (H.rs (α := List Int) 0 rfl).len ?_
  obtain ⟨a2, e, hF3⟩ := bindS hF; clear hF
  refine boolO e ?_; clear e
  cases a2
  · have hF4 := condF hF3; clear hF3
    refine sq ?_
    refine lenE (H.rs (α := List Int) 0 rfl).len ?_
    have hmx25 := (H.rs (α := List Int) 0 rfl).max
    obtain ⟨r26, e, hF27⟩ := bindS hF4; clear hF4
    refine loopO _ v_.length (fun (k5 : Nat) (_ : Unit) (_ : Unit) => [(0, (.int .i64 p_)), (13, (v_h).v), (14, (.int .i64 ((v_.length : Nat) : Int))), (15, (.int .i64 ((k5 : Nat) : Int)))]) (fun _ (_ : Unit) (_ : Unit) w' => Cx w0 fp0 S0 w' [Es (List Int) v_ v_h]) () () e ⟨rfl, rfl, rfl, rfl, trivial⟩ (H.sel [0] rfl) ?_ ?_
    · clear H e
      rintro T29 k5 _ _ w28 o30 hk (H : Cx w0 fp0 S0 w28 [Es (List Int) v_ v_h]) hrt hF31
      refine boolE (z := true) (ltLen hk) ?_
      refine sq ?_
      refine sq ?_
      obtain ⟨a38, e, hF39⟩ := bindS hF31; clear hF31
      obtain ⟨p36, m37, c32, c33, c34, c35⟩ := (H.rs (α := List Int) 0 rfl).at1 e; clear e
      refine idxE c32 c33 c34 ?_; clear c32 c33 c34
      refine load1 c35 ?_; clear c35
      obtain ⟨y40, e, hF41⟩ := bindS hF39; clear hF39
      have ey40 := e; clear e
      refine callF (impl_isElement_c p_ a38 y40 ey40) (Γi := []) H trivial ?_; clear H ey40
      rintro _ _ w42 ⟨rfl, rfl⟩ (H : Cx w0 fp0 S0 w42 [Es (List Int) v_ v_h])
      obtain ⟨a43, e, hF44⟩ := bindS hF41; clear hF41
      refine boolO e ?_; clear e
      cases a43
      · have hF45 := condF hF44; clear hF44
        refine arK hk hmx25 ?_
        have hs := Option.some.inj hF45; subst hs; clear hF45
        exact ⟨(), (), rfl, ⟨rfl, rfl, rfl, rfl, trivial⟩, H.sel [0] rfl⟩
      · have hF46 := condT hF44; clear hF44
        have hs := Option.some.inj hF46; subst hs; clear hF46
        have hr := hrt _ rfl; subst hr
        have hF47 : some _ = some _ := hF27
        cases hF47
        exact ⟨_, _, rfl, ⟨rfl, rfl⟩, (H.sel [] rfl).close trivial⟩
    · clear H e
      rintro T49 _ _ w48 hr (H : Cx w0 fp0 S0 w48 [Es (List Int) v_ v_h])
      subst hr
      refine boolE (z := false) geLen ?_
      refine sq ?_
      cases hF27
      exact ⟨_, _, rfl, ⟨rfl, rfl⟩, (H.sel [] rfl).close trivial⟩
  · have hF52 := condT hF3; clear hF3
    cases hF52
    exact ⟨_, _, rfl, ⟨rfl, rfl⟩, (H.sel [] rfl).close trivial⟩

theorem impl_areVectors_c (p_ : Int) (rows_ : List (List Int)) (rows_h : Hd) (n_ : Int) (y : Bool) (hF : F_impl_areVectors p_ rows_ n_ = some y) :
    ConF Tryd.prog 137 #[(.int .i64 p_), (rows_h).v, (.int .i64 n_)] [Es (List (List Int)) rows_ rows_h] [] (fun v Γ' => v = (.bool y) ∧ Γ' = []) := by
  intro w0 S0 fp0 hI hS
  have H : Cx w0 fp0 S0 w0 [Es (List (List Int)) rows_ rows_h] := Cx.start hI hS
  clear hI hS
  refine enterC (args := [_, _, _]) gok Tryd.func137 rfl _ rfl rfl rfl ?_
  refine sq ?_
  refine lenE (H.rs (α := List (List Int)) 0 rfl).len ?_
  have hmx24 := (H.rs (α := List (List Int)) 0 rfl).max
  obtain ⟨r25, e, hF26⟩ := bindS hF; clear hF
  refine loopO _ rows_.length (fun (k2 : Nat) (_ : Unit) (_ : Unit) => [(0, (.int .i64 p_)), (2, (.int .i64 n_)), (9, (rows_h).v), (10, (.int .i64 ((rows_.length : Nat) : Int))), (11, (.int .i64 ((k2 : Nat) : Int)))]) (fun _ (_ : Unit) (_ : Unit) w' => Cx w0 fp0 S0 w' [Es (List (List Int)) rows_ rows_h]) () () e ⟨rfl, rfl, rfl, rfl, rfl, trivial⟩ (H.sel [0] rfl) ?_ ?_
  · clear H e
    rintro T28 k2 _ _ w27 o29 hk (H : Cx w0 fp0 S0 w27 [Es (List (List Int)) rows_ rows_h]) hrt hF30
    refine boolE (z := true) (ltLen hk) ?_
    refine sq ?_
    refine sq ?_
    obtain ⟨a37, e, hF38⟩ := bindS hF30; clear hF30
    have HH := H; clear H; obtain ⟨p35, m36, h39, c31, c32, c33, c34, H⟩ := HH.elL 0 rfl e; clear HH
    clear e
    refine idxE c31 c32 c33 ?_; clear c31 c32 c33
    refine load1 c34 ?_; clear c34
    obtain ⟨y41, e, hF42⟩ := bindS hF38; clear hF38
    have ey41 := e; clear e
    refine callF (impl_isVector_c p_ a37 h39 n_ y41 ey41) (Γi := []) H ⟨Vw.sh 0 rfl, trivial⟩ ?_; clear H ey41
    rintro _ _ w43 ⟨rfl, rfl⟩ (H : Cx w0 fp0 S0 w43 [Es (List Int) a37 h39, Es (List (List Int)) rows_ rows_h])
    obtain ⟨a44, e, hF45⟩ := bindS hF42; clear hF42
    refine boolO e ?_; clear e
    cases a44
    · have hF46 := condF hF45; clear hF45
      refine arK hk hmx24 ?_
      have hs := Option.some.inj hF46; subst hs; clear hF46
      exact ⟨(), (), rfl, ⟨rfl, rfl, rfl, rfl, rfl, trivial⟩, H.sel [1] rfl⟩
    · have hF47 := condT hF45; clear hF45
      have hs := Option.some.inj hF47; subst hs; clear hF47
      have hr := hrt _ rfl; subst hr
      have hF48 : some _ = some _ := hF26
      cases hF48
      exact ⟨_, _, rfl, ⟨rfl, rfl⟩, (H.sel [] rfl).close trivial⟩
  · clear H e
    rintro T50 _ _ w49 hr (H : Cx w0 fp0 S0 w49 [Es (List (List Int)) rows_ rows_h])
    subst hr
    refine boolE (z := false) geLen ?_
    refine sq ?_
    cases hF26
    exact ⟨_, _, rfl, ⟨rfl, rfl⟩, (H.sel [] rfl).close trivial⟩

theorem impl_isMatrix_c (p_ : Int) (m__0 : Int) (m__1 : List (List Int)) (m__1h : Hd) (y : Bool) (hF : F_impl_isMatrix p_ (m__0, m__1) = some y) :
    ConF Tryd.prog 85 #[(.int .i64 p_), (.agg #[(.int .i64 m__0), (m__1h).v])] [Es (List (List Int)) m__1 m__1h, Gl 0 [.int .i64 2, .int .i64 3, .int .i64 5, .int .i64 7]] [] (fun v Γ' => v = (.bool y) ∧ Γ' = []) := by
  intro w0 S0 fp0 hI hS
  have H : Cx w0 fp0 S0 w0 [Es (List (List Int)) m__1 m__1h, Gl 0 [.int .i64 2, .int .i64 3, .int .i64 5, .int .i64 7]] := Cx.start hI hS
  clear hI hS
  refine enterC (args := [_, _]) gok Tryd.func85 rfl _ rfl rfl rfl ?_
  refine box_ H ?_; clear H; intro b4 w3 hx H
  clear hx
  replace H : Cx w0 fp0 S0 w3 [Bx b4 [(.int .i64 m__0), (m__1h).v], Es (List (List Int)) m__1 m__1h, Gl 0 [.int .i64 2, .int .i64 3, .int .i64 5, .int .i64 7]] := H
  obtain ⟨r25, hF27, hF26⟩ := bindS hF; clear hF
  refine cut (fun (q28 : Bool) => [(4, (.bool q28))]) (fun (q28 : Bool) w' => q28 = r25 ∧ Cx w0 fp0 S0 w' [Gl 0 [.int .i64 2, .int .i64 3, .int .i64 5, .int .i64 7]]) ?_ ?_
  · skip
    obtain ⟨y29, e, hF30⟩ := bindS hF27; clear hF27
    have ey29 := e; clear e
    refine callF (impl_isField_c p_ y29 ey29) (Γi := []) H ⟨Vw.gl 2 rfl, trivial⟩ ?_; clear H ey29
    rintro _ _ w31 ⟨rfl, rfl⟩ (H : Cx w0 fp0 S0 w31 [Bx b4 [(.int .i64 m__0), (m__1h).v], Es (List (List Int)) m__1 m__1h, Gl 0 [.int .i64 2, .int .i64 3, .int .i64 5, .int .i64 7]])
    cases y29
    · have hF32 := condF hF30; clear hF30
      exact ⟨false, ⟨rfl, trivial⟩, Option.some.inj hF32, H.sel [2] rfl⟩
    · have hF33 := condT hF30; clear hF30
      refine fld gok rfl rfl rfl rfl ?_
      refine load1 (H.bx 0 rfl (j := 0) rfl) ?_
      obtain ⟨y34, e, hF35⟩ := bindS hF33; clear hF33
      have ey34 := e; clear e
      refine callF (impl_within_c m__0 0 24 y34 ey34) (Γi := []) H trivial ?_; clear H ey34
      rintro _ _ w36 ⟨rfl, rfl⟩ (H : Cx w0 fp0 S0 w36 [Bx b4 [(.int .i64 m__0), (m__1h).v], Es (List (List Int)) m__1 m__1h, Gl 0 [.int .i64 2, .int .i64 3, .int .i64 5, .int .i64 7]])
      cases y34
      · have hF37 := condF hF35; clear hF35
        exact ⟨false, ⟨rfl, trivial⟩, Option.some.inj hF37, H.sel [2] rfl⟩
      · have hF38 := condT hF35; clear hF35
        refine fld gok rfl rfl rfl rfl ?_
        refine load1 (H.bx 0 rfl (j := 1) rfl) ?_
        refine lenE (H.rs (α := List (List Int)) 1 rfl).len ?_
        obtain ⟨a39, e, hF40⟩ := bindS hF38; clear hF38
        refine boolO e ?_; clear e
        cases a39
        · have hF41 := condF hF40; clear hF40
          exact ⟨false, ⟨rfl, trivial⟩, Option.some.inj hF41, H.sel [2] rfl⟩
        · have hF42 := condT hF40; clear hF40
          refine fld gok rfl rfl rfl rfl ?_
          refine load1 (H.bx 0 rfl (j := 1) rfl) ?_
          refine fld gok rfl rfl rfl rfl ?_
          refine load1 (H.bx 0 rfl (j := 0) rfl) ?_
          obtain ⟨y43, e, hF44⟩ := bindS hF42; clear hF42
          have ey43 := e; clear e
          refine callF (impl_areVectors_c p_ m__1 m__1h m__0 y43 ey43) (Γi := []) H ⟨Vw.sh 1 rfl, trivial⟩ ?_; clear H ey43
          rintro _ _ w45 ⟨rfl, rfl⟩ (H : Cx w0 fp0 S0 w45 [Bx b4 [(.int .i64 m__0), (m__1h).v], Es (List (List Int)) m__1 m__1h, Gl 0 [.int .i64 2, .int .i64 3, .int .i64 5, .int .i64 7]])
          exact ⟨y43, ⟨rfl, trivial⟩, Option.some.inj hF44, H.sel [2] rfl⟩
  · clear hF27 H
    rintro T47 s23 w46 ⟨hr, (H : Cx w0 fp0 S0 w46 [Gl 0 [.int .i64 2, .int .i64 3, .int .i64 5, .int .i64 7]])⟩
    subst hr
    cases hF26
    exact ⟨_, _, rfl, ⟨rfl, rfl⟩, (H.sel [] rfl).close trivial⟩

theorem impl_fits_c (left_ : Int) (right_ : Int) (y : Bool) (hF : F_impl_fits left_ right_ = some y) :
    ConF Tryd.prog 86 #[(.int .i64 left_), (.int .i64 right_)] [] [] (fun v Γ' => v = (.bool y) ∧ Γ' = []) := by
  intro w0 S0 fp0 hI hS
  have H : Cx w0 fp0 S0 w0 [] := Cx.start hI hS
  clear hI hS
  refine enterC (args := [_, _]) gok Tryd.func86 rfl _ rfl rfl rfl ?_
  obtain ⟨r17, hF19, hF18⟩ := bindS hF; clear hF
  refine cut (fun (q20 : Bool) => [(4, (.bool q20))]) (fun (q20 : Bool) w' => q20 = r17 ∧ Cx w0 fp0 S0 w' []) ?_ ?_
  · skip
    obtain ⟨y21, e, hF22⟩ := bindS hF19; clear hF19
    have ey21 := e; clear e
    refine callF (impl_within_c left_ 0 24 y21 ey21) (Γi := []) H trivial ?_; clear H ey21
    rintro _ _ w23 ⟨rfl, rfl⟩ (H : Cx w0 fp0 S0 w23 [])
    cases y21
    · have hF24 := condF hF22; clear hF22
      exact ⟨false, ⟨rfl, trivial⟩, Option.some.inj hF24, H.sel [] rfl⟩
    · have hF25 := condT hF22; clear hF22
      obtain ⟨y26, e, hF27⟩ := bindS hF25; clear hF25
      have ey26 := e; clear e
      refine callF (impl_within_c right_ 0 24 y26 ey26) (Γi := []) H trivial ?_; clear H ey26
      rintro _ _ w28 ⟨rfl, rfl⟩ (H : Cx w0 fp0 S0 w28 [])
      cases y26
      · have hF29 := condF hF27; clear hF27
        exact ⟨false, ⟨rfl, trivial⟩, Option.some.inj hF29, H.sel [] rfl⟩
      · have hF30 := condT hF27; clear hF27
        obtain ⟨a31, e, hF32⟩ := bindS hF30; clear hF30
        refine arO e ?_; clear e
        obtain ⟨a33, e, hF34⟩ := bindS hF32; clear hF32
        refine boolO e ?_; clear e
        exact ⟨a33, ⟨rfl, trivial⟩, Option.some.inj hF34, H.sel [] rfl⟩
  · clear hF19 H
    rintro T36 s15 w35 ⟨hr, (H : Cx w0 fp0 S0 w35 [])⟩
    subst hr
    cases hF18
    exact ⟨_, _, rfl, ⟨rfl, rfl⟩, (H.sel [] rfl).close trivial⟩

theorem impl_isPortList_c (ports_ : List Int) (ports_h : Hd) (n_ : Int) (y : Bool) (hF : F_impl_isPortList ports_ n_ = some y) :
    ConF Tryd.prog 87 #[(ports_h).v, (.int .i64 n_)] [Es (List Int) ports_ ports_h] [] (fun v Γ' => v = (.bool y) ∧ Γ' = []) := by
  intro w0 S0 fp0 hI hS
  have H : Cx w0 fp0 S0 w0 [Es (List Int) ports_ ports_h] := Cx.start hI hS
  clear hI hS
  refine enterC (args := [_, _]) gok Tryd.func87 rfl _ rfl rfl rfl ?_
  refine sq ?_
  refine lenE (H.rs (α := List Int) 0 rfl).len ?_
  have hmx75 := (H.rs (α := List Int) 0 rfl).max
  obtain ⟨r76, e, hF77⟩ := bindS hF; clear hF
  refine loopO _ ports_.length (fun (k2 : Nat) (_ : Unit) (_ : Unit) => [(0, (ports_h).v), (1, (.int .i64 n_)), (7, (ports_h).v), (8, (.int .i64 ((ports_.length : Nat) : Int))), (9, (.int .i64 ((k2 : Nat) : Int)))]) (fun _ (_ : Unit) (_ : Unit) w' => Cx w0 fp0 S0 w' [Es (List Int) ports_ ports_h]) () () e ⟨rfl, rfl, rfl, rfl, rfl, trivial⟩ (H.sel [0] rfl) ?_ ?_
  · clear H e
    rintro T79 k2 _ _ w78 o80 hk (H : Cx w0 fp0 S0 w78 [Es (List Int) ports_ ports_h]) hrt hF81
    refine boolE (z := true) (ltLen hk) ?_
    refine sq ?_
    refine sq ?_
    obtain ⟨a88, e, hF89⟩ := bindS hF81; clear hF81
    obtain ⟨p86, m87, c82, c83, c84, c85⟩ := (H.rs (α := List Int) 0 rfl).at1 e; clear e
    refine idxE c82 c83 c84 ?_; clear c82 c83 c84
    refine load1 c85 ?_; clear c85
    obtain ⟨r117, hF119, hF118⟩ := bindS hF89; clear hF89
    refine cut (fun (q120 : Bool) => [(0, (ports_h).v), (1, (.int .i64 n_)), (7, (ports_h).v), (8, (.int .i64 ((ports_.length : Nat) : Int))), (9, (.int .i64 ((k2 : Nat) : Int))), (31, (.bool q120))]) (fun (q120 : Bool) w' => q120 = r117 ∧ Cx w0 fp0 S0 w' [Es (List Int) ports_ ports_h]) ?_ ?_
    · skip
      obtain ⟨a121, e, hF122⟩ := bindS hF119; clear hF119
      refine arO e ?_; clear e
      obtain ⟨y123, e, hF124⟩ := bindS hF122; clear hF122
      have ey123 := e; clear e
      refine callF (impl_within_c a88 0 a121 y123 ey123) (Γi := []) H trivial ?_; clear H ey123
      rintro _ _ w125 ⟨rfl, rfl⟩ (H : Cx w0 fp0 S0 w125 [Es (List Int) ports_ ports_h])
      obtain ⟨a126, e, hF127⟩ := bindS hF124; clear hF124
      refine boolO e ?_; clear e
      cases a126
      · have hF128 := condF hF127; clear hF127
        obtain ⟨a129, e, hF130⟩ := bindS hF128; clear hF128
        refine boolO e ?_; clear e
        cases a129
        · have hF131 := condF hF130; clear hF130
          exact ⟨false, ⟨rfl, rfl, rfl, rfl, rfl, rfl, trivial⟩, Option.some.inj hF131, H.sel [0] rfl⟩
        · have hF132 := condT hF130; clear hF130
          obtain ⟨a133, e, hF134⟩ := bindS hF132; clear hF132
          refine arO e ?_; clear e
          obtain ⟨a141, e, hF142⟩ := bindS hF134; clear hF134
          obtain ⟨p139, m140, c135, c136, c137, c138⟩ := (H.rs (α := List Int) 0 rfl).at1 e; clear e
          refine idxE c135 c136 c137 ?_; clear c135 c136 c137
          refine load1 c138 ?_; clear c138
          obtain ⟨a143, e, hF144⟩ := bindS hF142; clear hF142
          refine boolO e ?_; clear e
          exact ⟨a143, ⟨rfl, rfl, rfl, rfl, rfl, rfl, trivial⟩, Option.some.inj hF144, H.sel [0] rfl⟩
      · have hF145 := condT hF127; clear hF127
        exact ⟨true, ⟨rfl, rfl, rfl, rfl, rfl, rfl, trivial⟩, Option.some.inj hF145, H.sel [0] rfl⟩
    · clear hF119 H
      rintro T147 s115 w146 ⟨hr, (H : Cx w0 fp0 S0 w146 [Es (List Int) ports_ ports_h])⟩
      subst hr
      cases s115
      · have hF148 := condF hF118; clear hF118
        refine arK hk hmx75 ?_
        have hs := Option.some.inj hF148; subst hs; clear hF148
        exact ⟨(), (), rfl, ⟨rfl, rfl, rfl, rfl, rfl, trivial⟩, H.sel [0] rfl⟩
      · have hF149 := condT hF118; clear hF118
        have hs := Option.some.inj hF149; subst hs; clear hF149
        have hr := hrt _ rfl; subst hr
        have hF150 : some _ = some _ := hF77
        cases hF150
        exact ⟨_, _, rfl, ⟨rfl, rfl⟩, (H.sel [] rfl).close trivial⟩
  · clear H e
    rintro T152 _ _ w151 hr (H : Cx w0 fp0 S0 w151 [Es (List Int) ports_ ports_h])
    subst hr
    refine boolE (z := false) geLen ?_
    refine sq ?_
    cases hF77
    exact ⟨_, _, rfl, ⟨rfl, rfl⟩, (H.sel [] rfl).close trivial⟩

theorem impl_zeros_c (n_ : Int) (y : List Int) (hF : F_impl_zeros n_ = some y) :
    ConF Tryd.prog 148 #[(.int .i64 n_)] [] [] (fun v Γ' => ∃ z0 : Hd, v = (z0).v ∧ Γ' = [E (List Int) y z0]) := by
  intro w0 S0 fp0 hI hS
  have H : Cx w0 fp0 S0 w0 [] := Cx.start hI hS
  clear hI hS
  refine enterC (args := [_]) gok Tryd.func148 rfl _ rfl rfl rfl ?_
  obtain ⟨a1, e, hF2⟩ := bindS hF; clear hF
  refine make_ (α := Int) gok rfl rfl rfl rfl (makeCO_of e) H ?_; clear e H; intro h4 w3 hx H
  clear hx
  cases hF2
  exact ⟨_, _, rfl, ⟨h4, rfl, rfl⟩, (H.sel [0] rfl).close ⟨cloE, trivial⟩⟩

theorem impl_upTo_c (n_ : Int) (y : List Int) (hF : F_impl_upTo n_ = some y) :
    ConF Tryd.prog 90 #[(.int .i64 n_)] [] [] (fun v Γ' => ∃ z0 : Hd, v = (z0).v ∧ Γ' = [E (List Int) y z0]) := by
  intro w0 S0 fp0 hI hS
  have H : Cx w0 fp0 S0 w0 [] := Cx.start hI hS
  clear hI hS
  refine enterC (args := [_]) gok Tryd.func90 rfl _ rfl rfl rfl ?_
  obtain ⟨y1, e, hF2⟩ := bindS hF; clear hF
  have ey1 := e; clear e
  refine callF (impl_zeros_c n_ y1 ey1) (Γi := []) H trivial ?_; clear H ey1
  rintro _ _ w3 ⟨h4, rfl, rfl⟩ (H : Cx w0 fp0 S0 w3 [E (List Int) y1 h4])
  refine sq ?_
  refine lenE (H.ro (α := List Int) 0 rfl).len ?_
  have hmx31 := (H.ro (α := List Int) 0 rfl).max
  obtain ⟨r32, e, hF33⟩ := bindS hF2; clear hF2
  refine loopS _ y1.length (fun (k6 : Nat) (s29 : List Int) (_ : Unit) => [(3, (h4).v), (8, (.int .i64 ((y1.length : Nat) : Int))), (9, (.int .i64 ((k6 : Nat) : Int)))]) (fun _ (s29 : List Int) (_ : Unit) w' => Cx w0 fp0 S0 w' [E (List Int) s29 h4]) y1 () e ⟨rfl, rfl, rfl, trivial⟩ (H.sel [0] rfl) ?_ ?_
  · clear H e
    rintro T35 k6 s29 _ w34 o36 hk (H : Cx w0 fp0 S0 w34 [E (List Int) s29 h4]) hF37
    refine boolE (z := true) (ltLen hk) ?_
    refine sq ?_
    refine sq ?_
    obtain ⟨a44, e, hF45⟩ := bindS hF37; clear hF37
    have ea44 := e; clear e
    obtain ⟨p42, m43, c38, c39, c40⟩ := (H.ro (α := List Int) 0 rfl).setp ea44
    refine idxE c38 c39 c40 ?_
    refine setS (α := Int) H c38 c39 ea44 ?_; clear H c38 c39 c40 ea44; intro w46 H
    refine arK hk hmx31 ?_
    have hs := Option.some.inj hF45; subst hs; clear hF45
    exact ⟨(), ⟨rfl, rfl, rfl, trivial⟩, H.sel [0] rfl⟩
  · clear H e
    rintro T48 _ w47 (H : Cx w0 fp0 S0 w47 [E (List Int) r32 h4])
    refine boolE (z := false) geLen ?_
    refine sq ?_
    cases hF33
    exact ⟨_, _, rfl, ⟨h4, rfl, rfl⟩, (H.sel [0] rfl).close ⟨cloE, trivial⟩⟩

theorem slices_Index_int_int_c (s_ : List Int) (s_h : Hd) (v_ : Int) (y : Int) (hF : F_slices_Index_int_int s_ v_ = some y) :
    ConF Tryd.prog 113 #[(s_h).v, (.int .i64 v_)] [Es (List Int) s_ s_h] [] (fun v Γ' => v = (.int .i64 y) ∧ Γ' = []) := by
  intro w0 S0 fp0 hI hS
  have H : Cx w0 fp0 S0 w0 [Es (List Int) s_ s_h] := Cx.start hI hS
  clear hI hS
  refine enterC (args := [_, _]) gok Tryd.func113 rfl _ rfl rfl rfl ?_
  refine sq ?_
  refine lenE (H.rs (α := List Int) 0 rfl).len ?_
  have hmx19 := (H.rs (α := List Int) 0 rfl).max
  obtain ⟨r20, e, hF21⟩ := bindS hF; clear hF
  refine loopO _ s_.length (fun (k2 : Nat) (_ : Unit) (_ : Unit) => [(0, (s_h).v), (1, (.int .i64 v_)), (7, (.int .i64 ((s_.length : Nat) : Int))), (8, (.int .i64 ((k2 : Nat) : Int)))]) (fun _ (_ : Unit) (_ : Unit) w' => Cx w0 fp0 S0 w' [Es (List Int) s_ s_h]) () () e ⟨rfl, rfl, rfl, rfl, trivial⟩ (H.sel [0] rfl) ?_ ?_
  · clear H e
    rintro T23 k2 _ _ w22 o24 hk (H : Cx w0 fp0 S0 w22 [Es (List Int) s_ s_h]) hrt hF25
    refine boolE (z := true) (ltLen hk) ?_
    refine sq ?_
    refine sq ?_
    obtain ⟨a32, e, hF33⟩ := bindS hF25; clear hF25
    obtain ⟨p30, m31, c26, c27, c28, c29⟩ := (H.rs (α := List Int) 0 rfl).at1 e; clear e
    refine idxE c26 c27 c28 ?_; clear c26 c27 c28
    refine load1 c29 ?_; clear c29
    obtain ⟨a34, e, hF35⟩ := bindS hF33; clear hF33
    refine boolO e ?_; clear e
    cases a34
    · have hF36 := condF hF35; clear hF35
      refine arK hk hmx19 ?_
      have hs := Option.some.inj hF36; subst hs; clear hF36
      exact ⟨(), (), rfl, ⟨rfl, rfl, rfl, rfl, trivial⟩, H.sel [0] rfl⟩
    · have hF37 := condT hF35; clear hF35
      have hs := Option.some.inj hF37; subst hs; clear hF37
      have hr := hrt _ rfl; subst hr
      have hF38 : some _ = some _ := hF21
      cases hF38
      exact ⟨_, _, rfl, ⟨rfl, rfl⟩, (H.sel [] rfl).close trivial⟩
  · clear H e
    rintro T40 _ _ w39 hr (H : Cx w0 fp0 S0 w39 [Es (List Int) s_ s_h])
    subst hr
    refine boolE (z := false) geLen ?_
    refine sq ?_
    cases hF21
    exact ⟨_, _, rfl, ⟨rfl, rfl⟩, (H.sel [] rfl).close trivial⟩

theorem slices_Contains_int_int_c (s_ : List Int) (s_h : Hd) (v_ : Int) (y : Bool) (hF : F_slices_Contains_int_int s_ v_ = some y) :
    ConF Tryd.prog 112 #[(s_h).v, (.int .i64 v_)] [Es (List Int) s_ s_h] [] (fun v Γ' => v = (.bool y) ∧ Γ' = []) := by
  intro w0 S0 fp0 hI hS
  have H : Cx w0 fp0 S0 w0 [Es (List Int) s_ s_h] := Cx.start hI hS
  clear hI hS
  refine enterC (args := [_, _]) gok Tryd.func112 rfl _ rfl rfl rfl ?_
  obtain ⟨y2, e, hF3⟩ := bindS hF; clear hF
  have ey2 := e; clear e
  refine callF (slices_Index_int_int_c s_ s_h v_ y2 ey2) (Γi := []) H ⟨Vw.sh 0 rfl, trivial⟩ ?_; clear H ey2
  rintro _ _ w4 ⟨rfl, rfl⟩ (H : Cx w0 fp0 S0 w4 [Es (List Int) s_ s_h])
  obtain ⟨a5, e, hF6⟩ := bindS hF3; clear hF3
  refine boolO e ?_; clear e
  cases hF6
  exact ⟨_, _, rfl, ⟨rfl, rfl⟩, (H.sel [] rfl).close trivial⟩

theorem impl_others_c (list_ : List Int) (list_h : Hd) (without_ : List Int) (without_h : Hd) (y : List Int) (hF : F_impl_others list_ without_ = some y) :
    ConF Tryd.prog 89 #[(list_h).v, (without_h).v] [Es (List Int) list_ list_h, Es (List Int) without_ without_h] [] (fun v Γ' => ∃ z0 : Hd, v = (z0).v ∧ Γ' = [E (List Int) y z0]) := by
  intro w0 S0 fp0 hI hS
  have H : Cx w0 fp0 S0 w0 [Es (List Int) list_ list_h, Es (List Int) without_ without_h] := Cx.start hI hS
  clear hI hS
  refine enterC (args := [_, _]) gok Tryd.func89 rfl _ rfl rfl rfl ?_
  refine lit0 (α := Int) gok rfl rfl H ?_; clear H; intro h4 w3 hx H
  clear hx
  refine sq ?_
  refine lenE (H.rs (α := List Int) 1 rfl).len ?_
  have hmx61 := (H.rs (α := List Int) 1 rfl).max
  obtain ⟨r62, e, hF63⟩ := bindS hF; clear hF
  refine loopS _ list_.length (fun (k6 : Nat) (s58 : List Int) (g59 : Hd) => [(1, (without_h).v), (5, (g59).v), (9, (list_h).v), (10, (.int .i64 ((list_.length : Nat) : Int))), (11, (.int .i64 ((k6 : Nat) : Int)))]) (fun _ (s58 : List Int) (g59 : Hd) w' => Cx w0 fp0 S0 w' [Es (List Int) without_ without_h, E (List Int) s58 g59, Es (List Int) list_ list_h]) ([] : List Int) h4 e ⟨rfl, rfl, rfl, rfl, rfl, trivial⟩ (H.sel [2, 0, 1] rfl) ?_ ?_
  · clear H e
    rintro T65 k6 s58 g59 w64 o66 hk (H : Cx w0 fp0 S0 w64 [Es (List Int) without_ without_h, E (List Int) s58 g59, Es (List Int) list_ list_h]) hF67
    refine boolE (z := true) (ltLen hk) ?_
    refine sq ?_
    refine sq ?_
    obtain ⟨a74, e, hF75⟩ := bindS hF67; clear hF67
    obtain ⟨p72, m73, c68, c69, c70, c71⟩ := (H.rs (α := List Int) 2 rfl).at1 e; clear e
    refine idxE c68 c69 c70 ?_; clear c68 c69 c70
    refine load1 c71 ?_; clear c71
    obtain ⟨y76, e, hF77⟩ := bindS hF75; clear hF75
    have ey76 := e; clear e
    refine callF (slices_Contains_int_int_c without_ without_h a74 y76 ey76) (Γi := []) H ⟨Vw.sh 0 rfl, trivial⟩ ?_; clear H ey76
    rintro _ _ w78 ⟨rfl, rfl⟩ (H : Cx w0 fp0 S0 w78 [Es (List Int) without_ without_h, E (List Int) s58 g59, Es (List Int) list_ list_h])
    obtain ⟨a79, e, hF80⟩ := bindS hF77; clear hF77
    refine boolO e ?_; clear e
    cases a79
    · have hF81 := condF hF80; clear hF80
      refine arK hk hmx61 ?_
      have hs := Option.some.inj hF81; subst hs; clear hF81
      exact ⟨g59, ⟨rfl, rfl, rfl, rfl, rfl, trivial⟩, H.sel [0, 1, 2] rfl⟩
    · have hF82 := condT hF80; clear hF80
      refine lit1S (α := Int) gok rfl rfl rfl rfl H ?_; clear H; intro h84 w83 hx H
      clear hx
      obtain ⟨a86, e, hF87⟩ := bindS hF82; clear hF82
      replace H := H.sel [2, 0, 1, 3] rfl
      refine append_ (α := Int) gok rfl rfl rfl rfl H e ?_; clear e H; intro h89 w88 H
      refine arK hk hmx61 ?_
      have hs := Option.some.inj hF87; subst hs; clear hF87
      exact ⟨h89, ⟨rfl, rfl, rfl, rfl, rfl, trivial⟩, H.sel [1, 0, 2] rfl⟩
  · clear H e
    rintro T92 g94 w91 (H : Cx w0 fp0 S0 w91 [Es (List Int) without_ without_h, E (List Int) r62 g94, Es (List Int) list_ list_h])
    refine boolE (z := false) geLen ?_
    refine sq ?_
    cases hF63
    exact ⟨_, _, rfl, ⟨g94, rfl, rfl⟩, (H.sel [1] rfl).close ⟨cloE, trivial⟩⟩

theorem impl_joined_c (lists_ : List (List Int)) (lists_h : Hd) (y : List Int) (hF : F_impl_joined lists_ = some y) :
    ConF Tryd.prog 88 #[(lists_h).v] [Es (List (List Int)) lists_ lists_h] [] (fun v Γ' => ∃ z0 : Hd, v = (z0).v ∧ Γ' = [E (List Int) y z0]) := by
  intro w0 S0 fp0 hI hS
  have H : Cx w0 fp0 S0 w0 [Es (List (List Int)) lists_ lists_h] := Cx.start hI hS
  clear hI hS
  refine enterC (args := [_]) gok Tryd.func88 rfl _ rfl rfl rfl ?_
  refine lit0 (α := Int) gok rfl rfl H ?_; clear H; intro h3 w2 hx H
  clear hx
  refine sq ?_
  refine lenE (H.rs (α := List (List Int)) 1 rfl).len ?_
  have hmx44 := (H.rs (α := List (List Int)) 1 rfl).max
  obtain ⟨r45, e, hF46⟩ := bindS hF; clear hF
  refine loopS _ lists_.length (fun (k5 : Nat) (s41 : List Int) (g42 : Hd) => [(3, (g42).v), (7, (lists_h).v), (8, (.int .i64 ((lists_.length : Nat) : Int))), (9, (.int .i64 ((k5 : Nat) : Int)))]) (fun _ (s41 : List Int) (g42 : Hd) w' => Cx w0 fp0 S0 w' [E (List Int) s41 g42, Es (List (List Int)) lists_ lists_h]) ([] : List Int) h3 e ⟨rfl, rfl, rfl, rfl, trivial⟩ (H.sel [0, 1] rfl) ?_ ?_
  · clear H e
    rintro T48 k5 s41 g42 w47 o49 hk (H : Cx w0 fp0 S0 w47 [E (List Int) s41 g42, Es (List (List Int)) lists_ lists_h]) hF50
    refine boolE (z := true) (ltLen hk) ?_
    refine sq ?_
    refine sq ?_
    obtain ⟨a57, e, hF58⟩ := bindS hF50; clear hF50
    have HH := H; clear H; obtain ⟨p55, m56, h59, c51, c52, c53, c54, H⟩ := HH.elL 1 rfl e; clear HH
    clear e
    refine idxE c51 c52 c53 ?_; clear c51 c52 c53
    refine load1 c54 ?_; clear c54
    obtain ⟨a61, e, hF62⟩ := bindS hF58; clear hF58
    replace H := H.sel [1, 0, 2] rfl
    refine appendS (α := Int) gok rfl rfl rfl rfl H (Vw.sh 0 rfl) e ?_; clear e H; intro h64 w63 H
    refine arK hk hmx44 ?_
    have hs := Option.some.inj hF62; subst hs; clear hF62
    exact ⟨h64, ⟨rfl, rfl, rfl, rfl, trivial⟩, H.sel [0, 2] rfl⟩
  · clear H e
    rintro T67 g69 w66 (H : Cx w0 fp0 S0 w66 [E (List Int) r45 g69, Es (List (List Int)) lists_ lists_h])
    refine boolE (z := false) geLen ?_
    refine sq ?_
    cases hF46
    exact ⟨_, _, rfl, ⟨g69, rfl, rfl⟩, (H.sel [0] rfl).close ⟨cloE, trivial⟩⟩

theorem impl_unit_c (n_ : Int) (at_ : Int) (y : List Int) (hF : F_impl_unit n_ at_ = some y) :
    ConF Tryd.prog 91 #[(.int .i64 n_), (.int .i64 at_)] [] [] (fun v Γ' => ∃ z0 : Hd, v = (z0).v ∧ Γ' = [E (List Int) y z0]) := by
  intro w0 S0 fp0 hI hS
  have H : Cx w0 fp0 S0 w0 [] := Cx.start hI hS
  clear hI hS
  refine enterC (args := [_, _]) gok Tryd.func91 rfl _ rfl rfl rfl ?_
  obtain ⟨y1, e, hF2⟩ := bindS hF; clear hF
  have ey1 := e; clear e
  refine callF (impl_zeros_c n_ y1 ey1) (Γi := []) H trivial ?_; clear H ey1
  rintro _ _ w3 ⟨h4, rfl, rfl⟩ (H : Cx w0 fp0 S0 w3 [E (List Int) y1 h4])
  obtain ⟨a12, e, hF13⟩ := bindS hF2; clear hF2
  have ea12 := e; clear e
  obtain ⟨p10, m11, c6, c7, c8⟩ := (H.ro (α := List Int) 0 rfl).setp ea12
  refine idxE c6 c7 c8 ?_
  refine setS (α := Int) H c6 c7 ea12 ?_; clear H c6 c7 c8 ea12; intro w14 H
  cases hF13
  exact ⟨_, _, rfl, ⟨h4, rfl, rfl⟩, (H.sel [0] rfl).close ⟨cloE, trivial⟩⟩

theorem impl_placed_c (rows_ : List (List Int)) (rows_h : Hd) (n_ : Int) (at_ : List Int) (at_h : Hd) (y : List (List Int)) (hF : F_impl_placed rows_ n_ at_ = some y) :
    ConF Tryd.prog 93 #[(rows_h).v, (.int .i64 n_), (at_h).v] [Es (List (List Int)) rows_ rows_h, Es (List Int) at_ at_h] [] (fun v Γ' => ∃ z0 : Hd, v = (z0).v ∧ Γ' = [E (List (List Int)) y z0]) := by
  intro w0 S0 fp0 hI hS
  have H : Cx w0 fp0 S0 w0 [Es (List (List Int)) rows_ rows_h, Es (List Int) at_ at_h] := Cx.start hI hS
  clear hI hS
  refine enterC (args := [_, _, _]) gok Tryd.func93 rfl _ rfl rfl rfl ?_
  refine lit0 (α := List Int) gok rfl rfl H ?_; clear H; intro h4 w3 hx H
  clear hx
  refine sq ?_
  refine lenE (H.rs (α := List (List Int)) 1 rfl).len ?_
  have hmx247 := (H.rs (α := List (List Int)) 1 rfl).max
  obtain ⟨r248, e, hF249⟩ := bindS hF; clear hF
  refine loopS _ rows_.length (fun (k6 : Nat) (s244 : List (List Int)) (g245 : Hd) => [(1, (.int .i64 n_)), (2, (at_h).v), (7, (g245).v), (14, (rows_h).v), (15, (.int .i64 ((rows_.length : Nat) : Int))), (16, (.int .i64 ((k6 : Nat) : Int)))]) (fun _ (s244 : List (List Int)) (g245 : Hd) w' => Cx w0 fp0 S0 w' [Es (List Int) at_ at_h, E (List (List Int)) s244 g245, Es (List (List Int)) rows_ rows_h]) ([] : List (List Int)) h4 e ⟨rfl, rfl, rfl, rfl, rfl, rfl, trivial⟩ (H.sel [2, 0, 1] rfl) ?_ ?_
  · clear H e
    rintro T251 k6 s244 g245 w250 o252 hk (H : Cx w0 fp0 S0 w250 [Es (List Int) at_ at_h, E (List (List Int)) s244 g245, Es (List (List Int)) rows_ rows_h]) hF253
    refine boolE (z := true) (ltLen hk) ?_
    refine sq ?_
    refine sq ?_
    obtain ⟨a260, e, hF261⟩ := bindS hF253; clear hF253
    have HH := H; clear H; obtain ⟨p258, m259, h262, c254, c255, c256, c257, H⟩ := HH.elL 2 rfl e; clear HH
    clear e
    refine idxE c254 c255 c256 ?_; clear c254 c255 c256
    refine load1 c257 ?_; clear c257
    obtain ⟨y264, e, hF265⟩ := bindS hF261; clear hF261
    have ey264 := e; clear e
    refine callF (impl_zeros_c n_ y264 ey264) (Γi := []) H trivial ?_; clear H ey264
    rintro _ _ w266 ⟨h267, rfl, rfl⟩ (H : Cx w0 fp0 S0 w266 [E (List Int) y264 h267, Es (List Int) a260 h262, Es (List Int) at_ at_h, E (List (List Int)) s244 g245, Es (List (List Int)) rows_ rows_h])
    refine sq ?_
    refine lenE (H.rs (α := List Int) 1 rfl).len ?_
    have hmx326 := (H.rs (α := List Int) 1 rfl).max
    obtain ⟨r327, e, hF328⟩ := bindS hF265; clear hF265
    refine loopS _ a260.length (fun (k269 : Nat) (s324 : List Int) (_ : Unit) => [(1, (.int .i64 n_)), (2, (at_h).v), (7, (g245).v), (10, (h267).v), (14, (rows_h).v), (15, (.int .i64 ((rows_.length : Nat) : Int))), (16, (.int .i64 ((k6 : Nat) : Int))), (22, (h262).v), (23, (.int .i64 ((a260.length : Nat) : Int))), (24, (.int .i64 ((k269 : Nat) : Int)))]) (fun _ (s324 : List Int) (_ : Unit) w' => Cx w0 fp0 S0 w' [Es (List Int) at_ at_h, E (List (List Int)) s244 g245, E (List Int) s324 h267, Es (List (List Int)) rows_ rows_h, Es (List Int) a260 h262]) y264 () e ⟨rfl, rfl, rfl, rfl, rfl, rfl, rfl, rfl, rfl, rfl, trivial⟩ (H.sel [2, 3, 0, 4, 1] rfl) ?_ ?_
    · clear H e
      rintro T330 k269 s324 _ w329 o331 hk (H : Cx w0 fp0 S0 w329 [Es (List Int) at_ at_h, E (List (List Int)) s244 g245, E (List Int) s324 h267, Es (List (List Int)) rows_ rows_h, Es (List Int) a260 h262]) hF332
      refine boolE (z := true) (ltLen hk) ?_
      refine sq ?_
      refine sq ?_
      obtain ⟨a339, e, hF340⟩ := bindS hF332; clear hF332
      obtain ⟨p337, m338, c333, c334, c335, c336⟩ := (H.rs (α := List Int) 4 rfl).at1 e; clear e
      refine idxE c333 c334 c335 ?_; clear c333 c334 c335
      refine load1 c336 ?_; clear c336
      obtain ⟨a347, e, hF348⟩ := bindS hF340; clear hF340
      obtain ⟨p345, m346, c341, c342, c343, c344⟩ := (H.rs (α := List Int) 0 rfl).at1 e; clear e
      refine idxE c341 c342 c343 ?_; clear c341 c342 c343
      refine load1 c344 ?_; clear c344
      obtain ⟨a355, e, hF356⟩ := bindS hF348; clear hF348
      have ea355 := e; clear e
      obtain ⟨p353, m354, c349, c350, c351⟩ := (H.ro (α := List Int) 2 rfl).setp ea355
      refine idxE c349 c350 c351 ?_
      replace H := H.sel [2, 0, 1, 3, 4] rfl
      refine setS (α := Int) H c349 c350 ea355 ?_; clear H c349 c350 c351 ea355; intro w357 H
      refine arK hk hmx326 ?_
      have hs := Option.some.inj hF356; subst hs; clear hF356
      exact ⟨(), ⟨rfl, rfl, rfl, rfl, rfl, rfl, rfl, rfl, rfl, rfl, trivial⟩, H.sel [1, 2, 0, 3, 4] rfl⟩
    · clear H e
      rintro T359 _ w358 (H : Cx w0 fp0 S0 w358 [Es (List Int) at_ at_h, E (List (List Int)) s244 g245, E (List Int) r327 h267, Es (List (List Int)) rows_ rows_h, Es (List Int) a260 h262])
      refine boolE (z := false) geLen ?_
      refine sq ?_
      replace H := H.sel [2, 0, 1, 3, 4] rfl
      refine lit1 (α := List Int) (g := h267) gok rfl rfl rfl rfl rfl H ?_; clear H; intro h363 w362 hx H
      clear hx
      obtain ⟨a365, e, hF366⟩ := bindS hF328; clear hF328
      replace H := H.sel [2, 0, 1, 3, 4] rfl
      refine append_ (α := List Int) gok rfl rfl rfl rfl H e ?_; clear e H; intro h368 w367 H
      refine arK hk hmx247 ?_
      have hs := Option.some.inj hF366; subst hs; clear hF366
      exact ⟨h368, ⟨rfl, rfl, rfl, rfl, rfl, rfl, trivial⟩, H.sel [1, 0, 2] rfl⟩
  · clear H e
    rintro T371 g373 w370 (H : Cx w0 fp0 S0 w370 [Es (List Int) at_ at_h, E (List (List Int)) r248 g373, Es (List (List Int)) rows_ rows_h])
    refine boolE (z := false) geLen ?_
    refine sq ?_
    cases hF249
    exact ⟨_, _, rfl, ⟨g373, rfl, rfl⟩, (H.sel [1] rfl).close ⟨cloE, trivial⟩⟩

theorem impl_clone_c (list_ : List Int) (list_h : Hd) (y : List Int) (hF : F_impl_clone list_ = some y) :
    ConF Tryd.prog 172 #[(list_h).v] [Es (List Int) list_ list_h] [] (fun v Γ' => ∃ z0 : Hd, v = (z0).v ∧ Γ' = [E (List Int) y z0]) := by
  intro w0 S0 fp0 hI hS
  have H : Cx w0 fp0 S0 w0 [Es (List Int) list_ list_h] := Cx.start hI hS
  clear hI hS
  refine enterC (args := [_]) gok Tryd.func172 rfl _ rfl rfl rfl ?_
  refine lit0 (α := Int) gok rfl rfl H ?_; clear H; intro h3 w2 hx H
  clear hx
  obtain ⟨a5, e, hF6⟩ := bindS hF; clear hF
  refine appendS (α := Int) gok rfl rfl rfl rfl H (Vw.sh 0 rfl) e ?_; clear e H; intro h8 w7 H
  cases hF6
  exact ⟨_, _, rfl, ⟨h8, rfl, rfl⟩, (H.sel [0] rfl).close ⟨cloE, trivial⟩⟩

theorem impl_clones_c (list_ : List (List Int)) (list_h : Hd) (y : List (List Int)) (hF : F_impl_clones list_ = some y) :
    ConF Tryd.prog 138 #[(list_h).v] [Es (List (List Int)) list_ list_h] [] (fun v Γ' => ∃ z0 : Hd, v = (z0).v ∧ Γ' = [E (List (List Int)) y z0]) := by
  intro w0 S0 fp0 hI hS
  have H : Cx w0 fp0 S0 w0 [Es (List (List Int)) list_ list_h] := Cx.start hI hS
  clear hI hS
  refine enterC (args := [_]) gok Tryd.func138 rfl _ rfl rfl rfl ?_
  refine lenE (H.rs (α := List (List Int)) 0 rfl).len ?_
  obtain ⟨a2, e, hF3⟩ := bindS hF; clear hF
  refine make_ (α := List Int) gok rfl rfl rfl rfl e H ?_; clear e H; intro h5 w4 hx H
  clear hx
  refine sq ?_
  refine lenE (H.rs (α := List (List Int)) 1 rfl).len ?_
  have hmx62 := (H.rs (α := List (List Int)) 1 rfl).max
  obtain ⟨r63, e, hF64⟩ := bindS hF3; clear hF3
  refine loopS _ list_.length (fun (k7 : Nat) (s59 : List (List Int)) (g60 : Hd) => [(3, (g60).v), (9, (list_h).v), (10, (.int .i64 ((list_.length : Nat) : Int))), (11, (.int .i64 ((k7 : Nat) : Int)))]) (fun _ (s59 : List (List Int)) (g60 : Hd) w' => Cx w0 fp0 S0 w' [E (List (List Int)) s59 g60, Es (List (List Int)) list_ list_h]) a2 h5 e ⟨rfl, rfl, rfl, rfl, trivial⟩ (H.sel [0, 1] rfl) ?_ ?_
  · clear H e
    rintro T66 k7 s59 g60 w65 o67 hk (H : Cx w0 fp0 S0 w65 [E (List (List Int)) s59 g60, Es (List (List Int)) list_ list_h]) hF68
    refine boolE (z := true) (ltLen hk) ?_
    refine sq ?_
    refine sq ?_
    obtain ⟨a75, e, hF76⟩ := bindS hF68; clear hF68
    have HH := H; clear H; obtain ⟨p73, m74, h77, c69, c70, c71, c72, H⟩ := HH.elL 1 rfl e; clear HH
    clear e
    refine idxE c69 c70 c71 ?_; clear c69 c70 c71
    refine load1 c72 ?_; clear c72
    obtain ⟨y79, e, hF80⟩ := bindS hF76; clear hF76
    have ey79 := e; clear e
    refine callF (impl_clone_c a75 h77 y79 ey79) (Γi := []) H ⟨Vw.sh 0 rfl, trivial⟩ ?_; clear H ey79
    rintro _ _ w81 ⟨h82, rfl, rfl⟩ (H : Cx w0 fp0 S0 w81 [E (List Int) y79 h82, Es (List Int) a75 h77, E (List (List Int)) s59 g60, Es (List (List Int)) list_ list_h])
    refine lit1 (α := List Int) (g := h82) gok rfl rfl rfl rfl rfl H ?_; clear H; intro h85 w84 hx H
    clear hx
    obtain ⟨a87, e, hF88⟩ := bindS hF80; clear hF80
    replace H := H.sel [2, 0, 1, 3] rfl
    refine append_ (α := List Int) gok rfl rfl rfl rfl H e ?_; clear e H; intro h90 w89 H
    refine arK hk hmx62 ?_
    have hs := Option.some.inj hF88; subst hs; clear hF88
    exact ⟨h90, ⟨rfl, rfl, rfl, rfl, trivial⟩, H.sel [0, 2] rfl⟩
  · clear H e
    rintro T93 g95 w92 (H : Cx w0 fp0 S0 w92 [E (List (List Int)) r63 g95, Es (List (List Int)) list_ list_h])
    refine boolE (z := false) geLen ?_
    refine sq ?_
    cases hF64
    exact ⟨_, _, rfl, ⟨g95, rfl, rfl⟩, (H.sel [0] rfl).close ⟨cloE, trivial⟩⟩

theorem impl_bit_c (yes_ : Bool) (y : Int) (hF : F_impl_bit yes_ = some y) :
    ConF Tryd.prog 197 #[(.bool yes_)] [] [] (fun v Γ' => v = (.int .i64 y) ∧ Γ' = []) := by
  intro w0 S0 fp0 hI hS
  have H : Cx w0 fp0 S0 w0 [] := Cx.start hI hS
  clear hI hS
  refine enterC (args := [_]) gok Tryd.func197 rfl _ rfl rfl rfl ?_
  refine sq ?_
  cases yes_
  · have hF1 := condF hF; clear hF
    cases hF1
    exact ⟨_, _, rfl, ⟨rfl, rfl⟩, (H.sel [] rfl).close trivial⟩
  · have hF2 := condT hF; clear hF
    cases hF2
    exact ⟨_, _, rfl, ⟨rfl, rfl⟩, (H.sel [] rfl).close trivial⟩

theorem impl_power_c (p_ : Int) (a_ : Int) (n_ : Int) (y : Int) (hF : F_impl_power p_ a_ n_ = some y) :
    ConF Tryd.prog 196 #[(.int .i64 p_), (.int .i64 a_), (.int .i64 n_)] [] [] (fun v Γ' => v = (.int .i64 y) ∧ Γ' = []) := by
  intro w0 S0 fp0 hI hS
  have H : Cx w0 fp0 S0 w0 [] := Cx.start hI hS
  clear hI hS
  refine enterC (args := [_, _, _]) gok Tryd.func196 rfl _ rfl rfl rfl ?_
  obtain ⟨a1, e, hF2⟩ := bindS hF; clear hF
  refine remO_ e ?_; clear e
  obtain ⟨r133, hF135, hF134⟩ := bindS hF2; clear hF2
  refine cut (fun (q136 : Int) => [(7, (.int .i64 q136))]) (fun (q136 : Int) w' => q136 = r133 ∧ Cx w0 fp0 S0 w' []) ?_ ?_
  · skip
    refine loopW _ (fun (s217 : Int × Int × Int) (_ : Unit) => [(0, (.int .i64 p_)), (1, (.int .i64 s217.1)), (2, (.int .i64 s217.2.1)), (7, (.int .i64 s217.2.2))]) (fun (s217 : Int × Int × Int) (_ : Unit) w' => Cx w0 fp0 S0 w' []) (a_, n_, a1) () hF135 ⟨rfl, rfl, rfl, rfl, trivial⟩ (H.sel [] rfl) ?_
    · clear H
      rintro T223 ⟨s217_0, s217_1, s217_2⟩ _ w222 o224 (H : Cx w0 fp0 S0 w222 []) hrt hF225
      refine sq ?_
      obtain ⟨a226, e, hF227⟩ := bindS hF225; clear hF225
      refine boolO e ?_; clear e
      cases a226
      · have hF228 := condF hF227; clear hF227
        have hs := Option.some.inj hF228; subst hs; clear hF228
        have hF229 : some _ = some _ := congrArg some (hrt _ rfl).symm
        exact ⟨s217_2, ⟨rfl, trivial⟩, Option.some.inj hF229, H.sel [] rfl⟩
      · have hF230 := condT hF227; clear hF227
        refine sq ?_
        obtain ⟨r243, hF245, hF244⟩ := bindS hF230; clear hF230
        refine cut (fun (q246 : Int) => [(0, (.int .i64 p_)), (1, (.int .i64 s217_0)), (2, (.int .i64 s217_1)), (7, (.int .i64 q246))]) (fun (q246 : Int) w' => q246 = r243 ∧ Cx w0 fp0 S0 w' []) ?_ ?_
        · skip
          obtain ⟨a247, e, hF248⟩ := bindS hF245; clear hF245
          refine remO_ e ?_; clear e
          obtain ⟨a249, e, hF250⟩ := bindS hF248; clear hF248
          refine boolO e ?_; clear e
          cases a249
          · have hF251 := condF hF250; clear hF250
            exact ⟨s217_2, ⟨rfl, rfl, rfl, rfl, trivial⟩, Option.some.inj hF251, H.sel [] rfl⟩
          · have hF252 := condT hF250; clear hF250
            obtain ⟨a253, e, hF254⟩ := bindS hF252; clear hF252
            refine arO e ?_; clear e
            obtain ⟨a255, e, hF256⟩ := bindS hF254; clear hF254
            refine remO_ e ?_; clear e
            exact ⟨a255, ⟨rfl, rfl, rfl, rfl, trivial⟩, Option.some.inj hF256, H.sel [] rfl⟩
        · clear hF245 H
          rintro T258 s241 w257 ⟨hr, (H : Cx w0 fp0 S0 w257 [])⟩
          subst hr
          obtain ⟨a259, e, hF260⟩ := bindS hF244; clear hF244
          refine arO e ?_; clear e
          obtain ⟨a261, e, hF262⟩ := bindS hF260; clear hF260
          refine remO_ e ?_; clear e
          obtain ⟨a263, e, hF264⟩ := bindS hF262; clear hF262
          refine quoO_ e ?_; clear e
          have hs := Option.some.inj hF264; subst hs; clear hF264
          exact ⟨(a261, a263, s241), (), rfl, ⟨rfl, rfl, rfl, rfl, trivial⟩, H.sel [] rfl⟩
  · clear hF135 H
    rintro T266 s131 w265 ⟨hr, (H : Cx w0 fp0 S0 w265 [])⟩
    subst hr
    cases hF134
    exact ⟨_, _, rfl, ⟨rfl, rfl⟩, (H.sel [] rfl).close trivial⟩

theorem impl_inverse_c (p_ : Int) (a_ : Int) (y : Int) (hF : F_impl_inverse p_ a_ = some y) :
    ConF Tryd.prog 187 #[(.int .i64 p_), (.int .i64 a_)] [] [] (fun v Γ' => v = (.int .i64 y) ∧ Γ' = []) := by
  intro w0 S0 fp0 hI hS
  have H : Cx w0 fp0 S0 w0 [] := Cx.start hI hS
  clear hI hS
  refine enterC (args := [_, _]) gok Tryd.func187 rfl _ rfl rfl rfl ?_
  obtain ⟨a1, e, hF2⟩ := bindS hF; clear hF
  refine arO e ?_; clear e
  obtain ⟨a3, e, hF4⟩ := bindS hF2; clear hF2
  refine boolO e ?_; clear e
  obtain ⟨y5, e, hF6⟩ := bindS hF4; clear hF4
  have ey5 := e; clear e
  refine callF (impl_bit_c a3 y5 ey5) (Γi := []) H trivial ?_; clear H ey5
  rintro _ _ w7 ⟨rfl, rfl⟩ (H : Cx w0 fp0 S0 w7 [])
  obtain ⟨a8, e, hF9⟩ := bindS hF6; clear hF6
  refine arO e ?_; clear e
  obtain ⟨y10, e, hF11⟩ := bindS hF9; clear hF9
  have ey10 := e; clear e
  refine callF (impl_power_c p_ a_ a8 y10 ey10) (Γi := []) H trivial ?_; clear H ey10
  rintro _ _ w12 ⟨rfl, rfl⟩ (H : Cx w0 fp0 S0 w12 [])
  cases hF11
  exact ⟨_, _, rfl, ⟨rfl, rfl⟩, (H.sel [] rfl).close trivial⟩

theorem impl_mod_c (p_ : Int) (a_ : Int) (y : Int) (hF : F_impl_mod p_ a_ = some y) :
    ConF Tryd.prog 195 #[(.int .i64 p_), (.int .i64 a_)] [] [] (fun v Γ' => v = (.int .i64 y) ∧ Γ' = []) := by
  intro w0 S0 fp0 hI hS
  have H : Cx w0 fp0 S0 w0 [] := Cx.start hI hS
  clear hI hS
  refine enterC (args := [_, _]) gok Tryd.func195 rfl _ rfl rfl rfl ?_
  obtain ⟨a1, e, hF2⟩ := bindS hF; clear hF
  refine remO_ e ?_; clear e
  refine sq ?_
  obtain ⟨a3, e, hF4⟩ := bindS hF2; clear hF2
  refine boolO e ?_; clear e
  cases a3
  · have hF5 := condF hF4; clear hF4
    cases hF5
    exact ⟨_, _, rfl, ⟨rfl, rfl⟩, (H.sel [] rfl).close trivial⟩
  · have hF6 := condT hF4; clear hF4
    obtain ⟨a7, e, hF8⟩ := bindS hF6; clear hF6
    refine arO e ?_; clear e
    cases hF8
    exact ⟨_, _, rfl, ⟨rfl, rfl⟩, (H.sel [] rfl).close trivial⟩

theorem impl_addTimes_c (p_ : Int) (v_ : List Int) (v_h : Hd) (by_ : Int) (w_ : List Int) (w_h : Hd) (y : List Int) (hF : F_impl_addTimes p_ v_ by_ w_ = some y) :
    ConF Tryd.prog 186 #[(.int .i64 p_), (v_h).v, (.int .i64 by_), (w_h).v] [Es (List Int) w_ w_h] [E (List Int) v_ v_h] (fun v Γ' => v = (.tuple #[]) ∧ Γ' = [E (List Int) y v_h]) := by
  intro w0 S0 fp0 hI hS
  have H : Cx w0 fp0 S0 w0 [Es (List Int) w_ w_h, E (List Int) v_ v_h] := Cx.start hI hS
  clear hI hS
  refine enterC (args := [_, _, _, _]) gok Tryd.func186 rfl _ rfl rfl rfl ?_
  refine lenE (H.rs (α := List Int) 0 rfl).len ?_
  have hmx74 := (H.rs (α := List Int) 0 rfl).max
  obtain ⟨r75, e, hF76⟩ := bindS hF; clear hF
  refine loopS _ w_.length (fun (k3 : Nat) (s72 : List Int) (_ : Unit) => [(0, (.int .i64 p_)), (1, (v_h).v), (2, (.int .i64 by_)), (10, (w_h).v), (11, (.int .i64 ((w_.length : Nat) : Int))), (12, (.int .i64 ((k3 : Nat) : Int)))]) (fun _ (s72 : List Int) (_ : Unit) w' => Cx w0 fp0 S0 w' [E (List Int) s72 v_h, Es (List Int) w_ w_h]) v_ () e ⟨rfl, rfl, rfl, rfl, rfl, rfl, trivial⟩ (H.sel [1, 0] rfl) ?_ ?_
  · clear H e
    rintro T78 k3 s72 _ w77 o79 hk (H : Cx w0 fp0 S0 w77 [E (List Int) s72 v_h, Es (List Int) w_ w_h]) hF80
    refine boolE (z := true) (ltLen hk) ?_
    refine sq ?_
    refine sq ?_
    obtain ⟨a87, e, hF88⟩ := bindS hF80; clear hF80
    obtain ⟨p85, m86, c81, c82, c83, c84⟩ := (H.rs (α := List Int) 1 rfl).at1 e; clear e
    refine idxE c81 c82 c83 ?_; clear c81 c82 c83
    refine load1 c84 ?_; clear c84
    obtain ⟨a95, e, hF96⟩ := bindS hF88; clear hF88
    obtain ⟨p93, m94, c89, c90, c91, c92⟩ := (H.ro (α := List Int) 0 rfl).at1 e; clear e
    refine idxE c89 c90 c91 ?_; clear c89 c90 c91
    refine load1 c92 ?_; clear c92
    obtain ⟨a97, e, hF98⟩ := bindS hF96; clear hF96
    refine arO e ?_; clear e
    obtain ⟨a99, e, hF100⟩ := bindS hF98; clear hF98
    refine arO e ?_; clear e
    obtain ⟨y101, e, hF102⟩ := bindS hF100; clear hF100
    have ey101 := e; clear e
    refine callF (impl_mod_c p_ a99 y101 ey101) (Γi := []) H trivial ?_; clear H ey101
    rintro _ _ w103 ⟨rfl, rfl⟩ (H : Cx w0 fp0 S0 w103 [E (List Int) s72 v_h, Es (List Int) w_ w_h])
    obtain ⟨a110, e, hF111⟩ := bindS hF102; clear hF102
    have ea110 := e; clear e
    obtain ⟨p108, m109, c104, c105, c106⟩ := (H.ro (α := List Int) 0 rfl).setp ea110
    refine idxE c104 c105 c106 ?_
    refine setS (α := Int) H c104 c105 ea110 ?_; clear H c104 c105 c106 ea110; intro w112 H
    refine arK hk hmx74 ?_
    have hs := Option.some.inj hF111; subst hs; clear hF111
    exact ⟨(), ⟨rfl, rfl, rfl, rfl, rfl, rfl, trivial⟩, H.sel [0, 1] rfl⟩
  · clear H e
    rintro T114 _ w113 (H : Cx w0 fp0 S0 w113 [E (List Int) r75 v_h, Es (List Int) w_ w_h])
    refine boolE (z := false) geLen ?_
    refine sq ?_
    cases hF76
    exact ⟨_, _, rfl, ⟨rfl, rfl⟩, (H.sel [0] rfl).close ⟨cloE, trivial⟩⟩

theorem impl_rowOperation_apply_c (o__0 : Int) (o__1 : Int) (o__2 : Int) (o__3 : Int) (p_ : Int) (rows_ : List (List Int)) (rows_h : Hd) (y : List (List Int)) (hF : F_impl_rowOperation_apply (o__0, o__1, o__2, o__3) p_ rows_ = some y) :
    ConF Tryd.prog 164 #[(.agg #[(.int .i64 o__0), (.int .i64 o__1), (.int .i64 o__2), (.int .i64 o__3)]), (.int .i64 p_), (rows_h).v] [] [E (List (List Int)) rows_ rows_h] (fun v Γ' => v = (.tuple #[]) ∧ Γ' = [E (List (List Int)) y rows_h]) := by
  intro w0 S0 fp0 hI hS
  have H : Cx w0 fp0 S0 w0 [E (List (List Int)) rows_ rows_h] := Cx.start hI hS
  clear hI hS
  refine enterC (args := [_, _, _]) gok Tryd.func164 rfl _ rfl rfl rfl ?_
  refine box_ H ?_; clear H; intro b3 w2 hx H
  clear hx
  replace H : Cx w0 fp0 S0 w2 [Bx b3 [(.int .i64 o__0), (.int .i64 o__1), (.int .i64 o__2), (.int .i64 o__3)], E (List (List Int)) rows_ rows_h] := H
  refine fld gok rfl rfl rfl rfl ?_
  refine load1 (H.bx 0 rfl (j := 0) rfl) ?_
  obtain ⟨a5, e, hF6⟩ := bindS hF; clear hF
  refine boolO e ?_; clear e
  cases a5
  · have hF7 := condF hF6; clear hF6
    obtain ⟨a8, e, hF9⟩ := bindS hF7; clear hF7
    refine boolO e ?_; clear e
    cases a8
    · have hF10 := condF hF9; clear hF9
      obtain ⟨a11, e, hF12⟩ := bindS hF10; clear hF10
      refine boolO e ?_; clear e
      cases a11
      · have hF13 := condF hF12; clear hF12
        cases hF13
        exact ⟨_, _, rfl, ⟨rfl, rfl⟩, (H.sel [1] rfl).close ⟨cloE, trivial⟩⟩
      · have hF14 := condT hF12; clear hF12
        refine heldX H [14] (.fst 0 (.fst 1 (.fst 2 (.fst 6 (.fst 9 (.fst 10 (.fst 3 (.fst 4 (.fst 5 (.fst 7 (.fst 8 (.fst 11 (.fst 12 (.fst 13 (.act 14 .done))))))))))))))) mixed [] trivial (by kernel_rfl) ?_
        clear H; intro w15 H
        have hX : Ext w15 w15 := Upd.refl _ _
        have H0 := H
        refine anyH (fun _ => fld gok rfl rfl rfl rfl ⟨rfl, rfl⟩) ?_
        refine anyH (fun _ => fld gok rfl rfl rfl rfl ⟨rfl, rfl⟩) ?_
        refine anyH (fun _ => fld gok rfl rfl rfl rfl ⟨rfl, rfl⟩) ?_
        refine load1X (H.bx 0 rfl (j := 1) rfl) ?_
        obtain ⟨a22, e, hF23⟩ := bindS hF14; clear hF14
        replace H := H.sel [1, 0] rfl
        replace H := H.toEH (α := List Int)
        have HH := H; clear H; obtain ⟨p20, m21, h24, c16, c17, c18, c19, H⟩ := HH.peekL e; clear HH
        clear e
        refine idxE c16 c17 c18 ?_
        refine load1X c19 ?_; clear c19
        refine load1X (H.bx 1 rfl (j := 3) rfl) ?_
        obtain ⟨a25, e, hF26⟩ := bindS hF23; clear hF23
        refine arO e ?_; clear e
        refine load1X (H.bx 1 rfl (j := 2) rfl) ?_
        obtain ⟨a33, e, hF34⟩ := bindS hF26; clear hF26
        have HH := H; clear H; obtain ⟨p31, m32, h35, c27, c28, c29, c30, H⟩ := HH.peekL e; clear HH
        clear e
        refine idxE c27 c28 c29 ?_
        refine load1X c30 ?_; clear c30
        obtain ⟨y36, e, hF37⟩ := bindS hF34; clear hF34
        have ey36 := e; clear e
        have kn38 := H.kn 0 rfl 0 rfl
        obtain ⟨u41, en40, hF42⟩ := bindS hF37; clear hF37
        have hm39 : m32 ≠ m21 := fun q => neqO_some en40 (by omega)
        replace H := H.takeK 1 rfl
        refine callF (impl_addTimes_c p_ a22 h24 a25 a33 h35 y36 ey36) (Γi := [E (List Int) a22 h24]) H ⟨Vw.ex (α := List Int) (k := ⟨m32, a33, h35⟩) 0 rfl kn38 hm39, trivial⟩ ?_; clear H ey36
        rintro _ _ w44 ⟨rfl, rfl⟩ (H : Cx w0 fp0 S0 w44 [E (List Int) y36 h24, EX (List Int) m21 [(h24).v] rows_ rows_h, Bx b3 [(.int .i64 o__0), (.int .i64 o__1), (.int .i64 o__2), (.int .i64 o__3)]])
        obtain ⟨a45, e, hF46⟩ := bindS hF42; clear hF42
        replace H := H.put c17 e; clear e
        refine hold trivial ?_
        cases hF46
        exact ⟨_, _, rfl, ⟨rfl, rfl⟩, (H.sel [0] rfl).close ⟨cloE, trivial⟩⟩
    · have hF47 := condT hF9; clear hF9
      refine fld gok rfl rfl rfl rfl ?_
      refine load1 (H.bx 0 rfl (j := 3) rfl) ?_
      obtain ⟨y48, e, hF49⟩ := bindS hF47; clear hF47
      have ey48 := e; clear e
      refine callF (impl_inverse_c p_ o__3 y48 ey48) (Γi := []) H trivial ?_; clear H ey48
      rintro _ _ w50 ⟨rfl, rfl⟩ (H : Cx w0 fp0 S0 w50 [Bx b3 [(.int .i64 o__0), (.int .i64 o__1), (.int .i64 o__2), (.int .i64 o__3)], E (List (List Int)) rows_ rows_h])
      refine fld gok rfl rfl rfl rfl ?_
      refine load1 (H.bx 0 rfl (j := 1) rfl) ?_
      obtain ⟨a57, e, hF58⟩ := bindS hF49; clear hF49
      replace H := H.sel [1, 0] rfl
      have HH := H; clear H; obtain ⟨p55, m56, h59, c51, c52, c53, H⟩ := HH.take e; clear HH
      clear e
      have c54 := H.hx0 1 rfl c51 rfl
      refine idxE c51 c52 c53 ?_
      refine load1 c54 ?_; clear c54
      refine lenE (H.ro (α := List Int) 0 rfl).len ?_
      have hmx124 := (H.ro (α := List Int) 0 rfl).max
      obtain ⟨r125, e, hF126⟩ := bindS hF58; clear hF58
      refine loopS _ a57.length (fun (k61 : Nat) (s122 : List Int) (_ : Unit) => [(1, (.int .i64 p_)), (2, (rows_h).v), (3, (.pointer (some ⟨b3, 0, none⟩))), (6, (.int .i64 y48)), (41, (h59).v), (42, (.int .i64 ((a57.length : Nat) : Int))), (43, (.int .i64 ((k61 : Nat) : Int)))]) (fun _ (s122 : List Int) (_ : Unit) w' => Cx w0 fp0 S0 w' [EX (List Int) m56 [(h59).v] rows_ rows_h, Bx b3 [(.int .i64 o__0), (.int .i64 o__1), (.int .i64 o__2), (.int .i64 o__3)], E (List Int) s122 h59]) a57 () e ⟨rfl, rfl, rfl, rfl, rfl, rfl, rfl, trivial⟩ (H.sel [1, 2, 0] rfl) ?_ ?_
      · clear H e
        rintro T128 k61 s122 _ w127 o129 hk (H : Cx w0 fp0 S0 w127 [EX (List Int) m56 [(h59).v] rows_ rows_h, Bx b3 [(.int .i64 o__0), (.int .i64 o__1), (.int .i64 o__2), (.int .i64 o__3)], E (List Int) s122 h59]) hF130
        refine boolE (z := true) (ltLen hk) ?_
        refine sq ?_
        refine sq ?_
        obtain ⟨a137, e, hF138⟩ := bindS hF130; clear hF130
        obtain ⟨p135, m136, c131, c132, c133, c134⟩ := (H.ro (α := List Int) 2 rfl).at1 e; clear e
        refine idxE c131 c132 c133 ?_; clear c131 c132 c133
        refine load1 c134 ?_; clear c134
        refine heldX H [12] (.fst 0 (.fst 1 (.fst 5 (.fst 6 (.fst 7 (.fst 8 (.fst 9 (.fst 10 (.fst 2 (.fst 3 (.fst 4 (.fst 11 (.act 12 .done))))))))))))) mixed [] trivial (by kernel_rfl) ?_
        clear H; intro w139 H
        have hX : Ext w139 w139 := Upd.refl _ _
        have H0 := H
        refine anyH (fun _ => fld gok rfl rfl rfl rfl ⟨rfl, rfl⟩) ?_
        obtain ⟨a140, e, hF141⟩ := bindS hF138; clear hF138
        refine arO e ?_; clear e
        obtain ⟨a142, e, hF143⟩ := bindS hF141; clear hF141
        refine remO_ e ?_; clear e
        refine load1X (H.bx 1 rfl (j := 1) rfl) ?_
        have c147 := H.hx0 0 rfl c51 rfl
        refine idxE c51 c52 c53 ?_
        refine load1X c147 ?_; clear c147
        obtain ⟨a156, e, hF157⟩ := bindS hF143; clear hF143
        have ea156 := e; clear e
        obtain ⟨p154, m155, c150, c151, c152⟩ := (H.ro (α := List Int) 2 rfl).setp ea156
        refine idxE c150 c151 c152 ?_
        replace H := H.sel [2, 0, 1] rfl
        refine setS (α := Int) H c150 c151 ea156 ?_; clear H c150 c151 c152 ea156; intro w158 H
        refine hold trivial ?_
        refine arK hk hmx124 ?_
        have hs := Option.some.inj hF157; subst hs; clear hF157
        exact ⟨(), ⟨rfl, rfl, rfl, rfl, rfl, rfl, rfl, trivial⟩, H.sel [1, 2, 0] rfl⟩
      · clear H e
        rintro T160 _ w159 (H : Cx w0 fp0 S0 w159 [EX (List Int) m56 [(h59).v] rows_ rows_h, Bx b3 [(.int .i64 o__0), (.int .i64 o__1), (.int .i64 o__2), (.int .i64 o__3)], E (List Int) r125 h59])
        refine boolE (z := false) geLen ?_
        refine sq ?_
        obtain ⟨a163, e, hF164⟩ := bindS hF126; clear hF126
        replace H := H.sel [2, 0, 1] rfl
        replace H := H.put c52 e; clear e
        cases hF164
        exact ⟨_, _, rfl, ⟨rfl, rfl⟩, (H.sel [0] rfl).close ⟨cloE, trivial⟩⟩
  · have hF165 := condT hF6; clear hF6
    refine heldX H [17, 19, 18, 3, 4, 5] (.pure 3 (.pure 4 (.pure 5 (.fst 0 (.fst 1 (.fst 6 (.fst 7 (.fst 11 (.fst 12 (.fst 2 (.fst 8 (.fst 9 (.fst 10 (.fst 13 (.fst 14 (.fst 15 (.fst 16 (.act 17 (.act 18 (.act 19 .done)))))))))))))))))))) mixed [((Addr.add ⟨b3, 0, none⟩ 2), (.int .i64 o__2))] ⟨H.bx 0 rfl (j := 2) rfl, trivial⟩ (by kernel_rfl) ?_
    clear H; intro w166 H
    have hX : Ext w166 w166 := Upd.refl _ _
    have H0 := H
    refine anyH (fun _ => fld gok rfl rfl rfl rfl ⟨rfl, rfl⟩) ?_
    refine load1W 0 rfl ?_
    refine anyH (fun _ => fld gok rfl rfl rfl rfl ⟨rfl, rfl⟩) ?_
    refine anyH (fun _ => fld gok rfl rfl rfl rfl ⟨rfl, rfl⟩) ?_
    refine anyH (fun _ => fld gok rfl rfl rfl rfl ⟨rfl, rfl⟩) ?_
    refine load1X (H.bx 0 rfl (j := 1) rfl) ?_
    refine load1X (H.bx 0 rfl (j := 2) rfl) ?_
    obtain ⟨a173, e, hF174⟩ := bindS hF165; clear hF165
    replace H := H.sel [1, 0] rfl
    replace H := H.toEH (α := List Int)
    have HH := H; clear H; obtain ⟨p171, m172, h175, c167, c168, c169, c170, H⟩ := HH.peekL e; clear HH
    clear e
    refine idxE c167 c168 c169 ?_
    refine load1X c170 ?_; clear c170
    refine load1X (H.bx 1 rfl (j := 1) rfl) ?_
    obtain ⟨a182, e, hF183⟩ := bindS hF174; clear hF174
    have HH := H; clear H; obtain ⟨p180, m181, h184, c176, c177, c178, c179, H⟩ := HH.peekL e; clear HH
    clear e
    refine idxE c176 c177 c178 ?_
    refine load1X c179 ?_; clear c179
    refine idxE c176 c177 c178 ?_
    refine stZ1 (ki := 0) (kj := 1) H rfl rfl c176 ?_; clear H; intro w191 H
    replace H : Cx w0 fp0 S0 w191 [EZ (List Int) m181 m172 a182 a173 h184 h175 rows_ rows_h, Bx b3 [(.int .i64 o__0), (.int .i64 o__1), (.int .i64 o__2), (.int .i64 o__3)]] := H
    refine hold ⟨H.bx 1 rfl (j := 2) rfl, trivial⟩ ?_
    refine idxE c167 c168 c169 ?_
    refine hold ⟨H.bx 1 rfl (j := 2) rfl, trivial⟩ ?_
    obtain ⟨a199, e, hF200⟩ := bindS hF183; clear hF183
    refine stZ2 H c177 c168 c167 e ?_; clear H e; intro w198 H
    refine hold ⟨H.bx 1 rfl (j := 2) rfl, trivial⟩ ?_
    cases hF200
    exact ⟨_, _, rfl, ⟨rfl, rfl⟩, (H.sel [0] rfl).close ⟨cloE, trivial⟩⟩

theorem impl_reduction_1_c (o__0 : Int) (o__1 : Int) (o__2 : Int) (o__3 : Int) (c0_b : Nat) (c0_ : Int) (c1_b : Nat) (c1_ : List (List Int)) (c1_h : Hd) (c2_b : Nat) (c2_ : List (List Int)) (c2_h : Hd) (y0 : List (List Int)) (y1 : List (List Int)) (hF : F_impl_reduction_1 (o__0, o__1, o__2, o__3) c0_ c1_ c2_ = some (y0, y1)) :
    ConF Tryd.prog 163 #[(.agg #[(.int .i64 o__0), (.int .i64 o__1), (.int .i64 o__2), (.int .i64 o__3)]), (.pointer (some ⟨c0_b, 0, none⟩)), (.pointer (some ⟨c1_b, 0, none⟩)), (.pointer (some ⟨c2_b, 0, none⟩))] [] [Bx c0_b [(.int .i64 c0_)], Bx c1_b [(c1_h).v], E (List (List Int)) c1_ c1_h, Bx c2_b [(c2_h).v], E (List (List Int)) c2_ c2_h] (fun v Γ' => v = (.tuple #[]) ∧ Γ' = [Bx c0_b [(.int .i64 c0_)], Bx c1_b [(c1_h).v], E (List (List Int)) y0 c1_h, Bx c2_b [(c2_h).v], E (List (List Int)) y1 c2_h]) := by
  intro w0 S0 fp0 hI hS
  have H : Cx w0 fp0 S0 w0 [Bx c0_b [(.int .i64 c0_)], Bx c1_b [(c1_h).v], E (List (List Int)) c1_ c1_h, Bx c2_b [(c2_h).v], E (List (List Int)) c2_ c2_h] := Cx.start hI hS
  clear hI hS
  refine enterC (args := [_, _, _, _]) gok Tryd.func163 rfl _ rfl rfl rfl ?_
  refine box_ H ?_; clear H; intro b7 w6 hx H
  clear hx
  replace H : Cx w0 fp0 S0 w6 [Bx b7 [(.int .i64 o__0), (.int .i64 o__1), (.int .i64 o__2), (.int .i64 o__3)], Bx c0_b [(.int .i64 c0_)], Bx c1_b [(c1_h).v], E (List (List Int)) c1_ c1_h, Bx c2_b [(c2_h).v], E (List (List Int)) c2_ c2_h] := H
  refine sq ?_
  refine loadN [(.int .i64 o__0), (.int .i64 o__1), (.int .i64 o__2), (.int .i64 o__3)] rfl (fun j u hj => H.bx 0 rfl hj) ?_
  refine fld gok rfl rfl rfl rfl ?_
  refine load1 (H.bx 0 rfl (j := 1) rfl) ?_
  refine fld gok rfl rfl rfl rfl ?_
  refine load1 (H.bx 0 rfl (j := 1) rfl) ?_
  refine build_ (cs := #[(.int .i64 0), (.int .i64 o__1), (.int .i64 o__1), (.int .i64 0)]) gok rfl rfl rfl ?_
  obtain ⟨a9, e, hF10⟩ := bindS hF; clear hF
  refine eqA gok rfl Tryd.underlying141 (by kernel_rfl) (by kernel_rfl) (by kernel_rfl) (by refine ⟨rfl, ⟨_, _, rfl⟩, rfl, ⟨_, _, rfl⟩, rfl, ⟨_, _, rfl⟩, rfl, ⟨_, _, rfl⟩, trivial⟩) (ls := [o__0, o__1, o__2, o__3]) (bs := [0, o__1, o__1, 0]) rfl rfl rfl rfl e ?_; clear e
  cases a9
  · have hF11 := condF hF10; clear hF10
    refine loadN [(.int .i64 o__0), (.int .i64 o__1), (.int .i64 o__2), (.int .i64 o__3)] rfl (fun j u hj => H.bx 0 rfl hj) ?_
    refine load1 (H.bx0 1 rfl) ?_
    refine load1 (H.bx0 2 rfl) ?_
    obtain ⟨y12, e, hF13⟩ := bindS hF11; clear hF11
    have ey12 := e; clear e
    replace H := H.sel [3, 0, 1, 2, 4, 5] rfl
    refine callF (impl_rowOperation_apply_c o__0 o__1 o__2 o__3 c0_ c1_ c1_h y12 ey12) (Γi := [E (List (List Int)) c1_ c1_h]) H trivial ?_; clear H ey12
    rintro _ _ w14 ⟨rfl, rfl⟩ (H : Cx w0 fp0 S0 w14 [E (List (List Int)) y12 c1_h, Bx b7 [(.int .i64 o__0), (.int .i64 o__1), (.int .i64 o__2), (.int .i64 o__3)], Bx c0_b [(.int .i64 c0_)], Bx c1_b [(c1_h).v], Bx c2_b [(c2_h).v], E (List (List Int)) c2_ c2_h])
    refine loadN [(.int .i64 o__0), (.int .i64 o__1), (.int .i64 o__2), (.int .i64 o__3)] rfl (fun j u hj => H.bx 1 rfl hj) ?_
    refine load1 (H.bx0 2 rfl) ?_
    refine load1 (H.bx0 4 rfl) ?_
    obtain ⟨y15, e, hF16⟩ := bindS hF13; clear hF13
    have ey15 := e; clear e
    replace H := H.sel [5, 0, 1, 2, 3, 4] rfl
    refine callF (impl_rowOperation_apply_c o__0 o__1 o__2 o__3 c0_ c2_ c2_h y15 ey15) (Γi := [E (List (List Int)) c2_ c2_h]) H trivial ?_; clear H ey15
    rintro _ _ w17 ⟨rfl, rfl⟩ (H : Cx w0 fp0 S0 w17 [E (List (List Int)) y15 c2_h, E (List (List Int)) y12 c1_h, Bx b7 [(.int .i64 o__0), (.int .i64 o__1), (.int .i64 o__2), (.int .i64 o__3)], Bx c0_b [(.int .i64 c0_)], Bx c1_b [(c1_h).v], Bx c2_b [(c2_h).v]])
    cases hF16
    exact ⟨_, _, rfl, ⟨rfl, rfl⟩, (H.sel [3, 4, 1, 5, 0] rfl).close ⟨cloB, cloB, cloE, cloB, cloE, trivial⟩⟩
  · have hF18 := condT hF10; clear hF10
    cases hF18
    exact ⟨_, _, rfl, ⟨rfl, rfl⟩, (H.sel [1, 2, 3, 4, 5] rfl).close ⟨cloB, cloB, cloE, cloB, cloE, trivial⟩⟩

theorem impl_reduction_c (p_ : Int) (rows_ : List (List Int)) (rows_h : Hd) (n_ : Int) (also_ : List (List Int)) (also_h : Hd) (y0 : List (List Int)) (y1 : List (List Int)) (y2 : Int) (hF : F_impl_reduction p_ rows_ n_ also_ = some (y0, y1, y2)) :
    ConF Tryd.prog 126 #[(.int .i64 p_), (rows_h).v, (.int .i64 n_), (also_h).v] [] [E (List (List Int)) rows_ rows_h, E (List (List Int)) also_ also_h] (fun v Γ' => v = (.int .i64 y2) ∧ Γ' = [E (List (List Int)) y0 rows_h, E (List (List Int)) y1 also_h]) := by
  intro w0 S0 fp0 hI hS
  have H : Cx w0 fp0 S0 w0 [E (List (List Int)) rows_ rows_h, E (List (List Int)) also_ also_h] := Cx.start hI hS
  clear hI hS
  refine enterC (args := [_, _, _, _]) gok Tryd.func126 rfl _ rfl rfl rfl ?_
  refine box_ H ?_; clear H; intro b4 w3 hx H
  clear hx
  replace H : Cx w0 fp0 S0 w3 [Bx b4 [(.int .i64 p_)], E (List (List Int)) rows_ rows_h, E (List (List Int)) also_ also_h] := H
  refine box_ H ?_; clear H; intro b7 w6 hx H
  clear hx
  replace H : Cx w0 fp0 S0 w6 [Bx b7 [(rows_h).v], Bx b4 [(.int .i64 p_)], E (List (List Int)) rows_ rows_h, E (List (List Int)) also_ also_h] := H
  refine box_ H ?_; clear H; intro b10 w9 hx H
  clear hx
  replace H : Cx w0 fp0 S0 w9 [Bx b10 [(also_h).v], Bx b7 [(rows_h).v], Bx b4 [(.int .i64 p_)], E (List (List Int)) rows_ rows_h, E (List (List Int)) also_ also_h] := H
  obtain ⟨r4078, hF4080, hF4079⟩ := bindS hF; clear hF
  refine cut (fun (q4081 : List (List Int) × List (List Int) × Int) => [(9, (.int .i64 q4081.2.2))]) (fun (q4081 : List (List Int) × List (List Int) × Int) w' => (q4081.1, q4081.2.1, q4081.2.2) = r4078 ∧ Cx w0 fp0 S0 w' [E (List (List Int)) q4081.1 rows_h, E (List (List Int)) q4081.2.1 also_h]) ?_ ?_
  · skip
    refine loopW _ (fun (s6786 : List (List Int) × List (List Int) × Int × Int) (_ : Unit) => [(2, (.int .i64 n_)), (5, (.pointer (some ⟨b7, 0, none⟩))), (9, (.int .i64 s6786.2.2.2)), (10, (.func (.func 163) #[] #[(.pointer (some ⟨b4, 0, none⟩)), (.pointer (some ⟨b7, 0, none⟩)), (.pointer (some ⟨b10, 0, none⟩))])), (11, (.int .i64 s6786.2.2.1))]) (fun (s6786 : List (List Int) × List (List Int) × Int × Int) (_ : Unit) w' => Cx w0 fp0 S0 w' [Bx b7 [(rows_h).v], E (List (List Int)) s6786.1 rows_h, Bx b4 [(.int .i64 p_)], Bx b10 [(also_h).v], E (List (List Int)) s6786.2.1 also_h]) (rows_, also_, 0, 0) () hF4080 ⟨rfl, rfl, rfl, rfl, rfl, trivial⟩ (H.sel [1, 3, 2, 0, 4] rfl) ?_
    · clear H
      rintro T6792 ⟨s6786_0, s6786_1, s6786_2, s6786_3⟩ _ w6791 o6793 (H : Cx w0 fp0 S0 w6791 [Bx b7 [(rows_h).v], E (List (List Int)) s6786_0 rows_h, Bx b4 [(.int .i64 p_)], Bx b10 [(also_h).v], E (List (List Int)) s6786_1 also_h]) hrt hF6794
      refine sq ?_
      obtain ⟨r6803, hF6805, hF6804⟩ := bindS hF6794; clear hF6794
      refine cut (fun (q6806 : Bool) => [(2, (.int .i64 n_)), (5, (.pointer (some ⟨b7, 0, none⟩))), (9, (.int .i64 s6786_3)), (10, (.func (.func 163) #[] #[(.pointer (some ⟨b4, 0, none⟩)), (.pointer (some ⟨b7, 0, none⟩)), (.pointer (some ⟨b10, 0, none⟩))])), (11, (.int .i64 s6786_2)), (23, (.bool q6806))]) (fun (q6806 : Bool) w' => q6806 = r6803 ∧ Cx w0 fp0 S0 w' [Bx b7 [(rows_h).v], E (List (List Int)) s6786_0 rows_h, Bx b4 [(.int .i64 p_)], Bx b10 [(also_h).v], E (List (List Int)) s6786_1 also_h]) ?_ ?_
      · skip
        obtain ⟨a6807, e, hF6808⟩ := bindS hF6805; clear hF6805
        refine boolO e ?_; clear e
        cases a6807
        · have hF6809 := condF hF6808; clear hF6808
          exact ⟨false, ⟨rfl, rfl, rfl, rfl, rfl, rfl, trivial⟩, Option.some.inj hF6809, H.sel [0, 1, 2, 3, 4] rfl⟩
        · have hF6810 := condT hF6808; clear hF6808
          refine load1 (H.bx0 0 rfl) ?_
          refine lenE (H.ro (α := List (List Int)) 1 rfl).len ?_
          obtain ⟨a6811, e, hF6812⟩ := bindS hF6810; clear hF6810
          refine boolO e ?_; clear e
          exact ⟨a6811, ⟨rfl, rfl, rfl, rfl, rfl, rfl, trivial⟩, Option.some.inj hF6812, H.sel [0, 1, 2, 3, 4] rfl⟩
      · clear hF6805 H
        rintro T6814 s6801 w6813 ⟨hr, (H : Cx w0 fp0 S0 w6813 [Bx b7 [(rows_h).v], E (List (List Int)) s6786_0 rows_h, Bx b4 [(.int .i64 p_)], Bx b10 [(also_h).v], E (List (List Int)) s6786_1 also_h])⟩
        subst hr
        cases s6801
        · have hF6815 := condF hF6804; clear hF6804
          have hs := Option.some.inj hF6815; subst hs; clear hF6815
          have hF6816 : some _ = some _ := congrArg some (hrt _ rfl).symm
          exact ⟨(s6786_0, s6786_1, s6786_3), ⟨rfl, trivial⟩, Option.some.inj hF6816, H.sel [1, 4] rfl⟩
        · have hF6817 := condT hF6804; clear hF6804
          obtain ⟨r7479, hF7481, hF7480⟩ := bindS hF6817; clear hF6817
          refine cut (fun (q7482 : List (List Int) × List (List Int) × Int) => [(2, (.int .i64 n_)), (5, (.pointer (some ⟨b7, 0, none⟩))), (9, (.int .i64 q7482.2.2)), (10, (.func (.func 163) #[] #[(.pointer (some ⟨b4, 0, none⟩)), (.pointer (some ⟨b7, 0, none⟩)), (.pointer (some ⟨b10, 0, none⟩))])), (11, (.int .i64 s6786_2))]) (fun (q7482 : List (List Int) × List (List Int) × Int) w' => (q7482.1, q7482.2.1, q7482.2.2) = r7479 ∧ Cx w0 fp0 S0 w' [Bx b7 [(rows_h).v], E (List (List Int)) q7482.1 rows_h, Bx b4 [(.int .i64 p_)], Bx b10 [(also_h).v], E (List (List Int)) q7482.2.1 also_h]) ?_ ?_
          · skip
            obtain ⟨r7673, hF7675, hF7674⟩ := bindS hF7481; clear hF7481
            refine cut (fun (q7676 : Int) => [(2, (.int .i64 n_)), (5, (.pointer (some ⟨b7, 0, none⟩))), (9, (.int .i64 s6786_3)), (10, (.func (.func 163) #[] #[(.pointer (some ⟨b4, 0, none⟩)), (.pointer (some ⟨b7, 0, none⟩)), (.pointer (some ⟨b10, 0, none⟩))])), (11, (.int .i64 s6786_2)), (12, (.int .i64 q7676))]) (fun (q7676 : Int) w' => q7676 = r7673 ∧ Cx w0 fp0 S0 w' [Bx b7 [(rows_h).v], E (List (List Int)) s6786_0 rows_h, Bx b4 [(.int .i64 p_)], Bx b10 [(also_h).v], E (List (List Int)) s6786_1 also_h]) ?_ ?_
            · skip
              refine loopW _ (fun (s7797 : Int) (_ : Unit) => [(2, (.int .i64 n_)), (5, (.pointer (some ⟨b7, 0, none⟩))), (9, (.int .i64 s6786_3)), (10, (.func (.func 163) #[] #[(.pointer (some ⟨b4, 0, none⟩)), (.pointer (some ⟨b7, 0, none⟩)), (.pointer (some ⟨b10, 0, none⟩))])), (11, (.int .i64 s6786_2)), (12, (.int .i64 s7797))]) (fun (s7797 : Int) (_ : Unit) w' => Cx w0 fp0 S0 w' [Bx b7 [(rows_h).v], E (List (List Int)) s6786_0 rows_h, Bx b4 [(.int .i64 p_)], Bx b10 [(also_h).v], E (List (List Int)) s6786_1 also_h]) s6786_3 () hF7675 ⟨rfl, rfl, rfl, rfl, rfl, rfl, trivial⟩ (H.sel [0, 1, 2, 3, 4] rfl) ?_
              · clear H
                rintro T7803 s7797 _ w7802 o7804 (H : Cx w0 fp0 S0 w7802 [Bx b7 [(rows_h).v], E (List (List Int)) s6786_0 rows_h, Bx b4 [(.int .i64 p_)], Bx b10 [(also_h).v], E (List (List Int)) s6786_1 also_h]) hrt hF7805
                refine sq ?_
                obtain ⟨r7831, hF7833, hF7832⟩ := bindS hF7805; clear hF7805
                refine cut (fun (q7834 : Bool) => [(2, (.int .i64 n_)), (5, (.pointer (some ⟨b7, 0, none⟩))), (9, (.int .i64 s6786_3)), (10, (.func (.func 163) #[] #[(.pointer (some ⟨b4, 0, none⟩)), (.pointer (some ⟨b7, 0, none⟩)), (.pointer (some ⟨b10, 0, none⟩))])), (11, (.int .i64 s6786_2)), (12, (.int .i64 s7797)), (40, (.bool q7834))]) (fun (q7834 : Bool) w' => q7834 = r7831 ∧ Cx w0 fp0 S0 w' [Bx b7 [(rows_h).v], E (List (List Int)) s6786_0 rows_h, Bx b4 [(.int .i64 p_)], Bx b10 [(also_h).v], E (List (List Int)) s6786_1 also_h]) ?_ ?_
                · skip
                  refine load1 (H.bx0 0 rfl) ?_
                  refine lenE (H.ro (α := List (List Int)) 1 rfl).len ?_
                  obtain ⟨a7835, e, hF7836⟩ := bindS hF7833; clear hF7833
                  refine boolO e ?_; clear e
                  cases a7835
                  · have hF7837 := condF hF7836; clear hF7836
                    exact ⟨false, ⟨rfl, rfl, rfl, rfl, rfl, rfl, rfl, trivial⟩, Option.some.inj hF7837, H.sel [0, 1, 2, 3, 4] rfl⟩
                  · have hF7838 := condT hF7836; clear hF7836
                    refine load1 (H.bx0 0 rfl) ?_
                    obtain ⟨a7845, e, hF7846⟩ := bindS hF7838; clear hF7838
                    replace H := H.sel [1, 0, 2, 3, 4] rfl
                    replace H := H.toEH (α := List Int)
                    have HH := H; clear H; obtain ⟨p7843, m7844, h7847, c7839, c7840, c7841, c7842, H⟩ := HH.peekL e; clear HH
                    clear e
                    refine idxE c7839 c7840 c7841 ?_
                    refine load1 c7842 ?_; clear c7842
                    obtain ⟨a7854, e, hF7855⟩ := bindS hF7846; clear hF7846
                    obtain ⟨p7852, m7853, c7848, c7849, c7850, c7851⟩ := (H.rh (α := List Int) 0 rfl 0 rfl).at1 e; clear e
                    refine idxE c7848 c7849 c7850 ?_; clear c7848 c7849 c7850
                    refine load1 c7851 ?_; clear c7851
                    obtain ⟨a7856, e, hF7857⟩ := bindS hF7855; clear hF7855
                    refine boolO e ?_; clear e
                    replace H := H.ofEH
                    exact ⟨a7856, ⟨rfl, rfl, rfl, rfl, rfl, rfl, rfl, trivial⟩, Option.some.inj hF7857, H.sel [1, 0, 2, 3, 4] rfl⟩
                · clear hF7833 H
                  rintro T7859 s7829 w7858 ⟨hr, (H : Cx w0 fp0 S0 w7858 [Bx b7 [(rows_h).v], E (List (List Int)) s6786_0 rows_h, Bx b4 [(.int .i64 p_)], Bx b10 [(also_h).v], E (List (List Int)) s6786_1 also_h])⟩
                  subst hr
                  cases s7829
                  · have hF7860 := condF hF7832; clear hF7832
                    have hs := Option.some.inj hF7860; subst hs; clear hF7860
                    have hF7861 : some _ = some _ := congrArg some (hrt _ rfl).symm
                    exact ⟨s7797, ⟨rfl, rfl, rfl, rfl, rfl, rfl, trivial⟩, Option.some.inj hF7861, H.sel [0, 1, 2, 3, 4] rfl⟩
                  · have hF7862 := condT hF7832; clear hF7832
                    obtain ⟨a7863, e, hF7864⟩ := bindS hF7862; clear hF7862
                    refine arO e ?_; clear e
                    have hs := Option.some.inj hF7864; subst hs; clear hF7864
                    exact ⟨a7863, (), rfl, ⟨rfl, rfl, rfl, rfl, rfl, rfl, trivial⟩, H.sel [0, 1, 2, 3, 4] rfl⟩
            · clear hF7675 H
              rintro T7866 s7671 w7865 ⟨hr, (H : Cx w0 fp0 S0 w7865 [Bx b7 [(rows_h).v], E (List (List Int)) s6786_0 rows_h, Bx b4 [(.int .i64 p_)], Bx b10 [(also_h).v], E (List (List Int)) s6786_1 also_h])⟩
              subst hr
              refine sq ?_
              refine load1 (H.bx0 0 rfl) ?_
              refine lenE (H.ro (α := List (List Int)) 1 rfl).len ?_
              obtain ⟨a7867, e, hF7868⟩ := bindS hF7674; clear hF7674
              refine boolO e ?_; clear e
              cases a7867
              · have hF7869 := condF hF7868; clear hF7868
                refine build_ (cs := #[(.int .i64 0), (.int .i64 s6786_3), (.int .i64 s7671), (.int .i64 0)]) gok rfl rfl rfl ?_
                obtain ⟨y7870, e, hF7871⟩ := bindS hF7869; clear hF7869
                obtain ⟨y7870_0, y7870_1⟩ := y7870
                have ey7870 := e; clear e
                replace H := H.sel [2, 0, 1, 3, 4] rfl
                refine callF (impl_reduction_1_c 0 s6786_3 s7671 0 b4 p_ b7 s6786_0 rows_h b10 s6786_1 also_h y7870_0 y7870_1 ey7870) (Γi := [Bx b4 [(.int .i64 p_)], Bx b7 [(rows_h).v], E (List (List Int)) s6786_0 rows_h, Bx b10 [(also_h).v], E (List (List Int)) s6786_1 also_h]) H trivial ?_; clear H ey7870
                rintro _ _ w7872 ⟨rfl, rfl⟩ (H : Cx w0 fp0 S0 w7872 [Bx b4 [(.int .i64 p_)], Bx b7 [(rows_h).v], E (List (List Int)) y7870_0 rows_h, Bx b10 [(also_h).v], E (List (List Int)) y7870_1 also_h])
                refine load1 (H.bx0 1 rfl) ?_
                obtain ⟨a7879, e, hF7880⟩ := bindS hF7871; clear hF7871
                replace H := H.sel [2, 0, 1, 3, 4] rfl
                replace H := H.toEH (α := List Int)
                have HH := H; clear H; obtain ⟨p7877, m7878, h7881, c7873, c7874, c7875, c7876, H⟩ := HH.peekL e; clear HH
                clear e
                refine idxE c7873 c7874 c7875 ?_
                refine load1 c7876 ?_; clear c7876
                obtain ⟨a7888, e, hF7889⟩ := bindS hF7880; clear hF7880
                obtain ⟨p7886, m7887, c7882, c7883, c7884, c7885⟩ := (H.rh (α := List Int) 0 rfl 0 rfl).at1 e; clear e
                refine idxE c7882 c7883 c7884 ?_; clear c7882 c7883 c7884
                refine load1 c7885 ?_; clear c7885
                refine build_ (cs := #[(.int .i64 1), (.int .i64 s6786_3), (.int .i64 0), (.int .i64 a7888)]) gok rfl rfl rfl ?_
                replace H := H.ofEH
                obtain ⟨y7890, e, hF7891⟩ := bindS hF7889; clear hF7889
                obtain ⟨y7890_0, y7890_1⟩ := y7890
                have ey7890 := e; clear e
                replace H := H.sel [1, 2, 0, 3, 4] rfl
                refine callF (impl_reduction_1_c 1 s6786_3 0 a7888 b4 p_ b7 y7870_0 rows_h b10 y7870_1 also_h y7890_0 y7890_1 ey7890) (Γi := [Bx b4 [(.int .i64 p_)], Bx b7 [(rows_h).v], E (List (List Int)) y7870_0 rows_h, Bx b10 [(also_h).v], E (List (List Int)) y7870_1 also_h]) H trivial ?_; clear H ey7890
                rintro _ _ w7892 ⟨rfl, rfl⟩ (H : Cx w0 fp0 S0 w7892 [Bx b4 [(.int .i64 p_)], Bx b7 [(rows_h).v], E (List (List Int)) y7890_0 rows_h, Bx b10 [(also_h).v], E (List (List Int)) y7890_1 also_h])
                refine sq ?_
                refine load1 (H.bx0 1 rfl) ?_
                refine lenE (H.ro (α := List (List Int)) 2 rfl).len ?_
                have hmx8052 := (H.ro (α := List (List Int)) 2 rfl).max
                obtain ⟨r8053, e, hF8054⟩ := bindS hF7891; clear hF7891
                refine loopS _ y7890_0.length (fun (k7893 : Nat) (s8050 : List (List Int) × List (List Int)) (_ : Unit) => [(2, (.int .i64 n_)), (5, (.pointer (some ⟨b7, 0, none⟩))), (9, (.int .i64 s6786_3)), (10, (.func (.func 163) #[] #[(.pointer (some ⟨b4, 0, none⟩)), (.pointer (some ⟨b7, 0, none⟩)), (.pointer (some ⟨b10, 0, none⟩))])), (11, (.int .i64 s6786_2)), (64, (.int .i64 ((y7890_0.length : Nat) : Int))), (65, (.int .i64 ((k7893 : Nat) : Int)))]) (fun _ (s8050 : List (List Int) × List (List Int)) (_ : Unit) w' => Cx w0 fp0 S0 w' [Bx b7 [(rows_h).v], E (List (List Int)) s8050.1 rows_h, Bx b4 [(.int .i64 p_)], Bx b10 [(also_h).v], E (List (List Int)) s8050.2 also_h]) (y7890_0, y7890_1) () e ⟨rfl, rfl, rfl, rfl, rfl, rfl, rfl, trivial⟩ (H.sel [1, 2, 0, 3, 4] rfl) ?_ ?_
                · clear H e
                  rintro T8056 k7893 ⟨s8050_0, s8050_1⟩ _ w8055 o8057 hk (H : Cx w0 fp0 S0 w8055 [Bx b7 [(rows_h).v], E (List (List Int)) s8050_0 rows_h, Bx b4 [(.int .i64 p_)], Bx b10 [(also_h).v], E (List (List Int)) s8050_1 also_h]) hF8058
                  refine boolE (z := true) (ltLen hk) ?_
                  refine sq ?_
                  refine sq ?_
                  obtain ⟨r8084, hF8086, hF8085⟩ := bindS hF8058; clear hF8058
                  refine cut (fun (q8087 : Bool) => [(2, (.int .i64 n_)), (5, (.pointer (some ⟨b7, 0, none⟩))), (9, (.int .i64 s6786_3)), (10, (.func (.func 163) #[] #[(.pointer (some ⟨b4, 0, none⟩)), (.pointer (some ⟨b7, 0, none⟩)), (.pointer (some ⟨b10, 0, none⟩))])), (11, (.int .i64 s6786_2)), (13, (.int .i64 ((k7893 : Nat) : Int))), (64, (.int .i64 ((y7890_0.length : Nat) : Int))), (65, (.int .i64 ((k7893 : Nat) : Int))), (80, (.bool q8087))]) (fun (q8087 : Bool) w' => q8087 = r8084 ∧ Cx w0 fp0 S0 w' [Bx b7 [(rows_h).v], E (List (List Int)) s8050_0 rows_h, Bx b4 [(.int .i64 p_)], Bx b10 [(also_h).v], E (List (List Int)) s8050_1 also_h]) ?_ ?_
                  · skip
                    obtain ⟨a8088, e, hF8089⟩ := bindS hF8086; clear hF8086
                    refine boolO e ?_; clear e
                    cases a8088
                    · have hF8090 := condF hF8089; clear hF8089
                      exact ⟨false, ⟨rfl, rfl, rfl, rfl, rfl, rfl, rfl, rfl, rfl, trivial⟩, Option.some.inj hF8090, H.sel [0, 1, 2, 3, 4] rfl⟩
                    · have hF8091 := condT hF8089; clear hF8089
                      refine load1 (H.bx0 0 rfl) ?_
                      obtain ⟨a8098, e, hF8099⟩ := bindS hF8091; clear hF8091
                      replace H := H.sel [1, 0, 2, 3, 4] rfl
                      replace H := H.toEH (α := List Int)
                      have HH := H; clear H; obtain ⟨p8096, m8097, h8100, c8092, c8093, c8094, c8095, H⟩ := HH.peekL e; clear HH
                      clear e
                      refine idxE c8092 c8093 c8094 ?_
                      refine load1 c8095 ?_; clear c8095
                      obtain ⟨a8107, e, hF8108⟩ := bindS hF8099; clear hF8099
                      obtain ⟨p8105, m8106, c8101, c8102, c8103, c8104⟩ := (H.rh (α := List Int) 0 rfl 0 rfl).at1 e; clear e
                      refine idxE c8101 c8102 c8103 ?_; clear c8101 c8102 c8103
                      refine load1 c8104 ?_; clear c8104
                      obtain ⟨a8109, e, hF8110⟩ := bindS hF8108; clear hF8108
                      refine boolO e ?_; clear e
                      replace H := H.ofEH
                      exact ⟨a8109, ⟨rfl, rfl, rfl, rfl, rfl, rfl, rfl, rfl, rfl, trivial⟩, Option.some.inj hF8110, H.sel [1, 0, 2, 3, 4] rfl⟩
                  · clear hF8086 H
                    rintro T8112 s8082 w8111 ⟨hr, (H : Cx w0 fp0 S0 w8111 [Bx b7 [(rows_h).v], E (List (List Int)) s8050_0 rows_h, Bx b4 [(.int .i64 p_)], Bx b10 [(also_h).v], E (List (List Int)) s8050_1 also_h])⟩
                    subst hr
                    cases s8082
                    · have hF8113 := condF hF8085; clear hF8085
                      refine arK hk hmx8052 ?_
                      have hs := Option.some.inj hF8113; subst hs; clear hF8113
                      exact ⟨(), ⟨rfl, rfl, rfl, rfl, rfl, rfl, rfl, trivial⟩, H.sel [0, 1, 2, 3, 4] rfl⟩
                    · have hF8114 := condT hF8085; clear hF8085
                      refine load1 (H.bx0 0 rfl) ?_
                      obtain ⟨a8121, e, hF8122⟩ := bindS hF8114; clear hF8114
                      replace H := H.sel [1, 0, 2, 3, 4] rfl
                      replace H := H.toEH (α := List Int)
                      have HH := H; clear H; obtain ⟨p8119, m8120, h8123, c8115, c8116, c8117, c8118, H⟩ := HH.peekL e; clear HH
                      clear e
                      refine idxE c8115 c8116 c8117 ?_
                      refine load1 c8118 ?_; clear c8118
                      obtain ⟨a8130, e, hF8131⟩ := bindS hF8122; clear hF8122
                      obtain ⟨p8128, m8129, c8124, c8125, c8126, c8127⟩ := (H.rh (α := List Int) 0 rfl 0 rfl).at1 e; clear e
                      refine idxE c8124 c8125 c8126 ?_; clear c8124 c8125 c8126
                      refine load1 c8127 ?_; clear c8127
                      refine build_ (cs := #[(.int .i64 2), (.int .i64 ((k7893 : Nat) : Int)), (.int .i64 s6786_3), (.int .i64 a8130)]) gok rfl rfl rfl ?_
                      replace H := H.ofEH
                      obtain ⟨y8132, e, hF8133⟩ := bindS hF8131; clear hF8131
                      obtain ⟨y8132_0, y8132_1⟩ := y8132
                      have ey8132 := e; clear e
                      replace H := H.sel [2, 1, 0, 3, 4] rfl
                      refine callF (impl_reduction_1_c 2 ((k7893 : Nat) : Int) s6786_3 a8130 b4 p_ b7 s8050_0 rows_h b10 s8050_1 also_h y8132_0 y8132_1 ey8132) (Γi := [Bx b4 [(.int .i64 p_)], Bx b7 [(rows_h).v], E (List (List Int)) s8050_0 rows_h, Bx b10 [(also_h).v], E (List (List Int)) s8050_1 also_h]) H trivial ?_; clear H ey8132
                      rintro _ _ w8134 ⟨rfl, rfl⟩ (H : Cx w0 fp0 S0 w8134 [Bx b4 [(.int .i64 p_)], Bx b7 [(rows_h).v], E (List (List Int)) y8132_0 rows_h, Bx b10 [(also_h).v], E (List (List Int)) y8132_1 also_h])
                      refine arK hk hmx8052 ?_
                      have hs := Option.some.inj hF8133; subst hs; clear hF8133
                      exact ⟨(), ⟨rfl, rfl, rfl, rfl, rfl, rfl, rfl, trivial⟩, H.sel [1, 2, 0, 3, 4] rfl⟩
                · clear H e
                  obtain ⟨s8137_0, s8137_1⟩ := r8053
                  rintro T8136 _ w8135 (H : Cx w0 fp0 S0 w8135 [Bx b7 [(rows_h).v], E (List (List Int)) s8137_0 rows_h, Bx b4 [(.int .i64 p_)], Bx b10 [(also_h).v], E (List (List Int)) s8137_1 also_h])
                  refine boolE (z := false) geLen ?_
                  refine sq ?_
                  obtain ⟨a8139, e, hF8140⟩ := bindS hF8054; clear hF8054
                  refine arO e ?_; clear e
                  exact ⟨(s8137_0, s8137_1, a8139), ⟨rfl, rfl, rfl, rfl, rfl, trivial⟩, Option.some.inj hF8140, H.sel [0, 1, 2, 3, 4] rfl⟩
              · have hF8141 := condT hF7868; clear hF7868
                exact ⟨(s6786_0, s6786_1, s6786_3), ⟨rfl, rfl, rfl, rfl, rfl, trivial⟩, Option.some.inj hF8141, H.sel [0, 1, 2, 3, 4] rfl⟩
          · clear hF7481 H
            rintro T8143 ⟨s7477_0, s7477_1, s7477_2⟩ w8142 ⟨hr, (H : Cx w0 fp0 S0 w8142 [Bx b7 [(rows_h).v], E (List (List Int)) s7477_0 rows_h, Bx b4 [(.int .i64 p_)], Bx b10 [(also_h).v], E (List (List Int)) s7477_1 also_h])⟩
            subst hr
            obtain ⟨a8144, e, hF8145⟩ := bindS hF7480; clear hF7480
            refine arO e ?_; clear e
            have hs := Option.some.inj hF8145; subst hs; clear hF8145
            exact ⟨(s7477_0, s7477_1, a8144, s7477_2), (), rfl, ⟨rfl, rfl, rfl, rfl, rfl, trivial⟩, H.sel [0, 1, 2, 3, 4] rfl⟩
  · clear hF4080 H
    rintro T8147 ⟨s4076_0, s4076_1, s4076_2⟩ w8146 ⟨hr, (H : Cx w0 fp0 S0 w8146 [E (List (List Int)) s4076_0 rows_h, E (List (List Int)) s4076_1 also_h])⟩
    subst hr
    cases hF4079
    exact ⟨_, _, rfl, ⟨rfl, rfl⟩, (H.sel [0, 1] rfl).close ⟨cloE, cloE, trivial⟩⟩

theorem impl_reduced_c (p_ : Int) (rows_ : List (List Int)) (rows_h : Hd) (n_ : Int) (y : List (List Int)) (hF : F_impl_reduced p_ rows_ n_ = some y) :
    ConF Tryd.prog 100 #[(.int .i64 p_), (rows_h).v, (.int .i64 n_)] [Es (List (List Int)) rows_ rows_h] [] (fun v Γ' => ∃ z0 : Hd, v = (z0).v ∧ Γ' = [E (List (List Int)) y z0]) := by
  intro w0 S0 fp0 hI hS
  have H : Cx w0 fp0 S0 w0 [Es (List (List Int)) rows_ rows_h] := Cx.start hI hS
  clear hI hS
  refine enterC (args := [_, _, _]) gok Tryd.func100 rfl _ rfl rfl rfl ?_
  obtain ⟨y2, e, hF3⟩ := bindS hF; clear hF
  have ey2 := e; clear e
  refine callF (impl_clones_c rows_ rows_h y2 ey2) (Γi := []) H ⟨Vw.sh 0 rfl, trivial⟩ ?_; clear H ey2
  rintro _ _ w4 ⟨h5, rfl, rfl⟩ (H : Cx w0 fp0 S0 w4 [E (List (List Int)) y2 h5, Es (List (List Int)) rows_ rows_h])
  refine lenE (H.ro (α := List (List Int)) 0 rfl).len ?_
  obtain ⟨a7, e, hF8⟩ := bindS hF3; clear hF3
  refine make_ (α := List Int) gok rfl rfl rfl rfl (makeCO_of e) H ?_; clear e H; intro h10 w9 hx H
  clear hx
  obtain ⟨y12, e, hF13⟩ := bindS hF8; clear hF8
  obtain ⟨y12_0, y12_1, y12_2⟩ := y12
  have ey12 := e; clear e
  replace H := H.sel [1, 0, 2] rfl
  refine callF (impl_reduction_c p_ y2 h5 n_ a7 h10 y12_0 y12_1 y12_2 ey12) (Γi := [E (List (List Int)) y2 h5, E (List (List Int)) a7 h10]) H trivial ?_; clear H ey12
  rintro _ _ w14 ⟨rfl, rfl⟩ (H : Cx w0 fp0 S0 w14 [E (List (List Int)) y12_0 h5, E (List (List Int)) y12_1 h10, Es (List (List Int)) rows_ rows_h])
  obtain ⟨a15, e, hF16⟩ := bindS hF13; clear hF13
  refine slO3 (α := List Int) gok rfl rfl H e ?_; clear e H; intro h17 H
  cases hF16
  exact ⟨_, _, rfl, ⟨h17, rfl, rfl⟩, (H.sel [0] rfl).close ⟨cloE, trivial⟩⟩

theorem impl_relation_c (p_ : Int) (left_ : Int) (right_ : Int) (rows_ : List (List Int)) (rows_h : Hd) (y_0 : Int) (y_1 : Int) (y_2 : List (List Int)) (hF : F_impl_relation p_ left_ right_ rows_ = some (y_0, y_1, y_2)) :
    ConF Tryd.prog 92 #[(.int .i64 p_), (.int .i64 left_), (.int .i64 right_), (rows_h).v] [Es (List (List Int)) rows_ rows_h] [] (fun v Γ' => ∃ z0 : Hd, v = (.agg #[(.int .i64 y_0), (.int .i64 y_1), (z0).v]) ∧ Γ' = [E (List (List Int)) y_2 z0]) := by
  intro w0 S0 fp0 hI hS
  have H : Cx w0 fp0 S0 w0 [Es (List (List Int)) rows_ rows_h] := Cx.start hI hS
  clear hI hS
  refine enterC (args := [_, _, _, _]) gok Tryd.func92 rfl _ rfl rfl rfl ?_
  refine alloc_ gok rfl H ?_; clear H; intro b3 w2 hx H
  clear hx
  replace H : Cx w0 fp0 S0 w2 [Bx b3 [(.int .i64 0), (.int .i64 0), (.slice none 0 0)], Es (List (List Int)) rows_ rows_h] := H
  obtain ⟨a5, e, hF6⟩ := bindS hF; clear hF
  refine arO e ?_; clear e
  obtain ⟨y7, e, hF8⟩ := bindS hF6; clear hF6
  have ey7 := e; clear e
  refine callF (impl_reduced_c p_ rows_ rows_h a5 y7 ey7) (Γi := []) H ⟨Vw.sh 1 rfl, trivial⟩ ?_; clear H ey7
  rintro _ _ w9 ⟨h10, rfl, rfl⟩ (H : Cx w0 fp0 S0 w9 [E (List (List Int)) y7 h10, Bx b3 [(.int .i64 0), (.int .i64 0), (.slice none 0 0)], Es (List (List Int)) rows_ rows_h])
  refine build_ (cs := #[(.int .i64 left_), (.int .i64 right_), (h10).v]) gok rfl rfl rfl ?_
  replace H := H.sel [1, 0, 2] rfl
  refine stA gok [(.int .i64 left_), (.int .i64 right_), (h10).v] rfl H rfl rfl rfl ?_; clear H; intro w12 H
  replace H : Cx w0 fp0 S0 w12 [Bx b3 [(.int .i64 left_), (.int .i64 right_), (h10).v], E (List (List Int)) y7 h10, Es (List (List Int)) rows_ rows_h] := H
  refine loadN [(.int .i64 left_), (.int .i64 right_), (h10).v] rfl (fun j u hj => H.bx 0 rfl hj) ?_
  cases hF8
  exact ⟨_, _, rfl, ⟨h10, rfl, rfl⟩, (H.sel [1] rfl).close ⟨cloE, trivial⟩⟩

theorem impl_RelationOfFunction_c (p_ : Int) (left_ : Int) (right_ : Int) (ports_ : List Int) (ports_h : Hd) (m__0 : Int) (m__1 : List (List Int)) (m__1h : Hd) (y0_0 : Int) (y0_1 : Int) (y0_2 : List (List Int)) (y1 : Bool) (hF : F_impl_RelationOfFunction p_ left_ right_ ports_ (m__0, m__1) = some ((y0_0, y0_1, y0_2), y1)) :
    ConF Tryd.prog 33 #[(.int .i64 p_), (.int .i64 left_), (.int .i64 right_), (ports_h).v, (.agg #[(.int .i64 m__0), (m__1h).v])] [Es (List Int) ports_ ports_h, Es (List (List Int)) m__1 m__1h, Gl 0 [.int .i64 2, .int .i64 3, .int .i64 5, .int .i64 7]] [] (fun v Γ' => ∃ z0 : Hd, v = (.tuple #[(.agg #[(.int .i64 y0_0), (.int .i64 y0_1), (z0).v]), (.bool y1)]) ∧ Γ' = [E (List (List Int)) y0_2 z0]) := by
  intro w0 S0 fp0 hI hS
  have H : Cx w0 fp0 S0 w0 [Es (List Int) ports_ ports_h, Es (List (List Int)) m__1 m__1h, Gl 0 [.int .i64 2, .int .i64 3, .int .i64 5, .int .i64 7]] := Cx.start hI hS
  clear hI hS
  refine enterC (args := [_, _, _, _, _]) gok Tryd.func33 rfl _ rfl rfl rfl ?_
  refine box_ H ?_; clear H; intro b5 w4 hx H
  clear hx
  replace H : Cx w0 fp0 S0 w4 [Bx b5 [(.int .i64 m__0), (m__1h).v], Es (List Int) ports_ ports_h, Es (List (List Int)) m__1 m__1h, Gl 0 [.int .i64 2, .int .i64 3, .int .i64 5, .int .i64 7]] := H
  refine alloc_ gok rfl H ?_; clear H; intro b8 w7 hx H
  clear hx
  replace H : Cx w0 fp0 S0 w7 [Bx b8 [(.int .i64 0), (.int .i64 0), (.slice none 0 0)], Bx b5 [(.int .i64 m__0), (m__1h).v], Es (List Int) ports_ ports_h, Es (List (List Int)) m__1 m__1h, Gl 0 [.int .i64 2, .int .i64 3, .int .i64 5, .int .i64 7]] := H
  obtain ⟨a10, e, hF11⟩ := bindS hF; clear hF
  refine arW e ?_; clear e
  refine sq ?_
  obtain ⟨r43, hF45, hF44⟩ := bindS hF11; clear hF11
  refine cut (fun (q46 : Bool) => [(0, (.int .i64 p_)), (1, (.int .i64 left_)), (2, (.int .i64 right_)), (3, (ports_h).v), (9, (.pointer (some ⟨b5, 0, none⟩))), (10, (.pointer (some ⟨b8, 0, none⟩))), (12, (.int .i64 a10)), (52, (.bool q46))]) (fun (q46 : Bool) w' => q46 = r43 ∧ Cx w0 fp0 S0 w' [Es (List Int) ports_ ports_h, Bx b5 [(.int .i64 m__0), (m__1h).v], Es (List (List Int)) m__1 m__1h, Bx b8 [(.int .i64 0), (.int .i64 0), (.slice none 0 0)], Gl 0 [.int .i64 2, .int .i64 3, .int .i64 5, .int .i64 7]]) ?_ ?_
  · skip
    refine loadN [(.int .i64 m__0), (m__1h).v] rfl (fun j u hj => H.bx 1 rfl hj) ?_
    obtain ⟨y47, e, hF48⟩ := bindS hF45; clear hF45
    have ey47 := e; clear e
    refine callF (impl_isMatrix_c p_ m__0 m__1 m__1h y47 ey47) (Γi := []) H ⟨Vw.sh 3 rfl, Vw.gl 4 rfl, trivial⟩ ?_; clear H ey47
    rintro _ _ w49 ⟨rfl, rfl⟩ (H : Cx w0 fp0 S0 w49 [Bx b8 [(.int .i64 0), (.int .i64 0), (.slice none 0 0)], Bx b5 [(.int .i64 m__0), (m__1h).v], Es (List Int) ports_ ports_h, Es (List (List Int)) m__1 m__1h, Gl 0 [.int .i64 2, .int .i64 3, .int .i64 5, .int .i64 7]])
    obtain ⟨a50, e, hF51⟩ := bindS hF48; clear hF48
    refine boolO e ?_; clear e
    cases a50
    · have hF52 := condF hF51; clear hF51
      obtain ⟨y53, e, hF54⟩ := bindS hF52; clear hF52
      have ey53 := e; clear e
      refine callF (impl_fits_c left_ right_ y53 ey53) (Γi := []) H trivial ?_; clear H ey53
      rintro _ _ w55 ⟨rfl, rfl⟩ (H : Cx w0 fp0 S0 w55 [Bx b8 [(.int .i64 0), (.int .i64 0), (.slice none 0 0)], Bx b5 [(.int .i64 m__0), (m__1h).v], Es (List Int) ports_ ports_h, Es (List (List Int)) m__1 m__1h, Gl 0 [.int .i64 2, .int .i64 3, .int .i64 5, .int .i64 7]])
      obtain ⟨a56, e, hF57⟩ := bindS hF54; clear hF54
      refine boolO e ?_; clear e
      cases a56
      · have hF58 := condF hF57; clear hF57
        obtain ⟨y59, e, hF60⟩ := bindS hF58; clear hF58
        have ey59 := e; clear e
        refine callF (impl_isPortList_c ports_ ports_h a10 y59 ey59) (Γi := []) H ⟨Vw.sh 2 rfl, trivial⟩ ?_; clear H ey59
        rintro _ _ w61 ⟨rfl, rfl⟩ (H : Cx w0 fp0 S0 w61 [Bx b8 [(.int .i64 0), (.int .i64 0), (.slice none 0 0)], Bx b5 [(.int .i64 m__0), (m__1h).v], Es (List Int) ports_ ports_h, Es (List (List Int)) m__1 m__1h, Gl 0 [.int .i64 2, .int .i64 3, .int .i64 5, .int .i64 7]])
        obtain ⟨a62, e, hF63⟩ := bindS hF60; clear hF60
        refine boolO e ?_; clear e
        cases a62
        · have hF64 := condF hF63; clear hF63
          refine fld gok rfl rfl rfl rfl ?_
          refine load1 (H.bx 1 rfl (j := 1) rfl) ?_
          refine lenE (H.rs (α := List (List Int)) 3 rfl).len ?_
          refine lenE (H.rs (α := List Int) 2 rfl).len ?_
          obtain ⟨a65, e, hF66⟩ := bindS hF64; clear hF64
          refine boolO e ?_; clear e
          cases a65
          · have hF67 := condF hF66; clear hF66
            refine fld gok rfl rfl rfl rfl ?_
            refine load1 (H.bx 1 rfl (j := 0) rfl) ?_
            refine lenE (H.rs (α := List Int) 2 rfl).len ?_
            obtain ⟨a68, e, hF69⟩ := bindS hF67; clear hF67
            refine arO e ?_; clear e
            obtain ⟨a70, e, hF71⟩ := bindS hF69; clear hF69
            refine boolO e ?_; clear e
            exact ⟨a70, ⟨rfl, rfl, rfl, rfl, rfl, rfl, rfl, rfl, trivial⟩, Option.some.inj hF71, H.sel [2, 1, 3, 0, 4] rfl⟩
          · have hF72 := condT hF66; clear hF66
            exact ⟨true, ⟨rfl, rfl, rfl, rfl, rfl, rfl, rfl, rfl, trivial⟩, Option.some.inj hF72, H.sel [2, 1, 3, 0, 4] rfl⟩
        · have hF73 := condT hF63; clear hF63
          exact ⟨true, ⟨rfl, rfl, rfl, rfl, rfl, rfl, rfl, rfl, trivial⟩, Option.some.inj hF73, H.sel [2, 1, 3, 0, 4] rfl⟩
      · have hF74 := condT hF57; clear hF57
        exact ⟨true, ⟨rfl, rfl, rfl, rfl, rfl, rfl, rfl, rfl, trivial⟩, Option.some.inj hF74, H.sel [2, 1, 3, 0, 4] rfl⟩
    · have hF75 := condT hF51; clear hF51
      exact ⟨true, ⟨rfl, rfl, rfl, rfl, rfl, rfl, rfl, rfl, trivial⟩, Option.some.inj hF75, H.sel [2, 1, 3, 0, 4] rfl⟩
  · clear hF45 H
    rintro T77 s41 w76 ⟨hr, (H : Cx w0 fp0 S0 w76 [Es (List Int) ports_ ports_h, Bx b5 [(.int .i64 m__0), (m__1h).v], Es (List (List Int)) m__1 m__1h, Bx b8 [(.int .i64 0), (.int .i64 0), (.slice none 0 0)], Gl 0 [.int .i64 2, .int .i64 3, .int .i64 5, .int .i64 7]])⟩
    subst hr
    cases s41
    · have hF78 := condF hF44; clear hF44
      obtain ⟨y79, e, hF80⟩ := bindS hF78; clear hF78
      have ey79 := e; clear e
      refine callF (impl_upTo_c a10 y79 ey79) (Γi := []) H trivial ?_; clear H ey79
      rintro _ _ w81 ⟨h82, rfl, rfl⟩ (H : Cx w0 fp0 S0 w81 [E (List Int) y79 h82, Es (List Int) ports_ ports_h, Bx b5 [(.int .i64 m__0), (m__1h).v], Es (List (List Int)) m__1 m__1h, Bx b8 [(.int .i64 0), (.int .i64 0), (.slice none 0 0)], Gl 0 [.int .i64 2, .int .i64 3, .int .i64 5, .int .i64 7]])
      obtain ⟨y84, e, hF85⟩ := bindS hF80; clear hF80
      have ey84 := e; clear e
      refine callF (impl_others_c y79 h82 ports_ ports_h y84 ey84) (Γi := []) H ⟨Vw.own 0 rfl, Vw.sh 1 rfl, trivial⟩ ?_; clear H ey84
      rintro _ _ w86 ⟨h87, rfl, rfl⟩ (H : Cx w0 fp0 S0 w86 [E (List Int) y84 h87, E (List Int) y79 h82, Es (List Int) ports_ ports_h, Bx b5 [(.int .i64 m__0), (m__1h).v], Es (List (List Int)) m__1 m__1h, Bx b8 [(.int .i64 0), (.int .i64 0), (.slice none 0 0)], Gl 0 [.int .i64 2, .int .i64 3, .int .i64 5, .int .i64 7]])
      replace H := H.frz
      replace H := H.dup 0 rfl persS
      replace H := H.dup 3 rfl persS
      refine litN (α := Sh (List Int)) (us := [(ports_h).v, (h87).v]) (xs := [ports_, y84]) (gs := [ports_h, h87]) gok rfl rfl rfl ⟨rfl, rfl, trivial⟩ rfl rfl H ?_; clear H; intro h90 w89 hx H
      clear hx
      obtain ⟨y94, e, hF95⟩ := bindS hF85; clear hF85
      have ey94 := e; clear e
      refine callF (impl_joined_c [ports_, y84] h90 y94 ey94) (Γi := []) H ⟨Vw.part (β := List (List Int)) (Vw.own (α := List (Sh (List Int))) 0 rfl) [ports_, y84] h90 (fun S h => h), trivial⟩ ?_; clear H ey94
      rintro _ _ w96 ⟨h97, rfl, rfl⟩ (H : Cx w0 fp0 S0 w96 [E (List Int) y94 h97, E (List (Sh (List Int))) [ports_, y84] h90, Es (List Int) y84 h87, E (List Int) y79 h82, Es (List Int) ports_ ports_h, Bx b5 [(.int .i64 m__0), (m__1h).v], Es (List (List Int)) m__1 m__1h, Bx b8 [(.int .i64 0), (.int .i64 0), (.slice none 0 0)], Gl 0 [.int .i64 2, .int .i64 3, .int .i64 5, .int .i64 7]])
      refine lit0 (α := List Int) gok rfl rfl H ?_; clear H; intro h100 w99 hx H
      clear hx
      refine sq ?_
      refine fld gok rfl rfl rfl rfl ?_
      refine load1 (H.bx 6 rfl (j := 1) rfl) ?_
      refine lenE (H.rs (α := List (List Int)) 7 rfl).len ?_
      have hmx177 := (H.rs (α := List (List Int)) 7 rfl).max
      obtain ⟨r178, e, hF179⟩ := bindS hF95; clear hF95
      refine loopS _ m__1.length (fun (k102 : Nat) (s174 : List (List Int)) (g175 : Hd) => [(0, (.int .i64 p_)), (1, (.int .i64 left_)), (2, (.int .i64 right_)), (3, (ports_h).v), (10, (.pointer (some ⟨b8, 0, none⟩))), (12, (.int .i64 a10)), (13, (h97).v), (14, (g175).v), (63, (m__1h).v), (64, (.int .i64 ((m__1.length : Nat) : Int))), (65, (.int .i64 ((k102 : Nat) : Int)))]) (fun _ (s174 : List (List Int)) (g175 : Hd) w' => Cx w0 fp0 S0 w' [Es (List Int) ports_ ports_h, Bx b8 [(.int .i64 0), (.int .i64 0), (.slice none 0 0)], E (List Int) y94 h97, E (List (List Int)) s174 g175, Es (List (List Int)) m__1 m__1h, Gl 0 [.int .i64 2, .int .i64 3, .int .i64 5, .int .i64 7]]) ([] : List (List Int)) h100 e ⟨rfl, rfl, rfl, rfl, rfl, rfl, rfl, rfl, rfl, rfl, rfl, trivial⟩ (H.sel [5, 8, 1, 0, 7, 9] rfl) ?_ ?_
      · clear H e
        rintro T181 k102 s174 g175 w180 o182 hk (H : Cx w0 fp0 S0 w180 [Es (List Int) ports_ ports_h, Bx b8 [(.int .i64 0), (.int .i64 0), (.slice none 0 0)], E (List Int) y94 h97, E (List (List Int)) s174 g175, Es (List (List Int)) m__1 m__1h, Gl 0 [.int .i64 2, .int .i64 3, .int .i64 5, .int .i64 7]]) hF183
        refine boolE (z := true) (ltLen hk) ?_
        refine sq ?_
        refine sq ?_
        obtain ⟨a190, e, hF191⟩ := bindS hF183; clear hF183
        have HH := H; clear H; obtain ⟨p188, m189, h192, c184, c185, c186, c187, H⟩ := HH.elL 4 rfl e; clear HH
        clear e
        refine idxE c184 c185 c186 ?_; clear c184 c185 c186
        refine load1 c187 ?_; clear c187
        refine lenE (H.rs (α := List Int) 1 rfl).len ?_
        obtain ⟨y194, e, hF195⟩ := bindS hF191; clear hF191
        have ey194 := e; clear e
        refine callF (impl_unit_c ((ports_.length : Nat) : Int) ((k102 : Nat) : Int) y194 ey194) (Γi := []) H trivial ?_; clear H ey194
        rintro _ _ w196 ⟨h197, rfl, rfl⟩ (H : Cx w0 fp0 S0 w196 [E (List Int) y194 h197, Es (List Int) a190 h192, Es (List Int) ports_ ports_h, Bx b8 [(.int .i64 0), (.int .i64 0), (.slice none 0 0)], E (List Int) y94 h97, E (List (List Int)) s174 g175, Es (List (List Int)) m__1 m__1h, Gl 0 [.int .i64 2, .int .i64 3, .int .i64 5, .int .i64 7]])
        replace H := H.frz
        replace H := H.dup 1 rfl persS
        replace H := H.dup 1 rfl persS
        refine litN (α := Sh (List Int)) (us := [(h197).v, (h192).v]) (xs := [y194, a190]) (gs := [h197, h192]) gok rfl rfl rfl ⟨rfl, rfl, trivial⟩ rfl rfl H ?_; clear H; intro h200 w199 hx H
        clear hx
        obtain ⟨y204, e, hF205⟩ := bindS hF195; clear hF195
        have ey204 := e; clear e
        refine callF (impl_joined_c [y194, a190] h200 y204 ey204) (Γi := []) H ⟨Vw.part (β := List (List Int)) (Vw.own (α := List (Sh (List Int))) 0 rfl) [y194, a190] h200 (fun S h => h), trivial⟩ ?_; clear H ey204
        rintro _ _ w206 ⟨h207, rfl, rfl⟩ (H : Cx w0 fp0 S0 w206 [E (List Int) y204 h207, E (List (Sh (List Int))) [y194, a190] h200, Es (List Int) y194 h197, Es (List Int) a190 h192, Es (List Int) ports_ ports_h, Bx b8 [(.int .i64 0), (.int .i64 0), (.slice none 0 0)], E (List Int) y94 h97, E (List (List Int)) s174 g175, Es (List (List Int)) m__1 m__1h, Gl 0 [.int .i64 2, .int .i64 3, .int .i64 5, .int .i64 7]])
        refine lit1 (α := List Int) (g := h207) gok rfl rfl rfl rfl rfl H ?_; clear H; intro h210 w209 hx H
        clear hx
        obtain ⟨a212, e, hF213⟩ := bindS hF205; clear hF205
        replace H := H.sel [7, 0, 1, 2, 3, 4, 5, 6, 8, 9] rfl
        refine append_ (α := List Int) gok rfl rfl rfl rfl H e ?_; clear e H; intro h215 w214 H
        refine arK hk hmx177 ?_
        have hs := Option.some.inj hF213; subst hs; clear hF213
        exact ⟨h215, ⟨rfl, rfl, rfl, rfl, rfl, rfl, rfl, rfl, rfl, rfl, rfl, trivial⟩, H.sel [4, 5, 6, 0, 7, 8] rfl⟩
      · clear H e
        rintro T218 g220 w217 (H : Cx w0 fp0 S0 w217 [Es (List Int) ports_ ports_h, Bx b8 [(.int .i64 0), (.int .i64 0), (.slice none 0 0)], E (List Int) y94 h97, E (List (List Int)) r178 g220, Es (List (List Int)) m__1 m__1h, Gl 0 [.int .i64 2, .int .i64 3, .int .i64 5, .int .i64 7]])
        refine boolE (z := false) geLen ?_
        refine sq ?_
        obtain ⟨y222, e, hF223⟩ := bindS hF179; clear hF179
        have ey222 := e; clear e
        refine callF (impl_placed_c r178 g220 a10 y94 h97 y222 ey222) (Γi := []) H ⟨Vw.own 3 rfl, Vw.own 2 rfl, trivial⟩ ?_; clear H ey222
        rintro _ _ w224 ⟨h225, rfl, rfl⟩ (H : Cx w0 fp0 S0 w224 [E (List (List Int)) y222 h225, Es (List Int) ports_ ports_h, Bx b8 [(.int .i64 0), (.int .i64 0), (.slice none 0 0)], E (List Int) y94 h97, E (List (List Int)) r178 g220, Es (List (List Int)) m__1 m__1h, Gl 0 [.int .i64 2, .int .i64 3, .int .i64 5, .int .i64 7]])
        obtain ⟨y227, e, hF228⟩ := bindS hF223; clear hF223
        obtain ⟨y227_0, y227_1, y227_2⟩ := y227
        have ey227 := e; clear e
        refine callF (impl_relation_c p_ left_ right_ y222 h225 y227_0 y227_1 y227_2 ey227) (Γi := []) H ⟨Vw.own 0 rfl, trivial⟩ ?_; clear H ey227
        rintro _ _ w229 ⟨h230, rfl, rfl⟩ (H : Cx w0 fp0 S0 w229 [E (List (List Int)) y227_2 h230, E (List (List Int)) y222 h225, Es (List Int) ports_ ports_h, Bx b8 [(.int .i64 0), (.int .i64 0), (.slice none 0 0)], E (List Int) y94 h97, E (List (List Int)) r178 g220, Es (List (List Int)) m__1 m__1h, Gl 0 [.int .i64 2, .int .i64 3, .int .i64 5, .int .i64 7]])
        replace H := H.sel [3, 0, 1, 2, 4, 5, 6, 7] rfl
        refine stA gok [(.int .i64 y227_0), (.int .i64 y227_1), (h230).v] rfl H rfl rfl rfl ?_; clear H; intro w232 H
        replace H : Cx w0 fp0 S0 w232 [Bx b8 [(.int .i64 y227_0), (.int .i64 y227_1), (h230).v], E (List (List Int)) y227_2 h230, E (List (List Int)) y222 h225, Es (List Int) ports_ ports_h, E (List Int) y94 h97, E (List (List Int)) r178 g220, Es (List (List Int)) m__1 m__1h, Gl 0 [.int .i64 2, .int .i64 3, .int .i64 5, .int .i64 7]] := H
        refine loadN [(.int .i64 y227_0), (.int .i64 y227_1), (h230).v] rfl (fun j u hj => H.bx 0 rfl hj) ?_
        cases hF228
        exact ⟨_, _, rfl, ⟨h230, rfl, rfl⟩, (H.sel [1] rfl).close ⟨cloE, trivial⟩⟩
    · have hF233 := condT hF44; clear hF44
      refine build_ (cs := #[(.int .i64 0), (.int .i64 0), (.slice none 0 0)]) gok rfl rfl rfl ?_
      replace H := H.sel [3, 0, 1, 2, 4] rfl
      refine stA gok [(.int .i64 0), (.int .i64 0), (.slice none 0 0)] rfl H rfl rfl rfl ?_; clear H; intro w234 H
      replace H : Cx w0 fp0 S0 w234 [Bx b8 [(.int .i64 0), (.int .i64 0), (.slice none 0 0)], Es (List Int) ports_ ports_h, Bx b5 [(.int .i64 m__0), (m__1h).v], Es (List (List Int)) m__1 m__1h, Gl 0 [.int .i64 2, .int .i64 3, .int .i64 5, .int .i64 7]] := H
      refine loadN [(.int .i64 0), (.int .i64 0), (.slice none 0 0)] rfl (fun j u hj => H.bx 0 rfl hj) ?_
      replace H := H.nil (α := List Int)
      cases hF233
      exact ⟨_, _, rfl, ⟨nilH, rfl, rfl⟩, (H.sel [0] rfl).close ⟨cloE, trivial⟩⟩

theorem laws_eqIntS_c (a_ : List Int) (a_h : Hd) (b_ : List Int) (b_h : Hd) (y : Bool) (hF : F_laws_eqIntS a_ b_ = some y) :
    ConF Tryd.prog 35 #[(a_h).v, (b_h).v] [Es (List Int) a_ a_h, Es (List Int) b_ b_h] [] (fun v Γ' => v = (.bool y) ∧ Γ' = []) := by
  intro w0 S0 fp0 hI hS
  have H : Cx w0 fp0 S0 w0 [Es (List Int) a_ a_h, Es (List Int) b_ b_h] := Cx.start hI hS
  clear hI hS
  refine enterC (args := [_, _]) gok Tryd.func35 rfl _ rfl rfl rfl ?_
  refine sq ?_
  refine lenE (H.rs (α := List Int) 0 rfl).len ?_
  refine lenE (H.rs (α := List Int) 1 rfl).len ?_
  obtain ⟨a3, e, hF4⟩ := bindS hF; clear hF
  refine boolO e ?_; clear e
  cases a3
  · have hF5 := condF hF4; clear hF4
    obtain ⟨r104, hF106, hF105⟩ := bindS hF5; clear hF5
    refine cut (fun (q107 : Unit) => []) (fun (q107 : Unit) w' => .inl () = r104 ∧ Cx w0 fp0 S0 w' []) ?_ ?_
    · skip
      refine loopW _ (fun (s166 : Int) (_ : Unit) => [(0, (a_h).v), (1, (b_h).v), (5, (.int .i64 s166))]) (fun (s166 : Int) (_ : Unit) w' => Cx w0 fp0 S0 w' [Es (List Int) a_ a_h, Es (List Int) b_ b_h]) 0 () hF106 ⟨rfl, rfl, rfl, trivial⟩ (H.sel [0, 1] rfl) ?_
      · clear H
        rintro T172 s166 _ w171 o173 (H : Cx w0 fp0 S0 w171 [Es (List Int) a_ a_h, Es (List Int) b_ b_h]) hrt hF174
        refine sq ?_
        refine lenE (H.rs (α := List Int) 0 rfl).len ?_
        obtain ⟨a175, e, hF176⟩ := bindS hF174; clear hF174
        refine boolO e ?_; clear e
        cases a175
        · have hF177 := condF hF176; clear hF176
          have hs := Option.some.inj hF177; subst hs; clear hF177
          have hF178 : some _ = some _ := congrArg some (hrt _ rfl).symm
          exact ⟨(), trivial, Option.some.inj hF178, H.sel [] rfl⟩
        · have hF179 := condT hF176; clear hF176
          refine sq ?_
          refine heldX H [] (.fst 0 (.fst 1 (.fst 2 (.fst 4 (.fst 5 (.fst 6 (.fst 3 (.fst 7 (.fst 8 .done))))))))) mixed [] trivial (by kernel_rfl) ?_
          clear H; intro w180 H
          have hX : Ext w180 w180 := Upd.refl _ _
          have H0 := H
          obtain ⟨a187, e, hF188⟩ := bindS hF179; clear hF179
          obtain ⟨p185, m186, c181, c182, c183, c184⟩ := (H.rs (α := List Int) 0 rfl).at1 e; clear e
          refine idxE c181 c182 c183 ?_; clear c181 c182 c183
          obtain ⟨a195, e, hF196⟩ := bindS hF188; clear hF188
          obtain ⟨p193, m194, c189, c190, c191, c192⟩ := (H.rs (α := List Int) 1 rfl).at1 e; clear e
          refine idxE c189 c190 c191 ?_; clear c189 c190 c191
          refine load1X c184 ?_; clear c184
          refine load1X c192 ?_; clear c192
          obtain ⟨a197, e, hF198⟩ := bindS hF196; clear hF196
          refine boolO e ?_; clear e
          cases a197
          · have hF199 := condF hF198; clear hF198
            obtain ⟨a200, e, hF201⟩ := bindS hF199; clear hF199
            refine arO e ?_; clear e
            have hs := Option.some.inj hF201; subst hs; clear hF201
            exact ⟨a200, (), rfl, ⟨rfl, rfl, rfl, trivial⟩, H.sel [0, 1] rfl⟩
          · have hF202 := condT hF198; clear hF198
            have hs := Option.some.inj hF202; subst hs; clear hF202
            have hF203 : some _ = some _ := congrArg some (hrt _ rfl).symm
            have hs := Option.some.inj hF203; subst hs; clear hF203
            have hF204 : some _ = some _ := hF105; clear hF105
            cases hF204
            exact ⟨_, _, rfl, ⟨rfl, rfl⟩, (H.sel [] rfl).close trivial⟩
    · clear hF106 H
      rintro T206 _ w205 ⟨hr, (H : Cx w0 fp0 S0 w205 [])⟩
      subst hr
      cases hF105
      exact ⟨_, _, rfl, ⟨rfl, rfl⟩, (H.sel [] rfl).close trivial⟩
  · have hF207 := condT hF4; clear hF4
    cases hF207
    exact ⟨_, _, rfl, ⟨rfl, rfl⟩, (H.sel [] rfl).close trivial⟩

theorem laws_eqIntSS_c (a_ : List (List Int)) (a_h : Hd) (b_ : List (List Int)) (b_h : Hd) (y : Bool) (hF : F_laws_eqIntSS a_ b_ = some y) :
    ConF Tryd.prog 75 #[(a_h).v, (b_h).v] [Es (List (List Int)) a_ a_h, Es (List (List Int)) b_ b_h] [] (fun v Γ' => v = (.bool y) ∧ Γ' = []) := by
  intro w0 S0 fp0 hI hS
  have H : Cx w0 fp0 S0 w0 [Es (List (List Int)) a_ a_h, Es (List (List Int)) b_ b_h] := Cx.start hI hS
  clear hI hS
  refine enterC (args := [_, _]) gok Tryd.func75 rfl _ rfl rfl rfl ?_
  refine sq ?_
  refine lenE (H.rs (α := List (List Int)) 0 rfl).len ?_
  refine lenE (H.rs (α := List (List Int)) 1 rfl).len ?_
  obtain ⟨a3, e, hF4⟩ := bindS hF; clear hF
  refine boolO e ?_; clear e
  cases a3
  · have hF5 := condF hF4; clear hF4
    obtain ⟨r125, hF127, hF126⟩ := bindS hF5; clear hF5
    refine cut (fun (q128 : Unit) => []) (fun (q128 : Unit) w' => .inl () = r125 ∧ Cx w0 fp0 S0 w' []) ?_ ?_
    · skip
      refine loopW _ (fun (s201 : Int) (_ : Unit) => [(0, (a_h).v), (1, (b_h).v), (5, (.int .i64 s201))]) (fun (s201 : Int) (_ : Unit) w' => Cx w0 fp0 S0 w' [Es (List (List Int)) a_ a_h, Es (List (List Int)) b_ b_h]) 0 () hF127 ⟨rfl, rfl, rfl, trivial⟩ (H.sel [0, 1] rfl) ?_
      · clear H
        rintro T207 s201 _ w206 o208 (H : Cx w0 fp0 S0 w206 [Es (List (List Int)) a_ a_h, Es (List (List Int)) b_ b_h]) hrt hF209
        refine sq ?_
        refine lenE (H.rs (α := List (List Int)) 0 rfl).len ?_
        obtain ⟨a210, e, hF211⟩ := bindS hF209; clear hF209
        refine boolO e ?_; clear e
        cases a210
        · have hF212 := condF hF211; clear hF211
          have hs := Option.some.inj hF212; subst hs; clear hF212
          have hF213 : some _ = some _ := congrArg some (hrt _ rfl).symm
          exact ⟨(), trivial, Option.some.inj hF213, H.sel [] rfl⟩
        · have hF214 := condT hF211; clear hF211
          refine sq ?_
          refine heldX H [] (.fst 0 (.fst 1 (.fst 2 (.fst 4 (.fst 5 (.fst 6 (.fst 3 (.fst 7 (.act 8 (.fst 9 .done)))))))))) mixed [] trivial (by kernel_rfl) ?_
          clear H; intro w215 H
          have hX : Ext w215 w215 := Upd.refl _ _
          have H0 := H
          obtain ⟨a222, e, hF223⟩ := bindS hF214; clear hF214
          have HH := H; clear H; obtain ⟨p220, m221, h224, c216, c217, c218, c219, H⟩ := HH.elL 0 rfl e; clear HH
          clear e
          refine idxE c216 c217 c218 ?_; clear c216 c217 c218
          obtain ⟨a232, e, hF233⟩ := bindS hF223; clear hF223
          have HH := H; clear H; obtain ⟨p230, m231, h234, c226, c227, c228, c229, H⟩ := HH.elL 2 rfl e; clear HH
          clear e
          refine idxE c226 c227 c228 ?_; clear c226 c227 c228
          refine load1X c219 ?_; clear c219
          refine load1X c229 ?_; clear c229
          obtain ⟨y236, e, hF237⟩ := bindS hF233; clear hF233
          have ey236 := e; clear e
          refine callFx (laws_eqIntS_c a222 h224 a232 h234 y236 ey236) H ⟨Vw.sh 1 rfl, Vw.sh 0 rfl, trivial⟩ ?_; clear H ey236
          rintro _ _ w238 ⟨rfl, rfl⟩ hx (H : Cx w0 fp0 S0 w238 [Es (List Int) a232 h234, Es (List Int) a222 h224, Es (List (List Int)) a_ a_h, Es (List (List Int)) b_ b_h])
          replace hX := hX.trans0 hx; clear hx
          refine hold hX ?_
          obtain ⟨a239, e, hF240⟩ := bindS hF237; clear hF237
          refine boolO e ?_; clear e
          cases a239
          · have hF241 := condF hF240; clear hF240
            obtain ⟨a242, e, hF243⟩ := bindS hF241; clear hF241
            refine arO e ?_; clear e
            have hs := Option.some.inj hF243; subst hs; clear hF243
            exact ⟨a242, (), rfl, ⟨rfl, rfl, rfl, trivial⟩, H.sel [2, 3] rfl⟩
          · have hF244 := condT hF240; clear hF240
            have hs := Option.some.inj hF244; subst hs; clear hF244
            have hF245 : some _ = some _ := congrArg some (hrt _ rfl).symm
            have hs := Option.some.inj hF245; subst hs; clear hF245
            have hF246 : some _ = some _ := hF126; clear hF126
            cases hF246
            exact ⟨_, _, rfl, ⟨rfl, rfl⟩, (H.sel [] rfl).close trivial⟩
    · clear hF127 H
      rintro T248 _ w247 ⟨hr, (H : Cx w0 fp0 S0 w247 [])⟩
      subst hr
      cases hF126
      exact ⟨_, _, rfl, ⟨rfl, rfl⟩, (H.sel [] rfl).close trivial⟩
  · have hF249 := condT hF4; clear hF4
    cases hF249
    exact ⟨_, _, rfl, ⟨rfl, rfl⟩, (H.sel [] rfl).close trivial⟩

theorem laws_eqRelation_c (a__0 : Int) (a__1 : Int) (a__2 : List (List Int)) (a__2h : Hd) (b__0 : Int) (b__1 : Int) (b__2 : List (List Int)) (b__2h : Hd) (y : Bool) (hF : F_laws_eqRelation (a__0, a__1, a__2) (b__0, b__1, b__2) = some y) :
    ConF Tryd.prog 34 #[(.agg #[(.int .i64 a__0), (.int .i64 a__1), (a__2h).v]), (.agg #[(.int .i64 b__0), (.int .i64 b__1), (b__2h).v])] [Es (List (List Int)) a__2 a__2h, Es (List (List Int)) b__2 b__2h] [] (fun v Γ' => v = (.bool y) ∧ Γ' = []) := by
  intro w0 S0 fp0 hI hS
  have H : Cx w0 fp0 S0 w0 [Es (List (List Int)) a__2 a__2h, Es (List (List Int)) b__2 b__2h] := Cx.start hI hS
  clear hI hS
  refine enterC (args := [_, _]) gok Tryd.func34 rfl _ rfl rfl rfl ?_
  refine box_ H ?_; clear H; intro b4 w3 hx H
  clear hx
  replace H : Cx w0 fp0 S0 w3 [Bx b4 [(.int .i64 a__0), (.int .i64 a__1), (a__2h).v], Es (List (List Int)) a__2 a__2h, Es (List (List Int)) b__2 b__2h] := H
  refine box_ H ?_; clear H; intro b7 w6 hx H
  clear hx
  replace H : Cx w0 fp0 S0 w6 [Bx b7 [(.int .i64 b__0), (.int .i64 b__1), (b__2h).v], Bx b4 [(.int .i64 a__0), (.int .i64 a__1), (a__2h).v], Es (List (List Int)) a__2 a__2h, Es (List (List Int)) b__2 b__2h] := H
  refine sq ?_
  refine fld gok rfl rfl rfl rfl ?_
  refine load1 (H.bx 1 rfl (j := 0) rfl) ?_
  refine fld gok rfl rfl rfl rfl ?_
  refine load1 (H.bx 0 rfl (j := 0) rfl) ?_
  obtain ⟨a9, e, hF10⟩ := bindS hF; clear hF
  refine boolO e ?_; clear e
  cases a9
  · have hF11 := condF hF10; clear hF10
    refine sq ?_
    refine fld gok rfl rfl rfl rfl ?_
    refine load1 (H.bx 1 rfl (j := 1) rfl) ?_
    refine fld gok rfl rfl rfl rfl ?_
    refine load1 (H.bx 0 rfl (j := 1) rfl) ?_
    obtain ⟨a12, e, hF13⟩ := bindS hF11; clear hF11
    refine boolO e ?_; clear e
    cases a12
    · have hF14 := condF hF13; clear hF13
      refine sq ?_
      refine fld gok rfl rfl rfl rfl ?_
      refine load1 (H.bx 1 rfl (j := 2) rfl) ?_
      refine fld gok rfl rfl rfl rfl ?_
      refine load1 (H.bx 0 rfl (j := 2) rfl) ?_
      obtain ⟨y15, e, hF16⟩ := bindS hF14; clear hF14
      have ey15 := e; clear e
      refine callF (laws_eqIntSS_c a__2 a__2h b__2 b__2h y15 ey15) (Γi := []) H ⟨Vw.sh 2 rfl, Vw.sh 3 rfl, trivial⟩ ?_; clear H ey15
      rintro _ _ w17 ⟨rfl, rfl⟩ (H : Cx w0 fp0 S0 w17 [Bx b7 [(.int .i64 b__0), (.int .i64 b__1), (b__2h).v], Bx b4 [(.int .i64 a__0), (.int .i64 a__1), (a__2h).v], Es (List (List Int)) a__2 a__2h, Es (List (List Int)) b__2 b__2h])
      obtain ⟨a18, e, hF19⟩ := bindS hF16; clear hF16
      refine boolO e ?_; clear e
      cases a18
      · have hF20 := condF hF19; clear hF19
        cases hF20
        exact ⟨_, _, rfl, ⟨rfl, rfl⟩, (H.sel [] rfl).close trivial⟩
      · have hF21 := condT hF19; clear hF19
        cases hF21
        exact ⟨_, _, rfl, ⟨rfl, rfl⟩, (H.sel [] rfl).close trivial⟩
    · have hF22 := condT hF13; clear hF13
      cases hF22
      exact ⟨_, _, rfl, ⟨rfl, rfl⟩, (H.sel [] rfl).close trivial⟩
  · have hF23 := condT hF10; clear hF10
    cases hF23
    exact ⟨_, _, rfl, ⟨rfl, rfl⟩, (H.sel [] rfl).close trivial⟩

theorem laws_eqMatrix_c (a__0 : Int) (a__1 : List (List Int)) (a__1h : Hd) (b__0 : Int) (b__1 : List (List Int)) (b__1h : Hd) (y : Bool) (hF : F_laws_eqMatrix (a__0, a__1) (b__0, b__1) = some y) :
    ConF Tryd.prog 36 #[(.agg #[(.int .i64 a__0), (a__1h).v]), (.agg #[(.int .i64 b__0), (b__1h).v])] [Es (List (List Int)) a__1 a__1h, Es (List (List Int)) b__1 b__1h] [] (fun v Γ' => v = (.bool y) ∧ Γ' = []) := by
  intro w0 S0 fp0 hI hS
  have H : Cx w0 fp0 S0 w0 [Es (List (List Int)) a__1 a__1h, Es (List (List Int)) b__1 b__1h] := Cx.start hI hS
  clear hI hS
  refine enterC (args := [_, _]) gok Tryd.func36 rfl _ rfl rfl rfl ?_
  refine box_ H ?_; clear H; intro b4 w3 hx H
  clear hx
  replace H : Cx w0 fp0 S0 w3 [Bx b4 [(.int .i64 a__0), (a__1h).v], Es (List (List Int)) a__1 a__1h, Es (List (List Int)) b__1 b__1h] := H
  refine box_ H ?_; clear H; intro b7 w6 hx H
  clear hx
  replace H : Cx w0 fp0 S0 w6 [Bx b7 [(.int .i64 b__0), (b__1h).v], Bx b4 [(.int .i64 a__0), (a__1h).v], Es (List (List Int)) a__1 a__1h, Es (List (List Int)) b__1 b__1h] := H
  refine sq ?_
  refine fld gok rfl rfl rfl rfl ?_
  refine load1 (H.bx 1 rfl (j := 0) rfl) ?_
  refine fld gok rfl rfl rfl rfl ?_
  refine load1 (H.bx 0 rfl (j := 0) rfl) ?_
  obtain ⟨a9, e, hF10⟩ := bindS hF; clear hF
  refine boolO e ?_; clear e
  cases a9
  · have hF11 := condF hF10; clear hF10
    refine sq ?_
    refine fld gok rfl rfl rfl rfl ?_
    refine load1 (H.bx 1 rfl (j := 1) rfl) ?_
    refine fld gok rfl rfl rfl rfl ?_
    refine load1 (H.bx 0 rfl (j := 1) rfl) ?_
    obtain ⟨y12, e, hF13⟩ := bindS hF11; clear hF11
    have ey12 := e; clear e
    refine callF (laws_eqIntSS_c a__1 a__1h b__1 b__1h y12 ey12) (Γi := []) H ⟨Vw.sh 2 rfl, Vw.sh 3 rfl, trivial⟩ ?_; clear H ey12
    rintro _ _ w14 ⟨rfl, rfl⟩ (H : Cx w0 fp0 S0 w14 [Bx b7 [(.int .i64 b__0), (b__1h).v], Bx b4 [(.int .i64 a__0), (a__1h).v], Es (List (List Int)) a__1 a__1h, Es (List (List Int)) b__1 b__1h])
    obtain ⟨a15, e, hF16⟩ := bindS hF13; clear hF13
    refine boolO e ?_; clear e
    cases a15
    · have hF17 := condF hF16; clear hF16
      cases hF17
      exact ⟨_, _, rfl, ⟨rfl, rfl⟩, (H.sel [] rfl).close trivial⟩
    · have hF18 := condT hF16; clear hF16
      cases hF18
      exact ⟨_, _, rfl, ⟨rfl, rfl⟩, (H.sel [] rfl).close trivial⟩
  · have hF19 := condT hF10; clear hF10
    cases hF19
    exact ⟨_, _, rfl, ⟨rfl, rfl⟩, (H.sel [] rfl).close trivial⟩

theorem laws_markIntS_c (a_ : List Int) (a_h : Hd) (k_ : Int) (y0 : List Int) (y1 : Int) (hF : F_laws_markIntS a_ k_ = some (y0, y1)) :
    ConF Tryd.prog 37 #[(a_h).v, (.int .i64 k_)] [] [E (List Int) a_ a_h] (fun v Γ' => v = (.int .i64 y1) ∧ Γ' = [E (List Int) y0 a_h]) := by
  intro w0 S0 fp0 hI hS
  have H : Cx w0 fp0 S0 w0 [E (List Int) a_ a_h] := Cx.start hI hS
  clear hI hS
  refine enterC (args := [_, _]) gok Tryd.func37 rfl _ rfl rfl rfl ?_
  obtain ⟨r69, hF71, hF70⟩ := bindS hF; clear hF
  refine cut (fun (q72 : List Int × Int) => [(1, (.int .i64 q72.2))]) (fun (q72 : List Int × Int) w' => (q72.1, q72.2) = r69 ∧ Cx w0 fp0 S0 w' [E (List Int) q72.1 a_h]) ?_ ?_
  · skip
    refine loopW _ (fun (s111 : List Int × Int × Int) (_ : Unit) => [(0, (a_h).v), (1, (.int .i64 s111.2.1)), (5, (.int .i64 s111.2.2))]) (fun (s111 : List Int × Int × Int) (_ : Unit) w' => Cx w0 fp0 S0 w' [E (List Int) s111.1 a_h]) (a_, k_, 0) () hF71 ⟨rfl, rfl, rfl, trivial⟩ (H.sel [0] rfl) ?_
    · clear H
      rintro T117 ⟨s111_0, s111_1, s111_2⟩ _ w116 o118 (H : Cx w0 fp0 S0 w116 [E (List Int) s111_0 a_h]) hrt hF119
      refine sq ?_
      refine lenE (H.ro (α := List Int) 0 rfl).len ?_
      obtain ⟨a120, e, hF121⟩ := bindS hF119; clear hF119
      refine boolO e ?_; clear e
      cases a120
      · have hF122 := condF hF121; clear hF121
        have hs := Option.some.inj hF122; subst hs; clear hF122
        have hF123 : some _ = some _ := congrArg some (hrt _ rfl).symm
        exact ⟨(s111_0, s111_1), ⟨rfl, trivial⟩, Option.some.inj hF123, H.sel [0] rfl⟩
      · have hF124 := condT hF121; clear hF121
        refine sq ?_
        obtain ⟨a131, e, hF132⟩ := bindS hF124; clear hF124
        have ea131 := e; clear e
        obtain ⟨p129, m130, c125, c126, c127⟩ := (H.ro (α := List Int) 0 rfl).setp ea131
        refine idxE c125 c126 c127 ?_
        refine setS (α := Int) H c125 c126 ea131 ?_; clear H c125 c126 c127 ea131; intro w133 H
        obtain ⟨a134, e, hF135⟩ := bindS hF132; clear hF132
        refine arO e ?_; clear e
        obtain ⟨a136, e, hF137⟩ := bindS hF135; clear hF135
        refine arO e ?_; clear e
        have hs := Option.some.inj hF137; subst hs; clear hF137
        exact ⟨(a131, a134, a136), (), rfl, ⟨rfl, rfl, rfl, trivial⟩, H.sel [0] rfl⟩
  · clear hF71 H
    rintro T139 ⟨s67_0, s67_1⟩ w138 ⟨hr, (H : Cx w0 fp0 S0 w138 [E (List Int) s67_0 a_h])⟩
    subst hr
    cases hF70
    exact ⟨_, _, rfl, ⟨rfl, rfl⟩, (H.sel [0] rfl).close ⟨cloE, trivial⟩⟩

theorem laws_markIntSS_c (a_ : List (List Int)) (a_h : Hd) (k_ : Int) (y0 : List (List Int)) (y1 : Int) (hF : F_laws_markIntSS a_ k_ = some (y0, y1)) :
    ConF Tryd.prog 78 #[(a_h).v, (.int .i64 k_)] [] [E (List (List Int)) a_ a_h] (fun v Γ' => v = (.int .i64 y1) ∧ Γ' = [E (List (List Int)) y0 a_h]) := by
  intro w0 S0 fp0 hI hS
  have H : Cx w0 fp0 S0 w0 [E (List (List Int)) a_ a_h] := Cx.start hI hS
  clear hI hS
  refine enterC (args := [_, _]) gok Tryd.func78 rfl _ rfl rfl rfl ?_
  obtain ⟨r81, hF83, hF82⟩ := bindS hF; clear hF
  refine cut (fun (q84 : List (List Int) × Int) => [(1, (.int .i64 q84.2))]) (fun (q84 : List (List Int) × Int) w' => (q84.1, q84.2) = r81 ∧ Cx w0 fp0 S0 w' [E (List (List Int)) q84.1 a_h]) ?_ ?_
  · skip
    refine loopW _ (fun (s131 : List (List Int) × Int × Int) (_ : Unit) => [(0, (a_h).v), (1, (.int .i64 s131.2.1)), (5, (.int .i64 s131.2.2))]) (fun (s131 : List (List Int) × Int × Int) (_ : Unit) w' => Cx w0 fp0 S0 w' [E (List (List Int)) s131.1 a_h]) (a_, k_, 0) () hF83 ⟨rfl, rfl, rfl, trivial⟩ (H.sel [0] rfl) ?_
    · clear H
      rintro T137 ⟨s131_0, s131_1, s131_2⟩ _ w136 o138 (H : Cx w0 fp0 S0 w136 [E (List (List Int)) s131_0 a_h]) hrt hF139
      refine sq ?_
      refine lenE (H.ro (α := List (List Int)) 0 rfl).len ?_
      obtain ⟨a140, e, hF141⟩ := bindS hF139; clear hF139
      refine boolO e ?_; clear e
      cases a140
      · have hF142 := condF hF141; clear hF141
        have hs := Option.some.inj hF142; subst hs; clear hF142
        have hF143 : some _ = some _ := congrArg some (hrt _ rfl).symm
        exact ⟨(s131_0, s131_1), ⟨rfl, trivial⟩, Option.some.inj hF143, H.sel [0] rfl⟩
      · have hF144 := condT hF141; clear hF141
        refine sq ?_
        obtain ⟨a151, e, hF152⟩ := bindS hF144; clear hF144
        replace H := H.toEH (α := List Int)
        have HH := H; clear H; obtain ⟨p149, m150, h153, c145, c146, c147, c148, H⟩ := HH.peekL e; clear HH
        clear e
        refine idxE c145 c146 c147 ?_
        refine load1 c148 ?_; clear c148
        obtain ⟨y154, e, hF155⟩ := bindS hF152; clear hF152
        obtain ⟨y154_0, y154_1⟩ := y154
        have ey154 := e; clear e
        replace H := H.takeK 0 rfl
        refine callF (laws_markIntS_c a151 h153 s131_1 y154_0 y154_1 ey154) (Γi := [E (List Int) a151 h153]) H trivial ?_; clear H ey154
        rintro _ _ w157 ⟨rfl, rfl⟩ (H : Cx w0 fp0 S0 w157 [E (List Int) y154_0 h153, EX (List Int) m150 [(h153).v] s131_0 a_h])
        obtain ⟨a158, e, hF159⟩ := bindS hF155; clear hF155
        replace H := H.put c146 e; clear e
        obtain ⟨a160, e, hF161⟩ := bindS hF159; clear hF159
        refine arO e ?_; clear e
        have hs := Option.some.inj hF161; subst hs; clear hF161
        exact ⟨(a158, y154_1, a160), (), rfl, ⟨rfl, rfl, rfl, trivial⟩, H.sel [0] rfl⟩
  · clear hF83 H
    rintro T163 ⟨s79_0, s79_1⟩ w162 ⟨hr, (H : Cx w0 fp0 S0 w162 [E (List (List Int)) s79_0 a_h])⟩
    subst hr
    cases hF82
    exact ⟨_, _, rfl, ⟨rfl, rfl⟩, (H.sel [0] rfl).close ⟨cloE, trivial⟩⟩

theorem laws_markMatrix_c (a__0 : Int) (a__1 : List (List Int)) (a__1h : Hd) (k_ : Int) (y0_0 : Int) (y0_1 : List (List Int)) (y1 : Int) (hF : F_laws_markMatrix (a__0, a__1) k_ = some ((y0_0, y0_1), y1)) :
    ConF Tryd.prog 38 #[(.agg #[(.int .i64 a__0), (a__1h).v]), (.int .i64 k_)] [] [E (List (List Int)) a__1 a__1h] (fun v Γ' => v = (.int .i64 y1) ∧ Γ' = [E (List (List Int)) y0_1 a__1h]) := by
  intro w0 S0 fp0 hI hS
  have H : Cx w0 fp0 S0 w0 [E (List (List Int)) a__1 a__1h] := Cx.start hI hS
  clear hI hS
  refine enterC (args := [_, _]) gok Tryd.func38 rfl _ rfl rfl rfl ?_
  refine box_ H ?_; clear H; intro b3 w2 hx H
  clear hx
  replace H : Cx w0 fp0 S0 w2 [Bx b3 [(.int .i64 a__0), (a__1h).v], E (List (List Int)) a__1 a__1h] := H
  refine fld gok rfl rfl rfl rfl ?_
  refine load1 (H.bx 0 rfl (j := 1) rfl) ?_
  obtain ⟨y5, e, hF6⟩ := bindS hF; clear hF
  obtain ⟨y5_0, y5_1⟩ := y5
  have ey5 := e; clear e
  replace H := H.sel [1, 0] rfl
  refine callF (laws_markIntSS_c a__1 a__1h k_ y5_0 y5_1 ey5) (Γi := [E (List (List Int)) a__1 a__1h]) H trivial ?_; clear H ey5
  rintro _ _ w7 ⟨rfl, rfl⟩ (H : Cx w0 fp0 S0 w7 [E (List (List Int)) y5_0 a__1h, Bx b3 [(.int .i64 a__0), (a__1h).v]])
  cases hF6
  exact ⟨_, _, rfl, ⟨rfl, rfl⟩, (H.sel [0] rfl).close ⟨cloE, trivial⟩⟩

theorem laws_markRelation_c (a__0 : Int) (a__1 : Int) (a__2 : List (List Int)) (a__2h : Hd) (k_ : Int) (y0_0 : Int) (y0_1 : Int) (y0_2 : List (List Int)) (y1 : Int) (hF : F_laws_markRelation (a__0, a__1, a__2) k_ = some ((y0_0, y0_1, y0_2), y1)) :
    ConF Tryd.prog 39 #[(.agg #[(.int .i64 a__0), (.int .i64 a__1), (a__2h).v]), (.int .i64 k_)] [] [E (List (List Int)) a__2 a__2h] (fun v Γ' => v = (.int .i64 y1) ∧ Γ' = [E (List (List Int)) y0_2 a__2h]) := by
  intro w0 S0 fp0 hI hS
  have H : Cx w0 fp0 S0 w0 [E (List (List Int)) a__2 a__2h] := Cx.start hI hS
  clear hI hS
  refine enterC (args := [_, _]) gok Tryd.func39 rfl _ rfl rfl rfl ?_
  refine box_ H ?_; clear H; intro b3 w2 hx H
  clear hx
  replace H : Cx w0 fp0 S0 w2 [Bx b3 [(.int .i64 a__0), (.int .i64 a__1), (a__2h).v], E (List (List Int)) a__2 a__2h] := H
  refine fld gok rfl rfl rfl rfl ?_
  refine load1 (H.bx 0 rfl (j := 2) rfl) ?_
  obtain ⟨y5, e, hF6⟩ := bindS hF; clear hF
  obtain ⟨y5_0, y5_1⟩ := y5
  have ey5 := e; clear e
  replace H := H.sel [1, 0] rfl
  refine callF (laws_markIntSS_c a__2 a__2h k_ y5_0 y5_1 ey5) (Γi := [E (List (List Int)) a__2 a__2h]) H trivial ?_; clear H ey5
  rintro _ _ w7 ⟨rfl, rfl⟩ (H : Cx w0 fp0 S0 w7 [E (List (List Int)) y5_0 a__2h, Bx b3 [(.int .i64 a__0), (.int .i64 a__1), (a__2h).v]])
  cases hF6
  exact ⟨_, _, rfl, ⟨rfl, rfl⟩, (H.sel [0] rfl).close ⟨cloE, trivial⟩⟩

theorem laws_heldIntS_c (a_ : List Int) (a_h : Hd) (k_ : Int) (y : Int) (hF : F_laws_heldIntS a_ k_ = some y) :
    ConF Tryd.prog 45 #[(a_h).v, (.int .i64 k_)] [Es (List Int) a_ a_h] [] (fun v Γ' => v = (.int .i64 y) ∧ Γ' = []) := by
  intro w0 S0 fp0 hI hS
  have H : Cx w0 fp0 S0 w0 [Es (List Int) a_ a_h] := Cx.start hI hS
  clear hI hS
  refine enterC (args := [_, _]) gok Tryd.func45 rfl _ rfl rfl rfl ?_
  obtain ⟨r79, hF81, hF80⟩ := bindS hF; clear hF
  refine cut (fun (q82 : Int) => [(1, (.int .i64 q82))]) (fun (q82 : Int) w' => .inl q82 = r79 ∧ Cx w0 fp0 S0 w' []) ?_ ?_
  · skip
    refine loopW _ (fun (s127 : Int × Int) (_ : Unit) => [(0, (a_h).v), (1, (.int .i64 s127.1)), (5, (.int .i64 s127.2))]) (fun (s127 : Int × Int) (_ : Unit) w' => Cx w0 fp0 S0 w' [Es (List Int) a_ a_h]) (k_, 0) () hF81 ⟨rfl, rfl, rfl, trivial⟩ (H.sel [0] rfl) ?_
    · clear H
      rintro T133 ⟨s127_0, s127_1⟩ _ w132 o134 (H : Cx w0 fp0 S0 w132 [Es (List Int) a_ a_h]) hrt hF135
      refine sq ?_
      refine lenE (H.rs (α := List Int) 0 rfl).len ?_
      obtain ⟨a136, e, hF137⟩ := bindS hF135; clear hF135
      refine boolO e ?_; clear e
      cases a136
      · have hF138 := condF hF137; clear hF137
        have hs := Option.some.inj hF138; subst hs; clear hF138
        have hF139 : some _ = some _ := congrArg some (hrt _ rfl).symm
        exact ⟨s127_0, ⟨rfl, trivial⟩, Option.some.inj hF139, H.sel [] rfl⟩
      · have hF140 := condT hF137; clear hF137
        refine sq ?_
        refine sq ?_
        obtain ⟨a147, e, hF148⟩ := bindS hF140; clear hF140
        obtain ⟨p145, m146, c141, c142, c143, c144⟩ := (H.rs (α := List Int) 0 rfl).at1 e; clear e
        refine idxE c141 c142 c143 ?_; clear c141 c142 c143
        refine load1 c144 ?_; clear c144
        obtain ⟨a149, e, hF150⟩ := bindS hF148; clear hF148
        refine boolO e ?_; clear e
        cases a149
        · have hF151 := condF hF150; clear hF150
          obtain ⟨a152, e, hF153⟩ := bindS hF151; clear hF151
          refine arO e ?_; clear e
          obtain ⟨a154, e, hF155⟩ := bindS hF153; clear hF153
          refine arO e ?_; clear e
          have hs := Option.some.inj hF155; subst hs; clear hF155
          exact ⟨(a152, a154), (), rfl, ⟨rfl, rfl, rfl, trivial⟩, H.sel [0] rfl⟩
        · have hF156 := condT hF150; clear hF150
          have hs := Option.some.inj hF156; subst hs; clear hF156
          have hF157 : some _ = some _ := congrArg some (hrt _ rfl).symm
          have hs := Option.some.inj hF157; subst hs; clear hF157
          have hF158 : some _ = some _ := hF80; clear hF80
          cases hF158
          exact ⟨_, _, rfl, ⟨rfl, rfl⟩, (H.sel [] rfl).close trivial⟩
  · clear hF81 H
    rintro T160 s77 w159 ⟨hr, (H : Cx w0 fp0 S0 w159 [])⟩
    subst hr
    cases hF80
    exact ⟨_, _, rfl, ⟨rfl, rfl⟩, (H.sel [] rfl).close trivial⟩

theorem laws_heldIntSS_c (a_ : List (List Int)) (a_h : Hd) (k_ : Int) (y : Int) (hF : F_laws_heldIntSS a_ k_ = some y) :
    ConF Tryd.prog 79 #[(a_h).v, (.int .i64 k_)] [Es (List (List Int)) a_ a_h] [] (fun v Γ' => v = (.int .i64 y) ∧ Γ' = []) := by
  intro w0 S0 fp0 hI hS
  have H : Cx w0 fp0 S0 w0 [Es (List (List Int)) a_ a_h] := Cx.start hI hS
  clear hI hS
  refine enterC (args := [_, _]) gok Tryd.func79 rfl _ rfl rfl rfl ?_
  obtain ⟨r88, hF90, hF89⟩ := bindS hF; clear hF
  refine cut (fun (q91 : Int) => [(1, (.int .i64 q91))]) (fun (q91 : Int) w' => .inl q91 = r88 ∧ Cx w0 fp0 S0 w' []) ?_ ?_
  · skip
    refine loopW _ (fun (s142 : Int × Int) (_ : Unit) => [(0, (a_h).v), (1, (.int .i64 s142.1)), (5, (.int .i64 s142.2))]) (fun (s142 : Int × Int) (_ : Unit) w' => Cx w0 fp0 S0 w' [Es (List (List Int)) a_ a_h]) (k_, 0) () hF90 ⟨rfl, rfl, rfl, trivial⟩ (H.sel [0] rfl) ?_
    · clear H
      rintro T148 ⟨s142_0, s142_1⟩ _ w147 o149 (H : Cx w0 fp0 S0 w147 [Es (List (List Int)) a_ a_h]) hrt hF150
      refine sq ?_
      refine lenE (H.rs (α := List (List Int)) 0 rfl).len ?_
      obtain ⟨a151, e, hF152⟩ := bindS hF150; clear hF150
      refine boolO e ?_; clear e
      cases a151
      · have hF153 := condF hF152; clear hF152
        have hs := Option.some.inj hF153; subst hs; clear hF153
        have hF154 : some _ = some _ := congrArg some (hrt _ rfl).symm
        exact ⟨s142_0, ⟨rfl, trivial⟩, Option.some.inj hF154, H.sel [] rfl⟩
      · have hF155 := condT hF152; clear hF152
        refine sq ?_
        obtain ⟨a162, e, hF163⟩ := bindS hF155; clear hF155
        have HH := H; clear H; obtain ⟨p160, m161, h164, c156, c157, c158, c159, H⟩ := HH.elL 0 rfl e; clear HH
        clear e
        refine idxE c156 c157 c158 ?_; clear c156 c157 c158
        refine load1 c159 ?_; clear c159
        obtain ⟨y166, e, hF167⟩ := bindS hF163; clear hF163
        have ey166 := e; clear e
        refine callF (laws_heldIntS_c a162 h164 s142_0 y166 ey166) (Γi := []) H ⟨Vw.sh 0 rfl, trivial⟩ ?_; clear H ey166
        rintro _ _ w168 ⟨rfl, rfl⟩ (H : Cx w0 fp0 S0 w168 [Es (List Int) a162 h164, Es (List (List Int)) a_ a_h])
        obtain ⟨a169, e, hF170⟩ := bindS hF167; clear hF167
        refine boolO e ?_; clear e
        cases a169
        · have hF171 := condF hF170; clear hF170
          obtain ⟨a172, e, hF173⟩ := bindS hF171; clear hF171
          refine arO e ?_; clear e
          have hs := Option.some.inj hF173; subst hs; clear hF173
          exact ⟨(y166, a172), (), rfl, ⟨rfl, rfl, rfl, trivial⟩, H.sel [1] rfl⟩
        · have hF174 := condT hF170; clear hF170
          have hs := Option.some.inj hF174; subst hs; clear hF174
          have hF175 : some _ = some _ := congrArg some (hrt _ rfl).symm
          have hs := Option.some.inj hF175; subst hs; clear hF175
          have hF176 : some _ = some _ := hF89; clear hF89
          cases hF176
          exact ⟨_, _, rfl, ⟨rfl, rfl⟩, (H.sel [] rfl).close trivial⟩
  · clear hF90 H
    rintro T178 s86 w177 ⟨hr, (H : Cx w0 fp0 S0 w177 [])⟩
    subst hr
    cases hF89
    exact ⟨_, _, rfl, ⟨rfl, rfl⟩, (H.sel [] rfl).close trivial⟩

theorem laws_heldRelation_c (a__0 : Int) (a__1 : Int) (a__2 : List (List Int)) (a__2h : Hd) (k_ : Int) (y : Int) (hF : F_laws_heldRelation (a__0, a__1, a__2) k_ = some y) :
    ConF Tryd.prog 40 #[(.agg #[(.int .i64 a__0), (.int .i64 a__1), (a__2h).v]), (.int .i64 k_)] [Es (List (List Int)) a__2 a__2h] [] (fun v Γ' => v = (.int .i64 y) ∧ Γ' = []) := by
  intro w0 S0 fp0 hI hS
  have H : Cx w0 fp0 S0 w0 [Es (List (List Int)) a__2 a__2h] := Cx.start hI hS
  clear hI hS
  refine enterC (args := [_, _]) gok Tryd.func40 rfl _ rfl rfl rfl ?_
  refine box_ H ?_; clear H; intro b3 w2 hx H
  clear hx
  replace H : Cx w0 fp0 S0 w2 [Bx b3 [(.int .i64 a__0), (.int .i64 a__1), (a__2h).v], Es (List (List Int)) a__2 a__2h] := H
  refine fld gok rfl rfl rfl rfl ?_
  refine load1 (H.bx 0 rfl (j := 2) rfl) ?_
  obtain ⟨y5, e, hF6⟩ := bindS hF; clear hF
  have ey5 := e; clear e
  refine callF (laws_heldIntSS_c a__2 a__2h k_ y5 ey5) (Γi := []) H ⟨Vw.sh 1 rfl, trivial⟩ ?_; clear H ey5
  rintro _ _ w7 ⟨rfl, rfl⟩ (H : Cx w0 fp0 S0 w7 [Bx b3 [(.int .i64 a__0), (.int .i64 a__1), (a__2h).v], Es (List (List Int)) a__2 a__2h])
  refine sq ?_
  obtain ⟨a8, e, hF9⟩ := bindS hF6; clear hF6
  refine boolO e ?_; clear e
  cases a8
  · have hF10 := condF hF9; clear hF9
    cases hF10
    exact ⟨_, _, rfl, ⟨rfl, rfl⟩, (H.sel [] rfl).close trivial⟩
  · have hF11 := condT hF9; clear hF9
    cases hF11
    exact ⟨_, _, rfl, ⟨rfl, rfl⟩, (H.sel [] rfl).close trivial⟩
end Go.Proofs.YteikcdofblclhaaDoor
