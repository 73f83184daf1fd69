/-
  Contracts, printed by a program (wip/y/gen.py): each function of Go computes its partial function. Condition of each: its partial function yields a value.
-/
import Derived.Test.YtnlbhdepagkjgaaDoorZEng
import Derived.Test.YtnlbhdepagkjgaaDoorZFn
namespace Go.Proofs.YtnlbhdepagkjgaaDoor
open Go Go.Proofs.YtnlbhdepagkjgaaDoor.RW
set_option maxRecDepth 100000
set_option linter.unusedVariables false

theorem laws_szIntS_c (a_ : List Int) (a_h : Hd) (left_ : Int) (y : Int) (hF : F_laws_szIntS a_ left_ = some y) :
    ConF Tryd.prog 113 #[(a_h).v, (.int .i64 left_)] [Es (List Int) a_ a_h] [] (fun v Γ' => v = (.int .i64 y) ∧ Γ' = []) := by
  intro w0 S0 fp0 hI hS
  have H : Cx w0 fp0 S0 w0 [Es (List Int) a_ a_h] := Cx.start hI hS
  clear hI hS
  refine enterC (args := [_, _]) gok Tryd.func113 rfl _ rfl rfl rfl ?_
  refine lenE (H.rs (α := List Int) 0 rfl).len ?_
  obtain ⟨a2, e, hF3⟩ := bindS hF; clear hF
  refine arO e ?_; clear e
  refine sq ?_
  obtain ⟨a4, e, hF5⟩ := bindS hF3; clear hF3
  refine boolO e ?_; clear e
  cases a4
  · have hF6 := condF hF5; clear hF5
    cases hF6
    exact ⟨_, _, rfl, ⟨rfl, rfl⟩, (H.sel [] rfl).close trivial⟩
  · have hF7 := condT hF5; clear hF5
    cases hF7
    exact ⟨_, _, rfl, ⟨rfl, rfl⟩, (H.sel [] rfl).close trivial⟩

theorem laws_szIntSS_c (a_ : List (List Int)) (a_h : Hd) (left_ : Int) (y : Int) (hF : F_laws_szIntSS a_ left_ = some y) :
    ConF Tryd.prog 61 #[(a_h).v, (.int .i64 left_)] [Es (List (List Int)) a_ a_h] [] (fun v Γ' => v = (.int .i64 y) ∧ Γ' = []) := by
  intro w0 S0 fp0 hI hS
  have H : Cx w0 fp0 S0 w0 [Es (List (List Int)) a_ a_h] := Cx.start hI hS
  clear hI hS
  refine enterC (args := [_, _]) gok Tryd.func61 rfl _ rfl rfl rfl ?_
  refine lenE (H.rs (α := List (List Int)) 0 rfl).len ?_
  obtain ⟨a2, e, hF3⟩ := bindS hF; clear hF
  refine arO e ?_; clear e
  refine sq ?_
  obtain ⟨a4, e, hF5⟩ := bindS hF3; clear hF3
  refine boolO e ?_; clear e
  cases a4
  · have hF6 := condF hF5; clear hF5
    obtain ⟨r93, hF95, hF94⟩ := bindS hF6; clear hF6
    refine cut (fun (q96 : Int) => [(1, (.int .i64 q96))]) (fun (q96 : Int) w' => .inl q96 = r93 ∧ Cx w0 fp0 S0 w' []) ?_ ?_
    · skip
      refine loopW _ (fun (s147 : Int × Int) (_ : Unit) => [(0, (a_h).v), (1, (.int .i64 s147.1)), (5, (.int .i64 s147.2))]) (fun (s147 : Int × Int) (_ : Unit) w' => Cx w0 fp0 S0 w' [Es (List (List Int)) a_ a_h]) (a2, 0) () hF95 ⟨rfl, rfl, rfl, trivial⟩ (H.sel [0] rfl) ?_
      · clear H
        rintro T153 ⟨s147_0, s147_1⟩ _ w152 o154 (H : Cx w0 fp0 S0 w152 [Es (List (List Int)) a_ a_h]) hrt hF155
        refine sq ?_
        refine lenE (H.rs (α := List (List Int)) 0 rfl).len ?_
        obtain ⟨a156, e, hF157⟩ := bindS hF155; clear hF155
        refine boolO e ?_; clear e
        cases a156
        · have hF158 := condF hF157; clear hF157
          have hs := Option.some.inj hF158; subst hs; clear hF158
          have hF159 : some _ = some _ := congrArg some (hrt _ rfl).symm
          exact ⟨s147_0, ⟨rfl, trivial⟩, Option.some.inj hF159, H.sel [] rfl⟩
        · have hF160 := condT hF157; clear hF157
          refine sq ?_
          obtain ⟨a167, e, hF168⟩ := bindS hF160; clear hF160
          have HH := H; clear H; obtain ⟨p165, m166, h169, c161, c162, c163, c164, H⟩ := HH.elL 0 rfl e; clear HH
          clear e
          refine idxE c161 c162 c163 ?_; clear c161 c162 c163
          refine load1 c164 ?_; clear c164
          obtain ⟨y171, e, hF172⟩ := bindS hF168; clear hF168
          have ey171 := e; clear e
          refine callF (laws_szIntS_c a167 h169 s147_0 y171 ey171) (Γi := []) H ⟨Vw.sh 0 rfl, trivial⟩ ?_; clear H ey171
          rintro _ _ w173 ⟨rfl, rfl⟩ (H : Cx w0 fp0 S0 w173 [Es (List Int) a167 h169, Es (List (List Int)) a_ a_h])
          obtain ⟨a174, e, hF175⟩ := bindS hF172; clear hF172
          refine boolO e ?_; clear e
          cases a174
          · have hF176 := condF hF175; clear hF175
            obtain ⟨a177, e, hF178⟩ := bindS hF176; clear hF176
            refine arO e ?_; clear e
            have hs := Option.some.inj hF178; subst hs; clear hF178
            exact ⟨(y171, a177), (), rfl, ⟨rfl, rfl, rfl, trivial⟩, H.sel [1] rfl⟩
          · have hF179 := condT hF175; clear hF175
            have hs := Option.some.inj hF179; subst hs; clear hF179
            have hF180 : some _ = some _ := congrArg some (hrt _ rfl).symm
            have hs := Option.some.inj hF180; subst hs; clear hF180
            have hF181 : some _ = some _ := hF94; clear hF94
            cases hF181
            exact ⟨_, _, rfl, ⟨rfl, rfl⟩, (H.sel [] rfl).close trivial⟩
    · clear hF95 H
      rintro T183 s91 w182 ⟨hr, (H : Cx w0 fp0 S0 w182 [])⟩
      subst hr
      cases hF94
      exact ⟨_, _, rfl, ⟨rfl, rfl⟩, (H.sel [] rfl).close trivial⟩
  · have hF184 := condT hF5; clear hF5
    cases hF184
    exact ⟨_, _, rfl, ⟨rfl, rfl⟩, (H.sel [] rfl).close trivial⟩

theorem laws_szMatrix_c (a__0 : Int) (a__1 : List (List Int)) (a__1h : Hd) (left_ : Int) (y : Int) (hF : F_laws_szMatrix (a__0, a__1) left_ = some y) :
    ConF Tryd.prog 55 #[(.agg #[(.int .i64 a__0), (a__1h).v]), (.int .i64 left_)] [Es (List (List Int)) a__1 a__1h] [] (fun v Γ' => v = (.int .i64 y) ∧ Γ' = []) := by
  intro w0 S0 fp0 hI hS
  have H : Cx w0 fp0 S0 w0 [Es (List (List Int)) a__1 a__1h] := Cx.start hI hS
  clear hI hS
  refine enterC (args := [_, _]) gok Tryd.func55 rfl _ rfl rfl rfl ?_
  refine box_ H ?_; clear H; intro b3 w2 hx H
  clear hx
  replace H : Cx w0 fp0 S0 w2 [Bx b3 [(.int .i64 a__0), (a__1h).v], Es (List (List Int)) a__1 a__1h] := H
  refine fld gok rfl rfl rfl rfl ?_
  refine load1 (H.bx 0 rfl (j := 1) rfl) ?_
  obtain ⟨y5, e, hF6⟩ := bindS hF; clear hF
  have ey5 := e; clear e
  refine callF (laws_szIntSS_c a__1 a__1h left_ y5 ey5) (Γi := []) H ⟨Vw.sh 1 rfl, trivial⟩ ?_; clear H ey5
  rintro _ _ w7 ⟨rfl, rfl⟩ (H : Cx w0 fp0 S0 w7 [Bx b3 [(.int .i64 a__0), (a__1h).v], Es (List (List Int)) a__1 a__1h])
  refine sq ?_
  obtain ⟨a8, e, hF9⟩ := bindS hF6; clear hF6
  refine boolO e ?_; clear e
  cases a8
  · have hF10 := condF hF9; clear hF9
    cases hF10
    exact ⟨_, _, rfl, ⟨rfl, rfl⟩, (H.sel [] rfl).close trivial⟩
  · have hF11 := condT hF9; clear hF9
    cases hF11
    exact ⟨_, _, rfl, ⟨rfl, rfl⟩, (H.sel [] rfl).close trivial⟩

theorem laws_toIntS_c (a_ : List Int) (a_h : Hd) (y : List Int) (hF : F_laws_toIntS a_ = some y) :
    ConF Tryd.prog 32 #[(a_h).v] [Es (List Int) a_ a_h] [] (fun v Γ' => ∃ z0 : Hd, v = (z0).v ∧ Γ' = [E (List Int) y z0]) := by
  intro w0 S0 fp0 hI hS
  have H : Cx w0 fp0 S0 w0 [Es (List Int) a_ a_h] := Cx.start hI hS
  clear hI hS
  refine enterC (args := [_]) gok Tryd.func32 rfl _ rfl rfl rfl ?_
  refine lenE (H.rs (α := List Int) 0 rfl).len ?_
  obtain ⟨a2, e, hF3⟩ := bindS hF; clear hF
  refine make_ (α := Int) gok rfl rfl rfl rfl (makeCO_of e) H ?_; clear e H; intro h5 w4 hx H
  clear hx
  obtain ⟨r92, hF94, hF93⟩ := bindS hF3; clear hF3
  refine cut (fun (q95 : List Int) => [(3, (h5).v)]) (fun (q95 : List Int) w' => q95 = r92 ∧ Cx w0 fp0 S0 w' [E (List Int) q95 h5]) ?_ ?_
  · skip
    refine loopW _ (fun (s146 : List Int × Int) (_ : Unit) => [(0, (a_h).v), (3, (h5).v), (4, (.int .i64 s146.2))]) (fun (s146 : List Int × Int) (_ : Unit) w' => Cx w0 fp0 S0 w' [Es (List Int) a_ a_h, E (List Int) s146.1 h5]) (a2, 0) () hF94 ⟨rfl, rfl, rfl, trivial⟩ (H.sel [1, 0] rfl) ?_
    · clear H
      rintro T152 ⟨s146_0, s146_1⟩ _ w151 o153 (H : Cx w0 fp0 S0 w151 [Es (List Int) a_ a_h, E (List Int) s146_0 h5]) hrt hF154
      refine sq ?_
      refine lenE (H.rs (α := List Int) 0 rfl).len ?_
      obtain ⟨a155, e, hF156⟩ := bindS hF154; clear hF154
      refine boolO e ?_; clear e
      cases a155
      · have hF157 := condF hF156; clear hF156
        have hs := Option.some.inj hF157; subst hs; clear hF157
        have hF158 : some _ = some _ := congrArg some (hrt _ rfl).symm
        exact ⟨s146_0, ⟨rfl, trivial⟩, Option.some.inj hF158, H.sel [1] rfl⟩
      · have hF159 := condT hF156; clear hF156
        refine sq ?_
        obtain ⟨a166, e, hF167⟩ := bindS hF159; clear hF159
        obtain ⟨p164, m165, c160, c161, c162, c163⟩ := (H.rs (α := List Int) 0 rfl).at1 e; clear e
        refine idxE c160 c161 c162 ?_; clear c160 c161 c162
        refine load1 c163 ?_; clear c163
        obtain ⟨a174, e, hF175⟩ := bindS hF167; clear hF167
        have ea174 := e; clear e
        obtain ⟨p172, m173, c168, c169, c170⟩ := (H.ro (α := List Int) 1 rfl).setp ea174
        refine idxE c168 c169 c170 ?_
        replace H := H.sel [1, 0] rfl
        refine setS (α := Int) H c168 c169 ea174 ?_; clear H c168 c169 c170 ea174; intro w176 H
        obtain ⟨a177, e, hF178⟩ := bindS hF175; clear hF175
        refine arO e ?_; clear e
        have hs := Option.some.inj hF178; subst hs; clear hF178
        exact ⟨(a174, a177), (), rfl, ⟨rfl, rfl, rfl, trivial⟩, H.sel [1, 0] rfl⟩
  · clear hF94 H
    rintro T180 s90 w179 ⟨hr, (H : Cx w0 fp0 S0 w179 [E (List Int) s90 h5])⟩
    subst hr
    cases hF93
    exact ⟨_, _, rfl, ⟨h5, rfl, rfl⟩, (H.sel [0] rfl).close ⟨cloE, trivial⟩⟩

theorem laws_toIntSS_c (a_ : List (List Int)) (a_h : Hd) (y : List (List Int)) (hF : F_laws_toIntSS a_ = some y) :
    ConF Tryd.prog 64 #[(a_h).v] [Es (List (List Int)) a_ a_h] [] (fun v Γ' => ∃ z0 : Hd, v = (z0).v ∧ Γ' = [E (List (List Int)) y z0]) := by
  intro w0 S0 fp0 hI hS
  have H : Cx w0 fp0 S0 w0 [Es (List (List Int)) a_ a_h] := Cx.start hI hS
  clear hI hS
  refine enterC (args := [_]) gok Tryd.func64 rfl _ rfl rfl rfl ?_
  refine lenE (H.rs (α := List (List Int)) 0 rfl).len ?_
  obtain ⟨a2, e, hF3⟩ := bindS hF; clear hF
  refine make_ (α := List Int) gok rfl rfl rfl rfl (makeCO_of e) H ?_; clear e H; intro h5 w4 hx H
  clear hx
  obtain ⟨r113, hF115, hF114⟩ := bindS hF3; clear hF3
  refine cut (fun (q116 : List (List Int)) => [(3, (h5).v)]) (fun (q116 : List (List Int)) w' => q116 = r113 ∧ Cx w0 fp0 S0 w' [E (List (List Int)) q116 h5]) ?_ ?_
  · skip
    refine loopW _ (fun (s181 : List (List Int) × Int) (_ : Unit) => [(0, (a_h).v), (3, (h5).v), (4, (.int .i64 s181.2))]) (fun (s181 : List (List Int) × Int) (_ : Unit) w' => Cx w0 fp0 S0 w' [Es (List (List Int)) a_ a_h, E (List (List Int)) s181.1 h5]) (a2, 0) () hF115 ⟨rfl, rfl, rfl, trivial⟩ (H.sel [1, 0] rfl) ?_
    · clear H
      rintro T187 ⟨s181_0, s181_1⟩ _ w186 o188 (H : Cx w0 fp0 S0 w186 [Es (List (List Int)) a_ a_h, E (List (List Int)) s181_0 h5]) hrt hF189
      refine sq ?_
      refine lenE (H.rs (α := List (List Int)) 0 rfl).len ?_
      obtain ⟨a190, e, hF191⟩ := bindS hF189; clear hF189
      refine boolO e ?_; clear e
      cases a190
      · have hF192 := condF hF191; clear hF191
        have hs := Option.some.inj hF192; subst hs; clear hF192
        have hF193 : some _ = some _ := congrArg some (hrt _ rfl).symm
        exact ⟨s181_0, ⟨rfl, trivial⟩, Option.some.inj hF193, H.sel [1] rfl⟩
      · have hF194 := condT hF191; clear hF191
        refine sq ?_
        obtain ⟨a201, e, hF202⟩ := bindS hF194; clear hF194
        have HH := H; clear H; obtain ⟨p199, m200, h203, c195, c196, c197, c198, H⟩ := HH.elL 0 rfl e; clear HH
        clear e
        refine idxE c195 c196 c197 ?_; clear c195 c196 c197
        refine load1 c198 ?_; clear c198
        obtain ⟨y205, e, hF206⟩ := bindS hF202; clear hF202
        have ey205 := e; clear e
        refine callF (laws_toIntS_c a201 h203 y205 ey205) (Γi := []) H ⟨Vw.sh 0 rfl, trivial⟩ ?_; clear H ey205
        rintro _ _ w207 ⟨h208, rfl, rfl⟩ (H : Cx w0 fp0 S0 w207 [E (List Int) y205 h208, Es (List Int) a201 h203, Es (List (List Int)) a_ a_h, E (List (List Int)) s181_0 h5])
        obtain ⟨a216, e, hF217⟩ := bindS hF206; clear hF206
        have ea216 := e; clear e
        obtain ⟨p214, m215, c210, c211, c212⟩ := (H.ro (α := List (List Int)) 3 rfl).setp ea216
        refine idxE c210 c211 c212 ?_
        replace H := H.sel [3, 0, 1, 2] rfl
        refine setL H c210 c211 ea216 ?_; clear H c210 c211 c212 ea216; intro w218 H
        obtain ⟨a219, e, hF220⟩ := bindS hF217; clear hF217
        refine arO e ?_; clear e
        have hs := Option.some.inj hF220; subst hs; clear hF220
        exact ⟨(a216, a219), (), rfl, ⟨rfl, rfl, rfl, trivial⟩, H.sel [2, 0] rfl⟩
  · clear hF115 H
    rintro T222 s111 w221 ⟨hr, (H : Cx w0 fp0 S0 w221 [E (List (List Int)) s111 h5])⟩
    subst hr
    cases hF114
    exact ⟨_, _, rfl, ⟨h5, rfl, rfl⟩, (H.sel [0] rfl).close ⟨cloE, trivial⟩⟩

theorem laws_toMatrix_c (a__0 : Int) (a__1 : List (List Int)) (a__1h : Hd) (y_0 : Int) (y_1 : List (List Int)) (hF : F_laws_toMatrix (a__0, a__1) = some (y_0, y_1)) :
    ConF Tryd.prog 57 #[(.agg #[(.int .i64 a__0), (a__1h).v])] [Es (List (List Int)) a__1 a__1h] [] (fun v Γ' => ∃ z0 : Hd, v = (.agg #[(.int .i64 y_0), (z0).v]) ∧ Γ' = [E (List (List Int)) y_1 z0]) := by
  intro w0 S0 fp0 hI hS
  have H : Cx w0 fp0 S0 w0 [Es (List (List Int)) a__1 a__1h] := Cx.start hI hS
  clear hI hS
  refine enterC (args := [_]) gok Tryd.func57 rfl _ rfl rfl rfl ?_
  refine box_ H ?_; clear H; intro b3 w2 hx H
  clear hx
  replace H : Cx w0 fp0 S0 w2 [Bx b3 [(.int .i64 a__0), (a__1h).v], Es (List (List Int)) a__1 a__1h] := H
  refine alloc_ gok rfl H ?_; clear H; intro b6 w5 hx H
  clear hx
  replace H : Cx w0 fp0 S0 w5 [Bx b6 [(.int .i64 0), (.slice none 0 0)], Bx b3 [(.int .i64 a__0), (a__1h).v], Es (List (List Int)) a__1 a__1h] := H
  refine alloc_ gok rfl H ?_; clear H; intro b9 w8 hx H
  clear hx
  replace H : Cx w0 fp0 S0 w8 [Bx b9 [(.int .i64 0), (.slice none 0 0)], Bx b6 [(.int .i64 0), (.slice none 0 0)], Bx b3 [(.int .i64 a__0), (a__1h).v], Es (List (List Int)) a__1 a__1h] := H
  refine fld gok rfl rfl rfl rfl ?_
  refine load1 (H.bx 2 rfl (j := 0) rfl) ?_
  refine fld gok rfl rfl rfl rfl ?_
  refine stB (j := 0) H rfl rfl ?_; clear H; intro w11 H
  replace H : Cx w0 fp0 S0 w11 [Bx b9 [(.int .i64 a__0), (.slice none 0 0)], Bx b6 [(.int .i64 0), (.slice none 0 0)], Bx b3 [(.int .i64 a__0), (a__1h).v], Es (List (List Int)) a__1 a__1h] := H
  refine fld gok rfl rfl rfl rfl ?_
  refine load1 (H.bx 2 rfl (j := 1) rfl) ?_
  obtain ⟨y12, e, hF13⟩ := bindS hF; clear hF
  have ey12 := e; clear e
  refine callF (laws_toIntSS_c a__1 a__1h y12 ey12) (Γi := []) H ⟨Vw.sh 3 rfl, trivial⟩ ?_; clear H ey12
  rintro _ _ w14 ⟨h15, rfl, rfl⟩ (H : Cx w0 fp0 S0 w14 [E (List (List Int)) y12 h15, Bx b9 [(.int .i64 a__0), (.slice none 0 0)], Bx b6 [(.int .i64 0), (.slice none 0 0)], Bx b3 [(.int .i64 a__0), (a__1h).v], Es (List (List Int)) a__1 a__1h])
  refine fld gok rfl rfl rfl rfl ?_
  replace H := H.sel [1, 0, 2, 3, 4] rfl
  refine stB (j := 1) H rfl rfl ?_; clear H; intro w17 H
  replace H : Cx w0 fp0 S0 w17 [Bx b9 [(.int .i64 a__0), (h15).v], E (List (List Int)) y12 h15, Bx b6 [(.int .i64 0), (.slice none 0 0)], Bx b3 [(.int .i64 a__0), (a__1h).v], Es (List (List Int)) a__1 a__1h] := H
  refine loadN [(.int .i64 a__0), (h15).v] rfl (fun j u hj => H.bx 0 rfl hj) ?_
  replace H := H.sel [2, 0, 1, 3, 4] rfl
  refine stA gok [(.int .i64 a__0), (h15).v] rfl H rfl rfl rfl ?_; clear H; intro w18 H
  replace H : Cx w0 fp0 S0 w18 [Bx b6 [(.int .i64 a__0), (h15).v], Bx b9 [(.int .i64 a__0), (h15).v], E (List (List Int)) y12 h15, Bx b3 [(.int .i64 a__0), (a__1h).v], Es (List (List Int)) a__1 a__1h] := H
  refine loadN [(.int .i64 a__0), (h15).v] rfl (fun j u hj => H.bx 0 rfl hj) ?_
  cases hF13
  exact ⟨_, _, rfl, ⟨h15, rfl, rfl⟩, (H.sel [2] rfl).close ⟨cloE, trivial⟩⟩

theorem spec_l1In_c (n_ : Int) (lo_ : Int) (hi_ : Int) (y : Bool) (hF : F_spec_l1In n_ lo_ hi_ = some y) :
    ConF Tryd.prog 75 #[(.int .i64 n_), (.int .i64 lo_), (.int .i64 hi_)] [] [] (fun v Γ' => v = (.bool y) ∧ Γ' = []) := by
  intro w0 S0 fp0 hI hS
  have H : Cx w0 fp0 S0 w0 [] := Cx.start hI hS
  clear hI hS
  refine enterC (args := [_, _, _]) gok Tryd.func75 rfl _ rfl rfl rfl ?_
  obtain ⟨r9, hF11, hF10⟩ := bindS hF; clear hF
  refine cut (fun (q12 : Bool) => [(6, (.bool q12))]) (fun (q12 : Bool) w' => q12 = r9 ∧ Cx w0 fp0 S0 w' []) ?_ ?_
  · skip
    obtain ⟨a13, e, hF14⟩ := bindS hF11; clear hF11
    refine boolO e ?_; clear e
    cases a13
    · have hF15 := condF hF14; clear hF14
      exact ⟨false, ⟨rfl, trivial⟩, Option.some.inj hF15, H.sel [] rfl⟩
    · have hF16 := condT hF14; clear hF14
      obtain ⟨a17, e, hF18⟩ := bindS hF16; clear hF16
      refine boolO e ?_; clear e
      exact ⟨a17, ⟨rfl, trivial⟩, Option.some.inj hF18, H.sel [] rfl⟩
  · clear hF11 H
    rintro T20 s7 w19 ⟨hr, (H : Cx w0 fp0 S0 w19 [])⟩
    subst hr
    cases hF10
    exact ⟨_, _, rfl, ⟨rfl, rfl⟩, (H.sel [] rfl).close trivial⟩

theorem spec_fdGood_c (p_ : Int) (y : Bool) (hF : F_spec_fdGood p_ = some y) :
    ConF Tryd.prog 117 #[(.int .i64 p_)] [] [] (fun v Γ' => v = (.bool y) ∧ Γ' = []) := by
  intro w0 S0 fp0 hI hS
  have H : Cx w0 fp0 S0 w0 [] := Cx.start hI hS
  clear hI hS
  refine enterC (args := [_]) gok Tryd.func117 rfl _ rfl rfl rfl ?_
  refine sq ?_
  obtain ⟨y1, e, hF2⟩ := bindS hF; clear hF
  have ey1 := e; clear e
  refine callF (spec_l1In_c p_ 2 97 y1 ey1) (Γi := []) H trivial ?_; clear H ey1
  rintro _ _ w3 ⟨rfl, rfl⟩ (H : Cx w0 fp0 S0 w3 [])
  obtain ⟨a4, e, hF5⟩ := bindS hF2; clear hF2
  refine boolO e ?_; clear e
  cases a4
  · have hF6 := condF hF5; clear hF5
    obtain ⟨r66, hF68, hF67⟩ := bindS hF6; clear hF6
    refine cut (fun (q69 : Unit) => []) (fun (q69 : Unit) w' => .inl () = r66 ∧ Cx w0 fp0 S0 w' []) ?_ ?_
    · skip
      refine loopW _ (fun (s102 : Int) (_ : Unit) => [(0, (.int .i64 p_)), (3, (.int .i64 s102))]) (fun (s102 : Int) (_ : Unit) w' => Cx w0 fp0 S0 w' []) 2 () hF68 ⟨rfl, rfl, trivial⟩ (H.sel [] rfl) ?_
      · clear H
        rintro T108 s102 _ w107 o109 (H : Cx w0 fp0 S0 w107 []) hrt hF110
        refine sq ?_
        obtain ⟨a111, e, hF112⟩ := bindS hF110; clear hF110
        refine arO e ?_; clear e
        obtain ⟨a113, e, hF114⟩ := bindS hF112; clear hF112
        refine boolO e ?_; clear e
        cases a113
        · have hF115 := condF hF114; clear hF114
          have hs := Option.some.inj hF115; subst hs; clear hF115
          have hF116 : some _ = some _ := congrArg some (hrt _ rfl).symm
          exact ⟨(), trivial, Option.some.inj hF116, H.sel [] rfl⟩
        · have hF117 := condT hF114; clear hF114
          refine sq ?_
          obtain ⟨a118, e, hF119⟩ := bindS hF117; clear hF117
          refine remO_ e ?_; clear e
          obtain ⟨a120, e, hF121⟩ := bindS hF119; clear hF119
          refine boolO e ?_; clear e
          cases a120
          · have hF122 := condF hF121; clear hF121
            obtain ⟨a123, e, hF124⟩ := bindS hF122; clear hF122
            refine arO e ?_; clear e
            have hs := Option.some.inj hF124; subst hs; clear hF124
            exact ⟨a123, (), rfl, ⟨rfl, rfl, trivial⟩, H.sel [] rfl⟩
          · have hF125 := condT hF121; clear hF121
            have hs := Option.some.inj hF125; subst hs; clear hF125
            have hF126 : some _ = some _ := congrArg some (hrt _ rfl).symm
            have hs := Option.some.inj hF126; subst hs; clear hF126
            have hF127 : some _ = some _ := hF67; clear hF67
            cases hF127
            exact ⟨_, _, rfl, ⟨rfl, rfl⟩, (H.sel [] rfl).close trivial⟩
    · clear hF68 H
      rintro T129 _ w128 ⟨hr, (H : Cx w0 fp0 S0 w128 [])⟩
      subst hr
      cases hF67
      exact ⟨_, _, rfl, ⟨rfl, rfl⟩, (H.sel [] rfl).close trivial⟩
  · have hF130 := condT hF5; clear hF5
    cases hF130
    exact ⟨_, _, rfl, ⟨rfl, rfl⟩, (H.sel [] rfl).close trivial⟩

theorem spec_l1All_c (l_ : List Int) (l_h : Hd) (lo_ : Int) (hi_ : Int) (y : Bool) (hF : F_spec_l1All l_ lo_ hi_ = some y) :
    ConF Tryd.prog 137 #[(l_h).v, (.int .i64 lo_), (.int .i64 hi_)] [Es (List Int) l_ l_h] [] (fun v Γ' => v = (.bool y) ∧ Γ' = []) := by
  intro w0 S0 fp0 hI hS
  have H : Cx w0 fp0 S0 w0 [Es (List Int) l_ l_h] := Cx.start hI hS
  clear hI hS
  refine enterC (args := [_, _, _]) gok Tryd.func137 rfl _ rfl rfl rfl ?_
  refine sq ?_
  refine lenE (H.rs (α := List Int) 0 rfl).len ?_
  have hmx22 := (H.rs (α := List Int) 0 rfl).max
  obtain ⟨r23, e, hF24⟩ := bindS hF; clear hF
  refine loopO _ l_.length (fun (k2 : Nat) (_ : Unit) (_ : Unit) => [(1, (.int .i64 lo_)), (2, (.int .i64 hi_)), (9, (l_h).v), (10, (.int .i64 ((l_.length : Nat) : Int))), (11, (.int .i64 ((k2 : Nat) : Int)))]) (fun _ (_ : Unit) (_ : Unit) w' => Cx w0 fp0 S0 w' [Es (List Int) l_ l_h]) () () e ⟨rfl, rfl, rfl, rfl, rfl, trivial⟩ (H.sel [0] rfl) ?_ ?_
  · clear H e
    rintro T26 k2 _ _ w25 o27 hk (H : Cx w0 fp0 S0 w25 [Es (List Int) l_ l_h]) hrt hF28
    refine boolE (z := true) (ltLen hk) ?_
    refine sq ?_
    refine sq ?_
    obtain ⟨a35, e, hF36⟩ := bindS hF28; clear hF28
    obtain ⟨p33, m34, c29, c30, c31, c32⟩ := (H.rs (α := List Int) 0 rfl).at1 e; clear e
    refine idxE c29 c30 c31 ?_; clear c29 c30 c31
    refine load1 c32 ?_; clear c32
    obtain ⟨y37, e, hF38⟩ := bindS hF36; clear hF36
    have ey37 := e; clear e
    refine callF (spec_l1In_c a35 lo_ hi_ y37 ey37) (Γi := []) H trivial ?_; clear H ey37
    rintro _ _ w39 ⟨rfl, rfl⟩ (H : Cx w0 fp0 S0 w39 [Es (List Int) l_ l_h])
    obtain ⟨a40, e, hF41⟩ := bindS hF38; clear hF38
    refine boolO e ?_; clear e
    cases a40
    · have hF42 := condF hF41; clear hF41
      refine arK hk hmx22 ?_
      have hs := Option.some.inj hF42; subst hs; clear hF42
      exact ⟨(), (), rfl, ⟨rfl, rfl, rfl, rfl, rfl, trivial⟩, H.sel [0] rfl⟩
    · have hF43 := condT hF41; clear hF41
      have hs := Option.some.inj hF43; subst hs; clear hF43
      have hr := hrt _ rfl; subst hr
      have hF44 : some _ = some _ := hF24
      cases hF44
      exact ⟨_, _, rfl, ⟨rfl, rfl⟩, (H.sel [] rfl).close trivial⟩
  · clear H e
    rintro T46 _ _ w45 hr (H : Cx w0 fp0 S0 w45 [Es (List Int) l_ l_h])
    subst hr
    refine boolE (z := false) geLen ?_
    refine sq ?_
    cases hF24
    exact ⟨_, _, rfl, ⟨rfl, rfl⟩, (H.sel [] rfl).close trivial⟩

theorem spec_fdIn_c (p_ : Int) (l_ : List Int) (l_h : Hd) (y : Bool) (hF : F_spec_fdIn p_ l_ = some y) :
    ConF Tryd.prog 91 #[(.int .i64 p_), (l_h).v] [Es (List Int) l_ l_h] [] (fun v Γ' => v = (.bool y) ∧ Γ' = []) := by
  intro w0 S0 fp0 hI hS
  have H : Cx w0 fp0 S0 w0 [Es (List Int) l_ l_h] := Cx.start hI hS
  clear hI hS
  refine enterC (args := [_, _]) gok Tryd.func91 rfl _ rfl rfl rfl ?_
  obtain ⟨a2, e, hF3⟩ := bindS hF; clear hF
  refine arO e ?_; clear e
  obtain ⟨y4, e, hF5⟩ := bindS hF3; clear hF3
  have ey4 := e; clear e
  refine callF (spec_l1All_c l_ l_h 0 a2 y4 ey4) (Γi := []) H ⟨Vw.sh 0 rfl, trivial⟩ ?_; clear H ey4
  rintro _ _ w6 ⟨rfl, rfl⟩ (H : Cx w0 fp0 S0 w6 [Es (List Int) l_ l_h])
  cases hF5
  exact ⟨_, _, rfl, ⟨rfl, rfl⟩, (H.sel [] rfl).close trivial⟩

theorem spec_mxGood_c (p_ : Int) (m__0 : Int) (m__1 : List (List Int)) (m__1h : Hd) (y : Bool) (hF : F_spec_mxGood p_ (m__0, m__1) = some y) :
    ConF Tryd.prog 106 #[(.int .i64 p_), (.agg #[(.int .i64 m__0), (m__1h).v])] [Es (List (List Int)) m__1 m__1h] [] (fun v Γ' => v = (.bool y) ∧ Γ' = []) := by
  intro w0 S0 fp0 hI hS
  have H : Cx w0 fp0 S0 w0 [Es (List (List Int)) m__1 m__1h] := Cx.start hI hS
  clear hI hS
  refine enterC (args := [_, _]) gok Tryd.func106 rfl _ rfl rfl rfl ?_
  refine box_ H ?_; clear H; intro b3 w2 hx H
  clear hx
  replace H : Cx w0 fp0 S0 w2 [Bx b3 [(.int .i64 m__0), (m__1h).v], Es (List (List Int)) m__1 m__1h] := H
  refine sq ?_
  obtain ⟨r23, hF25, hF24⟩ := bindS hF; clear hF
  refine cut (fun (q26 : Bool) => [(0, (.int .i64 p_)), (3, (.pointer (some ⟨b3, 0, none⟩))), (21, (.bool q26))]) (fun (q26 : Bool) w' => q26 = r23 ∧ Cx w0 fp0 S0 w' [Bx b3 [(.int .i64 m__0), (m__1h).v], Es (List (List Int)) m__1 m__1h]) ?_ ?_
  · skip
    obtain ⟨y27, e, hF28⟩ := bindS hF25; clear hF25
    have ey27 := e; clear e
    refine callF (spec_fdGood_c p_ y27 ey27) (Γi := []) H trivial ?_; clear H ey27
    rintro _ _ w29 ⟨rfl, rfl⟩ (H : Cx w0 fp0 S0 w29 [Bx b3 [(.int .i64 m__0), (m__1h).v], Es (List (List Int)) m__1 m__1h])
    obtain ⟨a30, e, hF31⟩ := bindS hF28; clear hF28
    refine boolO e ?_; clear e
    cases a30
    · have hF32 := condF hF31; clear hF31
      refine fld gok rfl rfl rfl rfl ?_
      refine load1 (H.bx 0 rfl (j := 0) rfl) ?_
      obtain ⟨y33, e, hF34⟩ := bindS hF32; clear hF32
      have ey33 := e; clear e
      refine callF (spec_l1In_c m__0 0 24 y33 ey33) (Γi := []) H trivial ?_; clear H ey33
      rintro _ _ w35 ⟨rfl, rfl⟩ (H : Cx w0 fp0 S0 w35 [Bx b3 [(.int .i64 m__0), (m__1h).v], Es (List (List Int)) m__1 m__1h])
      obtain ⟨a36, e, hF37⟩ := bindS hF34; clear hF34
      refine boolO e ?_; clear e
      cases a36
      · have hF38 := condF hF37; clear hF37
        refine fld gok rfl rfl rfl rfl ?_
        refine load1 (H.bx 0 rfl (j := 1) rfl) ?_
        refine lenE (H.rs (α := List (List Int)) 1 rfl).len ?_
        obtain ⟨a39, e, hF40⟩ := bindS hF38; clear hF38
        refine boolO e ?_; clear e
        exact ⟨a39, ⟨rfl, rfl, rfl, trivial⟩, Option.some.inj hF40, H.sel [0, 1] rfl⟩
      · have hF41 := condT hF37; clear hF37
        exact ⟨true, ⟨rfl, rfl, rfl, trivial⟩, Option.some.inj hF41, H.sel [0, 1] rfl⟩
    · have hF42 := condT hF31; clear hF31
      exact ⟨true, ⟨rfl, rfl, rfl, trivial⟩, Option.some.inj hF42, H.sel [0, 1] rfl⟩
  · clear hF25 H
    rintro T44 s21 w43 ⟨hr, (H : Cx w0 fp0 S0 w43 [Bx b3 [(.int .i64 m__0), (m__1h).v], Es (List (List Int)) m__1 m__1h])⟩
    subst hr
    cases s21
    · have hF45 := condF hF24; clear hF24
      refine sq ?_
      refine fld gok rfl rfl rfl rfl ?_
      refine load1 (H.bx 0 rfl (j := 1) rfl) ?_
      refine lenE (H.rs (α := List (List Int)) 1 rfl).len ?_
      have hmx89 := (H.rs (α := List (List Int)) 1 rfl).max
      obtain ⟨r90, e, hF91⟩ := bindS hF45; clear hF45
      refine loopO _ m__1.length (fun (k46 : Nat) (_ : Unit) (_ : Unit) => [(0, (.int .i64 p_)), (3, (.pointer (some ⟨b3, 0, none⟩))), (23, (m__1h).v), (24, (.int .i64 ((m__1.length : Nat) : Int))), (25, (.int .i64 ((k46 : Nat) : Int)))]) (fun _ (_ : Unit) (_ : Unit) w' => Cx w0 fp0 S0 w' [Bx b3 [(.int .i64 m__0), (m__1h).v], Es (List (List Int)) m__1 m__1h]) () () e ⟨rfl, rfl, rfl, rfl, rfl, trivial⟩ (H.sel [0, 1] rfl) ?_ ?_
      · clear H e
        rintro T93 k46 _ _ w92 o94 hk (H : Cx w0 fp0 S0 w92 [Bx b3 [(.int .i64 m__0), (m__1h).v], Es (List (List Int)) m__1 m__1h]) hrt hF95
        refine boolE (z := true) (ltLen hk) ?_
        refine sq ?_
        refine sq ?_
        obtain ⟨a102, e, hF103⟩ := bindS hF95; clear hF95
        have HH := H; clear H; obtain ⟨p100, m101, h104, c96, c97, c98, c99, H⟩ := HH.elL 1 rfl e; clear HH
        clear e
        refine idxE c96 c97 c98 ?_; clear c96 c97 c98
        refine load1 c99 ?_; clear c99
        obtain ⟨r117, hF119, hF118⟩ := bindS hF103; clear hF103
        refine cut (fun (q120 : Bool) => [(0, (.int .i64 p_)), (3, (.pointer (some ⟨b3, 0, none⟩))), (23, (m__1h).v), (24, (.int .i64 ((m__1.length : Nat) : Int))), (25, (.int .i64 ((k46 : Nat) : Int))), (39, (.bool q120))]) (fun (q120 : Bool) w' => q120 = r117 ∧ Cx w0 fp0 S0 w' [Bx b3 [(.int .i64 m__0), (m__1h).v], Es (List (List Int)) m__1 m__1h]) ?_ ?_
        · skip
          refine lenE (H.rs (α := List Int) 0 rfl).len ?_
          refine fld gok rfl rfl rfl rfl ?_
          refine load1 (H.bx 1 rfl (j := 0) rfl) ?_
          obtain ⟨a121, e, hF122⟩ := bindS hF119; clear hF119
          refine boolO e ?_; clear e
          cases a121
          · have hF123 := condF hF122; clear hF122
            obtain ⟨y124, e, hF125⟩ := bindS hF123; clear hF123
            have ey124 := e; clear e
            refine callF (spec_fdIn_c p_ a102 h104 y124 ey124) (Γi := []) H ⟨Vw.sh 0 rfl, trivial⟩ ?_; clear H ey124
            rintro _ _ w126 ⟨rfl, rfl⟩ (H : Cx w0 fp0 S0 w126 [Es (List Int) a102 h104, Bx b3 [(.int .i64 m__0), (m__1h).v], Es (List (List Int)) m__1 m__1h])
            obtain ⟨a127, e, hF128⟩ := bindS hF125; clear hF125
            refine boolO e ?_; clear e
            exact ⟨a127, ⟨rfl, rfl, rfl, rfl, rfl, rfl, trivial⟩, Option.some.inj hF128, H.sel [1, 2] rfl⟩
          · have hF129 := condT hF122; clear hF122
            exact ⟨true, ⟨rfl, rfl, rfl, rfl, rfl, rfl, trivial⟩, Option.some.inj hF129, H.sel [1, 2] rfl⟩
        · clear hF119 H
          rintro T131 s115 w130 ⟨hr, (H : Cx w0 fp0 S0 w130 [Bx b3 [(.int .i64 m__0), (m__1h).v], Es (List (List Int)) m__1 m__1h])⟩
          subst hr
          cases s115
          · have hF132 := condF hF118; clear hF118
            refine arK hk hmx89 ?_
            have hs := Option.some.inj hF132; subst hs; clear hF132
            exact ⟨(), (), rfl, ⟨rfl, rfl, rfl, rfl, rfl, trivial⟩, H.sel [0, 1] rfl⟩
          · have hF133 := condT hF118; clear hF118
            have hs := Option.some.inj hF133; subst hs; clear hF133
            have hr := hrt _ rfl; subst hr
            have hF134 : some _ = some _ := hF91
            cases hF134
            exact ⟨_, _, rfl, ⟨rfl, rfl⟩, (H.sel [] rfl).close trivial⟩
      · clear H e
        rintro T136 _ _ w135 hr (H : Cx w0 fp0 S0 w135 [Bx b3 [(.int .i64 m__0), (m__1h).v], Es (List (List Int)) m__1 m__1h])
        subst hr
        refine boolE (z := false) geLen ?_
        refine sq ?_
        cases hF91
        exact ⟨_, _, rfl, ⟨rfl, rfl⟩, (H.sel [] rfl).close trivial⟩
    · have hF139 := condT hF24; clear hF24
      cases hF139
      exact ⟨_, _, rfl, ⟨rfl, rfl⟩, (H.sel [] rfl).close trivial⟩

theorem spec_l1Own_c (l_ : List Int) (l_h : Hd) (y : List Int) (hF : F_spec_l1Own l_ = some y) :
    ConF Tryd.prog 118 #[(l_h).v] [Es (List Int) l_ l_h] [] (fun v Γ' => ∃ z0 : Hd, v = (z0).v ∧ Γ' = [E (List Int) y z0]) := by
  intro w0 S0 fp0 hI hS
  have H : Cx w0 fp0 S0 w0 [Es (List Int) l_ l_h] := Cx.start hI hS
  clear hI hS
  refine enterC (args := [_]) gok Tryd.func118 rfl _ rfl rfl rfl ?_
  refine lit0 (α := Int) gok rfl rfl H ?_; clear H; intro h3 w2 hx H
  clear hx
  obtain ⟨a5, e, hF6⟩ := bindS hF; clear hF
  refine appendS (α := Int) gok rfl rfl rfl rfl H (Vw.sh 0 rfl) e ?_; clear e H; intro h8 w7 H
  cases hF6
  exact ⟨_, _, rfl, ⟨h8, rfl, rfl⟩, (H.sel [0] rfl).close ⟨cloE, trivial⟩⟩

theorem spec_mxCopy_c (m__0 : Int) (m__1 : List (List Int)) (m__1h : Hd) (y_0 : Int) (y_1 : List (List Int)) (hF : F_spec_mxCopy (m__0, m__1) = some (y_0, y_1)) :
    ConF Tryd.prog 154 #[(.agg #[(.int .i64 m__0), (m__1h).v])] [Es (List (List Int)) m__1 m__1h] [] (fun v Γ' => ∃ z0 : Hd, v = (.agg #[(.int .i64 y_0), (z0).v]) ∧ Γ' = [E (List (List Int)) y_1 z0]) := by
  intro w0 S0 fp0 hI hS
  have H : Cx w0 fp0 S0 w0 [Es (List (List Int)) m__1 m__1h] := Cx.start hI hS
  clear hI hS
  refine enterC (args := [_]) gok Tryd.func154 rfl _ rfl rfl rfl ?_
  refine box_ H ?_; clear H; intro b3 w2 hx H
  clear hx
  replace H : Cx w0 fp0 S0 w2 [Bx b3 [(.int .i64 m__0), (m__1h).v], Es (List (List Int)) m__1 m__1h] := H
  refine alloc_ gok rfl H ?_; clear H; intro b6 w5 hx H
  clear hx
  replace H : Cx w0 fp0 S0 w5 [Bx b6 [(.int .i64 0), (.slice none 0 0)], Bx b3 [(.int .i64 m__0), (m__1h).v], Es (List (List Int)) m__1 m__1h] := H
  refine fld gok rfl rfl rfl rfl ?_
  refine load1 (H.bx 1 rfl (j := 0) rfl) ?_
  refine build_ (cs := #[(.int .i64 m__0), (.slice none 0 0)]) gok rfl rfl rfl ?_
  refine alloc_ gok rfl H ?_; clear H; intro b9 w8 hx H
  clear hx
  replace H : Cx w0 fp0 S0 w8 [Bx b9 [(.int .i64 0), (.slice none 0 0)], Bx b6 [(.int .i64 0), (.slice none 0 0)], Bx b3 [(.int .i64 m__0), (m__1h).v], Es (List (List Int)) m__1 m__1h] := H
  refine stA gok [(.int .i64 m__0), (.slice none 0 0)] rfl H rfl rfl rfl ?_; clear H; intro w11 H
  replace H : Cx w0 fp0 S0 w11 [Bx b9 [(.int .i64 m__0), (.slice none 0 0)], Bx b6 [(.int .i64 0), (.slice none 0 0)], Bx b3 [(.int .i64 m__0), (m__1h).v], Es (List (List Int)) m__1 m__1h] := H
  refine sq ?_
  refine fld gok rfl rfl rfl rfl ?_
  refine load1 (H.bx 2 rfl (j := 1) rfl) ?_
  refine lenE (H.rs (α := List (List Int)) 3 rfl).len ?_
  have hmx72 := (H.rs (α := List (List Int)) 3 rfl).max
  obtain ⟨r73, e, hF74⟩ := bindS hF; clear hF
  replace H := H.nil (α := List Int)
  refine loopS _ m__1.length (fun (k12 : Nat) (s69 : List (List Int)) (g70 : Hd) => [(2, (.pointer (some ⟨b6, 0, none⟩))), (3, (.pointer (some ⟨b9, 0, none⟩))), (10, (m__1h).v), (11, (.int .i64 ((m__1.length : Nat) : Int))), (12, (.int .i64 ((k12 : Nat) : Int)))]) (fun _ (s69 : List (List Int)) (g70 : Hd) w' => Cx w0 fp0 S0 w' [Bx b6 [(.int .i64 0), (.slice none 0 0)], Bx b9 [(.int .i64 m__0), (g70).v], E (List (List Int)) s69 g70, Es (List (List Int)) m__1 m__1h]) [] nilH e ⟨rfl, rfl, rfl, rfl, rfl, trivial⟩ (H.sel [2, 1, 0, 4] rfl) ?_ ?_
  · clear H e
    rintro T77 k12 s69 g70 w76 o78 hk (H : Cx w0 fp0 S0 w76 [Bx b6 [(.int .i64 0), (.slice none 0 0)], Bx b9 [(.int .i64 m__0), (g70).v], E (List (List Int)) s69 g70, Es (List (List Int)) m__1 m__1h]) hF79
    refine boolE (z := true) (ltLen hk) ?_
    refine sq ?_
    refine sq ?_
    obtain ⟨a86, e, hF87⟩ := bindS hF79; clear hF79
    have HH := H; clear H; obtain ⟨p84, m85, h88, c80, c81, c82, c83, H⟩ := HH.elL 3 rfl e; clear HH
    clear e
    refine idxE c80 c81 c82 ?_; clear c80 c81 c82
    refine load1 c83 ?_; clear c83
    refine heldX H [5, 7, 6] (.fst 0 (.fst 2 (.fst 1 (.act 3 (.act 4 (.act 5 (.act 6 (.act 7 .done)))))))) mixed [] trivial (by kernel_rfl) ?_
    clear H; intro w90 H
    have hX : Ext w90 w90 := Upd.refl _ _
    have H0 := H
    refine anyH (fun _ => fld gok rfl rfl rfl rfl ⟨rfl, rfl⟩) ?_
    refine load1X (H.bx 2 rfl (j := 1) rfl) ?_
    obtain ⟨y91, e, hF92⟩ := bindS hF87; clear hF87
    have ey91 := e; clear e
    refine callFx (spec_l1Own_c a86 h88 y91 ey91) H ⟨Vw.sh 0 rfl, trivial⟩ ?_; clear H ey91
    rintro _ _ w93 ⟨h94, rfl, rfl⟩ hx (H : Cx w0 fp0 S0 w93 [E (List Int) y91 h94, Es (List Int) a86 h88, Bx b6 [(.int .i64 0), (.slice none 0 0)], Bx b9 [(.int .i64 m__0), (g70).v], E (List (List Int)) s69 g70, Es (List (List Int)) m__1 m__1h])
    replace hX := hX.trans0 hx; clear hx
    refine hold hX ?_
    refine lit1 (α := List Int) (g := h94) gok rfl rfl rfl rfl rfl H ?_; clear H; intro h97 w96 hx H
    replace hX := hX.trans0 hx; clear hx
    refine hold hX ?_
    obtain ⟨a99, e, hF100⟩ := bindS hF92; clear hF92
    replace H := H.sel [4, 0, 1, 2, 3, 5] rfl
    refine append_ (α := List Int) gok rfl rfl rfl rfl H e ?_; clear e H; intro h102 w101 H
    refine hold trivial ?_
    refine fld gok rfl rfl rfl rfl ?_
    refine hold trivial ?_
    replace H := H.sel [3, 0, 1, 2, 4] rfl
    refine stB (j := 1) H rfl rfl ?_; clear H; intro w104 H
    replace H : Cx w0 fp0 S0 w104 [Bx b9 [(.int .i64 m__0), (h102).v], E (List (List Int)) a99 h102, Es (List Int) a86 h88, Bx b6 [(.int .i64 0), (.slice none 0 0)], Es (List (List Int)) m__1 m__1h] := H
    refine hold trivial ?_
    refine arK hk hmx72 ?_
    have hs := Option.some.inj hF100; subst hs; clear hF100
    exact ⟨h102, ⟨rfl, rfl, rfl, rfl, rfl, trivial⟩, H.sel [3, 0, 1, 4] rfl⟩
  · clear H e
    rintro T106 g108 w105 (H : Cx w0 fp0 S0 w105 [Bx b6 [(.int .i64 0), (.slice none 0 0)], Bx b9 [(.int .i64 m__0), (g108).v], E (List (List Int)) r73 g108, Es (List (List Int)) m__1 m__1h])
    refine boolE (z := false) geLen ?_
    refine sq ?_
    refine loadN [(.int .i64 m__0), (g108).v] rfl (fun j u hj => H.bx 1 rfl hj) ?_
    refine stA gok [(.int .i64 m__0), (g108).v] rfl H rfl rfl rfl ?_; clear H; intro w110 H
    replace H : Cx w0 fp0 S0 w110 [Bx b6 [(.int .i64 m__0), (g108).v], Bx b9 [(.int .i64 m__0), (g108).v], E (List (List Int)) r73 g108, Es (List (List Int)) m__1 m__1h] := H
    refine loadN [(.int .i64 m__0), (g108).v] rfl (fun j u hj => H.bx 0 rfl hj) ?_
    cases hF74
    exact ⟨_, _, rfl, ⟨g108, rfl, rfl⟩, (H.sel [2] rfl).close ⟨cloE, trivial⟩⟩

theorem spec_mxZero_c (rows_ : Int) (cols_ : Int) (y_0 : Int) (y_1 : List (List Int)) (hF : F_spec_mxZero rows_ cols_ = some (y_0, y_1)) :
    ConF Tryd.prog 153 #[(.int .i64 rows_), (.int .i64 cols_)] [] [] (fun v Γ' => ∃ z0 : Hd, v = (.agg #[(.int .i64 y_0), (z0).v]) ∧ Γ' = [E (List (List Int)) y_1 z0]) := by
  intro w0 S0 fp0 hI hS
  have H : Cx w0 fp0 S0 w0 [] := Cx.start hI hS
  clear hI hS
  refine enterC (args := [_, _]) gok Tryd.func153 rfl _ rfl rfl rfl ?_
  refine alloc_ gok rfl H ?_; clear H; intro b2 w1 hx H
  clear hx
  replace H : Cx w0 fp0 S0 w1 [Bx b2 [(.int .i64 0), (.slice none 0 0)]] := H
  obtain ⟨a4, e, hF5⟩ := bindS hF; clear hF
  refine make_ (α := List Int) gok rfl rfl rfl rfl (makeCO_of e) H ?_; clear e H; intro h7 w6 hx H
  clear hx
  refine build_ (cs := #[(.int .i64 cols_), (h7).v]) gok rfl rfl rfl ?_
  refine alloc_ gok rfl H ?_; clear H; intro b10 w9 hx H
  clear hx
  replace H : Cx w0 fp0 S0 w9 [Bx b10 [(.int .i64 0), (.slice none 0 0)], E (List (List Int)) a4 h7, Bx b2 [(.int .i64 0), (.slice none 0 0)]] := H
  refine stA gok [(.int .i64 cols_), (h7).v] rfl H rfl rfl rfl ?_; clear H; intro w12 H
  replace H : Cx w0 fp0 S0 w12 [Bx b10 [(.int .i64 cols_), (h7).v], E (List (List Int)) a4 h7, Bx b2 [(.int .i64 0), (.slice none 0 0)]] := H
  refine sq ?_
  refine fld gok rfl rfl rfl rfl ?_
  refine load1 (H.bx 0 rfl (j := 1) rfl) ?_
  refine lenE (H.ro (α := List (List Int)) 1 rfl).len ?_
  have hmx50 := (H.ro (α := List (List Int)) 1 rfl).max
  obtain ⟨r51, e, hF52⟩ := bindS hF5; clear hF5
  refine loopS _ a4.length (fun (k13 : Nat) (s48 : List (List Int)) (_ : Unit) => [(1, (.int .i64 cols_)), (4, (.pointer (some ⟨b2, 0, none⟩))), (5, (.pointer (some ⟨b10, 0, none⟩))), (13, (.int .i64 ((a4.length : Nat) : Int))), (14, (.int .i64 ((k13 : Nat) : Int)))]) (fun _ (s48 : List (List Int)) (_ : Unit) w' => Cx w0 fp0 S0 w' [Bx b2 [(.int .i64 0), (.slice none 0 0)], Bx b10 [(.int .i64 cols_), (h7).v], E (List (List Int)) s48 h7]) a4 () e ⟨rfl, rfl, rfl, rfl, rfl, trivial⟩ (H.sel [2, 0, 1] rfl) ?_ ?_
  · clear H e
    rintro T54 k13 s48 _ w53 o55 hk (H : Cx w0 fp0 S0 w53 [Bx b2 [(.int .i64 0), (.slice none 0 0)], Bx b10 [(.int .i64 cols_), (h7).v], E (List (List Int)) s48 h7]) hF56
    refine boolE (z := true) (ltLen hk) ?_
    refine sq ?_
    refine sq ?_
    refine heldX H [6] (.fst 0 (.fst 2 (.fst 3 (.fst 1 (.act 4 (.fst 5 (.act 6 .done))))))) mixed [] trivial (by kernel_rfl) ?_
    clear H; intro w57 H
    have hX : Ext w57 w57 := Upd.refl _ _
    have H0 := H
    refine anyH (fun _ => fld gok rfl rfl rfl rfl ⟨rfl, rfl⟩) ?_
    refine load1X (H.bx 1 rfl (j := 1) rfl) ?_
    obtain ⟨a58, e, hF59⟩ := bindS hF56; clear hF56
    refine make_ (α := Int) gok rfl rfl rfl rfl (makeCO_of e) H ?_; clear e H; intro h61 w60 hx H
    replace hX := hX.trans0 hx; clear hx
    refine hold hX ?_
    obtain ⟨a69, e, hF70⟩ := bindS hF59; clear hF59
    have ea69 := e; clear e
    obtain ⟨p67, m68, c63, c64, c65⟩ := (H.ro (α := List (List Int)) 3 rfl).setp ea69
    refine idxE c63 c64 c65 ?_
    replace H := H.sel [3, 0, 1, 2] rfl
    refine setL H c63 c64 ea69 ?_; clear H c63 c64 c65 ea69; intro w71 H
    refine hold trivial ?_
    refine arK hk hmx50 ?_
    have hs := Option.some.inj hF70; subst hs; clear hF70
    exact ⟨(), ⟨rfl, rfl, rfl, rfl, rfl, trivial⟩, H.sel [1, 2, 0] rfl⟩
  · clear H e
    rintro T73 _ w72 (H : Cx w0 fp0 S0 w72 [Bx b2 [(.int .i64 0), (.slice none 0 0)], Bx b10 [(.int .i64 cols_), (h7).v], E (List (List Int)) r51 h7])
    refine boolE (z := false) geLen ?_
    refine sq ?_
    refine loadN [(.int .i64 cols_), (h7).v] rfl (fun j u hj => H.bx 1 rfl hj) ?_
    refine stA gok [(.int .i64 cols_), (h7).v] rfl H rfl rfl rfl ?_; clear H; intro w76 H
    replace H : Cx w0 fp0 S0 w76 [Bx b2 [(.int .i64 cols_), (h7).v], Bx b10 [(.int .i64 cols_), (h7).v], E (List (List Int)) r51 h7] := H
    refine loadN [(.int .i64 cols_), (h7).v] rfl (fun j u hj => H.bx 0 rfl hj) ?_
    cases hF52
    exact ⟨_, _, rfl, ⟨h7, rfl, rfl⟩, (H.sel [2] rfl).close ⟨cloE, trivial⟩⟩

theorem spec_mxId_c (n_ : Int) (y_0 : Int) (y_1 : List (List Int)) (hF : F_spec_mxId n_ = some (y_0, y_1)) :
    ConF Tryd.prog 155 #[(.int .i64 n_)] [] [] (fun v Γ' => ∃ z0 : Hd, v = (.agg #[(.int .i64 y_0), (z0).v]) ∧ Γ' = [E (List (List Int)) y_1 z0]) := by
  intro w0 S0 fp0 hI hS
  have H : Cx w0 fp0 S0 w0 [] := Cx.start hI hS
  clear hI hS
  refine enterC (args := [_]) gok Tryd.func155 rfl _ rfl rfl rfl ?_
  refine alloc_ gok rfl H ?_; clear H; intro b2 w1 hx H
  clear hx
  replace H : Cx w0 fp0 S0 w1 [Bx b2 [(.int .i64 0), (.slice none 0 0)]] := H
  obtain ⟨y4, e, hF5⟩ := bindS hF; clear hF
  obtain ⟨y4_0, y4_1⟩ := y4
  have ey4 := e; clear e
  refine callF (spec_mxZero_c n_ n_ y4_0 y4_1 ey4) (Γi := []) H trivial ?_; clear H ey4
  rintro _ _ w6 ⟨h7, rfl, rfl⟩ (H : Cx w0 fp0 S0 w6 [E (List (List Int)) y4_1 h7, Bx b2 [(.int .i64 0), (.slice none 0 0)]])
  refine alloc_ gok rfl H ?_; clear H; intro b10 w9 hx H
  clear hx
  replace H : Cx w0 fp0 S0 w9 [Bx b10 [(.int .i64 0), (.slice none 0 0)], E (List (List Int)) y4_1 h7, Bx b2 [(.int .i64 0), (.slice none 0 0)]] := H
  refine stA gok [(.int .i64 y4_0), (h7).v] rfl H rfl rfl rfl ?_; clear H; intro w12 H
  replace H : Cx w0 fp0 S0 w12 [Bx b10 [(.int .i64 y4_0), (h7).v], E (List (List Int)) y4_1 h7, Bx b2 [(.int .i64 0), (.slice none 0 0)]] := H
  obtain ⟨r110, hF112, hF111⟩ := bindS hF5; clear hF5
  refine cut (fun (q113 : List (List Int)) => [(2, (.pointer (some ⟨b2, 0, none⟩))), (3, (.pointer (some ⟨b10, 0, none⟩)))]) (fun (q113 : List (List Int)) w' => q113 = r110 ∧ Cx w0 fp0 S0 w' [Bx b2 [(.int .i64 0), (.slice none 0 0)], Bx b10 [(.int .i64 y4_0), (h7).v], E (List (List Int)) q113 h7]) ?_ ?_
  · skip
    refine loopW _ (fun (s172 : List (List Int) × Int) (_ : Unit) => [(0, (.int .i64 n_)), (2, (.pointer (some ⟨b2, 0, none⟩))), (3, (.pointer (some ⟨b10, 0, none⟩))), (4, (.int .i64 s172.2))]) (fun (s172 : List (List Int) × Int) (_ : Unit) w' => Cx w0 fp0 S0 w' [Bx b2 [(.int .i64 0), (.slice none 0 0)], Bx b10 [(.int .i64 y4_0), (h7).v], E (List (List Int)) s172.1 h7]) (y4_1, 0) () hF112 ⟨rfl, rfl, rfl, rfl, trivial⟩ (H.sel [2, 0, 1] rfl) ?_
    · clear H
      rintro T178 ⟨s172_0, s172_1⟩ _ w177 o179 (H : Cx w0 fp0 S0 w177 [Bx b2 [(.int .i64 0), (.slice none 0 0)], Bx b10 [(.int .i64 y4_0), (h7).v], E (List (List Int)) s172_0 h7]) hrt hF180
      refine sq ?_
      obtain ⟨a181, e, hF182⟩ := bindS hF180; clear hF180
      refine boolO e ?_; clear e
      cases a181
      · have hF183 := condF hF182; clear hF182
        have hs := Option.some.inj hF183; subst hs; clear hF183
        have hF184 : some _ = some _ := congrArg some (hrt _ rfl).symm
        exact ⟨s172_0, ⟨rfl, rfl, trivial⟩, Option.some.inj hF184, H.sel [0, 1, 2] rfl⟩
      · have hF185 := condT hF182; clear hF182
        refine sq ?_
        refine fld gok rfl rfl rfl rfl ?_
        refine load1 (H.bx 1 rfl (j := 1) rfl) ?_
        obtain ⟨a192, e, hF193⟩ := bindS hF185; clear hF185
        replace H := H.sel [2, 0, 1] rfl
        replace H := H.toEH (α := List Int)
        have HH := H; clear H; obtain ⟨p190, m191, h194, c186, c187, c188, c189, H⟩ := HH.peekL e; clear HH
        clear e
        refine idxE c186 c187 c188 ?_
        refine load1 c189 ?_; clear c189
        replace H := H.takeK 0 rfl
        obtain ⟨a202, e, hF203⟩ := bindS hF193; clear hF193
        have ea202 := e; clear e
        obtain ⟨p199, m200, c195, c196, c197⟩ := (H.ro (α := List Int) 0 rfl).setp ea202
        refine idxE c195 c196 c197 ?_
        refine setS (α := Int) H c195 c196 ea202 ?_; clear H c195 c196 c197 ea202; intro w204 H
        obtain ⟨a205, e, hF206⟩ := bindS hF203; clear hF203
        replace H := H.put c187 e; clear e
        obtain ⟨a207, e, hF208⟩ := bindS hF206; clear hF206
        refine arO e ?_; clear e
        have hs := Option.some.inj hF208; subst hs; clear hF208
        exact ⟨(a205, a207), (), rfl, ⟨rfl, rfl, rfl, rfl, trivial⟩, H.sel [1, 2, 0] rfl⟩
  · clear hF112 H
    rintro T210 s108 w209 ⟨hr, (H : Cx w0 fp0 S0 w209 [Bx b2 [(.int .i64 0), (.slice none 0 0)], Bx b10 [(.int .i64 y4_0), (h7).v], E (List (List Int)) s108 h7])⟩
    subst hr
    refine loadN [(.int .i64 y4_0), (h7).v] rfl (fun j u hj => H.bx 1 rfl hj) ?_
    refine stA gok [(.int .i64 y4_0), (h7).v] rfl H rfl rfl rfl ?_; clear H; intro w211 H
    replace H : Cx w0 fp0 S0 w211 [Bx b2 [(.int .i64 y4_0), (h7).v], Bx b10 [(.int .i64 y4_0), (h7).v], E (List (List Int)) s108 h7] := H
    refine loadN [(.int .i64 y4_0), (h7).v] rfl (fun j u hj => H.bx 0 rfl hj) ?_
    cases hF111
    exact ⟨_, _, rfl, ⟨h7, rfl, rfl⟩, (H.sel [2] rfl).close ⟨cloE, trivial⟩⟩

theorem spec_fdNeg_c (p_ : Int) (a_ : Int) (y : Int) (hF : F_spec_fdNeg p_ a_ = some y) :
    ConF Tryd.prog 139 #[(.int .i64 p_), (.int .i64 a_)] [] [] (fun v Γ' => v = (.int .i64 y) ∧ Γ' = []) := by
  intro w0 S0 fp0 hI hS
  have H : Cx w0 fp0 S0 w0 [] := Cx.start hI hS
  clear hI hS
  refine enterC (args := [_, _]) gok Tryd.func139 rfl _ rfl rfl rfl ?_
  obtain ⟨a1, e, hF2⟩ := bindS hF; clear hF
  refine arO e ?_; clear e
  obtain ⟨a3, e, hF4⟩ := bindS hF2; clear hF2
  refine remO_ e ?_; clear e
  cases hF4
  exact ⟨_, _, rfl, ⟨rfl, rfl⟩, (H.sel [] rfl).close trivial⟩

theorem spec_fdMul_c (p_ : Int) (a_ : Int) (b_ : Int) (y : Int) (hF : F_spec_fdMul p_ a_ b_ = some y) :
    ConF Tryd.prog 120 #[(.int .i64 p_), (.int .i64 a_), (.int .i64 b_)] [] [] (fun v Γ' => v = (.int .i64 y) ∧ Γ' = []) := by
  intro w0 S0 fp0 hI hS
  have H : Cx w0 fp0 S0 w0 [] := Cx.start hI hS
  clear hI hS
  refine enterC (args := [_, _, _]) gok Tryd.func120 rfl _ rfl rfl rfl ?_
  obtain ⟨a1, e, hF2⟩ := bindS hF; clear hF
  refine arO e ?_; clear e
  obtain ⟨a3, e, hF4⟩ := bindS hF2; clear hF2
  refine remO_ e ?_; clear e
  cases hF4
  exact ⟨_, _, rfl, ⟨rfl, rfl⟩, (H.sel [] rfl).close trivial⟩

theorem spec_fdInv_c (p_ : Int) (a_ : Int) (y : Int) (hF : F_spec_fdInv p_ a_ = some y) :
    ConF Tryd.prog 119 #[(.int .i64 p_), (.int .i64 a_)] [] [] (fun v Γ' => v = (.int .i64 y) ∧ Γ' = []) := by
  intro w0 S0 fp0 hI hS
  have H : Cx w0 fp0 S0 w0 [] := Cx.start hI hS
  clear hI hS
  refine enterC (args := [_, _]) gok Tryd.func119 rfl _ rfl rfl rfl ?_
  obtain ⟨r60, hF62, hF61⟩ := bindS hF; clear hF
  refine cut (fun (q63 : Unit) => []) (fun (q63 : Unit) w' => .inl () = r60 ∧ Cx w0 fp0 S0 w' []) ?_ ?_
  · skip
    refine loopW _ (fun (s96 : Int) (_ : Unit) => [(0, (.int .i64 p_)), (1, (.int .i64 a_)), (5, (.int .i64 s96))]) (fun (s96 : Int) (_ : Unit) w' => Cx w0 fp0 S0 w' []) 1 () hF62 ⟨rfl, rfl, rfl, trivial⟩ (H.sel [] rfl) ?_
    · clear H
      rintro T102 s96 _ w101 o103 (H : Cx w0 fp0 S0 w101 []) hrt hF104
      refine sq ?_
      obtain ⟨a105, e, hF106⟩ := bindS hF104; clear hF104
      refine boolO e ?_; clear e
      cases a105
      · have hF107 := condF hF106; clear hF106
        have hs := Option.some.inj hF107; subst hs; clear hF107
        have hF108 : some _ = some _ := congrArg some (hrt _ rfl).symm
        exact ⟨(), trivial, Option.some.inj hF108, H.sel [] rfl⟩
      · have hF109 := condT hF106; clear hF106
        refine sq ?_
        obtain ⟨a110, e, hF111⟩ := bindS hF109; clear hF109
        refine arO e ?_; clear e
        obtain ⟨a112, e, hF113⟩ := bindS hF111; clear hF111
        refine remO_ e ?_; clear e
        obtain ⟨a114, e, hF115⟩ := bindS hF113; clear hF113
        refine boolO e ?_; clear e
        cases a114
        · have hF116 := condF hF115; clear hF115
          obtain ⟨a117, e, hF118⟩ := bindS hF116; clear hF116
          refine arO e ?_; clear e
          have hs := Option.some.inj hF118; subst hs; clear hF118
          exact ⟨a117, (), rfl, ⟨rfl, rfl, rfl, trivial⟩, H.sel [] rfl⟩
        · have hF119 := condT hF115; clear hF115
          have hs := Option.some.inj hF119; subst hs; clear hF119
          have hF120 : some _ = some _ := congrArg some (hrt _ rfl).symm
          have hs := Option.some.inj hF120; subst hs; clear hF120
          have hF121 : some _ = some _ := hF61; clear hF61
          cases hF121
          exact ⟨_, _, rfl, ⟨rfl, rfl⟩, (H.sel [] rfl).close trivial⟩
  · clear hF62 H
    rintro T123 _ w122 ⟨hr, (H : Cx w0 fp0 S0 w122 [])⟩
    subst hr
    cases hF61
    exact ⟨_, _, rfl, ⟨rfl, rfl⟩, (H.sel [] rfl).close trivial⟩

theorem spec_mxScale_c (p_ : Int) (r_ : List Int) (r_h : Hd) (k_ : Int) (y : List Int) (hF : F_spec_mxScale p_ r_ k_ = some y) :
    ConF Tryd.prog 156 #[(.int .i64 p_), (r_h).v, (.int .i64 k_)] [] [E (List Int) r_ r_h] (fun v Γ' => v = (.tuple #[]) ∧ Γ' = [E (List Int) y r_h]) := by
  intro w0 S0 fp0 hI hS
  have H : Cx w0 fp0 S0 w0 [E (List Int) r_ r_h] := Cx.start hI hS
  clear hI hS
  refine enterC (args := [_, _, _]) gok Tryd.func156 rfl _ rfl rfl rfl ?_
  refine lenE (H.ro (α := List Int) 0 rfl).len ?_
  have hmx49 := (H.ro (α := List Int) 0 rfl).max
  obtain ⟨r50, e, hF51⟩ := bindS hF; clear hF
  refine loopS _ r_.length (fun (k2 : Nat) (s47 : List Int) (_ : Unit) => [(0, (.int .i64 p_)), (1, (r_h).v), (2, (.int .i64 k_)), (8, (.int .i64 ((r_.length : Nat) : Int))), (9, (.int .i64 ((k2 : Nat) : Int)))]) (fun _ (s47 : List Int) (_ : Unit) w' => Cx w0 fp0 S0 w' [E (List Int) s47 r_h]) r_ () e ⟨rfl, rfl, rfl, rfl, rfl, trivial⟩ (H.sel [0] rfl) ?_ ?_
  · clear H e
    rintro T53 k2 s47 _ w52 o54 hk (H : Cx w0 fp0 S0 w52 [E (List Int) s47 r_h]) hF55
    refine boolE (z := true) (ltLen hk) ?_
    refine sq ?_
    refine sq ?_
    obtain ⟨a62, e, hF63⟩ := bindS hF55; clear hF55
    obtain ⟨p60, m61, c56, c57, c58, c59⟩ := (H.ro (α := List Int) 0 rfl).at1 e; clear e
    refine idxE c56 c57 c58 ?_; clear c56 c57 c58
    refine load1 c59 ?_; clear c59
    obtain ⟨y64, e, hF65⟩ := bindS hF63; clear hF63
    have ey64 := e; clear e
    refine callF (spec_fdMul_c p_ a62 k_ y64 ey64) (Γi := []) H trivial ?_; clear H ey64
    rintro _ _ w66 ⟨rfl, rfl⟩ (H : Cx w0 fp0 S0 w66 [E (List Int) s47 r_h])
    obtain ⟨a73, e, hF74⟩ := bindS hF65; clear hF65
    have ea73 := e; clear e
    obtain ⟨p71, m72, c67, c68, c69⟩ := (H.ro (α := List Int) 0 rfl).setp ea73
    refine idxE c67 c68 c69 ?_
    refine setS (α := Int) H c67 c68 ea73 ?_; clear H c67 c68 c69 ea73; intro w75 H
    refine arK hk hmx49 ?_
    have hs := Option.some.inj hF74; subst hs; clear hF74
    exact ⟨(), ⟨rfl, rfl, rfl, rfl, rfl, trivial⟩, H.sel [0] rfl⟩
  · clear H e
    rintro T77 _ w76 (H : Cx w0 fp0 S0 w76 [E (List Int) r50 r_h])
    refine boolE (z := false) geLen ?_
    refine sq ?_
    cases hF51
    exact ⟨_, _, rfl, ⟨rfl, rfl⟩, (H.sel [0] rfl).close ⟨cloE, trivial⟩⟩

theorem spec_fdSub_c (p_ : Int) (a_ : Int) (b_ : Int) (y : Int) (hF : F_spec_fdSub p_ a_ b_ = some y) :
    ConF Tryd.prog 121 #[(.int .i64 p_), (.int .i64 a_), (.int .i64 b_)] [] [] (fun v Γ' => v = (.int .i64 y) ∧ Γ' = []) := by
  intro w0 S0 fp0 hI hS
  have H : Cx w0 fp0 S0 w0 [] := Cx.start hI hS
  clear hI hS
  refine enterC (args := [_, _, _]) gok Tryd.func121 rfl _ rfl rfl rfl ?_
  obtain ⟨a1, e, hF2⟩ := bindS hF; clear hF
  refine arO e ?_; clear e
  obtain ⟨a3, e, hF4⟩ := bindS hF2; clear hF2
  refine arO e ?_; clear e
  obtain ⟨a5, e, hF6⟩ := bindS hF4; clear hF4
  refine remO_ e ?_; clear e
  cases hF6
  exact ⟨_, _, rfl, ⟨rfl, rfl⟩, (H.sel [] rfl).close trivial⟩

theorem spec_mxLess_c (p_ : Int) (r_ : List Int) (r_h : Hd) (s_ : List Int) (s_h : Hd) (k_ : Int) (y : List Int) (hF : F_spec_mxLess p_ r_ s_ k_ = some y) :
    ConF Tryd.prog 142 #[(.int .i64 p_), (r_h).v, (s_h).v, (.int .i64 k_)] [Es (List Int) s_ s_h] [E (List Int) r_ r_h] (fun v Γ' => v = (.tuple #[]) ∧ Γ' = [E (List Int) y r_h]) := by
  intro w0 S0 fp0 hI hS
  have H : Cx w0 fp0 S0 w0 [Es (List Int) s_ s_h, E (List Int) r_ r_h] := Cx.start hI hS
  clear hI hS
  refine enterC (args := [_, _, _, _]) gok Tryd.func142 rfl _ rfl rfl rfl ?_
  refine lenE (H.ro (α := List Int) 1 rfl).len ?_
  have hmx74 := (H.ro (α := List Int) 1 rfl).max
  obtain ⟨r75, e, hF76⟩ := bindS hF; clear hF
  refine loopS _ r_.length (fun (k3 : Nat) (s72 : List Int) (_ : Unit) => [(0, (.int .i64 p_)), (1, (r_h).v), (2, (s_h).v), (3, (.int .i64 k_)), (10, (.int .i64 ((r_.length : Nat) : Int))), (11, (.int .i64 ((k3 : Nat) : Int)))]) (fun _ (s72 : List Int) (_ : Unit) w' => Cx w0 fp0 S0 w' [E (List Int) s72 r_h, Es (List Int) s_ s_h]) r_ () e ⟨rfl, rfl, rfl, rfl, rfl, rfl, trivial⟩ (H.sel [1, 0] rfl) ?_ ?_
  · clear H e
    rintro T78 k3 s72 _ w77 o79 hk (H : Cx w0 fp0 S0 w77 [E (List Int) s72 r_h, Es (List Int) s_ s_h]) hF80
    refine boolE (z := true) (ltLen hk) ?_
    refine sq ?_
    refine sq ?_
    refine heldX H [16] (.fst 0 (.fst 1 (.fst 2 (.fst 3 (.fst 4 (.fst 5 (.fst 7 (.fst 8 (.fst 9 (.fst 10 (.fst 11 (.fst 6 (.fst 12 (.act 13 (.act 14 (.fst 15 (.act 16 .done))))))))))))))))) mixed [] trivial (by kernel_rfl) ?_
    clear H; intro w81 H
    have hX : Ext w81 w81 := Upd.refl _ _
    have H0 := H
    obtain ⟨a88, e, hF89⟩ := bindS hF80; clear hF80
    obtain ⟨p86, m87, c82, c83, c84, c85⟩ := (H.ro (α := List Int) 0 rfl).at1 e; clear e
    refine idxE c82 c83 c84 ?_; clear c82 c83 c84
    obtain ⟨a96, e, hF97⟩ := bindS hF89; clear hF89
    obtain ⟨p94, m95, c90, c91, c92, c93⟩ := (H.rs (α := List Int) 1 rfl).at1 e; clear e
    refine idxE c90 c91 c92 ?_; clear c90 c91 c92
    refine load1X c85 ?_; clear c85
    refine load1X c93 ?_; clear c93
    obtain ⟨y98, e, hF99⟩ := bindS hF97; clear hF97
    have ey98 := e; clear e
    refine callFx (spec_fdMul_c p_ k_ a96 y98 ey98) H trivial ?_; clear H ey98
    rintro _ _ w100 ⟨rfl, rfl⟩ hx (H : Cx w0 fp0 S0 w100 [E (List Int) s72 r_h, Es (List Int) s_ s_h])
    replace hX := hX.trans0 hx; clear hx
    refine hold hX ?_
    obtain ⟨y101, e, hF102⟩ := bindS hF99; clear hF99
    have ey101 := e; clear e
    refine callFx (spec_fdSub_c p_ a88 y98 y101 ey101) H trivial ?_; clear H ey101
    rintro _ _ w103 ⟨rfl, rfl⟩ hx (H : Cx w0 fp0 S0 w103 [E (List Int) s72 r_h, Es (List Int) s_ s_h])
    replace hX := hX.trans0 hx; clear hx
    refine hold hX ?_
    obtain ⟨a110, e, hF111⟩ := bindS hF102; clear hF102
    have ea110 := e; clear e
    obtain ⟨p108, m109, c104, c105, c106⟩ := (H.ro (α := List Int) 0 rfl).setp ea110
    refine idxE c104 c105 c106 ?_
    refine setS (α := Int) H c104 c105 ea110 ?_; clear H c104 c105 c106 ea110; intro w112 H
    refine hold trivial ?_
    refine arK hk hmx74 ?_
    have hs := Option.some.inj hF111; subst hs; clear hF111
    exact ⟨(), ⟨rfl, rfl, rfl, rfl, rfl, rfl, trivial⟩, H.sel [0, 1] rfl⟩
  · clear H e
    rintro T114 _ w113 (H : Cx w0 fp0 S0 w113 [E (List Int) r75 r_h, Es (List Int) s_ s_h])
    refine boolE (z := false) geLen ?_
    refine sq ?_
    cases hF76
    exact ⟨_, _, rfl, ⟨rfl, rfl⟩, (H.sel [0] rfl).close ⟨cloE, trivial⟩⟩

theorem spec_mxReduce_c (p_ : Int) (m__0 : Int) (m__1 : List (List Int)) (m__1h : Hd) (y0_0 : Int) (y0_1 : List (List Int)) (y1_0 : Int) (y1_1 : List (List Int)) (y2 : Int) (y3 : Int) (hF : F_spec_mxReduce p_ (m__0, m__1) = some ((y0_0, y0_1), (y1_0, y1_1), y2, y3)) :
    ConF Tryd.prog 145 #[(.int .i64 p_), (.agg #[(.int .i64 m__0), (m__1h).v])] [Es (List (List Int)) m__1 m__1h] [] (fun v Γ' => ∃ z0 z1 : Hd, v = (.tuple #[(.agg #[(.int .i64 y0_0), (z0).v]), (.agg #[(.int .i64 y1_0), (z1).v]), (.int .i64 y2), (.int .i64 y3)]) ∧ Γ' = [E (List (List Int)) y0_1 z0, E (List (List Int)) y1_1 z1]) := by
  intro w0 S0 fp0 hI hS
  have H : Cx w0 fp0 S0 w0 [Es (List (List Int)) m__1 m__1h] := Cx.start hI hS
  clear hI hS
  refine enterC (args := [_, _]) gok Tryd.func145 rfl _ rfl rfl rfl ?_
  refine box_ H ?_; clear H; intro b3 w2 hx H
  clear hx
  replace H : Cx w0 fp0 S0 w2 [Bx b3 [(.int .i64 m__0), (m__1h).v], Es (List (List Int)) m__1 m__1h] := H
  refine alloc_ gok rfl H ?_; clear H; intro b6 w5 hx H
  clear hx
  replace H : Cx w0 fp0 S0 w5 [Bx b6 [(.int .i64 0), (.slice none 0 0)], Bx b3 [(.int .i64 m__0), (m__1h).v], Es (List (List Int)) m__1 m__1h] := H
  refine alloc_ gok rfl H ?_; clear H; intro b9 w8 hx H
  clear hx
  replace H : Cx w0 fp0 S0 w8 [Bx b9 [(.int .i64 0), (.slice none 0 0)], Bx b6 [(.int .i64 0), (.slice none 0 0)], Bx b3 [(.int .i64 m__0), (m__1h).v], Es (List (List Int)) m__1 m__1h] := H
  obtain ⟨r205, hF207, hF206⟩ := bindS hF; clear hF
  refine heldJ H [8, 9] (.fst 2 (.fst 0 (.fst 3 (.fst 4 (.alts (.alt 1 (.alts (.alt 5 (.alts (.alt 6 (.act 7 (.act 8 (.act 9 .done))) (.alt 7 (.act 6 (.act 8 (.act 9 .done))) .no))) (.alt 6 (.alts (.alt 5 (.act 7 (.act 8 (.act 9 .done))) (.alt 7 (.act 5 (.act 8 (.act 9 .done))) .no))) (.alt 7 (.alts (.alt 5 (.act 6 (.act 8 (.act 9 .done))) (.alt 6 (.act 5 (.act 8 (.act 9 .done))) .no))) .no)))) (.alt 6 (.alts (.alt 1 (.alts (.alt 5 (.act 7 (.act 8 (.act 9 .done))) (.alt 7 (.act 5 (.act 8 (.act 9 .done))) .no))) (.alt 7 (.act 1 (.act 5 (.act 8 (.act 9 .done)))) .no))) (.alt 7 (.alts (.alt 1 (.alts (.alt 5 (.act 6 (.act 8 (.act 9 .done))) (.alt 6 (.act 5 (.act 8 (.act 9 .done))) .no))) (.alt 6 (.act 1 (.act 5 (.act 8 (.act 9 .done)))) .no))) .no)))))))) mixed [] trivial (by kernel_rfl) (fun (q208 : (Int × List (List Int) × Int × List (List Int)) × (Hd × Hd × Nat × Nat)) => [(0, (.int .i64 p_)), (3, (.pointer (some ⟨b3, 0, none⟩))), (4, (.pointer (some ⟨b6, 0, none⟩))), (5, (.pointer (some ⟨b9, 0, none⟩))), (8, (.pointer (some ⟨q208.2.2.2.1, 0, none⟩))), (9, (.pointer (some ⟨q208.2.2.2.2, 0, none⟩)))]) (fun (q208 : (Int × List (List Int) × Int × List (List Int)) × (Hd × Hd × Nat × Nat)) w' => (q208.1.1, q208.1.2.1, q208.1.2.2.1, q208.1.2.2.2) = r205 ∧ Cx w0 fp0 S0 w' [Bx b3 [(.int .i64 m__0), (m__1h).v], Es (List (List Int)) m__1 m__1h, Bx b6 [(.int .i64 0), (.slice none 0 0)], Bx b9 [(.int .i64 0), (.slice none 0 0)], Bx q208.2.2.2.1 [(.int .i64 q208.1.1), (q208.2.1).v], E (List (List Int)) q208.1.2.1 q208.2.1, Bx q208.2.2.2.2 [(.int .i64 q208.1.2.2.1), (q208.2.2.1).v], E (List (List Int)) q208.1.2.2.2 q208.2.2.1]) ?_ ?_
  · skip
    clear H; intro w209 H
    have hX : Ext w209 w209 := Upd.refl _ _
    have H0 := H
    refine anyH (fun _ => fld gok rfl rfl rfl rfl ⟨rfl, rfl⟩) ?_
    refine loadNX [(.int .i64 m__0), (m__1h).v] rfl (fun j u hj => H.bx 2 rfl hj) ?_
    refine load1X (H.bx 2 rfl (j := 1) rfl) ?_
    refine lenE (H.rs (α := List (List Int)) 3 rfl).len ?_
    refine both ?_ ?_
    · skip
      obtain ⟨y228, e, hF229⟩ := bindS hF207; clear hF207
      obtain ⟨y228_0, y228_1⟩ := y228
      have ey228 := e; clear e
      refine callFx (spec_mxCopy_c m__0 m__1 m__1h y228_0 y228_1 ey228) H ⟨Vw.sh 3 rfl, trivial⟩ ?_; clear H ey228
      rintro _ _ w230 ⟨h231, rfl, rfl⟩ hx (H : Cx w0 fp0 S0 w230 [E (List (List Int)) y228_1 h231, Bx b9 [(.int .i64 0), (.slice none 0 0)], Bx b6 [(.int .i64 0), (.slice none 0 0)], Bx b3 [(.int .i64 m__0), (m__1h).v], Es (List (List Int)) m__1 m__1h])
      replace hX := hX.trans0 hx; clear hx
      refine hold hX ?_
      refine both ?_ ?_
      · skip
        obtain ⟨y246, e, hF247⟩ := bindS hF229; clear hF229
        obtain ⟨y246_0, y246_1⟩ := y246
        have ey246 := e; clear e
        refine callFx (spec_mxId_c ((m__1.length : Nat) : Int) y246_0 y246_1 ey246) H trivial ?_; clear H ey246
        rintro _ _ w248 ⟨h249, rfl, rfl⟩ hx (H : Cx w0 fp0 S0 w248 [E (List (List Int)) y246_1 h249, E (List (List Int)) y228_1 h231, Bx b9 [(.int .i64 0), (.slice none 0 0)], Bx b6 [(.int .i64 0), (.slice none 0 0)], Bx b3 [(.int .i64 m__0), (m__1h).v], Es (List (List Int)) m__1 m__1h])
        replace hX := hX.trans0 hx; clear hx
        refine hold hX ?_
        refine both ?_ ?_
        · skip
          refine alloc_ gok rfl H ?_; clear H; intro b260 w259 hx H
          replace hX := hX.trans0 hx; clear hx
          replace H : Cx w0 fp0 S0 w259 [Bx b260 [(.int .i64 0), (.slice none 0 0)], E (List (List Int)) y246_1 h249, E (List (List Int)) y228_1 h231, Bx b9 [(.int .i64 0), (.slice none 0 0)], Bx b6 [(.int .i64 0), (.slice none 0 0)], Bx b3 [(.int .i64 m__0), (m__1h).v], Es (List (List Int)) m__1 m__1h] := H
          refine hold hX ?_
          refine alloc_ gok rfl H ?_; clear H; intro b263 w262 hx H
          replace hX := hX.trans0 hx; clear hx
          replace H : Cx w0 fp0 S0 w262 [Bx b263 [(.int .i64 0), (.slice none 0 0)], Bx b260 [(.int .i64 0), (.slice none 0 0)], E (List (List Int)) y246_1 h249, E (List (List Int)) y228_1 h231, Bx b9 [(.int .i64 0), (.slice none 0 0)], Bx b6 [(.int .i64 0), (.slice none 0 0)], Bx b3 [(.int .i64 m__0), (m__1h).v], Es (List (List Int)) m__1 m__1h] := H
          refine hold hX ?_
          replace H := H.sel [1, 0, 2, 3, 4, 5, 6, 7] rfl
          refine stA gok [(.int .i64 y228_0), (h231).v] rfl H rfl rfl rfl ?_; clear H; intro w265 H
          replace H : Cx w0 fp0 S0 w265 [Bx b260 [(.int .i64 y228_0), (h231).v], Bx b263 [(.int .i64 0), (.slice none 0 0)], E (List (List Int)) y246_1 h249, E (List (List Int)) y228_1 h231, Bx b9 [(.int .i64 0), (.slice none 0 0)], Bx b6 [(.int .i64 0), (.slice none 0 0)], Bx b3 [(.int .i64 m__0), (m__1h).v], Es (List (List Int)) m__1 m__1h] := H
          refine hold trivial ?_
          replace H := H.sel [1, 0, 2, 3, 4, 5, 6, 7] rfl
          refine stA gok [(.int .i64 y246_0), (h249).v] rfl H rfl rfl rfl ?_; clear H; intro w266 H
          replace H : Cx w0 fp0 S0 w266 [Bx b263 [(.int .i64 y246_0), (h249).v], Bx b260 [(.int .i64 y228_0), (h231).v], E (List (List Int)) y246_1 h249, E (List (List Int)) y228_1 h231, Bx b9 [(.int .i64 0), (.slice none 0 0)], Bx b6 [(.int .i64 0), (.slice none 0 0)], Bx b3 [(.int .i64 m__0), (m__1h).v], Es (List (List Int)) m__1 m__1h] := H
          refine hold trivial ?_
          exact ⟨((y228_0, y228_1, y246_0, y246_1), (h231, h249, b260, b263)), ⟨rfl, rfl, rfl, rfl, rfl, rfl, trivial⟩, Option.some.inj hF247, H.sel [6, 7, 5, 4, 1, 3, 0, 2] rfl⟩
        · skip
          refine both ?_ ?_
          · skip
            refine alloc_ gok rfl H ?_; clear H; intro b268 w267 hx H
            replace hX := hX.trans0 hx; clear hx
            replace H : Cx w0 fp0 S0 w267 [Bx b268 [(.int .i64 0), (.slice none 0 0)], E (List (List Int)) y246_1 h249, E (List (List Int)) y228_1 h231, Bx b9 [(.int .i64 0), (.slice none 0 0)], Bx b6 [(.int .i64 0), (.slice none 0 0)], Bx b3 [(.int .i64 m__0), (m__1h).v], Es (List (List Int)) m__1 m__1h] := H
            refine hold hX ?_
            refine alloc_ gok rfl H ?_; clear H; intro b271 w270 hx H
            replace hX := hX.trans0 hx; clear hx
            replace H : Cx w0 fp0 S0 w270 [Bx b271 [(.int .i64 0), (.slice none 0 0)], Bx b268 [(.int .i64 0), (.slice none 0 0)], E (List (List Int)) y246_1 h249, E (List (List Int)) y228_1 h231, Bx b9 [(.int .i64 0), (.slice none 0 0)], Bx b6 [(.int .i64 0), (.slice none 0 0)], Bx b3 [(.int .i64 m__0), (m__1h).v], Es (List (List Int)) m__1 m__1h] := H
            refine hold hX ?_
            refine stA gok [(.int .i64 y228_0), (h231).v] rfl H rfl rfl rfl ?_; clear H; intro w273 H
            replace H : Cx w0 fp0 S0 w273 [Bx b271 [(.int .i64 y228_0), (h231).v], Bx b268 [(.int .i64 0), (.slice none 0 0)], E (List (List Int)) y246_1 h249, E (List (List Int)) y228_1 h231, Bx b9 [(.int .i64 0), (.slice none 0 0)], Bx b6 [(.int .i64 0), (.slice none 0 0)], Bx b3 [(.int .i64 m__0), (m__1h).v], Es (List (List Int)) m__1 m__1h] := H
            refine hold trivial ?_
            replace H := H.sel [1, 0, 2, 3, 4, 5, 6, 7] rfl
            refine stA gok [(.int .i64 y246_0), (h249).v] rfl H rfl rfl rfl ?_; clear H; intro w274 H
            replace H : Cx w0 fp0 S0 w274 [Bx b268 [(.int .i64 y246_0), (h249).v], Bx b271 [(.int .i64 y228_0), (h231).v], E (List (List Int)) y246_1 h249, E (List (List Int)) y228_1 h231, Bx b9 [(.int .i64 0), (.slice none 0 0)], Bx b6 [(.int .i64 0), (.slice none 0 0)], Bx b3 [(.int .i64 m__0), (m__1h).v], Es (List (List Int)) m__1 m__1h] := H
            refine hold trivial ?_
            exact ⟨((y228_0, y228_1, y246_0, y246_1), (h231, h249, b271, b268)), ⟨rfl, rfl, rfl, rfl, rfl, rfl, trivial⟩, Option.some.inj hF247, H.sel [6, 7, 5, 4, 1, 3, 0, 2] rfl⟩
          · skip
            exact trivial
      · skip
        refine both ?_ ?_
        · skip
          obtain ⟨a275, eq276, hF277⟩ := bindS hF229; clear hF229
          refine alloc_ gok rfl H ?_; clear H; intro b279 w278 hx H
          replace hX := hX.trans0 hx; clear hx
          replace H : Cx w0 fp0 S0 w278 [Bx b279 [(.int .i64 0), (.slice none 0 0)], E (List (List Int)) y228_1 h231, Bx b9 [(.int .i64 0), (.slice none 0 0)], Bx b6 [(.int .i64 0), (.slice none 0 0)], Bx b3 [(.int .i64 m__0), (m__1h).v], Es (List (List Int)) m__1 m__1h] := H
          refine hold hX ?_
          refine both ?_ ?_
          · skip
            have e := eq276; clear eq276
            obtain ⟨a275_0, a275_1⟩ := a275
            have ea275 := e; clear e
            refine callFx (spec_mxId_c ((m__1.length : Nat) : Int) a275_0 a275_1 ea275) H trivial ?_; clear H ea275
            rintro _ _ w281 ⟨h282, rfl, rfl⟩ hx (H : Cx w0 fp0 S0 w281 [E (List (List Int)) a275_1 h282, Bx b279 [(.int .i64 0), (.slice none 0 0)], E (List (List Int)) y228_1 h231, Bx b9 [(.int .i64 0), (.slice none 0 0)], Bx b6 [(.int .i64 0), (.slice none 0 0)], Bx b3 [(.int .i64 m__0), (m__1h).v], Es (List (List Int)) m__1 m__1h])
            replace hX := hX.trans0 hx; clear hx
            refine hold hX ?_
            refine alloc_ gok rfl H ?_; clear H; intro b285 w284 hx H
            replace hX := hX.trans0 hx; clear hx
            replace H : Cx w0 fp0 S0 w284 [Bx b285 [(.int .i64 0), (.slice none 0 0)], E (List (List Int)) a275_1 h282, Bx b279 [(.int .i64 0), (.slice none 0 0)], E (List (List Int)) y228_1 h231, Bx b9 [(.int .i64 0), (.slice none 0 0)], Bx b6 [(.int .i64 0), (.slice none 0 0)], Bx b3 [(.int .i64 m__0), (m__1h).v], Es (List (List Int)) m__1 m__1h] := H
            refine hold hX ?_
            replace H := H.sel [2, 0, 1, 3, 4, 5, 6, 7] rfl
            refine stA gok [(.int .i64 y228_0), (h231).v] rfl H rfl rfl rfl ?_; clear H; intro w287 H
            replace H : Cx w0 fp0 S0 w287 [Bx b279 [(.int .i64 y228_0), (h231).v], Bx b285 [(.int .i64 0), (.slice none 0 0)], E (List (List Int)) a275_1 h282, E (List (List Int)) y228_1 h231, Bx b9 [(.int .i64 0), (.slice none 0 0)], Bx b6 [(.int .i64 0), (.slice none 0 0)], Bx b3 [(.int .i64 m__0), (m__1h).v], Es (List (List Int)) m__1 m__1h] := H
            refine hold trivial ?_
            replace H := H.sel [1, 0, 2, 3, 4, 5, 6, 7] rfl
            refine stA gok [(.int .i64 a275_0), (h282).v] rfl H rfl rfl rfl ?_; clear H; intro w288 H
            replace H : Cx w0 fp0 S0 w288 [Bx b285 [(.int .i64 a275_0), (h282).v], Bx b279 [(.int .i64 y228_0), (h231).v], E (List (List Int)) a275_1 h282, E (List (List Int)) y228_1 h231, Bx b9 [(.int .i64 0), (.slice none 0 0)], Bx b6 [(.int .i64 0), (.slice none 0 0)], Bx b3 [(.int .i64 m__0), (m__1h).v], Es (List (List Int)) m__1 m__1h] := H
            refine hold trivial ?_
            exact ⟨((y228_0, y228_1, a275_0, a275_1), (h231, h282, b279, b285)), ⟨rfl, rfl, rfl, rfl, rfl, rfl, trivial⟩, Option.some.inj hF277, H.sel [6, 7, 5, 4, 1, 3, 0, 2] rfl⟩
          · skip
            refine both ?_ ?_
            · skip
              refine alloc_ gok rfl H ?_; clear H; intro b290 w289 hx H
              replace hX := hX.trans0 hx; clear hx
              replace H : Cx w0 fp0 S0 w289 [Bx b290 [(.int .i64 0), (.slice none 0 0)], Bx b279 [(.int .i64 0), (.slice none 0 0)], E (List (List Int)) y228_1 h231, Bx b9 [(.int .i64 0), (.slice none 0 0)], Bx b6 [(.int .i64 0), (.slice none 0 0)], Bx b3 [(.int .i64 m__0), (m__1h).v], Es (List (List Int)) m__1 m__1h] := H
              refine hold hX ?_
              have e := eq276; clear eq276
              obtain ⟨a275_0, a275_1⟩ := a275
              have ea275 := e; clear e
              refine callFx (spec_mxId_c ((m__1.length : Nat) : Int) a275_0 a275_1 ea275) H trivial ?_; clear H ea275
              rintro _ _ w292 ⟨h293, rfl, rfl⟩ hx (H : Cx w0 fp0 S0 w292 [E (List (List Int)) a275_1 h293, Bx b290 [(.int .i64 0), (.slice none 0 0)], Bx b279 [(.int .i64 0), (.slice none 0 0)], E (List (List Int)) y228_1 h231, Bx b9 [(.int .i64 0), (.slice none 0 0)], Bx b6 [(.int .i64 0), (.slice none 0 0)], Bx b3 [(.int .i64 m__0), (m__1h).v], Es (List (List Int)) m__1 m__1h])
              replace hX := hX.trans0 hx; clear hx
              refine hold hX ?_
              replace H := H.sel [2, 0, 1, 3, 4, 5, 6, 7] rfl
              refine stA gok [(.int .i64 y228_0), (h231).v] rfl H rfl rfl rfl ?_; clear H; intro w295 H
              replace H : Cx w0 fp0 S0 w295 [Bx b279 [(.int .i64 y228_0), (h231).v], E (List (List Int)) a275_1 h293, Bx b290 [(.int .i64 0), (.slice none 0 0)], E (List (List Int)) y228_1 h231, Bx b9 [(.int .i64 0), (.slice none 0 0)], Bx b6 [(.int .i64 0), (.slice none 0 0)], Bx b3 [(.int .i64 m__0), (m__1h).v], Es (List (List Int)) m__1 m__1h] := H
              refine hold trivial ?_
              replace H := H.sel [2, 0, 1, 3, 4, 5, 6, 7] rfl
              refine stA gok [(.int .i64 a275_0), (h293).v] rfl H rfl rfl rfl ?_; clear H; intro w296 H
              replace H : Cx w0 fp0 S0 w296 [Bx b290 [(.int .i64 a275_0), (h293).v], Bx b279 [(.int .i64 y228_0), (h231).v], E (List (List Int)) a275_1 h293, E (List (List Int)) y228_1 h231, Bx b9 [(.int .i64 0), (.slice none 0 0)], Bx b6 [(.int .i64 0), (.slice none 0 0)], Bx b3 [(.int .i64 m__0), (m__1h).v], Es (List (List Int)) m__1 m__1h] := H
              refine hold trivial ?_
              exact ⟨((y228_0, y228_1, a275_0, a275_1), (h231, h293, b279, b290)), ⟨rfl, rfl, rfl, rfl, rfl, rfl, trivial⟩, Option.some.inj hF277, H.sel [6, 7, 5, 4, 1, 3, 0, 2] rfl⟩
            · skip
              exact trivial
        · skip
          refine both ?_ ?_
          · skip
            obtain ⟨a297, eq298, hF299⟩ := bindS hF229; clear hF229
            refine alloc_ gok rfl H ?_; clear H; intro b301 w300 hx H
            replace hX := hX.trans0 hx; clear hx
            replace H : Cx w0 fp0 S0 w300 [Bx b301 [(.int .i64 0), (.slice none 0 0)], E (List (List Int)) y228_1 h231, Bx b9 [(.int .i64 0), (.slice none 0 0)], Bx b6 [(.int .i64 0), (.slice none 0 0)], Bx b3 [(.int .i64 m__0), (m__1h).v], Es (List (List Int)) m__1 m__1h] := H
            refine hold hX ?_
            refine both ?_ ?_
            · skip
              have e := eq298; clear eq298
              obtain ⟨a297_0, a297_1⟩ := a297
              have ea297 := e; clear e
              refine callFx (spec_mxId_c ((m__1.length : Nat) : Int) a297_0 a297_1 ea297) H trivial ?_; clear H ea297
              rintro _ _ w303 ⟨h304, rfl, rfl⟩ hx (H : Cx w0 fp0 S0 w303 [E (List (List Int)) a297_1 h304, Bx b301 [(.int .i64 0), (.slice none 0 0)], E (List (List Int)) y228_1 h231, Bx b9 [(.int .i64 0), (.slice none 0 0)], Bx b6 [(.int .i64 0), (.slice none 0 0)], Bx b3 [(.int .i64 m__0), (m__1h).v], Es (List (List Int)) m__1 m__1h])
              replace hX := hX.trans0 hx; clear hx
              refine hold hX ?_
              refine alloc_ gok rfl H ?_; clear H; intro b307 w306 hx H
              replace hX := hX.trans0 hx; clear hx
              replace H : Cx w0 fp0 S0 w306 [Bx b307 [(.int .i64 0), (.slice none 0 0)], E (List (List Int)) a297_1 h304, Bx b301 [(.int .i64 0), (.slice none 0 0)], E (List (List Int)) y228_1 h231, Bx b9 [(.int .i64 0), (.slice none 0 0)], Bx b6 [(.int .i64 0), (.slice none 0 0)], Bx b3 [(.int .i64 m__0), (m__1h).v], Es (List (List Int)) m__1 m__1h] := H
              refine hold hX ?_
              refine stA gok [(.int .i64 y228_0), (h231).v] rfl H rfl rfl rfl ?_; clear H; intro w309 H
              replace H : Cx w0 fp0 S0 w309 [Bx b307 [(.int .i64 y228_0), (h231).v], E (List (List Int)) a297_1 h304, Bx b301 [(.int .i64 0), (.slice none 0 0)], E (List (List Int)) y228_1 h231, Bx b9 [(.int .i64 0), (.slice none 0 0)], Bx b6 [(.int .i64 0), (.slice none 0 0)], Bx b3 [(.int .i64 m__0), (m__1h).v], Es (List (List Int)) m__1 m__1h] := H
              refine hold trivial ?_
              replace H := H.sel [2, 0, 1, 3, 4, 5, 6, 7] rfl
              refine stA gok [(.int .i64 a297_0), (h304).v] rfl H rfl rfl rfl ?_; clear H; intro w310 H
              replace H : Cx w0 fp0 S0 w310 [Bx b301 [(.int .i64 a297_0), (h304).v], Bx b307 [(.int .i64 y228_0), (h231).v], E (List (List Int)) a297_1 h304, E (List (List Int)) y228_1 h231, Bx b9 [(.int .i64 0), (.slice none 0 0)], Bx b6 [(.int .i64 0), (.slice none 0 0)], Bx b3 [(.int .i64 m__0), (m__1h).v], Es (List (List Int)) m__1 m__1h] := H
              refine hold trivial ?_
              exact ⟨((y228_0, y228_1, a297_0, a297_1), (h231, h304, b307, b301)), ⟨rfl, rfl, rfl, rfl, rfl, rfl, trivial⟩, Option.some.inj hF299, H.sel [6, 7, 5, 4, 1, 3, 0, 2] rfl⟩
            · skip
              refine both ?_ ?_
              · skip
                refine alloc_ gok rfl H ?_; clear H; intro b312 w311 hx H
                replace hX := hX.trans0 hx; clear hx
                replace H : Cx w0 fp0 S0 w311 [Bx b312 [(.int .i64 0), (.slice none 0 0)], Bx b301 [(.int .i64 0), (.slice none 0 0)], E (List (List Int)) y228_1 h231, Bx b9 [(.int .i64 0), (.slice none 0 0)], Bx b6 [(.int .i64 0), (.slice none 0 0)], Bx b3 [(.int .i64 m__0), (m__1h).v], Es (List (List Int)) m__1 m__1h] := H
                refine hold hX ?_
                have e := eq298; clear eq298
                obtain ⟨a297_0, a297_1⟩ := a297
                have ea297 := e; clear e
                refine callFx (spec_mxId_c ((m__1.length : Nat) : Int) a297_0 a297_1 ea297) H trivial ?_; clear H ea297
                rintro _ _ w314 ⟨h315, rfl, rfl⟩ hx (H : Cx w0 fp0 S0 w314 [E (List (List Int)) a297_1 h315, Bx b312 [(.int .i64 0), (.slice none 0 0)], Bx b301 [(.int .i64 0), (.slice none 0 0)], E (List (List Int)) y228_1 h231, Bx b9 [(.int .i64 0), (.slice none 0 0)], Bx b6 [(.int .i64 0), (.slice none 0 0)], Bx b3 [(.int .i64 m__0), (m__1h).v], Es (List (List Int)) m__1 m__1h])
                replace hX := hX.trans0 hx; clear hx
                refine hold hX ?_
                replace H := H.sel [1, 0, 2, 3, 4, 5, 6, 7] rfl
                refine stA gok [(.int .i64 y228_0), (h231).v] rfl H rfl rfl rfl ?_; clear H; intro w317 H
                replace H : Cx w0 fp0 S0 w317 [Bx b312 [(.int .i64 y228_0), (h231).v], E (List (List Int)) a297_1 h315, Bx b301 [(.int .i64 0), (.slice none 0 0)], E (List (List Int)) y228_1 h231, Bx b9 [(.int .i64 0), (.slice none 0 0)], Bx b6 [(.int .i64 0), (.slice none 0 0)], Bx b3 [(.int .i64 m__0), (m__1h).v], Es (List (List Int)) m__1 m__1h] := H
                refine hold trivial ?_
                replace H := H.sel [2, 0, 1, 3, 4, 5, 6, 7] rfl
                refine stA gok [(.int .i64 a297_0), (h315).v] rfl H rfl rfl rfl ?_; clear H; intro w318 H
                replace H : Cx w0 fp0 S0 w318 [Bx b301 [(.int .i64 a297_0), (h315).v], Bx b312 [(.int .i64 y228_0), (h231).v], E (List (List Int)) a297_1 h315, E (List (List Int)) y228_1 h231, Bx b9 [(.int .i64 0), (.slice none 0 0)], Bx b6 [(.int .i64 0), (.slice none 0 0)], Bx b3 [(.int .i64 m__0), (m__1h).v], Es (List (List Int)) m__1 m__1h] := H
                refine hold trivial ?_
                exact ⟨((y228_0, y228_1, a297_0, a297_1), (h231, h315, b312, b301)), ⟨rfl, rfl, rfl, rfl, rfl, rfl, trivial⟩, Option.some.inj hF299, H.sel [6, 7, 5, 4, 1, 3, 0, 2] rfl⟩
              · skip
                exact trivial
          · skip
            exact trivial
    · skip
      refine both ?_ ?_
      · skip
        obtain ⟨a319, eq320, hF321⟩ := bindS hF207; clear hF207
        obtain ⟨a322, eq323, hF324⟩ := bindS hF321; clear hF321
        refine alloc_ gok rfl H ?_; clear H; intro b326 w325 hx H
        replace hX := hX.trans0 hx; clear hx
        replace H : Cx w0 fp0 S0 w325 [Bx b326 [(.int .i64 0), (.slice none 0 0)], Bx b9 [(.int .i64 0), (.slice none 0 0)], Bx b6 [(.int .i64 0), (.slice none 0 0)], Bx b3 [(.int .i64 m__0), (m__1h).v], Es (List (List Int)) m__1 m__1h] := H
        refine hold hX ?_
        refine both ?_ ?_
        · skip
          have e := eq320; clear eq320
          obtain ⟨a319_0, a319_1⟩ := a319
          have ea319 := e; clear e
          refine callFx (spec_mxCopy_c m__0 m__1 m__1h a319_0 a319_1 ea319) H ⟨Vw.sh 4 rfl, trivial⟩ ?_; clear H ea319
          rintro _ _ w328 ⟨h329, rfl, rfl⟩ hx (H : Cx w0 fp0 S0 w328 [E (List (List Int)) a319_1 h329, Bx b326 [(.int .i64 0), (.slice none 0 0)], Bx b9 [(.int .i64 0), (.slice none 0 0)], Bx b6 [(.int .i64 0), (.slice none 0 0)], Bx b3 [(.int .i64 m__0), (m__1h).v], Es (List (List Int)) m__1 m__1h])
          replace hX := hX.trans0 hx; clear hx
          refine hold hX ?_
          refine both ?_ ?_
          · skip
            have e := eq323; clear eq323
            obtain ⟨a322_0, a322_1⟩ := a322
            have ea322 := e; clear e
            refine callFx (spec_mxId_c ((m__1.length : Nat) : Int) a322_0 a322_1 ea322) H trivial ?_; clear H ea322
            rintro _ _ w331 ⟨h332, rfl, rfl⟩ hx (H : Cx w0 fp0 S0 w331 [E (List (List Int)) a322_1 h332, E (List (List Int)) a319_1 h329, Bx b326 [(.int .i64 0), (.slice none 0 0)], Bx b9 [(.int .i64 0), (.slice none 0 0)], Bx b6 [(.int .i64 0), (.slice none 0 0)], Bx b3 [(.int .i64 m__0), (m__1h).v], Es (List (List Int)) m__1 m__1h])
            replace hX := hX.trans0 hx; clear hx
            refine hold hX ?_
            refine alloc_ gok rfl H ?_; clear H; intro b335 w334 hx H
            replace hX := hX.trans0 hx; clear hx
            replace H : Cx w0 fp0 S0 w334 [Bx b335 [(.int .i64 0), (.slice none 0 0)], E (List (List Int)) a322_1 h332, E (List (List Int)) a319_1 h329, Bx b326 [(.int .i64 0), (.slice none 0 0)], Bx b9 [(.int .i64 0), (.slice none 0 0)], Bx b6 [(.int .i64 0), (.slice none 0 0)], Bx b3 [(.int .i64 m__0), (m__1h).v], Es (List (List Int)) m__1 m__1h] := H
            refine hold hX ?_
            replace H := H.sel [3, 0, 1, 2, 4, 5, 6, 7] rfl
            refine stA gok [(.int .i64 a319_0), (h329).v] rfl H rfl rfl rfl ?_; clear H; intro w337 H
            replace H : Cx w0 fp0 S0 w337 [Bx b326 [(.int .i64 a319_0), (h329).v], Bx b335 [(.int .i64 0), (.slice none 0 0)], E (List (List Int)) a322_1 h332, E (List (List Int)) a319_1 h329, Bx b9 [(.int .i64 0), (.slice none 0 0)], Bx b6 [(.int .i64 0), (.slice none 0 0)], Bx b3 [(.int .i64 m__0), (m__1h).v], Es (List (List Int)) m__1 m__1h] := H
            refine hold trivial ?_
            replace H := H.sel [1, 0, 2, 3, 4, 5, 6, 7] rfl
            refine stA gok [(.int .i64 a322_0), (h332).v] rfl H rfl rfl rfl ?_; clear H; intro w338 H
            replace H : Cx w0 fp0 S0 w338 [Bx b335 [(.int .i64 a322_0), (h332).v], Bx b326 [(.int .i64 a319_0), (h329).v], E (List (List Int)) a322_1 h332, E (List (List Int)) a319_1 h329, Bx b9 [(.int .i64 0), (.slice none 0 0)], Bx b6 [(.int .i64 0), (.slice none 0 0)], Bx b3 [(.int .i64 m__0), (m__1h).v], Es (List (List Int)) m__1 m__1h] := H
            refine hold trivial ?_
            exact ⟨((a319_0, a319_1, a322_0, a322_1), (h329, h332, b326, b335)), ⟨rfl, rfl, rfl, rfl, rfl, rfl, trivial⟩, Option.some.inj hF324, H.sel [6, 7, 5, 4, 1, 3, 0, 2] rfl⟩
          · skip
            refine both ?_ ?_
            · skip
              refine alloc_ gok rfl H ?_; clear H; intro b340 w339 hx H
              replace hX := hX.trans0 hx; clear hx
              replace H : Cx w0 fp0 S0 w339 [Bx b340 [(.int .i64 0), (.slice none 0 0)], E (List (List Int)) a319_1 h329, Bx b326 [(.int .i64 0), (.slice none 0 0)], Bx b9 [(.int .i64 0), (.slice none 0 0)], Bx b6 [(.int .i64 0), (.slice none 0 0)], Bx b3 [(.int .i64 m__0), (m__1h).v], Es (List (List Int)) m__1 m__1h] := H
              refine hold hX ?_
              have e := eq323; clear eq323
              obtain ⟨a322_0, a322_1⟩ := a322
              have ea322 := e; clear e
              refine callFx (spec_mxId_c ((m__1.length : Nat) : Int) a322_0 a322_1 ea322) H trivial ?_; clear H ea322
              rintro _ _ w342 ⟨h343, rfl, rfl⟩ hx (H : Cx w0 fp0 S0 w342 [E (List (List Int)) a322_1 h343, Bx b340 [(.int .i64 0), (.slice none 0 0)], E (List (List Int)) a319_1 h329, Bx b326 [(.int .i64 0), (.slice none 0 0)], Bx b9 [(.int .i64 0), (.slice none 0 0)], Bx b6 [(.int .i64 0), (.slice none 0 0)], Bx b3 [(.int .i64 m__0), (m__1h).v], Es (List (List Int)) m__1 m__1h])
              replace hX := hX.trans0 hx; clear hx
              refine hold hX ?_
              replace H := H.sel [3, 0, 1, 2, 4, 5, 6, 7] rfl
              refine stA gok [(.int .i64 a319_0), (h329).v] rfl H rfl rfl rfl ?_; clear H; intro w345 H
              replace H : Cx w0 fp0 S0 w345 [Bx b326 [(.int .i64 a319_0), (h329).v], E (List (List Int)) a322_1 h343, Bx b340 [(.int .i64 0), (.slice none 0 0)], E (List (List Int)) a319_1 h329, Bx b9 [(.int .i64 0), (.slice none 0 0)], Bx b6 [(.int .i64 0), (.slice none 0 0)], Bx b3 [(.int .i64 m__0), (m__1h).v], Es (List (List Int)) m__1 m__1h] := H
              refine hold trivial ?_
              replace H := H.sel [2, 0, 1, 3, 4, 5, 6, 7] rfl
              refine stA gok [(.int .i64 a322_0), (h343).v] rfl H rfl rfl rfl ?_; clear H; intro w346 H
              replace H : Cx w0 fp0 S0 w346 [Bx b340 [(.int .i64 a322_0), (h343).v], Bx b326 [(.int .i64 a319_0), (h329).v], E (List (List Int)) a322_1 h343, E (List (List Int)) a319_1 h329, Bx b9 [(.int .i64 0), (.slice none 0 0)], Bx b6 [(.int .i64 0), (.slice none 0 0)], Bx b3 [(.int .i64 m__0), (m__1h).v], Es (List (List Int)) m__1 m__1h] := H
              refine hold trivial ?_
              exact ⟨((a319_0, a319_1, a322_0, a322_1), (h329, h343, b326, b340)), ⟨rfl, rfl, rfl, rfl, rfl, rfl, trivial⟩, Option.some.inj hF324, H.sel [6, 7, 5, 4, 1, 3, 0, 2] rfl⟩
            · skip
              exact trivial
        · skip
          refine both ?_ ?_
          · skip
            refine alloc_ gok rfl H ?_; clear H; intro b348 w347 hx H
            replace hX := hX.trans0 hx; clear hx
            replace H : Cx w0 fp0 S0 w347 [Bx b348 [(.int .i64 0), (.slice none 0 0)], Bx b326 [(.int .i64 0), (.slice none 0 0)], Bx b9 [(.int .i64 0), (.slice none 0 0)], Bx b6 [(.int .i64 0), (.slice none 0 0)], Bx b3 [(.int .i64 m__0), (m__1h).v], Es (List (List Int)) m__1 m__1h] := H
            refine hold hX ?_
            have e := eq320; clear eq320
            obtain ⟨a319_0, a319_1⟩ := a319
            have ea319 := e; clear e
            refine callFx (spec_mxCopy_c m__0 m__1 m__1h a319_0 a319_1 ea319) H ⟨Vw.sh 5 rfl, trivial⟩ ?_; clear H ea319
            rintro _ _ w350 ⟨h351, rfl, rfl⟩ hx (H : Cx w0 fp0 S0 w350 [E (List (List Int)) a319_1 h351, Bx b348 [(.int .i64 0), (.slice none 0 0)], Bx b326 [(.int .i64 0), (.slice none 0 0)], Bx b9 [(.int .i64 0), (.slice none 0 0)], Bx b6 [(.int .i64 0), (.slice none 0 0)], Bx b3 [(.int .i64 m__0), (m__1h).v], Es (List (List Int)) m__1 m__1h])
            replace hX := hX.trans0 hx; clear hx
            refine hold hX ?_
            have e := eq323; clear eq323
            obtain ⟨a322_0, a322_1⟩ := a322
            have ea322 := e; clear e
            refine callFx (spec_mxId_c ((m__1.length : Nat) : Int) a322_0 a322_1 ea322) H trivial ?_; clear H ea322
            rintro _ _ w353 ⟨h354, rfl, rfl⟩ hx (H : Cx w0 fp0 S0 w353 [E (List (List Int)) a322_1 h354, E (List (List Int)) a319_1 h351, Bx b348 [(.int .i64 0), (.slice none 0 0)], Bx b326 [(.int .i64 0), (.slice none 0 0)], Bx b9 [(.int .i64 0), (.slice none 0 0)], Bx b6 [(.int .i64 0), (.slice none 0 0)], Bx b3 [(.int .i64 m__0), (m__1h).v], Es (List (List Int)) m__1 m__1h])
            replace hX := hX.trans0 hx; clear hx
            refine hold hX ?_
            replace H := H.sel [3, 0, 1, 2, 4, 5, 6, 7] rfl
            refine stA gok [(.int .i64 a319_0), (h351).v] rfl H rfl rfl rfl ?_; clear H; intro w356 H
            replace H : Cx w0 fp0 S0 w356 [Bx b326 [(.int .i64 a319_0), (h351).v], E (List (List Int)) a322_1 h354, E (List (List Int)) a319_1 h351, Bx b348 [(.int .i64 0), (.slice none 0 0)], Bx b9 [(.int .i64 0), (.slice none 0 0)], Bx b6 [(.int .i64 0), (.slice none 0 0)], Bx b3 [(.int .i64 m__0), (m__1h).v], Es (List (List Int)) m__1 m__1h] := H
            refine hold trivial ?_
            replace H := H.sel [3, 0, 1, 2, 4, 5, 6, 7] rfl
            refine stA gok [(.int .i64 a322_0), (h354).v] rfl H rfl rfl rfl ?_; clear H; intro w357 H
            replace H : Cx w0 fp0 S0 w357 [Bx b348 [(.int .i64 a322_0), (h354).v], Bx b326 [(.int .i64 a319_0), (h351).v], E (List (List Int)) a322_1 h354, E (List (List Int)) a319_1 h351, Bx b9 [(.int .i64 0), (.slice none 0 0)], Bx b6 [(.int .i64 0), (.slice none 0 0)], Bx b3 [(.int .i64 m__0), (m__1h).v], Es (List (List Int)) m__1 m__1h] := H
            refine hold trivial ?_
            exact ⟨((a319_0, a319_1, a322_0, a322_1), (h351, h354, b326, b348)), ⟨rfl, rfl, rfl, rfl, rfl, rfl, trivial⟩, Option.some.inj hF324, H.sel [6, 7, 5, 4, 1, 3, 0, 2] rfl⟩
          · skip
            exact trivial
      · skip
        refine both ?_ ?_
        · skip
          obtain ⟨a358, eq359, hF360⟩ := bindS hF207; clear hF207
          obtain ⟨a361, eq362, hF363⟩ := bindS hF360; clear hF360
          refine alloc_ gok rfl H ?_; clear H; intro b365 w364 hx H
          replace hX := hX.trans0 hx; clear hx
          replace H : Cx w0 fp0 S0 w364 [Bx b365 [(.int .i64 0), (.slice none 0 0)], Bx b9 [(.int .i64 0), (.slice none 0 0)], Bx b6 [(.int .i64 0), (.slice none 0 0)], Bx b3 [(.int .i64 m__0), (m__1h).v], Es (List (List Int)) m__1 m__1h] := H
          refine hold hX ?_
          refine both ?_ ?_
          · skip
            have e := eq359; clear eq359
            obtain ⟨a358_0, a358_1⟩ := a358
            have ea358 := e; clear e
            refine callFx (spec_mxCopy_c m__0 m__1 m__1h a358_0 a358_1 ea358) H ⟨Vw.sh 4 rfl, trivial⟩ ?_; clear H ea358
            rintro _ _ w367 ⟨h368, rfl, rfl⟩ hx (H : Cx w0 fp0 S0 w367 [E (List (List Int)) a358_1 h368, Bx b365 [(.int .i64 0), (.slice none 0 0)], Bx b9 [(.int .i64 0), (.slice none 0 0)], Bx b6 [(.int .i64 0), (.slice none 0 0)], Bx b3 [(.int .i64 m__0), (m__1h).v], Es (List (List Int)) m__1 m__1h])
            replace hX := hX.trans0 hx; clear hx
            refine hold hX ?_
            refine both ?_ ?_
            · skip
              have e := eq362; clear eq362
              obtain ⟨a361_0, a361_1⟩ := a361
              have ea361 := e; clear e
              refine callFx (spec_mxId_c ((m__1.length : Nat) : Int) a361_0 a361_1 ea361) H trivial ?_; clear H ea361
              rintro _ _ w370 ⟨h371, rfl, rfl⟩ hx (H : Cx w0 fp0 S0 w370 [E (List (List Int)) a361_1 h371, E (List (List Int)) a358_1 h368, Bx b365 [(.int .i64 0), (.slice none 0 0)], Bx b9 [(.int .i64 0), (.slice none 0 0)], Bx b6 [(.int .i64 0), (.slice none 0 0)], Bx b3 [(.int .i64 m__0), (m__1h).v], Es (List (List Int)) m__1 m__1h])
              replace hX := hX.trans0 hx; clear hx
              refine hold hX ?_
              refine alloc_ gok rfl H ?_; clear H; intro b374 w373 hx H
              replace hX := hX.trans0 hx; clear hx
              replace H : Cx w0 fp0 S0 w373 [Bx b374 [(.int .i64 0), (.slice none 0 0)], E (List (List Int)) a361_1 h371, E (List (List Int)) a358_1 h368, Bx b365 [(.int .i64 0), (.slice none 0 0)], Bx b9 [(.int .i64 0), (.slice none 0 0)], Bx b6 [(.int .i64 0), (.slice none 0 0)], Bx b3 [(.int .i64 m__0), (m__1h).v], Es (List (List Int)) m__1 m__1h] := H
              refine hold hX ?_
              refine stA gok [(.int .i64 a358_0), (h368).v] rfl H rfl rfl rfl ?_; clear H; intro w376 H
              replace H : Cx w0 fp0 S0 w376 [Bx b374 [(.int .i64 a358_0), (h368).v], E (List (List Int)) a361_1 h371, E (List (List Int)) a358_1 h368, Bx b365 [(.int .i64 0), (.slice none 0 0)], Bx b9 [(.int .i64 0), (.slice none 0 0)], Bx b6 [(.int .i64 0), (.slice none 0 0)], Bx b3 [(.int .i64 m__0), (m__1h).v], Es (List (List Int)) m__1 m__1h] := H
              refine hold trivial ?_
              replace H := H.sel [3, 0, 1, 2, 4, 5, 6, 7] rfl
              refine stA gok [(.int .i64 a361_0), (h371).v] rfl H rfl rfl rfl ?_; clear H; intro w377 H
              replace H : Cx w0 fp0 S0 w377 [Bx b365 [(.int .i64 a361_0), (h371).v], Bx b374 [(.int .i64 a358_0), (h368).v], E (List (List Int)) a361_1 h371, E (List (List Int)) a358_1 h368, Bx b9 [(.int .i64 0), (.slice none 0 0)], Bx b6 [(.int .i64 0), (.slice none 0 0)], Bx b3 [(.int .i64 m__0), (m__1h).v], Es (List (List Int)) m__1 m__1h] := H
              refine hold trivial ?_
              exact ⟨((a358_0, a358_1, a361_0, a361_1), (h368, h371, b374, b365)), ⟨rfl, rfl, rfl, rfl, rfl, rfl, trivial⟩, Option.some.inj hF363, H.sel [6, 7, 5, 4, 1, 3, 0, 2] rfl⟩
            · skip
              refine both ?_ ?_
              · skip
                refine alloc_ gok rfl H ?_; clear H; intro b379 w378 hx H
                replace hX := hX.trans0 hx; clear hx
                replace H : Cx w0 fp0 S0 w378 [Bx b379 [(.int .i64 0), (.slice none 0 0)], E (List (List Int)) a358_1 h368, Bx b365 [(.int .i64 0), (.slice none 0 0)], Bx b9 [(.int .i64 0), (.slice none 0 0)], Bx b6 [(.int .i64 0), (.slice none 0 0)], Bx b3 [(.int .i64 m__0), (m__1h).v], Es (List (List Int)) m__1 m__1h] := H
                refine hold hX ?_
                have e := eq362; clear eq362
                obtain ⟨a361_0, a361_1⟩ := a361
                have ea361 := e; clear e
                refine callFx (spec_mxId_c ((m__1.length : Nat) : Int) a361_0 a361_1 ea361) H trivial ?_; clear H ea361
                rintro _ _ w381 ⟨h382, rfl, rfl⟩ hx (H : Cx w0 fp0 S0 w381 [E (List (List Int)) a361_1 h382, Bx b379 [(.int .i64 0), (.slice none 0 0)], E (List (List Int)) a358_1 h368, Bx b365 [(.int .i64 0), (.slice none 0 0)], Bx b9 [(.int .i64 0), (.slice none 0 0)], Bx b6 [(.int .i64 0), (.slice none 0 0)], Bx b3 [(.int .i64 m__0), (m__1h).v], Es (List (List Int)) m__1 m__1h])
                replace hX := hX.trans0 hx; clear hx
                refine hold hX ?_
                replace H := H.sel [1, 0, 2, 3, 4, 5, 6, 7] rfl
                refine stA gok [(.int .i64 a358_0), (h368).v] rfl H rfl rfl rfl ?_; clear H; intro w384 H
                replace H : Cx w0 fp0 S0 w384 [Bx b379 [(.int .i64 a358_0), (h368).v], E (List (List Int)) a361_1 h382, E (List (List Int)) a358_1 h368, Bx b365 [(.int .i64 0), (.slice none 0 0)], Bx b9 [(.int .i64 0), (.slice none 0 0)], Bx b6 [(.int .i64 0), (.slice none 0 0)], Bx b3 [(.int .i64 m__0), (m__1h).v], Es (List (List Int)) m__1 m__1h] := H
                refine hold trivial ?_
                replace H := H.sel [3, 0, 1, 2, 4, 5, 6, 7] rfl
                refine stA gok [(.int .i64 a361_0), (h382).v] rfl H rfl rfl rfl ?_; clear H; intro w385 H
                replace H : Cx w0 fp0 S0 w385 [Bx b365 [(.int .i64 a361_0), (h382).v], Bx b379 [(.int .i64 a358_0), (h368).v], E (List (List Int)) a361_1 h382, E (List (List Int)) a358_1 h368, Bx b9 [(.int .i64 0), (.slice none 0 0)], Bx b6 [(.int .i64 0), (.slice none 0 0)], Bx b3 [(.int .i64 m__0), (m__1h).v], Es (List (List Int)) m__1 m__1h] := H
                refine hold trivial ?_
                exact ⟨((a358_0, a358_1, a361_0, a361_1), (h368, h382, b379, b365)), ⟨rfl, rfl, rfl, rfl, rfl, rfl, trivial⟩, Option.some.inj hF363, H.sel [6, 7, 5, 4, 1, 3, 0, 2] rfl⟩
              · skip
                exact trivial
          · skip
            refine both ?_ ?_
            · skip
              refine alloc_ gok rfl H ?_; clear H; intro b387 w386 hx H
              replace hX := hX.trans0 hx; clear hx
              replace H : Cx w0 fp0 S0 w386 [Bx b387 [(.int .i64 0), (.slice none 0 0)], Bx b365 [(.int .i64 0), (.slice none 0 0)], Bx b9 [(.int .i64 0), (.slice none 0 0)], Bx b6 [(.int .i64 0), (.slice none 0 0)], Bx b3 [(.int .i64 m__0), (m__1h).v], Es (List (List Int)) m__1 m__1h] := H
              refine hold hX ?_
              have e := eq359; clear eq359
              obtain ⟨a358_0, a358_1⟩ := a358
              have ea358 := e; clear e
              refine callFx (spec_mxCopy_c m__0 m__1 m__1h a358_0 a358_1 ea358) H ⟨Vw.sh 5 rfl, trivial⟩ ?_; clear H ea358
              rintro _ _ w389 ⟨h390, rfl, rfl⟩ hx (H : Cx w0 fp0 S0 w389 [E (List (List Int)) a358_1 h390, Bx b387 [(.int .i64 0), (.slice none 0 0)], Bx b365 [(.int .i64 0), (.slice none 0 0)], Bx b9 [(.int .i64 0), (.slice none 0 0)], Bx b6 [(.int .i64 0), (.slice none 0 0)], Bx b3 [(.int .i64 m__0), (m__1h).v], Es (List (List Int)) m__1 m__1h])
              replace hX := hX.trans0 hx; clear hx
              refine hold hX ?_
              have e := eq362; clear eq362
              obtain ⟨a361_0, a361_1⟩ := a361
              have ea361 := e; clear e
              refine callFx (spec_mxId_c ((m__1.length : Nat) : Int) a361_0 a361_1 ea361) H trivial ?_; clear H ea361
              rintro _ _ w392 ⟨h393, rfl, rfl⟩ hx (H : Cx w0 fp0 S0 w392 [E (List (List Int)) a361_1 h393, E (List (List Int)) a358_1 h390, Bx b387 [(.int .i64 0), (.slice none 0 0)], Bx b365 [(.int .i64 0), (.slice none 0 0)], Bx b9 [(.int .i64 0), (.slice none 0 0)], Bx b6 [(.int .i64 0), (.slice none 0 0)], Bx b3 [(.int .i64 m__0), (m__1h).v], Es (List (List Int)) m__1 m__1h])
              replace hX := hX.trans0 hx; clear hx
              refine hold hX ?_
              replace H := H.sel [2, 0, 1, 3, 4, 5, 6, 7] rfl
              refine stA gok [(.int .i64 a358_0), (h390).v] rfl H rfl rfl rfl ?_; clear H; intro w395 H
              replace H : Cx w0 fp0 S0 w395 [Bx b387 [(.int .i64 a358_0), (h390).v], E (List (List Int)) a361_1 h393, E (List (List Int)) a358_1 h390, Bx b365 [(.int .i64 0), (.slice none 0 0)], Bx b9 [(.int .i64 0), (.slice none 0 0)], Bx b6 [(.int .i64 0), (.slice none 0 0)], Bx b3 [(.int .i64 m__0), (m__1h).v], Es (List (List Int)) m__1 m__1h] := H
              refine hold trivial ?_
              replace H := H.sel [3, 0, 1, 2, 4, 5, 6, 7] rfl
              refine stA gok [(.int .i64 a361_0), (h393).v] rfl H rfl rfl rfl ?_; clear H; intro w396 H
              replace H : Cx w0 fp0 S0 w396 [Bx b365 [(.int .i64 a361_0), (h393).v], Bx b387 [(.int .i64 a358_0), (h390).v], E (List (List Int)) a361_1 h393, E (List (List Int)) a358_1 h390, Bx b9 [(.int .i64 0), (.slice none 0 0)], Bx b6 [(.int .i64 0), (.slice none 0 0)], Bx b3 [(.int .i64 m__0), (m__1h).v], Es (List (List Int)) m__1 m__1h] := H
              refine hold trivial ?_
              exact ⟨((a358_0, a358_1, a361_0, a361_1), (h390, h393, b387, b365)), ⟨rfl, rfl, rfl, rfl, rfl, rfl, trivial⟩, Option.some.inj hF363, H.sel [6, 7, 5, 4, 1, 3, 0, 2] rfl⟩
            · skip
              exact trivial
        · skip
          exact trivial
  · clear hF207 H
    rintro T398 ⟨⟨s199_0, s199_1, s199_2, s199_3⟩, ⟨g200_0, g200_1, g200_2, g200_3⟩⟩ w397 ⟨hr, (H : Cx w0 fp0 S0 w397 [Bx b3 [(.int .i64 m__0), (m__1h).v], Es (List (List Int)) m__1 m__1h, Bx b6 [(.int .i64 0), (.slice none 0 0)], Bx b9 [(.int .i64 0), (.slice none 0 0)], Bx g200_2 [(.int .i64 s199_0), (g200_0).v], E (List (List Int)) s199_1 g200_0, Bx g200_3 [(.int .i64 s199_2), (g200_1).v], E (List (List Int)) s199_3 g200_1])⟩
    subst hr
    obtain ⟨r6019, hF6021, hF6020⟩ := bindS hF206; clear hF206
    refine cut (fun (q6022 : List (List Int) × List (List Int) × Int × Int) => [(4, (.pointer (some ⟨b6, 0, none⟩))), (5, (.pointer (some ⟨b9, 0, none⟩))), (8, (.pointer (some ⟨g200_2, 0, none⟩))), (9, (.pointer (some ⟨g200_3, 0, none⟩))), (10, (.int .i64 q6022.2.2.1)), (11, (.int .i64 q6022.2.2.2))]) (fun (q6022 : List (List Int) × List (List Int) × Int × Int) w' => (q6022.1, q6022.2.1, q6022.2.2.1, q6022.2.2.2) = r6019 ∧ Cx w0 fp0 S0 w' [Bx b6 [(.int .i64 0), (.slice none 0 0)], Bx b9 [(.int .i64 0), (.slice none 0 0)], Bx g200_2 [(.int .i64 s199_0), (g200_0).v], E (List (List Int)) q6022.1 g200_0, Bx g200_3 [(.int .i64 s199_2), (g200_1).v], E (List (List Int)) q6022.2.1 g200_1]) ?_ ?_
    · skip
      refine loopW _ (fun (s9763 : List (List Int) × List (List Int) × Int × Int × Int) (_ : Unit) => [(0, (.int .i64 p_)), (3, (.pointer (some ⟨b3, 0, none⟩))), (4, (.pointer (some ⟨b6, 0, none⟩))), (5, (.pointer (some ⟨b9, 0, none⟩))), (8, (.pointer (some ⟨g200_2, 0, none⟩))), (9, (.pointer (some ⟨g200_3, 0, none⟩))), (10, (.int .i64 s9763.2.2.1)), (11, (.int .i64 s9763.2.2.2.1)), (12, (.int .i64 s9763.2.2.2.2))]) (fun (s9763 : List (List Int) × List (List Int) × Int × Int × Int) (_ : Unit) w' => Cx w0 fp0 S0 w' [Bx b3 [(.int .i64 m__0), (m__1h).v], Es (List (List Int)) m__1 m__1h, Bx b6 [(.int .i64 0), (.slice none 0 0)], Bx b9 [(.int .i64 0), (.slice none 0 0)], Bx g200_2 [(.int .i64 s199_0), (g200_0).v], E (List (List Int)) s9763.1 g200_0, Bx g200_3 [(.int .i64 s199_2), (g200_1).v], E (List (List Int)) s9763.2.1 g200_1]) (s199_1, s199_3, 0, 1, 0) () hF6021 ⟨rfl, rfl, rfl, rfl, rfl, rfl, rfl, rfl, rfl, trivial⟩ (H.sel [0, 1, 2, 3, 4, 5, 6, 7] rfl) ?_
      · clear H
        rintro T9769 ⟨s9763_0, s9763_1, s9763_2, s9763_3, s9763_4⟩ _ w9768 o9770 (H : Cx w0 fp0 S0 w9768 [Bx b3 [(.int .i64 m__0), (m__1h).v], Es (List (List Int)) m__1 m__1h, Bx b6 [(.int .i64 0), (.slice none 0 0)], Bx b9 [(.int .i64 0), (.slice none 0 0)], Bx g200_2 [(.int .i64 s199_0), (g200_0).v], E (List (List Int)) s9763_0 g200_0, Bx g200_3 [(.int .i64 s199_2), (g200_1).v], E (List (List Int)) s9763_1 g200_1]) hrt hF9771
        refine sq ?_
        refine fld gok rfl rfl rfl rfl ?_
        refine load1 (H.bx 0 rfl (j := 0) rfl) ?_
        obtain ⟨a9772, e, hF9773⟩ := bindS hF9771; clear hF9771
        refine boolO e ?_; clear e
        cases a9772
        · have hF9774 := condF hF9773; clear hF9773
          have hs := Option.some.inj hF9774; subst hs; clear hF9774
          have hF9775 : some _ = some _ := congrArg some (hrt _ rfl).symm
          exact ⟨(s9763_0, s9763_1, s9763_2, s9763_3), ⟨rfl, rfl, rfl, rfl, rfl, rfl, trivial⟩, Option.some.inj hF9775, H.sel [2, 3, 4, 5, 6, 7] rfl⟩
        · have hF9776 := condT hF9773; clear hF9773
          obtain ⟨r10706, hF10708, hF10707⟩ := bindS hF9776; clear hF9776
          refine cut (fun (q10709 : List (List Int) × List (List Int) × Int × Int) => [(0, (.int .i64 p_)), (3, (.pointer (some ⟨b3, 0, none⟩))), (4, (.pointer (some ⟨b6, 0, none⟩))), (5, (.pointer (some ⟨b9, 0, none⟩))), (8, (.pointer (some ⟨g200_2, 0, none⟩))), (9, (.pointer (some ⟨g200_3, 0, none⟩))), (10, (.int .i64 q10709.2.2.1)), (11, (.int .i64 q10709.2.2.2)), (12, (.int .i64 s9763_4))]) (fun (q10709 : List (List Int) × List (List Int) × Int × Int) w' => (q10709.1, q10709.2.1, q10709.2.2.1, q10709.2.2.2) = r10706 ∧ Cx w0 fp0 S0 w' [Bx b3 [(.int .i64 m__0), (m__1h).v], Es (List (List Int)) m__1 m__1h, Bx b6 [(.int .i64 0), (.slice none 0 0)], Bx b9 [(.int .i64 0), (.slice none 0 0)], Bx g200_2 [(.int .i64 s199_0), (g200_0).v], E (List (List Int)) q10709.1 g200_0, Bx g200_3 [(.int .i64 s199_2), (g200_1).v], E (List (List Int)) q10709.2.1 g200_1]) ?_ ?_
          · skip
            obtain ⟨r10900, hF10902, hF10901⟩ := bindS hF10708; clear hF10708
            refine cut (fun (q10903 : Int) => [(0, (.int .i64 p_)), (3, (.pointer (some ⟨b3, 0, none⟩))), (4, (.pointer (some ⟨b6, 0, none⟩))), (5, (.pointer (some ⟨b9, 0, none⟩))), (8, (.pointer (some ⟨g200_2, 0, none⟩))), (9, (.pointer (some ⟨g200_3, 0, none⟩))), (10, (.int .i64 s9763_2)), (11, (.int .i64 s9763_3)), (12, (.int .i64 s9763_4)), (13, (.int .i64 q10903))]) (fun (q10903 : Int) w' => q10903 = r10900 ∧ Cx w0 fp0 S0 w' [Bx b3 [(.int .i64 m__0), (m__1h).v], Es (List (List Int)) m__1 m__1h, Bx b6 [(.int .i64 0), (.slice none 0 0)], Bx b9 [(.int .i64 0), (.slice none 0 0)], Bx g200_2 [(.int .i64 s199_0), (g200_0).v], E (List (List Int)) s9763_0 g200_0, Bx g200_3 [(.int .i64 s199_2), (g200_1).v], E (List (List Int)) s9763_1 g200_1]) ?_ ?_
            · skip
              refine loopW _ (fun (s11024 : Int) (_ : Unit) => [(0, (.int .i64 p_)), (3, (.pointer (some ⟨b3, 0, none⟩))), (4, (.pointer (some ⟨b6, 0, none⟩))), (5, (.pointer (some ⟨b9, 0, none⟩))), (8, (.pointer (some ⟨g200_2, 0, none⟩))), (9, (.pointer (some ⟨g200_3, 0, none⟩))), (10, (.int .i64 s9763_2)), (11, (.int .i64 s9763_3)), (12, (.int .i64 s9763_4)), (13, (.int .i64 s11024))]) (fun (s11024 : Int) (_ : Unit) w' => Cx w0 fp0 S0 w' [Bx b3 [(.int .i64 m__0), (m__1h).v], Es (List (List Int)) m__1 m__1h, Bx b6 [(.int .i64 0), (.slice none 0 0)], Bx b9 [(.int .i64 0), (.slice none 0 0)], Bx g200_2 [(.int .i64 s199_0), (g200_0).v], E (List (List Int)) s9763_0 g200_0, Bx g200_3 [(.int .i64 s199_2), (g200_1).v], E (List (List Int)) s9763_1 g200_1]) s9763_2 () hF10902 ⟨rfl, rfl, rfl, rfl, rfl, rfl, rfl, rfl, rfl, rfl, trivial⟩ (H.sel [0, 1, 2, 3, 4, 5, 6, 7] rfl) ?_
              · clear H
                rintro T11030 s11024 _ w11029 o11031 (H : Cx w0 fp0 S0 w11029 [Bx b3 [(.int .i64 m__0), (m__1h).v], Es (List (List Int)) m__1 m__1h, Bx b6 [(.int .i64 0), (.slice none 0 0)], Bx b9 [(.int .i64 0), (.slice none 0 0)], Bx g200_2 [(.int .i64 s199_0), (g200_0).v], E (List (List Int)) s9763_0 g200_0, Bx g200_3 [(.int .i64 s199_2), (g200_1).v], E (List (List Int)) s9763_1 g200_1]) hrt hF11032
                refine sq ?_
                obtain ⟨r11058, hF11060, hF11059⟩ := bindS hF11032; clear hF11032
                refine cut (fun (q11061 : Bool) => [(0, (.int .i64 p_)), (3, (.pointer (some ⟨b3, 0, none⟩))), (4, (.pointer (some ⟨b6, 0, none⟩))), (5, (.pointer (some ⟨b9, 0, none⟩))), (8, (.pointer (some ⟨g200_2, 0, none⟩))), (9, (.pointer (some ⟨g200_3, 0, none⟩))), (10, (.int .i64 s9763_2)), (11, (.int .i64 s9763_3)), (12, (.int .i64 s9763_4)), (13, (.int .i64 s11024)), (47, (.bool q11061))]) (fun (q11061 : Bool) w' => q11061 = r11058 ∧ Cx w0 fp0 S0 w' [Bx b3 [(.int .i64 m__0), (m__1h).v], Es (List (List Int)) m__1 m__1h, Bx b6 [(.int .i64 0), (.slice none 0 0)], Bx b9 [(.int .i64 0), (.slice none 0 0)], Bx g200_2 [(.int .i64 s199_0), (g200_0).v], E (List (List Int)) s9763_0 g200_0, Bx g200_3 [(.int .i64 s199_2), (g200_1).v], E (List (List Int)) s9763_1 g200_1]) ?_ ?_
                · skip
                  refine fld gok rfl rfl rfl rfl ?_
                  refine load1 (H.bx 4 rfl (j := 1) rfl) ?_
                  refine lenE (H.ro (α := List (List Int)) 5 rfl).len ?_
                  obtain ⟨a11062, e, hF11063⟩ := bindS hF11060; clear hF11060
                  refine boolO e ?_; clear e
                  cases a11062
                  · have hF11064 := condF hF11063; clear hF11063
                    exact ⟨false, ⟨rfl, rfl, rfl, rfl, rfl, rfl, rfl, rfl, rfl, rfl, rfl, trivial⟩, Option.some.inj hF11064, H.sel [0, 1, 2, 3, 4, 5, 6, 7] rfl⟩
                  · have hF11065 := condT hF11063; clear hF11063
                    refine fld gok rfl rfl rfl rfl ?_
                    refine load1 (H.bx 4 rfl (j := 1) rfl) ?_
                    obtain ⟨a11072, e, hF11073⟩ := bindS hF11065; clear hF11065
                    replace H := H.sel [5, 0, 1, 2, 3, 4, 6, 7] rfl
                    replace H := H.toEH (α := List Int)
                    have HH := H; clear H; obtain ⟨p11070, m11071, h11074, c11066, c11067, c11068, c11069, H⟩ := HH.peekL e; clear HH
                    clear e
                    refine idxE c11066 c11067 c11068 ?_
                    refine load1 c11069 ?_; clear c11069
                    obtain ⟨a11081, e, hF11082⟩ := bindS hF11073; clear hF11073
                    obtain ⟨p11079, m11080, c11075, c11076, c11077, c11078⟩ := (H.rh (α := List Int) 0 rfl 0 rfl).at1 e; clear e
                    refine idxE c11075 c11076 c11077 ?_; clear c11075 c11076 c11077
                    refine load1 c11078 ?_; clear c11078
                    obtain ⟨a11083, e, hF11084⟩ := bindS hF11082; clear hF11082
                    refine boolO e ?_; clear e
                    replace H := H.ofEH
                    exact ⟨a11083, ⟨rfl, rfl, rfl, rfl, rfl, rfl, rfl, rfl, rfl, rfl, rfl, trivial⟩, Option.some.inj hF11084, H.sel [1, 2, 3, 4, 5, 0, 6, 7] rfl⟩
                · clear hF11060 H
                  rintro T11086 s11056 w11085 ⟨hr, (H : Cx w0 fp0 S0 w11085 [Bx b3 [(.int .i64 m__0), (m__1h).v], Es (List (List Int)) m__1 m__1h, Bx b6 [(.int .i64 0), (.slice none 0 0)], Bx b9 [(.int .i64 0), (.slice none 0 0)], Bx g200_2 [(.int .i64 s199_0), (g200_0).v], E (List (List Int)) s9763_0 g200_0, Bx g200_3 [(.int .i64 s199_2), (g200_1).v], E (List (List Int)) s9763_1 g200_1])⟩
                  subst hr
                  cases s11056
                  · have hF11087 := condF hF11059; clear hF11059
                    have hs := Option.some.inj hF11087; subst hs; clear hF11087
                    have hF11088 : some _ = some _ := congrArg some (hrt _ rfl).symm
                    exact ⟨s11024, ⟨rfl, rfl, rfl, rfl, rfl, rfl, rfl, rfl, rfl, rfl, trivial⟩, Option.some.inj hF11088, H.sel [0, 1, 2, 3, 4, 5, 6, 7] rfl⟩
                  · have hF11089 := condT hF11059; clear hF11059
                    obtain ⟨a11090, e, hF11091⟩ := bindS hF11089; clear hF11089
                    refine arO e ?_; clear e
                    have hs := Option.some.inj hF11091; subst hs; clear hF11091
                    exact ⟨a11090, (), rfl, ⟨rfl, rfl, rfl, rfl, rfl, rfl, rfl, rfl, rfl, rfl, trivial⟩, H.sel [0, 1, 2, 3, 4, 5, 6, 7] rfl⟩
            · clear hF10902 H
              rintro T11093 s10898 w11092 ⟨hr, (H : Cx w0 fp0 S0 w11092 [Bx b3 [(.int .i64 m__0), (m__1h).v], Es (List (List Int)) m__1 m__1h, Bx b6 [(.int .i64 0), (.slice none 0 0)], Bx b9 [(.int .i64 0), (.slice none 0 0)], Bx g200_2 [(.int .i64 s199_0), (g200_0).v], E (List (List Int)) s9763_0 g200_0, Bx g200_3 [(.int .i64 s199_2), (g200_1).v], E (List (List Int)) s9763_1 g200_1])⟩
              subst hr
              refine sq ?_
              refine fld gok rfl rfl rfl rfl ?_
              refine load1 (H.bx 4 rfl (j := 1) rfl) ?_
              refine lenE (H.ro (α := List (List Int)) 5 rfl).len ?_
              obtain ⟨a11094, e, hF11095⟩ := bindS hF10901; clear hF10901
              refine boolO e ?_; clear e
              cases a11094
              · have hF11096 := condF hF11095; clear hF11095
                obtain ⟨r11177, hF11179, hF11178⟩ := bindS hF11096; clear hF11096
                refine cut (fun (q11180 : List (List Int) × List (List Int) × Int) => [(0, (.int .i64 p_)), (3, (.pointer (some ⟨b3, 0, none⟩))), (4, (.pointer (some ⟨b6, 0, none⟩))), (5, (.pointer (some ⟨b9, 0, none⟩))), (8, (.pointer (some ⟨g200_2, 0, none⟩))), (9, (.pointer (some ⟨g200_3, 0, none⟩))), (10, (.int .i64 s9763_2)), (11, (.int .i64 q11180.2.2)), (12, (.int .i64 s9763_4))]) (fun (q11180 : List (List Int) × List (List Int) × Int) w' => (q11180.1, q11180.2.1, q11180.2.2) = r11177 ∧ Cx w0 fp0 S0 w' [Bx b3 [(.int .i64 m__0), (m__1h).v], Es (List (List Int)) m__1 m__1h, Bx b6 [(.int .i64 0), (.slice none 0 0)], Bx b9 [(.int .i64 0), (.slice none 0 0)], Bx g200_2 [(.int .i64 s199_0), (g200_0).v], E (List (List Int)) q11180.1 g200_0, Bx g200_3 [(.int .i64 s199_2), (g200_1).v], E (List (List Int)) q11180.2.1 g200_1]) ?_ ?_
                · skip
                  obtain ⟨a11181, e, hF11182⟩ := bindS hF11179; clear hF11179
                  refine boolO e ?_; clear e
                  cases a11181
                  · have hF11183 := condF hF11182; clear hF11182
                    exact ⟨(s9763_0, s9763_1, s9763_3), ⟨rfl, rfl, rfl, rfl, rfl, rfl, rfl, rfl, rfl, trivial⟩, Option.some.inj hF11183, H.sel [0, 1, 2, 3, 4, 5, 6, 7] rfl⟩
                  · have hF11184 := condT hF11182; clear hF11182
                    refine heldX H [] (.fst 0 (.fst 2 (.fst 5 (.fst 7 (.fst 1 (.fst 3 (.fst 4 (.fst 10 (.fst 6 (.fst 8 (.fst 9 (.fst 11 .done)))))))))))) mixed [] trivial (by kernel_rfl) ?_
                    clear H; intro w11185 H
                    have hX : Ext w11185 w11185 := Upd.refl _ _
                    have H0 := H
                    refine anyH (fun _ => fld gok rfl rfl rfl rfl ⟨rfl, rfl⟩) ?_
                    refine anyH (fun _ => fld gok rfl rfl rfl rfl ⟨rfl, rfl⟩) ?_
                    refine load1X (H.bx 4 rfl (j := 1) rfl) ?_
                    obtain ⟨a11192, e, hF11193⟩ := bindS hF11184; clear hF11184
                    replace H := H.sel [5, 0, 1, 2, 3, 4, 6, 7] rfl
                    replace H := H.toEH (α := List Int)
                    have HH := H; clear H; obtain ⟨p11190, m11191, h11194, c11186, c11187, c11188, c11189, H⟩ := HH.peekL e; clear HH
                    clear e
                    refine idxE c11186 c11187 c11188 ?_
                    refine load1X c11189 ?_; clear c11189
                    refine load1X (H.bx 6 rfl (j := 1) rfl) ?_
                    obtain ⟨a11201, e, hF11202⟩ := bindS hF11193; clear hF11193
                    replace H := H.sel [7, 0, 1, 2, 3, 4, 5, 6] rfl
                    replace H := H.toEH (α := List Int)
                    have HH := H; clear H; obtain ⟨p11199, m11200, h11203, c11195, c11196, c11197, c11198, H⟩ := HH.peekL e; clear HH
                    clear e
                    refine idxE c11195 c11196 c11197 ?_
                    refine load1X c11198 ?_; clear c11198
                    refine heldX H [9] (.fst 0 (.fst 2 (.fst 3 (.fst 5 (.fst 1 (.fst 4 (.fst 6 (.fst 7 (.fst 8 (.act 9 .done)))))))))) mixed [] trivial (by kernel_rfl) ?_
                    clear H; intro w11204 H
                    have hX : Ext w11204 w11204 := Upd.refl _ _
                    have H0 := H
                    refine anyH (fun _ => fld gok rfl rfl rfl rfl ⟨rfl, rfl⟩) ?_
                    refine anyH (fun _ => fld gok rfl rfl rfl rfl ⟨rfl, rfl⟩) ?_
                    refine load1X (H.bx 6 rfl (j := 1) rfl) ?_
                    refine load1X (H.bx 6 rfl (j := 1) rfl) ?_
                    obtain ⟨a11211, e, hF11212⟩ := bindS hF11202; clear hF11202
                    replace H := H.sel [1, 0, 2, 3, 4, 5, 6, 7] rfl
                    have HH := H; clear H; obtain ⟨p11209, m11210, h11213, c11205, c11206, c11207, c11208, H⟩ := HH.peekL e; clear HH
                    clear e
                    refine idxE c11205 c11206 c11207 ?_
                    refine load1X c11208 ?_; clear c11208
                    refine idxE c11186 c11187 c11188 ?_
                    refine stZ1 (ki := 1) (kj := 0) H rfl rfl c11186 ?_; clear H; intro w11220 H
                    replace H : Cx w0 fp0 S0 w11220 [EZ (List Int) m11191 m11210 a11192 a11211 h11194 h11213 s9763_0 g200_0, EH (List Int) s9763_1 g200_1 [⟨m11200, a11201, h11203⟩], Bx b3 [(.int .i64 m__0), (m__1h).v], Es (List (List Int)) m__1 m__1h, Bx b6 [(.int .i64 0), (.slice none 0 0)], Bx b9 [(.int .i64 0), (.slice none 0 0)], Bx g200_2 [(.int .i64 s199_0), (g200_0).v], Bx g200_3 [(.int .i64 s199_2), (g200_1).v]] := H
                    refine hold trivial ?_
                    refine heldX H [9] (.fst 0 (.fst 2 (.fst 3 (.fst 5 (.fst 1 (.fst 4 (.fst 6 (.fst 7 (.fst 8 (.act 9 .done)))))))))) mixed [] trivial (by kernel_rfl) ?_
                    clear H; intro w11221 H
                    have hX : Ext w11221 w11221 := Upd.refl _ _
                    have H0 := H
                    refine anyH (fun _ => fld gok rfl rfl rfl rfl ⟨rfl, rfl⟩) ?_
                    refine anyH (fun _ => fld gok rfl rfl rfl rfl ⟨rfl, rfl⟩) ?_
                    refine load1X (H.bx 7 rfl (j := 1) rfl) ?_
                    refine load1X (H.bx 7 rfl (j := 1) rfl) ?_
                    obtain ⟨a11228, e, hF11229⟩ := bindS hF11212; clear hF11212
                    replace H := H.sel [1, 0, 2, 3, 4, 5, 6, 7] rfl
                    have HH := H; clear H; obtain ⟨p11226, m11227, h11230, c11222, c11223, c11224, c11225, H⟩ := HH.peekL e; clear HH
                    clear e
                    refine idxE c11222 c11223 c11224 ?_
                    refine load1X c11225 ?_; clear c11225
                    refine idxE c11195 c11196 c11197 ?_
                    refine stZ1 (ki := 1) (kj := 0) H rfl rfl c11195 ?_; clear H; intro w11237 H
                    replace H : Cx w0 fp0 S0 w11237 [EZ (List Int) m11200 m11227 a11201 a11228 h11203 h11230 s9763_1 g200_1, EZ (List Int) m11191 m11210 a11192 a11211 h11194 h11213 s9763_0 g200_0, Bx b3 [(.int .i64 m__0), (m__1h).v], Es (List (List Int)) m__1 m__1h, Bx b6 [(.int .i64 0), (.slice none 0 0)], Bx b9 [(.int .i64 0), (.slice none 0 0)], Bx g200_2 [(.int .i64 s199_0), (g200_0).v], Bx g200_3 [(.int .i64 s199_2), (g200_1).v]] := H
                    refine hold trivial ?_
                    refine fld gok rfl rfl rfl rfl ?_
                    refine load1 (H.bx 6 rfl (j := 1) rfl) ?_
                    refine idxE c11205 c11206 c11207 ?_
                    replace H := H.sel [1, 0, 2, 3, 4, 5, 6, 7] rfl
                    obtain ⟨a11245, e, hF11246⟩ := bindS hF11229; clear hF11229
                    refine stZ2 H c11187 c11206 c11205 e ?_; clear H e; intro w11244 H
                    refine fld gok rfl rfl rfl rfl ?_
                    refine load1 (H.bx 7 rfl (j := 1) rfl) ?_
                    refine idxE c11222 c11223 c11224 ?_
                    replace H := H.sel [1, 0, 2, 3, 4, 5, 6, 7] rfl
                    obtain ⟨a11254, e, hF11255⟩ := bindS hF11246; clear hF11246
                    refine stZ2 H c11196 c11223 c11222 e ?_; clear H e; intro w11253 H
                    obtain ⟨y11256, e, hF11257⟩ := bindS hF11255; clear hF11255
                    have ey11256 := e; clear e
                    refine callF (spec_fdNeg_c p_ s9763_3 y11256 ey11256) (Γi := []) H trivial ?_; clear H ey11256
                    rintro _ _ w11258 ⟨rfl, rfl⟩ (H : Cx w0 fp0 S0 w11258 [E (List (List Int)) a11254 g200_1, E (List (List Int)) a11245 g200_0, Bx b3 [(.int .i64 m__0), (m__1h).v], Es (List (List Int)) m__1 m__1h, Bx b6 [(.int .i64 0), (.slice none 0 0)], Bx b9 [(.int .i64 0), (.slice none 0 0)], Bx g200_2 [(.int .i64 s199_0), (g200_0).v], Bx g200_3 [(.int .i64 s199_2), (g200_1).v]])
                    exact ⟨(a11245, a11254, y11256), ⟨rfl, rfl, rfl, rfl, rfl, rfl, rfl, rfl, rfl, trivial⟩, Option.some.inj hF11257, H.sel [2, 3, 4, 5, 6, 1, 7, 0] rfl⟩
                · clear hF11179 H
                  rintro T11260 ⟨s11175_0, s11175_1, s11175_2⟩ w11259 ⟨hr, (H : Cx w0 fp0 S0 w11259 [Bx b3 [(.int .i64 m__0), (m__1h).v], Es (List (List Int)) m__1 m__1h, Bx b6 [(.int .i64 0), (.slice none 0 0)], Bx b9 [(.int .i64 0), (.slice none 0 0)], Bx g200_2 [(.int .i64 s199_0), (g200_0).v], E (List (List Int)) s11175_0 g200_0, Bx g200_3 [(.int .i64 s199_2), (g200_1).v], E (List (List Int)) s11175_1 g200_1])⟩
                  subst hr
                  refine fld gok rfl rfl rfl rfl ?_
                  refine load1 (H.bx 4 rfl (j := 1) rfl) ?_
                  obtain ⟨a11267, e, hF11268⟩ := bindS hF11178; clear hF11178
                  replace H := H.sel [5, 0, 1, 2, 3, 4, 6, 7] rfl
                  replace H := H.toEH (α := List Int)
                  have HH := H; clear H; obtain ⟨p11265, m11266, h11269, c11261, c11262, c11263, c11264, H⟩ := HH.peekL e; clear HH
                  clear e
                  refine idxE c11261 c11262 c11263 ?_
                  refine load1 c11264 ?_; clear c11264
                  obtain ⟨a11276, e, hF11277⟩ := bindS hF11268; clear hF11268
                  obtain ⟨p11274, m11275, c11270, c11271, c11272, c11273⟩ := (H.rh (α := List Int) 0 rfl 0 rfl).at1 e; clear e
                  refine idxE c11270 c11271 c11272 ?_; clear c11270 c11271 c11272
                  refine load1 c11273 ?_; clear c11273
                  replace H := H.ofEH
                  obtain ⟨y11278, e, hF11279⟩ := bindS hF11277; clear hF11277
                  have ey11278 := e; clear e
                  refine callF (spec_fdMul_c p_ s11175_2 a11276 y11278 ey11278) (Γi := []) H trivial ?_; clear H ey11278
                  rintro _ _ w11280 ⟨rfl, rfl⟩ (H : Cx w0 fp0 S0 w11280 [E (List (List Int)) s11175_0 g200_0, Bx b3 [(.int .i64 m__0), (m__1h).v], Es (List (List Int)) m__1 m__1h, Bx b6 [(.int .i64 0), (.slice none 0 0)], Bx b9 [(.int .i64 0), (.slice none 0 0)], Bx g200_2 [(.int .i64 s199_0), (g200_0).v], Bx g200_3 [(.int .i64 s199_2), (g200_1).v], E (List (List Int)) s11175_1 g200_1])
                  refine heldX H [9] (.fst 0 (.fst 1 (.fst 3 (.fst 6 (.fst 7 (.fst 2 (.fst 4 (.fst 5 (.act 8 (.act 9 .done)))))))))) mixed [] trivial (by kernel_rfl) ?_
                  clear H; intro w11281 H
                  have hX : Ext w11281 w11281 := Upd.refl _ _
                  have H0 := H
                  refine anyH (fun _ => fld gok rfl rfl rfl rfl ⟨rfl, rfl⟩) ?_
                  refine load1X (H.bx 5 rfl (j := 1) rfl) ?_
                  obtain ⟨a11288, e, hF11289⟩ := bindS hF11279; clear hF11279
                  replace H := H.toEH (α := List Int)
                  have HH := H; clear H; obtain ⟨p11286, m11287, h11290, c11282, c11283, c11284, c11285, H⟩ := HH.peekL e; clear HH
                  clear e
                  refine idxE c11282 c11283 c11284 ?_
                  refine load1X c11285 ?_; clear c11285
                  obtain ⟨y11291, e, hF11292⟩ := bindS hF11289; clear hF11289
                  have ey11291 := e; clear e
                  refine callFx (spec_fdInv_c p_ a11276 y11291 ey11291) H trivial ?_; clear H ey11291
                  rintro _ _ w11293 ⟨rfl, rfl⟩ hx (H : Cx w0 fp0 S0 w11293 [EH (List Int) s11175_0 g200_0 [⟨m11287, a11288, h11290⟩], Bx b3 [(.int .i64 m__0), (m__1h).v], Es (List (List Int)) m__1 m__1h, Bx b6 [(.int .i64 0), (.slice none 0 0)], Bx b9 [(.int .i64 0), (.slice none 0 0)], Bx g200_2 [(.int .i64 s199_0), (g200_0).v], Bx g200_3 [(.int .i64 s199_2), (g200_1).v], E (List (List Int)) s11175_1 g200_1])
                  replace hX := hX.trans0 hx; clear hx
                  refine hold hX ?_
                  obtain ⟨y11294, e, hF11295⟩ := bindS hF11292; clear hF11292
                  have ey11294 := e; clear e
                  replace H := H.takeK 0 rfl
                  refine callF (spec_mxScale_c p_ a11288 h11290 y11291 y11294 ey11294) (Γi := [E (List Int) a11288 h11290]) H trivial ?_; clear H ey11294
                  rintro _ _ w11297 ⟨rfl, rfl⟩ (H : Cx w0 fp0 S0 w11297 [E (List Int) y11294 h11290, EX (List Int) m11287 [(h11290).v] s11175_0 g200_0, Bx b3 [(.int .i64 m__0), (m__1h).v], Es (List (List Int)) m__1 m__1h, Bx b6 [(.int .i64 0), (.slice none 0 0)], Bx b9 [(.int .i64 0), (.slice none 0 0)], Bx g200_2 [(.int .i64 s199_0), (g200_0).v], Bx g200_3 [(.int .i64 s199_2), (g200_1).v], E (List (List Int)) s11175_1 g200_1])
                  obtain ⟨a11298, e, hF11299⟩ := bindS hF11295; clear hF11295
                  replace H := H.put c11283 e; clear e
                  refine hold trivial ?_
                  refine heldX H [9] (.fst 0 (.fst 1 (.fst 3 (.fst 6 (.fst 7 (.fst 2 (.fst 4 (.fst 5 (.act 8 (.act 9 .done)))))))))) mixed [] trivial (by kernel_rfl) ?_
                  clear H; intro w11300 H
                  have hX : Ext w11300 w11300 := Upd.refl _ _
                  have H0 := H
                  refine anyH (fun _ => fld gok rfl rfl rfl rfl ⟨rfl, rfl⟩) ?_
                  refine load1X (H.bx 6 rfl (j := 1) rfl) ?_
                  obtain ⟨a11307, e, hF11308⟩ := bindS hF11299; clear hF11299
                  replace H := H.sel [7, 0, 1, 2, 3, 4, 5, 6] rfl
                  replace H := H.toEH (α := List Int)
                  have HH := H; clear H; obtain ⟨p11305, m11306, h11309, c11301, c11302, c11303, c11304, H⟩ := HH.peekL e; clear HH
                  clear e
                  refine idxE c11301 c11302 c11303 ?_
                  refine load1X c11304 ?_; clear c11304
                  obtain ⟨y11310, e, hF11311⟩ := bindS hF11308; clear hF11308
                  have ey11310 := e; clear e
                  refine callFx (spec_fdInv_c p_ a11276 y11310 ey11310) H trivial ?_; clear H ey11310
                  rintro _ _ w11312 ⟨rfl, rfl⟩ hx (H : Cx w0 fp0 S0 w11312 [EH (List Int) s11175_1 g200_1 [⟨m11306, a11307, h11309⟩], E (List (List Int)) a11298 g200_0, Bx b3 [(.int .i64 m__0), (m__1h).v], Es (List (List Int)) m__1 m__1h, Bx b6 [(.int .i64 0), (.slice none 0 0)], Bx b9 [(.int .i64 0), (.slice none 0 0)], Bx g200_2 [(.int .i64 s199_0), (g200_0).v], Bx g200_3 [(.int .i64 s199_2), (g200_1).v]])
                  replace hX := hX.trans0 hx; clear hx
                  refine hold hX ?_
                  obtain ⟨y11313, e, hF11314⟩ := bindS hF11311; clear hF11311
                  have ey11313 := e; clear e
                  replace H := H.takeK 0 rfl
                  refine callF (spec_mxScale_c p_ a11307 h11309 y11310 y11313 ey11313) (Γi := [E (List Int) a11307 h11309]) H trivial ?_; clear H ey11313
                  rintro _ _ w11316 ⟨rfl, rfl⟩ (H : Cx w0 fp0 S0 w11316 [E (List Int) y11313 h11309, EX (List Int) m11306 [(h11309).v] s11175_1 g200_1, E (List (List Int)) a11298 g200_0, Bx b3 [(.int .i64 m__0), (m__1h).v], Es (List (List Int)) m__1 m__1h, Bx b6 [(.int .i64 0), (.slice none 0 0)], Bx b9 [(.int .i64 0), (.slice none 0 0)], Bx g200_2 [(.int .i64 s199_0), (g200_0).v], Bx g200_3 [(.int .i64 s199_2), (g200_1).v]])
                  obtain ⟨a11317, e, hF11318⟩ := bindS hF11314; clear hF11314
                  replace H := H.put c11302 e; clear e
                  refine hold trivial ?_
                  refine sq ?_
                  refine fld gok rfl rfl rfl rfl ?_
                  refine load1 (H.bx 6 rfl (j := 1) rfl) ?_
                  refine lenE (H.ro (α := List (List Int)) 1 rfl).len ?_
                  have hmx11524 := (H.ro (α := List (List Int)) 1 rfl).max
                  obtain ⟨r11525, e, hF11526⟩ := bindS hF11318; clear hF11318
                  refine loopS _ a11298.length (fun (k11319 : Nat) (s11522 : List (List Int) × List (List Int)) (_ : Unit) => [(0, (.int .i64 p_)), (3, (.pointer (some ⟨b3, 0, none⟩))), (4, (.pointer (some ⟨b6, 0, none⟩))), (5, (.pointer (some ⟨b9, 0, none⟩))), (8, (.pointer (some ⟨g200_2, 0, none⟩))), (9, (.pointer (some ⟨g200_3, 0, none⟩))), (10, (.int .i64 s9763_2)), (11, (.int .i64 y11278)), (12, (.int .i64 s9763_4)), (133, (.int .i64 ((a11298.length : Nat) : Int))), (134, (.int .i64 ((k11319 : Nat) : Int)))]) (fun _ (s11522 : List (List Int) × List (List Int)) (_ : Unit) w' => Cx w0 fp0 S0 w' [Bx b3 [(.int .i64 m__0), (m__1h).v], Es (List (List Int)) m__1 m__1h, Bx b6 [(.int .i64 0), (.slice none 0 0)], Bx b9 [(.int .i64 0), (.slice none 0 0)], Bx g200_2 [(.int .i64 s199_0), (g200_0).v], E (List (List Int)) s11522.1 g200_0, Bx g200_3 [(.int .i64 s199_2), (g200_1).v], E (List (List Int)) s11522.2 g200_1]) (a11298, a11317) () e ⟨rfl, rfl, rfl, rfl, rfl, rfl, rfl, rfl, rfl, rfl, rfl, trivial⟩ (H.sel [2, 3, 4, 5, 6, 1, 7, 0] rfl) ?_ ?_
                  · clear H e
                    rintro T11528 k11319 ⟨s11522_0, s11522_1⟩ _ w11527 o11529 hk (H : Cx w0 fp0 S0 w11527 [Bx b3 [(.int .i64 m__0), (m__1h).v], Es (List (List Int)) m__1 m__1h, Bx b6 [(.int .i64 0), (.slice none 0 0)], Bx b9 [(.int .i64 0), (.slice none 0 0)], Bx g200_2 [(.int .i64 s199_0), (g200_0).v], E (List (List Int)) s11522_0 g200_0, Bx g200_3 [(.int .i64 s199_2), (g200_1).v], E (List (List Int)) s11522_1 g200_1]) hF11530
                    refine boolE (z := true) (ltLen hk) ?_
                    refine sq ?_
                    refine sq ?_
                    refine fld gok rfl rfl rfl rfl ?_
                    refine load1 (H.bx 4 rfl (j := 1) rfl) ?_
                    obtain ⟨a11537, e, hF11538⟩ := bindS hF11530; clear hF11530
                    replace H := H.sel [5, 0, 1, 2, 3, 4, 6, 7] rfl
                    replace H := H.toEH (α := List Int)
                    have HH := H; clear H; obtain ⟨p11535, m11536, h11539, c11531, c11532, c11533, c11534, H⟩ := HH.peekL e; clear HH
                    clear e
                    refine idxE c11531 c11532 c11533 ?_
                    refine load1 c11534 ?_; clear c11534
                    obtain ⟨a11546, e, hF11547⟩ := bindS hF11538; clear hF11538
                    obtain ⟨p11544, m11545, c11540, c11541, c11542, c11543⟩ := (H.rh (α := List Int) 0 rfl 0 rfl).at1 e; clear e
                    refine idxE c11540 c11541 c11542 ?_; clear c11540 c11541 c11542
                    refine load1 c11543 ?_; clear c11543
                    replace H := H.ofEH
                    obtain ⟨r11556, hF11558, hF11557⟩ := bindS hF11547; clear hF11547
                    refine cut (fun (q11559 : Bool) => [(0, (.int .i64 p_)), (3, (.pointer (some ⟨b3, 0, none⟩))), (4, (.pointer (some ⟨b6, 0, none⟩))), (5, (.pointer (some ⟨b9, 0, none⟩))), (8, (.pointer (some ⟨g200_2, 0, none⟩))), (9, (.pointer (some ⟨g200_3, 0, none⟩))), (10, (.int .i64 s9763_2)), (11, (.int .i64 y11278)), (12, (.int .i64 s9763_4)), (17, (.int .i64 ((k11319 : Nat) : Int))), (18, (.int .i64 a11546)), (133, (.int .i64 ((a11298.length : Nat) : Int))), (134, (.int .i64 ((k11319 : Nat) : Int))), (151, (.bool q11559))]) (fun (q11559 : Bool) w' => q11559 = r11556 ∧ Cx w0 fp0 S0 w' [Bx b3 [(.int .i64 m__0), (m__1h).v], Es (List (List Int)) m__1 m__1h, Bx b6 [(.int .i64 0), (.slice none 0 0)], Bx b9 [(.int .i64 0), (.slice none 0 0)], Bx g200_2 [(.int .i64 s199_0), (g200_0).v], E (List (List Int)) s11522_0 g200_0, Bx g200_3 [(.int .i64 s199_2), (g200_1).v], E (List (List Int)) s11522_1 g200_1]) ?_ ?_
                    · skip
                      obtain ⟨a11560, e, hF11561⟩ := bindS hF11558; clear hF11558
                      refine boolO e ?_; clear e
                      cases a11560
                      · have hF11562 := condF hF11561; clear hF11561
                        exact ⟨false, ⟨rfl, rfl, rfl, rfl, rfl, rfl, rfl, rfl, rfl, rfl, rfl, rfl, rfl, rfl, trivial⟩, Option.some.inj hF11562, H.sel [1, 2, 3, 4, 5, 0, 6, 7] rfl⟩
                      · have hF11563 := condT hF11561; clear hF11561
                        obtain ⟨a11564, e, hF11565⟩ := bindS hF11563; clear hF11563
                        refine boolO e ?_; clear e
                        exact ⟨a11564, ⟨rfl, rfl, rfl, rfl, rfl, rfl, rfl, rfl, rfl, rfl, rfl, rfl, rfl, rfl, trivial⟩, Option.some.inj hF11565, H.sel [1, 2, 3, 4, 5, 0, 6, 7] rfl⟩
                    · clear hF11558 H
                      rintro T11567 s11554 w11566 ⟨hr, (H : Cx w0 fp0 S0 w11566 [Bx b3 [(.int .i64 m__0), (m__1h).v], Es (List (List Int)) m__1 m__1h, Bx b6 [(.int .i64 0), (.slice none 0 0)], Bx b9 [(.int .i64 0), (.slice none 0 0)], Bx g200_2 [(.int .i64 s199_0), (g200_0).v], E (List (List Int)) s11522_0 g200_0, Bx g200_3 [(.int .i64 s199_2), (g200_1).v], E (List (List Int)) s11522_1 g200_1])⟩
                      subst hr
                      cases s11554
                      · have hF11568 := condF hF11557; clear hF11557
                        refine arK hk hmx11524 ?_
                        have hs := Option.some.inj hF11568; subst hs; clear hF11568
                        exact ⟨(), ⟨rfl, rfl, rfl, rfl, rfl, rfl, rfl, rfl, rfl, rfl, rfl, trivial⟩, H.sel [0, 1, 2, 3, 4, 5, 6, 7] rfl⟩
                      · have hF11569 := condT hF11557; clear hF11557
                        refine heldX H [12] (.fst 0 (.fst 1 (.fst 3 (.fst 6 (.fst 8 (.fst 11 (.fst 2 (.fst 4 (.fst 5 (.fst 7 (.fst 9 (.fst 10 (.act 12 .done))))))))))))) mixed [] trivial (by kernel_rfl) ?_
                        clear H; intro w11570 H
                        have hX : Ext w11570 w11570 := Upd.refl _ _
                        have H0 := H
                        refine anyH (fun _ => fld gok rfl rfl rfl rfl ⟨rfl, rfl⟩) ?_
                        refine anyH (fun _ => fld gok rfl rfl rfl rfl ⟨rfl, rfl⟩) ?_
                        refine load1X (H.bx 4 rfl (j := 1) rfl) ?_
                        obtain ⟨a11577, e, hF11578⟩ := bindS hF11569; clear hF11569
                        replace H := H.sel [5, 0, 1, 2, 3, 4, 6, 7] rfl
                        replace H := H.toEH (α := List Int)
                        have HH := H; clear H; obtain ⟨p11575, m11576, h11579, c11571, c11572, c11573, c11574, H⟩ := HH.peekL e; clear HH
                        clear e
                        refine idxE c11571 c11572 c11573 ?_
                        refine load1X c11574 ?_; clear c11574
                        refine load1X (H.bx 5 rfl (j := 1) rfl) ?_
                        obtain ⟨a11586, e, hF11587⟩ := bindS hF11578; clear hF11578
                        have HH := H; clear H; obtain ⟨p11584, m11585, h11588, c11580, c11581, c11582, c11583, H⟩ := HH.peekL e; clear HH
                        clear e
                        refine idxE c11580 c11581 c11582 ?_
                        refine load1X c11583 ?_; clear c11583
                        obtain ⟨y11589, e, hF11590⟩ := bindS hF11587; clear hF11587
                        have ey11589 := e; clear e
                        have kn11591 := H.kn 0 rfl 0 rfl
                        obtain ⟨u11594, en11593, hF11595⟩ := bindS hF11590; clear hF11590
                        have hm11592 : m11585 ≠ m11576 := fun q => neqO_some en11593 (by omega)
                        replace H := H.takeK 1 rfl
                        refine callF (spec_mxLess_c p_ a11577 h11579 a11586 h11588 a11546 y11589 ey11589) (Γi := [E (List Int) a11577 h11579]) H ⟨Vw.ex (α := List Int) (k := ⟨m11585, a11586, h11588⟩) 0 rfl kn11591 hm11592, trivial⟩ ?_; clear H ey11589
                        rintro _ _ w11597 ⟨rfl, rfl⟩ (H : Cx w0 fp0 S0 w11597 [E (List Int) y11589 h11579, EX (List Int) m11576 [(h11579).v] s11522_0 g200_0, Bx b3 [(.int .i64 m__0), (m__1h).v], Es (List (List Int)) m__1 m__1h, Bx b6 [(.int .i64 0), (.slice none 0 0)], Bx b9 [(.int .i64 0), (.slice none 0 0)], Bx g200_2 [(.int .i64 s199_0), (g200_0).v], Bx g200_3 [(.int .i64 s199_2), (g200_1).v], E (List (List Int)) s11522_1 g200_1])
                        obtain ⟨a11598, e, hF11599⟩ := bindS hF11595; clear hF11595
                        replace H := H.put c11572 e; clear e
                        refine hold trivial ?_
                        refine heldX H [12] (.fst 0 (.fst 1 (.fst 3 (.fst 6 (.fst 8 (.fst 11 (.fst 2 (.fst 4 (.fst 5 (.fst 7 (.fst 9 (.fst 10 (.act 12 .done))))))))))))) mixed [] trivial (by kernel_rfl) ?_
                        clear H; intro w11600 H
                        have hX : Ext w11600 w11600 := Upd.refl _ _
                        have H0 := H
                        refine anyH (fun _ => fld gok rfl rfl rfl rfl ⟨rfl, rfl⟩) ?_
                        refine anyH (fun _ => fld gok rfl rfl rfl rfl ⟨rfl, rfl⟩) ?_
                        refine load1X (H.bx 6 rfl (j := 1) rfl) ?_
                        obtain ⟨a11607, e, hF11608⟩ := bindS hF11599; clear hF11599
                        replace H := H.sel [7, 0, 1, 2, 3, 4, 5, 6] rfl
                        replace H := H.toEH (α := List Int)
                        have HH := H; clear H; obtain ⟨p11605, m11606, h11609, c11601, c11602, c11603, c11604, H⟩ := HH.peekL e; clear HH
                        clear e
                        refine idxE c11601 c11602 c11603 ?_
                        refine load1X c11604 ?_; clear c11604
                        refine load1X (H.bx 7 rfl (j := 1) rfl) ?_
                        obtain ⟨a11616, e, hF11617⟩ := bindS hF11608; clear hF11608
                        have HH := H; clear H; obtain ⟨p11614, m11615, h11618, c11610, c11611, c11612, c11613, H⟩ := HH.peekL e; clear HH
                        clear e
                        refine idxE c11610 c11611 c11612 ?_
                        refine load1X c11613 ?_; clear c11613
                        obtain ⟨y11619, e, hF11620⟩ := bindS hF11617; clear hF11617
                        have ey11619 := e; clear e
                        have kn11621 := H.kn 0 rfl 0 rfl
                        obtain ⟨u11624, en11623, hF11625⟩ := bindS hF11620; clear hF11620
                        have hm11622 : m11615 ≠ m11606 := fun q => neqO_some en11623 (by omega)
                        replace H := H.takeK 1 rfl
                        refine callF (spec_mxLess_c p_ a11607 h11609 a11616 h11618 a11546 y11619 ey11619) (Γi := [E (List Int) a11607 h11609]) H ⟨Vw.ex (α := List Int) (k := ⟨m11615, a11616, h11618⟩) 0 rfl kn11621 hm11622, trivial⟩ ?_; clear H ey11619
                        rintro _ _ w11627 ⟨rfl, rfl⟩ (H : Cx w0 fp0 S0 w11627 [E (List Int) y11619 h11609, EX (List Int) m11606 [(h11609).v] s11522_1 g200_1, E (List (List Int)) a11598 g200_0, Bx b3 [(.int .i64 m__0), (m__1h).v], Es (List (List Int)) m__1 m__1h, Bx b6 [(.int .i64 0), (.slice none 0 0)], Bx b9 [(.int .i64 0), (.slice none 0 0)], Bx g200_2 [(.int .i64 s199_0), (g200_0).v], Bx g200_3 [(.int .i64 s199_2), (g200_1).v]])
                        obtain ⟨a11628, e, hF11629⟩ := bindS hF11625; clear hF11625
                        replace H := H.put c11602 e; clear e
                        refine hold trivial ?_
                        refine arK hk hmx11524 ?_
                        have hs := Option.some.inj hF11629; subst hs; clear hF11629
                        exact ⟨(), ⟨rfl, rfl, rfl, rfl, rfl, rfl, rfl, rfl, rfl, rfl, rfl, trivial⟩, H.sel [2, 3, 4, 5, 6, 1, 7, 0] rfl⟩
                  · clear H e
                    obtain ⟨s11632_0, s11632_1⟩ := r11525
                    rintro T11631 _ w11630 (H : Cx w0 fp0 S0 w11630 [Bx b3 [(.int .i64 m__0), (m__1h).v], Es (List (List Int)) m__1 m__1h, Bx b6 [(.int .i64 0), (.slice none 0 0)], Bx b9 [(.int .i64 0), (.slice none 0 0)], Bx g200_2 [(.int .i64 s199_0), (g200_0).v], E (List (List Int)) s11632_0 g200_0, Bx g200_3 [(.int .i64 s199_2), (g200_1).v], E (List (List Int)) s11632_1 g200_1])
                    refine boolE (z := false) geLen ?_
                    refine sq ?_
                    obtain ⟨a11634, e, hF11635⟩ := bindS hF11526; clear hF11526
                    refine arO e ?_; clear e
                    exact ⟨(s11632_0, s11632_1, a11634, y11278), ⟨rfl, rfl, rfl, rfl, rfl, rfl, rfl, rfl, rfl, trivial⟩, Option.some.inj hF11635, H.sel [0, 1, 2, 3, 4, 5, 6, 7] rfl⟩
              · have hF11636 := condT hF11095; clear hF11095
                exact ⟨(s9763_0, s9763_1, s9763_2, s9763_3), ⟨rfl, rfl, rfl, rfl, rfl, rfl, rfl, rfl, rfl, trivial⟩, Option.some.inj hF11636, H.sel [0, 1, 2, 3, 4, 5, 6, 7] rfl⟩
          · clear hF10708 H
            rintro T11638 ⟨s10704_0, s10704_1, s10704_2, s10704_3⟩ w11637 ⟨hr, (H : Cx w0 fp0 S0 w11637 [Bx b3 [(.int .i64 m__0), (m__1h).v], Es (List (List Int)) m__1 m__1h, Bx b6 [(.int .i64 0), (.slice none 0 0)], Bx b9 [(.int .i64 0), (.slice none 0 0)], Bx g200_2 [(.int .i64 s199_0), (g200_0).v], E (List (List Int)) s10704_0 g200_0, Bx g200_3 [(.int .i64 s199_2), (g200_1).v], E (List (List Int)) s10704_1 g200_1])⟩
            subst hr
            obtain ⟨a11639, e, hF11640⟩ := bindS hF10707; clear hF10707
            refine arO e ?_; clear e
            have hs := Option.some.inj hF11640; subst hs; clear hF11640
            exact ⟨(s10704_0, s10704_1, s10704_2, s10704_3, a11639), (), rfl, ⟨rfl, rfl, rfl, rfl, rfl, rfl, rfl, rfl, rfl, trivial⟩, H.sel [0, 1, 2, 3, 4, 5, 6, 7] rfl⟩
    · clear hF6021 H
      rintro T11642 ⟨s6017_0, s6017_1, s6017_2, s6017_3⟩ w11641 ⟨hr, (H : Cx w0 fp0 S0 w11641 [Bx b6 [(.int .i64 0), (.slice none 0 0)], Bx b9 [(.int .i64 0), (.slice none 0 0)], Bx g200_2 [(.int .i64 s199_0), (g200_0).v], E (List (List Int)) s6017_0 g200_0, Bx g200_3 [(.int .i64 s199_2), (g200_1).v], E (List (List Int)) s6017_1 g200_1])⟩
      subst hr
      refine heldX H [4, 5, 6, 7, 1, 2, 3] (.pure 1 (.pure 2 (.pure 3 (.fst 0 (.act 4 (.act 5 (.act 6 (.act 7 .done)))))))) mixed [((Addr.add ⟨g200_3, 0, none⟩ 0), (.int .i64 s199_2)), ((Addr.add ⟨g200_3, 0, none⟩ 1), (g200_1).v)] ⟨H.bx 4 rfl (j := 0) rfl, H.bx 4 rfl (j := 1) rfl, trivial⟩ (by kernel_rfl) ?_
      clear H; intro w11643 H
      have hX : Ext w11643 w11643 := Upd.refl _ _
      have H0 := H
      refine loadNW 0 [(.int .i64 s199_2), (g200_1).v] rfl ⟨rfl, rfl, trivial⟩ ?_
      refine loadNX [(.int .i64 s199_0), (g200_0).v] rfl (fun j u hj => H.bx 2 rfl hj) ?_
      refine stA gok [(.int .i64 s199_0), (g200_0).v] rfl H rfl rfl rfl ?_; clear H; intro w11644 H
      replace H : Cx w0 fp0 S0 w11644 [Bx b6 [(.int .i64 s199_0), (g200_0).v], Bx b9 [(.int .i64 0), (.slice none 0 0)], Bx g200_2 [(.int .i64 s199_0), (g200_0).v], E (List (List Int)) s6017_0 g200_0, Bx g200_3 [(.int .i64 s199_2), (g200_1).v], E (List (List Int)) s6017_1 g200_1] := H
      refine hold ⟨H.bx 4 rfl (j := 0) rfl, H.bx 4 rfl (j := 1) rfl, trivial⟩ ?_
      replace H := H.sel [1, 0, 2, 3, 4, 5] rfl
      refine stA gok [(.int .i64 s199_2), (g200_1).v] rfl H rfl rfl rfl ?_; clear H; intro w11645 H
      replace H : Cx w0 fp0 S0 w11645 [Bx b9 [(.int .i64 s199_2), (g200_1).v], Bx b6 [(.int .i64 s199_0), (g200_0).v], Bx g200_2 [(.int .i64 s199_0), (g200_0).v], E (List (List Int)) s6017_0 g200_0, Bx g200_3 [(.int .i64 s199_2), (g200_1).v], E (List (List Int)) s6017_1 g200_1] := H
      refine hold ⟨H.bx 4 rfl (j := 0) rfl, H.bx 4 rfl (j := 1) rfl, trivial⟩ ?_
      refine hold ⟨H.bx 4 rfl (j := 0) rfl, H.bx 4 rfl (j := 1) rfl, trivial⟩ ?_
      refine hold ⟨H.bx 4 rfl (j := 0) rfl, H.bx 4 rfl (j := 1) rfl, trivial⟩ ?_
      refine loadN [(.int .i64 s199_0), (g200_0).v] rfl (fun j u hj => H.bx 1 rfl hj) ?_
      refine loadN [(.int .i64 s199_2), (g200_1).v] rfl (fun j u hj => H.bx 0 rfl hj) ?_
      cases hF6020
      exact ⟨_, _, rfl, ⟨g200_0, g200_1, rfl, rfl⟩, (H.sel [3, 5] rfl).close ⟨cloE, cloE, trivial⟩⟩

theorem spec_spLead_c (v_ : List Int) (v_h : Hd) (y : Int) (hF : F_spec_spLead v_ = some y) :
    ConF Tryd.prog 88 #[(v_h).v] [Es (List Int) v_ v_h] [] (fun v Γ' => v = (.int .i64 y) ∧ Γ' = []) := by
  intro w0 S0 fp0 hI hS
  have H : Cx w0 fp0 S0 w0 [Es (List Int) v_ v_h] := Cx.start hI hS
  clear hI hS
  refine enterC (args := [_]) gok Tryd.func88 rfl _ rfl rfl rfl ?_
  obtain ⟨r138, hF140, hF139⟩ := bindS hF; clear hF
  refine cut (fun (q141 : Int) => [(3, (.int .i64 q141))]) (fun (q141 : Int) w' => q141 = r138 ∧ Cx w0 fp0 S0 w' []) ?_ ?_
  · skip
    refine loopW _ (fun (s226 : Int) (_ : Unit) => [(0, (v_h).v), (3, (.int .i64 s226))]) (fun (s226 : Int) (_ : Unit) w' => Cx w0 fp0 S0 w' [Es (List Int) v_ v_h]) 0 () hF140 ⟨rfl, rfl, trivial⟩ (H.sel [0] rfl) ?_
    · clear H
      rintro T232 s226 _ w231 o233 (H : Cx w0 fp0 S0 w231 [Es (List Int) v_ v_h]) hrt hF234
      refine sq ?_
      obtain ⟨r251, hF253, hF252⟩ := bindS hF234; clear hF234
      refine cut (fun (q254 : Bool) => [(0, (v_h).v), (3, (.int .i64 s226)), (14, (.bool q254))]) (fun (q254 : Bool) w' => q254 = r251 ∧ Cx w0 fp0 S0 w' [Es (List Int) v_ v_h]) ?_ ?_
      · skip
        refine lenE (H.rs (α := List Int) 0 rfl).len ?_
        obtain ⟨a255, e, hF256⟩ := bindS hF253; clear hF253
        refine boolO e ?_; clear e
        cases a255
        · have hF257 := condF hF256; clear hF256
          exact ⟨false, ⟨rfl, rfl, rfl, trivial⟩, Option.some.inj hF257, H.sel [0] rfl⟩
        · have hF258 := condT hF256; clear hF256
          obtain ⟨a265, e, hF266⟩ := bindS hF258; clear hF258
          obtain ⟨p263, m264, c259, c260, c261, c262⟩ := (H.rs (α := List Int) 0 rfl).at1 e; clear e
          refine idxE c259 c260 c261 ?_; clear c259 c260 c261
          refine load1 c262 ?_; clear c262
          obtain ⟨a267, e, hF268⟩ := bindS hF266; clear hF266
          refine boolO e ?_; clear e
          exact ⟨a267, ⟨rfl, rfl, rfl, trivial⟩, Option.some.inj hF268, H.sel [0] rfl⟩
      · clear hF253 H
        rintro T270 s249 w269 ⟨hr, (H : Cx w0 fp0 S0 w269 [Es (List Int) v_ v_h])⟩
        subst hr
        cases s249
        · have hF271 := condF hF252; clear hF252
          have hs := Option.some.inj hF271; subst hs; clear hF271
          have hF272 : some _ = some _ := congrArg some (hrt _ rfl).symm
          exact ⟨s226, ⟨rfl, trivial⟩, Option.some.inj hF272, H.sel [] rfl⟩
        · have hF273 := condT hF252; clear hF252
          obtain ⟨a274, e, hF275⟩ := bindS hF273; clear hF273
          refine arO e ?_; clear e
          have hs := Option.some.inj hF275; subst hs; clear hF275
          exact ⟨a274, (), rfl, ⟨rfl, rfl, trivial⟩, H.sel [0] rfl⟩
  · clear hF140 H
    rintro T277 s136 w276 ⟨hr, (H : Cx w0 fp0 S0 w276 [])⟩
    subst hr
    cases hF139
    exact ⟨_, _, rfl, ⟨rfl, rfl⟩, (H.sel [] rfl).close trivial⟩

theorem spec_mxSolve_c (p_ : Int) (m__0 : Int) (m__1 : List (List Int)) (m__1h : Hd) (b_ : List Int) (b_h : Hd) (y0 : List Int) (y1 : Bool) (hF : F_spec_mxSolve p_ (m__0, m__1) b_ = some (y0, y1)) :
    ConF Tryd.prog 107 #[(.int .i64 p_), (.agg #[(.int .i64 m__0), (m__1h).v]), (b_h).v] [Es (List (List Int)) m__1 m__1h, Es (List Int) b_ b_h] [] (fun v Γ' => ∃ z0 : Hd, v = (.tuple #[(z0).v, (.bool y1)]) ∧ Γ' = [E (List Int) y0 z0]) := by
  intro w0 S0 fp0 hI hS
  have H : Cx w0 fp0 S0 w0 [Es (List (List Int)) m__1 m__1h, Es (List Int) b_ b_h] := Cx.start hI hS
  clear hI hS
  refine enterC (args := [_, _, _]) gok Tryd.func107 rfl _ rfl rfl rfl ?_
  refine box_ H ?_; clear H; intro b4 w3 hx H
  clear hx
  replace H : Cx w0 fp0 S0 w3 [Bx b4 [(.int .i64 m__0), (m__1h).v], Es (List (List Int)) m__1 m__1h, Es (List Int) b_ b_h] := H
  refine loadN [(.int .i64 m__0), (m__1h).v] rfl (fun j u hj => H.bx 0 rfl hj) ?_
  obtain ⟨y6, e, hF7⟩ := bindS hF; clear hF
  obtain ⟨⟨y6_0_0, y6_0_1⟩, ⟨y6_1_0, y6_1_1⟩, y6_2, y6_3⟩ := y6
  have ey6 := e; clear e
  refine callF (spec_mxReduce_c p_ m__0 m__1 m__1h y6_0_0 y6_0_1 y6_1_0 y6_1_1 y6_2 y6_3 ey6) (Γi := []) H ⟨Vw.sh 1 rfl, trivial⟩ ?_; clear H ey6
  rintro _ _ w8 ⟨h9, h11, rfl, rfl⟩ (H : Cx w0 fp0 S0 w8 [E (List (List Int)) y6_0_1 h9, E (List (List Int)) y6_1_1 h11, Bx b4 [(.int .i64 m__0), (m__1h).v], Es (List (List Int)) m__1 m__1h, Es (List Int) b_ b_h])
  refine alloc_ gok rfl H ?_; clear H; intro b14 w13 hx H
  clear hx
  replace H : Cx w0 fp0 S0 w13 [Bx b14 [(.int .i64 0), (.slice none 0 0)], E (List (List Int)) y6_0_1 h9, E (List (List Int)) y6_1_1 h11, Bx b4 [(.int .i64 m__0), (m__1h).v], Es (List (List Int)) m__1 m__1h, Es (List Int) b_ b_h] := H
  refine alloc_ gok rfl H ?_; clear H; intro b17 w16 hx H
  clear hx
  replace H : Cx w0 fp0 S0 w16 [Bx b17 [(.int .i64 0), (.slice none 0 0)], Bx b14 [(.int .i64 0), (.slice none 0 0)], E (List (List Int)) y6_0_1 h9, E (List (List Int)) y6_1_1 h11, Bx b4 [(.int .i64 m__0), (m__1h).v], Es (List (List Int)) m__1 m__1h, Es (List Int) b_ b_h] := H
  replace H := H.sel [1, 0, 2, 3, 4, 5, 6] rfl
  refine stA gok [(.int .i64 y6_0_0), (h9).v] rfl H rfl rfl rfl ?_; clear H; intro w19 H
  replace H : Cx w0 fp0 S0 w19 [Bx b14 [(.int .i64 y6_0_0), (h9).v], Bx b17 [(.int .i64 0), (.slice none 0 0)], E (List (List Int)) y6_0_1 h9, E (List (List Int)) y6_1_1 h11, Bx b4 [(.int .i64 m__0), (m__1h).v], Es (List (List Int)) m__1 m__1h, Es (List Int) b_ b_h] := H
  replace H := H.sel [1, 0, 2, 3, 4, 5, 6] rfl
  refine stA gok [(.int .i64 y6_1_0), (h11).v] rfl H rfl rfl rfl ?_; clear H; intro w20 H
  replace H : Cx w0 fp0 S0 w20 [Bx b17 [(.int .i64 y6_1_0), (h11).v], Bx b14 [(.int .i64 y6_0_0), (h9).v], E (List (List Int)) y6_0_1 h9, E (List (List Int)) y6_1_1 h11, Bx b4 [(.int .i64 m__0), (m__1h).v], Es (List (List Int)) m__1 m__1h, Es (List Int) b_ b_h] := H
  obtain ⟨r58, hF60, hF59⟩ := bindS hF7; clear hF7
  refine heldJ H [] (.fst 0 (.fst 4 (.fst 1 (.fst 2 (.alts (.alt 3 (.act 5 (.fst 6 (.fst 7 .done))) (.alt 5 (.act 3 (.fst 6 (.fst 7 .done))) .no))))))) mixed [] trivial (by kernel_rfl) (fun (q61 : (List Int × List Int) × (Hd × Hd)) => [(0, (.int .i64 p_)), (8, (.pointer (some ⟨b14, 0, none⟩))), (9, (.pointer (some ⟨b17, 0, none⟩))), (10, (.int .i64 y6_2)), (12, (q61.2.1).v), (13, (q61.2.2).v)]) (fun (q61 : (List Int × List Int) × (Hd × Hd)) w' => (q61.1.1, q61.1.2) = r58 ∧ Cx w0 fp0 S0 w' [Bx b14 [(.int .i64 y6_0_0), (h9).v], E (List (List Int)) y6_0_1 h9, Bx b17 [(.int .i64 y6_1_0), (h11).v], E (List (List Int)) y6_1_1 h11, E (List Int) q61.1.1 q61.2.1, E (List Int) q61.1.2 q61.2.2]) ?_ ?_
  · skip
    clear H; intro w62 H
    have hX : Ext w62 w62 := Upd.refl _ _
    have H0 := H
    refine anyH (fun _ => fld gok rfl rfl rfl rfl ⟨rfl, rfl⟩) ?_
    refine load1X (H.bx 4 rfl (j := 1) rfl) ?_
    refine lenE (H.rs (α := List (List Int)) 5 rfl).len ?_
    refine both ?_ ?_
    · skip
      obtain ⟨a73, e, hF74⟩ := bindS hF60; clear hF60
      refine make_ (α := Int) gok rfl rfl rfl rfl (makeCO_of e) H ?_; clear e H; intro h76 w75 hx H
      replace hX := hX.trans0 hx; clear hx
      refine hold hX ?_
      obtain ⟨y78, e, hF79⟩ := bindS hF74; clear hF74
      have ey78 := e; clear e
      refine callFx (spec_l1Own_c b_ b_h y78 ey78) H ⟨Vw.sh 7 rfl, trivial⟩ ?_; clear H ey78
      rintro _ _ w80 ⟨h81, rfl, rfl⟩ hx (H : Cx w0 fp0 S0 w80 [E (List Int) y78 h81, E (List Int) a73 h76, Bx b17 [(.int .i64 y6_1_0), (h11).v], Bx b14 [(.int .i64 y6_0_0), (h9).v], E (List (List Int)) y6_0_1 h9, E (List (List Int)) y6_1_1 h11, Bx b4 [(.int .i64 m__0), (m__1h).v], Es (List (List Int)) m__1 m__1h, Es (List Int) b_ b_h])
      replace hX := hX.trans0 hx; clear hx
      refine hold hX ?_
      exact ⟨((a73, y78), (h76, h81)), ⟨rfl, rfl, rfl, rfl, rfl, rfl, trivial⟩, Option.some.inj hF79, H.sel [3, 4, 2, 5, 1, 0] rfl⟩
    · skip
      refine both ?_ ?_
      · skip
        obtain ⟨a83, eq84, hF85⟩ := bindS hF60; clear hF60
        obtain ⟨a86, eq87, hF88⟩ := bindS hF85; clear hF85
        have e := eq87; clear eq87
        have ea86 := e; clear e
        refine callFx (spec_l1Own_c b_ b_h a86 ea86) H ⟨Vw.sh 6 rfl, trivial⟩ ?_; clear H ea86
        rintro _ _ w89 ⟨h90, rfl, rfl⟩ hx (H : Cx w0 fp0 S0 w89 [E (List Int) a86 h90, Bx b17 [(.int .i64 y6_1_0), (h11).v], Bx b14 [(.int .i64 y6_0_0), (h9).v], E (List (List Int)) y6_0_1 h9, E (List (List Int)) y6_1_1 h11, Bx b4 [(.int .i64 m__0), (m__1h).v], Es (List (List Int)) m__1 m__1h, Es (List Int) b_ b_h])
        replace hX := hX.trans0 hx; clear hx
        refine hold hX ?_
        have e := eq84; clear eq84
        refine make_ (α := Int) gok rfl rfl rfl rfl (makeCO_of e) H ?_; clear e H; intro h93 w92 hx H
        replace hX := hX.trans0 hx; clear hx
        refine hold hX ?_
        exact ⟨((a83, a86), (h93, h90)), ⟨rfl, rfl, rfl, rfl, rfl, rfl, trivial⟩, Option.some.inj hF88, H.sel [3, 4, 2, 5, 0, 1] rfl⟩
      · skip
        exact trivial
  · clear hF60 H
    rintro T96 ⟨⟨s54_0, s54_1⟩, ⟨g55_0, g55_1⟩⟩ w95 ⟨hr, (H : Cx w0 fp0 S0 w95 [Bx b14 [(.int .i64 y6_0_0), (h9).v], E (List (List Int)) y6_0_1 h9, Bx b17 [(.int .i64 y6_1_0), (h11).v], E (List (List Int)) y6_1_1 h11, E (List Int) s54_0 g55_0, E (List Int) s54_1 g55_1])⟩
    subst hr
    obtain ⟨r275, hF277, hF276⟩ := bindS hF59; clear hF59
    refine cut (fun (q278 : List Int × List Int) => [(12, (g55_0).v), (13, (g55_1).v)]) (fun (q278 : List Int × List Int) w' => (q278.1, q278.2) = r275 ∧ Cx w0 fp0 S0 w' [E (List Int) q278.1 g55_0, E (List Int) q278.2 g55_1]) ?_ ?_
    · skip
      refine loopW _ (fun (s391 : List Int × List Int × Int) (_ : Unit) => [(0, (.int .i64 p_)), (8, (.pointer (some ⟨b14, 0, none⟩))), (9, (.pointer (some ⟨b17, 0, none⟩))), (10, (.int .i64 y6_2)), (12, (g55_0).v), (13, (g55_1).v), (14, (.int .i64 s391.2.2))]) (fun (s391 : List Int × List Int × Int) (_ : Unit) w' => Cx w0 fp0 S0 w' [Bx b14 [(.int .i64 y6_0_0), (h9).v], E (List (List Int)) y6_0_1 h9, Bx b17 [(.int .i64 y6_1_0), (h11).v], E (List (List Int)) y6_1_1 h11, E (List Int) s391.1 g55_0, E (List Int) s391.2.1 g55_1]) (s54_0, s54_1, 0) () hF277 ⟨rfl, rfl, rfl, rfl, rfl, rfl, rfl, trivial⟩ (H.sel [0, 1, 2, 3, 4, 5] rfl) ?_
      · clear H
        rintro T397 ⟨s391_0, s391_1, s391_2⟩ _ w396 o398 (H : Cx w0 fp0 S0 w396 [Bx b14 [(.int .i64 y6_0_0), (h9).v], E (List (List Int)) y6_0_1 h9, Bx b17 [(.int .i64 y6_1_0), (h11).v], E (List (List Int)) y6_1_1 h11, E (List Int) s391_0 g55_0, E (List Int) s391_1 g55_1]) hrt hF399
        refine sq ?_
        obtain ⟨a400, e, hF401⟩ := bindS hF399; clear hF399
        refine boolO e ?_; clear e
        cases a400
        · have hF402 := condF hF401; clear hF401
          have hs := Option.some.inj hF402; subst hs; clear hF402
          have hF403 : some _ = some _ := congrArg some (hrt _ rfl).symm
          exact ⟨(s391_0, s391_1), ⟨rfl, rfl, trivial⟩, Option.some.inj hF403, H.sel [4, 5] rfl⟩
        · have hF404 := condT hF401; clear hF401
          refine sq ?_
          refine fld gok rfl rfl rfl rfl ?_
          refine load1 (H.bx 0 rfl (j := 1) rfl) ?_
          obtain ⟨a411, e, hF412⟩ := bindS hF404; clear hF404
          replace H := H.sel [1, 0, 2, 3, 4, 5] rfl
          replace H := H.toEH (α := List Int)
          have HH := H; clear H; obtain ⟨p409, m410, h413, c405, c406, c407, c408, H⟩ := HH.peekL e; clear HH
          clear e
          refine idxE c405 c406 c407 ?_
          refine load1 c408 ?_; clear c408
          obtain ⟨y414, e, hF415⟩ := bindS hF412; clear hF412
          have ey414 := e; clear e
          refine callF (spec_spLead_c a411 h413 y414 ey414) (Γi := []) H ⟨Vw.eh (α := List Int) (k := ⟨m410, a411, h413⟩) 0 rfl 0 rfl, trivial⟩ ?_; clear H ey414
          rintro _ _ w416 ⟨rfl, rfl⟩ (H : Cx w0 fp0 S0 w416 [EH (List Int) y6_0_1 h9 [⟨m410, a411, h413⟩], Bx b14 [(.int .i64 y6_0_0), (h9).v], Bx b17 [(.int .i64 y6_1_0), (h11).v], E (List (List Int)) y6_1_1 h11, E (List Int) s391_0 g55_0, E (List Int) s391_1 g55_1])
          obtain ⟨a423, e, hF424⟩ := bindS hF415; clear hF415
          obtain ⟨p421, m422, c417, c418, c419, c420⟩ := (H.ro (α := List Int) 5 rfl).at1 e; clear e
          refine idxE c417 c418 c419 ?_; clear c417 c418 c419
          refine load1 c420 ?_; clear c420
          replace H := H.ofEH
          refine fld gok rfl rfl rfl rfl ?_
          refine load1 (H.bx 1 rfl (j := 1) rfl) ?_
          obtain ⟨a431, e, hF432⟩ := bindS hF424; clear hF424
          replace H := H.toEH (α := List Int)
          have HH := H; clear H; obtain ⟨p429, m430, h433, c425, c426, c427, c428, H⟩ := HH.peekL e; clear HH
          clear e
          refine idxE c425 c426 c427 ?_
          refine load1 c428 ?_; clear c428
          obtain ⟨y434, e, hF435⟩ := bindS hF432; clear hF432
          have ey434 := e; clear e
          replace H := H.sel [5, 0, 1, 2, 3, 4] rfl
          refine callF (spec_mxLess_c p_ s391_1 g55_1 a431 h433 a423 y434 ey434) (Γi := [E (List Int) s391_1 g55_1]) H ⟨Vw.eh (α := List Int) (k := ⟨m430, a431, h433⟩) 0 rfl 0 rfl, trivial⟩ ?_; clear H ey434
          rintro _ _ w436 ⟨rfl, rfl⟩ (H : Cx w0 fp0 S0 w436 [E (List Int) y434 g55_1, EH (List Int) y6_0_1 h9 [⟨m430, a431, h433⟩], Bx b14 [(.int .i64 y6_0_0), (h9).v], Bx b17 [(.int .i64 y6_1_0), (h11).v], E (List (List Int)) y6_1_1 h11, E (List Int) s391_0 g55_0])
          replace H := H.sel [1, 0, 2, 3, 4, 5] rfl
          replace H := H.ofEH
          refine heldX H [10] (.fst 0 (.fst 1 (.fst 2 (.fst 4 (.fst 7 (.fst 8 (.fst 3 (.fst 5 (.fst 6 (.act 9 (.act 10 .done))))))))))) mixed [] trivial (by kernel_rfl) ?_
          clear H; intro w437 H
          have hX : Ext w437 w437 := Upd.refl _ _
          have H0 := H
          refine anyH (fun _ => fld gok rfl rfl rfl rfl ⟨rfl, rfl⟩) ?_
          refine load1X (H.bx 3 rfl (j := 1) rfl) ?_
          obtain ⟨a444, e, hF445⟩ := bindS hF435; clear hF435
          replace H := H.sel [4, 0, 1, 2, 3, 5] rfl
          replace H := H.toEH (α := List Int)
          have HH := H; clear H; obtain ⟨p442, m443, h446, c438, c439, c440, c441, H⟩ := HH.peekL e; clear HH
          clear e
          refine idxE c438 c439 c440 ?_
          refine load1X c441 ?_; clear c441
          obtain ⟨y447, e, hF448⟩ := bindS hF445; clear hF445
          have ey447 := e; clear e
          refine callFx (spec_fdNeg_c p_ a423 y447 ey447) H trivial ?_; clear H ey447
          rintro _ _ w449 ⟨rfl, rfl⟩ hx (H : Cx w0 fp0 S0 w449 [EH (List Int) y6_1_1 h11 [⟨m443, a444, h446⟩], E (List (List Int)) y6_0_1 h9, E (List Int) y434 g55_1, Bx b14 [(.int .i64 y6_0_0), (h9).v], Bx b17 [(.int .i64 y6_1_0), (h11).v], E (List Int) s391_0 g55_0])
          replace hX := hX.trans0 hx; clear hx
          refine hold hX ?_
          obtain ⟨y450, e, hF451⟩ := bindS hF448; clear hF448
          have ey450 := e; clear e
          replace H := H.sel [5, 0, 1, 2, 3, 4] rfl
          refine callF (spec_mxLess_c p_ s391_0 g55_0 a444 h446 y447 y450 ey450) (Γi := [E (List Int) s391_0 g55_0]) H ⟨Vw.eh (α := List Int) (k := ⟨m443, a444, h446⟩) 0 rfl 0 rfl, trivial⟩ ?_; clear H ey450
          rintro _ _ w452 ⟨rfl, rfl⟩ (H : Cx w0 fp0 S0 w452 [E (List Int) y450 g55_0, EH (List Int) y6_1_1 h11 [⟨m443, a444, h446⟩], E (List (List Int)) y6_0_1 h9, E (List Int) y434 g55_1, Bx b14 [(.int .i64 y6_0_0), (h9).v], Bx b17 [(.int .i64 y6_1_0), (h11).v]])
          refine hold trivial ?_
          replace H := H.sel [1, 0, 2, 3, 4, 5] rfl
          replace H := H.ofEH
          obtain ⟨a453, e, hF454⟩ := bindS hF451; clear hF451
          refine arO e ?_; clear e
          have hs := Option.some.inj hF454; subst hs; clear hF454
          exact ⟨(y450, y434, a453), (), rfl, ⟨rfl, rfl, rfl, rfl, rfl, rfl, rfl, trivial⟩, H.sel [4, 2, 5, 0, 1, 3] rfl⟩
    · clear hF277 H
      rintro T456 ⟨s273_0, s273_1⟩ w455 ⟨hr, (H : Cx w0 fp0 S0 w455 [E (List Int) s273_0 g55_0, E (List Int) s273_1 g55_1])⟩
      subst hr
      obtain ⟨y457, e, hF458⟩ := bindS hF276; clear hF276
      have ey457 := e; clear e
      refine callF (spec_l1All_c s273_1 g55_1 0 0 y457 ey457) (Γi := []) H ⟨Vw.own 1 rfl, trivial⟩ ?_; clear H ey457
      rintro _ _ w459 ⟨rfl, rfl⟩ (H : Cx w0 fp0 S0 w459 [E (List Int) s273_0 g55_0, E (List Int) s273_1 g55_1])
      cases hF458
      exact ⟨_, _, rfl, ⟨g55_0, rfl, rfl⟩, (H.sel [0] rfl).close ⟨cloE, trivial⟩⟩

theorem spec_SolveLinear_c (p_ : Int) (m__0 : Int) (m__1 : List (List Int)) (m__1h : Hd) (b_ : List Int) (b_h : Hd) (y0 : List Int) (y1 : Bool) (hF : F_spec_SolveLinear p_ (m__0, m__1) b_ = some (y0, y1)) :
    ConF Tryd.prog 56 #[(.int .i64 p_), (.agg #[(.int .i64 m__0), (m__1h).v]), (b_h).v] [Es (List (List Int)) m__1 m__1h, Es (List Int) b_ b_h] [] (fun v Γ' => ∃ z0 : Hd, v = (.tuple #[(z0).v, (.bool y1)]) ∧ Γ' = [E (List Int) y0 z0]) := by
  intro w0 S0 fp0 hI hS
  have H : Cx w0 fp0 S0 w0 [Es (List (List Int)) m__1 m__1h, Es (List Int) b_ b_h] := Cx.start hI hS
  clear hI hS
  refine enterC (args := [_, _, _]) gok Tryd.func56 rfl _ rfl rfl rfl ?_
  refine box_ H ?_; clear H; intro b4 w3 hx H
  clear hx
  replace H : Cx w0 fp0 S0 w3 [Bx b4 [(.int .i64 m__0), (m__1h).v], Es (List (List Int)) m__1 m__1h, Es (List Int) b_ b_h] := H
  refine sq ?_
  obtain ⟨r24, hF26, hF25⟩ := bindS hF; clear hF
  refine cut (fun (q27 : Bool) => [(0, (.int .i64 p_)), (2, (b_h).v), (4, (.pointer (some ⟨b4, 0, none⟩))), (26, (.bool q27))]) (fun (q27 : Bool) w' => q27 = r24 ∧ Cx w0 fp0 S0 w' [Es (List Int) b_ b_h, Bx b4 [(.int .i64 m__0), (m__1h).v], Es (List (List Int)) m__1 m__1h]) ?_ ?_
  · skip
    refine loadN [(.int .i64 m__0), (m__1h).v] rfl (fun j u hj => H.bx 0 rfl hj) ?_
    obtain ⟨y28, e, hF29⟩ := bindS hF26; clear hF26
    have ey28 := e; clear e
    refine callF (spec_mxGood_c p_ m__0 m__1 m__1h y28 ey28) (Γi := []) H ⟨Vw.sh 1 rfl, trivial⟩ ?_; clear H ey28
    rintro _ _ w30 ⟨rfl, rfl⟩ (H : Cx w0 fp0 S0 w30 [Bx b4 [(.int .i64 m__0), (m__1h).v], Es (List (List Int)) m__1 m__1h, Es (List Int) b_ b_h])
    obtain ⟨a31, e, hF32⟩ := bindS hF29; clear hF29
    refine boolO e ?_; clear e
    cases a31
    · have hF33 := condF hF32; clear hF32
      refine lenE (H.rs (α := List Int) 2 rfl).len ?_
      refine fld gok rfl rfl rfl rfl ?_
      refine load1 (H.bx 0 rfl (j := 0) rfl) ?_
      obtain ⟨a34, e, hF35⟩ := bindS hF33; clear hF33
      refine boolO e ?_; clear e
      cases a34
      · have hF36 := condF hF35; clear hF35
        obtain ⟨y37, e, hF38⟩ := bindS hF36; clear hF36
        have ey37 := e; clear e
        refine callF (spec_fdIn_c p_ b_ b_h y37 ey37) (Γi := []) H ⟨Vw.sh 2 rfl, trivial⟩ ?_; clear H ey37
        rintro _ _ w39 ⟨rfl, rfl⟩ (H : Cx w0 fp0 S0 w39 [Bx b4 [(.int .i64 m__0), (m__1h).v], Es (List (List Int)) m__1 m__1h, Es (List Int) b_ b_h])
        obtain ⟨a40, e, hF41⟩ := bindS hF38; clear hF38
        refine boolO e ?_; clear e
        exact ⟨a40, ⟨rfl, rfl, rfl, rfl, trivial⟩, Option.some.inj hF41, H.sel [2, 0, 1] rfl⟩
      · have hF42 := condT hF35; clear hF35
        exact ⟨true, ⟨rfl, rfl, rfl, rfl, trivial⟩, Option.some.inj hF42, H.sel [2, 0, 1] rfl⟩
    · have hF43 := condT hF32; clear hF32
      exact ⟨true, ⟨rfl, rfl, rfl, rfl, trivial⟩, Option.some.inj hF43, H.sel [2, 0, 1] rfl⟩
  · clear hF26 H
    rintro T45 s22 w44 ⟨hr, (H : Cx w0 fp0 S0 w44 [Es (List Int) b_ b_h, Bx b4 [(.int .i64 m__0), (m__1h).v], Es (List (List Int)) m__1 m__1h])⟩
    subst hr
    cases s22
    · have hF46 := condF hF25; clear hF25
      refine loadN [(.int .i64 m__0), (m__1h).v] rfl (fun j u hj => H.bx 1 rfl hj) ?_
      obtain ⟨y47, e, hF48⟩ := bindS hF46; clear hF46
      obtain ⟨y47_0, y47_1⟩ := y47
      have ey47 := e; clear e
      refine callF (spec_mxSolve_c p_ m__0 m__1 m__1h b_ b_h y47_0 y47_1 ey47) (Γi := []) H ⟨Vw.sh 2 rfl, Vw.sh 0 rfl, trivial⟩ ?_; clear H ey47
      rintro _ _ w49 ⟨h50, rfl, rfl⟩ (H : Cx w0 fp0 S0 w49 [E (List Int) y47_0 h50, Es (List Int) b_ b_h, Bx b4 [(.int .i64 m__0), (m__1h).v], Es (List (List Int)) m__1 m__1h])
      refine sq ?_
      obtain ⟨a52, e, hF53⟩ := bindS hF48; clear hF48
      refine boolO e ?_; clear e
      cases a52
      · have hF54 := condF hF53; clear hF53
        cases hF54
        exact ⟨_, _, rfl, ⟨h50, rfl, rfl⟩, (H.sel [0] rfl).close ⟨cloE, trivial⟩⟩
      · have hF55 := condT hF53; clear hF53
        replace H := H.nil (α := Int)
        cases hF55
        exact ⟨_, _, rfl, ⟨nilH, rfl, rfl⟩, (H.sel [0] rfl).close ⟨cloE, trivial⟩⟩
    · have hF57 := condT hF25; clear hF25
      replace H := H.nil (α := Int)
      cases hF57
      exact ⟨_, _, rfl, ⟨nilH, rfl, rfl⟩, (H.sel [0] rfl).close ⟨cloE, trivial⟩⟩

theorem impl_isField_c (p_ : Int) (y : Bool) (hF : F_impl_isField p_ = some y) :
    ConF Tryd.prog 104 #[(.int .i64 p_)] [Gl 0 [.int .i64 2, .int .i64 3, .int .i64 5, .int .i64 7]] [] (fun v Γ' => v = (.bool y) ∧ Γ' = []) := by
  intro w0 S0 fp0 hI hS
  have H : Cx w0 fp0 S0 w0 [Gl 0 [.int .i64 2, .int .i64 3, .int .i64 5, .int .i64 7]] := Cx.start hI hS
  clear hI hS
  refine enterC (args := [_]) gok Tryd.func104 rfl _ rfl rfl rfl ?_
  refine sq ?_
  obtain ⟨r10, hF12, hF11⟩ := bindS hF; clear hF
  refine cut (fun (q13 : Bool) => [(0, (.int .i64 p_)), (10, (.bool q13))]) (fun (q13 : Bool) w' => q13 = r10 ∧ Cx w0 fp0 S0 w' [Gl 0 [.int .i64 2, .int .i64 3, .int .i64 5, .int .i64 7]]) ?_ ?_
  · skip
    obtain ⟨a14, e, hF15⟩ := bindS hF12; clear hF12
    refine boolO e ?_; clear e
    cases a14
    · have hF16 := condF hF15; clear hF15
      obtain ⟨a17, e, hF18⟩ := bindS hF16; clear hF16
      refine boolO e ?_; clear e
      exact ⟨a17, ⟨rfl, rfl, trivial⟩, Option.some.inj hF18, H.sel [0] rfl⟩
    · have hF19 := condT hF15; clear hF15
      exact ⟨true, ⟨rfl, rfl, trivial⟩, Option.some.inj hF19, H.sel [0] rfl⟩
  · clear hF12 H
    rintro T21 s8 w20 ⟨hr, (H : Cx w0 fp0 S0 w20 [Gl 0 [.int .i64 2, .int .i64 3, .int .i64 5, .int .i64 7]])⟩
    subst hr
    cases s8
    · have hF22 := condF hF11; clear hF11
      refine sq ?_
      refine loadN [.int .i64 2, .int .i64 3, .int .i64 5, .int .i64 7] rfl (H.gl 0 rfl) ?_
      obtain ⟨a56, hn, hF57⟩ := bindS hF22; clear hF22
      obtain ⟨r59, e, hF60⟩ := bindS hF57; clear hF57
      refine loopO _ ((4 : Int).toNat) (fun (k23 : Nat) (_ : Unit) (_ : Unit) => [(0, (.int .i64 p_)), (11, (.agg #[.int .i64 2, .int .i64 3, .int .i64 5, .int .i64 7])), (12, (.int .i64 ((k23 : Nat) : Int)))]) (fun _ (_ : Unit) (_ : Unit) w' => Cx w0 fp0 S0 w' [Gl 0 [.int .i64 2, .int .i64 3, .int .i64 5, .int .i64 7]]) () () e ⟨rfl, rfl, rfl, trivial⟩ (H.sel [0] rfl) ?_ ?_
      · clear H e
        rintro T62 k23 _ _ w61 o63 hk (H : Cx w0 fp0 S0 w61 [Gl 0 [.int .i64 2, .int .i64 3, .int .i64 5, .int .i64 7]]) hrt hF64
        refine boolE (z := true) (ltNat hk) ?_
        refine sq ?_
        refine sq ?_
        obtain ⟨a65, e, hF66⟩ := bindS hF64; clear hF64
        refine indexI gok rfl rfl rfl rfl rfl e ?_; clear e
        obtain ⟨r77, hF79, hF78⟩ := bindS hF66; clear hF66
        refine cut (fun (q80 : Bool) => [(0, (.int .i64 p_)), (11, (.agg #[.int .i64 2, .int .i64 3, .int .i64 5, .int .i64 7])), (12, (.int .i64 ((k23 : Nat) : Int))), (23, (.bool q80))]) (fun (q80 : Bool) w' => q80 = r77 ∧ Cx w0 fp0 S0 w' [Gl 0 [.int .i64 2, .int .i64 3, .int .i64 5, .int .i64 7]]) ?_ ?_
        · skip
          obtain ⟨a81, e, hF82⟩ := bindS hF79; clear hF79
          refine remO_ e ?_; clear e
          obtain ⟨a83, e, hF84⟩ := bindS hF82; clear hF82
          refine boolO e ?_; clear e
          cases a83
          · have hF85 := condF hF84; clear hF84
            exact ⟨false, ⟨rfl, rfl, rfl, rfl, trivial⟩, Option.some.inj hF85, H.sel [0] rfl⟩
          · have hF86 := condT hF84; clear hF84
            obtain ⟨a87, e, hF88⟩ := bindS hF86; clear hF86
            refine boolO e ?_; clear e
            exact ⟨a87, ⟨rfl, rfl, rfl, rfl, trivial⟩, Option.some.inj hF88, H.sel [0] rfl⟩
        · clear hF79 H
          rintro T90 s75 w89 ⟨hr, (H : Cx w0 fp0 S0 w89 [Gl 0 [.int .i64 2, .int .i64 3, .int .i64 5, .int .i64 7]])⟩
          subst hr
          cases s75
          · have hF91 := condF hF78; clear hF78
            refine arK hk (maxI hn) ?_
            have hs := Option.some.inj hF91; subst hs; clear hF91
            exact ⟨(), (), rfl, ⟨rfl, rfl, rfl, trivial⟩, H.sel [0] rfl⟩
          · have hF92 := condT hF78; clear hF78
            have hs := Option.some.inj hF92; subst hs; clear hF92
            have hr := hrt _ rfl; subst hr
            have hF93 : some _ = some _ := hF60
            cases hF93
            exact ⟨_, _, rfl, ⟨rfl, rfl⟩, (H.sel [] rfl).close trivial⟩
      · clear H e
        rintro T95 _ _ w94 hr (H : Cx w0 fp0 S0 w94 [Gl 0 [.int .i64 2, .int .i64 3, .int .i64 5, .int .i64 7]])
        subst hr
        refine boolE (z := false) geNat ?_
        refine sq ?_
        cases hF60
        exact ⟨_, _, rfl, ⟨rfl, rfl⟩, (H.sel [] rfl).close trivial⟩
    · have hF98 := condT hF11; clear hF11
      cases hF98
      exact ⟨_, _, rfl, ⟨rfl, rfl⟩, (H.sel [] rfl).close trivial⟩

theorem impl_within_c (n_ : Int) (low_ : Int) (high_ : Int) (y : Bool) (hF : F_impl_within n_ low_ high_ = some y) :
    ConF Tryd.prog 78 #[(.int .i64 n_), (.int .i64 low_), (.int .i64 high_)] [] [] (fun v Γ' => v = (.bool y) ∧ Γ' = []) := by
  intro w0 S0 fp0 hI hS
  have H : Cx w0 fp0 S0 w0 [] := Cx.start hI hS
  clear hI hS
  refine enterC (args := [_, _, _]) gok Tryd.func78 rfl _ rfl rfl rfl ?_
  obtain ⟨r9, hF11, hF10⟩ := bindS hF; clear hF
  refine cut (fun (q12 : Bool) => [(6, (.bool q12))]) (fun (q12 : Bool) w' => q12 = r9 ∧ Cx w0 fp0 S0 w' []) ?_ ?_
  · skip
    obtain ⟨a13, e, hF14⟩ := bindS hF11; clear hF11
    refine boolO e ?_; clear e
    cases a13
    · have hF15 := condF hF14; clear hF14
      exact ⟨false, ⟨rfl, trivial⟩, Option.some.inj hF15, H.sel [] rfl⟩
    · have hF16 := condT hF14; clear hF14
      obtain ⟨a17, e, hF18⟩ := bindS hF16; clear hF16
      refine boolO e ?_; clear e
      exact ⟨a17, ⟨rfl, trivial⟩, Option.some.inj hF18, H.sel [] rfl⟩
  · clear hF11 H
    rintro T20 s7 w19 ⟨hr, (H : Cx w0 fp0 S0 w19 [])⟩
    subst hr
    cases hF10
    exact ⟨_, _, rfl, ⟨rfl, rfl⟩, (H.sel [] rfl).close trivial⟩

theorem impl_isElement_c (p_ : Int) (a_ : Int) (y : Bool) (hF : F_impl_isElement p_ a_ = some y) :
    ConF Tryd.prog 133 #[(.int .i64 p_), (.int .i64 a_)] [] [] (fun v Γ' => v = (.bool y) ∧ Γ' = []) := by
  intro w0 S0 fp0 hI hS
  have H : Cx w0 fp0 S0 w0 [] := Cx.start hI hS
  clear hI hS
  refine enterC (args := [_, _]) gok Tryd.func133 rfl _ rfl rfl rfl ?_
  obtain ⟨r9, hF11, hF10⟩ := bindS hF; clear hF
  refine cut (fun (q12 : Bool) => [(4, (.bool q12))]) (fun (q12 : Bool) w' => q12 = r9 ∧ Cx w0 fp0 S0 w' []) ?_ ?_
  · skip
    obtain ⟨a13, e, hF14⟩ := bindS hF11; clear hF11
    refine boolO e ?_; clear e
    cases a13
    · have hF15 := condF hF14; clear hF14
      exact ⟨false, ⟨rfl, trivial⟩, Option.some.inj hF15, H.sel [] rfl⟩
    · have hF16 := condT hF14; clear hF14
      obtain ⟨a17, e, hF18⟩ := bindS hF16; clear hF16
      refine boolO e ?_; clear e
      exact ⟨a17, ⟨rfl, trivial⟩, Option.some.inj hF18, H.sel [] rfl⟩
  · clear hF11 H
    rintro T20 s7 w19 ⟨hr, (H : Cx w0 fp0 S0 w19 [])⟩
    subst hr
    cases hF10
    exact ⟨_, _, rfl, ⟨rfl, rfl⟩, (H.sel [] rfl).close trivial⟩

theorem impl_isVector_c (p_ : Int) (v_ : List Int) (v_h : Hd) (n_ : Int) (y : Bool) (hF : F_impl_isVector p_ v_ n_ = some y) :
    ConF Tryd.prog 85 #[(.int .i64 p_), (v_h).v, (.int .i64 n_)] [Es (List Int) v_ v_h] [] (fun v Γ' => v = (.bool y) ∧ Γ' = []) := by
  intro w0 S0 fp0 hI hS
  have H : Cx w0 fp0 S0 w0 [Es (List Int) v_ v_h] := Cx.start hI hS
  clear hI hS
  refine enterC (args := [_, _, _]) gok Tryd.func85 rfl _ rfl rfl rfl ?_
  refine sq ?_
  refine lenE (H.rs (α := List Int) 0 rfl).len ?_
  obtain ⟨a2, e, hF3⟩ := bindS hF; clear hF
  refine boolO e ?_; clear e
  cases a2
  · have hF4 := condF hF3; clear hF3
    refine sq ?_
    refine lenE (H.rs (α := List Int) 0 rfl).len ?_
    have hmx25 := (H.rs (α := List Int) 0 rfl).max
    obtain ⟨r26, e, hF27⟩ := bindS hF4; clear hF4
    refine loopO _ v_.length (fun (k5 : Nat) (_ : Unit) (_ : Unit) => [(0, (.int .i64 p_)), (13, (v_h).v), (14, (.int .i64 ((v_.length : Nat) : Int))), (15, (.int .i64 ((k5 : Nat) : Int)))]) (fun _ (_ : Unit) (_ : Unit) w' => Cx w0 fp0 S0 w' [Es (List Int) v_ v_h]) () () e ⟨rfl, rfl, rfl, rfl, trivial⟩ (H.sel [0] rfl) ?_ ?_
    · clear H e
      rintro T29 k5 _ _ w28 o30 hk (H : Cx w0 fp0 S0 w28 [Es (List Int) v_ v_h]) hrt hF31
      refine boolE (z := true) (ltLen hk) ?_
      refine sq ?_
      refine sq ?_
      obtain ⟨a38, e, hF39⟩ := bindS hF31; clear hF31
      obtain ⟨p36, m37, c32, c33, c34, c35⟩ := (H.rs (α := List Int) 0 rfl).at1 e; clear e
      refine idxE c32 c33 c34 ?_; clear c32 c33 c34
      refine load1 c35 ?_; clear c35
      obtain ⟨y40, e, hF41⟩ := bindS hF39; clear hF39
      have ey40 := e; clear e
      refine callF (impl_isElement_c p_ a38 y40 ey40) (Γi := []) H trivial ?_; clear H ey40
      rintro _ _ w42 ⟨rfl, rfl⟩ (H : Cx w0 fp0 S0 w42 [Es (List Int) v_ v_h])
      obtain ⟨a43, e, hF44⟩ := bindS hF41; clear hF41
      refine boolO e ?_; clear e
      cases a43
      · have hF45 := condF hF44; clear hF44
        refine arK hk hmx25 ?_
        have hs := Option.some.inj hF45; subst hs; clear hF45
        exact ⟨(), (), rfl, ⟨rfl, rfl, rfl, rfl, trivial⟩, H.sel [0] rfl⟩
      · have hF46 := condT hF44; clear hF44
        have hs := Option.some.inj hF46; subst hs; clear hF46
        have hr := hrt _ rfl; subst hr
        have hF47 : some _ = some _ := hF27
        cases hF47
        exact ⟨_, _, rfl, ⟨rfl, rfl⟩, (H.sel [] rfl).close trivial⟩
    · clear H e
      rintro T49 _ _ w48 hr (H : Cx w0 fp0 S0 w48 [Es (List Int) v_ v_h])
      subst hr
      refine boolE (z := false) geLen ?_
      refine sq ?_
      cases hF27
      exact ⟨_, _, rfl, ⟨rfl, rfl⟩, (H.sel [] rfl).close trivial⟩
  · have hF52 := condT hF3; clear hF3
    cases hF52
    exact ⟨_, _, rfl, ⟨rfl, rfl⟩, (H.sel [] rfl).close trivial⟩

theorem impl_areVectors_c (p_ : Int) (rows_ : List (List Int)) (rows_h : Hd) (n_ : Int) (y : Bool) (hF : F_impl_areVectors p_ rows_ n_ = some y) :
    ConF Tryd.prog 127 #[(.int .i64 p_), (rows_h).v, (.int .i64 n_)] [Es (List (List Int)) rows_ rows_h] [] (fun v Γ' => v = (.bool y) ∧ Γ' = []) := by
  intro w0 S0 fp0 hI hS
  have H : Cx w0 fp0 S0 w0 [Es (List (List Int)) rows_ rows_h] := Cx.start hI hS
  clear hI hS
  refine enterC (args := [_, _, _]) gok Tryd.func127 rfl _ rfl rfl rfl ?_
  refine sq ?_
  refine lenE (H.rs (α := List (List Int)) 0 rfl).len ?_
  have hmx24 := (H.rs (α := List (List Int)) 0 rfl).max
  obtain ⟨r25, e, hF26⟩ := bindS hF; clear hF
  refine loopO _ rows_.length (fun (k2 : Nat) (_ : Unit) (_ : Unit) => [(0, (.int .i64 p_)), (2, (.int .i64 n_)), (9, (rows_h).v), (10, (.int .i64 ((rows_.length : Nat) : Int))), (11, (.int .i64 ((k2 : Nat) : Int)))]) (fun _ (_ : Unit) (_ : Unit) w' => Cx w0 fp0 S0 w' [Es (List (List Int)) rows_ rows_h]) () () e ⟨rfl, rfl, rfl, rfl, rfl, trivial⟩ (H.sel [0] rfl) ?_ ?_
  · clear H e
    rintro T28 k2 _ _ w27 o29 hk (H : Cx w0 fp0 S0 w27 [Es (List (List Int)) rows_ rows_h]) hrt hF30
    refine boolE (z := true) (ltLen hk) ?_
    refine sq ?_
    refine sq ?_
    obtain ⟨a37, e, hF38⟩ := bindS hF30; clear hF30
    have HH := H; clear H; obtain ⟨p35, m36, h39, c31, c32, c33, c34, H⟩ := HH.elL 0 rfl e; clear HH
    clear e
    refine idxE c31 c32 c33 ?_; clear c31 c32 c33
    refine load1 c34 ?_; clear c34
    obtain ⟨y41, e, hF42⟩ := bindS hF38; clear hF38
    have ey41 := e; clear e
    refine callF (impl_isVector_c p_ a37 h39 n_ y41 ey41) (Γi := []) H ⟨Vw.sh 0 rfl, trivial⟩ ?_; clear H ey41
    rintro _ _ w43 ⟨rfl, rfl⟩ (H : Cx w0 fp0 S0 w43 [Es (List Int) a37 h39, Es (List (List Int)) rows_ rows_h])
    obtain ⟨a44, e, hF45⟩ := bindS hF42; clear hF42
    refine boolO e ?_; clear e
    cases a44
    · have hF46 := condF hF45; clear hF45
      refine arK hk hmx24 ?_
      have hs := Option.some.inj hF46; subst hs; clear hF46
      exact ⟨(), (), rfl, ⟨rfl, rfl, rfl, rfl, rfl, trivial⟩, H.sel [1] rfl⟩
    · have hF47 := condT hF45; clear hF45
      have hs := Option.some.inj hF47; subst hs; clear hF47
      have hr := hrt _ rfl; subst hr
      have hF48 : some _ = some _ := hF26
      cases hF48
      exact ⟨_, _, rfl, ⟨rfl, rfl⟩, (H.sel [] rfl).close trivial⟩
  · clear H e
    rintro T50 _ _ w49 hr (H : Cx w0 fp0 S0 w49 [Es (List (List Int)) rows_ rows_h])
    subst hr
    refine boolE (z := false) geLen ?_
    refine sq ?_
    cases hF26
    exact ⟨_, _, rfl, ⟨rfl, rfl⟩, (H.sel [] rfl).close trivial⟩

theorem impl_isMatrix_c (p_ : Int) (m__0 : Int) (m__1 : List (List Int)) (m__1h : Hd) (y : Bool) (hF : F_impl_isMatrix p_ (m__0, m__1) = some y) :
    ConF Tryd.prog 108 #[(.int .i64 p_), (.agg #[(.int .i64 m__0), (m__1h).v])] [Es (List (List Int)) m__1 m__1h, Gl 0 [.int .i64 2, .int .i64 3, .int .i64 5, .int .i64 7]] [] (fun v Γ' => v = (.bool y) ∧ Γ' = []) := by
  intro w0 S0 fp0 hI hS
  have H : Cx w0 fp0 S0 w0 [Es (List (List Int)) m__1 m__1h, Gl 0 [.int .i64 2, .int .i64 3, .int .i64 5, .int .i64 7]] := Cx.start hI hS
  clear hI hS
  refine enterC (args := [_, _]) gok Tryd.func108 rfl _ rfl rfl rfl ?_
  refine box_ H ?_; clear H; intro b4 w3 hx H
  clear hx
  replace H : Cx w0 fp0 S0 w3 [Bx b4 [(.int .i64 m__0), (m__1h).v], Es (List (List Int)) m__1 m__1h, Gl 0 [.int .i64 2, .int .i64 3, .int .i64 5, .int .i64 7]] := H
  obtain ⟨r25, hF27, hF26⟩ := bindS hF; clear hF
  refine cut (fun (q28 : Bool) => [(4, (.bool q28))]) (fun (q28 : Bool) w' => q28 = r25 ∧ Cx w0 fp0 S0 w' [Gl 0 [.int .i64 2, .int .i64 3, .int .i64 5, .int .i64 7]]) ?_ ?_
  · skip
    obtain ⟨y29, e, hF30⟩ := bindS hF27; clear hF27
    have ey29 := e; clear e
    refine callF (impl_isField_c p_ y29 ey29) (Γi := []) H ⟨Vw.gl 2 rfl, trivial⟩ ?_; clear H ey29
    rintro _ _ w31 ⟨rfl, rfl⟩ (H : Cx w0 fp0 S0 w31 [Bx b4 [(.int .i64 m__0), (m__1h).v], Es (List (List Int)) m__1 m__1h, Gl 0 [.int .i64 2, .int .i64 3, .int .i64 5, .int .i64 7]])
    cases y29
    · have hF32 := condF hF30; clear hF30
      exact ⟨false, ⟨rfl, trivial⟩, Option.some.inj hF32, H.sel [2] rfl⟩
    · have hF33 := condT hF30; clear hF30
      refine fld gok rfl rfl rfl rfl ?_
      refine load1 (H.bx 0 rfl (j := 0) rfl) ?_
      obtain ⟨y34, e, hF35⟩ := bindS hF33; clear hF33
      have ey34 := e; clear e
      refine callF (impl_within_c m__0 0 24 y34 ey34) (Γi := []) H trivial ?_; clear H ey34
      rintro _ _ w36 ⟨rfl, rfl⟩ (H : Cx w0 fp0 S0 w36 [Bx b4 [(.int .i64 m__0), (m__1h).v], Es (List (List Int)) m__1 m__1h, Gl 0 [.int .i64 2, .int .i64 3, .int .i64 5, .int .i64 7]])
      cases y34
      · have hF37 := condF hF35; clear hF35
        exact ⟨false, ⟨rfl, trivial⟩, Option.some.inj hF37, H.sel [2] rfl⟩
      · have hF38 := condT hF35; clear hF35
        refine fld gok rfl rfl rfl rfl ?_
        refine load1 (H.bx 0 rfl (j := 1) rfl) ?_
        refine lenE (H.rs (α := List (List Int)) 1 rfl).len ?_
        obtain ⟨a39, e, hF40⟩ := bindS hF38; clear hF38
        refine boolO e ?_; clear e
        cases a39
        · have hF41 := condF hF40; clear hF40
          exact ⟨false, ⟨rfl, trivial⟩, Option.some.inj hF41, H.sel [2] rfl⟩
        · have hF42 := condT hF40; clear hF40
          refine fld gok rfl rfl rfl rfl ?_
          refine load1 (H.bx 0 rfl (j := 1) rfl) ?_
          refine fld gok rfl rfl rfl rfl ?_
          refine load1 (H.bx 0 rfl (j := 0) rfl) ?_
          obtain ⟨y43, e, hF44⟩ := bindS hF42; clear hF42
          have ey43 := e; clear e
          refine callF (impl_areVectors_c p_ m__1 m__1h m__0 y43 ey43) (Γi := []) H ⟨Vw.sh 1 rfl, trivial⟩ ?_; clear H ey43
          rintro _ _ w45 ⟨rfl, rfl⟩ (H : Cx w0 fp0 S0 w45 [Bx b4 [(.int .i64 m__0), (m__1h).v], Es (List (List Int)) m__1 m__1h, Gl 0 [.int .i64 2, .int .i64 3, .int .i64 5, .int .i64 7]])
          exact ⟨y43, ⟨rfl, trivial⟩, Option.some.inj hF44, H.sel [2] rfl⟩
  · clear hF27 H
    rintro T47 s23 w46 ⟨hr, (H : Cx w0 fp0 S0 w46 [Gl 0 [.int .i64 2, .int .i64 3, .int .i64 5, .int .i64 7]])⟩
    subst hr
    cases hF26
    exact ⟨_, _, rfl, ⟨rfl, rfl⟩, (H.sel [] rfl).close trivial⟩

theorem impl_clone_c (list_ : List Int) (list_h : Hd) (y : List Int) (hF : F_impl_clone list_ = some y) :
    ConF Tryd.prog 134 #[(list_h).v] [Es (List Int) list_ list_h] [] (fun v Γ' => ∃ z0 : Hd, v = (z0).v ∧ Γ' = [E (List Int) y z0]) := by
  intro w0 S0 fp0 hI hS
  have H : Cx w0 fp0 S0 w0 [Es (List Int) list_ list_h] := Cx.start hI hS
  clear hI hS
  refine enterC (args := [_]) gok Tryd.func134 rfl _ rfl rfl rfl ?_
  refine lit0 (α := Int) gok rfl rfl H ?_; clear H; intro h3 w2 hx H
  clear hx
  obtain ⟨a5, e, hF6⟩ := bindS hF; clear hF
  refine appendS (α := Int) gok rfl rfl rfl rfl H (Vw.sh 0 rfl) e ?_; clear e H; intro h8 w7 H
  cases hF6
  exact ⟨_, _, rfl, ⟨h8, rfl, rfl⟩, (H.sel [0] rfl).close ⟨cloE, trivial⟩⟩

theorem impl_clones_c (list_ : List (List Int)) (list_h : Hd) (y : List (List Int)) (hF : F_impl_clones list_ = some y) :
    ConF Tryd.prog 109 #[(list_h).v] [Es (List (List Int)) list_ list_h] [] (fun v Γ' => ∃ z0 : Hd, v = (z0).v ∧ Γ' = [E (List (List Int)) y z0]) := by
  intro w0 S0 fp0 hI hS
  have H : Cx w0 fp0 S0 w0 [Es (List (List Int)) list_ list_h] := Cx.start hI hS
  clear hI hS
  refine enterC (args := [_]) gok Tryd.func109 rfl _ rfl rfl rfl ?_
  refine lenE (H.rs (α := List (List Int)) 0 rfl).len ?_
  obtain ⟨a2, e, hF3⟩ := bindS hF; clear hF
  refine make_ (α := List Int) gok rfl rfl rfl rfl e H ?_; clear e H; intro h5 w4 hx H
  clear hx
  refine sq ?_
  refine lenE (H.rs (α := List (List Int)) 1 rfl).len ?_
  have hmx62 := (H.rs (α := List (List Int)) 1 rfl).max
  obtain ⟨r63, e, hF64⟩ := bindS hF3; clear hF3
  refine loopS _ list_.length (fun (k7 : Nat) (s59 : List (List Int)) (g60 : Hd) => [(3, (g60).v), (9, (list_h).v), (10, (.int .i64 ((list_.length : Nat) : Int))), (11, (.int .i64 ((k7 : Nat) : Int)))]) (fun _ (s59 : List (List Int)) (g60 : Hd) w' => Cx w0 fp0 S0 w' [E (List (List Int)) s59 g60, Es (List (List Int)) list_ list_h]) a2 h5 e ⟨rfl, rfl, rfl, rfl, trivial⟩ (H.sel [0, 1] rfl) ?_ ?_
  · clear H e
    rintro T66 k7 s59 g60 w65 o67 hk (H : Cx w0 fp0 S0 w65 [E (List (List Int)) s59 g60, Es (List (List Int)) list_ list_h]) hF68
    refine boolE (z := true) (ltLen hk) ?_
    refine sq ?_
    refine sq ?_
    obtain ⟨a75, e, hF76⟩ := bindS hF68; clear hF68
    have HH := H; clear H; obtain ⟨p73, m74, h77, c69, c70, c71, c72, H⟩ := HH.elL 1 rfl e; clear HH
    clear e
    refine idxE c69 c70 c71 ?_; clear c69 c70 c71
    refine load1 c72 ?_; clear c72
    obtain ⟨y79, e, hF80⟩ := bindS hF76; clear hF76
    have ey79 := e; clear e
    refine callF (impl_clone_c a75 h77 y79 ey79) (Γi := []) H ⟨Vw.sh 0 rfl, trivial⟩ ?_; clear H ey79
    rintro _ _ w81 ⟨h82, rfl, rfl⟩ (H : Cx w0 fp0 S0 w81 [E (List Int) y79 h82, Es (List Int) a75 h77, E (List (List Int)) s59 g60, Es (List (List Int)) list_ list_h])
    refine lit1 (α := List Int) (g := h82) gok rfl rfl rfl rfl rfl H ?_; clear H; intro h85 w84 hx H
    clear hx
    obtain ⟨a87, e, hF88⟩ := bindS hF80; clear hF80
    replace H := H.sel [2, 0, 1, 3] rfl
    refine append_ (α := List Int) gok rfl rfl rfl rfl H e ?_; clear e H; intro h90 w89 H
    refine arK hk hmx62 ?_
    have hs := Option.some.inj hF88; subst hs; clear hF88
    exact ⟨h90, ⟨rfl, rfl, rfl, rfl, trivial⟩, H.sel [0, 2] rfl⟩
  · clear H e
    rintro T93 g95 w92 (H : Cx w0 fp0 S0 w92 [E (List (List Int)) r63 g95, Es (List (List Int)) list_ list_h])
    refine boolE (z := false) geLen ?_
    refine sq ?_
    cases hF64
    exact ⟨_, _, rfl, ⟨g95, rfl, rfl⟩, (H.sel [0] rfl).close ⟨cloE, trivial⟩⟩

theorem impl_zeros_c (n_ : Int) (y : List Int) (hF : F_impl_zeros n_ = some y) :
    ConF Tryd.prog 149 #[(.int .i64 n_)] [] [] (fun v Γ' => ∃ z0 : Hd, v = (z0).v ∧ Γ' = [E (List Int) y z0]) := by
  intro w0 S0 fp0 hI hS
  have H : Cx w0 fp0 S0 w0 [] := Cx.start hI hS
  clear hI hS
  refine enterC (args := [_]) gok Tryd.func149 rfl _ rfl rfl rfl ?_
  obtain ⟨a1, e, hF2⟩ := bindS hF; clear hF
  refine make_ (α := Int) gok rfl rfl rfl rfl (makeCO_of e) H ?_; clear e H; intro h4 w3 hx H
  clear hx
  cases hF2
  exact ⟨_, _, rfl, ⟨h4, rfl, rfl⟩, (H.sel [0] rfl).close ⟨cloE, trivial⟩⟩

theorem impl_unit_c (n_ : Int) (at_ : Int) (y : List Int) (hF : F_impl_unit n_ at_ = some y) :
    ConF Tryd.prog 146 #[(.int .i64 n_), (.int .i64 at_)] [] [] (fun v Γ' => ∃ z0 : Hd, v = (z0).v ∧ Γ' = [E (List Int) y z0]) := by
  intro w0 S0 fp0 hI hS
  have H : Cx w0 fp0 S0 w0 [] := Cx.start hI hS
  clear hI hS
  refine enterC (args := [_, _]) gok Tryd.func146 rfl _ rfl rfl rfl ?_
  obtain ⟨y1, e, hF2⟩ := bindS hF; clear hF
  have ey1 := e; clear e
  refine callF (impl_zeros_c n_ y1 ey1) (Γi := []) H trivial ?_; clear H ey1
  rintro _ _ w3 ⟨h4, rfl, rfl⟩ (H : Cx w0 fp0 S0 w3 [E (List Int) y1 h4])
  obtain ⟨a12, e, hF13⟩ := bindS hF2; clear hF2
  have ea12 := e; clear e
  obtain ⟨p10, m11, c6, c7, c8⟩ := (H.ro (α := List Int) 0 rfl).setp ea12
  refine idxE c6 c7 c8 ?_
  refine setS (α := Int) H c6 c7 ea12 ?_; clear H c6 c7 c8 ea12; intro w14 H
  cases hF13
  exact ⟨_, _, rfl, ⟨h4, rfl, rfl⟩, (H.sel [0] rfl).close ⟨cloE, trivial⟩⟩

theorem impl_identityRows_c (n_ : Int) (y : List (List Int)) (hF : F_impl_identityRows n_ = some y) :
    ConF Tryd.prog 110 #[(.int .i64 n_)] [] [] (fun v Γ' => ∃ z0 : Hd, v = (z0).v ∧ Γ' = [E (List (List Int)) y z0]) := by
  intro w0 S0 fp0 hI hS
  have H : Cx w0 fp0 S0 w0 [] := Cx.start hI hS
  clear hI hS
  refine enterC (args := [_]) gok Tryd.func110 rfl _ rfl rfl rfl ?_
  refine lit0 (α := List Int) gok rfl rfl H ?_; clear H; intro h2 w1 hx H
  clear hx
  refine sq ?_
  obtain ⟨a39, hn, hF40⟩ := bindS hF; clear hF
  obtain ⟨r42, e, hF43⟩ := bindS hF40; clear hF40
  refine loopS _ n_.toNat (fun (k4 : Nat) (s36 : List (List Int)) (g37 : Hd) => [(0, (.int .i64 n_)), (3, (g37).v), (6, (.int .i64 n_)), (7, (.int .i64 ((k4 : Nat) : Int)))]) (fun _ (s36 : List (List Int)) (g37 : Hd) w' => Cx w0 fp0 S0 w' [E (List (List Int)) s36 g37]) ([] : List (List Int)) h2 e ⟨rfl, rfl, rfl, rfl, trivial⟩ (H.sel [0] rfl) ?_ ?_
  · clear H e
    rintro T45 k4 s36 g37 w44 o46 hk (H : Cx w0 fp0 S0 w44 [E (List (List Int)) s36 g37]) hF47
    refine boolE (z := true) (ltNat hk) ?_
    refine sq ?_
    refine sq ?_
    obtain ⟨y48, e, hF49⟩ := bindS hF47; clear hF47
    have ey48 := e; clear e
    refine callF (impl_unit_c n_ ((k4 : Nat) : Int) y48 ey48) (Γi := []) H trivial ?_; clear H ey48
    rintro _ _ w50 ⟨h51, rfl, rfl⟩ (H : Cx w0 fp0 S0 w50 [E (List Int) y48 h51, E (List (List Int)) s36 g37])
    refine lit1 (α := List Int) (g := h51) gok rfl rfl rfl rfl rfl H ?_; clear H; intro h54 w53 hx H
    clear hx
    obtain ⟨a56, e, hF57⟩ := bindS hF49; clear hF49
    replace H := H.sel [1, 0] rfl
    refine append_ (α := List Int) gok rfl rfl rfl rfl H e ?_; clear e H; intro h59 w58 H
    refine arK hk (maxI hn) ?_
    have hs := Option.some.inj hF57; subst hs; clear hF57
    exact ⟨h59, ⟨rfl, rfl, rfl, rfl, trivial⟩, H.sel [0] rfl⟩
  · clear H e
    rintro T62 g64 w61 (H : Cx w0 fp0 S0 w61 [E (List (List Int)) r42 g64])
    refine boolE (z := false) geNat ?_
    refine sq ?_
    cases hF43
    exact ⟨_, _, rfl, ⟨g64, rfl, rfl⟩, (H.sel [0] rfl).close ⟨cloE, trivial⟩⟩

theorem impl_bit_c (yes_ : Bool) (y : Int) (hF : F_impl_bit yes_ = some y) :
    ConF Tryd.prog 161 #[(.bool yes_)] [] [] (fun v Γ' => v = (.int .i64 y) ∧ Γ' = []) := by
  intro w0 S0 fp0 hI hS
  have H : Cx w0 fp0 S0 w0 [] := Cx.start hI hS
  clear hI hS
  refine enterC (args := [_]) gok Tryd.func161 rfl _ rfl rfl rfl ?_
  refine sq ?_
  cases yes_
  · have hF1 := condF hF; clear hF
    cases hF1
    exact ⟨_, _, rfl, ⟨rfl, rfl⟩, (H.sel [] rfl).close trivial⟩
  · have hF2 := condT hF; clear hF
    cases hF2
    exact ⟨_, _, rfl, ⟨rfl, rfl⟩, (H.sel [] rfl).close trivial⟩

theorem impl_power_c (p_ : Int) (a_ : Int) (n_ : Int) (y : Int) (hF : F_impl_power p_ a_ n_ = some y) :
    ConF Tryd.prog 160 #[(.int .i64 p_), (.int .i64 a_), (.int .i64 n_)] [] [] (fun v Γ' => v = (.int .i64 y) ∧ Γ' = []) := by
  intro w0 S0 fp0 hI hS
  have H : Cx w0 fp0 S0 w0 [] := Cx.start hI hS
  clear hI hS
  refine enterC (args := [_, _, _]) gok Tryd.func160 rfl _ rfl rfl rfl ?_
  obtain ⟨a1, e, hF2⟩ := bindS hF; clear hF
  refine remO_ e ?_; clear e
  obtain ⟨r133, hF135, hF134⟩ := bindS hF2; clear hF2
  refine cut (fun (q136 : Int) => [(7, (.int .i64 q136))]) (fun (q136 : Int) w' => q136 = r133 ∧ Cx w0 fp0 S0 w' []) ?_ ?_
  · skip
    refine loopW _ (fun (s217 : Int × Int × Int) (_ : Unit) => [(0, (.int .i64 p_)), (1, (.int .i64 s217.1)), (2, (.int .i64 s217.2.1)), (7, (.int .i64 s217.2.2))]) (fun (s217 : Int × Int × Int) (_ : Unit) w' => Cx w0 fp0 S0 w' []) (a_, n_, a1) () hF135 ⟨rfl, rfl, rfl, rfl, trivial⟩ (H.sel [] rfl) ?_
    · clear H
      rintro T223 ⟨s217_0, s217_1, s217_2⟩ _ w222 o224 (H : Cx w0 fp0 S0 w222 []) hrt hF225
      refine sq ?_
      obtain ⟨a226, e, hF227⟩ := bindS hF225; clear hF225
      refine boolO e ?_; clear e
      cases a226
      · have hF228 := condF hF227; clear hF227
        have hs := Option.some.inj hF228; subst hs; clear hF228
        have hF229 : some _ = some _ := congrArg some (hrt _ rfl).symm
        exact ⟨s217_2, ⟨rfl, trivial⟩, Option.some.inj hF229, H.sel [] rfl⟩
      · have hF230 := condT hF227; clear hF227
        refine sq ?_
        obtain ⟨r243, hF245, hF244⟩ := bindS hF230; clear hF230
        refine cut (fun (q246 : Int) => [(0, (.int .i64 p_)), (1, (.int .i64 s217_0)), (2, (.int .i64 s217_1)), (7, (.int .i64 q246))]) (fun (q246 : Int) w' => q246 = r243 ∧ Cx w0 fp0 S0 w' []) ?_ ?_
        · skip
          obtain ⟨a247, e, hF248⟩ := bindS hF245; clear hF245
          refine remO_ e ?_; clear e
          obtain ⟨a249, e, hF250⟩ := bindS hF248; clear hF248
          refine boolO e ?_; clear e
          cases a249
          · have hF251 := condF hF250; clear hF250
            exact ⟨s217_2, ⟨rfl, rfl, rfl, rfl, trivial⟩, Option.some.inj hF251, H.sel [] rfl⟩
          · have hF252 := condT hF250; clear hF250
            obtain ⟨a253, e, hF254⟩ := bindS hF252; clear hF252
            refine arO e ?_; clear e
            obtain ⟨a255, e, hF256⟩ := bindS hF254; clear hF254
            refine remO_ e ?_; clear e
            exact ⟨a255, ⟨rfl, rfl, rfl, rfl, trivial⟩, Option.some.inj hF256, H.sel [] rfl⟩
        · clear hF245 H
          rintro T258 s241 w257 ⟨hr, (H : Cx w0 fp0 S0 w257 [])⟩
          subst hr
          obtain ⟨a259, e, hF260⟩ := bindS hF244; clear hF244
          refine arO e ?_; clear e
          obtain ⟨a261, e, hF262⟩ := bindS hF260; clear hF260
          refine remO_ e ?_; clear e
          obtain ⟨a263, e, hF264⟩ := bindS hF262; clear hF262
          refine quoO_ e ?_; clear e
          have hs := Option.some.inj hF264; subst hs; clear hF264
          exact ⟨(a261, a263, s241), (), rfl, ⟨rfl, rfl, rfl, rfl, trivial⟩, H.sel [] rfl⟩
  · clear hF135 H
    rintro T266 s131 w265 ⟨hr, (H : Cx w0 fp0 S0 w265 [])⟩
    subst hr
    cases hF134
    exact ⟨_, _, rfl, ⟨rfl, rfl⟩, (H.sel [] rfl).close trivial⟩

theorem impl_inverse_c (p_ : Int) (a_ : Int) (y : Int) (hF : F_impl_inverse p_ a_ = some y) :
    ConF Tryd.prog 157 #[(.int .i64 p_), (.int .i64 a_)] [] [] (fun v Γ' => v = (.int .i64 y) ∧ Γ' = []) := by
  intro w0 S0 fp0 hI hS
  have H : Cx w0 fp0 S0 w0 [] := Cx.start hI hS
  clear hI hS
  refine enterC (args := [_, _]) gok Tryd.func157 rfl _ rfl rfl rfl ?_
  obtain ⟨a1, e, hF2⟩ := bindS hF; clear hF
  refine arO e ?_; clear e
  obtain ⟨a3, e, hF4⟩ := bindS hF2; clear hF2
  refine boolO e ?_; clear e
  obtain ⟨y5, e, hF6⟩ := bindS hF4; clear hF4
  have ey5 := e; clear e
  refine callF (impl_bit_c a3 y5 ey5) (Γi := []) H trivial ?_; clear H ey5
  rintro _ _ w7 ⟨rfl, rfl⟩ (H : Cx w0 fp0 S0 w7 [])
  obtain ⟨a8, e, hF9⟩ := bindS hF6; clear hF6
  refine arO e ?_; clear e
  obtain ⟨y10, e, hF11⟩ := bindS hF9; clear hF9
  have ey10 := e; clear e
  refine callF (impl_power_c p_ a_ a8 y10 ey10) (Γi := []) H trivial ?_; clear H ey10
  rintro _ _ w12 ⟨rfl, rfl⟩ (H : Cx w0 fp0 S0 w12 [])
  cases hF11
  exact ⟨_, _, rfl, ⟨rfl, rfl⟩, (H.sel [] rfl).close trivial⟩

theorem impl_mod_c (p_ : Int) (a_ : Int) (y : Int) (hF : F_impl_mod p_ a_ = some y) :
    ConF Tryd.prog 143 #[(.int .i64 p_), (.int .i64 a_)] [] [] (fun v Γ' => v = (.int .i64 y) ∧ Γ' = []) := by
  intro w0 S0 fp0 hI hS
  have H : Cx w0 fp0 S0 w0 [] := Cx.start hI hS
  clear hI hS
  refine enterC (args := [_, _]) gok Tryd.func143 rfl _ rfl rfl rfl ?_
  obtain ⟨a1, e, hF2⟩ := bindS hF; clear hF
  refine remO_ e ?_; clear e
  refine sq ?_
  obtain ⟨a3, e, hF4⟩ := bindS hF2; clear hF2
  refine boolO e ?_; clear e
  cases a3
  · have hF5 := condF hF4; clear hF4
    cases hF5
    exact ⟨_, _, rfl, ⟨rfl, rfl⟩, (H.sel [] rfl).close trivial⟩
  · have hF6 := condT hF4; clear hF4
    obtain ⟨a7, e, hF8⟩ := bindS hF6; clear hF6
    refine arO e ?_; clear e
    cases hF8
    exact ⟨_, _, rfl, ⟨rfl, rfl⟩, (H.sel [] rfl).close trivial⟩

theorem impl_addTimes_c (p_ : Int) (v_ : List Int) (v_h : Hd) (by_ : Int) (w_ : List Int) (w_h : Hd) (y : List Int) (hF : F_impl_addTimes p_ v_ by_ w_ = some y) :
    ConF Tryd.prog 135 #[(.int .i64 p_), (v_h).v, (.int .i64 by_), (w_h).v] [Es (List Int) w_ w_h] [E (List Int) v_ v_h] (fun v Γ' => v = (.tuple #[]) ∧ Γ' = [E (List Int) y v_h]) := by
  intro w0 S0 fp0 hI hS
  have H : Cx w0 fp0 S0 w0 [Es (List Int) w_ w_h, E (List Int) v_ v_h] := Cx.start hI hS
  clear hI hS
  refine enterC (args := [_, _, _, _]) gok Tryd.func135 rfl _ rfl rfl rfl ?_
  refine lenE (H.rs (α := List Int) 0 rfl).len ?_
  have hmx74 := (H.rs (α := List Int) 0 rfl).max
  obtain ⟨r75, e, hF76⟩ := bindS hF; clear hF
  refine loopS _ w_.length (fun (k3 : Nat) (s72 : List Int) (_ : Unit) => [(0, (.int .i64 p_)), (1, (v_h).v), (2, (.int .i64 by_)), (10, (w_h).v), (11, (.int .i64 ((w_.length : Nat) : Int))), (12, (.int .i64 ((k3 : Nat) : Int)))]) (fun _ (s72 : List Int) (_ : Unit) w' => Cx w0 fp0 S0 w' [E (List Int) s72 v_h, Es (List Int) w_ w_h]) v_ () e ⟨rfl, rfl, rfl, rfl, rfl, rfl, trivial⟩ (H.sel [1, 0] rfl) ?_ ?_
  · clear H e
    rintro T78 k3 s72 _ w77 o79 hk (H : Cx w0 fp0 S0 w77 [E (List Int) s72 v_h, Es (List Int) w_ w_h]) hF80
    refine boolE (z := true) (ltLen hk) ?_
    refine sq ?_
    refine sq ?_
    obtain ⟨a87, e, hF88⟩ := bindS hF80; clear hF80
    obtain ⟨p85, m86, c81, c82, c83, c84⟩ := (H.rs (α := List Int) 1 rfl).at1 e; clear e
    refine idxE c81 c82 c83 ?_; clear c81 c82 c83
    refine load1 c84 ?_; clear c84
    obtain ⟨a95, e, hF96⟩ := bindS hF88; clear hF88
    obtain ⟨p93, m94, c89, c90, c91, c92⟩ := (H.ro (α := List Int) 0 rfl).at1 e; clear e
    refine idxE c89 c90 c91 ?_; clear c89 c90 c91
    refine load1 c92 ?_; clear c92
    obtain ⟨a97, e, hF98⟩ := bindS hF96; clear hF96
    refine arO e ?_; clear e
    obtain ⟨a99, e, hF100⟩ := bindS hF98; clear hF98
    refine arO e ?_; clear e
    obtain ⟨y101, e, hF102⟩ := bindS hF100; clear hF100
    have ey101 := e; clear e
    refine callF (impl_mod_c p_ a99 y101 ey101) (Γi := []) H trivial ?_; clear H ey101
    rintro _ _ w103 ⟨rfl, rfl⟩ (H : Cx w0 fp0 S0 w103 [E (List Int) s72 v_h, Es (List Int) w_ w_h])
    obtain ⟨a110, e, hF111⟩ := bindS hF102; clear hF102
    have ea110 := e; clear e
    obtain ⟨p108, m109, c104, c105, c106⟩ := (H.ro (α := List Int) 0 rfl).setp ea110
    refine idxE c104 c105 c106 ?_
    refine setS (α := Int) H c104 c105 ea110 ?_; clear H c104 c105 c106 ea110; intro w112 H
    refine arK hk hmx74 ?_
    have hs := Option.some.inj hF111; subst hs; clear hF111
    exact ⟨(), ⟨rfl, rfl, rfl, rfl, rfl, rfl, trivial⟩, H.sel [0, 1] rfl⟩
  · clear H e
    rintro T114 _ w113 (H : Cx w0 fp0 S0 w113 [E (List Int) r75 v_h, Es (List Int) w_ w_h])
    refine boolE (z := false) geLen ?_
    refine sq ?_
    cases hF76
    exact ⟨_, _, rfl, ⟨rfl, rfl⟩, (H.sel [0] rfl).close ⟨cloE, trivial⟩⟩

theorem impl_rowOperation_apply_c (o__0 : Int) (o__1 : Int) (o__2 : Int) (o__3 : Int) (p_ : Int) (rows_ : List (List Int)) (rows_h : Hd) (y : List (List Int)) (hF : F_impl_rowOperation_apply (o__0, o__1, o__2, o__3) p_ rows_ = some y) :
    ConF Tryd.prog 148 #[(.agg #[(.int .i64 o__0), (.int .i64 o__1), (.int .i64 o__2), (.int .i64 o__3)]), (.int .i64 p_), (rows_h).v] [] [E (List (List Int)) rows_ rows_h] (fun v Γ' => v = (.tuple #[]) ∧ Γ' = [E (List (List Int)) y rows_h]) := by
  intro w0 S0 fp0 hI hS
  have H : Cx w0 fp0 S0 w0 [E (List (List Int)) rows_ rows_h] := Cx.start hI hS
  clear hI hS
  refine enterC (args := [_, _, _]) gok Tryd.func148 rfl _ rfl rfl rfl ?_
  refine box_ H ?_; clear H; intro b3 w2 hx H
  clear hx
  replace H : Cx w0 fp0 S0 w2 [Bx b3 [(.int .i64 o__0), (.int .i64 o__1), (.int .i64 o__2), (.int .i64 o__3)], E (List (List Int)) rows_ rows_h] := H
  refine fld gok rfl rfl rfl rfl ?_
  refine load1 (H.bx 0 rfl (j := 0) rfl) ?_
  obtain ⟨a5, e, hF6⟩ := bindS hF; clear hF
  refine boolO e ?_; clear e
  cases a5
  · have hF7 := condF hF6; clear hF6
    obtain ⟨a8, e, hF9⟩ := bindS hF7; clear hF7
    refine boolO e ?_; clear e
    cases a8
    · have hF10 := condF hF9; clear hF9
      obtain ⟨a11, e, hF12⟩ := bindS hF10; clear hF10
      refine boolO e ?_; clear e
      cases a11
      · have hF13 := condF hF12; clear hF12
        cases hF13
        exact ⟨_, _, rfl, ⟨rfl, rfl⟩, (H.sel [1] rfl).close ⟨cloE, trivial⟩⟩
      · have hF14 := condT hF12; clear hF12
        refine heldX H [14] (.fst 0 (.fst 1 (.fst 2 (.fst 6 (.fst 9 (.fst 10 (.fst 3 (.fst 4 (.fst 5 (.fst 7 (.fst 8 (.fst 11 (.fst 12 (.fst 13 (.act 14 .done))))))))))))))) mixed [] trivial (by kernel_rfl) ?_
        clear H; intro w15 H
        have hX : Ext w15 w15 := Upd.refl _ _
        have H0 := H
        refine anyH (fun _ => fld gok rfl rfl rfl rfl ⟨rfl, rfl⟩) ?_
        refine anyH (fun _ => fld gok rfl rfl rfl rfl ⟨rfl, rfl⟩) ?_
        refine anyH (fun _ => fld gok rfl rfl rfl rfl ⟨rfl, rfl⟩) ?_
        refine load1X (H.bx 0 rfl (j := 1) rfl) ?_
        obtain ⟨a22, e, hF23⟩ := bindS hF14; clear hF14
        replace H := H.sel [1, 0] rfl
        replace H := H.toEH (α := List Int)
        have HH := H; clear H; obtain ⟨p20, m21, h24, c16, c17, c18, c19, H⟩ := HH.peekL e; clear HH
        clear e
        refine idxE c16 c17 c18 ?_
        refine load1X c19 ?_; clear c19
        refine load1X (H.bx 1 rfl (j := 3) rfl) ?_
        obtain ⟨a25, e, hF26⟩ := bindS hF23; clear hF23
        refine arO e ?_; clear e
        refine load1X (H.bx 1 rfl (j := 2) rfl) ?_
        obtain ⟨a33, e, hF34⟩ := bindS hF26; clear hF26
        have HH := H; clear H; obtain ⟨p31, m32, h35, c27, c28, c29, c30, H⟩ := HH.peekL e; clear HH
        clear e
        refine idxE c27 c28 c29 ?_
        refine load1X c30 ?_; clear c30
        obtain ⟨y36, e, hF37⟩ := bindS hF34; clear hF34
        have ey36 := e; clear e
        have kn38 := H.kn 0 rfl 0 rfl
        obtain ⟨u41, en40, hF42⟩ := bindS hF37; clear hF37
        have hm39 : m32 ≠ m21 := fun q => neqO_some en40 (by omega)
        replace H := H.takeK 1 rfl
        refine callF (impl_addTimes_c p_ a22 h24 a25 a33 h35 y36 ey36) (Γi := [E (List Int) a22 h24]) H ⟨Vw.ex (α := List Int) (k := ⟨m32, a33, h35⟩) 0 rfl kn38 hm39, trivial⟩ ?_; clear H ey36
        rintro _ _ w44 ⟨rfl, rfl⟩ (H : Cx w0 fp0 S0 w44 [E (List Int) y36 h24, EX (List Int) m21 [(h24).v] rows_ rows_h, Bx b3 [(.int .i64 o__0), (.int .i64 o__1), (.int .i64 o__2), (.int .i64 o__3)]])
        obtain ⟨a45, e, hF46⟩ := bindS hF42; clear hF42
        replace H := H.put c17 e; clear e
        refine hold trivial ?_
        cases hF46
        exact ⟨_, _, rfl, ⟨rfl, rfl⟩, (H.sel [0] rfl).close ⟨cloE, trivial⟩⟩
    · have hF47 := condT hF9; clear hF9
      refine fld gok rfl rfl rfl rfl ?_
      refine load1 (H.bx 0 rfl (j := 3) rfl) ?_
      obtain ⟨y48, e, hF49⟩ := bindS hF47; clear hF47
      have ey48 := e; clear e
      refine callF (impl_inverse_c p_ o__3 y48 ey48) (Γi := []) H trivial ?_; clear H ey48
      rintro _ _ w50 ⟨rfl, rfl⟩ (H : Cx w0 fp0 S0 w50 [Bx b3 [(.int .i64 o__0), (.int .i64 o__1), (.int .i64 o__2), (.int .i64 o__3)], E (List (List Int)) rows_ rows_h])
      refine fld gok rfl rfl rfl rfl ?_
      refine load1 (H.bx 0 rfl (j := 1) rfl) ?_
      obtain ⟨a57, e, hF58⟩ := bindS hF49; clear hF49
      replace H := H.sel [1, 0] rfl
      have HH := H; clear H; obtain ⟨p55, m56, h59, c51, c52, c53, H⟩ := HH.take e; clear HH
      clear e
      have c54 := H.hx0 1 rfl c51 rfl
      refine idxE c51 c52 c53 ?_
      refine load1 c54 ?_; clear c54
      refine lenE (H.ro (α := List Int) 0 rfl).len ?_
      have hmx124 := (H.ro (α := List Int) 0 rfl).max
      obtain ⟨r125, e, hF126⟩ := bindS hF58; clear hF58
      refine loopS _ a57.length (fun (k61 : Nat) (s122 : List Int) (_ : Unit) => [(1, (.int .i64 p_)), (2, (rows_h).v), (3, (.pointer (some ⟨b3, 0, none⟩))), (6, (.int .i64 y48)), (41, (h59).v), (42, (.int .i64 ((a57.length : Nat) : Int))), (43, (.int .i64 ((k61 : Nat) : Int)))]) (fun _ (s122 : List Int) (_ : Unit) w' => Cx w0 fp0 S0 w' [EX (List Int) m56 [(h59).v] rows_ rows_h, Bx b3 [(.int .i64 o__0), (.int .i64 o__1), (.int .i64 o__2), (.int .i64 o__3)], E (List Int) s122 h59]) a57 () e ⟨rfl, rfl, rfl, rfl, rfl, rfl, rfl, trivial⟩ (H.sel [1, 2, 0] rfl) ?_ ?_
      · clear H e
        rintro T128 k61 s122 _ w127 o129 hk (H : Cx w0 fp0 S0 w127 [EX (List Int) m56 [(h59).v] rows_ rows_h, Bx b3 [(.int .i64 o__0), (.int .i64 o__1), (.int .i64 o__2), (.int .i64 o__3)], E (List Int) s122 h59]) hF130
        refine boolE (z := true) (ltLen hk) ?_
        refine sq ?_
        refine sq ?_
        obtain ⟨a137, e, hF138⟩ := bindS hF130; clear hF130
        obtain ⟨p135, m136, c131, c132, c133, c134⟩ := (H.ro (α := List Int) 2 rfl).at1 e; clear e
        refine idxE c131 c132 c133 ?_; clear c131 c132 c133
        refine load1 c134 ?_; clear c134
        refine heldX H [12] (.fst 0 (.fst 1 (.fst 5 (.fst 6 (.fst 7 (.fst 8 (.fst 9 (.fst 10 (.fst 2 (.fst 3 (.fst 4 (.fst 11 (.act 12 .done))))))))))))) mixed [] trivial (by kernel_rfl) ?_
        clear H; intro w139 H
        have hX : Ext w139 w139 := Upd.refl _ _
        have H0 := H
        refine anyH (fun _ => fld gok rfl rfl rfl rfl ⟨rfl, rfl⟩) ?_
        obtain ⟨a140, e, hF141⟩ := bindS hF138; clear hF138
        refine arO e ?_; clear e
        obtain ⟨a142, e, hF143⟩ := bindS hF141; clear hF141
        refine remO_ e ?_; clear e
        refine load1X (H.bx 1 rfl (j := 1) rfl) ?_
        have c147 := H.hx0 0 rfl c51 rfl
        refine idxE c51 c52 c53 ?_
        refine load1X c147 ?_; clear c147
        obtain ⟨a156, e, hF157⟩ := bindS hF143; clear hF143
        have ea156 := e; clear e
        obtain ⟨p154, m155, c150, c151, c152⟩ := (H.ro (α := List Int) 2 rfl).setp ea156
        refine idxE c150 c151 c152 ?_
        replace H := H.sel [2, 0, 1] rfl
        refine setS (α := Int) H c150 c151 ea156 ?_; clear H c150 c151 c152 ea156; intro w158 H
        refine hold trivial ?_
        refine arK hk hmx124 ?_
        have hs := Option.some.inj hF157; subst hs; clear hF157
        exact ⟨(), ⟨rfl, rfl, rfl, rfl, rfl, rfl, rfl, trivial⟩, H.sel [1, 2, 0] rfl⟩
      · clear H e
        rintro T160 _ w159 (H : Cx w0 fp0 S0 w159 [EX (List Int) m56 [(h59).v] rows_ rows_h, Bx b3 [(.int .i64 o__0), (.int .i64 o__1), (.int .i64 o__2), (.int .i64 o__3)], E (List Int) r125 h59])
        refine boolE (z := false) geLen ?_
        refine sq ?_
        obtain ⟨a163, e, hF164⟩ := bindS hF126; clear hF126
        replace H := H.sel [2, 0, 1] rfl
        replace H := H.put c52 e; clear e
        cases hF164
        exact ⟨_, _, rfl, ⟨rfl, rfl⟩, (H.sel [0] rfl).close ⟨cloE, trivial⟩⟩
  · have hF165 := condT hF6; clear hF6
    refine heldX H [17, 19, 18, 3, 4, 5] (.pure 3 (.pure 4 (.pure 5 (.fst 0 (.fst 1 (.fst 6 (.fst 7 (.fst 11 (.fst 12 (.fst 2 (.fst 8 (.fst 9 (.fst 10 (.fst 13 (.fst 14 (.fst 15 (.fst 16 (.act 17 (.act 18 (.act 19 .done)))))))))))))))))))) mixed [((Addr.add ⟨b3, 0, none⟩ 2), (.int .i64 o__2))] ⟨H.bx 0 rfl (j := 2) rfl, trivial⟩ (by kernel_rfl) ?_
    clear H; intro w166 H
    have hX : Ext w166 w166 := Upd.refl _ _
    have H0 := H
    refine anyH (fun _ => fld gok rfl rfl rfl rfl ⟨rfl, rfl⟩) ?_
    refine load1W 0 rfl ?_
    refine anyH (fun _ => fld gok rfl rfl rfl rfl ⟨rfl, rfl⟩) ?_
    refine anyH (fun _ => fld gok rfl rfl rfl rfl ⟨rfl, rfl⟩) ?_
    refine anyH (fun _ => fld gok rfl rfl rfl rfl ⟨rfl, rfl⟩) ?_
    refine load1X (H.bx 0 rfl (j := 1) rfl) ?_
    refine load1X (H.bx 0 rfl (j := 2) rfl) ?_
    obtain ⟨a173, e, hF174⟩ := bindS hF165; clear hF165
    replace H := H.sel [1, 0] rfl
    replace H := H.toEH (α := List Int)
    have HH := H; clear H; obtain ⟨p171, m172, h175, c167, c168, c169, c170, H⟩ := HH.peekL e; clear HH
    clear e
    refine idxE c167 c168 c169 ?_
    refine load1X c170 ?_; clear c170
    refine load1X (H.bx 1 rfl (j := 1) rfl) ?_
    obtain ⟨a182, e, hF183⟩ := bindS hF174; clear hF174
    have HH := H; clear H; obtain ⟨p180, m181, h184, c176, c177, c178, c179, H⟩ := HH.peekL e; clear HH
    clear e
    refine idxE c176 c177 c178 ?_
    refine load1X c179 ?_; clear c179
    refine idxE c176 c177 c178 ?_
    refine stZ1 (ki := 0) (kj := 1) H rfl rfl c176 ?_; clear H; intro w191 H
    replace H : Cx w0 fp0 S0 w191 [EZ (List Int) m181 m172 a182 a173 h184 h175 rows_ rows_h, Bx b3 [(.int .i64 o__0), (.int .i64 o__1), (.int .i64 o__2), (.int .i64 o__3)]] := H
    refine hold ⟨H.bx 1 rfl (j := 2) rfl, trivial⟩ ?_
    refine idxE c167 c168 c169 ?_
    refine hold ⟨H.bx 1 rfl (j := 2) rfl, trivial⟩ ?_
    obtain ⟨a199, e, hF200⟩ := bindS hF183; clear hF183
    refine stZ2 H c177 c168 c167 e ?_; clear H e; intro w198 H
    refine hold ⟨H.bx 1 rfl (j := 2) rfl, trivial⟩ ?_
    cases hF200
    exact ⟨_, _, rfl, ⟨rfl, rfl⟩, (H.sel [0] rfl).close ⟨cloE, trivial⟩⟩

theorem impl_reduction_1_c (o__0 : Int) (o__1 : Int) (o__2 : Int) (o__3 : Int) (c0_b : Nat) (c0_ : Int) (c1_b : Nat) (c1_ : List (List Int)) (c1_h : Hd) (c2_b : Nat) (c2_ : List (List Int)) (c2_h : Hd) (y0 : List (List Int)) (y1 : List (List Int)) (hF : F_impl_reduction_1 (o__0, o__1, o__2, o__3) c0_ c1_ c2_ = some (y0, y1)) :
    ConF Tryd.prog 147 #[(.agg #[(.int .i64 o__0), (.int .i64 o__1), (.int .i64 o__2), (.int .i64 o__3)]), (.pointer (some ⟨c0_b, 0, none⟩)), (.pointer (some ⟨c1_b, 0, none⟩)), (.pointer (some ⟨c2_b, 0, none⟩))] [] [Bx c0_b [(.int .i64 c0_)], Bx c1_b [(c1_h).v], E (List (List Int)) c1_ c1_h, Bx c2_b [(c2_h).v], E (List (List Int)) c2_ c2_h] (fun v Γ' => v = (.tuple #[]) ∧ Γ' = [Bx c0_b [(.int .i64 c0_)], Bx c1_b [(c1_h).v], E (List (List Int)) y0 c1_h, Bx c2_b [(c2_h).v], E (List (List Int)) y1 c2_h]) := by
  intro w0 S0 fp0 hI hS
  have H : Cx w0 fp0 S0 w0 [Bx c0_b [(.int .i64 c0_)], Bx c1_b [(c1_h).v], E (List (List Int)) c1_ c1_h, Bx c2_b [(c2_h).v], E (List (List Int)) c2_ c2_h] := Cx.start hI hS
  clear hI hS
  refine enterC (args := [_, _, _, _]) gok Tryd.func147 rfl _ rfl rfl rfl ?_
  refine box_ H ?_; clear H; intro b7 w6 hx H
  clear hx
  replace H : Cx w0 fp0 S0 w6 [Bx b7 [(.int .i64 o__0), (.int .i64 o__1), (.int .i64 o__2), (.int .i64 o__3)], Bx c0_b [(.int .i64 c0_)], Bx c1_b [(c1_h).v], E (List (List Int)) c1_ c1_h, Bx c2_b [(c2_h).v], E (List (List Int)) c2_ c2_h] := H
  refine sq ?_
  refine loadN [(.int .i64 o__0), (.int .i64 o__1), (.int .i64 o__2), (.int .i64 o__3)] rfl (fun j u hj => H.bx 0 rfl hj) ?_
  refine fld gok rfl rfl rfl rfl ?_
  refine load1 (H.bx 0 rfl (j := 1) rfl) ?_
  refine fld gok rfl rfl rfl rfl ?_
  refine load1 (H.bx 0 rfl (j := 1) rfl) ?_
  refine build_ (cs := #[(.int .i64 0), (.int .i64 o__1), (.int .i64 o__1), (.int .i64 0)]) gok rfl rfl rfl ?_
  obtain ⟨a9, e, hF10⟩ := bindS hF; clear hF
  refine eqA gok rfl Tryd.underlying140 (by kernel_rfl) (by kernel_rfl) (by kernel_rfl) (by refine ⟨rfl, ⟨_, _, rfl⟩, rfl, ⟨_, _, rfl⟩, rfl, ⟨_, _, rfl⟩, rfl, ⟨_, _, rfl⟩, trivial⟩) (ls := [o__0, o__1, o__2, o__3]) (bs := [0, o__1, o__1, 0]) rfl rfl rfl rfl e ?_; clear e
  cases a9
  · have hF11 := condF hF10; clear hF10
    refine loadN [(.int .i64 o__0), (.int .i64 o__1), (.int .i64 o__2), (.int .i64 o__3)] rfl (fun j u hj => H.bx 0 rfl hj) ?_
    refine load1 (H.bx0 1 rfl) ?_
    refine load1 (H.bx0 2 rfl) ?_
    obtain ⟨y12, e, hF13⟩ := bindS hF11; clear hF11
    have ey12 := e; clear e
    replace H := H.sel [3, 0, 1, 2, 4, 5] rfl
    refine callF (impl_rowOperation_apply_c o__0 o__1 o__2 o__3 c0_ c1_ c1_h y12 ey12) (Γi := [E (List (List Int)) c1_ c1_h]) H trivial ?_; clear H ey12
    rintro _ _ w14 ⟨rfl, rfl⟩ (H : Cx w0 fp0 S0 w14 [E (List (List Int)) y12 c1_h, Bx b7 [(.int .i64 o__0), (.int .i64 o__1), (.int .i64 o__2), (.int .i64 o__3)], Bx c0_b [(.int .i64 c0_)], Bx c1_b [(c1_h).v], Bx c2_b [(c2_h).v], E (List (List Int)) c2_ c2_h])
    refine loadN [(.int .i64 o__0), (.int .i64 o__1), (.int .i64 o__2), (.int .i64 o__3)] rfl (fun j u hj => H.bx 1 rfl hj) ?_
    refine load1 (H.bx0 2 rfl) ?_
    refine load1 (H.bx0 4 rfl) ?_
    obtain ⟨y15, e, hF16⟩ := bindS hF13; clear hF13
    have ey15 := e; clear e
    replace H := H.sel [5, 0, 1, 2, 3, 4] rfl
    refine callF (impl_rowOperation_apply_c o__0 o__1 o__2 o__3 c0_ c2_ c2_h y15 ey15) (Γi := [E (List (List Int)) c2_ c2_h]) H trivial ?_; clear H ey15
    rintro _ _ w17 ⟨rfl, rfl⟩ (H : Cx w0 fp0 S0 w17 [E (List (List Int)) y15 c2_h, E (List (List Int)) y12 c1_h, Bx b7 [(.int .i64 o__0), (.int .i64 o__1), (.int .i64 o__2), (.int .i64 o__3)], Bx c0_b [(.int .i64 c0_)], Bx c1_b [(c1_h).v], Bx c2_b [(c2_h).v]])
    cases hF16
    exact ⟨_, _, rfl, ⟨rfl, rfl⟩, (H.sel [3, 4, 1, 5, 0] rfl).close ⟨cloB, cloB, cloE, cloB, cloE, trivial⟩⟩
  · have hF18 := condT hF10; clear hF10
    cases hF18
    exact ⟨_, _, rfl, ⟨rfl, rfl⟩, (H.sel [1, 2, 3, 4, 5] rfl).close ⟨cloB, cloB, cloE, cloB, cloE, trivial⟩⟩

theorem impl_reduction_c (p_ : Int) (rows_ : List (List Int)) (rows_h : Hd) (n_ : Int) (also_ : List (List Int)) (also_h : Hd) (y0 : List (List Int)) (y1 : List (List Int)) (y2 : Int) (hF : F_impl_reduction p_ rows_ n_ also_ = some (y0, y1, y2)) :
    ConF Tryd.prog 111 #[(.int .i64 p_), (rows_h).v, (.int .i64 n_), (also_h).v] [] [E (List (List Int)) rows_ rows_h, E (List (List Int)) also_ also_h] (fun v Γ' => v = (.int .i64 y2) ∧ Γ' = [E (List (List Int)) y0 rows_h, E (List (List Int)) y1 also_h]) := by
  intro w0 S0 fp0 hI hS
  have H : Cx w0 fp0 S0 w0 [E (List (List Int)) rows_ rows_h, E (List (List Int)) also_ also_h] := Cx.start hI hS
  clear hI hS
  refine enterC (args := [_, _, _, _]) gok Tryd.func111 rfl _ rfl rfl rfl ?_
  refine box_ H ?_; clear H; intro b4 w3 hx H
  clear hx
  replace H : Cx w0 fp0 S0 w3 [Bx b4 [(.int .i64 p_)], E (List (List Int)) rows_ rows_h, E (List (List Int)) also_ also_h] := H
  refine box_ H ?_; clear H; intro b7 w6 hx H
  clear hx
  replace H : Cx w0 fp0 S0 w6 [Bx b7 [(rows_h).v], Bx b4 [(.int .i64 p_)], E (List (List Int)) rows_ rows_h, E (List (List Int)) also_ also_h] := H
  refine box_ H ?_; clear H; intro b10 w9 hx H
  clear hx
  replace H : Cx w0 fp0 S0 w9 [Bx b10 [(also_h).v], Bx b7 [(rows_h).v], Bx b4 [(.int .i64 p_)], E (List (List Int)) rows_ rows_h, E (List (List Int)) also_ also_h] := H
  obtain ⟨r4078, hF4080, hF4079⟩ := bindS hF; clear hF
  refine cut (fun (q4081 : List (List Int) × List (List Int) × Int) => [(9, (.int .i64 q4081.2.2))]) (fun (q4081 : List (List Int) × List (List Int) × Int) w' => (q4081.1, q4081.2.1, q4081.2.2) = r4078 ∧ Cx w0 fp0 S0 w' [E (List (List Int)) q4081.1 rows_h, E (List (List Int)) q4081.2.1 also_h]) ?_ ?_
  · skip
    refine loopW _ (fun (s6786 : List (List Int) × List (List Int) × Int × Int) (_ : Unit) => [(2, (.int .i64 n_)), (5, (.pointer (some ⟨b7, 0, none⟩))), (9, (.int .i64 s6786.2.2.2)), (10, (.func (.func 147) #[] #[(.pointer (some ⟨b4, 0, none⟩)), (.pointer (some ⟨b7, 0, none⟩)), (.pointer (some ⟨b10, 0, none⟩))])), (11, (.int .i64 s6786.2.2.1))]) (fun (s6786 : List (List Int) × List (List Int) × Int × Int) (_ : Unit) w' => Cx w0 fp0 S0 w' [Bx b7 [(rows_h).v], E (List (List Int)) s6786.1 rows_h, Bx b4 [(.int .i64 p_)], Bx b10 [(also_h).v], E (List (List Int)) s6786.2.1 also_h]) (rows_, also_, 0, 0) () hF4080 ⟨rfl, rfl, rfl, rfl, rfl, trivial⟩ (H.sel [1, 3, 2, 0, 4] rfl) ?_
    · clear H
      rintro T6792 ⟨s6786_0, s6786_1, s6786_2, s6786_3⟩ _ w6791 o6793 (H : Cx w0 fp0 S0 w6791 [Bx b7 [(rows_h).v], E (List (List Int)) s6786_0 rows_h, Bx b4 [(.int .i64 p_)], Bx b10 [(also_h).v], E (List (List Int)) s6786_1 also_h]) hrt hF6794
      refine sq ?_
      obtain ⟨r6803, hF6805, hF6804⟩ := bindS hF6794; clear hF6794
      refine cut (fun (q6806 : Bool) => [(2, (.int .i64 n_)), (5, (.pointer (some ⟨b7, 0, none⟩))), (9, (.int .i64 s6786_3)), (10, (.func (.func 147) #[] #[(.pointer (some ⟨b4, 0, none⟩)), (.pointer (some ⟨b7, 0, none⟩)), (.pointer (some ⟨b10, 0, none⟩))])), (11, (.int .i64 s6786_2)), (23, (.bool q6806))]) (fun (q6806 : Bool) w' => q6806 = r6803 ∧ Cx w0 fp0 S0 w' [Bx b7 [(rows_h).v], E (List (List Int)) s6786_0 rows_h, Bx b4 [(.int .i64 p_)], Bx b10 [(also_h).v], E (List (List Int)) s6786_1 also_h]) ?_ ?_
      · skip
        obtain ⟨a6807, e, hF6808⟩ := bindS hF6805; clear hF6805
        refine boolO e ?_; clear e
        cases a6807
        · have hF6809 := condF hF6808; clear hF6808
          exact ⟨false, ⟨rfl, rfl, rfl, rfl, rfl, rfl, trivial⟩, Option.some.inj hF6809, H.sel [0, 1, 2, 3, 4] rfl⟩
        · have hF6810 := condT hF6808; clear hF6808
          refine load1 (H.bx0 0 rfl) ?_
          refine lenE (H.ro (α := List (List Int)) 1 rfl).len ?_
          obtain ⟨a6811, e, hF6812⟩ := bindS hF6810; clear hF6810
          refine boolO e ?_; clear e
          exact ⟨a6811, ⟨rfl, rfl, rfl, rfl, rfl, rfl, trivial⟩, Option.some.inj hF6812, H.sel [0, 1, 2, 3, 4] rfl⟩
      · clear hF6805 H
        rintro T6814 s6801 w6813 ⟨hr, (H : Cx w0 fp0 S0 w6813 [Bx b7 [(rows_h).v], E (List (List Int)) s6786_0 rows_h, Bx b4 [(.int .i64 p_)], Bx b10 [(also_h).v], E (List (List Int)) s6786_1 also_h])⟩
        subst hr
        cases s6801
        · have hF6815 := condF hF6804; clear hF6804
          have hs := Option.some.inj hF6815; subst hs; clear hF6815
          have hF6816 : some _ = some _ := congrArg some (hrt _ rfl).symm
          exact ⟨(s6786_0, s6786_1, s6786_3), ⟨rfl, trivial⟩, Option.some.inj hF6816, H.sel [1, 4] rfl⟩
        · have hF6817 := condT hF6804; clear hF6804
          obtain ⟨r7479, hF7481, hF7480⟩ := bindS hF6817; clear hF6817
          refine cut (fun (q7482 : List (List Int) × List (List Int) × Int) => [(2, (.int .i64 n_)), (5, (.pointer (some ⟨b7, 0, none⟩))), (9, (.int .i64 q7482.2.2)), (10, (.func (.func 147) #[] #[(.pointer (some ⟨b4, 0, none⟩)), (.pointer (some ⟨b7, 0, none⟩)), (.pointer (some ⟨b10, 0, none⟩))])), (11, (.int .i64 s6786_2))]) (fun (q7482 : List (List Int) × List (List Int) × Int) w' => (q7482.1, q7482.2.1, q7482.2.2) = r7479 ∧ Cx w0 fp0 S0 w' [Bx b7 [(rows_h).v], E (List (List Int)) q7482.1 rows_h, Bx b4 [(.int .i64 p_)], Bx b10 [(also_h).v], E (List (List Int)) q7482.2.1 also_h]) ?_ ?_
          · skip
            obtain ⟨r7673, hF7675, hF7674⟩ := bindS hF7481; clear hF7481
            refine cut (fun (q7676 : Int) => [(2, (.int .i64 n_)), (5, (.pointer (some ⟨b7, 0, none⟩))), (9, (.int .i64 s6786_3)), (10, (.func (.func 147) #[] #[(.pointer (some ⟨b4, 0, none⟩)), (.pointer (some ⟨b7, 0, none⟩)), (.pointer (some ⟨b10, 0, none⟩))])), (11, (.int .i64 s6786_2)), (12, (.int .i64 q7676))]) (fun (q7676 : Int) w' => q7676 = r7673 ∧ Cx w0 fp0 S0 w' [Bx b7 [(rows_h).v], E (List (List Int)) s6786_0 rows_h, Bx b4 [(.int .i64 p_)], Bx b10 [(also_h).v], E (List (List Int)) s6786_1 also_h]) ?_ ?_
            · skip
              refine loopW _ (fun (s7797 : Int) (_ : Unit) => [(2, (.int .i64 n_)), (5, (.pointer (some ⟨b7, 0, none⟩))), (9, (.int .i64 s6786_3)), (10, (.func (.func 147) #[] #[(.pointer (some ⟨b4, 0, none⟩)), (.pointer (some ⟨b7, 0, none⟩)), (.pointer (some ⟨b10, 0, none⟩))])), (11, (.int .i64 s6786_2)), (12, (.int .i64 s7797))]) (fun (s7797 : Int) (_ : Unit) w' => Cx w0 fp0 S0 w' [Bx b7 [(rows_h).v], E (List (List Int)) s6786_0 rows_h, Bx b4 [(.int .i64 p_)], Bx b10 [(also_h).v], E (List (List Int)) s6786_1 also_h]) s6786_3 () hF7675 ⟨rfl, rfl, rfl, rfl, rfl, rfl, trivial⟩ (H.sel [0, 1, 2, 3, 4] rfl) ?_
              · clear H
                rintro T7803 s7797 _ w7802 o7804 (H : Cx w0 fp0 S0 w7802 [Bx b7 [(rows_h).v], E (List (List Int)) s6786_0 rows_h, Bx b4 [(.int .i64 p_)], Bx b10 [(also_h).v], E (List (List Int)) s6786_1 also_h]) hrt hF7805
                refine sq ?_
                obtain ⟨r7831, hF7833, hF7832⟩ := bindS hF7805; clear hF7805
                refine cut (fun (q7834 : Bool) => [(2, (.int .i64 n_)), (5, (.pointer (some ⟨b7, 0, none⟩))), (9, (.int .i64 s6786_3)), (10, (.func (.func 147) #[] #[(.pointer (some ⟨b4, 0, none⟩)), (.pointer (some ⟨b7, 0, none⟩)), (.pointer (some ⟨b10, 0, none⟩))])), (11, (.int .i64 s6786_2)), (12, (.int .i64 s7797)), (40, (.bool q7834))]) (fun (q7834 : Bool) w' => q7834 = r7831 ∧ Cx w0 fp0 S0 w' [Bx b7 [(rows_h).v], E (List (List Int)) s6786_0 rows_h, Bx b4 [(.int .i64 p_)], Bx b10 [(also_h).v], E (List (List Int)) s6786_1 also_h]) ?_ ?_
                · skip
                  refine load1 (H.bx0 0 rfl) ?_
                  refine lenE (H.ro (α := List (List Int)) 1 rfl).len ?_
                  obtain ⟨a7835, e, hF7836⟩ := bindS hF7833; clear hF7833
                  refine boolO e ?_; clear e
                  cases a7835
                  · have hF7837 := condF hF7836; clear hF7836
                    exact ⟨false, ⟨rfl, rfl, rfl, rfl, rfl, rfl, rfl, trivial⟩, Option.some.inj hF7837, H.sel [0, 1, 2, 3, 4] rfl⟩
                  · have hF7838 := condT hF7836; clear hF7836
                    refine load1 (H.bx0 0 rfl) ?_
                    obtain ⟨a7845, e, hF7846⟩ := bindS hF7838; clear hF7838
                    replace H := H.sel [1, 0, 2, 3, 4] rfl
                    replace H := H.toEH (α := List Int)
                    have HH := H; clear H; obtain ⟨p7843, m7844, h7847, c7839, c7840, c7841, c7842, H⟩ := HH.peekL e; clear HH
                    clear e
                    refine idxE c7839 c7840 c7841 ?_
                    refine load1 c7842 ?_; clear c7842
                    obtain ⟨a7854, e, hF7855⟩ := bindS hF7846; clear hF7846
                    obtain ⟨p7852, m7853, c7848, c7849, c7850, c7851⟩ := (H.rh (α := List Int) 0 rfl 0 rfl).at1 e; clear e
                    refine idxE c7848 c7849 c7850 ?_; clear c7848 c7849 c7850
                    refine load1 c7851 ?_; clear c7851
                    obtain ⟨a7856, e, hF7857⟩ := bindS hF7855; clear hF7855
                    refine boolO e ?_; clear e
                    replace H := H.ofEH
                    exact ⟨a7856, ⟨rfl, rfl, rfl, rfl, rfl, rfl, rfl, trivial⟩, Option.some.inj hF7857, H.sel [1, 0, 2, 3, 4] rfl⟩
                · clear hF7833 H
                  rintro T7859 s7829 w7858 ⟨hr, (H : Cx w0 fp0 S0 w7858 [Bx b7 [(rows_h).v], E (List (List Int)) s6786_0 rows_h, Bx b4 [(.int .i64 p_)], Bx b10 [(also_h).v], E (List (List Int)) s6786_1 also_h])⟩
                  subst hr
                  cases s7829
                  · have hF7860 := condF hF7832; clear hF7832
                    have hs := Option.some.inj hF7860; subst hs; clear hF7860
                    have hF7861 : some _ = some _ := congrArg some (hrt _ rfl).symm
                    exact ⟨s7797, ⟨rfl, rfl, rfl, rfl, rfl, rfl, trivial⟩, Option.some.inj hF7861, H.sel [0, 1, 2, 3, 4] rfl⟩
                  · have hF7862 := condT hF7832; clear hF7832
                    obtain ⟨a7863, e, hF7864⟩ := bindS hF7862; clear hF7862
                    refine arO e ?_; clear e
                    have hs := Option.some.inj hF7864; subst hs; clear hF7864
                    exact ⟨a7863, (), rfl, ⟨rfl, rfl, rfl, rfl, rfl, rfl, trivial⟩, H.sel [0, 1, 2, 3, 4] rfl⟩
            · clear hF7675 H
              rintro T7866 s7671 w7865 ⟨hr, (H : Cx w0 fp0 S0 w7865 [Bx b7 [(rows_h).v], E (List (List Int)) s6786_0 rows_h, Bx b4 [(.int .i64 p_)], Bx b10 [(also_h).v], E (List (List Int)) s6786_1 also_h])⟩
              subst hr
              refine sq ?_
              refine load1 (H.bx0 0 rfl) ?_
              refine lenE (H.ro (α := List (List Int)) 1 rfl).len ?_
              obtain ⟨a7867, e, hF7868⟩ := bindS hF7674; clear hF7674
              refine boolO e ?_; clear e
              cases a7867
              · have hF7869 := condF hF7868; clear hF7868
                refine build_ (cs := #[(.int .i64 0), (.int .i64 s6786_3), (.int .i64 s7671), (.int .i64 0)]) gok rfl rfl rfl ?_
                obtain ⟨y7870, e, hF7871⟩ := bindS hF7869; clear hF7869
                obtain ⟨y7870_0, y7870_1⟩ := y7870
                have ey7870 := e; clear e
                replace H := H.sel [2, 0, 1, 3, 4] rfl
                refine callF (impl_reduction_1_c 0 s6786_3 s7671 0 b4 p_ b7 s6786_0 rows_h b10 s6786_1 also_h y7870_0 y7870_1 ey7870) (Γi := [Bx b4 [(.int .i64 p_)], Bx b7 [(rows_h).v], E (List (List Int)) s6786_0 rows_h, Bx b10 [(also_h).v], E (List (List Int)) s6786_1 also_h]) H trivial ?_; clear H ey7870
                rintro _ _ w7872 ⟨rfl, rfl⟩ (H : Cx w0 fp0 S0 w7872 [Bx b4 [(.int .i64 p_)], Bx b7 [(rows_h).v], E (List (List Int)) y7870_0 rows_h, Bx b10 [(also_h).v], E (List (List Int)) y7870_1 also_h])
                refine load1 (H.bx0 1 rfl) ?_
                obtain ⟨a7879, e, hF7880⟩ := bindS hF7871; clear hF7871
                replace H := H.sel [2, 0, 1, 3, 4] rfl
                replace H := H.toEH (α := List Int)
                have HH := H; clear H; obtain ⟨p7877, m7878, h7881, c7873, c7874, c7875, c7876, H⟩ := HH.peekL e; clear HH
                clear e
                refine idxE c7873 c7874 c7875 ?_
                refine load1 c7876 ?_; clear c7876
                obtain ⟨a7888, e, hF7889⟩ := bindS hF7880; clear hF7880
                obtain ⟨p7886, m7887, c7882, c7883, c7884, c7885⟩ := (H.rh (α := List Int) 0 rfl 0 rfl).at1 e; clear e
                refine idxE c7882 c7883 c7884 ?_; clear c7882 c7883 c7884
                refine load1 c7885 ?_; clear c7885
                refine build_ (cs := #[(.int .i64 1), (.int .i64 s6786_3), (.int .i64 0), (.int .i64 a7888)]) gok rfl rfl rfl ?_
                replace H := H.ofEH
                obtain ⟨y7890, e, hF7891⟩ := bindS hF7889; clear hF7889
                obtain ⟨y7890_0, y7890_1⟩ := y7890
                have ey7890 := e; clear e
                replace H := H.sel [1, 2, 0, 3, 4] rfl
                refine callF (impl_reduction_1_c 1 s6786_3 0 a7888 b4 p_ b7 y7870_0 rows_h b10 y7870_1 also_h y7890_0 y7890_1 ey7890) (Γi := [Bx b4 [(.int .i64 p_)], Bx b7 [(rows_h).v], E (List (List Int)) y7870_0 rows_h, Bx b10 [(also_h).v], E (List (List Int)) y7870_1 also_h]) H trivial ?_; clear H ey7890
                rintro _ _ w7892 ⟨rfl, rfl⟩ (H : Cx w0 fp0 S0 w7892 [Bx b4 [(.int .i64 p_)], Bx b7 [(rows_h).v], E (List (List Int)) y7890_0 rows_h, Bx b10 [(also_h).v], E (List (List Int)) y7890_1 also_h])
                refine sq ?_
                refine load1 (H.bx0 1 rfl) ?_
                refine lenE (H.ro (α := List (List Int)) 2 rfl).len ?_
                have hmx8052 := (H.ro (α := List (List Int)) 2 rfl).max
                obtain ⟨r8053, e, hF8054⟩ := bindS hF7891; clear hF7891
                refine loopS _ y7890_0.length (fun (k7893 : Nat) (s8050 : List (List Int) × List (List Int)) (_ : Unit) => [(2, (.int .i64 n_)), (5, (.pointer (some ⟨b7, 0, none⟩))), (9, (.int .i64 s6786_3)), (10, (.func (.func 147) #[] #[(.pointer (some ⟨b4, 0, none⟩)), (.pointer (some ⟨b7, 0, none⟩)), (.pointer (some ⟨b10, 0, none⟩))])), (11, (.int .i64 s6786_2)), (64, (.int .i64 ((y7890_0.length : Nat) : Int))), (65, (.int .i64 ((k7893 : Nat) : Int)))]) (fun _ (s8050 : List (List Int) × List (List Int)) (_ : Unit) w' => Cx w0 fp0 S0 w' [Bx b7 [(rows_h).v], E (List (List Int)) s8050.1 rows_h, Bx b4 [(.int .i64 p_)], Bx b10 [(also_h).v], E (List (List Int)) s8050.2 also_h]) (y7890_0, y7890_1) () e ⟨rfl, rfl, rfl, rfl, rfl, rfl, rfl, trivial⟩ (H.sel [1, 2, 0, 3, 4] rfl) ?_ ?_
                · clear H e
                  rintro T8056 k7893 ⟨s8050_0, s8050_1⟩ _ w8055 o8057 hk (H : Cx w0 fp0 S0 w8055 [Bx b7 [(rows_h).v], E (List (List Int)) s8050_0 rows_h, Bx b4 [(.int .i64 p_)], Bx b10 [(also_h).v], E (List (List Int)) s8050_1 also_h]) hF8058
                  refine boolE (z := true) (ltLen hk) ?_
                  refine sq ?_
                  refine sq ?_
                  obtain ⟨r8084, hF8086, hF8085⟩ := bindS hF8058; clear hF8058
                  refine cut (fun (q8087 : Bool) => [(2, (.int .i64 n_)), (5, (.pointer (some ⟨b7, 0, none⟩))), (9, (.int .i64 s6786_3)), (10, (.func (.func 147) #[] #[(.pointer (some ⟨b4, 0, none⟩)), (.pointer (some ⟨b7, 0, none⟩)), (.pointer (some ⟨b10, 0, none⟩))])), (11, (.int .i64 s6786_2)), (13, (.int .i64 ((k7893 : Nat) : Int))), (64, (.int .i64 ((y7890_0.length : Nat) : Int))), (65, (.int .i64 ((k7893 : Nat) : Int))), (80, (.bool q8087))]) (fun (q8087 : Bool) w' => q8087 = r8084 ∧ Cx w0 fp0 S0 w' [Bx b7 [(rows_h).v], E (List (List Int)) s8050_0 rows_h, Bx b4 [(.int .i64 p_)], Bx b10 [(also_h).v], E (List (List Int)) s8050_1 also_h]) ?_ ?_
                  · skip
                    obtain ⟨a8088, e, hF8089⟩ := bindS hF8086; clear hF8086
                    refine boolO e ?_; clear e
                    cases a8088
                    · have hF8090 := condF hF8089; clear hF8089
                      exact ⟨false, ⟨rfl, rfl, rfl, rfl, rfl, rfl, rfl, rfl, rfl, trivial⟩, Option.some.inj hF8090, H.sel [0, 1, 2, 3, 4] rfl⟩
                    · have hF8091 := condT hF8089; clear hF8089
                      refine load1 (H.bx0 0 rfl) ?_
                      obtain ⟨a8098, e, hF8099⟩ := bindS hF8091; clear hF8091
                      replace H := H.sel [1, 0, 2, 3, 4] rfl
                      replace H := H.toEH (α := List Int)
                      have HH := H; clear H; obtain ⟨p8096, m8097, h8100, c8092, c8093, c8094, c8095, H⟩ := HH.peekL e; clear HH
                      clear e
                      refine idxE c8092 c8093 c8094 ?_
                      refine load1 c8095 ?_; clear c8095
                      obtain ⟨a8107, e, hF8108⟩ := bindS hF8099; clear hF8099
                      obtain ⟨p8105, m8106, c8101, c8102, c8103, c8104⟩ := (H.rh (α := List Int) 0 rfl 0 rfl).at1 e; clear e
                      refine idxE c8101 c8102 c8103 ?_; clear c8101 c8102 c8103
                      refine load1 c8104 ?_; clear c8104
                      obtain ⟨a8109, e, hF8110⟩ := bindS hF8108; clear hF8108
                      refine boolO e ?_; clear e
                      replace H := H.ofEH
                      exact ⟨a8109, ⟨rfl, rfl, rfl, rfl, rfl, rfl, rfl, rfl, rfl, trivial⟩, Option.some.inj hF8110, H.sel [1, 0, 2, 3, 4] rfl⟩
                  · clear hF8086 H
                    rintro T8112 s8082 w8111 ⟨hr, (H : Cx w0 fp0 S0 w8111 [Bx b7 [(rows_h).v], E (List (List Int)) s8050_0 rows_h, Bx b4 [(.int .i64 p_)], Bx b10 [(also_h).v], E (List (List Int)) s8050_1 also_h])⟩
                    subst hr
                    cases s8082
                    · have hF8113 := condF hF8085; clear hF8085
                      refine arK hk hmx8052 ?_
                      have hs := Option.some.inj hF8113; subst hs; clear hF8113
                      exact ⟨(), ⟨rfl, rfl, rfl, rfl, rfl, rfl, rfl, trivial⟩, H.sel [0, 1, 2, 3, 4] rfl⟩
                    · have hF8114 := condT hF8085; clear hF8085
                      refine load1 (H.bx0 0 rfl) ?_
                      obtain ⟨a8121, e, hF8122⟩ := bindS hF8114; clear hF8114
                      replace H := H.sel [1, 0, 2, 3, 4] rfl
                      replace H := H.toEH (α := List Int)
                      have HH := H; clear H; obtain ⟨p8119, m8120, h8123, c8115, c8116, c8117, c8118, H⟩ := HH.peekL e; clear HH
                      clear e
                      refine idxE c8115 c8116 c8117 ?_
                      refine load1 c8118 ?_; clear c8118
                      obtain ⟨a8130, e, hF8131⟩ := bindS hF8122; clear hF8122
                      obtain ⟨p8128, m8129, c8124, c8125, c8126, c8127⟩ := (H.rh (α := List Int) 0 rfl 0 rfl).at1 e; clear e
                      refine idxE c8124 c8125 c8126 ?_; clear c8124 c8125 c8126
                      refine load1 c8127 ?_; clear c8127
                      refine build_ (cs := #[(.int .i64 2), (.int .i64 ((k7893 : Nat) : Int)), (.int .i64 s6786_3), (.int .i64 a8130)]) gok rfl rfl rfl ?_
                      replace H := H.ofEH
                      obtain ⟨y8132, e, hF8133⟩ := bindS hF8131; clear hF8131
                      obtain ⟨y8132_0, y8132_1⟩ := y8132
                      have ey8132 := e; clear e
                      replace H := H.sel [2, 1, 0, 3, 4] rfl
                      refine callF (impl_reduction_1_c 2 ((k7893 : Nat) : Int) s6786_3 a8130 b4 p_ b7 s8050_0 rows_h b10 s8050_1 also_h y8132_0 y8132_1 ey8132) (Γi := [Bx b4 [(.int .i64 p_)], Bx b7 [(rows_h).v], E (List (List Int)) s8050_0 rows_h, Bx b10 [(also_h).v], E (List (List Int)) s8050_1 also_h]) H trivial ?_; clear H ey8132
                      rintro _ _ w8134 ⟨rfl, rfl⟩ (H : Cx w0 fp0 S0 w8134 [Bx b4 [(.int .i64 p_)], Bx b7 [(rows_h).v], E (List (List Int)) y8132_0 rows_h, Bx b10 [(also_h).v], E (List (List Int)) y8132_1 also_h])
                      refine arK hk hmx8052 ?_
                      have hs := Option.some.inj hF8133; subst hs; clear hF8133
                      exact ⟨(), ⟨rfl, rfl, rfl, rfl, rfl, rfl, rfl, trivial⟩, H.sel [1, 2, 0, 3, 4] rfl⟩
                · clear H e
                  obtain ⟨s8137_0, s8137_1⟩ := r8053
                  rintro T8136 _ w8135 (H : Cx w0 fp0 S0 w8135 [Bx b7 [(rows_h).v], E (List (List Int)) s8137_0 rows_h, Bx b4 [(.int .i64 p_)], Bx b10 [(also_h).v], E (List (List Int)) s8137_1 also_h])
                  refine boolE (z := false) geLen ?_
                  refine sq ?_
                  obtain ⟨a8139, e, hF8140⟩ := bindS hF8054; clear hF8054
                  refine arO e ?_; clear e
                  exact ⟨(s8137_0, s8137_1, a8139), ⟨rfl, rfl, rfl, rfl, rfl, trivial⟩, Option.some.inj hF8140, H.sel [0, 1, 2, 3, 4] rfl⟩
              · have hF8141 := condT hF7868; clear hF7868
                exact ⟨(s6786_0, s6786_1, s6786_3), ⟨rfl, rfl, rfl, rfl, rfl, trivial⟩, Option.some.inj hF8141, H.sel [0, 1, 2, 3, 4] rfl⟩
          · clear hF7481 H
            rintro T8143 ⟨s7477_0, s7477_1, s7477_2⟩ w8142 ⟨hr, (H : Cx w0 fp0 S0 w8142 [Bx b7 [(rows_h).v], E (List (List Int)) s7477_0 rows_h, Bx b4 [(.int .i64 p_)], Bx b10 [(also_h).v], E (List (List Int)) s7477_1 also_h])⟩
            subst hr
            obtain ⟨a8144, e, hF8145⟩ := bindS hF7480; clear hF7480
            refine arO e ?_; clear e
            have hs := Option.some.inj hF8145; subst hs; clear hF8145
            exact ⟨(s7477_0, s7477_1, a8144, s7477_2), (), rfl, ⟨rfl, rfl, rfl, rfl, rfl, trivial⟩, H.sel [0, 1, 2, 3, 4] rfl⟩
  · clear hF4080 H
    rintro T8147 ⟨s4076_0, s4076_1, s4076_2⟩ w8146 ⟨hr, (H : Cx w0 fp0 S0 w8146 [E (List (List Int)) s4076_0 rows_h, E (List (List Int)) s4076_1 also_h])⟩
    subst hr
    cases hF4079
    exact ⟨_, _, rfl, ⟨rfl, rfl⟩, (H.sel [0, 1] rfl).close ⟨cloE, cloE, trivial⟩⟩

theorem impl_lead_c (v_ : List Int) (v_h : Hd) (y : Int) (hF : F_impl_lead v_ = some y) :
    ConF Tryd.prog 90 #[(v_h).v] [Es (List Int) v_ v_h] [] (fun v Γ' => v = (.int .i64 y) ∧ Γ' = []) := by
  intro w0 S0 fp0 hI hS
  have H : Cx w0 fp0 S0 w0 [Es (List Int) v_ v_h] := Cx.start hI hS
  clear hI hS
  refine enterC (args := [_]) gok Tryd.func90 rfl _ rfl rfl rfl ?_
  refine sq ?_
  refine lenE (H.rs (α := List Int) 0 rfl).len ?_
  have hmx19 := (H.rs (α := List Int) 0 rfl).max
  obtain ⟨r20, e, hF21⟩ := bindS hF; clear hF
  refine loopO _ v_.length (fun (k2 : Nat) (_ : Unit) (_ : Unit) => [(0, (v_h).v), (5, (v_h).v), (6, (.int .i64 ((v_.length : Nat) : Int))), (7, (.int .i64 ((k2 : Nat) : Int)))]) (fun _ (_ : Unit) (_ : Unit) w' => Cx w0 fp0 S0 w' [Es (List Int) v_ v_h]) () () e ⟨rfl, rfl, rfl, rfl, trivial⟩ (H.sel [0] rfl) ?_ ?_
  · clear H e
    rintro T23 k2 _ _ w22 o24 hk (H : Cx w0 fp0 S0 w22 [Es (List Int) v_ v_h]) hrt hF25
    refine boolE (z := true) (ltLen hk) ?_
    refine sq ?_
    refine sq ?_
    obtain ⟨a32, e, hF33⟩ := bindS hF25; clear hF25
    obtain ⟨p30, m31, c26, c27, c28, c29⟩ := (H.rs (α := List Int) 0 rfl).at1 e; clear e
    refine idxE c26 c27 c28 ?_; clear c26 c27 c28
    refine load1 c29 ?_; clear c29
    obtain ⟨a34, e, hF35⟩ := bindS hF33; clear hF33
    refine boolO e ?_; clear e
    cases a34
    · have hF36 := condF hF35; clear hF35
      refine arK hk hmx19 ?_
      have hs := Option.some.inj hF36; subst hs; clear hF36
      exact ⟨(), (), rfl, ⟨rfl, rfl, rfl, rfl, trivial⟩, H.sel [0] rfl⟩
    · have hF37 := condT hF35; clear hF35
      have hs := Option.some.inj hF37; subst hs; clear hF37
      have hr := hrt _ rfl; subst hr
      have hF38 : some _ = some _ := hF21
      cases hF38
      exact ⟨_, _, rfl, ⟨rfl, rfl⟩, (H.sel [] rfl).close trivial⟩
  · clear H e
    rintro T40 _ _ w39 hr (H : Cx w0 fp0 S0 w39 [Es (List Int) v_ v_h])
    subst hr
    refine boolE (z := false) geLen ?_
    refine sq ?_
    refine lenE (H.rs (α := List Int) 0 rfl).len ?_
    cases hF21
    exact ⟨_, _, rfl, ⟨rfl, rfl⟩, (H.sel [] rfl).close trivial⟩

theorem impl_isZero_c (v_ : List Int) (v_h : Hd) (y : Bool) (hF : F_impl_isZero v_ = some y) :
    ConF Tryd.prog 97 #[(v_h).v] [Es (List Int) v_ v_h] [] (fun v Γ' => v = (.bool y) ∧ Γ' = []) := by
  intro w0 S0 fp0 hI hS
  have H : Cx w0 fp0 S0 w0 [Es (List Int) v_ v_h] := Cx.start hI hS
  clear hI hS
  refine enterC (args := [_]) gok Tryd.func97 rfl _ rfl rfl rfl ?_
  obtain ⟨y2, e, hF3⟩ := bindS hF; clear hF
  have ey2 := e; clear e
  refine callF (impl_lead_c v_ v_h y2 ey2) (Γi := []) H ⟨Vw.sh 0 rfl, trivial⟩ ?_; clear H ey2
  rintro _ _ w4 ⟨rfl, rfl⟩ (H : Cx w0 fp0 S0 w4 [Es (List Int) v_ v_h])
  refine lenE (H.rs (α := List Int) 0 rfl).len ?_
  obtain ⟨a5, e, hF6⟩ := bindS hF3; clear hF3
  refine boolO e ?_; clear e
  cases hF6
  exact ⟨_, _, rfl, ⟨rfl, rfl⟩, (H.sel [] rfl).close trivial⟩

theorem impl_coordinates_c (p_ : Int) (basis_ : List (List Int)) (basis_h : Hd) (v_ : List Int) (v_h : Hd) (y0 : List Int) (y1 : Bool) (hF : F_impl_coordinates p_ basis_ v_ = some (y0, y1)) :
    ConF Tryd.prog 86 #[(.int .i64 p_), (basis_h).v, (v_h).v] [Es (List (List Int)) basis_ basis_h, Es (List Int) v_ v_h] [] (fun v Γ' => ∃ z0 : Hd, v = (.tuple #[(z0).v, (.bool y1)]) ∧ Γ' = [E (List Int) y0 z0]) := by
  intro w0 S0 fp0 hI hS
  have H : Cx w0 fp0 S0 w0 [Es (List (List Int)) basis_ basis_h, Es (List Int) v_ v_h] := Cx.start hI hS
  clear hI hS
  refine enterC (args := [_, _, _]) gok Tryd.func86 rfl _ rfl rfl rfl ?_
  obtain ⟨y3, e, hF4⟩ := bindS hF; clear hF
  have ey3 := e; clear e
  refine callF (impl_clone_c v_ v_h y3 ey3) (Γi := []) H ⟨Vw.sh 1 rfl, trivial⟩ ?_; clear H ey3
  rintro _ _ w5 ⟨h6, rfl, rfl⟩ (H : Cx w0 fp0 S0 w5 [E (List Int) y3 h6, Es (List (List Int)) basis_ basis_h, Es (List Int) v_ v_h])
  refine lit0 (α := Int) gok rfl rfl H ?_; clear H; intro h9 w8 hx H
  clear hx
  refine sq ?_
  refine lenE (H.rs (α := List (List Int)) 2 rfl).len ?_
  have hmx88 := (H.rs (α := List (List Int)) 2 rfl).max
  obtain ⟨r89, e, hF90⟩ := bindS hF4; clear hF4
  refine loopS _ basis_.length (fun (k11 : Nat) (s85 : List Int × List Int) (g86 : Hd) => [(0, (.int .i64 p_)), (8, (h6).v), (9, (g86).v), (16, (basis_h).v), (17, (.int .i64 ((basis_.length : Nat) : Int))), (18, (.int .i64 ((k11 : Nat) : Int)))]) (fun _ (s85 : List Int × List Int) (g86 : Hd) w' => Cx w0 fp0 S0 w' [E (List Int) s85.1 h6, E (List Int) s85.2 g86, Es (List (List Int)) basis_ basis_h]) (y3, ([] : List Int)) h9 e ⟨rfl, rfl, rfl, rfl, rfl, rfl, trivial⟩ (H.sel [1, 0, 2] rfl) ?_ ?_
  · clear H e
    rintro T92 k11 ⟨s85_0, s85_1⟩ g86 w91 o93 hk (H : Cx w0 fp0 S0 w91 [E (List Int) s85_0 h6, E (List Int) s85_1 g86, Es (List (List Int)) basis_ basis_h]) hF94
    refine boolE (z := true) (ltLen hk) ?_
    refine sq ?_
    refine sq ?_
    obtain ⟨a101, e, hF102⟩ := bindS hF94; clear hF94
    have HH := H; clear H; obtain ⟨p99, m100, h103, c95, c96, c97, c98, H⟩ := HH.elL 2 rfl e; clear HH
    clear e
    refine idxE c95 c96 c97 ?_; clear c95 c96 c97
    refine load1 c98 ?_; clear c98
    obtain ⟨y105, e, hF106⟩ := bindS hF102; clear hF102
    have ey105 := e; clear e
    refine callF (impl_lead_c a101 h103 y105 ey105) (Γi := []) H ⟨Vw.sh 0 rfl, trivial⟩ ?_; clear H ey105
    rintro _ _ w107 ⟨rfl, rfl⟩ (H : Cx w0 fp0 S0 w107 [Es (List Int) a101 h103, E (List Int) s85_0 h6, E (List Int) s85_1 g86, Es (List (List Int)) basis_ basis_h])
    obtain ⟨a114, e, hF115⟩ := bindS hF106; clear hF106
    obtain ⟨p112, m113, c108, c109, c110, c111⟩ := (H.ro (α := List Int) 1 rfl).at1 e; clear e
    refine idxE c108 c109 c110 ?_; clear c108 c109 c110
    refine load1 c111 ?_; clear c111
    refine lit1S (α := Int) gok rfl rfl rfl rfl H ?_; clear H; intro h117 w116 hx H
    clear hx
    obtain ⟨a119, e, hF120⟩ := bindS hF115; clear hF115
    replace H := H.sel [3, 0, 1, 2, 4] rfl
    refine append_ (α := Int) gok rfl rfl rfl rfl H e ?_; clear e H; intro h122 w121 H
    obtain ⟨a124, e, hF125⟩ := bindS hF120; clear hF120
    refine arO e ?_; clear e
    obtain ⟨y126, e, hF127⟩ := bindS hF125; clear hF125
    have ey126 := e; clear e
    replace H := H.sel [2, 0, 1, 3] rfl
    refine callF (impl_addTimes_c p_ s85_0 h6 a124 a101 h103 y126 ey126) (Γi := [E (List Int) s85_0 h6]) H ⟨Vw.sh 1 rfl, trivial⟩ ?_; clear H ey126
    rintro _ _ w128 ⟨rfl, rfl⟩ (H : Cx w0 fp0 S0 w128 [E (List Int) y126 h6, E (List Int) a119 h122, Es (List Int) a101 h103, Es (List (List Int)) basis_ basis_h])
    refine arK hk hmx88 ?_
    have hs := Option.some.inj hF127; subst hs; clear hF127
    exact ⟨h122, ⟨rfl, rfl, rfl, rfl, rfl, rfl, trivial⟩, H.sel [0, 1, 3] rfl⟩
  · clear H e
    obtain ⟨s131_0, s131_1⟩ := r89
    rintro T130 g132 w129 (H : Cx w0 fp0 S0 w129 [E (List Int) s131_0 h6, E (List Int) s131_1 g132, Es (List (List Int)) basis_ basis_h])
    refine boolE (z := false) geLen ?_
    refine sq ?_
    obtain ⟨y134, e, hF135⟩ := bindS hF90; clear hF90
    have ey134 := e; clear e
    refine callF (impl_isZero_c s131_0 h6 y134 ey134) (Γi := []) H ⟨Vw.own 0 rfl, trivial⟩ ?_; clear H ey134
    rintro _ _ w136 ⟨rfl, rfl⟩ (H : Cx w0 fp0 S0 w136 [E (List Int) s131_0 h6, E (List Int) s131_1 g132, Es (List (List Int)) basis_ basis_h])
    cases hF135
    exact ⟨_, _, rfl, ⟨g132, rfl, rfl⟩, (H.sel [1] rfl).close ⟨cloE, trivial⟩⟩

theorem impl_combine_c (p_ : Int) (x_ : List Int) (x_h : Hd) (rows_ : List (List Int)) (rows_h : Hd) (n_ : Int) (y : List Int) (hF : F_impl_combine p_ x_ rows_ n_ = some y) :
    ConF Tryd.prog 112 #[(.int .i64 p_), (x_h).v, (rows_h).v, (.int .i64 n_)] [Es (List Int) x_ x_h, Es (List (List Int)) rows_ rows_h] [] (fun v Γ' => ∃ z0 : Hd, v = (z0).v ∧ Γ' = [E (List Int) y z0]) := by
  intro w0 S0 fp0 hI hS
  have H : Cx w0 fp0 S0 w0 [Es (List Int) x_ x_h, Es (List (List Int)) rows_ rows_h] := Cx.start hI hS
  clear hI hS
  refine enterC (args := [_, _, _, _]) gok Tryd.func112 rfl _ rfl rfl rfl ?_
  obtain ⟨y3, e, hF4⟩ := bindS hF; clear hF
  have ey3 := e; clear e
  refine callF (impl_zeros_c n_ y3 ey3) (Γi := []) H trivial ?_; clear H ey3
  rintro _ _ w5 ⟨h6, rfl, rfl⟩ (H : Cx w0 fp0 S0 w5 [E (List Int) y3 h6, Es (List Int) x_ x_h, Es (List (List Int)) rows_ rows_h])
  refine sq ?_
  refine lenE (H.rs (α := List (List Int)) 2 rfl).len ?_
  have hmx57 := (H.rs (α := List (List Int)) 2 rfl).max
  obtain ⟨r58, e, hF59⟩ := bindS hF4; clear hF4
  refine loopS _ rows_.length (fun (k8 : Nat) (s55 : List Int) (_ : Unit) => [(0, (.int .i64 p_)), (1, (x_h).v), (9, (h6).v), (14, (rows_h).v), (15, (.int .i64 ((rows_.length : Nat) : Int))), (16, (.int .i64 ((k8 : Nat) : Int)))]) (fun _ (s55 : List Int) (_ : Unit) w' => Cx w0 fp0 S0 w' [Es (List Int) x_ x_h, E (List Int) s55 h6, Es (List (List Int)) rows_ rows_h]) y3 () e ⟨rfl, rfl, rfl, rfl, rfl, rfl, trivial⟩ (H.sel [1, 0, 2] rfl) ?_ ?_
  · clear H e
    rintro T61 k8 s55 _ w60 o62 hk (H : Cx w0 fp0 S0 w60 [Es (List Int) x_ x_h, E (List Int) s55 h6, Es (List (List Int)) rows_ rows_h]) hF63
    refine boolE (z := true) (ltLen hk) ?_
    refine sq ?_
    refine sq ?_
    obtain ⟨a70, e, hF71⟩ := bindS hF63; clear hF63
    have HH := H; clear H; obtain ⟨p68, m69, h72, c64, c65, c66, c67, H⟩ := HH.elL 2 rfl e; clear HH
    clear e
    refine idxE c64 c65 c66 ?_; clear c64 c65 c66
    refine load1 c67 ?_; clear c67
    obtain ⟨a80, e, hF81⟩ := bindS hF71; clear hF71
    obtain ⟨p78, m79, c74, c75, c76, c77⟩ := (H.rs (α := List Int) 1 rfl).at1 e; clear e
    refine idxE c74 c75 c76 ?_; clear c74 c75 c76
    refine load1 c77 ?_; clear c77
    obtain ⟨y82, e, hF83⟩ := bindS hF81; clear hF81
    have ey82 := e; clear e
    replace H := H.sel [2, 0, 1, 3] rfl
    refine callF (impl_addTimes_c p_ s55 h6 a80 a70 h72 y82 ey82) (Γi := [E (List Int) s55 h6]) H ⟨Vw.sh 0 rfl, trivial⟩ ?_; clear H ey82
    rintro _ _ w84 ⟨rfl, rfl⟩ (H : Cx w0 fp0 S0 w84 [E (List Int) y82 h6, Es (List Int) a70 h72, Es (List Int) x_ x_h, Es (List (List Int)) rows_ rows_h])
    refine arK hk hmx57 ?_
    have hs := Option.some.inj hF83; subst hs; clear hF83
    exact ⟨(), ⟨rfl, rfl, rfl, rfl, rfl, rfl, trivial⟩, H.sel [2, 0, 3] rfl⟩
  · clear H e
    rintro T86 _ w85 (H : Cx w0 fp0 S0 w85 [Es (List Int) x_ x_h, E (List Int) r58 h6, Es (List (List Int)) rows_ rows_h])
    refine boolE (z := false) geLen ?_
    refine sq ?_
    cases hF59
    exact ⟨_, _, rfl, ⟨h6, rfl, rfl⟩, (H.sel [1] rfl).close ⟨cloE, trivial⟩⟩

theorem impl_SolveLinear_c (p_ : Int) (m__0 : Int) (m__1 : List (List Int)) (m__1h : Hd) (b_ : List Int) (b_h : Hd) (y0 : List Int) (y1 : Bool) (hF : F_impl_SolveLinear p_ (m__0, m__1) b_ = some (y0, y1)) :
    ConF Tryd.prog 58 #[(.int .i64 p_), (.agg #[(.int .i64 m__0), (m__1h).v]), (b_h).v] [Es (List (List Int)) m__1 m__1h, Es (List Int) b_ b_h, Gl 0 [.int .i64 2, .int .i64 3, .int .i64 5, .int .i64 7]] [] (fun v Γ' => ∃ z0 : Hd, v = (.tuple #[(z0).v, (.bool y1)]) ∧ Γ' = [E (List Int) y0 z0]) := by
  intro w0 S0 fp0 hI hS
  have H : Cx w0 fp0 S0 w0 [Es (List (List Int)) m__1 m__1h, Es (List Int) b_ b_h, Gl 0 [.int .i64 2, .int .i64 3, .int .i64 5, .int .i64 7]] := Cx.start hI hS
  clear hI hS
  refine enterC (args := [_, _, _]) gok Tryd.func58 rfl _ rfl rfl rfl ?_
  refine box_ H ?_; clear H; intro b5 w4 hx H
  clear hx
  replace H : Cx w0 fp0 S0 w4 [Bx b5 [(.int .i64 m__0), (m__1h).v], Es (List (List Int)) m__1 m__1h, Es (List Int) b_ b_h, Gl 0 [.int .i64 2, .int .i64 3, .int .i64 5, .int .i64 7]] := H
  refine sq ?_
  obtain ⟨r21, hF23, hF22⟩ := bindS hF; clear hF
  refine cut (fun (q24 : Bool) => [(0, (.int .i64 p_)), (2, (b_h).v), (4, (.pointer (some ⟨b5, 0, none⟩))), (24, (.bool q24))]) (fun (q24 : Bool) w' => q24 = r21 ∧ Cx w0 fp0 S0 w' [Es (List Int) b_ b_h, Bx b5 [(.int .i64 m__0), (m__1h).v], Es (List (List Int)) m__1 m__1h, Gl 0 [.int .i64 2, .int .i64 3, .int .i64 5, .int .i64 7]]) ?_ ?_
  · skip
    refine loadN [(.int .i64 m__0), (m__1h).v] rfl (fun j u hj => H.bx 0 rfl hj) ?_
    obtain ⟨y25, e, hF26⟩ := bindS hF23; clear hF23
    have ey25 := e; clear e
    refine callF (impl_isMatrix_c p_ m__0 m__1 m__1h y25 ey25) (Γi := []) H ⟨Vw.sh 1 rfl, Vw.gl 3 rfl, trivial⟩ ?_; clear H ey25
    rintro _ _ w27 ⟨rfl, rfl⟩ (H : Cx w0 fp0 S0 w27 [Bx b5 [(.int .i64 m__0), (m__1h).v], Es (List (List Int)) m__1 m__1h, Es (List Int) b_ b_h, Gl 0 [.int .i64 2, .int .i64 3, .int .i64 5, .int .i64 7]])
    obtain ⟨a28, e, hF29⟩ := bindS hF26; clear hF26
    refine boolO e ?_; clear e
    cases a28
    · have hF30 := condF hF29; clear hF29
      refine fld gok rfl rfl rfl rfl ?_
      refine load1 (H.bx 0 rfl (j := 0) rfl) ?_
      obtain ⟨y31, e, hF32⟩ := bindS hF30; clear hF30
      have ey31 := e; clear e
      refine callF (impl_isVector_c p_ b_ b_h m__0 y31 ey31) (Γi := []) H ⟨Vw.sh 2 rfl, trivial⟩ ?_; clear H ey31
      rintro _ _ w33 ⟨rfl, rfl⟩ (H : Cx w0 fp0 S0 w33 [Bx b5 [(.int .i64 m__0), (m__1h).v], Es (List (List Int)) m__1 m__1h, Es (List Int) b_ b_h, Gl 0 [.int .i64 2, .int .i64 3, .int .i64 5, .int .i64 7]])
      obtain ⟨a34, e, hF35⟩ := bindS hF32; clear hF32
      refine boolO e ?_; clear e
      exact ⟨a34, ⟨rfl, rfl, rfl, rfl, trivial⟩, Option.some.inj hF35, H.sel [2, 0, 1, 3] rfl⟩
    · have hF36 := condT hF29; clear hF29
      exact ⟨true, ⟨rfl, rfl, rfl, rfl, trivial⟩, Option.some.inj hF36, H.sel [2, 0, 1, 3] rfl⟩
  · clear hF23 H
    rintro T38 s19 w37 ⟨hr, (H : Cx w0 fp0 S0 w37 [Es (List Int) b_ b_h, Bx b5 [(.int .i64 m__0), (m__1h).v], Es (List (List Int)) m__1 m__1h, Gl 0 [.int .i64 2, .int .i64 3, .int .i64 5, .int .i64 7]])⟩
    subst hr
    cases s19
    · have hF39 := condF hF22; clear hF22
      refine heldX H [] (.fst 0 (.fst 3 (.fst 1 (.fst 4 (.fst 5 (.act 2 (.act 6 (.fst 7 (.fst 8 .done))))))))) mixed [] trivial (by kernel_rfl) ?_
      clear H; intro w40 H
      have hX : Ext w40 w40 := Upd.refl _ _
      have H0 := H
      refine anyH (fun _ => fld gok rfl rfl rfl rfl ⟨rfl, rfl⟩) ?_
      refine anyH (fun _ => fld gok rfl rfl rfl rfl ⟨rfl, rfl⟩) ?_
      refine load1X (H.bx 1 rfl (j := 1) rfl) ?_
      refine load1X (H.bx 1 rfl (j := 1) rfl) ?_
      refine lenE (H.rs (α := List (List Int)) 2 rfl).len ?_
      obtain ⟨y41, e, hF42⟩ := bindS hF39; clear hF39
      have ey41 := e; clear e
      refine callFx (impl_clones_c m__1 m__1h y41 ey41) H ⟨Vw.sh 2 rfl, trivial⟩ ?_; clear H ey41
      rintro _ _ w43 ⟨h44, rfl, rfl⟩ hx (H : Cx w0 fp0 S0 w43 [E (List (List Int)) y41 h44, Es (List Int) b_ b_h, Bx b5 [(.int .i64 m__0), (m__1h).v], Es (List (List Int)) m__1 m__1h, Gl 0 [.int .i64 2, .int .i64 3, .int .i64 5, .int .i64 7]])
      replace hX := hX.trans0 hx; clear hx
      refine hold hX ?_
      obtain ⟨y46, e, hF47⟩ := bindS hF42; clear hF42
      have ey46 := e; clear e
      refine callFx (impl_identityRows_c ((m__1.length : Nat) : Int) y46 ey46) H trivial ?_; clear H ey46
      rintro _ _ w48 ⟨h49, rfl, rfl⟩ hx (H : Cx w0 fp0 S0 w48 [E (List (List Int)) y46 h49, E (List (List Int)) y41 h44, Es (List Int) b_ b_h, Bx b5 [(.int .i64 m__0), (m__1h).v], Es (List (List Int)) m__1 m__1h, Gl 0 [.int .i64 2, .int .i64 3, .int .i64 5, .int .i64 7]])
      replace hX := hX.trans0 hx; clear hx
      refine hold hX ?_
      refine fld gok rfl rfl rfl rfl ?_
      refine load1 (H.bx 3 rfl (j := 0) rfl) ?_
      obtain ⟨y51, e, hF52⟩ := bindS hF47; clear hF47
      obtain ⟨y51_0, y51_1, y51_2⟩ := y51
      have ey51 := e; clear e
      replace H := H.sel [1, 0, 2, 3, 4, 5] rfl
      refine callF (impl_reduction_c p_ y41 h44 m__0 y46 h49 y51_0 y51_1 y51_2 ey51) (Γi := [E (List (List Int)) y41 h44, E (List (List Int)) y46 h49]) H trivial ?_; clear H ey51
      rintro _ _ w53 ⟨rfl, rfl⟩ (H : Cx w0 fp0 S0 w53 [E (List (List Int)) y51_0 h44, E (List (List Int)) y51_1 h49, Es (List Int) b_ b_h, Bx b5 [(.int .i64 m__0), (m__1h).v], Es (List (List Int)) m__1 m__1h, Gl 0 [.int .i64 2, .int .i64 3, .int .i64 5, .int .i64 7]])
      obtain ⟨a54, e, hF55⟩ := bindS hF52; clear hF52
      replace H := H.frz
      refine slS (α := List Int) gok rfl rfl H 0 rfl e rfl rfl ?_; clear e H; intro h56 H
      obtain ⟨y58, e, hF59⟩ := bindS hF55; clear hF55
      obtain ⟨y58_0, y58_1⟩ := y58
      have ey58 := e; clear e
      refine callF (impl_coordinates_c p_ a54 h56 b_ b_h y58_0 y58_1 ey58) (Γi := []) H ⟨Vw.sh 0 rfl, Vw.sh 3 rfl, trivial⟩ ?_; clear H ey58
      rintro _ _ w60 ⟨h61, rfl, rfl⟩ (H : Cx w0 fp0 S0 w60 [E (List Int) y58_0 h61, Es (List (List Int)) a54 h56, Es (List (List Int)) y51_0 h44, E (List (List Int)) y51_1 h49, Es (List Int) b_ b_h, Bx b5 [(.int .i64 m__0), (m__1h).v], Es (List (List Int)) m__1 m__1h, Gl 0 [.int .i64 2, .int .i64 3, .int .i64 5, .int .i64 7]])
      refine sq ?_
      obtain ⟨a63, e, hF64⟩ := bindS hF59; clear hF59
      refine boolO e ?_; clear e
      cases a63
      · have hF65 := condF hF64; clear hF64
        refine heldX H [] (.fst 0 (.fst 1 (.fst 2 (.fst 3 (.fst 4 (.fst 5 (.fst 6 (.fst 7 (.act 8 (.fst 9 (.fst 10 .done))))))))))) mixed [] trivial (by kernel_rfl) ?_
        clear H; intro w66 H
        have hX : Ext w66 w66 := Upd.refl _ _
        have H0 := H
        obtain ⟨a67, e, hF68⟩ := bindS hF65; clear hF65
        replace H := H.sel [3, 0, 1, 2, 4, 5, 6, 7] rfl
        replace H := H.frz
        refine slSX (α := List Int) gok rfl rfl H 0 rfl e rfl rfl ?_; clear e; intro h69 HH; clear H; have H := HH; clear HH
        refine anyH (fun _ => fld gok rfl rfl rfl rfl ⟨rfl, rfl⟩) ?_
        refine load1X (H.bx 6 rfl (j := 1) rfl) ?_
        refine lenE (H.rs (α := List (List Int)) 7 rfl).len ?_
        obtain ⟨y71, e, hF72⟩ := bindS hF68; clear hF68
        have ey71 := e; clear e
        refine callFx (impl_combine_c p_ y58_0 h61 a67 h69 ((m__1.length : Nat) : Int) y71 ey71) H ⟨Vw.own 2 rfl, Vw.sh 0 rfl, trivial⟩ ?_; clear H ey71
        rintro _ _ w73 ⟨h74, rfl, rfl⟩ hx (H : Cx w0 fp0 S0 w73 [E (List Int) y71 h74, Es (List (List Int)) a67 h69, Es (List (List Int)) y51_1 h49, E (List Int) y58_0 h61, Es (List (List Int)) a54 h56, Es (List (List Int)) y51_0 h44, Es (List Int) b_ b_h, Bx b5 [(.int .i64 m__0), (m__1h).v], Es (List (List Int)) m__1 m__1h, Gl 0 [.int .i64 2, .int .i64 3, .int .i64 5, .int .i64 7]])
        replace hX := hX.trans0 hx; clear hx
        refine hold hX ?_
        cases hF72
        exact ⟨_, _, rfl, ⟨h74, rfl, rfl⟩, (H.sel [0] rfl).close ⟨cloE, trivial⟩⟩
      · have hF76 := condT hF64; clear hF64
        replace H := H.nil (α := Int)
        cases hF76
        exact ⟨_, _, rfl, ⟨nilH, rfl, rfl⟩, (H.sel [0] rfl).close ⟨cloE, trivial⟩⟩
    · have hF78 := condT hF22; clear hF22
      replace H := H.nil (α := Int)
      cases hF78
      exact ⟨_, _, rfl, ⟨nilH, rfl, rfl⟩, (H.sel [0] rfl).close ⟨cloE, trivial⟩⟩

theorem laws_eqIntS_c (a_ : List Int) (a_h : Hd) (b_ : List Int) (b_h : Hd) (y : Bool) (hF : F_laws_eqIntS a_ b_ = some y) :
    ConF Tryd.prog 35 #[(a_h).v, (b_h).v] [Es (List Int) a_ a_h, Es (List Int) b_ b_h] [] (fun v Γ' => v = (.bool y) ∧ Γ' = []) := by
  intro w0 S0 fp0 hI hS
  have H : Cx w0 fp0 S0 w0 [Es (List Int) a_ a_h, Es (List Int) b_ b_h] := Cx.start hI hS
  clear hI hS
  refine enterC (args := [_, _]) gok Tryd.func35 rfl _ rfl rfl rfl ?_
  refine sq ?_
  refine lenE (H.rs (α := List Int) 0 rfl).len ?_
  refine lenE (H.rs (α := List Int) 1 rfl).len ?_
  obtain ⟨a3, e, hF4⟩ := bindS hF; clear hF
  refine boolO e ?_; clear e
  cases a3
  · have hF5 := condF hF4; clear hF4
    obtain ⟨r104, hF106, hF105⟩ := bindS hF5; clear hF5
    refine cut (fun (q107 : Unit) => []) (fun (q107 : Unit) w' => .inl () = r104 ∧ Cx w0 fp0 S0 w' []) ?_ ?_
    · skip
      refine loopW _ (fun (s166 : Int) (_ : Unit) => [(0, (a_h).v), (1, (b_h).v), (5, (.int .i64 s166))]) (fun (s166 : Int) (_ : Unit) w' => Cx w0 fp0 S0 w' [Es (List Int) a_ a_h, Es (List Int) b_ b_h]) 0 () hF106 ⟨rfl, rfl, rfl, trivial⟩ (H.sel [0, 1] rfl) ?_
      · clear H
        rintro T172 s166 _ w171 o173 (H : Cx w0 fp0 S0 w171 [Es (List Int) a_ a_h, Es (List Int) b_ b_h]) hrt hF174
        refine sq ?_
        refine lenE (H.rs (α := List Int) 0 rfl).len ?_
        obtain ⟨a175, e, hF176⟩ := bindS hF174; clear hF174
        refine boolO e ?_; clear e
        cases a175
        · have hF177 := condF hF176; clear hF176
          have hs := Option.some.inj hF177; subst hs; clear hF177
          have hF178 : some _ = some _ := congrArg some (hrt _ rfl).symm
          exact ⟨(), trivial, Option.some.inj hF178, H.sel [] rfl⟩
        · have hF179 := condT hF176; clear hF176
          refine sq ?_
          refine heldX H [] (.fst 0 (.fst 1 (.fst 2 (.fst 4 (.fst 5 (.fst 6 (.fst 3 (.fst 7 (.fst 8 .done))))))))) mixed [] trivial (by kernel_rfl) ?_
          clear H; intro w180 H
          have hX : Ext w180 w180 := Upd.refl _ _
          have H0 := H
          obtain ⟨a187, e, hF188⟩ := bindS hF179; clear hF179
          obtain ⟨p185, m186, c181, c182, c183, c184⟩ := (H.rs (α := List Int) 0 rfl).at1 e; clear e
          refine idxE c181 c182 c183 ?_; clear c181 c182 c183
          obtain ⟨a195, e, hF196⟩ := bindS hF188; clear hF188
          obtain ⟨p193, m194, c189, c190, c191, c192⟩ := (H.rs (α := List Int) 1 rfl).at1 e; clear e
          refine idxE c189 c190 c191 ?_; clear c189 c190 c191
          refine load1X c184 ?_; clear c184
          refine load1X c192 ?_; clear c192
          obtain ⟨a197, e, hF198⟩ := bindS hF196; clear hF196
          refine boolO e ?_; clear e
          cases a197
          · have hF199 := condF hF198; clear hF198
            obtain ⟨a200, e, hF201⟩ := bindS hF199; clear hF199
            refine arO e ?_; clear e
            have hs := Option.some.inj hF201; subst hs; clear hF201
            exact ⟨a200, (), rfl, ⟨rfl, rfl, rfl, trivial⟩, H.sel [0, 1] rfl⟩
          · have hF202 := condT hF198; clear hF198
            have hs := Option.some.inj hF202; subst hs; clear hF202
            have hF203 : some _ = some _ := congrArg some (hrt _ rfl).symm
            have hs := Option.some.inj hF203; subst hs; clear hF203
            have hF204 : some _ = some _ := hF105; clear hF105
            cases hF204
            exact ⟨_, _, rfl, ⟨rfl, rfl⟩, (H.sel [] rfl).close trivial⟩
    · clear hF106 H
      rintro T206 _ w205 ⟨hr, (H : Cx w0 fp0 S0 w205 [])⟩
      subst hr
      cases hF105
      exact ⟨_, _, rfl, ⟨rfl, rfl⟩, (H.sel [] rfl).close trivial⟩
  · have hF207 := condT hF4; clear hF4
    cases hF207
    exact ⟨_, _, rfl, ⟨rfl, rfl⟩, (H.sel [] rfl).close trivial⟩
end Go.Proofs.YtnlbhdepagkjgaaDoor
