/-
  Contracts, printed by a program (wip/y/gen.py): each function of Go computes its partial function. Condition of each: its partial function yields a value.
-/
import Derived.Test.YtgfnophfoccamaaZCall2
namespace Go.Proofs.Ytgfnophfoccamaa
open Go Go.Proofs.Ytgfnophfoccamaa.RW
set_option maxRecDepth 100000
set_option linter.unusedVariables false

theorem impl_leafGraph_c (n__0 : Int) (n__1 : Int) (n__2 : ByteArray) (y_0 : Int) (y_1 : List (Int × Int × List Int × List Int)) (y_2 : List Int) (y_3 : List Int) (hF : F_impl_leafGraph (n__0, n__1, n__2) = some (y_0, y_1, y_2, y_3)) :
    ConF Try.prog 115 #[(.agg #[(.int .i64 n__0), (.int .i64 n__1), (.string n__2)])] [] [] (fun v Γ' => ∃ z0 z1 z2 : Hd, v = (.agg #[(.int .i64 y_0), (z0).v, (z1).v, (z2).v]) ∧ Γ' = [E (List (Int × Int × List Int × List Int)) y_1 z0, E (List Int) y_2 z1, E (List Int) y_3 z2]) := by
  intro w0 S0 fp0 hI hS
  have H : Cx w0 fp0 S0 w0 [] := Cx.start hI hS
  clear hI hS
  refine enterC (args := [_]) gok Try.func115 rfl _ rfl rfl rfl ?_
  refine box_ H ?_; clear H; intro b2 w1 hx H
  clear hx
  replace H : Cx w0 fp0 S0 w1 [Bx b2 [(.int .i64 n__0), (.int .i64 n__1), (.string n__2)]] := H
  refine alloc_ gok rfl H ?_; clear H; intro b5 w4 hx H
  clear hx
  replace H : Cx w0 fp0 S0 w4 [Bx b5 [(.int .i64 0), (.slice none 0 0), (.slice none 0 0), (.slice none 0 0)], Bx b2 [(.int .i64 n__0), (.int .i64 n__1), (.string n__2)]] := H
  refine sq ?_
  refine fld gok rfl rfl rfl rfl ?_
  refine load1 (H.bx 1 rfl (j := 0) rfl) ?_
  obtain ⟨a7, e, hF8⟩ := bindS hF; clear hF
  refine boolO e ?_; clear e
  cases a7
  · have hF9 := condF hF8; clear hF8
    obtain ⟨a10, e, hF11⟩ := bindS hF9; clear hF9
    refine boolO e ?_; clear e
    cases a10
    · have hF12 := condF hF11; clear hF11
      refine fld gok rfl rfl rfl rfl ?_
      refine load1 (H.bx 1 rfl (j := 0) rfl) ?_
      obtain ⟨y13, e, hF14⟩ := bindS hF12; clear hF12
      obtain ⟨y13_0, y13_1⟩ := y13
      have ey13 := e; clear e
      refine callF (impl_generatorWires_c n__0 y13_0 y13_1 ey13) (Γi := []) H trivial ?_; clear H ey13
      rintro _ _ w15 ⟨rfl, rfl⟩ (H : Cx w0 fp0 S0 w15 [Bx b5 [(.int .i64 0), (.slice none 0 0), (.slice none 0 0), (.slice none 0 0)], Bx b2 [(.int .i64 n__0), (.int .i64 n__1), (.string n__2)]])
      refine alloc_ gok rfl H ?_; clear H; intro b17 w16 hx H
      clear hx
      replace H : Cx w0 fp0 S0 w16 [Bx b17 [(.int .i64 0), (.int .i64 0)], Bx b5 [(.int .i64 0), (.slice none 0 0), (.slice none 0 0), (.slice none 0 0)], Bx b2 [(.int .i64 n__0), (.int .i64 n__1), (.string n__2)]] := H
      refine stA gok [(.int .i64 y13_0), (.int .i64 y13_1)] rfl H rfl rfl rfl ?_; clear H; intro w19 H
      replace H : Cx w0 fp0 S0 w19 [Bx b17 [(.int .i64 y13_0), (.int .i64 y13_1)], Bx b5 [(.int .i64 0), (.slice none 0 0), (.slice none 0 0), (.slice none 0 0)], Bx b2 [(.int .i64 n__0), (.int .i64 n__1), (.string n__2)]] := H
      refine heldX H [] (.fst 0 (.fst 3 (.fst 5 (.fst 1 (.fst 4 (.fst 6 (.act 2 (.act 7 (.fst 8 (.fst 9 .done)))))))))) mixed [] trivial (by kernel_rfl) ?_
      clear H; intro w20 H
      have hX : Ext w20 w20 := Upd.refl _ _
      have H0 := H
      refine anyH (fun _ => fld gok rfl rfl rfl rfl ⟨rfl, rfl⟩) ?_
      refine anyH (fun _ => fld gok rfl rfl rfl rfl ⟨rfl, rfl⟩) ?_
      refine anyH (fun _ => fld gok rfl rfl rfl rfl ⟨rfl, rfl⟩) ?_
      refine load1X (H.bx 0 rfl (j := 0) rfl) ?_
      refine load1X (H.bx 0 rfl (j := 0) rfl) ?_
      refine load1X (H.bx 0 rfl (j := 1) rfl) ?_
      obtain ⟨y21, e, hF22⟩ := bindS hF14; clear hF14
      have ey21 := e; clear e
      refine callFx (impl_upTo_c y13_0 y21 ey21) H trivial ?_; clear H ey21
      rintro _ _ w23 ⟨h24, rfl, rfl⟩ hx (H : Cx w0 fp0 S0 w23 [E (List Int) y21 h24, Bx b17 [(.int .i64 y13_0), (.int .i64 y13_1)], Bx b5 [(.int .i64 0), (.slice none 0 0), (.slice none 0 0), (.slice none 0 0)], Bx b2 [(.int .i64 n__0), (.int .i64 n__1), (.string n__2)]])
      replace hX := hX.trans0 hx; clear hx
      refine hold hX ?_
      obtain ⟨y26, e, hF27⟩ := bindS hF22; clear hF22
      have ey26 := e; clear e
      refine callFx (impl_from_c y13_0 y13_1 y26 ey26) H trivial ?_; clear H ey26
      rintro _ _ w28 ⟨h29, rfl, rfl⟩ hx (H : Cx w0 fp0 S0 w28 [E (List Int) y26 h29, E (List Int) y21 h24, Bx b17 [(.int .i64 y13_0), (.int .i64 y13_1)], Bx b5 [(.int .i64 0), (.slice none 0 0), (.slice none 0 0), (.slice none 0 0)], Bx b2 [(.int .i64 n__0), (.int .i64 n__1), (.string n__2)]])
      replace hX := hX.trans0 hx; clear hx
      refine hold hX ?_
      obtain ⟨r110, hF112, hF111⟩ := bindS hF27; clear hF27
      refine heldJ H [18] (.fst 0 (.fst 2 (.fst 5 (.fst 7 (.fst 9 (.fst 10 (.fst 13 (.fst 15 (.fst 1 (.fst 3 (.fst 4 (.fst 6 (.fst 8 (.fst 11 (.alts (.alt 12 (.act 14 (.act 16 (.fst 17 (.act 18 .done)))) (.alt 14 (.alts (.alt 12 (.act 16 (.fst 17 (.act 18 .done))) (.alt 16 (.act 12 (.fst 17 (.act 18 .done))) .no))) .no))))))))))))))))) mixed [] trivial (by kernel_rfl) (fun (q113 : (Int × (List (Int × Int × List Int × List Int)) × List Int × List Int) × (Hd × Hd × Hd)) => [(2, (.pointer (some ⟨b5, 0, none⟩)))]) (fun (q113 : (Int × (List (Int × Int × List Int × List Int)) × List Int × List Int) × (Hd × Hd × Hd)) w' => (q113.1.1, q113.1.2.1, q113.1.2.2.1, q113.1.2.2.2) = r110 ∧ Cx w0 fp0 S0 w' [Bx b5 [(.int .i64 q113.1.1), (q113.2.1).v, (q113.2.2.1).v, (q113.2.2.2).v], E (List (Int × Int × List Int × List Int)) q113.1.2.1 q113.2.1, E (List Int) q113.1.2.2.1 q113.2.2.1, E (List Int) q113.1.2.2.2 q113.2.2.2]) ?_ ?_
      · skip
        clear H; intro w114 H
        have hX : Ext w114 w114 := Upd.refl _ _
        have H0 := H
        refine anyH (fun _ => fld gok rfl rfl rfl rfl ⟨rfl, rfl⟩) ?_
        refine anyH (fun _ => fld gok rfl rfl rfl rfl ⟨rfl, rfl⟩) ?_
        refine anyH (fun _ => fld gok rfl rfl rfl rfl ⟨rfl, rfl⟩) ?_
        refine anyH (fun _ => fld gok rfl rfl rfl rfl ⟨rfl, rfl⟩) ?_
        refine load1X (H.bx 2 rfl (j := 0) rfl) ?_
        refine load1X (H.bx 2 rfl (j := 1) rfl) ?_
        obtain ⟨a115, e, hF116⟩ := bindS hF112; clear hF112
        refine arO e ?_; clear e
        refine load1X (H.bx 4 rfl (j := 0) rfl) ?_
        refine load1X (H.bx 4 rfl (j := 1) rfl) ?_
        refine anyH (fun _ => build_ (cs := #[(.int .i64 n__0), (.int .i64 n__1), (h24).v, (h29).v]) gok rfl rfl rfl ⟨rfl, rfl⟩) ?_
        refine both ?_ ?_
        · skip
          replace H := H.sel [1, 0, 2, 3, 4] rfl
          replace H := H.join (α := List Int) (β := List Int)
          replace H := H.sc (α := Int) n__1
          replace H := H.join (α := Int) (β := List Int × List Int)
          replace H := H.sc (α := Int) n__0
          replace H := H.join (α := Int) (β := Int × List Int × List Int)
          refine lit1K (α := Int × Int × List Int × List Int) (g := ((), (), h24, h29)) gok rfl rfl rfl rfl rfl H ?_; clear H; intro h137 w136 hx H
          replace hX := hX.trans0 hx; clear hx
          refine hold hX ?_
          obtain ⟨y144, e, hF145⟩ := bindS hF116; clear hF116
          have ey144 := e; clear e
          refine callFx (impl_clone_c y21 h24 y144 ey144) H ⟨Vw.part (β := List Int) (Vw.eh (α := Int × Int × List Int × List Int) (k := ⟨0, (n__0, n__1, y21, y26), ((), (), h24, h29)⟩) 0 rfl 0 rfl) y21 (h24 : Hd) (fun S h => (And.left (And.right (And.right h)))), trivial⟩ ?_; clear H ey144
          rintro _ _ w146 ⟨h147, rfl, rfl⟩ hx (H : Cx w0 fp0 S0 w146 [E (List Int) y144 h147, EH (Int × Int × List Int × List Int) [(n__0, n__1, y21, y26)] h137 [⟨0, (n__0, n__1, y21, y26), ((), (), h24, h29)⟩], Bx b17 [(.int .i64 y13_0), (.int .i64 y13_1)], Bx b5 [(.int .i64 0), (.slice none 0 0), (.slice none 0 0), (.slice none 0 0)], Bx b2 [(.int .i64 n__0), (.int .i64 n__1), (.string n__2)]])
          replace hX := hX.trans0 hx; clear hx
          refine hold hX ?_
          obtain ⟨y149, e, hF150⟩ := bindS hF145; clear hF145
          have ey149 := e; clear e
          refine callFx (impl_clone_c y26 h29 y149 ey149) H ⟨Vw.part (β := List Int) (Vw.eh (α := Int × Int × List Int × List Int) (k := ⟨0, (n__0, n__1, y21, y26), ((), (), h24, h29)⟩) 1 rfl 0 rfl) y26 (h29 : Hd) (fun S h => (And.right (And.right (And.right h)))), trivial⟩ ?_; clear H ey149
          rintro _ _ w151 ⟨h152, rfl, rfl⟩ hx (H : Cx w0 fp0 S0 w151 [E (List Int) y149 h152, E (List Int) y144 h147, EH (Int × Int × List Int × List Int) [(n__0, n__1, y21, y26)] h137 [⟨0, (n__0, n__1, y21, y26), ((), (), h24, h29)⟩], Bx b17 [(.int .i64 y13_0), (.int .i64 y13_1)], Bx b5 [(.int .i64 0), (.slice none 0 0), (.slice none 0 0), (.slice none 0 0)], Bx b2 [(.int .i64 n__0), (.int .i64 n__1), (.string n__2)]])
          replace hX := hX.trans0 hx; clear hx
          refine hold hX ?_
          refine anyH (fun _ => build_ (cs := #[(.int .i64 a115), (h137).v, (h147).v, (h152).v]) gok rfl rfl rfl ⟨rfl, rfl⟩) ?_
          replace H := H.sel [4, 0, 1, 2, 3, 5] rfl
          refine stA gok [(.int .i64 a115), (h137).v, (h147).v, (h152).v] rfl H rfl rfl rfl ?_; clear H; intro w154 H
          replace H : Cx w0 fp0 S0 w154 [Bx b5 [(.int .i64 a115), (h137).v, (h147).v, (h152).v], E (List Int) y149 h152, E (List Int) y144 h147, EH (Int × Int × List Int × List Int) [(n__0, n__1, y21, y26)] h137 [⟨0, (n__0, n__1, y21, y26), ((), (), h24, h29)⟩], Bx b17 [(.int .i64 y13_0), (.int .i64 y13_1)], Bx b2 [(.int .i64 n__0), (.int .i64 n__1), (.string n__2)]] := H
          refine hold trivial ?_
          replace H := H.sel [3, 0, 1, 2, 4, 5] rfl
          replace H := H.ofEH
          exact ⟨((a115, [(n__0, n__1, y21, y26)], y144, y149), (h137, h147, h152)), ⟨rfl, trivial⟩, Option.some.inj hF150, H.sel [1, 0, 3, 2] rfl⟩
        · skip
          refine both ?_ ?_
          · skip
            obtain ⟨a155, eq156, hF157⟩ := bindS hF116; clear hF116
            obtain ⟨a158, eq159, hF160⟩ := bindS hF157; clear hF157
            have e := eq156; clear eq156
            have ea155 := e; clear e
            refine callFx (impl_clone_c y21 h24 a155 ea155) H ⟨Vw.own 1 rfl, trivial⟩ ?_; clear H ea155
            rintro _ _ w161 ⟨h162, rfl, rfl⟩ hx (H : Cx w0 fp0 S0 w161 [E (List Int) a155 h162, E (List Int) y26 h29, E (List Int) y21 h24, Bx b17 [(.int .i64 y13_0), (.int .i64 y13_1)], Bx b5 [(.int .i64 0), (.slice none 0 0), (.slice none 0 0), (.slice none 0 0)], Bx b2 [(.int .i64 n__0), (.int .i64 n__1), (.string n__2)]])
            replace hX := hX.trans0 hx; clear hx
            refine hold hX ?_
            refine both ?_ ?_
            · skip
              replace H := H.sel [2, 1, 0, 3, 4, 5] rfl
              replace H := H.join (α := List Int) (β := List Int)
              replace H := H.sc (α := Int) n__1
              replace H := H.join (α := Int) (β := List Int × List Int)
              replace H := H.sc (α := Int) n__0
              replace H := H.join (α := Int) (β := Int × List Int × List Int)
              refine lit1K (α := Int × Int × List Int × List Int) (g := ((), (), h24, h29)) gok rfl rfl rfl rfl rfl H ?_; clear H; intro h165 w164 hx H
              replace hX := hX.trans0 hx; clear hx
              refine hold hX ?_
              have e := eq159; clear eq159
              have ea158 := e; clear e
              refine callFx (impl_clone_c y26 h29 a158 ea158) H ⟨Vw.part (β := List Int) (Vw.eh (α := Int × Int × List Int × List Int) (k := ⟨0, (n__0, n__1, y21, y26), ((), (), h24, h29)⟩) 0 rfl 0 rfl) y26 (h29 : Hd) (fun S h => (And.right (And.right (And.right h)))), trivial⟩ ?_; clear H ea158
              rintro _ _ w172 ⟨h173, rfl, rfl⟩ hx (H : Cx w0 fp0 S0 w172 [E (List Int) a158 h173, EH (Int × Int × List Int × List Int) [(n__0, n__1, y21, y26)] h165 [⟨0, (n__0, n__1, y21, y26), ((), (), h24, h29)⟩], E (List Int) a155 h162, Bx b17 [(.int .i64 y13_0), (.int .i64 y13_1)], Bx b5 [(.int .i64 0), (.slice none 0 0), (.slice none 0 0), (.slice none 0 0)], Bx b2 [(.int .i64 n__0), (.int .i64 n__1), (.string n__2)]])
              replace hX := hX.trans0 hx; clear hx
              refine hold hX ?_
              refine anyH (fun _ => build_ (cs := #[(.int .i64 a115), (h165).v, (h162).v, (h173).v]) gok rfl rfl rfl ⟨rfl, rfl⟩) ?_
              replace H := H.sel [4, 0, 1, 2, 3, 5] rfl
              refine stA gok [(.int .i64 a115), (h165).v, (h162).v, (h173).v] rfl H rfl rfl rfl ?_; clear H; intro w175 H
              replace H : Cx w0 fp0 S0 w175 [Bx b5 [(.int .i64 a115), (h165).v, (h162).v, (h173).v], E (List Int) a158 h173, EH (Int × Int × List Int × List Int) [(n__0, n__1, y21, y26)] h165 [⟨0, (n__0, n__1, y21, y26), ((), (), h24, h29)⟩], E (List Int) a155 h162, Bx b17 [(.int .i64 y13_0), (.int .i64 y13_1)], Bx b2 [(.int .i64 n__0), (.int .i64 n__1), (.string n__2)]] := H
              refine hold trivial ?_
              replace H := H.sel [2, 0, 1, 3, 4, 5] rfl
              replace H := H.ofEH
              exact ⟨((a115, [(n__0, n__1, y21, y26)], a155, a158), (h165, h162, h173)), ⟨rfl, trivial⟩, Option.some.inj hF160, H.sel [1, 0, 3, 2] rfl⟩
            · skip
              refine both ?_ ?_
              · skip
                have e := eq159; clear eq159
                have ea158 := e; clear e
                refine callFx (impl_clone_c y26 h29 a158 ea158) H ⟨Vw.own 1 rfl, trivial⟩ ?_; clear H ea158
                rintro _ _ w176 ⟨h177, rfl, rfl⟩ hx (H : Cx w0 fp0 S0 w176 [E (List Int) a158 h177, E (List Int) a155 h162, E (List Int) y26 h29, E (List Int) y21 h24, Bx b17 [(.int .i64 y13_0), (.int .i64 y13_1)], Bx b5 [(.int .i64 0), (.slice none 0 0), (.slice none 0 0), (.slice none 0 0)], Bx b2 [(.int .i64 n__0), (.int .i64 n__1), (.string n__2)]])
                replace hX := hX.trans0 hx; clear hx
                refine hold hX ?_
                replace H := H.sel [3, 2, 0, 1, 4, 5, 6] rfl
                replace H := H.join (α := List Int) (β := List Int)
                replace H := H.sc (α := Int) n__1
                replace H := H.join (α := Int) (β := List Int × List Int)
                replace H := H.sc (α := Int) n__0
                replace H := H.join (α := Int) (β := Int × List Int × List Int)
                refine lit1K (α := Int × Int × List Int × List Int) (g := ((), (), h24, h29)) gok rfl rfl rfl rfl rfl H ?_; clear H; intro h180 w179 hx H
                replace hX := hX.trans0 hx; clear hx
                refine hold hX ?_
                refine anyH (fun _ => build_ (cs := #[(.int .i64 a115), (h180).v, (h162).v, (h177).v]) gok rfl rfl rfl ⟨rfl, rfl⟩) ?_
                replace H := H.sel [4, 0, 1, 2, 3, 5] rfl
                refine stA gok [(.int .i64 a115), (h180).v, (h162).v, (h177).v] rfl H rfl rfl rfl ?_; clear H; intro w187 H
                replace H : Cx w0 fp0 S0 w187 [Bx b5 [(.int .i64 a115), (h180).v, (h162).v, (h177).v], EH (Int × Int × List Int × List Int) [(n__0, n__1, y21, y26)] h180 [⟨0, (n__0, n__1, y21, y26), ((), (), h24, h29)⟩], E (List Int) a158 h177, E (List Int) a155 h162, Bx b17 [(.int .i64 y13_0), (.int .i64 y13_1)], Bx b2 [(.int .i64 n__0), (.int .i64 n__1), (.string n__2)]] := H
                refine hold trivial ?_
                replace H := H.sel [1, 0, 2, 3, 4, 5] rfl
                replace H := H.ofEH
                exact ⟨((a115, [(n__0, n__1, y21, y26)], a155, a158), (h180, h162, h177)), ⟨rfl, trivial⟩, Option.some.inj hF160, H.sel [1, 0, 3, 2] rfl⟩
              · skip
                exact trivial
          · skip
            exact trivial
      · clear hF112 H
        rintro T189 ⟨⟨s105_0, s105_1, s105_2, s105_3⟩, ⟨g106_0, g106_1, g106_2⟩⟩ w188 ⟨hr, (H : Cx w0 fp0 S0 w188 [Bx b5 [(.int .i64 s105_0), (g106_0).v, (g106_1).v, (g106_2).v], E (List (Int × Int × List Int × List Int)) s105_1 g106_0, E (List Int) s105_2 g106_1, E (List Int) s105_3 g106_2])⟩
        subst hr
        refine loadN [(.int .i64 s105_0), (g106_0).v, (g106_1).v, (g106_2).v] rfl (fun j u hj => H.bx 0 rfl hj) ?_
        cases hF111
        exact ⟨_, _, rfl, ⟨g106_0, g106_1, g106_2, rfl, rfl⟩, (H.sel [1, 2, 3] rfl).close ⟨cloE, cloE, cloE, trivial⟩⟩
    · have hF190 := condT hF11; clear hF11
      replace H := H.sc (α := Int) 1
      replace H := H.sc (α := Int) 0
      refine litN (α := Int) (us := [(.int .i64 0), (.int .i64 1)]) (xs := [0, 1]) (gs := [(), ()]) gok rfl rfl rfl ⟨rfl, rfl, trivial⟩ rfl rfl H ?_; clear H; intro h192 w191 hx H
      clear hx
      replace H := H.sc (α := Int) 0
      replace H := H.sc (α := Int) 1
      refine litN (α := Int) (us := [(.int .i64 1), (.int .i64 0)]) (xs := [1, 0]) (gs := [(), ()]) gok rfl rfl rfl ⟨rfl, rfl, trivial⟩ rfl rfl H ?_; clear H; intro h195 w194 hx H
      clear hx
      refine build_ (cs := #[(.int .i64 2), (.slice none 0 0), (h192).v, (h195).v]) gok rfl rfl rfl ?_
      replace H := H.sel [2, 0, 1, 3] rfl
      refine stA gok [(.int .i64 2), (.slice none 0 0), (h192).v, (h195).v] rfl H rfl rfl rfl ?_; clear H; intro w197 H
      replace H : Cx w0 fp0 S0 w197 [Bx b5 [(.int .i64 2), (.slice none 0 0), (h192).v, (h195).v], E (List Int) [1, 0] h195, E (List Int) [0, 1] h192, Bx b2 [(.int .i64 n__0), (.int .i64 n__1), (.string n__2)]] := H
      refine loadN [(.int .i64 2), (.slice none 0 0), (h192).v, (h195).v] rfl (fun j u hj => H.bx 0 rfl hj) ?_
      replace H := H.nil (α := Int × Int × List Int × List Int)
      cases hF190
      exact ⟨_, _, rfl, ⟨nilH, h192, h195, rfl, rfl⟩, (H.sel [0, 3, 2] rfl).close ⟨cloE, cloE, cloE, trivial⟩⟩
  · have hF199 := condT hF8; clear hF8
    refine fld gok rfl rfl rfl rfl ?_
    refine load1 (H.bx 1 rfl (j := 1) rfl) ?_
    obtain ⟨y200, e, hF201⟩ := bindS hF199; clear hF199
    obtain ⟨y200_0, y200_1, y200_2, y200_3⟩ := y200
    have ey200 := e; clear e
    refine callF (impl_identityGraph_c n__1 y200_0 y200_1 y200_2 y200_3 ey200) (Γi := []) H trivial ?_; clear H ey200
    rintro _ _ w202 ⟨h203, h205, h207, rfl, rfl⟩ (H : Cx w0 fp0 S0 w202 [E (List (Int × Int × List Int × List Int)) y200_1 h203, E (List Int) y200_2 h205, E (List Int) y200_3 h207, Bx b5 [(.int .i64 0), (.slice none 0 0), (.slice none 0 0), (.slice none 0 0)], Bx b2 [(.int .i64 n__0), (.int .i64 n__1), (.string n__2)]])
    replace H := H.sel [3, 0, 1, 2, 4] rfl
    refine stA gok [(.int .i64 y200_0), (h203).v, (h205).v, (h207).v] rfl H rfl rfl rfl ?_; clear H; intro w209 H
    replace H : Cx w0 fp0 S0 w209 [Bx b5 [(.int .i64 y200_0), (h203).v, (h205).v, (h207).v], E (List (Int × Int × List Int × List Int)) y200_1 h203, E (List Int) y200_2 h205, E (List Int) y200_3 h207, Bx b2 [(.int .i64 n__0), (.int .i64 n__1), (.string n__2)]] := H
    refine loadN [(.int .i64 y200_0), (h203).v, (h205).v, (h207).v] rfl (fun j u hj => H.bx 0 rfl hj) ?_
    cases hF201
    exact ⟨_, _, rfl, ⟨h203, h205, h207, rfl, rfl⟩, (H.sel [1, 2, 3] rfl).close ⟨cloE, cloE, cloE, trivial⟩⟩

theorem impl_Edge_isEdge_c (e__0 : Int) (e__1 : Int) (e__2 : List Int) (e__2h : Hd) (e__3 : List Int) (e__3h : Hd) (y : Bool) (hF : F_impl_Edge_isEdge (e__0, e__1, e__2, e__3) = some y) :
    ConF Try.prog 81 #[(.agg #[(.int .i64 e__0), (.int .i64 e__1), (e__2h).v, (e__3h).v])] [Es (List Int) e__2 e__2h, Es (List Int) e__3 e__3h] [] (fun v Γ' => v = (.bool y) ∧ Γ' = []) := by
  intro w0 S0 fp0 hI hS
  have H : Cx w0 fp0 S0 w0 [Es (List Int) e__2 e__2h, Es (List Int) e__3 e__3h] := Cx.start hI hS
  clear hI hS
  refine enterC (args := [_]) gok Try.func81 rfl _ rfl rfl rfl ?_
  refine box_ H ?_; clear H; intro b4 w3 hx H
  clear hx
  replace H : Cx w0 fp0 S0 w3 [Bx b4 [(.int .i64 e__0), (.int .i64 e__1), (e__2h).v, (e__3h).v], Es (List Int) e__2 e__2h, Es (List Int) e__3 e__3h] := H
  refine sq ?_
  obtain ⟨r20, hF22, hF21⟩ := bindS hF; clear hF
  refine cut (fun (q23 : Bool) => [(1, (.pointer (some ⟨b4, 0, none⟩))), (14, (.bool q23))]) (fun (q23 : Bool) w' => q23 = r20 ∧ Cx w0 fp0 S0 w' [Bx b4 [(.int .i64 e__0), (.int .i64 e__1), (e__2h).v, (e__3h).v], Es (List Int) e__2 e__2h, Es (List Int) e__3 e__3h]) ?_ ?_
  · skip
    refine fld gok rfl rfl rfl rfl ?_
    refine load1 (H.bx 0 rfl (j := 0) rfl) ?_
    obtain ⟨y24, e, hF25⟩ := bindS hF22; clear hF22
    have ey24 := e; clear e
    refine callF (impl_isGenerator_c e__0 y24 ey24) (Γi := []) H trivial ?_; clear H ey24
    rintro _ _ w26 ⟨rfl, rfl⟩ (H : Cx w0 fp0 S0 w26 [Bx b4 [(.int .i64 e__0), (.int .i64 e__1), (e__2h).v, (e__3h).v], Es (List Int) e__2 e__2h, Es (List Int) e__3 e__3h])
    obtain ⟨a27, e, hF28⟩ := bindS hF25; clear hF25
    refine boolO e ?_; clear e
    cases a27
    · have hF29 := condF hF28; clear hF28
      refine fld gok rfl rfl rfl rfl ?_
      refine load1 (H.bx 0 rfl (j := 0) rfl) ?_
      refine fld gok rfl rfl rfl rfl ?_
      refine load1 (H.bx 0 rfl (j := 1) rfl) ?_
      obtain ⟨y30, e, hF31⟩ := bindS hF29; clear hF29
      have ey30 := e; clear e
      refine callF (impl_isGeneratorValue_c e__0 e__1 y30 ey30) (Γi := []) H trivial ?_; clear H ey30
      rintro _ _ w32 ⟨rfl, rfl⟩ (H : Cx w0 fp0 S0 w32 [Bx b4 [(.int .i64 e__0), (.int .i64 e__1), (e__2h).v, (e__3h).v], Es (List Int) e__2 e__2h, Es (List Int) e__3 e__3h])
      obtain ⟨a33, e, hF34⟩ := bindS hF31; clear hF31
      refine boolO e ?_; clear e
      exact ⟨a33, ⟨rfl, rfl, trivial⟩, Option.some.inj hF34, H.sel [0, 1, 2] rfl⟩
    · have hF35 := condT hF28; clear hF28
      exact ⟨true, ⟨rfl, rfl, trivial⟩, Option.some.inj hF35, H.sel [0, 1, 2] rfl⟩
  · clear hF22 H
    rintro T37 s18 w36 ⟨hr, (H : Cx w0 fp0 S0 w36 [Bx b4 [(.int .i64 e__0), (.int .i64 e__1), (e__2h).v, (e__3h).v], Es (List Int) e__2 e__2h, Es (List Int) e__3 e__3h])⟩
    subst hr
    cases s18
    · have hF38 := condF hF21; clear hF21
      refine heldX H [] (.fst 0 (.fst 3 (.fst 6 (.fst 1 (.fst 4 (.fst 5 (.fst 7 (.fst 8 (.fst 9 (.act 2 (.act 10 (.fst 11 .done)))))))))))) mixed [] trivial (by kernel_rfl) ?_
      clear H; intro w39 H
      have hX : Ext w39 w39 := Upd.refl _ _
      have H0 := H
      refine anyH (fun _ => fld gok rfl rfl rfl rfl ⟨rfl, rfl⟩) ?_
      refine anyH (fun _ => fld gok rfl rfl rfl rfl ⟨rfl, rfl⟩) ?_
      refine anyH (fun _ => fld gok rfl rfl rfl rfl ⟨rfl, rfl⟩) ?_
      refine load1X (H.bx 0 rfl (j := 0) rfl) ?_
      refine load1X (H.bx 0 rfl (j := 2) rfl) ?_
      refine lenE (H.rs (α := List Int) 1 rfl).len ?_
      refine load1X (H.bx 0 rfl (j := 3) rfl) ?_
      refine lenE (H.rs (α := List Int) 2 rfl).len ?_
      refine anyH (fun _ => build_ (cs := #[(.int .i64 ((e__2.length : Nat) : Int)), (.int .i64 ((e__3.length : Nat) : Int))]) gok rfl rfl rfl ⟨rfl, rfl⟩) ?_
      obtain ⟨y40, e, hF41⟩ := bindS hF38; clear hF38
      obtain ⟨y40_0, y40_1⟩ := y40
      have ey40 := e; clear e
      refine callFx (impl_generatorWires_c e__0 y40_0 y40_1 ey40) H trivial ?_; clear H ey40
      rintro _ _ w42 ⟨rfl, rfl⟩ hx (H : Cx w0 fp0 S0 w42 [Bx b4 [(.int .i64 e__0), (.int .i64 e__1), (e__2h).v, (e__3h).v], Es (List Int) e__2 e__2h, Es (List Int) e__3 e__3h])
      replace hX := hX.trans0 hx; clear hx
      refine hold hX ?_
      obtain ⟨a43, e, hF44⟩ := bindS hF41; clear hF41
      refine eqA gok rfl Try.underlying133 (by kernel_rfl) (by kernel_rfl) (by kernel_rfl) (by refine ⟨rfl, ⟨_, _, rfl⟩, rfl, ⟨_, _, rfl⟩, trivial⟩) (ls := [y40_0, y40_1]) (bs := [((e__2.length : Nat) : Int), ((e__3.length : Nat) : Int)]) rfl rfl rfl rfl e ?_; clear e
      refine hold hX ?_
      cases hF44
      exact ⟨_, _, rfl, ⟨rfl, rfl⟩, (H.sel [] rfl).close trivial⟩
    · have hF45 := condT hF21; clear hF21
      cases hF45
      exact ⟨_, _, rfl, ⟨rfl, rfl⟩, (H.sel [] rfl).close trivial⟩

theorem impl_Graph_isGraph_1_c (list_ : List Int) (list_h : Hd) (c0_b : Nat) (c0__0 : Int) (c0__1 : List (Int × Int × List Int × List Int)) (c0__1h : Hd) (c0__2 : List Int) (c0__2h : Hd) (c0__3 : List Int) (c0__3h : Hd) (c1_b : Nat) (c1_ : Bool) (c2_b : Nat) (c2_ : List Bool) (c2_h : Hd) (c3_b : Nat) (c3_ : Int) (y0 : Bool) (y1 : List Bool) (y2 : Int) (hF : F_impl_Graph_isGraph_1 list_ (c0__0, c0__1, c0__2, c0__3) c1_ c2_ c3_ = some (y0, y1, y2)) :
    ConF Try.prog 83 #[(list_h).v, (.pointer (some ⟨c0_b, 0, none⟩)), (.pointer (some ⟨c1_b, 0, none⟩)), (.pointer (some ⟨c2_b, 0, none⟩)), (.pointer (some ⟨c3_b, 0, none⟩))] [Es (List Int) list_ list_h, Es (List (Int × Int × List Int × List Int)) c0__1 c0__1h, Es (List Int) c0__2 c0__2h, Es (List Int) c0__3 c0__3h] [Bx c0_b [(.int .i64 c0__0), (c0__1h).v, (c0__2h).v, (c0__3h).v], Bx c1_b [(.bool c1_)], Bx c2_b [(c2_h).v], E (List Bool) c2_ c2_h, Bx c3_b [(.int .i64 c3_)]] (fun v Γ' => v = (.tuple #[]) ∧ Γ' = [Bx c0_b [(.int .i64 c0__0), (c0__1h).v, (c0__2h).v, (c0__3h).v], Bx c1_b [(.bool y0)], Bx c2_b [(c2_h).v], E (List Bool) y1 c2_h, Bx c3_b [(.int .i64 y2)]]) := by
  intro w0 S0 fp0 hI hS
  have H : Cx w0 fp0 S0 w0 [Es (List Int) list_ list_h, Es (List (Int × Int × List Int × List Int)) c0__1 c0__1h, Es (List Int) c0__2 c0__2h, Es (List Int) c0__3 c0__3h, Bx c0_b [(.int .i64 c0__0), (c0__1h).v, (c0__2h).v, (c0__3h).v], Bx c1_b [(.bool c1_)], Bx c2_b [(c2_h).v], E (List Bool) c2_ c2_h, Bx c3_b [(.int .i64 c3_)]] := Cx.start hI hS
  clear hI hS
  refine enterC (args := [_, _, _, _, _]) gok Try.func83 rfl _ rfl rfl rfl ?_
  refine lenE (H.rs (α := List Int) 0 rfl).len ?_
  have hmx201 := (H.rs (α := List Int) 0 rfl).max
  obtain ⟨r202, e, hF203⟩ := bindS hF; clear hF
  refine loopS _ list_.length (fun (k10 : Nat) (s199 : Bool × Int × List Bool) (_ : Unit) => [(1, (.pointer (some ⟨c0_b, 0, none⟩))), (2, (.pointer (some ⟨c1_b, 0, none⟩))), (3, (.pointer (some ⟨c2_b, 0, none⟩))), (4, (.pointer (some ⟨c3_b, 0, none⟩))), (8, (list_h).v), (9, (.int .i64 ((list_.length : Nat) : Int))), (10, (.int .i64 ((k10 : Nat) : Int)))]) (fun _ (s199 : Bool × Int × List Bool) (_ : Unit) w' => Cx w0 fp0 S0 w' [Bx c0_b [(.int .i64 c0__0), (c0__1h).v, (c0__2h).v, (c0__3h).v], Es (List (Int × Int × List Int × List Int)) c0__1 c0__1h, Es (List Int) c0__2 c0__2h, Es (List Int) c0__3 c0__3h, Bx c1_b [(.bool s199.1)], Bx c2_b [(c2_h).v], E (List Bool) s199.2.2 c2_h, Bx c3_b [(.int .i64 s199.2.1)], Es (List Int) list_ list_h]) (c1_, c3_, c2_) () e ⟨rfl, rfl, rfl, rfl, rfl, rfl, rfl, trivial⟩ (H.sel [4, 1, 2, 3, 5, 6, 7, 8, 0] rfl) ?_ ?_
  · clear H e
    rintro T205 k10 ⟨s199_0, s199_1, s199_2⟩ _ w204 o206 hk (H : Cx w0 fp0 S0 w204 [Bx c0_b [(.int .i64 c0__0), (c0__1h).v, (c0__2h).v, (c0__3h).v], Es (List (Int × Int × List Int × List Int)) c0__1 c0__1h, Es (List Int) c0__2 c0__2h, Es (List Int) c0__3 c0__3h, Bx c1_b [(.bool s199_0)], Bx c2_b [(c2_h).v], E (List Bool) s199_2 c2_h, Bx c3_b [(.int .i64 s199_1)], Es (List Int) list_ list_h]) hF207
    refine boolE (z := true) (ltLen hk) ?_
    refine sq ?_
    obtain ⟨r252, hF254, hF253⟩ := bindS hF207; clear hF207
    refine cut (fun (q255 : Bool × Int × List Bool) => [(1, (.pointer (some ⟨c0_b, 0, none⟩))), (2, (.pointer (some ⟨c1_b, 0, none⟩))), (3, (.pointer (some ⟨c2_b, 0, none⟩))), (4, (.pointer (some ⟨c3_b, 0, none⟩))), (8, (list_h).v), (9, (.int .i64 ((list_.length : Nat) : Int))), (10, (.int .i64 ((k10 : Nat) : Int)))]) (fun (q255 : Bool × Int × List Bool) w' => (q255.1, q255.2.1, q255.2.2) = r252 ∧ Cx w0 fp0 S0 w' [Bx c0_b [(.int .i64 c0__0), (c0__1h).v, (c0__2h).v, (c0__3h).v], Es (List (Int × Int × List Int × List Int)) c0__1 c0__1h, Es (List Int) c0__2 c0__2h, Es (List Int) c0__3 c0__3h, Bx c1_b [(.bool q255.1)], Bx c2_b [(c2_h).v], E (List Bool) q255.2.2 c2_h, Bx c3_b [(.int .i64 q255.2.1)], Es (List Int) list_ list_h]) ?_ ?_
    · skip
      obtain ⟨a262, e, hF263⟩ := bindS hF254; clear hF254
      obtain ⟨p260, m261, c256, c257, c258, c259⟩ := (H.rs (α := List Int) 8 rfl).at1 e; clear e
      refine idxE c256 c257 c258 ?_; clear c256 c257 c258
      refine load1 c259 ?_; clear c259
      refine sq ?_
      refine fld gok rfl rfl rfl rfl ?_
      refine load1 (H.bx 0 rfl (j := 0) rfl) ?_
      obtain ⟨a264, e, hF265⟩ := bindS hF263; clear hF263
      refine arO e ?_; clear e
      obtain ⟨y266, e, hF267⟩ := bindS hF265; clear hF265
      have ey266 := e; clear e
      refine callF (impl_within_c a262 0 a264 y266 ey266) (Γi := []) H trivial ?_; clear H ey266
      rintro _ _ w268 ⟨rfl, rfl⟩ (H : Cx w0 fp0 S0 w268 [Bx c0_b [(.int .i64 c0__0), (c0__1h).v, (c0__2h).v, (c0__3h).v], Es (List (Int × Int × List Int × List Int)) c0__1 c0__1h, Es (List Int) c0__2 c0__2h, Es (List Int) c0__3 c0__3h, Bx c1_b [(.bool s199_0)], Bx c2_b [(c2_h).v], E (List Bool) s199_2 c2_h, Bx c3_b [(.int .i64 s199_1)], Es (List Int) list_ list_h])
      obtain ⟨a269, e, hF270⟩ := bindS hF267; clear hF267
      refine boolO e ?_; clear e
      cases a269
      · have hF271 := condF hF270; clear hF270
        refine load1 (H.bx0 5 rfl) ?_
        obtain ⟨a278, e, hF279⟩ := bindS hF271; clear hF271
        obtain ⟨p276, m277, c272, c273, c274, c275⟩ := (H.ro (α := List Bool) 6 rfl).at1 e; clear e
        refine idxE c272 c273 c274 ?_; clear c272 c273 c274
        refine load1 c275 ?_; clear c275
        obtain ⟨a280, e, hF281⟩ := bindS hF279; clear hF279
        refine boolO e ?_; clear e
        cases a280
        · have hF282 := condF hF281; clear hF281
          exact ⟨(s199_0, s199_1, s199_2), ⟨rfl, rfl, rfl, rfl, rfl, rfl, rfl, trivial⟩, Option.some.inj hF282, H.sel [0, 1, 2, 3, 4, 5, 6, 7, 8] rfl⟩
        · have hF283 := condT hF281; clear hF281
          refine load1 (H.bx0 5 rfl) ?_
          obtain ⟨a290, e, hF291⟩ := bindS hF283; clear hF283
          have ea290 := e; clear e
          obtain ⟨p288, m289, c284, c285, c286⟩ := (H.ro (α := List Bool) 6 rfl).setp ea290
          refine idxE c284 c285 c286 ?_
          replace H := H.sel [6, 0, 1, 2, 3, 4, 5, 7, 8] rfl
          refine setS (α := Bool) H c284 c285 ea290 ?_; clear H c284 c285 c286 ea290; intro w292 H
          refine load1 (H.bx0 7 rfl) ?_
          obtain ⟨a293, e, hF294⟩ := bindS hF291; clear hF291
          refine arO e ?_; clear e
          replace H := H.sel [7, 0, 1, 2, 3, 4, 5, 6, 8] rfl
          refine stB0 H rfl ?_; clear H; intro w295 H
          replace H : Cx w0 fp0 S0 w295 [Bx c3_b [(.int .i64 a293)], E (List Bool) a290 c2_h, Bx c0_b [(.int .i64 c0__0), (c0__1h).v, (c0__2h).v, (c0__3h).v], Es (List (Int × Int × List Int × List Int)) c0__1 c0__1h, Es (List Int) c0__2 c0__2h, Es (List Int) c0__3 c0__3h, Bx c1_b [(.bool s199_0)], Bx c2_b [(c2_h).v], Es (List Int) list_ list_h] := H
          exact ⟨(s199_0, a293, a290), ⟨rfl, rfl, rfl, rfl, rfl, rfl, rfl, trivial⟩, Option.some.inj hF294, H.sel [2, 3, 4, 5, 6, 7, 1, 0, 8] rfl⟩
      · have hF296 := condT hF270; clear hF270
        replace H := H.sel [4, 0, 1, 2, 3, 5, 6, 7, 8] rfl
        refine stB0 H rfl ?_; clear H; intro w297 H
        replace H : Cx w0 fp0 S0 w297 [Bx c1_b [(.bool false)], Bx c0_b [(.int .i64 c0__0), (c0__1h).v, (c0__2h).v, (c0__3h).v], Es (List (Int × Int × List Int × List Int)) c0__1 c0__1h, Es (List Int) c0__2 c0__2h, Es (List Int) c0__3 c0__3h, Bx c2_b [(c2_h).v], E (List Bool) s199_2 c2_h, Bx c3_b [(.int .i64 s199_1)], Es (List Int) list_ list_h] := H
        exact ⟨(false, s199_1, s199_2), ⟨rfl, rfl, rfl, rfl, rfl, rfl, rfl, trivial⟩, Option.some.inj hF296, H.sel [1, 2, 3, 4, 0, 5, 6, 7, 8] rfl⟩
    · clear hF254 H
      rintro T299 ⟨s250_0, s250_1, s250_2⟩ w298 ⟨hr, (H : Cx w0 fp0 S0 w298 [Bx c0_b [(.int .i64 c0__0), (c0__1h).v, (c0__2h).v, (c0__3h).v], Es (List (Int × Int × List Int × List Int)) c0__1 c0__1h, Es (List Int) c0__2 c0__2h, Es (List Int) c0__3 c0__3h, Bx c1_b [(.bool s250_0)], Bx c2_b [(c2_h).v], E (List Bool) s250_2 c2_h, Bx c3_b [(.int .i64 s250_1)], Es (List Int) list_ list_h])⟩
      subst hr
      refine arK hk hmx201 ?_
      have hs := Option.some.inj hF253; subst hs; clear hF253
      exact ⟨(), ⟨rfl, rfl, rfl, rfl, rfl, rfl, rfl, trivial⟩, H.sel [0, 1, 2, 3, 4, 5, 6, 7, 8] rfl⟩
  · clear H e
    obtain ⟨s302_0, s302_1, s302_2⟩ := r202
    rintro T301 _ w300 (H : Cx w0 fp0 S0 w300 [Bx c0_b [(.int .i64 c0__0), (c0__1h).v, (c0__2h).v, (c0__3h).v], Es (List (Int × Int × List Int × List Int)) c0__1 c0__1h, Es (List Int) c0__2 c0__2h, Es (List Int) c0__3 c0__3h, Bx c1_b [(.bool s302_0)], Bx c2_b [(c2_h).v], E (List Bool) s302_2 c2_h, Bx c3_b [(.int .i64 s302_1)], Es (List Int) list_ list_h])
    refine boolE (z := false) geLen ?_
    refine sq ?_
    cases hF203
    exact ⟨_, _, rfl, ⟨rfl, rfl⟩, (H.sel [0, 4, 5, 6, 7] rfl).close ⟨cloB, cloB, cloB, cloE, cloB, trivial⟩⟩

theorem impl_Graph_lists_impl_Graph_isGraph_1_c (g__0 : Int) (g__1 : List (Int × Int × List Int × List Int)) (g__1h : Hd) (g__2 : List Int) (g__2h : Hd) (g__3 : List Int) (g__3h : Hd) (d0_b : Nat) (d0__0 : Int) (d0__1 : List (Int × Int × List Int × List Int)) (d0__1h : Hd) (d0__2 : List Int) (d0__2h : Hd) (d0__3 : List Int) (d0__3h : Hd) (d1_b : Nat) (d1_ : Bool) (d2_b : Nat) (d2_ : List Bool) (d2_h : Hd) (d3_b : Nat) (d3_ : Int) (y0 : Bool) (y1 : List Bool) (y2 : Int) (hF : F_impl_Graph_lists_impl_Graph_isGraph_1 (g__0, g__1, g__2, g__3) (d0__0, d0__1, d0__2, d0__3) d1_ d2_ d3_ = some (y0, y1, y2)) :
    ConF Try.prog 82 #[(.agg #[(.int .i64 g__0), (g__1h).v, (g__2h).v, (g__3h).v]), (.func (.func 83) #[] #[(.pointer (some ⟨d0_b, 0, none⟩)), (.pointer (some ⟨d1_b, 0, none⟩)), (.pointer (some ⟨d2_b, 0, none⟩)), (.pointer (some ⟨d3_b, 0, none⟩))])] [Es (List (Int × Int × List Int × List Int)) g__1 g__1h, Es (List Int) g__2 g__2h, Es (List Int) g__3 g__3h, Es (List (Int × Int × List Int × List Int)) d0__1 d0__1h, Es (List Int) d0__2 d0__2h, Es (List Int) d0__3 d0__3h] [Bx d0_b [(.int .i64 d0__0), (d0__1h).v, (d0__2h).v, (d0__3h).v], Bx d1_b [(.bool d1_)], Bx d2_b [(d2_h).v], E (List Bool) d2_ d2_h, Bx d3_b [(.int .i64 d3_)]] (fun v Γ' => v = (.tuple #[]) ∧ Γ' = [Bx d0_b [(.int .i64 d0__0), (d0__1h).v, (d0__2h).v, (d0__3h).v], Bx d1_b [(.bool y0)], Bx d2_b [(d2_h).v], E (List Bool) y1 d2_h, Bx d3_b [(.int .i64 y2)]]) := by
  intro w0 S0 fp0 hI hS
  have H : Cx w0 fp0 S0 w0 [Es (List (Int × Int × List Int × List Int)) g__1 g__1h, Es (List Int) g__2 g__2h, Es (List Int) g__3 g__3h, Es (List (Int × Int × List Int × List Int)) d0__1 d0__1h, Es (List Int) d0__2 d0__2h, Es (List Int) d0__3 d0__3h, Bx d0_b [(.int .i64 d0__0), (d0__1h).v, (d0__2h).v, (d0__3h).v], Bx d1_b [(.bool d1_)], Bx d2_b [(d2_h).v], E (List Bool) d2_ d2_h, Bx d3_b [(.int .i64 d3_)]] := Cx.start hI hS
  clear hI hS
  refine enterC (args := [_, _]) gok Try.func82 rfl _ rfl rfl rfl ?_
  refine box_ H ?_; clear H; intro b13 w12 hx H
  clear hx
  replace H : Cx w0 fp0 S0 w12 [Bx b13 [(.int .i64 g__0), (g__1h).v, (g__2h).v, (g__3h).v], Es (List (Int × Int × List Int × List Int)) g__1 g__1h, Es (List Int) g__2 g__2h, Es (List Int) g__3 g__3h, Es (List (Int × Int × List Int × List Int)) d0__1 d0__1h, Es (List Int) d0__2 d0__2h, Es (List Int) d0__3 d0__3h, Bx d0_b [(.int .i64 d0__0), (d0__1h).v, (d0__2h).v, (d0__3h).v], Bx d1_b [(.bool d1_)], Bx d2_b [(d2_h).v], E (List Bool) d2_ d2_h, Bx d3_b [(.int .i64 d3_)]] := H
  refine fld gok rfl rfl rfl rfl ?_
  refine load1 (H.bx 0 rfl (j := 2) rfl) ?_
  obtain ⟨y15, e, hF16⟩ := bindS hF; clear hF
  obtain ⟨y15_0, y15_1, y15_2⟩ := y15
  have ey15 := e; clear e
  replace H := H.sel [7, 8, 9, 10, 11, 0, 1, 2, 3, 4, 5, 6] rfl
  refine callF (impl_Graph_isGraph_1_c g__2 g__2h d0_b d0__0 d0__1 d0__1h d0__2 d0__2h d0__3 d0__3h d1_b d1_ d2_b d2_ d2_h d3_b d3_ y15_0 y15_1 y15_2 ey15) (Γi := [Bx d0_b [(.int .i64 d0__0), (d0__1h).v, (d0__2h).v, (d0__3h).v], Bx d1_b [(.bool d1_)], Bx d2_b [(d2_h).v], E (List Bool) d2_ d2_h, Bx d3_b [(.int .i64 d3_)]]) H ⟨Vw.sh 2 rfl, Vw.sh 4 rfl, Vw.sh 5 rfl, Vw.sh 6 rfl, trivial⟩ ?_; clear H ey15
  rintro _ _ w17 ⟨rfl, rfl⟩ (H : Cx w0 fp0 S0 w17 [Bx d0_b [(.int .i64 d0__0), (d0__1h).v, (d0__2h).v, (d0__3h).v], Bx d1_b [(.bool y15_0)], Bx d2_b [(d2_h).v], E (List Bool) y15_1 d2_h, Bx d3_b [(.int .i64 y15_2)], Bx b13 [(.int .i64 g__0), (g__1h).v, (g__2h).v, (g__3h).v], Es (List (Int × Int × List Int × List Int)) g__1 g__1h, Es (List Int) g__2 g__2h, Es (List Int) g__3 g__3h, Es (List (Int × Int × List Int × List Int)) d0__1 d0__1h, Es (List Int) d0__2 d0__2h, Es (List Int) d0__3 d0__3h])
  refine fld gok rfl rfl rfl rfl ?_
  refine load1 (H.bx 5 rfl (j := 3) rfl) ?_
  obtain ⟨y18, e, hF19⟩ := bindS hF16; clear hF16
  obtain ⟨y18_0, y18_1, y18_2⟩ := y18
  have ey18 := e; clear e
  refine callF (impl_Graph_isGraph_1_c g__3 g__3h d0_b d0__0 d0__1 d0__1h d0__2 d0__2h d0__3 d0__3h d1_b y15_0 d2_b y15_1 d2_h d3_b y15_2 y18_0 y18_1 y18_2 ey18) (Γi := [Bx d0_b [(.int .i64 d0__0), (d0__1h).v, (d0__2h).v, (d0__3h).v], Bx d1_b [(.bool y15_0)], Bx d2_b [(d2_h).v], E (List Bool) y15_1 d2_h, Bx d3_b [(.int .i64 y15_2)]]) H ⟨Vw.sh 3 rfl, Vw.sh 4 rfl, Vw.sh 5 rfl, Vw.sh 6 rfl, trivial⟩ ?_; clear H ey18
  rintro _ _ w20 ⟨rfl, rfl⟩ (H : Cx w0 fp0 S0 w20 [Bx d0_b [(.int .i64 d0__0), (d0__1h).v, (d0__2h).v, (d0__3h).v], Bx d1_b [(.bool y18_0)], Bx d2_b [(d2_h).v], E (List Bool) y18_1 d2_h, Bx d3_b [(.int .i64 y18_2)], Bx b13 [(.int .i64 g__0), (g__1h).v, (g__2h).v, (g__3h).v], Es (List (Int × Int × List Int × List Int)) g__1 g__1h, Es (List Int) g__2 g__2h, Es (List Int) g__3 g__3h, Es (List (Int × Int × List Int × List Int)) d0__1 d0__1h, Es (List Int) d0__2 d0__2h, Es (List Int) d0__3 d0__3h])
  refine fld gok rfl rfl rfl rfl ?_
  refine load1 (H.bx 5 rfl (j := 1) rfl) ?_
  refine lenE (H.rs (α := List (Int × Int × List Int × List Int)) 6 rfl).len ?_
  have hmx76 := (H.rs (α := List (Int × Int × List Int × List Int)) 6 rfl).max
  obtain ⟨r77, e, hF78⟩ := bindS hF19; clear hF19
  refine loopS _ g__1.length (fun (k21 : Nat) (s74 : Int × Bool × List Bool) (_ : Unit) => [(1, (.func (.func 83) #[] #[(.pointer (some ⟨d0_b, 0, none⟩)), (.pointer (some ⟨d1_b, 0, none⟩)), (.pointer (some ⟨d2_b, 0, none⟩)), (.pointer (some ⟨d3_b, 0, none⟩))])), (15, (g__1h).v), (16, (.int .i64 ((g__1.length : Nat) : Int))), (17, (.int .i64 ((k21 : Nat) : Int)))]) (fun _ (s74 : Int × Bool × List Bool) (_ : Unit) w' => Cx w0 fp0 S0 w' [Bx d0_b [(.int .i64 d0__0), (d0__1h).v, (d0__2h).v, (d0__3h).v], Es (List (Int × Int × List Int × List Int)) d0__1 d0__1h, Es (List Int) d0__2 d0__2h, Es (List Int) d0__3 d0__3h, Bx d1_b [(.bool s74.2.1)], Bx d2_b [(d2_h).v], E (List Bool) s74.2.2 d2_h, Bx d3_b [(.int .i64 s74.1)], Es (List (Int × Int × List Int × List Int)) g__1 g__1h]) (y18_2, y18_0, y18_1) () e ⟨rfl, rfl, rfl, rfl, trivial⟩ (H.sel [0, 9, 10, 11, 1, 2, 3, 4, 6] rfl) ?_ ?_
  · clear H e
    rintro T80 k21 ⟨s74_0, s74_1, s74_2⟩ _ w79 o81 hk (H : Cx w0 fp0 S0 w79 [Bx d0_b [(.int .i64 d0__0), (d0__1h).v, (d0__2h).v, (d0__3h).v], Es (List (Int × Int × List Int × List Int)) d0__1 d0__1h, Es (List Int) d0__2 d0__2h, Es (List Int) d0__3 d0__3h, Bx d1_b [(.bool s74_1)], Bx d2_b [(d2_h).v], E (List Bool) s74_2 d2_h, Bx d3_b [(.int .i64 s74_0)], Es (List (Int × Int × List Int × List Int)) g__1 g__1h]) hF82
    refine boolE (z := true) (ltLen hk) ?_
    refine sq ?_
    refine sq ?_
    obtain ⟨a89, e, hF90⟩ := bindS hF82; clear hF82
    have HH := H; clear H; obtain ⟨p87, m88, g91, c83, c84, c85, c86, H⟩ := HH.el (α := Int × Int × List Int × List Int) 8 rfl e; clear HH
    clear e
    obtain ⟨a89_0, a89_1, a89_2, a89_3⟩ := a89
    obtain ⟨_, _, h93, h94⟩ := g91
    replace H := H.part (β := List Int) a89_2 (h93 : Hd) 0 rfl (fun S h => (And.left (And.right (And.right h))))
    replace H := H.part (β := List Int) a89_3 (h94 : Hd) 1 rfl (fun S h => (And.right (And.right (And.right h))))
    replace H := H.sel [0, 1, 3, 4, 5, 6, 7, 8, 9, 10, 11] rfl
    refine idxE c83 c84 c85 ?_; clear c83 c84 c85
    refine loadN [(.int .i64 a89_0), (.int .i64 a89_1), (h93).v, (h94).v] rfl c86 ?_; clear c86
    refine alloc_ gok rfl H ?_; clear H; intro b98 w97 hx H
    clear hx
    replace H : Cx w0 fp0 S0 w97 [Bx b98 [(.int .i64 0), (.int .i64 0), (.slice none 0 0), (.slice none 0 0)], Es (List Int) a89_3 h94, Es (List Int) a89_2 h93, Bx d0_b [(.int .i64 d0__0), (d0__1h).v, (d0__2h).v, (d0__3h).v], Es (List (Int × Int × List Int × List Int)) d0__1 d0__1h, Es (List Int) d0__2 d0__2h, Es (List Int) d0__3 d0__3h, Bx d1_b [(.bool s74_1)], Bx d2_b [(d2_h).v], E (List Bool) s74_2 d2_h, Bx d3_b [(.int .i64 s74_0)], Es (List (Int × Int × List Int × List Int)) g__1 g__1h] := H
    refine stA gok [(.int .i64 a89_0), (.int .i64 a89_1), (h93).v, (h94).v] rfl H rfl rfl rfl ?_; clear H; intro w100 H
    replace H : Cx w0 fp0 S0 w100 [Bx b98 [(.int .i64 a89_0), (.int .i64 a89_1), (h93).v, (h94).v], Es (List Int) a89_3 h94, Es (List Int) a89_2 h93, Bx d0_b [(.int .i64 d0__0), (d0__1h).v, (d0__2h).v, (d0__3h).v], Es (List (Int × Int × List Int × List Int)) d0__1 d0__1h, Es (List Int) d0__2 d0__2h, Es (List Int) d0__3 d0__3h, Bx d1_b [(.bool s74_1)], Bx d2_b [(d2_h).v], E (List Bool) s74_2 d2_h, Bx d3_b [(.int .i64 s74_0)], Es (List (Int × Int × List Int × List Int)) g__1 g__1h] := H
    refine fld gok rfl rfl rfl rfl ?_
    refine load1 (H.bx 0 rfl (j := 2) rfl) ?_
    obtain ⟨y101, e, hF102⟩ := bindS hF90; clear hF90
    obtain ⟨y101_0, y101_1, y101_2⟩ := y101
    have ey101 := e; clear e
    replace H := H.sel [3, 7, 8, 9, 10, 0, 1, 2, 4, 5, 6, 11] rfl
    refine callF (impl_Graph_isGraph_1_c a89_2 h93 d0_b d0__0 d0__1 d0__1h d0__2 d0__2h d0__3 d0__3h d1_b s74_1 d2_b s74_2 d2_h d3_b s74_0 y101_0 y101_1 y101_2 ey101) (Γi := [Bx d0_b [(.int .i64 d0__0), (d0__1h).v, (d0__2h).v, (d0__3h).v], Bx d1_b [(.bool s74_1)], Bx d2_b [(d2_h).v], E (List Bool) s74_2 d2_h, Bx d3_b [(.int .i64 s74_0)]]) H ⟨Vw.sh 2 rfl, Vw.sh 3 rfl, Vw.sh 4 rfl, Vw.sh 5 rfl, trivial⟩ ?_; clear H ey101
    rintro _ _ w103 ⟨rfl, rfl⟩ (H : Cx w0 fp0 S0 w103 [Bx d0_b [(.int .i64 d0__0), (d0__1h).v, (d0__2h).v, (d0__3h).v], Bx d1_b [(.bool y101_0)], Bx d2_b [(d2_h).v], E (List Bool) y101_1 d2_h, Bx d3_b [(.int .i64 y101_2)], Bx b98 [(.int .i64 a89_0), (.int .i64 a89_1), (h93).v, (h94).v], Es (List Int) a89_3 h94, Es (List Int) a89_2 h93, Es (List (Int × Int × List Int × List Int)) d0__1 d0__1h, Es (List Int) d0__2 d0__2h, Es (List Int) d0__3 d0__3h, Es (List (Int × Int × List Int × List Int)) g__1 g__1h])
    refine fld gok rfl rfl rfl rfl ?_
    refine load1 (H.bx 5 rfl (j := 3) rfl) ?_
    obtain ⟨y104, e, hF105⟩ := bindS hF102; clear hF102
    obtain ⟨y104_0, y104_1, y104_2⟩ := y104
    have ey104 := e; clear e
    refine callF (impl_Graph_isGraph_1_c a89_3 h94 d0_b d0__0 d0__1 d0__1h d0__2 d0__2h d0__3 d0__3h d1_b y101_0 d2_b y101_1 d2_h d3_b y101_2 y104_0 y104_1 y104_2 ey104) (Γi := [Bx d0_b [(.int .i64 d0__0), (d0__1h).v, (d0__2h).v, (d0__3h).v], Bx d1_b [(.bool y101_0)], Bx d2_b [(d2_h).v], E (List Bool) y101_1 d2_h, Bx d3_b [(.int .i64 y101_2)]]) H ⟨Vw.sh 1 rfl, Vw.sh 3 rfl, Vw.sh 4 rfl, Vw.sh 5 rfl, trivial⟩ ?_; clear H ey104
    rintro _ _ w106 ⟨rfl, rfl⟩ (H : Cx w0 fp0 S0 w106 [Bx d0_b [(.int .i64 d0__0), (d0__1h).v, (d0__2h).v, (d0__3h).v], Bx d1_b [(.bool y104_0)], Bx d2_b [(d2_h).v], E (List Bool) y104_1 d2_h, Bx d3_b [(.int .i64 y104_2)], Bx b98 [(.int .i64 a89_0), (.int .i64 a89_1), (h93).v, (h94).v], Es (List Int) a89_3 h94, Es (List Int) a89_2 h93, Es (List (Int × Int × List Int × List Int)) d0__1 d0__1h, Es (List Int) d0__2 d0__2h, Es (List Int) d0__3 d0__3h, Es (List (Int × Int × List Int × List Int)) g__1 g__1h])
    refine arK hk hmx76 ?_
    have hs := Option.some.inj hF105; subst hs; clear hF105
    exact ⟨(), ⟨rfl, rfl, rfl, rfl, trivial⟩, H.sel [0, 8, 9, 10, 1, 2, 3, 4, 11] rfl⟩
  · clear H e
    obtain ⟨s109_0, s109_1, s109_2⟩ := r77
    rintro T108 _ w107 (H : Cx w0 fp0 S0 w107 [Bx d0_b [(.int .i64 d0__0), (d0__1h).v, (d0__2h).v, (d0__3h).v], Es (List (Int × Int × List Int × List Int)) d0__1 d0__1h, Es (List Int) d0__2 d0__2h, Es (List Int) d0__3 d0__3h, Bx d1_b [(.bool s109_1)], Bx d2_b [(d2_h).v], E (List Bool) s109_2 d2_h, Bx d3_b [(.int .i64 s109_0)], Es (List (Int × Int × List Int × List Int)) g__1 g__1h])
    refine boolE (z := false) geLen ?_
    refine sq ?_
    cases hF78
    exact ⟨_, _, rfl, ⟨rfl, rfl⟩, (H.sel [0, 4, 5, 6, 7] rfl).close ⟨cloB, cloB, cloB, cloE, cloB, trivial⟩⟩

theorem impl_Graph_isGraph_c (g__0 : Int) (g__1 : List (Int × Int × List Int × List Int)) (g__1h : Hd) (g__2 : List Int) (g__2h : Hd) (g__3 : List Int) (g__3h : Hd) (y : Bool) (hF : F_impl_Graph_isGraph (g__0, g__1, g__2, g__3) = some y) :
    ConF Try.prog 45 #[(.agg #[(.int .i64 g__0), (g__1h).v, (g__2h).v, (g__3h).v])] [Es (List (Int × Int × List Int × List Int)) g__1 g__1h, Es (List Int) g__2 g__2h, Es (List Int) g__3 g__3h] [] (fun v Γ' => v = (.bool y) ∧ Γ' = []) := by
  intro w0 S0 fp0 hI hS
  have H : Cx w0 fp0 S0 w0 [Es (List (Int × Int × List Int × List Int)) g__1 g__1h, Es (List Int) g__2 g__2h, Es (List Int) g__3 g__3h] := Cx.start hI hS
  clear hI hS
  refine enterC (args := [_]) gok Try.func45 rfl _ rfl rfl rfl ?_
  refine box_ H ?_; clear H; intro b5 w4 hx H
  clear hx
  replace H : Cx w0 fp0 S0 w4 [Bx b5 [(.int .i64 g__0), (g__1h).v, (g__2h).v, (g__3h).v], Es (List (Int × Int × List Int × List Int)) g__1 g__1h, Es (List Int) g__2 g__2h, Es (List Int) g__3 g__3h] := H
  refine sq ?_
  obtain ⟨r26, hF28, hF27⟩ := bindS hF; clear hF
  refine cut (fun (q29 : Bool) => [(1, (.pointer (some ⟨b5, 0, none⟩))), (29, (.bool q29))]) (fun (q29 : Bool) w' => q29 = r26 ∧ Cx w0 fp0 S0 w' [Bx b5 [(.int .i64 g__0), (g__1h).v, (g__2h).v, (g__3h).v], Es (List (Int × Int × List Int × List Int)) g__1 g__1h, Es (List Int) g__2 g__2h, Es (List Int) g__3 g__3h]) ?_ ?_
  · skip
    refine fld gok rfl rfl rfl rfl ?_
    refine load1 (H.bx 0 rfl (j := 0) rfl) ?_
    obtain ⟨y30, e, hF31⟩ := bindS hF28; clear hF28
    have ey30 := e; clear e
    refine callF (impl_within_c g__0 0 100 y30 ey30) (Γi := []) H trivial ?_; clear H ey30
    rintro _ _ w32 ⟨rfl, rfl⟩ (H : Cx w0 fp0 S0 w32 [Bx b5 [(.int .i64 g__0), (g__1h).v, (g__2h).v, (g__3h).v], Es (List (Int × Int × List Int × List Int)) g__1 g__1h, Es (List Int) g__2 g__2h, Es (List Int) g__3 g__3h])
    obtain ⟨a33, e, hF34⟩ := bindS hF31; clear hF31
    refine boolO e ?_; clear e
    cases a33
    · have hF35 := condF hF34; clear hF34
      refine fld gok rfl rfl rfl rfl ?_
      refine load1 (H.bx 0 rfl (j := 1) rfl) ?_
      refine lenE (H.rs (α := List (Int × Int × List Int × List Int)) 1 rfl).len ?_
      obtain ⟨a36, e, hF37⟩ := bindS hF35; clear hF35
      refine boolO e ?_; clear e
      cases a36
      · have hF38 := condF hF37; clear hF37
        refine fld gok rfl rfl rfl rfl ?_
        refine load1 (H.bx 0 rfl (j := 2) rfl) ?_
        refine lenE (H.rs (α := List Int) 2 rfl).len ?_
        obtain ⟨a39, e, hF40⟩ := bindS hF38; clear hF38
        refine boolO e ?_; clear e
        cases a39
        · have hF41 := condF hF40; clear hF40
          refine fld gok rfl rfl rfl rfl ?_
          refine load1 (H.bx 0 rfl (j := 3) rfl) ?_
          refine lenE (H.rs (α := List Int) 3 rfl).len ?_
          obtain ⟨a42, e, hF43⟩ := bindS hF41; clear hF41
          refine boolO e ?_; clear e
          exact ⟨a42, ⟨rfl, rfl, trivial⟩, Option.some.inj hF43, H.sel [0, 1, 2, 3] rfl⟩
        · have hF44 := condT hF40; clear hF40
          exact ⟨true, ⟨rfl, rfl, trivial⟩, Option.some.inj hF44, H.sel [0, 1, 2, 3] rfl⟩
      · have hF45 := condT hF37; clear hF37
        exact ⟨true, ⟨rfl, rfl, trivial⟩, Option.some.inj hF45, H.sel [0, 1, 2, 3] rfl⟩
    · have hF46 := condT hF34; clear hF34
      exact ⟨true, ⟨rfl, rfl, trivial⟩, Option.some.inj hF46, H.sel [0, 1, 2, 3] rfl⟩
  · clear hF28 H
    rintro T48 s24 w47 ⟨hr, (H : Cx w0 fp0 S0 w47 [Bx b5 [(.int .i64 g__0), (g__1h).v, (g__2h).v, (g__3h).v], Es (List (Int × Int × List Int × List Int)) g__1 g__1h, Es (List Int) g__2 g__2h, Es (List Int) g__3 g__3h])⟩
    subst hr
    cases s24
    · have hF49 := condF hF27; clear hF27
      refine sq ?_
      refine fld gok rfl rfl rfl rfl ?_
      refine load1 (H.bx 0 rfl (j := 1) rfl) ?_
      refine lenE (H.rs (α := List (Int × Int × List Int × List Int)) 1 rfl).len ?_
      have hmx80 := (H.rs (α := List (Int × Int × List Int × List Int)) 1 rfl).max
      obtain ⟨r81, e, hF82⟩ := bindS hF49; clear hF49
      refine loopO _ g__1.length (fun (k50 : Nat) (_ : Unit) (_ : Unit) => [(1, (.pointer (some ⟨b5, 0, none⟩))), (31, (g__1h).v), (32, (.int .i64 ((g__1.length : Nat) : Int))), (33, (.int .i64 ((k50 : Nat) : Int)))]) (fun _ (_ : Unit) (_ : Unit) w' => Cx w0 fp0 S0 w' [Bx b5 [(.int .i64 g__0), (g__1h).v, (g__2h).v, (g__3h).v], Es (List (Int × Int × List Int × List Int)) g__1 g__1h, Es (List Int) g__2 g__2h, Es (List Int) g__3 g__3h]) () () e ⟨rfl, rfl, rfl, rfl, trivial⟩ (H.sel [0, 1, 2, 3] rfl) ?_ ?_
      · clear H e
        rintro T84 k50 _ _ w83 o85 hk (H : Cx w0 fp0 S0 w83 [Bx b5 [(.int .i64 g__0), (g__1h).v, (g__2h).v, (g__3h).v], Es (List (Int × Int × List Int × List Int)) g__1 g__1h, Es (List Int) g__2 g__2h, Es (List Int) g__3 g__3h]) hrt hF86
        refine boolE (z := true) (ltLen hk) ?_
        refine sq ?_
        refine sq ?_
        obtain ⟨a93, e, hF94⟩ := bindS hF86; clear hF86
        have HH := H; clear H; obtain ⟨p91, m92, g95, c87, c88, c89, c90, H⟩ := HH.el (α := Int × Int × List Int × List Int) 1 rfl e; clear HH
        clear e
        obtain ⟨a93_0, a93_1, a93_2, a93_3⟩ := a93
        obtain ⟨_, _, h97, h98⟩ := g95
        replace H := H.part (β := List Int) a93_2 (h97 : Hd) 0 rfl (fun S h => (And.left (And.right (And.right h))))
        replace H := H.part (β := List Int) a93_3 (h98 : Hd) 1 rfl (fun S h => (And.right (And.right (And.right h))))
        replace H := H.sel [0, 1, 3, 4, 5, 6] rfl
        refine idxE c87 c88 c89 ?_; clear c87 c88 c89
        refine loadN [(.int .i64 a93_0), (.int .i64 a93_1), (h97).v, (h98).v] rfl c90 ?_; clear c90
        refine alloc_ gok rfl H ?_; clear H; intro b102 w101 hx H
        clear hx
        replace H : Cx w0 fp0 S0 w101 [Bx b102 [(.int .i64 0), (.int .i64 0), (.slice none 0 0), (.slice none 0 0)], Es (List Int) a93_3 h98, Es (List Int) a93_2 h97, Bx b5 [(.int .i64 g__0), (g__1h).v, (g__2h).v, (g__3h).v], Es (List (Int × Int × List Int × List Int)) g__1 g__1h, Es (List Int) g__2 g__2h, Es (List Int) g__3 g__3h] := H
        refine stA gok [(.int .i64 a93_0), (.int .i64 a93_1), (h97).v, (h98).v] rfl H rfl rfl rfl ?_; clear H; intro w104 H
        replace H : Cx w0 fp0 S0 w104 [Bx b102 [(.int .i64 a93_0), (.int .i64 a93_1), (h97).v, (h98).v], Es (List Int) a93_3 h98, Es (List Int) a93_2 h97, Bx b5 [(.int .i64 g__0), (g__1h).v, (g__2h).v, (g__3h).v], Es (List (Int × Int × List Int × List Int)) g__1 g__1h, Es (List Int) g__2 g__2h, Es (List Int) g__3 g__3h] := H
        refine loadN [(.int .i64 a93_0), (.int .i64 a93_1), (h97).v, (h98).v] rfl (fun j u hj => H.bx 0 rfl hj) ?_
        obtain ⟨y105, e, hF106⟩ := bindS hF94; clear hF94
        have ey105 := e; clear e
        refine callF (impl_Edge_isEdge_c a93_0 a93_1 a93_2 h97 a93_3 h98 y105 ey105) (Γi := []) H ⟨Vw.sh 2 rfl, Vw.sh 1 rfl, trivial⟩ ?_; clear H ey105
        rintro _ _ w107 ⟨rfl, rfl⟩ (H : Cx w0 fp0 S0 w107 [Bx b102 [(.int .i64 a93_0), (.int .i64 a93_1), (h97).v, (h98).v], Es (List Int) a93_3 h98, Es (List Int) a93_2 h97, Bx b5 [(.int .i64 g__0), (g__1h).v, (g__2h).v, (g__3h).v], Es (List (Int × Int × List Int × List Int)) g__1 g__1h, Es (List Int) g__2 g__2h, Es (List Int) g__3 g__3h])
        obtain ⟨a108, e, hF109⟩ := bindS hF106; clear hF106
        refine boolO e ?_; clear e
        cases a108
        · have hF110 := condF hF109; clear hF109
          refine arK hk hmx80 ?_
          have hs := Option.some.inj hF110; subst hs; clear hF110
          exact ⟨(), (), rfl, ⟨rfl, rfl, rfl, rfl, trivial⟩, H.sel [3, 4, 5, 6] rfl⟩
        · have hF111 := condT hF109; clear hF109
          have hs := Option.some.inj hF111; subst hs; clear hF111
          have hr := hrt _ rfl; subst hr
          have hF112 : some _ = some _ := hF82
          cases hF112
          exact ⟨_, _, rfl, ⟨rfl, rfl⟩, (H.sel [] rfl).close trivial⟩
      · clear H e
        rintro T114 _ _ w113 hr (H : Cx w0 fp0 S0 w113 [Bx b5 [(.int .i64 g__0), (g__1h).v, (g__2h).v, (g__3h).v], Es (List (Int × Int × List Int × List Int)) g__1 g__1h, Es (List Int) g__2 g__2h, Es (List Int) g__3 g__3h])
        subst hr
        refine boolE (z := false) geLen ?_
        refine sq ?_
        refine fld gok rfl rfl rfl rfl ?_
        refine load1 (H.bx 0 rfl (j := 0) rfl) ?_
        obtain ⟨a117, e, hF118⟩ := bindS hF82; clear hF82
        refine make_ (α := Bool) gok rfl rfl rfl rfl (makeCO_of e) H ?_; clear e H; intro h120 w119 hx H
        clear hx
        refine alloc_ gok rfl H ?_; clear H; intro b123 w122 hx H
        clear hx
        replace H : Cx w0 fp0 S0 w122 [Bx b123 [(.slice none 0 0)], E (List Bool) a117 h120, Bx b5 [(.int .i64 g__0), (g__1h).v, (g__2h).v, (g__3h).v], Es (List (Int × Int × List Int × List Int)) g__1 g__1h, Es (List Int) g__2 g__2h, Es (List Int) g__3 g__3h] := H
        refine alloc_ gok rfl H ?_; clear H; intro b126 w125 hx H
        clear hx
        replace H : Cx w0 fp0 S0 w125 [Bx b126 [(.bool false)], Bx b123 [(.slice none 0 0)], E (List Bool) a117 h120, Bx b5 [(.int .i64 g__0), (g__1h).v, (g__2h).v, (g__3h).v], Es (List (Int × Int × List Int × List Int)) g__1 g__1h, Es (List Int) g__2 g__2h, Es (List Int) g__3 g__3h] := H
        refine alloc_ gok rfl H ?_; clear H; intro b129 w128 hx H
        clear hx
        replace H : Cx w0 fp0 S0 w128 [Bx b129 [(.int .i64 0)], Bx b126 [(.bool false)], Bx b123 [(.slice none 0 0)], E (List Bool) a117 h120, Bx b5 [(.int .i64 g__0), (g__1h).v, (g__2h).v, (g__3h).v], Es (List (Int × Int × List Int × List Int)) g__1 g__1h, Es (List Int) g__2 g__2h, Es (List Int) g__3 g__3h] := H
        replace H := H.sel [2, 0, 1, 3, 4, 5, 6, 7] rfl
        refine stB0 H rfl ?_; clear H; intro w131 H
        replace H : Cx w0 fp0 S0 w131 [Bx b123 [(h120).v], Bx b129 [(.int .i64 0)], Bx b126 [(.bool false)], E (List Bool) a117 h120, Bx b5 [(.int .i64 g__0), (g__1h).v, (g__2h).v, (g__3h).v], Es (List (Int × Int × List Int × List Int)) g__1 g__1h, Es (List Int) g__2 g__2h, Es (List Int) g__3 g__3h] := H
        replace H := H.sel [2, 0, 1, 3, 4, 5, 6, 7] rfl
        refine stB0 H rfl ?_; clear H; intro w132 H
        replace H : Cx w0 fp0 S0 w132 [Bx b126 [(.bool true)], Bx b123 [(h120).v], Bx b129 [(.int .i64 0)], E (List Bool) a117 h120, Bx b5 [(.int .i64 g__0), (g__1h).v, (g__2h).v, (g__3h).v], Es (List (Int × Int × List Int × List Int)) g__1 g__1h, Es (List Int) g__2 g__2h, Es (List Int) g__3 g__3h] := H
        replace H := H.sel [2, 0, 1, 3, 4, 5, 6, 7] rfl
        refine stB0 H rfl ?_; clear H; intro w133 H
        replace H : Cx w0 fp0 S0 w133 [Bx b129 [(.int .i64 0)], Bx b126 [(.bool true)], Bx b123 [(h120).v], E (List Bool) a117 h120, Bx b5 [(.int .i64 g__0), (g__1h).v, (g__2h).v, (g__3h).v], Es (List (Int × Int × List Int × List Int)) g__1 g__1h, Es (List Int) g__2 g__2h, Es (List Int) g__3 g__3h] := H
        refine loadN [(.int .i64 g__0), (g__1h).v, (g__2h).v, (g__3h).v] rfl (fun j u hj => H.bx 4 rfl hj) ?_
        obtain ⟨y134, e, hF135⟩ := bindS hF118; clear hF118
        obtain ⟨y134_0, y134_1, y134_2⟩ := y134
        have ey134 := e; clear e
        replace H := H.sel [4, 1, 2, 3, 0, 5, 6, 7] rfl
        refine callF (impl_Graph_lists_impl_Graph_isGraph_1_c g__0 g__1 g__1h g__2 g__2h g__3 g__3h b5 g__0 g__1 g__1h g__2 g__2h g__3 g__3h b126 true b123 a117 h120 b129 0 y134_0 y134_1 y134_2 ey134) (Γi := [Bx b5 [(.int .i64 g__0), (g__1h).v, (g__2h).v, (g__3h).v], Bx b126 [(.bool true)], Bx b123 [(h120).v], E (List Bool) a117 h120, Bx b129 [(.int .i64 0)]]) H ⟨Vw.sh 0 rfl, Vw.sh 1 rfl, Vw.sh 2 rfl, Vw.sh 0 rfl, Vw.sh 1 rfl, Vw.sh 2 rfl, trivial⟩ ?_; clear H ey134
        rintro _ _ w136 ⟨rfl, rfl⟩ (H : Cx w0 fp0 S0 w136 [Bx b5 [(.int .i64 g__0), (g__1h).v, (g__2h).v, (g__3h).v], Bx b126 [(.bool y134_0)], Bx b123 [(h120).v], E (List Bool) y134_1 h120, Bx b129 [(.int .i64 y134_2)], Es (List (Int × Int × List Int × List Int)) g__1 g__1h, Es (List Int) g__2 g__2h, Es (List Int) g__3 g__3h])
        obtain ⟨r143, hF145, hF144⟩ := bindS hF135; clear hF135
        refine cut (fun (q146 : Bool × Bool) => [(2, (.bool q146.2))]) (fun (q146 : Bool × Bool) w' => (q146.1, q146.2) = r143 ∧ Cx w0 fp0 S0 w' []) ?_ ?_
        · skip
          refine load1 (H.bx0 1 rfl) ?_
          cases y134_0
          · have hF147 := condF hF145; clear hF145
            exact ⟨(false, false), ⟨rfl, trivial⟩, Option.some.inj hF147, H.sel [] rfl⟩
          · have hF148 := condT hF145; clear hF145
            refine load1 (H.bx0 4 rfl) ?_
            refine fld gok rfl rfl rfl rfl ?_
            refine load1 (H.bx 0 rfl (j := 0) rfl) ?_
            obtain ⟨a149, e, hF150⟩ := bindS hF148; clear hF148
            refine boolO e ?_; clear e
            exact ⟨(true, a149), ⟨rfl, trivial⟩, Option.some.inj hF150, H.sel [] rfl⟩
        · clear hF145 H
          rintro T152 ⟨s141_0, s141_1⟩ w151 ⟨hr, (H : Cx w0 fp0 S0 w151 [])⟩
          subst hr
          cases hF144
          exact ⟨_, _, rfl, ⟨rfl, rfl⟩, (H.sel [] rfl).close trivial⟩
    · have hF153 := condT hF27; clear hF27
      cases hF153
      exact ⟨_, _, rfl, ⟨rfl, rfl⟩, (H.sel [] rfl).close trivial⟩

theorem impl_graphOf_c (t__0 : List (Int × Int × ByteArray)) (t__0h : Hd) (y0_0 : Int) (y0_1 : List (Int × Int × List Int × List Int)) (y0_2 : List Int) (y0_3 : List Int) (y1 : Bool) (hF : F_impl_graphOf t__0 = some ((y0_0, y0_1, y0_2, y0_3), y1)) :
    ConF Try.prog 73 #[(.agg #[(t__0h).v])] [Es (List (Int × Int × ByteArray)) t__0 t__0h] [] (fun v Γ' => ∃ z0 z1 z2 : Hd, v = (.tuple #[(.agg #[(.int .i64 y0_0), (z0).v, (z1).v, (z2).v]), (.bool y1)]) ∧ Γ' = [E (List (Int × Int × List Int × List Int)) y0_1 z0, E (List Int) y0_2 z1, E (List Int) y0_3 z2]) := by
  intro w0 S0 fp0 hI hS
  have H : Cx w0 fp0 S0 w0 [Es (List (Int × Int × ByteArray)) t__0 t__0h] := Cx.start hI hS
  clear hI hS
  refine enterC (args := [_]) gok Try.func73 rfl _ rfl rfl rfl ?_
  refine box_ H ?_; clear H; intro b3 w2 hx H
  clear hx
  replace H : Cx w0 fp0 S0 w2 [Bx b3 [(t__0h).v], Es (List (Int × Int × ByteArray)) t__0 t__0h] := H
  refine alloc_ gok rfl H ?_; clear H; intro b6 w5 hx H
  clear hx
  replace H : Cx w0 fp0 S0 w5 [Bx b6 [(.int .i64 0), (.slice none 0 0), (.slice none 0 0), (.slice none 0 0)], Bx b3 [(t__0h).v], Es (List (Int × Int × ByteArray)) t__0 t__0h] := H
  refine lit0 (α := Int × (List (Int × Int × List Int × List Int)) × List Int × List Int) gok rfl rfl H ?_; clear H; intro h9 w8 hx H
  clear hx
  refine sq ?_
  refine fld gok rfl rfl rfl rfl ?_
  refine load1 (H.bx 2 rfl (j := 0) rfl) ?_
  refine lenE (H.rs (α := List (Int × Int × ByteArray)) 3 rfl).len ?_
  have hmx386 := (H.rs (α := List (Int × Int × ByteArray)) 3 rfl).max
  obtain ⟨r387, e, hF388⟩ := bindS hF; clear hF
  refine loopO _ t__0.length (fun (k11 : Nat) (s383 : List (Int × (List (Int × Int × List Int × List Int)) × List Int × List Int)) (g384 : Hd) => [(2, (.pointer (some ⟨b6, 0, none⟩))), (4, (g384).v), (11, (t__0h).v), (12, (.int .i64 ((t__0.length : Nat) : Int))), (13, (.int .i64 ((k11 : Nat) : Int)))]) (fun _ (s383 : List (Int × (List (Int × Int × List Int × List Int)) × List Int × List Int)) (g384 : Hd) w' => Cx w0 fp0 S0 w' [Bx b6 [(.int .i64 0), (.slice none 0 0), (.slice none 0 0), (.slice none 0 0)], E (List (Int × (List (Int × Int × List Int × List Int)) × List Int × List Int)) s383 g384, Es (List (Int × Int × ByteArray)) t__0 t__0h]) ([] : List (Int × (List (Int × Int × List Int × List Int)) × List Int × List Int)) h9 e ⟨rfl, rfl, rfl, rfl, rfl, trivial⟩ (H.sel [1, 0, 3] rfl) ?_ ?_
  · clear H e
    rintro T390 k11 s383 g384 w389 o391 hk (H : Cx w0 fp0 S0 w389 [Bx b6 [(.int .i64 0), (.slice none 0 0), (.slice none 0 0), (.slice none 0 0)], E (List (Int × (List (Int × Int × List Int × List Int)) × List Int × List Int)) s383 g384, Es (List (Int × Int × ByteArray)) t__0 t__0h]) hrt hF392
    refine boolE (z := true) (ltLen hk) ?_
    refine sq ?_
    refine sq ?_
    obtain ⟨a399, e, hF400⟩ := bindS hF392; clear hF392
    have HH := H; clear H; obtain ⟨p397, m398, g401, c393, c394, c395, c396, H⟩ := HH.el (α := Int × Int × ByteArray) 2 rfl e; clear HH
    clear e
    obtain ⟨a399_0, a399_1, a399_2⟩ := a399
    obtain ⟨_, _, _⟩ := g401
    replace H := H.sel [1, 2, 3] rfl
    refine idxE c393 c394 c395 ?_; clear c393 c394 c395
    refine loadN [(.int .i64 a399_0), (.int .i64 a399_1), (.string a399_2)] rfl c396 ?_; clear c396
    refine alloc_ gok rfl H ?_; clear H; intro b404 w403 hx H
    clear hx
    replace H : Cx w0 fp0 S0 w403 [Bx b404 [(.int .i64 0), (.int .i64 0), (.string .empty)], Bx b6 [(.int .i64 0), (.slice none 0 0), (.slice none 0 0), (.slice none 0 0)], E (List (Int × (List (Int × Int × List Int × List Int)) × List Int × List Int)) s383 g384, Es (List (Int × Int × ByteArray)) t__0 t__0h] := H
    refine stA gok [(.int .i64 a399_0), (.int .i64 a399_1), (.string a399_2)] rfl H rfl rfl rfl ?_; clear H; intro w406 H
    replace H : Cx w0 fp0 S0 w406 [Bx b404 [(.int .i64 a399_0), (.int .i64 a399_1), (.string a399_2)], Bx b6 [(.int .i64 0), (.slice none 0 0), (.slice none 0 0), (.slice none 0 0)], E (List (Int × (List (Int × Int × List Int × List Int)) × List Int × List Int)) s383 g384, Es (List (Int × Int × ByteArray)) t__0 t__0h] := H
    refine lenE (H.ro (α := List (Int × (List (Int × Int × List Int × List Int)) × List Int × List Int)) 2 rfl).len ?_
    obtain ⟨a407, e, hF408⟩ := bindS hF400; clear hF400
    refine arO e ?_; clear e
    refine alloc_ gok rfl H ?_; clear H; intro b410 w409 hx H
    clear hx
    replace H : Cx w0 fp0 S0 w409 [Bx b410 [(.int .i64 0), (.slice none 0 0), (.slice none 0 0), (.slice none 0 0)], Bx b404 [(.int .i64 a399_0), (.int .i64 a399_1), (.string a399_2)], Bx b6 [(.int .i64 0), (.slice none 0 0), (.slice none 0 0), (.slice none 0 0)], E (List (Int × (List (Int × Int × List Int × List Int)) × List Int × List Int)) s383 g384, Es (List (Int × Int × ByteArray)) t__0 t__0h] := H
    refine sq ?_
    refine fld gok rfl rfl rfl rfl ?_
    refine load1 (H.bx 1 rfl (j := 0) rfl) ?_
    obtain ⟨a412, e, hF413⟩ := bindS hF408; clear hF408
    refine boolO e ?_; clear e
    cases a412
    · have hF414 := condF hF413; clear hF413
      obtain ⟨a415, e, hF416⟩ := bindS hF414; clear hF414
      refine boolO e ?_; clear e
      cases a415
      · have hF417 := condF hF416; clear hF416
        refine loadN [(.int .i64 a399_0), (.int .i64 a399_1), (.string a399_2)] rfl (fun j u hj => H.bx 1 rfl hj) ?_
        obtain ⟨y418, e, hF419⟩ := bindS hF417; clear hF417
        obtain ⟨y418_0, y418_1, y418_2, y418_3⟩ := y418
        have ey418 := e; clear e
        refine callF (impl_leafGraph_c a399_0 a399_1 a399_2 y418_0 y418_1 y418_2 y418_3 ey418) (Γi := []) H trivial ?_; clear H ey418
        rintro _ _ w420 ⟨h421, h423, h425, rfl, rfl⟩ (H : Cx w0 fp0 S0 w420 [E (List (Int × Int × List Int × List Int)) y418_1 h421, E (List Int) y418_2 h423, E (List Int) y418_3 h425, Bx b410 [(.int .i64 0), (.slice none 0 0), (.slice none 0 0), (.slice none 0 0)], Bx b404 [(.int .i64 a399_0), (.int .i64 a399_1), (.string a399_2)], Bx b6 [(.int .i64 0), (.slice none 0 0), (.slice none 0 0), (.slice none 0 0)], E (List (Int × (List (Int × Int × List Int × List Int)) × List Int × List Int)) s383 g384, Es (List (Int × Int × ByteArray)) t__0 t__0h])
        replace H := H.sel [3, 0, 1, 2, 4, 5, 6, 7] rfl
        refine stA gok [(.int .i64 y418_0), (h421).v, (h423).v, (h425).v] rfl H rfl rfl rfl ?_; clear H; intro w427 H
        replace H : Cx w0 fp0 S0 w427 [Bx b410 [(.int .i64 y418_0), (h421).v, (h423).v, (h425).v], E (List (Int × Int × List Int × List Int)) y418_1 h421, E (List Int) y418_2 h423, E (List Int) y418_3 h425, Bx b404 [(.int .i64 a399_0), (.int .i64 a399_1), (.string a399_2)], Bx b6 [(.int .i64 0), (.slice none 0 0), (.slice none 0 0), (.slice none 0 0)], E (List (Int × (List (Int × Int × List Int × List Int)) × List Int × List Int)) s383 g384, Es (List (Int × Int × ByteArray)) t__0 t__0h] := H
        refine sq ?_
        refine loadN [(.int .i64 y418_0), (h421).v, (h423).v, (h425).v] rfl (fun j u hj => H.bx 0 rfl hj) ?_
        obtain ⟨y428, e, hF429⟩ := bindS hF419; clear hF419
        have ey428 := e; clear e
        refine callF (impl_Graph_isGraph_c y418_0 y418_1 h421 y418_2 h423 y418_3 h425 y428 ey428) (Γi := []) H ⟨Vw.own 1 rfl, Vw.own 2 rfl, Vw.own 3 rfl, trivial⟩ ?_; clear H ey428
        rintro _ _ w430 ⟨rfl, rfl⟩ (H : Cx w0 fp0 S0 w430 [Bx b410 [(.int .i64 y418_0), (h421).v, (h423).v, (h425).v], E (List (Int × Int × List Int × List Int)) y418_1 h421, E (List Int) y418_2 h423, E (List Int) y418_3 h425, Bx b404 [(.int .i64 a399_0), (.int .i64 a399_1), (.string a399_2)], Bx b6 [(.int .i64 0), (.slice none 0 0), (.slice none 0 0), (.slice none 0 0)], E (List (Int × (List (Int × Int × List Int × List Int)) × List Int × List Int)) s383 g384, Es (List (Int × Int × ByteArray)) t__0 t__0h])
        obtain ⟨a431, e, hF432⟩ := bindS hF429; clear hF429
        refine boolO e ?_; clear e
        cases a431
        · have hF433 := condF hF432; clear hF432
          refine loadN [(.int .i64 y418_0), (h421).v, (h423).v, (h425).v] rfl (fun j u hj => H.bx 0 rfl hj) ?_
          replace H := H.sel [1, 2, 3, 0, 4, 5, 6, 7] rfl
          replace H := H.sel [1, 2, 0, 3, 4, 5, 6, 7] rfl
          replace H := H.join (α := List Int) (β := List Int)
          replace H := H.sel [1, 0, 2, 3, 4, 5, 6] rfl
          replace H := H.join (α := List (Int × Int × List Int × List Int)) (β := List Int × List Int)
          replace H := H.sc (α := Int) y418_0
          replace H := H.join (α := Int) (β := (List (Int × Int × List Int × List Int)) × List Int × List Int)
          refine lit1 (α := Int × (List (Int × Int × List Int × List Int)) × List Int × List Int) (g := ((), h421, h423, h425)) gok rfl rfl rfl rfl rfl H ?_; clear H; intro h435 w434 hx H
          clear hx
          obtain ⟨a441, e, hF442⟩ := bindS hF433; clear hF433
          replace H := H.sel [4, 0, 1, 2, 3, 5] rfl
          refine append_ (α := Int × (List (Int × Int × List Int × List Int)) × List Int × List Int) gok rfl rfl rfl rfl H e ?_; clear e H; intro h444 w443 H
          refine arK hk hmx386 ?_
          have hs := Option.some.inj hF442; subst hs; clear hF442
          exact ⟨a441, h444, rfl, ⟨rfl, rfl, rfl, rfl, rfl, trivial⟩, H.sel [3, 0, 4] rfl⟩
        · have hF446 := condT hF432; clear hF432
          refine build_ (cs := #[(.int .i64 0), (.slice none 0 0), (.slice none 0 0), (.slice none 0 0)]) gok rfl rfl rfl ?_
          replace H := H.sel [5, 0, 1, 2, 3, 4, 6, 7] rfl
          refine stA gok [(.int .i64 0), (.slice none 0 0), (.slice none 0 0), (.slice none 0 0)] rfl H rfl rfl rfl ?_; clear H; intro w447 H
          replace H : Cx w0 fp0 S0 w447 [Bx b6 [(.int .i64 0), (.slice none 0 0), (.slice none 0 0), (.slice none 0 0)], Bx b410 [(.int .i64 y418_0), (h421).v, (h423).v, (h425).v], E (List (Int × Int × List Int × List Int)) y418_1 h421, E (List Int) y418_2 h423, E (List Int) y418_3 h425, Bx b404 [(.int .i64 a399_0), (.int .i64 a399_1), (.string a399_2)], E (List (Int × (List (Int × Int × List Int × List Int)) × List Int × List Int)) s383 g384, Es (List (Int × Int × ByteArray)) t__0 t__0h] := H
          have hs := Option.some.inj hF446; subst hs; clear hF446
          have hr := hrt _ rfl; subst hr
          have hF448 : some _ = some _ := hF388
          refine loadN [(.int .i64 0), (.slice none 0 0), (.slice none 0 0), (.slice none 0 0)] rfl (fun j u hj => H.bx 0 rfl hj) ?_
          replace H := H.nil (α := Int × Int × List Int × List Int)
          replace H := H.nil (α := Int)
          replace H := H.nil (α := Int)
          cases hF448
          exact ⟨_, _, rfl, ⟨nilH, nilH, nilH, rfl, rfl⟩, (H.sel [2, 1, 0] rfl).close ⟨cloE, cloE, cloE, trivial⟩⟩
      · have hF452 := condT hF416; clear hF416
        refine heldX H [10] (.fst 0 (.fst 1 (.fst 2 (.fst 3 (.fst 5 (.fst 6 (.fst 7 (.fst 4 (.fst 8 (.act 9 (.act 10 .done))))))))))) mixed [] trivial (by kernel_rfl) ?_
        clear H; intro w453 H
        have hX : Ext w453 w453 := Upd.refl _ _
        have H0 := H
        obtain ⟨a454, e, hF455⟩ := bindS hF452; clear hF452
        refine arO e ?_; clear e
        obtain ⟨a462, e, hF463⟩ := bindS hF455; clear hF455
        replace H := H.sel [3, 0, 1, 2, 4] rfl
        replace H := H.toEH (α := Int × (List (Int × Int × List Int × List Int)) × List Int × List Int)
        have HH := H; clear H; obtain ⟨p460, m461, g464, c456, c457, c458, c459, H⟩ := HH.peek e; clear HH
        clear e
        obtain ⟨a462_0, a462_1, a462_2, a462_3⟩ := a462
        obtain ⟨_, h465, h466, h467⟩ := g464
        refine idxE c456 c457 c458 ?_
        obtain ⟨a474, e, hF475⟩ := bindS hF463; clear hF463
        have HH := H; clear H; obtain ⟨p472, m473, g476, c468, c469, c470, c471, H⟩ := HH.peek e; clear HH
        clear e
        obtain ⟨a474_0, a474_1, a474_2, a474_3⟩ := a474
        obtain ⟨_, h477, h478, h479⟩ := g476
        refine idxE c468 c469 c470 ?_
        refine loadNX [(.int .i64 a462_0), (h465).v, (h466).v, (h467).v] rfl c459 ?_; clear c459
        refine loadNX [(.int .i64 a474_0), (h477).v, (h478).v, (h479).v] rfl c471 ?_; clear c471
        obtain ⟨y480, e, hF481⟩ := bindS hF475; clear hF475
        obtain ⟨y480_0, y480_1, y480_2, y480_3⟩ := y480
        have ey480 := e; clear e
        refine callFx (impl_parGraphs_c a462_0 a462_1 h465 a462_2 h466 a462_3 h467 a474_0 a474_1 h477 a474_2 h478 a474_3 h479 y480_0 y480_1 y480_2 y480_3 ey480) H ⟨Vw.part (β := List (Int × Int × List Int × List Int)) (Vw.eh (α := Int × (List (Int × Int × List Int × List Int)) × List Int × List Int) (k := ⟨m461, (a462_0, a462_1, a462_2, a462_3), ((), h465, h466, h467)⟩) 0 rfl 1 rfl) a462_1 (h465 : Hd) (fun S h => (And.left (And.right h))), Vw.part (β := List Int) (Vw.eh (α := Int × (List (Int × Int × List Int × List Int)) × List Int × List Int) (k := ⟨m461, (a462_0, a462_1, a462_2, a462_3), ((), h465, h466, h467)⟩) 0 rfl 1 rfl) a462_2 (h466 : Hd) (fun S h => (And.left (And.right (And.right h)))), Vw.part (β := List Int) (Vw.eh (α := Int × (List (Int × Int × List Int × List Int)) × List Int × List Int) (k := ⟨m461, (a462_0, a462_1, a462_2, a462_3), ((), h465, h466, h467)⟩) 0 rfl 1 rfl) a462_3 (h467 : Hd) (fun S h => (And.right (And.right (And.right h)))), Vw.part (β := List (Int × Int × List Int × List Int)) (Vw.eh (α := Int × (List (Int × Int × List Int × List Int)) × List Int × List Int) (k := ⟨m473, (a474_0, a474_1, a474_2, a474_3), ((), h477, h478, h479)⟩) 0 rfl 0 rfl) a474_1 (h477 : Hd) (fun S h => (And.left (And.right h))), Vw.part (β := List Int) (Vw.eh (α := Int × (List (Int × Int × List Int × List Int)) × List Int × List Int) (k := ⟨m473, (a474_0, a474_1, a474_2, a474_3), ((), h477, h478, h479)⟩) 0 rfl 0 rfl) a474_2 (h478 : Hd) (fun S h => (And.left (And.right (And.right h)))), Vw.part (β := List Int) (Vw.eh (α := Int × (List (Int × Int × List Int × List Int)) × List Int × List Int) (k := ⟨m473, (a474_0, a474_1, a474_2, a474_3), ((), h477, h478, h479)⟩) 0 rfl 0 rfl) a474_3 (h479 : Hd) (fun S h => (And.right (And.right (And.right h)))), trivial⟩ ?_; clear H ey480
        rintro _ _ w482 ⟨h483, h485, h487, rfl, rfl⟩ hx (H : Cx w0 fp0 S0 w482 [E (List (Int × Int × List Int × List Int)) y480_1 h483, E (List Int) y480_2 h485, E (List Int) y480_3 h487, EH (Int × (List (Int × Int × List Int × List Int)) × List Int × List Int) s383 g384 [⟨m473, (a474_0, a474_1, a474_2, a474_3), ((), h477, h478, h479)⟩, ⟨m461, (a462_0, a462_1, a462_2, a462_3), ((), h465, h466, h467)⟩], Bx b410 [(.int .i64 0), (.slice none 0 0), (.slice none 0 0), (.slice none 0 0)], Bx b404 [(.int .i64 a399_0), (.int .i64 a399_1), (.string a399_2)], Bx b6 [(.int .i64 0), (.slice none 0 0), (.slice none 0 0), (.slice none 0 0)], Es (List (Int × Int × ByteArray)) t__0 t__0h])
        replace hX := hX.trans0 hx; clear hx
        refine hold hX ?_
        replace H := H.sel [4, 0, 1, 2, 3, 5, 6, 7] rfl
        refine stA gok [(.int .i64 y480_0), (h483).v, (h485).v, (h487).v] rfl H rfl rfl rfl ?_; clear H; intro w489 H
        replace H : Cx w0 fp0 S0 w489 [Bx b410 [(.int .i64 y480_0), (h483).v, (h485).v, (h487).v], E (List (Int × Int × List Int × List Int)) y480_1 h483, E (List Int) y480_2 h485, E (List Int) y480_3 h487, EH (Int × (List (Int × Int × List Int × List Int)) × List Int × List Int) s383 g384 [⟨m473, (a474_0, a474_1, a474_2, a474_3), ((), h477, h478, h479)⟩, ⟨m461, (a462_0, a462_1, a462_2, a462_3), ((), h465, h466, h467)⟩], Bx b404 [(.int .i64 a399_0), (.int .i64 a399_1), (.string a399_2)], Bx b6 [(.int .i64 0), (.slice none 0 0), (.slice none 0 0), (.slice none 0 0)], Es (List (Int × Int × ByteArray)) t__0 t__0h] := H
        refine hold trivial ?_
        replace H := H.sel [4, 0, 1, 2, 3, 5, 6, 7] rfl
        replace H := H.ofEH
        obtain ⟨a490, e, hF491⟩ := bindS hF481; clear hF481
        refine arO e ?_; clear e
        obtain ⟨a492, e, hF493⟩ := bindS hF491; clear hF491
        refine slO (α := Int × (List (Int × Int × List Int × List Int)) × List Int × List Int) gok rfl rfl H e rfl rfl ?_; clear e H; intro h494 H
        refine sq ?_
        refine loadN [(.int .i64 y480_0), (h483).v, (h485).v, (h487).v] rfl (fun j u hj => H.bx 1 rfl hj) ?_
        obtain ⟨y496, e, hF497⟩ := bindS hF493; clear hF493
        have ey496 := e; clear e
        refine callF (impl_Graph_isGraph_c y480_0 y480_1 h483 y480_2 h485 y480_3 h487 y496 ey496) (Γi := []) H ⟨Vw.own 2 rfl, Vw.own 3 rfl, Vw.own 4 rfl, trivial⟩ ?_; clear H ey496
        rintro _ _ w498 ⟨rfl, rfl⟩ (H : Cx w0 fp0 S0 w498 [E (List (Int × (List (Int × Int × List Int × List Int)) × List Int × List Int)) a492 h494, Bx b410 [(.int .i64 y480_0), (h483).v, (h485).v, (h487).v], E (List (Int × Int × List Int × List Int)) y480_1 h483, E (List Int) y480_2 h485, E (List Int) y480_3 h487, Bx b404 [(.int .i64 a399_0), (.int .i64 a399_1), (.string a399_2)], Bx b6 [(.int .i64 0), (.slice none 0 0), (.slice none 0 0), (.slice none 0 0)], Es (List (Int × Int × ByteArray)) t__0 t__0h])
        obtain ⟨a499, e, hF500⟩ := bindS hF497; clear hF497
        refine boolO e ?_; clear e
        cases a499
        · have hF501 := condF hF500; clear hF500
          refine loadN [(.int .i64 y480_0), (h483).v, (h485).v, (h487).v] rfl (fun j u hj => H.bx 1 rfl hj) ?_
          replace H := H.sel [2, 3, 4, 0, 1, 5, 6, 7] rfl
          replace H := H.sel [1, 2, 0, 3, 4, 5, 6, 7] rfl
          replace H := H.join (α := List Int) (β := List Int)
          replace H := H.sel [1, 0, 2, 3, 4, 5, 6] rfl
          replace H := H.join (α := List (Int × Int × List Int × List Int)) (β := List Int × List Int)
          replace H := H.sc (α := Int) y480_0
          replace H := H.join (α := Int) (β := (List (Int × Int × List Int × List Int)) × List Int × List Int)
          refine lit1 (α := Int × (List (Int × Int × List Int × List Int)) × List Int × List Int) (g := ((), h483, h485, h487)) gok rfl rfl rfl rfl rfl H ?_; clear H; intro h503 w502 hx H
          clear hx
          obtain ⟨a509, e, hF510⟩ := bindS hF501; clear hF501
          replace H := H.sel [1, 0, 2, 3, 4, 5] rfl
          refine append_ (α := Int × (List (Int × Int × List Int × List Int)) × List Int × List Int) gok rfl rfl rfl rfl H e ?_; clear e H; intro h512 w511 H
          refine arK hk hmx386 ?_
          have hs := Option.some.inj hF510; subst hs; clear hF510
          exact ⟨a509, h512, rfl, ⟨rfl, rfl, rfl, rfl, rfl, trivial⟩, H.sel [3, 0, 4] rfl⟩
        · have hF514 := condT hF500; clear hF500
          refine build_ (cs := #[(.int .i64 0), (.slice none 0 0), (.slice none 0 0), (.slice none 0 0)]) gok rfl rfl rfl ?_
          replace H := H.sel [6, 0, 1, 2, 3, 4, 5, 7] rfl
          refine stA gok [(.int .i64 0), (.slice none 0 0), (.slice none 0 0), (.slice none 0 0)] rfl H rfl rfl rfl ?_; clear H; intro w515 H
          replace H : Cx w0 fp0 S0 w515 [Bx b6 [(.int .i64 0), (.slice none 0 0), (.slice none 0 0), (.slice none 0 0)], E (List (Int × (List (Int × Int × List Int × List Int)) × List Int × List Int)) a492 h494, Bx b410 [(.int .i64 y480_0), (h483).v, (h485).v, (h487).v], E (List (Int × Int × List Int × List Int)) y480_1 h483, E (List Int) y480_2 h485, E (List Int) y480_3 h487, Bx b404 [(.int .i64 a399_0), (.int .i64 a399_1), (.string a399_2)], Es (List (Int × Int × ByteArray)) t__0 t__0h] := H
          have hs := Option.some.inj hF514; subst hs; clear hF514
          have hr := hrt _ rfl; subst hr
          have hF516 : some _ = some _ := hF388
          refine loadN [(.int .i64 0), (.slice none 0 0), (.slice none 0 0), (.slice none 0 0)] rfl (fun j u hj => H.bx 0 rfl hj) ?_
          replace H := H.nil (α := Int × Int × List Int × List Int)
          replace H := H.nil (α := Int)
          replace H := H.nil (α := Int)
          cases hF516
          exact ⟨_, _, rfl, ⟨nilH, nilH, nilH, rfl, rfl⟩, (H.sel [2, 1, 0] rfl).close ⟨cloE, cloE, cloE, trivial⟩⟩
    · have hF520 := condT hF413; clear hF413
      refine heldX H [10] (.fst 0 (.fst 1 (.fst 2 (.fst 3 (.fst 5 (.fst 6 (.fst 7 (.fst 4 (.fst 8 (.act 9 (.act 10 .done))))))))))) mixed [] trivial (by kernel_rfl) ?_
      clear H; intro w521 H
      have hX : Ext w521 w521 := Upd.refl _ _
      have H0 := H
      obtain ⟨a522, e, hF523⟩ := bindS hF520; clear hF520
      refine arO e ?_; clear e
      obtain ⟨a530, e, hF531⟩ := bindS hF523; clear hF523
      replace H := H.sel [3, 0, 1, 2, 4] rfl
      replace H := H.toEH (α := Int × (List (Int × Int × List Int × List Int)) × List Int × List Int)
      have HH := H; clear H; obtain ⟨p528, m529, g532, c524, c525, c526, c527, H⟩ := HH.peek e; clear HH
      clear e
      obtain ⟨a530_0, a530_1, a530_2, a530_3⟩ := a530
      obtain ⟨_, h533, h534, h535⟩ := g532
      refine idxE c524 c525 c526 ?_
      obtain ⟨a542, e, hF543⟩ := bindS hF531; clear hF531
      have HH := H; clear H; obtain ⟨p540, m541, g544, c536, c537, c538, c539, H⟩ := HH.peek e; clear HH
      clear e
      obtain ⟨a542_0, a542_1, a542_2, a542_3⟩ := a542
      obtain ⟨_, h545, h546, h547⟩ := g544
      refine idxE c536 c537 c538 ?_
      refine loadNX [(.int .i64 a530_0), (h533).v, (h534).v, (h535).v] rfl c527 ?_; clear c527
      refine loadNX [(.int .i64 a542_0), (h545).v, (h546).v, (h547).v] rfl c539 ?_; clear c539
      obtain ⟨y548, e, hF549⟩ := bindS hF543; clear hF543
      obtain ⟨y548_0, y548_1, y548_2, y548_3⟩ := y548
      have ey548 := e; clear e
      refine callFx (impl_seqGraphs_c a530_0 a530_1 h533 a530_2 h534 a530_3 h535 a542_0 a542_1 h545 a542_2 h546 a542_3 h547 y548_0 y548_1 y548_2 y548_3 ey548) H ⟨Vw.part (β := List (Int × Int × List Int × List Int)) (Vw.eh (α := Int × (List (Int × Int × List Int × List Int)) × List Int × List Int) (k := ⟨m529, (a530_0, a530_1, a530_2, a530_3), ((), h533, h534, h535)⟩) 0 rfl 1 rfl) a530_1 (h533 : Hd) (fun S h => (And.left (And.right h))), Vw.part (β := List Int) (Vw.eh (α := Int × (List (Int × Int × List Int × List Int)) × List Int × List Int) (k := ⟨m529, (a530_0, a530_1, a530_2, a530_3), ((), h533, h534, h535)⟩) 0 rfl 1 rfl) a530_2 (h534 : Hd) (fun S h => (And.left (And.right (And.right h)))), Vw.part (β := List Int) (Vw.eh (α := Int × (List (Int × Int × List Int × List Int)) × List Int × List Int) (k := ⟨m529, (a530_0, a530_1, a530_2, a530_3), ((), h533, h534, h535)⟩) 0 rfl 1 rfl) a530_3 (h535 : Hd) (fun S h => (And.right (And.right (And.right h)))), Vw.part (β := List (Int × Int × List Int × List Int)) (Vw.eh (α := Int × (List (Int × Int × List Int × List Int)) × List Int × List Int) (k := ⟨m541, (a542_0, a542_1, a542_2, a542_3), ((), h545, h546, h547)⟩) 0 rfl 0 rfl) a542_1 (h545 : Hd) (fun S h => (And.left (And.right h))), Vw.part (β := List Int) (Vw.eh (α := Int × (List (Int × Int × List Int × List Int)) × List Int × List Int) (k := ⟨m541, (a542_0, a542_1, a542_2, a542_3), ((), h545, h546, h547)⟩) 0 rfl 0 rfl) a542_2 (h546 : Hd) (fun S h => (And.left (And.right (And.right h)))), Vw.part (β := List Int) (Vw.eh (α := Int × (List (Int × Int × List Int × List Int)) × List Int × List Int) (k := ⟨m541, (a542_0, a542_1, a542_2, a542_3), ((), h545, h546, h547)⟩) 0 rfl 0 rfl) a542_3 (h547 : Hd) (fun S h => (And.right (And.right (And.right h)))), trivial⟩ ?_; clear H ey548
      rintro _ _ w550 ⟨h551, h553, h555, rfl, rfl⟩ hx (H : Cx w0 fp0 S0 w550 [E (List (Int × Int × List Int × List Int)) y548_1 h551, E (List Int) y548_2 h553, E (List Int) y548_3 h555, EH (Int × (List (Int × Int × List Int × List Int)) × List Int × List Int) s383 g384 [⟨m541, (a542_0, a542_1, a542_2, a542_3), ((), h545, h546, h547)⟩, ⟨m529, (a530_0, a530_1, a530_2, a530_3), ((), h533, h534, h535)⟩], Bx b410 [(.int .i64 0), (.slice none 0 0), (.slice none 0 0), (.slice none 0 0)], Bx b404 [(.int .i64 a399_0), (.int .i64 a399_1), (.string a399_2)], Bx b6 [(.int .i64 0), (.slice none 0 0), (.slice none 0 0), (.slice none 0 0)], Es (List (Int × Int × ByteArray)) t__0 t__0h])
      replace hX := hX.trans0 hx; clear hx
      refine hold hX ?_
      replace H := H.sel [4, 0, 1, 2, 3, 5, 6, 7] rfl
      refine stA gok [(.int .i64 y548_0), (h551).v, (h553).v, (h555).v] rfl H rfl rfl rfl ?_; clear H; intro w557 H
      replace H : Cx w0 fp0 S0 w557 [Bx b410 [(.int .i64 y548_0), (h551).v, (h553).v, (h555).v], E (List (Int × Int × List Int × List Int)) y548_1 h551, E (List Int) y548_2 h553, E (List Int) y548_3 h555, EH (Int × (List (Int × Int × List Int × List Int)) × List Int × List Int) s383 g384 [⟨m541, (a542_0, a542_1, a542_2, a542_3), ((), h545, h546, h547)⟩, ⟨m529, (a530_0, a530_1, a530_2, a530_3), ((), h533, h534, h535)⟩], Bx b404 [(.int .i64 a399_0), (.int .i64 a399_1), (.string a399_2)], Bx b6 [(.int .i64 0), (.slice none 0 0), (.slice none 0 0), (.slice none 0 0)], Es (List (Int × Int × ByteArray)) t__0 t__0h] := H
      refine hold trivial ?_
      replace H := H.sel [4, 0, 1, 2, 3, 5, 6, 7] rfl
      replace H := H.ofEH
      obtain ⟨a558, e, hF559⟩ := bindS hF549; clear hF549
      refine arO e ?_; clear e
      obtain ⟨a560, e, hF561⟩ := bindS hF559; clear hF559
      refine slO (α := Int × (List (Int × Int × List Int × List Int)) × List Int × List Int) gok rfl rfl H e rfl rfl ?_; clear e H; intro h562 H
      refine sq ?_
      refine loadN [(.int .i64 y548_0), (h551).v, (h553).v, (h555).v] rfl (fun j u hj => H.bx 1 rfl hj) ?_
      obtain ⟨y564, e, hF565⟩ := bindS hF561; clear hF561
      have ey564 := e; clear e
      refine callF (impl_Graph_isGraph_c y548_0 y548_1 h551 y548_2 h553 y548_3 h555 y564 ey564) (Γi := []) H ⟨Vw.own 2 rfl, Vw.own 3 rfl, Vw.own 4 rfl, trivial⟩ ?_; clear H ey564
      rintro _ _ w566 ⟨rfl, rfl⟩ (H : Cx w0 fp0 S0 w566 [E (List (Int × (List (Int × Int × List Int × List Int)) × List Int × List Int)) a560 h562, Bx b410 [(.int .i64 y548_0), (h551).v, (h553).v, (h555).v], E (List (Int × Int × List Int × List Int)) y548_1 h551, E (List Int) y548_2 h553, E (List Int) y548_3 h555, Bx b404 [(.int .i64 a399_0), (.int .i64 a399_1), (.string a399_2)], Bx b6 [(.int .i64 0), (.slice none 0 0), (.slice none 0 0), (.slice none 0 0)], Es (List (Int × Int × ByteArray)) t__0 t__0h])
      obtain ⟨a567, e, hF568⟩ := bindS hF565; clear hF565
      refine boolO e ?_; clear e
      cases a567
      · have hF569 := condF hF568; clear hF568
        refine loadN [(.int .i64 y548_0), (h551).v, (h553).v, (h555).v] rfl (fun j u hj => H.bx 1 rfl hj) ?_
        replace H := H.sel [2, 3, 4, 0, 1, 5, 6, 7] rfl
        replace H := H.sel [1, 2, 0, 3, 4, 5, 6, 7] rfl
        replace H := H.join (α := List Int) (β := List Int)
        replace H := H.sel [1, 0, 2, 3, 4, 5, 6] rfl
        replace H := H.join (α := List (Int × Int × List Int × List Int)) (β := List Int × List Int)
        replace H := H.sc (α := Int) y548_0
        replace H := H.join (α := Int) (β := (List (Int × Int × List Int × List Int)) × List Int × List Int)
        refine lit1 (α := Int × (List (Int × Int × List Int × List Int)) × List Int × List Int) (g := ((), h551, h553, h555)) gok rfl rfl rfl rfl rfl H ?_; clear H; intro h571 w570 hx H
        clear hx
        obtain ⟨a577, e, hF578⟩ := bindS hF569; clear hF569
        replace H := H.sel [1, 0, 2, 3, 4, 5] rfl
        refine append_ (α := Int × (List (Int × Int × List Int × List Int)) × List Int × List Int) gok rfl rfl rfl rfl H e ?_; clear e H; intro h580 w579 H
        refine arK hk hmx386 ?_
        have hs := Option.some.inj hF578; subst hs; clear hF578
        exact ⟨a577, h580, rfl, ⟨rfl, rfl, rfl, rfl, rfl, trivial⟩, H.sel [3, 0, 4] rfl⟩
      · have hF582 := condT hF568; clear hF568
        refine build_ (cs := #[(.int .i64 0), (.slice none 0 0), (.slice none 0 0), (.slice none 0 0)]) gok rfl rfl rfl ?_
        replace H := H.sel [6, 0, 1, 2, 3, 4, 5, 7] rfl
        refine stA gok [(.int .i64 0), (.slice none 0 0), (.slice none 0 0), (.slice none 0 0)] rfl H rfl rfl rfl ?_; clear H; intro w583 H
        replace H : Cx w0 fp0 S0 w583 [Bx b6 [(.int .i64 0), (.slice none 0 0), (.slice none 0 0), (.slice none 0 0)], E (List (Int × (List (Int × Int × List Int × List Int)) × List Int × List Int)) a560 h562, Bx b410 [(.int .i64 y548_0), (h551).v, (h553).v, (h555).v], E (List (Int × Int × List Int × List Int)) y548_1 h551, E (List Int) y548_2 h553, E (List Int) y548_3 h555, Bx b404 [(.int .i64 a399_0), (.int .i64 a399_1), (.string a399_2)], Es (List (Int × Int × ByteArray)) t__0 t__0h] := H
        have hs := Option.some.inj hF582; subst hs; clear hF582
        have hr := hrt _ rfl; subst hr
        have hF584 : some _ = some _ := hF388
        refine loadN [(.int .i64 0), (.slice none 0 0), (.slice none 0 0), (.slice none 0 0)] rfl (fun j u hj => H.bx 0 rfl hj) ?_
        replace H := H.nil (α := Int × Int × List Int × List Int)
        replace H := H.nil (α := Int)
        replace H := H.nil (α := Int)
        cases hF584
        exact ⟨_, _, rfl, ⟨nilH, nilH, nilH, rfl, rfl⟩, (H.sel [2, 1, 0] rfl).close ⟨cloE, cloE, cloE, trivial⟩⟩
  · clear H e
    rintro T589 s590 g591 w588 hr (H : Cx w0 fp0 S0 w588 [Bx b6 [(.int .i64 0), (.slice none 0 0), (.slice none 0 0), (.slice none 0 0)], E (List (Int × (List (Int × Int × List Int × List Int)) × List Int × List Int)) s590 g591, Es (List (Int × Int × ByteArray)) t__0 t__0h])
    subst hr
    refine boolE (z := false) geLen ?_
    refine sq ?_
    obtain ⟨a599, e, hF600⟩ := bindS hF388; clear hF388
    replace H := H.sel [1, 0, 2] rfl
    replace H := H.toEH (α := Int × (List (Int × Int × List Int × List Int)) × List Int × List Int)
    have HH := H; clear H; obtain ⟨p597, m598, g601, c593, c594, c595, c596, H⟩ := HH.peek e; clear HH
    clear e
    obtain ⟨a599_0, a599_1, a599_2, a599_3⟩ := a599
    obtain ⟨_, h602, h603, h604⟩ := g601
    refine idxE c593 c594 c595 ?_
    replace H := H.takeK 0 rfl
    replace H := H.sel [0, 2, 3] rfl
    replace H := H.split
    replace H := H.sel [1, 2, 3] rfl
    replace H := H.split
    replace H := H.sel [1, 0, 2, 3] rfl
    replace H := H.split
    refine loadN [(.int .i64 a599_0), (h602).v, (h603).v, (h604).v] rfl c596 ?_; clear c596
    replace H := H.sel [3, 0, 1, 2, 4] rfl
    refine stA gok [(.int .i64 a599_0), (h602).v, (h603).v, (h604).v] rfl H rfl rfl rfl ?_; clear H; intro w612 H
    replace H : Cx w0 fp0 S0 w612 [Bx b6 [(.int .i64 a599_0), (h602).v, (h603).v, (h604).v], E (List Int) a599_2 h603, E (List Int) a599_3 h604, E (List (Int × Int × List Int × List Int)) a599_1 h602, Es (List (Int × Int × ByteArray)) t__0 t__0h] := H
    refine loadN [(.int .i64 a599_0), (h602).v, (h603).v, (h604).v] rfl (fun j u hj => H.bx 0 rfl hj) ?_
    cases hF600
    exact ⟨_, _, rfl, ⟨h602, h603, h604, rfl, rfl⟩, (H.sel [3, 1, 2] rfl).close ⟨cloE, cloE, cloE, trivial⟩⟩

theorem impl_GraphOf_c (t__0 : List (Int × Int × ByteArray)) (t__0h : Hd) (y0_0 : Int) (y0_1 : List (Int × Int × List Int × List Int)) (y0_2 : List Int) (y0_3 : List Int) (y1 : Bool) (hF : F_impl_GraphOf t__0 = some ((y0_0, y0_1, y0_2, y0_3), y1)) :
    ConF Try.prog 36 #[(.agg #[(t__0h).v])] [Es (List (Int × Int × ByteArray)) t__0 t__0h] [] (fun v Γ' => ∃ z0 z1 z2 : Hd, v = (.tuple #[(.agg #[(.int .i64 y0_0), (z0).v, (z1).v, (z2).v]), (.bool y1)]) ∧ Γ' = [E (List (Int × Int × List Int × List Int)) y0_1 z0, E (List Int) y0_2 z1, E (List Int) y0_3 z2]) := by
  intro w0 S0 fp0 hI hS
  have H : Cx w0 fp0 S0 w0 [Es (List (Int × Int × ByteArray)) t__0 t__0h] := Cx.start hI hS
  clear hI hS
  refine enterC (args := [_]) gok Try.func36 rfl _ rfl rfl rfl ?_
  refine box_ H ?_; clear H; intro b3 w2 hx H
  clear hx
  replace H : Cx w0 fp0 S0 w2 [Bx b3 [(t__0h).v], Es (List (Int × Int × ByteArray)) t__0 t__0h] := H
  refine alloc_ gok rfl H ?_; clear H; intro b6 w5 hx H
  clear hx
  replace H : Cx w0 fp0 S0 w5 [Bx b6 [(.int .i64 0), (.slice none 0 0), (.slice none 0 0), (.slice none 0 0)], Bx b3 [(t__0h).v], Es (List (Int × Int × ByteArray)) t__0 t__0h] := H
  refine sq ?_
  refine loadN [(t__0h).v] rfl (fun j u hj => H.bx 1 rfl hj) ?_
  obtain ⟨y8, e, hF9⟩ := bindS hF; clear hF
  have ey8 := e; clear e
  refine callF (impl_Term_isValid_c t__0 t__0h y8 ey8) (Γi := []) H ⟨Vw.sh 2 rfl, trivial⟩ ?_; clear H ey8
  rintro _ _ w10 ⟨rfl, rfl⟩ (H : Cx w0 fp0 S0 w10 [Bx b6 [(.int .i64 0), (.slice none 0 0), (.slice none 0 0), (.slice none 0 0)], Bx b3 [(t__0h).v], Es (List (Int × Int × ByteArray)) t__0 t__0h])
  obtain ⟨a11, e, hF12⟩ := bindS hF9; clear hF9
  refine boolO e ?_; clear e
  cases a11
  · have hF13 := condF hF12; clear hF12
    refine loadN [(t__0h).v] rfl (fun j u hj => H.bx 1 rfl hj) ?_
    obtain ⟨y14, e, hF15⟩ := bindS hF13; clear hF13
    obtain ⟨⟨y14_0_0, y14_0_1, y14_0_2, y14_0_3⟩, y14_1⟩ := y14
    have ey14 := e; clear e
    refine callF (impl_graphOf_c t__0 t__0h y14_0_0 y14_0_1 y14_0_2 y14_0_3 y14_1 ey14) (Γi := []) H ⟨Vw.sh 2 rfl, trivial⟩ ?_; clear H ey14
    rintro _ _ w16 ⟨h17, h19, h21, rfl, rfl⟩ (H : Cx w0 fp0 S0 w16 [E (List (Int × Int × List Int × List Int)) y14_0_1 h17, E (List Int) y14_0_2 h19, E (List Int) y14_0_3 h21, Bx b6 [(.int .i64 0), (.slice none 0 0), (.slice none 0 0), (.slice none 0 0)], Bx b3 [(t__0h).v], Es (List (Int × Int × ByteArray)) t__0 t__0h])
    replace H := H.sel [3, 0, 1, 2, 4, 5] rfl
    refine stA gok [(.int .i64 y14_0_0), (h17).v, (h19).v, (h21).v] rfl H rfl rfl rfl ?_; clear H; intro w23 H
    replace H : Cx w0 fp0 S0 w23 [Bx b6 [(.int .i64 y14_0_0), (h17).v, (h19).v, (h21).v], E (List (Int × Int × List Int × List Int)) y14_0_1 h17, E (List Int) y14_0_2 h19, E (List Int) y14_0_3 h21, Bx b3 [(t__0h).v], Es (List (Int × Int × ByteArray)) t__0 t__0h] := H
    refine loadN [(.int .i64 y14_0_0), (h17).v, (h19).v, (h21).v] rfl (fun j u hj => H.bx 0 rfl hj) ?_
    cases hF15
    exact ⟨_, _, rfl, ⟨h17, h19, h21, rfl, rfl⟩, (H.sel [1, 2, 3] rfl).close ⟨cloE, cloE, cloE, trivial⟩⟩
  · have hF24 := condT hF12; clear hF12
    refine build_ (cs := #[(.int .i64 0), (.slice none 0 0), (.slice none 0 0), (.slice none 0 0)]) gok rfl rfl rfl ?_
    refine stA gok [(.int .i64 0), (.slice none 0 0), (.slice none 0 0), (.slice none 0 0)] rfl H rfl rfl rfl ?_; clear H; intro w25 H
    replace H : Cx w0 fp0 S0 w25 [Bx b6 [(.int .i64 0), (.slice none 0 0), (.slice none 0 0), (.slice none 0 0)], Bx b3 [(t__0h).v], Es (List (Int × Int × ByteArray)) t__0 t__0h] := H
    refine loadN [(.int .i64 0), (.slice none 0 0), (.slice none 0 0), (.slice none 0 0)] rfl (fun j u hj => H.bx 0 rfl hj) ?_
    replace H := H.nil (α := Int × Int × List Int × List Int)
    replace H := H.nil (α := Int)
    replace H := H.nil (α := Int)
    cases hF24
    exact ⟨_, _, rfl, ⟨nilH, nilH, nilH, rfl, rfl⟩, (H.sel [2, 1, 0] rfl).close ⟨cloE, cloE, cloE, trivial⟩⟩

theorem laws_eqIntS_c (a_ : List Int) (a_h : Hd) (b_ : List Int) (b_h : Hd) (y : Bool) (hF : F_laws_eqIntS a_ b_ = some y) :
    ConF Try.prog 20 #[(a_h).v, (b_h).v] [Es (List Int) a_ a_h, Es (List Int) b_ b_h] [] (fun v Γ' => v = (.bool y) ∧ Γ' = []) := by
  intro w0 S0 fp0 hI hS
  have H : Cx w0 fp0 S0 w0 [Es (List Int) a_ a_h, Es (List Int) b_ b_h] := Cx.start hI hS
  clear hI hS
  refine enterC (args := [_, _]) gok Try.func20 rfl _ rfl rfl rfl ?_
  refine sq ?_
  refine lenE (H.rs (α := List Int) 0 rfl).len ?_
  refine lenE (H.rs (α := List Int) 1 rfl).len ?_
  obtain ⟨a3, e, hF4⟩ := bindS hF; clear hF
  refine boolO e ?_; clear e
  cases a3
  · have hF5 := condF hF4; clear hF4
    obtain ⟨r104, hF106, hF105⟩ := bindS hF5; clear hF5
    refine cut (fun (q107 : Unit) => []) (fun (q107 : Unit) w' => .inl () = r104 ∧ Cx w0 fp0 S0 w' []) ?_ ?_
    · skip
      refine loopW _ (fun (s166 : Int) (_ : Unit) => [(0, (a_h).v), (1, (b_h).v), (5, (.int .i64 s166))]) (fun (s166 : Int) (_ : Unit) w' => Cx w0 fp0 S0 w' [Es (List Int) a_ a_h, Es (List Int) b_ b_h]) 0 () hF106 ⟨rfl, rfl, rfl, trivial⟩ (H.sel [0, 1] rfl) ?_
      · clear H
        rintro T172 s166 _ w171 o173 (H : Cx w0 fp0 S0 w171 [Es (List Int) a_ a_h, Es (List Int) b_ b_h]) hrt hF174
        refine sq ?_
        refine lenE (H.rs (α := List Int) 0 rfl).len ?_
        obtain ⟨a175, e, hF176⟩ := bindS hF174; clear hF174
        refine boolO e ?_; clear e
        cases a175
        · have hF177 := condF hF176; clear hF176
          have hs := Option.some.inj hF177; subst hs; clear hF177
          have hF178 : some _ = some _ := congrArg some (hrt _ rfl).symm
          exact ⟨(), trivial, Option.some.inj hF178, H.sel [] rfl⟩
        · have hF179 := condT hF176; clear hF176
          refine sq ?_
          refine heldX H [] (.fst 0 (.fst 1 (.fst 2 (.fst 4 (.fst 5 (.fst 6 (.fst 3 (.fst 7 (.fst 8 .done))))))))) mixed [] trivial (by kernel_rfl) ?_
          clear H; intro w180 H
          have hX : Ext w180 w180 := Upd.refl _ _
          have H0 := H
          obtain ⟨a187, e, hF188⟩ := bindS hF179; clear hF179
          obtain ⟨p185, m186, c181, c182, c183, c184⟩ := (H.rs (α := List Int) 0 rfl).at1 e; clear e
          refine idxE c181 c182 c183 ?_; clear c181 c182 c183
          obtain ⟨a195, e, hF196⟩ := bindS hF188; clear hF188
          obtain ⟨p193, m194, c189, c190, c191, c192⟩ := (H.rs (α := List Int) 1 rfl).at1 e; clear e
          refine idxE c189 c190 c191 ?_; clear c189 c190 c191
          refine load1X c184 ?_; clear c184
          refine load1X c192 ?_; clear c192
          obtain ⟨a197, e, hF198⟩ := bindS hF196; clear hF196
          refine boolO e ?_; clear e
          cases a197
          · have hF199 := condF hF198; clear hF198
            obtain ⟨a200, e, hF201⟩ := bindS hF199; clear hF199
            refine arO e ?_; clear e
            have hs := Option.some.inj hF201; subst hs; clear hF201
            exact ⟨a200, (), rfl, ⟨rfl, rfl, rfl, trivial⟩, H.sel [0, 1] rfl⟩
          · have hF202 := condT hF198; clear hF198
            have hs := Option.some.inj hF202; subst hs; clear hF202
            have hF203 : some _ = some _ := congrArg some (hrt _ rfl).symm
            have hs := Option.some.inj hF203; subst hs; clear hF203
            have hF204 : some _ = some _ := hF105; clear hF105
            cases hF204
            exact ⟨_, _, rfl, ⟨rfl, rfl⟩, (H.sel [] rfl).close trivial⟩
    · clear hF106 H
      rintro T206 _ w205 ⟨hr, (H : Cx w0 fp0 S0 w205 [])⟩
      subst hr
      cases hF105
      exact ⟨_, _, rfl, ⟨rfl, rfl⟩, (H.sel [] rfl).close trivial⟩
  · have hF207 := condT hF4; clear hF4
    cases hF207
    exact ⟨_, _, rfl, ⟨rfl, rfl⟩, (H.sel [] rfl).close trivial⟩

theorem laws_eqEdge_c (a__0 : Int) (a__1 : Int) (a__2 : List Int) (a__2h : Hd) (a__3 : List Int) (a__3h : Hd) (b__0 : Int) (b__1 : Int) (b__2 : List Int) (b__2h : Hd) (b__3 : List Int) (b__3h : Hd) (y : Bool) (hF : F_laws_eqEdge (a__0, a__1, a__2, a__3) (b__0, b__1, b__2, b__3) = some y) :
    ConF Try.prog 86 #[(.agg #[(.int .i64 a__0), (.int .i64 a__1), (a__2h).v, (a__3h).v]), (.agg #[(.int .i64 b__0), (.int .i64 b__1), (b__2h).v, (b__3h).v])] [Es (List Int) a__2 a__2h, Es (List Int) a__3 a__3h, Es (List Int) b__2 b__2h, Es (List Int) b__3 b__3h] [] (fun v Γ' => v = (.bool y) ∧ Γ' = []) := by
  intro w0 S0 fp0 hI hS
  have H : Cx w0 fp0 S0 w0 [Es (List Int) a__2 a__2h, Es (List Int) a__3 a__3h, Es (List Int) b__2 b__2h, Es (List Int) b__3 b__3h] := Cx.start hI hS
  clear hI hS
  refine enterC (args := [_, _]) gok Try.func86 rfl _ rfl rfl rfl ?_
  refine box_ H ?_; clear H; intro b6 w5 hx H
  clear hx
  replace H : Cx w0 fp0 S0 w5 [Bx b6 [(.int .i64 a__0), (.int .i64 a__1), (a__2h).v, (a__3h).v], Es (List Int) a__2 a__2h, Es (List Int) a__3 a__3h, Es (List Int) b__2 b__2h, Es (List Int) b__3 b__3h] := H
  refine box_ H ?_; clear H; intro b9 w8 hx H
  clear hx
  replace H : Cx w0 fp0 S0 w8 [Bx b9 [(.int .i64 b__0), (.int .i64 b__1), (b__2h).v, (b__3h).v], Bx b6 [(.int .i64 a__0), (.int .i64 a__1), (a__2h).v, (a__3h).v], Es (List Int) a__2 a__2h, Es (List Int) a__3 a__3h, Es (List Int) b__2 b__2h, Es (List Int) b__3 b__3h] := H
  refine sq ?_
  refine fld gok rfl rfl rfl rfl ?_
  refine load1 (H.bx 1 rfl (j := 0) rfl) ?_
  refine fld gok rfl rfl rfl rfl ?_
  refine load1 (H.bx 0 rfl (j := 0) rfl) ?_
  obtain ⟨a11, e, hF12⟩ := bindS hF; clear hF
  refine boolO e ?_; clear e
  cases a11
  · have hF13 := condF hF12; clear hF12
    refine sq ?_
    refine fld gok rfl rfl rfl rfl ?_
    refine load1 (H.bx 1 rfl (j := 1) rfl) ?_
    refine fld gok rfl rfl rfl rfl ?_
    refine load1 (H.bx 0 rfl (j := 1) rfl) ?_
    obtain ⟨a14, e, hF15⟩ := bindS hF13; clear hF13
    refine boolO e ?_; clear e
    cases a14
    · have hF16 := condF hF15; clear hF15
      refine sq ?_
      refine fld gok rfl rfl rfl rfl ?_
      refine load1 (H.bx 1 rfl (j := 2) rfl) ?_
      refine fld gok rfl rfl rfl rfl ?_
      refine load1 (H.bx 0 rfl (j := 2) rfl) ?_
      obtain ⟨y17, e, hF18⟩ := bindS hF16; clear hF16
      have ey17 := e; clear e
      refine callF (laws_eqIntS_c a__2 a__2h b__2 b__2h y17 ey17) (Γi := []) H ⟨Vw.sh 2 rfl, Vw.sh 4 rfl, trivial⟩ ?_; clear H ey17
      rintro _ _ w19 ⟨rfl, rfl⟩ (H : Cx w0 fp0 S0 w19 [Bx b9 [(.int .i64 b__0), (.int .i64 b__1), (b__2h).v, (b__3h).v], Bx b6 [(.int .i64 a__0), (.int .i64 a__1), (a__2h).v, (a__3h).v], Es (List Int) a__2 a__2h, Es (List Int) a__3 a__3h, Es (List Int) b__2 b__2h, Es (List Int) b__3 b__3h])
      obtain ⟨a20, e, hF21⟩ := bindS hF18; clear hF18
      refine boolO e ?_; clear e
      cases a20
      · have hF22 := condF hF21; clear hF21
        refine sq ?_
        refine fld gok rfl rfl rfl rfl ?_
        refine load1 (H.bx 1 rfl (j := 3) rfl) ?_
        refine fld gok rfl rfl rfl rfl ?_
        refine load1 (H.bx 0 rfl (j := 3) rfl) ?_
        obtain ⟨y23, e, hF24⟩ := bindS hF22; clear hF22
        have ey23 := e; clear e
        refine callF (laws_eqIntS_c a__3 a__3h b__3 b__3h y23 ey23) (Γi := []) H ⟨Vw.sh 3 rfl, Vw.sh 5 rfl, trivial⟩ ?_; clear H ey23
        rintro _ _ w25 ⟨rfl, rfl⟩ (H : Cx w0 fp0 S0 w25 [Bx b9 [(.int .i64 b__0), (.int .i64 b__1), (b__2h).v, (b__3h).v], Bx b6 [(.int .i64 a__0), (.int .i64 a__1), (a__2h).v, (a__3h).v], Es (List Int) a__2 a__2h, Es (List Int) a__3 a__3h, Es (List Int) b__2 b__2h, Es (List Int) b__3 b__3h])
        obtain ⟨a26, e, hF27⟩ := bindS hF24; clear hF24
        refine boolO e ?_; clear e
        cases a26
        · have hF28 := condF hF27; clear hF27
          cases hF28
          exact ⟨_, _, rfl, ⟨rfl, rfl⟩, (H.sel [] rfl).close trivial⟩
        · have hF29 := condT hF27; clear hF27
          cases hF29
          exact ⟨_, _, rfl, ⟨rfl, rfl⟩, (H.sel [] rfl).close trivial⟩
      · have hF30 := condT hF21; clear hF21
        cases hF30
        exact ⟨_, _, rfl, ⟨rfl, rfl⟩, (H.sel [] rfl).close trivial⟩
    · have hF31 := condT hF15; clear hF15
      cases hF31
      exact ⟨_, _, rfl, ⟨rfl, rfl⟩, (H.sel [] rfl).close trivial⟩
  · have hF32 := condT hF12; clear hF12
    cases hF32
    exact ⟨_, _, rfl, ⟨rfl, rfl⟩, (H.sel [] rfl).close trivial⟩

theorem laws_eqEdgeS_c (a_ : List (Int × Int × List Int × List Int)) (a_h : Hd) (b_ : List (Int × Int × List Int × List Int)) (b_h : Hd) (y : Bool) (hF : F_laws_eqEdgeS a_ b_ = some y) :
    ConF Try.prog 47 #[(a_h).v, (b_h).v] [Es (List (Int × Int × List Int × List Int)) a_ a_h, Es (List (Int × Int × List Int × List Int)) b_ b_h] [] (fun v Γ' => v = (.bool y) ∧ Γ' = []) := by
  intro w0 S0 fp0 hI hS
  have H : Cx w0 fp0 S0 w0 [Es (List (Int × Int × List Int × List Int)) a_ a_h, Es (List (Int × Int × List Int × List Int)) b_ b_h] := Cx.start hI hS
  clear hI hS
  refine enterC (args := [_, _]) gok Try.func47 rfl _ rfl rfl rfl ?_
  refine sq ?_
  refine lenE (H.rs (α := List (Int × Int × List Int × List Int)) 0 rfl).len ?_
  refine lenE (H.rs (α := List (Int × Int × List Int × List Int)) 1 rfl).len ?_
  obtain ⟨a3, e, hF4⟩ := bindS hF; clear hF
  refine boolO e ?_; clear e
  cases a3
  · have hF5 := condF hF4; clear hF4
    obtain ⟨r149, hF151, hF150⟩ := bindS hF5; clear hF5
    refine cut (fun (q152 : Unit) => []) (fun (q152 : Unit) w' => .inl () = r149 ∧ Cx w0 fp0 S0 w' []) ?_ ?_
    · skip
      refine loopW _ (fun (s241 : Int) (_ : Unit) => [(0, (a_h).v), (1, (b_h).v), (5, (.int .i64 s241))]) (fun (s241 : Int) (_ : Unit) w' => Cx w0 fp0 S0 w' [Es (List (Int × Int × List Int × List Int)) a_ a_h, Es (List (Int × Int × List Int × List Int)) b_ b_h]) 0 () hF151 ⟨rfl, rfl, rfl, trivial⟩ (H.sel [0, 1] rfl) ?_
      · clear H
        rintro T247 s241 _ w246 o248 (H : Cx w0 fp0 S0 w246 [Es (List (Int × Int × List Int × List Int)) a_ a_h, Es (List (Int × Int × List Int × List Int)) b_ b_h]) hrt hF249
        refine sq ?_
        refine lenE (H.rs (α := List (Int × Int × List Int × List Int)) 0 rfl).len ?_
        obtain ⟨a250, e, hF251⟩ := bindS hF249; clear hF249
        refine boolO e ?_; clear e
        cases a250
        · have hF252 := condF hF251; clear hF251
          have hs := Option.some.inj hF252; subst hs; clear hF252
          have hF253 : some _ = some _ := congrArg some (hrt _ rfl).symm
          exact ⟨(), trivial, Option.some.inj hF253, H.sel [] rfl⟩
        · have hF254 := condT hF251; clear hF251
          refine sq ?_
          refine heldX H [] (.fst 0 (.fst 1 (.fst 2 (.fst 4 (.fst 5 (.fst 6 (.fst 3 (.fst 7 (.act 8 (.fst 9 .done)))))))))) mixed [] trivial (by kernel_rfl) ?_
          clear H; intro w255 H
          have hX : Ext w255 w255 := Upd.refl _ _
          have H0 := H
          obtain ⟨a262, e, hF263⟩ := bindS hF254; clear hF254
          have HH := H; clear H; obtain ⟨p260, m261, g264, c256, c257, c258, c259, H⟩ := HH.el (α := Int × Int × List Int × List Int) 0 rfl e; clear HH
          clear e
          obtain ⟨a262_0, a262_1, a262_2, a262_3⟩ := a262
          obtain ⟨_, _, h266, h267⟩ := g264
          replace H := H.part (β := List Int) a262_2 (h266 : Hd) 0 rfl (fun S h => (And.left (And.right (And.right h))))
          replace H := H.part (β := List Int) a262_3 (h267 : Hd) 1 rfl (fun S h => (And.right (And.right (And.right h))))
          replace H := H.sel [0, 1, 3, 4] rfl
          refine idxE c256 c257 c258 ?_; clear c256 c257 c258
          obtain ⟨a276, e, hF277⟩ := bindS hF263; clear hF263
          have HH := H; clear H; obtain ⟨p274, m275, g278, c270, c271, c272, c273, H⟩ := HH.el (α := Int × Int × List Int × List Int) 3 rfl e; clear HH
          clear e
          obtain ⟨a276_0, a276_1, a276_2, a276_3⟩ := a276
          obtain ⟨_, _, h280, h281⟩ := g278
          replace H := H.part (β := List Int) a276_2 (h280 : Hd) 0 rfl (fun S h => (And.left (And.right (And.right h))))
          replace H := H.part (β := List Int) a276_3 (h281 : Hd) 1 rfl (fun S h => (And.right (And.right (And.right h))))
          replace H := H.sel [0, 1, 3, 4, 5, 6] rfl
          refine idxE c270 c271 c272 ?_; clear c270 c271 c272
          refine loadNX [(.int .i64 a262_0), (.int .i64 a262_1), (h266).v, (h267).v] rfl c259 ?_; clear c259
          refine loadNX [(.int .i64 a276_0), (.int .i64 a276_1), (h280).v, (h281).v] rfl c273 ?_; clear c273
          obtain ⟨y284, e, hF285⟩ := bindS hF277; clear hF277
          have ey284 := e; clear e
          refine callFx (laws_eqEdge_c a262_0 a262_1 a262_2 h266 a262_3 h267 a276_0 a276_1 a276_2 h280 a276_3 h281 y284 ey284) H ⟨Vw.sh 3 rfl, Vw.sh 2 rfl, Vw.sh 1 rfl, Vw.sh 0 rfl, trivial⟩ ?_; clear H ey284
          rintro _ _ w286 ⟨rfl, rfl⟩ hx (H : Cx w0 fp0 S0 w286 [Es (List Int) a276_3 h281, Es (List Int) a276_2 h280, Es (List Int) a262_3 h267, Es (List Int) a262_2 h266, Es (List (Int × Int × List Int × List Int)) a_ a_h, Es (List (Int × Int × List Int × List Int)) b_ b_h])
          replace hX := hX.trans0 hx; clear hx
          refine hold hX ?_
          obtain ⟨a287, e, hF288⟩ := bindS hF285; clear hF285
          refine boolO e ?_; clear e
          cases a287
          · have hF289 := condF hF288; clear hF288
            obtain ⟨a290, e, hF291⟩ := bindS hF289; clear hF289
            refine arO e ?_; clear e
            have hs := Option.some.inj hF291; subst hs; clear hF291
            exact ⟨a290, (), rfl, ⟨rfl, rfl, rfl, trivial⟩, H.sel [4, 5] rfl⟩
          · have hF292 := condT hF288; clear hF288
            have hs := Option.some.inj hF292; subst hs; clear hF292
            have hF293 : some _ = some _ := congrArg some (hrt _ rfl).symm
            have hs := Option.some.inj hF293; subst hs; clear hF293
            have hF294 : some _ = some _ := hF150; clear hF150
            cases hF294
            exact ⟨_, _, rfl, ⟨rfl, rfl⟩, (H.sel [] rfl).close trivial⟩
    · clear hF151 H
      rintro T296 _ w295 ⟨hr, (H : Cx w0 fp0 S0 w295 [])⟩
      subst hr
      cases hF150
      exact ⟨_, _, rfl, ⟨rfl, rfl⟩, (H.sel [] rfl).close trivial⟩
  · have hF297 := condT hF4; clear hF4
    cases hF297
    exact ⟨_, _, rfl, ⟨rfl, rfl⟩, (H.sel [] rfl).close trivial⟩

theorem laws_eqGraph_c (a__0 : Int) (a__1 : List (Int × Int × List Int × List Int)) (a__1h : Hd) (a__2 : List Int) (a__2h : Hd) (a__3 : List Int) (a__3h : Hd) (b__0 : Int) (b__1 : List (Int × Int × List Int × List Int)) (b__1h : Hd) (b__2 : List Int) (b__2h : Hd) (b__3 : List Int) (b__3h : Hd) (y : Bool) (hF : F_laws_eqGraph (a__0, a__1, a__2, a__3) (b__0, b__1, b__2, b__3) = some y) :
    ConF Try.prog 14 #[(.agg #[(.int .i64 a__0), (a__1h).v, (a__2h).v, (a__3h).v]), (.agg #[(.int .i64 b__0), (b__1h).v, (b__2h).v, (b__3h).v])] [Es (List (Int × Int × List Int × List Int)) a__1 a__1h, Es (List Int) a__2 a__2h, Es (List Int) a__3 a__3h, Es (List (Int × Int × List Int × List Int)) b__1 b__1h, Es (List Int) b__2 b__2h, Es (List Int) b__3 b__3h] [] (fun v Γ' => v = (.bool y) ∧ Γ' = []) := by
  intro w0 S0 fp0 hI hS
  have H : Cx w0 fp0 S0 w0 [Es (List (Int × Int × List Int × List Int)) a__1 a__1h, Es (List Int) a__2 a__2h, Es (List Int) a__3 a__3h, Es (List (Int × Int × List Int × List Int)) b__1 b__1h, Es (List Int) b__2 b__2h, Es (List Int) b__3 b__3h] := Cx.start hI hS
  clear hI hS
  refine enterC (args := [_, _]) gok Try.func14 rfl _ rfl rfl rfl ?_
  refine box_ H ?_; clear H; intro b8 w7 hx H
  clear hx
  replace H : Cx w0 fp0 S0 w7 [Bx b8 [(.int .i64 a__0), (a__1h).v, (a__2h).v, (a__3h).v], Es (List (Int × Int × List Int × List Int)) a__1 a__1h, Es (List Int) a__2 a__2h, Es (List Int) a__3 a__3h, Es (List (Int × Int × List Int × List Int)) b__1 b__1h, Es (List Int) b__2 b__2h, Es (List Int) b__3 b__3h] := H
  refine box_ H ?_; clear H; intro b11 w10 hx H
  clear hx
  replace H : Cx w0 fp0 S0 w10 [Bx b11 [(.int .i64 b__0), (b__1h).v, (b__2h).v, (b__3h).v], Bx b8 [(.int .i64 a__0), (a__1h).v, (a__2h).v, (a__3h).v], Es (List (Int × Int × List Int × List Int)) a__1 a__1h, Es (List Int) a__2 a__2h, Es (List Int) a__3 a__3h, Es (List (Int × Int × List Int × List Int)) b__1 b__1h, Es (List Int) b__2 b__2h, Es (List Int) b__3 b__3h] := H
  refine sq ?_
  refine fld gok rfl rfl rfl rfl ?_
  refine load1 (H.bx 1 rfl (j := 0) rfl) ?_
  refine fld gok rfl rfl rfl rfl ?_
  refine load1 (H.bx 0 rfl (j := 0) rfl) ?_
  obtain ⟨a13, e, hF14⟩ := bindS hF; clear hF
  refine boolO e ?_; clear e
  cases a13
  · have hF15 := condF hF14; clear hF14
    refine sq ?_
    refine fld gok rfl rfl rfl rfl ?_
    refine load1 (H.bx 1 rfl (j := 1) rfl) ?_
    refine fld gok rfl rfl rfl rfl ?_
    refine load1 (H.bx 0 rfl (j := 1) rfl) ?_
    obtain ⟨y16, e, hF17⟩ := bindS hF15; clear hF15
    have ey16 := e; clear e
    refine callF (laws_eqEdgeS_c a__1 a__1h b__1 b__1h y16 ey16) (Γi := []) H ⟨Vw.sh 2 rfl, Vw.sh 5 rfl, trivial⟩ ?_; clear H ey16
    rintro _ _ w18 ⟨rfl, rfl⟩ (H : Cx w0 fp0 S0 w18 [Bx b11 [(.int .i64 b__0), (b__1h).v, (b__2h).v, (b__3h).v], Bx b8 [(.int .i64 a__0), (a__1h).v, (a__2h).v, (a__3h).v], Es (List (Int × Int × List Int × List Int)) a__1 a__1h, Es (List Int) a__2 a__2h, Es (List Int) a__3 a__3h, Es (List (Int × Int × List Int × List Int)) b__1 b__1h, Es (List Int) b__2 b__2h, Es (List Int) b__3 b__3h])
    obtain ⟨a19, e, hF20⟩ := bindS hF17; clear hF17
    refine boolO e ?_; clear e
    cases a19
    · have hF21 := condF hF20; clear hF20
      refine sq ?_
      refine fld gok rfl rfl rfl rfl ?_
      refine load1 (H.bx 1 rfl (j := 2) rfl) ?_
      refine fld gok rfl rfl rfl rfl ?_
      refine load1 (H.bx 0 rfl (j := 2) rfl) ?_
      obtain ⟨y22, e, hF23⟩ := bindS hF21; clear hF21
      have ey22 := e; clear e
      refine callF (laws_eqIntS_c a__2 a__2h b__2 b__2h y22 ey22) (Γi := []) H ⟨Vw.sh 3 rfl, Vw.sh 6 rfl, trivial⟩ ?_; clear H ey22
      rintro _ _ w24 ⟨rfl, rfl⟩ (H : Cx w0 fp0 S0 w24 [Bx b11 [(.int .i64 b__0), (b__1h).v, (b__2h).v, (b__3h).v], Bx b8 [(.int .i64 a__0), (a__1h).v, (a__2h).v, (a__3h).v], Es (List (Int × Int × List Int × List Int)) a__1 a__1h, Es (List Int) a__2 a__2h, Es (List Int) a__3 a__3h, Es (List (Int × Int × List Int × List Int)) b__1 b__1h, Es (List Int) b__2 b__2h, Es (List Int) b__3 b__3h])
      obtain ⟨a25, e, hF26⟩ := bindS hF23; clear hF23
      refine boolO e ?_; clear e
      cases a25
      · have hF27 := condF hF26; clear hF26
        refine sq ?_
        refine fld gok rfl rfl rfl rfl ?_
        refine load1 (H.bx 1 rfl (j := 3) rfl) ?_
        refine fld gok rfl rfl rfl rfl ?_
        refine load1 (H.bx 0 rfl (j := 3) rfl) ?_
        obtain ⟨y28, e, hF29⟩ := bindS hF27; clear hF27
        have ey28 := e; clear e
        refine callF (laws_eqIntS_c a__3 a__3h b__3 b__3h y28 ey28) (Γi := []) H ⟨Vw.sh 4 rfl, Vw.sh 7 rfl, trivial⟩ ?_; clear H ey28
        rintro _ _ w30 ⟨rfl, rfl⟩ (H : Cx w0 fp0 S0 w30 [Bx b11 [(.int .i64 b__0), (b__1h).v, (b__2h).v, (b__3h).v], Bx b8 [(.int .i64 a__0), (a__1h).v, (a__2h).v, (a__3h).v], Es (List (Int × Int × List Int × List Int)) a__1 a__1h, Es (List Int) a__2 a__2h, Es (List Int) a__3 a__3h, Es (List (Int × Int × List Int × List Int)) b__1 b__1h, Es (List Int) b__2 b__2h, Es (List Int) b__3 b__3h])
        obtain ⟨a31, e, hF32⟩ := bindS hF29; clear hF29
        refine boolO e ?_; clear e
        cases a31
        · have hF33 := condF hF32; clear hF32
          cases hF33
          exact ⟨_, _, rfl, ⟨rfl, rfl⟩, (H.sel [] rfl).close trivial⟩
        · have hF34 := condT hF32; clear hF32
          cases hF34
          exact ⟨_, _, rfl, ⟨rfl, rfl⟩, (H.sel [] rfl).close trivial⟩
      · have hF35 := condT hF26; clear hF26
        cases hF35
        exact ⟨_, _, rfl, ⟨rfl, rfl⟩, (H.sel [] rfl).close trivial⟩
    · have hF36 := condT hF20; clear hF20
      cases hF36
      exact ⟨_, _, rfl, ⟨rfl, rfl⟩, (H.sel [] rfl).close trivial⟩
  · have hF37 := condT hF14; clear hF14
    cases hF37
    exact ⟨_, _, rfl, ⟨rfl, rfl⟩, (H.sel [] rfl).close trivial⟩

theorem laws_eqNode_c (a__0 : Int) (a__1 : Int) (a__2 : ByteArray) (b__0 : Int) (b__1 : Int) (b__2 : ByteArray) (y : Bool) (hF : F_laws_eqNode (a__0, a__1, a__2) (b__0, b__1, b__2) = some y) :
    ConF Try.prog 116 #[(.agg #[(.int .i64 a__0), (.int .i64 a__1), (.string a__2)]), (.agg #[(.int .i64 b__0), (.int .i64 b__1), (.string b__2)])] [] [] (fun v Γ' => v = (.bool y) ∧ Γ' = []) := by
  intro w0 S0 fp0 hI hS
  have H : Cx w0 fp0 S0 w0 [] := Cx.start hI hS
  clear hI hS
  refine enterC (args := [_, _]) gok Try.func116 rfl _ rfl rfl rfl ?_
  refine box_ H ?_; clear H; intro b2 w1 hx H
  clear hx
  replace H : Cx w0 fp0 S0 w1 [Bx b2 [(.int .i64 a__0), (.int .i64 a__1), (.string a__2)]] := H
  refine box_ H ?_; clear H; intro b5 w4 hx H
  clear hx
  replace H : Cx w0 fp0 S0 w4 [Bx b5 [(.int .i64 b__0), (.int .i64 b__1), (.string b__2)], Bx b2 [(.int .i64 a__0), (.int .i64 a__1), (.string a__2)]] := H
  refine sq ?_
  refine fld gok rfl rfl rfl rfl ?_
  refine load1 (H.bx 1 rfl (j := 0) rfl) ?_
  refine fld gok rfl rfl rfl rfl ?_
  refine load1 (H.bx 0 rfl (j := 0) rfl) ?_
  obtain ⟨a7, e, hF8⟩ := bindS hF; clear hF
  refine boolO e ?_; clear e
  cases a7
  · have hF9 := condF hF8; clear hF8
    refine sq ?_
    refine fld gok rfl rfl rfl rfl ?_
    refine load1 (H.bx 1 rfl (j := 1) rfl) ?_
    refine fld gok rfl rfl rfl rfl ?_
    refine load1 (H.bx 0 rfl (j := 1) rfl) ?_
    obtain ⟨a10, e, hF11⟩ := bindS hF9; clear hF9
    refine boolO e ?_; clear e
    cases a10
    · have hF12 := condF hF11; clear hF11
      refine sq ?_
      refine fld gok rfl rfl rfl rfl ?_
      refine load1 (H.bx 1 rfl (j := 2) rfl) ?_
      refine fld gok rfl rfl rfl rfl ?_
      refine load1 (H.bx 0 rfl (j := 2) rfl) ?_
      obtain ⟨a13, e, hF14⟩ := bindS hF12; clear hF12
      refine neqZ e ?_; clear e
      cases a13
      · have hF15 := condF hF14; clear hF14
        cases hF15
        exact ⟨_, _, rfl, ⟨rfl, rfl⟩, (H.sel [] rfl).close trivial⟩
      · have hF16 := condT hF14; clear hF14
        cases hF16
        exact ⟨_, _, rfl, ⟨rfl, rfl⟩, (H.sel [] rfl).close trivial⟩
    · have hF17 := condT hF11; clear hF11
      cases hF17
      exact ⟨_, _, rfl, ⟨rfl, rfl⟩, (H.sel [] rfl).close trivial⟩
  · have hF18 := condT hF8; clear hF8
    cases hF18
    exact ⟨_, _, rfl, ⟨rfl, rfl⟩, (H.sel [] rfl).close trivial⟩

theorem laws_eqNodeS_c (a_ : List (Int × Int × ByteArray)) (a_h : Hd) (b_ : List (Int × Int × ByteArray)) (b_h : Hd) (y : Bool) (hF : F_laws_eqNodeS a_ b_ = some y) :
    ConF Try.prog 74 #[(a_h).v, (b_h).v] [Es (List (Int × Int × ByteArray)) a_ a_h, Es (List (Int × Int × ByteArray)) b_ b_h] [] (fun v Γ' => v = (.bool y) ∧ Γ' = []) := by
  intro w0 S0 fp0 hI hS
  have H : Cx w0 fp0 S0 w0 [Es (List (Int × Int × ByteArray)) a_ a_h, Es (List (Int × Int × ByteArray)) b_ b_h] := Cx.start hI hS
  clear hI hS
  refine enterC (args := [_, _]) gok Try.func74 rfl _ rfl rfl rfl ?_
  refine sq ?_
  refine lenE (H.rs (α := List (Int × Int × ByteArray)) 0 rfl).len ?_
  refine lenE (H.rs (α := List (Int × Int × ByteArray)) 1 rfl).len ?_
  obtain ⟨a3, e, hF4⟩ := bindS hF; clear hF
  refine boolO e ?_; clear e
  cases a3
  · have hF5 := condF hF4; clear hF4
    obtain ⟨r125, hF127, hF126⟩ := bindS hF5; clear hF5
    refine cut (fun (q128 : Unit) => []) (fun (q128 : Unit) w' => .inl () = r125 ∧ Cx w0 fp0 S0 w' []) ?_ ?_
    · skip
      refine loopW _ (fun (s201 : Int) (_ : Unit) => [(0, (a_h).v), (1, (b_h).v), (5, (.int .i64 s201))]) (fun (s201 : Int) (_ : Unit) w' => Cx w0 fp0 S0 w' [Es (List (Int × Int × ByteArray)) a_ a_h, Es (List (Int × Int × ByteArray)) b_ b_h]) 0 () hF127 ⟨rfl, rfl, rfl, trivial⟩ (H.sel [0, 1] rfl) ?_
      · clear H
        rintro T207 s201 _ w206 o208 (H : Cx w0 fp0 S0 w206 [Es (List (Int × Int × ByteArray)) a_ a_h, Es (List (Int × Int × ByteArray)) b_ b_h]) hrt hF209
        refine sq ?_
        refine lenE (H.rs (α := List (Int × Int × ByteArray)) 0 rfl).len ?_
        obtain ⟨a210, e, hF211⟩ := bindS hF209; clear hF209
        refine boolO e ?_; clear e
        cases a210
        · have hF212 := condF hF211; clear hF211
          have hs := Option.some.inj hF212; subst hs; clear hF212
          have hF213 : some _ = some _ := congrArg some (hrt _ rfl).symm
          exact ⟨(), trivial, Option.some.inj hF213, H.sel [] rfl⟩
        · have hF214 := condT hF211; clear hF211
          refine sq ?_
          refine heldX H [] (.fst 0 (.fst 1 (.fst 2 (.fst 4 (.fst 5 (.fst 6 (.fst 3 (.fst 7 (.act 8 (.fst 9 .done)))))))))) mixed [] trivial (by kernel_rfl) ?_
          clear H; intro w215 H
          have hX : Ext w215 w215 := Upd.refl _ _
          have H0 := H
          obtain ⟨a222, e, hF223⟩ := bindS hF214; clear hF214
          have HH := H; clear H; obtain ⟨p220, m221, g224, c216, c217, c218, c219, H⟩ := HH.el (α := Int × Int × ByteArray) 0 rfl e; clear HH
          clear e
          obtain ⟨a222_0, a222_1, a222_2⟩ := a222
          obtain ⟨_, _, _⟩ := g224
          replace H := H.sel [1, 2] rfl
          refine idxE c216 c217 c218 ?_; clear c216 c217 c218
          obtain ⟨a232, e, hF233⟩ := bindS hF223; clear hF223
          have HH := H; clear H; obtain ⟨p230, m231, g234, c226, c227, c228, c229, H⟩ := HH.el (α := Int × Int × ByteArray) 1 rfl e; clear HH
          clear e
          obtain ⟨a232_0, a232_1, a232_2⟩ := a232
          obtain ⟨_, _, _⟩ := g234
          replace H := H.sel [1, 2] rfl
          refine idxE c226 c227 c228 ?_; clear c226 c227 c228
          refine loadNX [(.int .i64 a222_0), (.int .i64 a222_1), (.string a222_2)] rfl c219 ?_; clear c219
          refine loadNX [(.int .i64 a232_0), (.int .i64 a232_1), (.string a232_2)] rfl c229 ?_; clear c229
          obtain ⟨y236, e, hF237⟩ := bindS hF233; clear hF233
          have ey236 := e; clear e
          refine callFx (laws_eqNode_c a222_0 a222_1 a222_2 a232_0 a232_1 a232_2 y236 ey236) H trivial ?_; clear H ey236
          rintro _ _ w238 ⟨rfl, rfl⟩ hx (H : Cx w0 fp0 S0 w238 [Es (List (Int × Int × ByteArray)) a_ a_h, Es (List (Int × Int × ByteArray)) b_ b_h])
          replace hX := hX.trans0 hx; clear hx
          refine hold hX ?_
          obtain ⟨a239, e, hF240⟩ := bindS hF237; clear hF237
          refine boolO e ?_; clear e
          cases a239
          · have hF241 := condF hF240; clear hF240
            obtain ⟨a242, e, hF243⟩ := bindS hF241; clear hF241
            refine arO e ?_; clear e
            have hs := Option.some.inj hF243; subst hs; clear hF243
            exact ⟨a242, (), rfl, ⟨rfl, rfl, rfl, trivial⟩, H.sel [0, 1] rfl⟩
          · have hF244 := condT hF240; clear hF240
            have hs := Option.some.inj hF244; subst hs; clear hF244
            have hF245 : some _ = some _ := congrArg some (hrt _ rfl).symm
            have hs := Option.some.inj hF245; subst hs; clear hF245
            have hF246 : some _ = some _ := hF126; clear hF126
            cases hF246
            exact ⟨_, _, rfl, ⟨rfl, rfl⟩, (H.sel [] rfl).close trivial⟩
    · clear hF127 H
      rintro T248 _ w247 ⟨hr, (H : Cx w0 fp0 S0 w247 [])⟩
      subst hr
      cases hF126
      exact ⟨_, _, rfl, ⟨rfl, rfl⟩, (H.sel [] rfl).close trivial⟩
  · have hF249 := condT hF4; clear hF4
    cases hF249
    exact ⟨_, _, rfl, ⟨rfl, rfl⟩, (H.sel [] rfl).close trivial⟩

theorem laws_eqTerm_c (a__0 : List (Int × Int × ByteArray)) (a__0h : Hd) (b__0 : List (Int × Int × ByteArray)) (b__0h : Hd) (y : Bool) (hF : F_laws_eqTerm a__0 b__0 = some y) :
    ConF Try.prog 37 #[(.agg #[(a__0h).v]), (.agg #[(b__0h).v])] [Es (List (Int × Int × ByteArray)) a__0 a__0h, Es (List (Int × Int × ByteArray)) b__0 b__0h] [] (fun v Γ' => v = (.bool y) ∧ Γ' = []) := by
  intro w0 S0 fp0 hI hS
  have H : Cx w0 fp0 S0 w0 [Es (List (Int × Int × ByteArray)) a__0 a__0h, Es (List (Int × Int × ByteArray)) b__0 b__0h] := Cx.start hI hS
  clear hI hS
  refine enterC (args := [_, _]) gok Try.func37 rfl _ rfl rfl rfl ?_
  refine box_ H ?_; clear H; intro b4 w3 hx H
  clear hx
  replace H : Cx w0 fp0 S0 w3 [Bx b4 [(a__0h).v], Es (List (Int × Int × ByteArray)) a__0 a__0h, Es (List (Int × Int × ByteArray)) b__0 b__0h] := H
  refine box_ H ?_; clear H; intro b7 w6 hx H
  clear hx
  replace H : Cx w0 fp0 S0 w6 [Bx b7 [(b__0h).v], Bx b4 [(a__0h).v], Es (List (Int × Int × ByteArray)) a__0 a__0h, Es (List (Int × Int × ByteArray)) b__0 b__0h] := H
  refine sq ?_
  refine fld gok rfl rfl rfl rfl ?_
  refine load1 (H.bx 1 rfl (j := 0) rfl) ?_
  refine fld gok rfl rfl rfl rfl ?_
  refine load1 (H.bx 0 rfl (j := 0) rfl) ?_
  obtain ⟨y9, e, hF10⟩ := bindS hF; clear hF
  have ey9 := e; clear e
  refine callF (laws_eqNodeS_c a__0 a__0h b__0 b__0h y9 ey9) (Γi := []) H ⟨Vw.sh 2 rfl, Vw.sh 3 rfl, trivial⟩ ?_; clear H ey9
  rintro _ _ w11 ⟨rfl, rfl⟩ (H : Cx w0 fp0 S0 w11 [Bx b7 [(b__0h).v], Bx b4 [(a__0h).v], Es (List (Int × Int × ByteArray)) a__0 a__0h, Es (List (Int × Int × ByteArray)) b__0 b__0h])
  obtain ⟨a12, e, hF13⟩ := bindS hF10; clear hF10
  refine boolO e ?_; clear e
  cases a12
  · have hF14 := condF hF13; clear hF13
    cases hF14
    exact ⟨_, _, rfl, ⟨rfl, rfl⟩, (H.sel [] rfl).close trivial⟩
  · have hF15 := condT hF13; clear hF13
    cases hF15
    exact ⟨_, _, rfl, ⟨rfl, rfl⟩, (H.sel [] rfl).close trivial⟩

theorem laws_markText_c (k_ : Int) (y : ByteArray) (hF : F_laws_markText k_ = some y) :
    ConF Try.prog 117 #[(.int .i64 k_)] [] [] (fun v Γ' => v = (.string y) ∧ Γ' = []) := by
  intro w0 S0 fp0 hI hS
  have H : Cx w0 fp0 S0 w0 [] := Cx.start hI hS
  clear hI hS
  refine enterC (args := [_]) gok Try.func117 rfl _ rfl rfl rfl ?_
  refine sq ?_
  obtain ⟨a1, e, hF2⟩ := bindS hF; clear hF
  refine boolO e ?_; clear e
  cases a1
  · have hF3 := condF hF2; clear hF2
    obtain ⟨r77, hF79, hF78⟩ := bindS hF3; clear hF3
    refine cut (fun (q80 : ByteArray) => [(3, (.string q80))]) (fun (q80 : ByteArray) w' => q80 = r77 ∧ Cx w0 fp0 S0 w' []) ?_ ?_
    · skip
      refine loopW _ (fun (s123 : Int × ByteArray) (_ : Unit) => [(0, (.int .i64 s123.1)), (3, (.string s123.2))]) (fun (s123 : Int × ByteArray) (_ : Unit) w' => Cx w0 fp0 S0 w' []) (k_, .empty) () hF79 ⟨rfl, rfl, trivial⟩ (H.sel [] rfl) ?_
      · clear H
        rintro T129 ⟨s123_0, s123_1⟩ _ w128 o130 (H : Cx w0 fp0 S0 w128 []) hrt hF131
        refine sq ?_
        obtain ⟨a132, e, hF133⟩ := bindS hF131; clear hF131
        refine boolO e ?_; clear e
        cases a132
        · have hF134 := condF hF133; clear hF133
          have hs := Option.some.inj hF134; subst hs; clear hF134
          have hF135 : some _ = some _ := congrArg some (hrt _ rfl).symm
          exact ⟨s123_1, ⟨rfl, trivial⟩, Option.some.inj hF135, H.sel [] rfl⟩
        · have hF136 := condT hF133; clear hF133
          obtain ⟨a137, e, hF138⟩ := bindS hF136; clear hF136
          refine remO_ e ?_; clear e
          obtain ⟨a139, e, hF140⟩ := bindS hF138; clear hF138
          refine arO e ?_; clear e
          obtain ⟨a141, e, hF142⟩ := bindS hF140; clear hF140
          refine convIY gok rfl rfl e ?_; clear e
          refine lit1S (α := By) gok rfl rfl rfl rfl H ?_; clear H; intro h144 w143 hx H
          clear hx
          obtain ⟨a146, e, hF147⟩ := bindS hF142; clear hF142
          refine convBZ (xs := ([a141] : List By)) gok rfl rfl rfl (H.ro (α := List By) 0 rfl) e ?_; clear e
          obtain ⟨a148, e, hF149⟩ := bindS hF147; clear hF147
          refine catZ e ?_; clear e
          obtain ⟨a150, e, hF151⟩ := bindS hF149; clear hF149
          refine quoO_ e ?_; clear e
          have hs := Option.some.inj hF151; subst hs; clear hF151
          exact ⟨(a150, a148), (), rfl, ⟨rfl, rfl, trivial⟩, H.sel [] rfl⟩
    · clear hF79 H
      rintro T153 s75 w152 ⟨hr, (H : Cx w0 fp0 S0 w152 [])⟩
      subst hr
      obtain ⟨a154, e, hF155⟩ := bindS hF78; clear hF78
      refine catZ e ?_; clear e
      cases hF155
      exact ⟨_, _, rfl, ⟨rfl, rfl⟩, (H.sel [] rfl).close trivial⟩
  · have hF156 := condT hF2; clear hF2
    cases hF156
    exact ⟨_, _, rfl, ⟨rfl, rfl⟩, (H.sel [] rfl).close trivial⟩

theorem laws_markNodeS_c (a_ : List (Int × Int × ByteArray)) (a_h : Hd) (k_ : Int) (y0 : List (Int × Int × ByteArray)) (y1 : Int) (hF : F_laws_markNodeS a_ k_ = some (y0, y1)) :
    ConF Try.prog 75 #[(a_h).v, (.int .i64 k_)] [] [E (List (Int × Int × ByteArray)) a_ a_h] (fun v Γ' => v = (.int .i64 y1) ∧ Γ' = [E (List (Int × Int × ByteArray)) y0 a_h]) := by
  intro w0 S0 fp0 hI hS
  have H : Cx w0 fp0 S0 w0 [E (List (Int × Int × ByteArray)) a_ a_h] := Cx.start hI hS
  clear hI hS
  refine enterC (args := [_, _]) gok Try.func75 rfl _ rfl rfl rfl ?_
  obtain ⟨r261, hF263, hF262⟩ := bindS hF; clear hF
  refine cut (fun (q264 : (List (Int × Int × ByteArray)) × Int) => [(1, (.int .i64 q264.2))]) (fun (q264 : (List (Int × Int × ByteArray)) × Int) w' => (q264.1, q264.2) = r261 ∧ Cx w0 fp0 S0 w' [E (List (Int × Int × ByteArray)) q264.1 a_h]) ?_ ?_
  · skip
    refine loopW _ (fun (s431 : (List (Int × Int × ByteArray)) × Int × Int) (_ : Unit) => [(0, (a_h).v), (1, (.int .i64 s431.2.1)), (5, (.int .i64 s431.2.2))]) (fun (s431 : (List (Int × Int × ByteArray)) × Int × Int) (_ : Unit) w' => Cx w0 fp0 S0 w' [E (List (Int × Int × ByteArray)) s431.1 a_h]) (a_, k_, 0) () hF263 ⟨rfl, rfl, rfl, trivial⟩ (H.sel [0] rfl) ?_
    · clear H
      rintro T437 ⟨s431_0, s431_1, s431_2⟩ _ w436 o438 (H : Cx w0 fp0 S0 w436 [E (List (Int × Int × ByteArray)) s431_0 a_h]) hrt hF439
      refine sq ?_
      refine lenE (H.ro (α := List (Int × Int × ByteArray)) 0 rfl).len ?_
      obtain ⟨a440, e, hF441⟩ := bindS hF439; clear hF439
      refine boolO e ?_; clear e
      cases a440
      · have hF442 := condF hF441; clear hF441
        have hs := Option.some.inj hF442; subst hs; clear hF442
        have hF443 : some _ = some _ := congrArg some (hrt _ rfl).symm
        exact ⟨(s431_0, s431_1), ⟨rfl, trivial⟩, Option.some.inj hF443, H.sel [0] rfl⟩
      · have hF444 := condT hF441; clear hF441
        refine sq ?_
        obtain ⟨a451, e, hF452⟩ := bindS hF444; clear hF444
        replace H := H.toEH (α := Int × Int × ByteArray)
        have HH := H; clear H; obtain ⟨p449, m450, g453, c445, c446, c447, c448, H⟩ := HH.peek e; clear HH
        clear e
        obtain ⟨a451_0, a451_1, a451_2⟩ := a451
        obtain ⟨_, _, _⟩ := g453
        refine idxE c445 c446 c447 ?_
        refine fld gok rfl rfl rfl rfl ?_
        replace H := H.takeK 0 rfl
        replace H := H.sel [1, 0] rfl
        refine stX (α := Int × Int × ByteArray) (j := 0) H c445 rfl rfl ?_; clear H; intro w455 H
        replace H := H.sel [1, 0] rfl
        replace H := H.split
        replace H := H.sel [1, 2] rfl
        replace H := H.split
        replace H := H.sel [1, 2] rfl
        replace H := H.sel [1] rfl
        replace H := H.sc (α := ByteArray) a451_2
        replace H := H.sc (α := Int) a451_1
        replace H := H.join (α := Int) (β := ByteArray)
        replace H := H.sc (α := Int) s431_1
        replace H := H.join (α := Int) (β := Int × ByteArray)
        obtain ⟨a465, e, hF466⟩ := bindS hF452; clear hF452
        replace H := H.put c446 e; clear e
        obtain ⟨a467, e, hF468⟩ := bindS hF466; clear hF466
        refine arO e ?_; clear e
        obtain ⟨a475, e, hF476⟩ := bindS hF468; clear hF468
        replace H := H.toEH (α := Int × Int × ByteArray)
        have HH := H; clear H; obtain ⟨p473, m474, g477, c469, c470, c471, c472, H⟩ := HH.peek e; clear HH
        clear e
        obtain ⟨a475_0, a475_1, a475_2⟩ := a475
        obtain ⟨_, _, _⟩ := g477
        refine idxE c469 c470 c471 ?_
        refine fld gok rfl rfl rfl rfl ?_
        replace H := H.takeK 0 rfl
        replace H := H.sel [1, 0] rfl
        refine stX (α := Int × Int × ByteArray) (j := 1) H c469 rfl rfl ?_; clear H; intro w479 H
        replace H := H.sel [1, 0] rfl
        replace H := H.split
        replace H := H.sel [1, 2] rfl
        replace H := H.split
        replace H := H.sel [1, 2] rfl
        replace H := H.sel [1] rfl
        replace H := H.sc (α := ByteArray) a475_2
        replace H := H.sc (α := Int) a467
        replace H := H.join (α := Int) (β := ByteArray)
        replace H := H.sc (α := Int) a475_0
        replace H := H.join (α := Int) (β := Int × ByteArray)
        obtain ⟨a489, e, hF490⟩ := bindS hF476; clear hF476
        replace H := H.put c470 e; clear e
        obtain ⟨a491, e, hF492⟩ := bindS hF490; clear hF490
        refine arO e ?_; clear e
        obtain ⟨y493, e, hF494⟩ := bindS hF492; clear hF492
        have ey493 := e; clear e
        refine callF (laws_markText_c a491 y493 ey493) (Γi := []) H trivial ?_; clear H ey493
        rintro _ _ w495 ⟨rfl, rfl⟩ (H : Cx w0 fp0 S0 w495 [E (List (Int × Int × ByteArray)) a489 a_h])
        obtain ⟨a502, e, hF503⟩ := bindS hF494; clear hF494
        replace H := H.toEH (α := Int × Int × ByteArray)
        have HH := H; clear H; obtain ⟨p500, m501, g504, c496, c497, c498, c499, H⟩ := HH.peek e; clear HH
        clear e
        obtain ⟨a502_0, a502_1, a502_2⟩ := a502
        obtain ⟨_, _, _⟩ := g504
        refine idxE c496 c497 c498 ?_
        refine fld gok rfl rfl rfl rfl ?_
        replace H := H.takeK 0 rfl
        replace H := H.sel [1, 0] rfl
        refine stX (α := Int × Int × ByteArray) (j := 2) H c496 rfl rfl ?_; clear H; intro w506 H
        replace H := H.sel [1, 0] rfl
        replace H := H.split
        replace H := H.sel [1, 2] rfl
        replace H := H.split
        replace H := H.sel [1, 2] rfl
        replace H := H.sel [1] rfl
        replace H := H.sc (α := ByteArray) y493
        replace H := H.sc (α := Int) a502_1
        replace H := H.join (α := Int) (β := ByteArray)
        replace H := H.sc (α := Int) a502_0
        replace H := H.join (α := Int) (β := Int × ByteArray)
        obtain ⟨a516, e, hF517⟩ := bindS hF503; clear hF503
        replace H := H.put c497 e; clear e
        obtain ⟨a518, e, hF519⟩ := bindS hF517; clear hF517
        refine arO e ?_; clear e
        obtain ⟨a520, e, hF521⟩ := bindS hF519; clear hF519
        refine arO e ?_; clear e
        have hs := Option.some.inj hF521; subst hs; clear hF521
        exact ⟨(a516, a518, a520), (), rfl, ⟨rfl, rfl, rfl, trivial⟩, H.sel [0] rfl⟩
  · clear hF263 H
    rintro T523 ⟨s259_0, s259_1⟩ w522 ⟨hr, (H : Cx w0 fp0 S0 w522 [E (List (Int × Int × ByteArray)) s259_0 a_h])⟩
    subst hr
    cases hF262
    exact ⟨_, _, rfl, ⟨rfl, rfl⟩, (H.sel [0] rfl).close ⟨cloE, trivial⟩⟩

theorem laws_markTerm_c (a__0 : List (Int × Int × ByteArray)) (a__0h : Hd) (k_ : Int) (y0_0 : List (Int × Int × ByteArray)) (y1 : Int) (hF : F_laws_markTerm a__0 k_ = some (y0_0, y1)) :
    ConF Try.prog 38 #[(.agg #[(a__0h).v]), (.int .i64 k_)] [] [E (List (Int × Int × ByteArray)) a__0 a__0h] (fun v Γ' => v = (.int .i64 y1) ∧ Γ' = [E (List (Int × Int × ByteArray)) y0_0 a__0h]) := by
  intro w0 S0 fp0 hI hS
  have H : Cx w0 fp0 S0 w0 [E (List (Int × Int × ByteArray)) a__0 a__0h] := Cx.start hI hS
  clear hI hS
  refine enterC (args := [_, _]) gok Try.func38 rfl _ rfl rfl rfl ?_
  refine box_ H ?_; clear H; intro b3 w2 hx H
  clear hx
  replace H : Cx w0 fp0 S0 w2 [Bx b3 [(a__0h).v], E (List (Int × Int × ByteArray)) a__0 a__0h] := H
  refine fld gok rfl rfl rfl rfl ?_
  refine load1 (H.bx 0 rfl (j := 0) rfl) ?_
  obtain ⟨y5, e, hF6⟩ := bindS hF; clear hF
  obtain ⟨y5_0, y5_1⟩ := y5
  have ey5 := e; clear e
  replace H := H.sel [1, 0] rfl
  refine callF (laws_markNodeS_c a__0 a__0h k_ y5_0 y5_1 ey5) (Γi := [E (List (Int × Int × ByteArray)) a__0 a__0h]) H trivial ?_; clear H ey5
  rintro _ _ w7 ⟨rfl, rfl⟩ (H : Cx w0 fp0 S0 w7 [E (List (Int × Int × ByteArray)) y5_0 a__0h, Bx b3 [(a__0h).v]])
  cases hF6
  exact ⟨_, _, rfl, ⟨rfl, rfl⟩, (H.sel [0] rfl).close ⟨cloE, trivial⟩⟩

theorem laws_markIntS_c (a_ : List Int) (a_h : Hd) (k_ : Int) (y0 : List Int) (y1 : Int) (hF : F_laws_markIntS a_ k_ = some (y0, y1)) :
    ConF Try.prog 21 #[(a_h).v, (.int .i64 k_)] [] [E (List Int) a_ a_h] (fun v Γ' => v = (.int .i64 y1) ∧ Γ' = [E (List Int) y0 a_h]) := by
  intro w0 S0 fp0 hI hS
  have H : Cx w0 fp0 S0 w0 [E (List Int) a_ a_h] := Cx.start hI hS
  clear hI hS
  refine enterC (args := [_, _]) gok Try.func21 rfl _ rfl rfl rfl ?_
  obtain ⟨r69, hF71, hF70⟩ := bindS hF; clear hF
  refine cut (fun (q72 : List Int × Int) => [(1, (.int .i64 q72.2))]) (fun (q72 : List Int × Int) w' => (q72.1, q72.2) = r69 ∧ Cx w0 fp0 S0 w' [E (List Int) q72.1 a_h]) ?_ ?_
  · skip
    refine loopW _ (fun (s111 : List Int × Int × Int) (_ : Unit) => [(0, (a_h).v), (1, (.int .i64 s111.2.1)), (5, (.int .i64 s111.2.2))]) (fun (s111 : List Int × Int × Int) (_ : Unit) w' => Cx w0 fp0 S0 w' [E (List Int) s111.1 a_h]) (a_, k_, 0) () hF71 ⟨rfl, rfl, rfl, trivial⟩ (H.sel [0] rfl) ?_
    · clear H
      rintro T117 ⟨s111_0, s111_1, s111_2⟩ _ w116 o118 (H : Cx w0 fp0 S0 w116 [E (List Int) s111_0 a_h]) hrt hF119
      refine sq ?_
      refine lenE (H.ro (α := List Int) 0 rfl).len ?_
      obtain ⟨a120, e, hF121⟩ := bindS hF119; clear hF119
      refine boolO e ?_; clear e
      cases a120
      · have hF122 := condF hF121; clear hF121
        have hs := Option.some.inj hF122; subst hs; clear hF122
        have hF123 : some _ = some _ := congrArg some (hrt _ rfl).symm
        exact ⟨(s111_0, s111_1), ⟨rfl, trivial⟩, Option.some.inj hF123, H.sel [0] rfl⟩
      · have hF124 := condT hF121; clear hF121
        refine sq ?_
        obtain ⟨a131, e, hF132⟩ := bindS hF124; clear hF124
        have ea131 := e; clear e
        obtain ⟨p129, m130, c125, c126, c127⟩ := (H.ro (α := List Int) 0 rfl).setp ea131
        refine idxE c125 c126 c127 ?_
        refine setS (α := Int) H c125 c126 ea131 ?_; clear H c125 c126 c127 ea131; intro w133 H
        obtain ⟨a134, e, hF135⟩ := bindS hF132; clear hF132
        refine arO e ?_; clear e
        obtain ⟨a136, e, hF137⟩ := bindS hF135; clear hF135
        refine arO e ?_; clear e
        have hs := Option.some.inj hF137; subst hs; clear hF137
        exact ⟨(a131, a134, a136), (), rfl, ⟨rfl, rfl, rfl, trivial⟩, H.sel [0] rfl⟩
  · clear hF71 H
    rintro T139 ⟨s67_0, s67_1⟩ w138 ⟨hr, (H : Cx w0 fp0 S0 w138 [E (List Int) s67_0 a_h])⟩
    subst hr
    cases hF70
    exact ⟨_, _, rfl, ⟨rfl, rfl⟩, (H.sel [0] rfl).close ⟨cloE, trivial⟩⟩

theorem laws_markEdgeS_c (a_ : List (Int × Int × List Int × List Int)) (a_h : Hd) (k_ : Int) (y0 : List (Int × Int × List Int × List Int)) (y1 : Int) (hF : F_laws_markEdgeS a_ k_ = some (y0, y1)) :
    ConF Try.prog 48 #[(a_h).v, (.int .i64 k_)] [] [E (List (Int × Int × List Int × List Int)) a_ a_h] (fun v Γ' => v = (.int .i64 y1) ∧ Γ' = [E (List (Int × Int × List Int × List Int)) y0 a_h]) := by
  intro w0 S0 fp0 hI hS
  have H : Cx w0 fp0 S0 w0 [E (List (Int × Int × List Int × List Int)) a_ a_h] := Cx.start hI hS
  clear hI hS
  refine enterC (args := [_, _]) gok Try.func48 rfl _ rfl rfl rfl ?_
  obtain ⟨r372, hF374, hF373⟩ := bindS hF; clear hF
  refine cut (fun (q375 : (List (Int × Int × List Int × List Int)) × Int) => [(1, (.int .i64 q375.2))]) (fun (q375 : (List (Int × Int × List Int × List Int)) × Int) w' => (q375.1, q375.2) = r372 ∧ Cx w0 fp0 S0 w' [E (List (Int × Int × List Int × List Int)) q375.1 a_h]) ?_ ?_
  · skip
    refine loopW _ (fun (s616 : (List (Int × Int × List Int × List Int)) × Int × Int) (_ : Unit) => [(0, (a_h).v), (1, (.int .i64 s616.2.1)), (5, (.int .i64 s616.2.2))]) (fun (s616 : (List (Int × Int × List Int × List Int)) × Int × Int) (_ : Unit) w' => Cx w0 fp0 S0 w' [E (List (Int × Int × List Int × List Int)) s616.1 a_h]) (a_, k_, 0) () hF374 ⟨rfl, rfl, rfl, trivial⟩ (H.sel [0] rfl) ?_
    · clear H
      rintro T622 ⟨s616_0, s616_1, s616_2⟩ _ w621 o623 (H : Cx w0 fp0 S0 w621 [E (List (Int × Int × List Int × List Int)) s616_0 a_h]) hrt hF624
      refine sq ?_
      refine lenE (H.ro (α := List (Int × Int × List Int × List Int)) 0 rfl).len ?_
      obtain ⟨a625, e, hF626⟩ := bindS hF624; clear hF624
      refine boolO e ?_; clear e
      cases a625
      · have hF627 := condF hF626; clear hF626
        have hs := Option.some.inj hF627; subst hs; clear hF627
        have hF628 : some _ = some _ := congrArg some (hrt _ rfl).symm
        exact ⟨(s616_0, s616_1), ⟨rfl, trivial⟩, Option.some.inj hF628, H.sel [0] rfl⟩
      · have hF629 := condT hF626; clear hF626
        refine sq ?_
        obtain ⟨a636, e, hF637⟩ := bindS hF629; clear hF629
        replace H := H.toEH (α := Int × Int × List Int × List Int)
        have HH := H; clear H; obtain ⟨p634, m635, g638, c630, c631, c632, c633, H⟩ := HH.peek e; clear HH
        clear e
        obtain ⟨a636_0, a636_1, a636_2, a636_3⟩ := a636
        obtain ⟨_, _, h639, h640⟩ := g638
        refine idxE c630 c631 c632 ?_
        refine fld gok rfl rfl rfl rfl ?_
        replace H := H.takeK 0 rfl
        replace H := H.sel [1, 0] rfl
        refine stX (α := Int × Int × List Int × List Int) (j := 0) H c630 rfl rfl ?_; clear H; intro w642 H
        replace H := H.sel [1, 0] rfl
        replace H := H.split
        replace H := H.sel [1, 2] rfl
        replace H := H.split
        replace H := H.sel [1, 2] rfl
        replace H := H.split
        replace H := H.join (α := List Int) (β := List Int)
        replace H := H.sc (α := Int) a636_1
        replace H := H.join (α := Int) (β := List Int × List Int)
        replace H := H.sc (α := Int) s616_1
        replace H := H.join (α := Int) (β := Int × List Int × List Int)
        obtain ⟨a654, e, hF655⟩ := bindS hF637; clear hF637
        replace H := H.put c631 e; clear e
        obtain ⟨a656, e, hF657⟩ := bindS hF655; clear hF655
        refine arO e ?_; clear e
        obtain ⟨a664, e, hF665⟩ := bindS hF657; clear hF657
        replace H := H.toEH (α := Int × Int × List Int × List Int)
        have HH := H; clear H; obtain ⟨p662, m663, g666, c658, c659, c660, c661, H⟩ := HH.peek e; clear HH
        clear e
        obtain ⟨a664_0, a664_1, a664_2, a664_3⟩ := a664
        obtain ⟨_, _, h667, h668⟩ := g666
        refine idxE c658 c659 c660 ?_
        refine fld gok rfl rfl rfl rfl ?_
        replace H := H.takeK 0 rfl
        replace H := H.sel [1, 0] rfl
        refine stX (α := Int × Int × List Int × List Int) (j := 1) H c658 rfl rfl ?_; clear H; intro w670 H
        replace H := H.sel [1, 0] rfl
        replace H := H.split
        replace H := H.sel [1, 2] rfl
        replace H := H.split
        replace H := H.sel [1, 2] rfl
        replace H := H.split
        replace H := H.join (α := List Int) (β := List Int)
        replace H := H.sc (α := Int) a656
        replace H := H.join (α := Int) (β := List Int × List Int)
        replace H := H.sc (α := Int) a664_0
        replace H := H.join (α := Int) (β := Int × List Int × List Int)
        obtain ⟨a682, e, hF683⟩ := bindS hF665; clear hF665
        replace H := H.put c659 e; clear e
        obtain ⟨a684, e, hF685⟩ := bindS hF683; clear hF683
        refine arO e ?_; clear e
        obtain ⟨a692, e, hF693⟩ := bindS hF685; clear hF685
        replace H := H.toEH (α := Int × Int × List Int × List Int)
        have HH := H; clear H; obtain ⟨p690, m691, g694, c686, c687, c688, c689, H⟩ := HH.peek e; clear HH
        clear e
        obtain ⟨a692_0, a692_1, a692_2, a692_3⟩ := a692
        obtain ⟨_, _, h695, h696⟩ := g694
        refine idxE c686 c687 c688 ?_
        refine fld gok rfl rfl rfl rfl ?_
        refine load1 (c689 2 _ rfl) ?_
        obtain ⟨y697, e, hF698⟩ := bindS hF693; clear hF693
        obtain ⟨y697_0, y697_1⟩ := y697
        have ey697 := e; clear e
        replace H := H.takeK 0 rfl
        replace H := H.split
        replace H := H.sel [1, 2] rfl
        replace H := H.split
        replace H := H.sel [1, 2] rfl
        replace H := H.split
        refine callF (laws_markIntS_c a692_2 h695 a684 y697_0 y697_1 ey697) (Γi := [E (List Int) a692_2 h695]) H trivial ?_; clear H ey697
        rintro _ _ w706 ⟨rfl, rfl⟩ (H : Cx w0 fp0 S0 w706 [E (List Int) y697_0 h695, E (List Int) a692_3 h696, EX (Int × Int × List Int × List Int) m691 [(.int .i64 a692_0), (.int .i64 a692_1), (h695).v, (h696).v] a682 a_h])
        replace H := H.join (α := List Int) (β := List Int)
        replace H := H.sc (α := Int) a692_1
        replace H := H.join (α := Int) (β := List Int × List Int)
        replace H := H.sc (α := Int) a692_0
        replace H := H.join (α := Int) (β := Int × List Int × List Int)
        obtain ⟨a712, e, hF713⟩ := bindS hF698; clear hF698
        replace H := H.put c687 e; clear e
        obtain ⟨a720, e, hF721⟩ := bindS hF713; clear hF713
        replace H := H.toEH (α := Int × Int × List Int × List Int)
        have HH := H; clear H; obtain ⟨p718, m719, g722, c714, c715, c716, c717, H⟩ := HH.peek e; clear HH
        clear e
        obtain ⟨a720_0, a720_1, a720_2, a720_3⟩ := a720
        obtain ⟨_, _, h723, h724⟩ := g722
        refine idxE c714 c715 c716 ?_
        refine fld gok rfl rfl rfl rfl ?_
        refine load1 (c717 3 _ rfl) ?_
        obtain ⟨y725, e, hF726⟩ := bindS hF721; clear hF721
        obtain ⟨y725_0, y725_1⟩ := y725
        have ey725 := e; clear e
        replace H := H.takeK 0 rfl
        replace H := H.split
        replace H := H.sel [1, 2] rfl
        replace H := H.split
        replace H := H.sel [1, 2] rfl
        replace H := H.split
        replace H := H.sel [1, 0, 2] rfl
        refine callF (laws_markIntS_c a720_3 h724 y697_1 y725_0 y725_1 ey725) (Γi := [E (List Int) a720_3 h724]) H trivial ?_; clear H ey725
        rintro _ _ w734 ⟨rfl, rfl⟩ (H : Cx w0 fp0 S0 w734 [E (List Int) y725_0 h724, E (List Int) a720_2 h723, EX (Int × Int × List Int × List Int) m719 [(.int .i64 a720_0), (.int .i64 a720_1), (h723).v, (h724).v] a712 a_h])
        replace H := H.sel [1, 0, 2] rfl
        replace H := H.join (α := List Int) (β := List Int)
        replace H := H.sc (α := Int) a720_1
        replace H := H.join (α := Int) (β := List Int × List Int)
        replace H := H.sc (α := Int) a720_0
        replace H := H.join (α := Int) (β := Int × List Int × List Int)
        obtain ⟨a740, e, hF741⟩ := bindS hF726; clear hF726
        replace H := H.put c715 e; clear e
        obtain ⟨a742, e, hF743⟩ := bindS hF741; clear hF741
        refine arO e ?_; clear e
        have hs := Option.some.inj hF743; subst hs; clear hF743
        exact ⟨(a740, y725_1, a742), (), rfl, ⟨rfl, rfl, rfl, trivial⟩, H.sel [0] rfl⟩
  · clear hF374 H
    rintro T745 ⟨s370_0, s370_1⟩ w744 ⟨hr, (H : Cx w0 fp0 S0 w744 [E (List (Int × Int × List Int × List Int)) s370_0 a_h])⟩
    subst hr
    cases hF373
    exact ⟨_, _, rfl, ⟨rfl, rfl⟩, (H.sel [0] rfl).close ⟨cloE, trivial⟩⟩

theorem laws_markGraph_c (a__0 : Int) (a__1 : List (Int × Int × List Int × List Int)) (a__1h : Hd) (a__2 : List Int) (a__2h : Hd) (a__3 : List Int) (a__3h : Hd) (k_ : Int) (y0_0 : Int) (y0_1 : List (Int × Int × List Int × List Int)) (y0_2 : List Int) (y0_3 : List Int) (y1 : Int) (hF : F_laws_markGraph (a__0, a__1, a__2, a__3) k_ = some ((y0_0, y0_1, y0_2, y0_3), y1)) :
    ConF Try.prog 15 #[(.agg #[(.int .i64 a__0), (a__1h).v, (a__2h).v, (a__3h).v]), (.int .i64 k_)] [] [E (List (Int × Int × List Int × List Int)) a__1 a__1h, E (List Int) a__2 a__2h, E (List Int) a__3 a__3h] (fun v Γ' => v = (.int .i64 y1) ∧ Γ' = [E (List (Int × Int × List Int × List Int)) y0_1 a__1h, E (List Int) y0_2 a__2h, E (List Int) y0_3 a__3h]) := by
  intro w0 S0 fp0 hI hS
  have H : Cx w0 fp0 S0 w0 [E (List (Int × Int × List Int × List Int)) a__1 a__1h, E (List Int) a__2 a__2h, E (List Int) a__3 a__3h] := Cx.start hI hS
  clear hI hS
  refine enterC (args := [_, _]) gok Try.func15 rfl _ rfl rfl rfl ?_
  refine box_ H ?_; clear H; intro b5 w4 hx H
  clear hx
  replace H : Cx w0 fp0 S0 w4 [Bx b5 [(.int .i64 a__0), (a__1h).v, (a__2h).v, (a__3h).v], E (List (Int × Int × List Int × List Int)) a__1 a__1h, E (List Int) a__2 a__2h, E (List Int) a__3 a__3h] := H
  refine fld gok rfl rfl rfl rfl ?_
  refine load1 (H.bx 0 rfl (j := 1) rfl) ?_
  obtain ⟨y7, e, hF8⟩ := bindS hF; clear hF
  obtain ⟨y7_0, y7_1⟩ := y7
  have ey7 := e; clear e
  replace H := H.sel [1, 0, 2, 3] rfl
  refine callF (laws_markEdgeS_c a__1 a__1h k_ y7_0 y7_1 ey7) (Γi := [E (List (Int × Int × List Int × List Int)) a__1 a__1h]) H trivial ?_; clear H ey7
  rintro _ _ w9 ⟨rfl, rfl⟩ (H : Cx w0 fp0 S0 w9 [E (List (Int × Int × List Int × List Int)) y7_0 a__1h, Bx b5 [(.int .i64 a__0), (a__1h).v, (a__2h).v, (a__3h).v], E (List Int) a__2 a__2h, E (List Int) a__3 a__3h])
  refine fld gok rfl rfl rfl rfl ?_
  refine load1 (H.bx 1 rfl (j := 2) rfl) ?_
  obtain ⟨y10, e, hF11⟩ := bindS hF8; clear hF8
  obtain ⟨y10_0, y10_1⟩ := y10
  have ey10 := e; clear e
  replace H := H.sel [2, 0, 1, 3] rfl
  refine callF (laws_markIntS_c a__2 a__2h y7_1 y10_0 y10_1 ey10) (Γi := [E (List Int) a__2 a__2h]) H trivial ?_; clear H ey10
  rintro _ _ w12 ⟨rfl, rfl⟩ (H : Cx w0 fp0 S0 w12 [E (List Int) y10_0 a__2h, E (List (Int × Int × List Int × List Int)) y7_0 a__1h, Bx b5 [(.int .i64 a__0), (a__1h).v, (a__2h).v, (a__3h).v], E (List Int) a__3 a__3h])
  refine fld gok rfl rfl rfl rfl ?_
  refine load1 (H.bx 2 rfl (j := 3) rfl) ?_
  obtain ⟨y13, e, hF14⟩ := bindS hF11; clear hF11
  obtain ⟨y13_0, y13_1⟩ := y13
  have ey13 := e; clear e
  replace H := H.sel [3, 0, 1, 2] rfl
  refine callF (laws_markIntS_c a__3 a__3h y10_1 y13_0 y13_1 ey13) (Γi := [E (List Int) a__3 a__3h]) H trivial ?_; clear H ey13
  rintro _ _ w15 ⟨rfl, rfl⟩ (H : Cx w0 fp0 S0 w15 [E (List Int) y13_0 a__3h, E (List Int) y10_0 a__2h, E (List (Int × Int × List Int × List Int)) y7_0 a__1h, Bx b5 [(.int .i64 a__0), (a__1h).v, (a__2h).v, (a__3h).v]])
  cases hF14
  exact ⟨_, _, rfl, ⟨rfl, rfl⟩, (H.sel [2, 1, 0] rfl).close ⟨cloE, cloE, cloE, trivial⟩⟩

theorem laws_heldIntS_c (a_ : List Int) (a_h : Hd) (k_ : Int) (y : Int) (hF : F_laws_heldIntS a_ k_ = some y) :
    ConF Try.prog 22 #[(a_h).v, (.int .i64 k_)] [Es (List Int) a_ a_h] [] (fun v Γ' => v = (.int .i64 y) ∧ Γ' = []) := by
  intro w0 S0 fp0 hI hS
  have H : Cx w0 fp0 S0 w0 [Es (List Int) a_ a_h] := Cx.start hI hS
  clear hI hS
  refine enterC (args := [_, _]) gok Try.func22 rfl _ rfl rfl rfl ?_
  obtain ⟨r79, hF81, hF80⟩ := bindS hF; clear hF
  refine cut (fun (q82 : Int) => [(1, (.int .i64 q82))]) (fun (q82 : Int) w' => .inl q82 = r79 ∧ Cx w0 fp0 S0 w' []) ?_ ?_
  · skip
    refine loopW _ (fun (s127 : Int × Int) (_ : Unit) => [(0, (a_h).v), (1, (.int .i64 s127.1)), (5, (.int .i64 s127.2))]) (fun (s127 : Int × Int) (_ : Unit) w' => Cx w0 fp0 S0 w' [Es (List Int) a_ a_h]) (k_, 0) () hF81 ⟨rfl, rfl, rfl, trivial⟩ (H.sel [0] rfl) ?_
    · clear H
      rintro T133 ⟨s127_0, s127_1⟩ _ w132 o134 (H : Cx w0 fp0 S0 w132 [Es (List Int) a_ a_h]) hrt hF135
      refine sq ?_
      refine lenE (H.rs (α := List Int) 0 rfl).len ?_
      obtain ⟨a136, e, hF137⟩ := bindS hF135; clear hF135
      refine boolO e ?_; clear e
      cases a136
      · have hF138 := condF hF137; clear hF137
        have hs := Option.some.inj hF138; subst hs; clear hF138
        have hF139 : some _ = some _ := congrArg some (hrt _ rfl).symm
        exact ⟨s127_0, ⟨rfl, trivial⟩, Option.some.inj hF139, H.sel [] rfl⟩
      · have hF140 := condT hF137; clear hF137
        refine sq ?_
        refine sq ?_
        obtain ⟨a147, e, hF148⟩ := bindS hF140; clear hF140
        obtain ⟨p145, m146, c141, c142, c143, c144⟩ := (H.rs (α := List Int) 0 rfl).at1 e; clear e
        refine idxE c141 c142 c143 ?_; clear c141 c142 c143
        refine load1 c144 ?_; clear c144
        obtain ⟨a149, e, hF150⟩ := bindS hF148; clear hF148
        refine boolO e ?_; clear e
        cases a149
        · have hF151 := condF hF150; clear hF150
          obtain ⟨a152, e, hF153⟩ := bindS hF151; clear hF151
          refine arO e ?_; clear e
          obtain ⟨a154, e, hF155⟩ := bindS hF153; clear hF153
          refine arO e ?_; clear e
          have hs := Option.some.inj hF155; subst hs; clear hF155
          exact ⟨(a152, a154), (), rfl, ⟨rfl, rfl, rfl, trivial⟩, H.sel [0] rfl⟩
        · have hF156 := condT hF150; clear hF150
          have hs := Option.some.inj hF156; subst hs; clear hF156
          have hF157 : some _ = some _ := congrArg some (hrt _ rfl).symm
          have hs := Option.some.inj hF157; subst hs; clear hF157
          have hF158 : some _ = some _ := hF80; clear hF80
          cases hF158
          exact ⟨_, _, rfl, ⟨rfl, rfl⟩, (H.sel [] rfl).close trivial⟩
  · clear hF81 H
    rintro T160 s77 w159 ⟨hr, (H : Cx w0 fp0 S0 w159 [])⟩
    subst hr
    cases hF80
    exact ⟨_, _, rfl, ⟨rfl, rfl⟩, (H.sel [] rfl).close trivial⟩

theorem laws_heldEdgeS_c (a_ : List (Int × Int × List Int × List Int)) (a_h : Hd) (k_ : Int) (y : Int) (hF : F_laws_heldEdgeS a_ k_ = some y) :
    ConF Try.prog 59 #[(a_h).v, (.int .i64 k_)] [Es (List (Int × Int × List Int × List Int)) a_ a_h] [] (fun v Γ' => v = (.int .i64 y) ∧ Γ' = []) := by
  intro w0 S0 fp0 hI hS
  have H : Cx w0 fp0 S0 w0 [Es (List (Int × Int × List Int × List Int)) a_ a_h] := Cx.start hI hS
  clear hI hS
  refine enterC (args := [_, _]) gok Try.func59 rfl _ rfl rfl rfl ?_
  obtain ⟨r286, hF288, hF287⟩ := bindS hF; clear hF
  refine cut (fun (q289 : Int) => [(1, (.int .i64 q289))]) (fun (q289 : Int) w' => .inl q289 = r286 ∧ Cx w0 fp0 S0 w' []) ?_ ?_
  · skip
    refine loopW _ (fun (s470 : Int × Int) (_ : Unit) => [(0, (a_h).v), (1, (.int .i64 s470.1)), (5, (.int .i64 s470.2))]) (fun (s470 : Int × Int) (_ : Unit) w' => Cx w0 fp0 S0 w' [Es (List (Int × Int × List Int × List Int)) a_ a_h]) (k_, 0) () hF288 ⟨rfl, rfl, rfl, trivial⟩ (H.sel [0] rfl) ?_
    · clear H
      rintro T476 ⟨s470_0, s470_1⟩ _ w475 o477 (H : Cx w0 fp0 S0 w475 [Es (List (Int × Int × List Int × List Int)) a_ a_h]) hrt hF478
      refine sq ?_
      refine lenE (H.rs (α := List (Int × Int × List Int × List Int)) 0 rfl).len ?_
      obtain ⟨a479, e, hF480⟩ := bindS hF478; clear hF478
      refine boolO e ?_; clear e
      cases a479
      · have hF481 := condF hF480; clear hF480
        have hs := Option.some.inj hF481; subst hs; clear hF481
        have hF482 : some _ = some _ := congrArg some (hrt _ rfl).symm
        exact ⟨s470_0, ⟨rfl, trivial⟩, Option.some.inj hF482, H.sel [] rfl⟩
      · have hF483 := condT hF480; clear hF480
        refine sq ?_
        refine sq ?_
        obtain ⟨a490, e, hF491⟩ := bindS hF483; clear hF483
        have HH := H; clear H; obtain ⟨p488, m489, g492, c484, c485, c486, c487, H⟩ := HH.el (α := Int × Int × List Int × List Int) 0 rfl e; clear HH
        clear e
        obtain ⟨a490_0, a490_1, a490_2, a490_3⟩ := a490
        obtain ⟨_, _, h494, h495⟩ := g492
        replace H := H.part (β := List Int) a490_2 (h494 : Hd) 0 rfl (fun S h => (And.left (And.right (And.right h))))
        replace H := H.part (β := List Int) a490_3 (h495 : Hd) 1 rfl (fun S h => (And.right (And.right (And.right h))))
        replace H := H.sel [0, 1, 3] rfl
        refine idxE c484 c485 c486 ?_; clear c484 c485 c486
        refine fld gok rfl rfl rfl rfl ?_
        refine load1 (c487 0 _ rfl) ?_
        obtain ⟨a498, e, hF499⟩ := bindS hF491; clear hF491
        refine boolO e ?_; clear e
        cases a498
        · have hF500 := condF hF499; clear hF499
          obtain ⟨a501, e, hF502⟩ := bindS hF500; clear hF500
          refine arO e ?_; clear e
          refine sq ?_
          obtain ⟨a509, e, hF510⟩ := bindS hF502; clear hF502
          have HH := H; clear H; obtain ⟨p507, m508, g511, c503, c504, c505, c506, H⟩ := HH.el (α := Int × Int × List Int × List Int) 2 rfl e; clear HH
          clear e
          obtain ⟨a509_0, a509_1, a509_2, a509_3⟩ := a509
          obtain ⟨_, _, h513, h514⟩ := g511
          replace H := H.part (β := List Int) a509_2 (h513 : Hd) 0 rfl (fun S h => (And.left (And.right (And.right h))))
          replace H := H.part (β := List Int) a509_3 (h514 : Hd) 1 rfl (fun S h => (And.right (And.right (And.right h))))
          replace H := H.sel [0, 1, 3, 4, 5] rfl
          refine idxE c503 c504 c505 ?_; clear c503 c504 c505
          refine fld gok rfl rfl rfl rfl ?_
          refine load1 (c506 1 _ rfl) ?_
          obtain ⟨a517, e, hF518⟩ := bindS hF510; clear hF510
          refine boolO e ?_; clear e
          cases a517
          · have hF519 := condF hF518; clear hF518
            obtain ⟨a520, e, hF521⟩ := bindS hF519; clear hF519
            refine arO e ?_; clear e
            obtain ⟨a528, e, hF529⟩ := bindS hF521; clear hF521
            have HH := H; clear H; obtain ⟨p526, m527, g530, c522, c523, c524, c525, H⟩ := HH.el (α := Int × Int × List Int × List Int) 4 rfl e; clear HH
            clear e
            obtain ⟨a528_0, a528_1, a528_2, a528_3⟩ := a528
            obtain ⟨_, _, h532, h533⟩ := g530
            replace H := H.part (β := List Int) a528_2 (h532 : Hd) 0 rfl (fun S h => (And.left (And.right (And.right h))))
            replace H := H.part (β := List Int) a528_3 (h533 : Hd) 1 rfl (fun S h => (And.right (And.right (And.right h))))
            replace H := H.sel [0, 1, 3, 4, 5, 6, 7] rfl
            refine idxE c522 c523 c524 ?_; clear c522 c523 c524
            refine fld gok rfl rfl rfl rfl ?_
            refine load1 (c525 2 _ rfl) ?_
            obtain ⟨y536, e, hF537⟩ := bindS hF529; clear hF529
            have ey536 := e; clear e
            refine callF (laws_heldIntS_c a528_2 h532 a520 y536 ey536) (Γi := []) H ⟨Vw.sh 1 rfl, trivial⟩ ?_; clear H ey536
            rintro _ _ w538 ⟨rfl, rfl⟩ (H : Cx w0 fp0 S0 w538 [Es (List Int) a528_3 h533, Es (List Int) a528_2 h532, Es (List Int) a509_3 h514, Es (List Int) a509_2 h513, Es (List Int) a490_3 h495, Es (List Int) a490_2 h494, Es (List (Int × Int × List Int × List Int)) a_ a_h])
            refine sq ?_
            obtain ⟨a539, e, hF540⟩ := bindS hF537; clear hF537
            refine boolO e ?_; clear e
            cases a539
            · have hF541 := condF hF540; clear hF540
              obtain ⟨a548, e, hF549⟩ := bindS hF541; clear hF541
              have HH := H; clear H; obtain ⟨p546, m547, g550, c542, c543, c544, c545, H⟩ := HH.el (α := Int × Int × List Int × List Int) 6 rfl e; clear HH
              clear e
              obtain ⟨a548_0, a548_1, a548_2, a548_3⟩ := a548
              obtain ⟨_, _, h552, h553⟩ := g550
              replace H := H.part (β := List Int) a548_2 (h552 : Hd) 0 rfl (fun S h => (And.left (And.right (And.right h))))
              replace H := H.part (β := List Int) a548_3 (h553 : Hd) 1 rfl (fun S h => (And.right (And.right (And.right h))))
              replace H := H.sel [0, 1, 3, 4, 5, 6, 7, 8, 9] rfl
              refine idxE c542 c543 c544 ?_; clear c542 c543 c544
              refine fld gok rfl rfl rfl rfl ?_
              refine load1 (c545 3 _ rfl) ?_
              obtain ⟨y556, e, hF557⟩ := bindS hF549; clear hF549
              have ey556 := e; clear e
              refine callF (laws_heldIntS_c a548_3 h553 y536 y556 ey556) (Γi := []) H ⟨Vw.sh 0 rfl, trivial⟩ ?_; clear H ey556
              rintro _ _ w558 ⟨rfl, rfl⟩ (H : Cx w0 fp0 S0 w558 [Es (List Int) a548_3 h553, Es (List Int) a548_2 h552, Es (List Int) a528_3 h533, Es (List Int) a528_2 h532, Es (List Int) a509_3 h514, Es (List Int) a509_2 h513, Es (List Int) a490_3 h495, Es (List Int) a490_2 h494, Es (List (Int × Int × List Int × List Int)) a_ a_h])
              obtain ⟨a559, e, hF560⟩ := bindS hF557; clear hF557
              refine boolO e ?_; clear e
              cases a559
              · have hF561 := condF hF560; clear hF560
                obtain ⟨a562, e, hF563⟩ := bindS hF561; clear hF561
                refine arO e ?_; clear e
                have hs := Option.some.inj hF563; subst hs; clear hF563
                exact ⟨(y556, a562), (), rfl, ⟨rfl, rfl, rfl, trivial⟩, H.sel [8] rfl⟩
              · have hF564 := condT hF560; clear hF560
                have hs := Option.some.inj hF564; subst hs; clear hF564
                have hF565 : some _ = some _ := congrArg some (hrt _ rfl).symm
                have hs := Option.some.inj hF565; subst hs; clear hF565
                have hF566 : some _ = some _ := hF287; clear hF287
                cases hF566
                exact ⟨_, _, rfl, ⟨rfl, rfl⟩, (H.sel [] rfl).close trivial⟩
            · have hF567 := condT hF540; clear hF540
              have hs := Option.some.inj hF567; subst hs; clear hF567
              have hF568 : some _ = some _ := congrArg some (hrt _ rfl).symm
              have hs := Option.some.inj hF568; subst hs; clear hF568
              have hF569 : some _ = some _ := hF287; clear hF287
              cases hF569
              exact ⟨_, _, rfl, ⟨rfl, rfl⟩, (H.sel [] rfl).close trivial⟩
          · have hF570 := condT hF518; clear hF518
            have hs := Option.some.inj hF570; subst hs; clear hF570
            have hF571 : some _ = some _ := congrArg some (hrt _ rfl).symm
            have hs := Option.some.inj hF571; subst hs; clear hF571
            have hF572 : some _ = some _ := hF287; clear hF287
            cases hF572
            exact ⟨_, _, rfl, ⟨rfl, rfl⟩, (H.sel [] rfl).close trivial⟩
        · have hF573 := condT hF499; clear hF499
          have hs := Option.some.inj hF573; subst hs; clear hF573
          have hF574 : some _ = some _ := congrArg some (hrt _ rfl).symm
          have hs := Option.some.inj hF574; subst hs; clear hF574
          have hF575 : some _ = some _ := hF287; clear hF287
          cases hF575
          exact ⟨_, _, rfl, ⟨rfl, rfl⟩, (H.sel [] rfl).close trivial⟩
  · clear hF288 H
    rintro T577 s284 w576 ⟨hr, (H : Cx w0 fp0 S0 w576 [])⟩
    subst hr
    cases hF287
    exact ⟨_, _, rfl, ⟨rfl, rfl⟩, (H.sel [] rfl).close trivial⟩

theorem laws_heldGraph_c (a__0 : Int) (a__1 : List (Int × Int × List Int × List Int)) (a__1h : Hd) (a__2 : List Int) (a__2h : Hd) (a__3 : List Int) (a__3h : Hd) (k_ : Int) (y : Int) (hF : F_laws_heldGraph (a__0, a__1, a__2, a__3) k_ = some y) :
    ConF Try.prog 25 #[(.agg #[(.int .i64 a__0), (a__1h).v, (a__2h).v, (a__3h).v]), (.int .i64 k_)] [Es (List (Int × Int × List Int × List Int)) a__1 a__1h, Es (List Int) a__2 a__2h, Es (List Int) a__3 a__3h] [] (fun v Γ' => v = (.int .i64 y) ∧ Γ' = []) := by
  intro w0 S0 fp0 hI hS
  have H : Cx w0 fp0 S0 w0 [Es (List (Int × Int × List Int × List Int)) a__1 a__1h, Es (List Int) a__2 a__2h, Es (List Int) a__3 a__3h] := Cx.start hI hS
  clear hI hS
  refine enterC (args := [_, _]) gok Try.func25 rfl _ rfl rfl rfl ?_
  refine box_ H ?_; clear H; intro b5 w4 hx H
  clear hx
  replace H : Cx w0 fp0 S0 w4 [Bx b5 [(.int .i64 a__0), (a__1h).v, (a__2h).v, (a__3h).v], Es (List (Int × Int × List Int × List Int)) a__1 a__1h, Es (List Int) a__2 a__2h, Es (List Int) a__3 a__3h] := H
  refine fld gok rfl rfl rfl rfl ?_
  refine load1 (H.bx 0 rfl (j := 1) rfl) ?_
  obtain ⟨y7, e, hF8⟩ := bindS hF; clear hF
  have ey7 := e; clear e
  refine callF (laws_heldEdgeS_c a__1 a__1h k_ y7 ey7) (Γi := []) H ⟨Vw.sh 1 rfl, trivial⟩ ?_; clear H ey7
  rintro _ _ w9 ⟨rfl, rfl⟩ (H : Cx w0 fp0 S0 w9 [Bx b5 [(.int .i64 a__0), (a__1h).v, (a__2h).v, (a__3h).v], Es (List (Int × Int × List Int × List Int)) a__1 a__1h, Es (List Int) a__2 a__2h, Es (List Int) a__3 a__3h])
  refine sq ?_
  obtain ⟨a10, e, hF11⟩ := bindS hF8; clear hF8
  refine boolO e ?_; clear e
  cases a10
  · have hF12 := condF hF11; clear hF11
    refine fld gok rfl rfl rfl rfl ?_
    refine load1 (H.bx 0 rfl (j := 2) rfl) ?_
    obtain ⟨y13, e, hF14⟩ := bindS hF12; clear hF12
    have ey13 := e; clear e
    refine callF (laws_heldIntS_c a__2 a__2h y7 y13 ey13) (Γi := []) H ⟨Vw.sh 2 rfl, trivial⟩ ?_; clear H ey13
    rintro _ _ w15 ⟨rfl, rfl⟩ (H : Cx w0 fp0 S0 w15 [Bx b5 [(.int .i64 a__0), (a__1h).v, (a__2h).v, (a__3h).v], Es (List (Int × Int × List Int × List Int)) a__1 a__1h, Es (List Int) a__2 a__2h, Es (List Int) a__3 a__3h])
    refine sq ?_
    obtain ⟨a16, e, hF17⟩ := bindS hF14; clear hF14
    refine boolO e ?_; clear e
    cases a16
    · have hF18 := condF hF17; clear hF17
      refine fld gok rfl rfl rfl rfl ?_
      refine load1 (H.bx 0 rfl (j := 3) rfl) ?_
      obtain ⟨y19, e, hF20⟩ := bindS hF18; clear hF18
      have ey19 := e; clear e
      refine callF (laws_heldIntS_c a__3 a__3h y13 y19 ey19) (Γi := []) H ⟨Vw.sh 3 rfl, trivial⟩ ?_; clear H ey19
      rintro _ _ w21 ⟨rfl, rfl⟩ (H : Cx w0 fp0 S0 w21 [Bx b5 [(.int .i64 a__0), (a__1h).v, (a__2h).v, (a__3h).v], Es (List (Int × Int × List Int × List Int)) a__1 a__1h, Es (List Int) a__2 a__2h, Es (List Int) a__3 a__3h])
      refine sq ?_
      obtain ⟨a22, e, hF23⟩ := bindS hF20; clear hF20
      refine boolO e ?_; clear e
      cases a22
      · have hF24 := condF hF23; clear hF23
        cases hF24
        exact ⟨_, _, rfl, ⟨rfl, rfl⟩, (H.sel [] rfl).close trivial⟩
      · have hF25 := condT hF23; clear hF23
        cases hF25
        exact ⟨_, _, rfl, ⟨rfl, rfl⟩, (H.sel [] rfl).close trivial⟩
    · have hF26 := condT hF17; clear hF17
      cases hF26
      exact ⟨_, _, rfl, ⟨rfl, rfl⟩, (H.sel [] rfl).close trivial⟩
  · have hF27 := condT hF11; clear hF11
    cases hF27
    exact ⟨_, _, rfl, ⟨rfl, rfl⟩, (H.sel [] rfl).close trivial⟩

theorem laws_FnExactGraphOf_c (aT__0 : List (Int × Int × ByteArray)) (aT__0h : Hd) (y : Bool) (hF : F_laws_FnExactGraphOf aT__0 = some y) :
    ConF Try.prog 8 #[(.agg #[(aT__0h).v])] [Es (List (Int × Int × ByteArray)) aT__0 aT__0h] [] (fun v Γ' => v = (.bool y) ∧ Γ' = []) := by
  intro w0 S0 fp0 hI hS
  have H : Cx w0 fp0 S0 w0 [Es (List (Int × Int × ByteArray)) aT__0 aT__0h] := Cx.start hI hS
  clear hI hS
  refine enterC (args := [_]) gok Try.func8 rfl _ rfl rfl rfl ?_
  refine box_ H ?_; clear H; intro b3 w2 hx H
  clear hx
  replace H : Cx w0 fp0 S0 w2 [Bx b3 [(aT__0h).v], Es (List (Int × Int × ByteArray)) aT__0 aT__0h] := H
  refine loadN [(aT__0h).v] rfl (fun j u hj => H.bx 0 rfl hj) ?_
  obtain ⟨y5, e, hF6⟩ := bindS hF; clear hF
  have ey5 := e; clear e
  refine callF (laws_szTerm_c aT__0 aT__0h 1048576 y5 ey5) (Γi := []) H ⟨Vw.sh 1 rfl, trivial⟩ ?_; clear H ey5
  rintro _ _ w7 ⟨rfl, rfl⟩ (H : Cx w0 fp0 S0 w7 [Bx b3 [(aT__0h).v], Es (List (Int × Int × ByteArray)) aT__0 aT__0h])
  refine sq ?_
  obtain ⟨a8, e, hF9⟩ := bindS hF6; clear hF6
  refine boolO e ?_; clear e
  cases a8
  · have hF10 := condF hF9; clear hF9
    refine loadN [(aT__0h).v] rfl (fun j u hj => H.bx 0 rfl hj) ?_
    obtain ⟨y11, e, hF12⟩ := bindS hF10; clear hF10
    obtain ⟨y11_0, rfl⟩ : ∃ z, z = y11 := ⟨_, rfl⟩
    have ey11 := e; clear e
    refine callF (laws_toTerm_c aT__0 aT__0h y11_0 ey11) (Γi := []) H ⟨Vw.sh 1 rfl, trivial⟩ ?_; clear H ey11
    rintro _ _ w13 ⟨h14, rfl, rfl⟩ (H : Cx w0 fp0 S0 w13 [E (List (Int × Int × ByteArray)) y11_0 h14, Bx b3 [(aT__0h).v], Es (List (Int × Int × ByteArray)) aT__0 aT__0h])
    obtain ⟨y16, e, hF17⟩ := bindS hF12; clear hF12
    obtain ⟨⟨y16_0_0, y16_0_1, y16_0_2, y16_0_3⟩, y16_1⟩ := y16
    have ey16 := e; clear e
    replace H := H.frz
    refine callS (spec_GraphOf_c y11_0 h14 y16_0_0 y16_0_1 y16_0_2 y16_0_3 y16_1 ey16) (Γi := []) H [0] rfl (persC persS persN) ?_; clear H ey16
    rintro _ _ w18 ⟨h19, h21, h23, rfl, rfl⟩ (H : Cx w0 fp0 S0 w18 [Es (List (Int × Int × List Int × List Int)) y16_0_1 h19, Es (List Int) y16_0_2 h21, Es (List Int) y16_0_3 h23, Es (List (Int × Int × ByteArray)) y11_0 h14, Bx b3 [(aT__0h).v], Es (List (Int × Int × ByteArray)) aT__0 aT__0h])
    refine alloc_ gok rfl H ?_; clear H; intro b26 w25 hx H
    clear hx
    replace H : Cx w0 fp0 S0 w25 [Bx b26 [(.int .i64 0), (.slice none 0 0), (.slice none 0 0), (.slice none 0 0)], Es (List (Int × Int × List Int × List Int)) y16_0_1 h19, Es (List Int) y16_0_2 h21, Es (List Int) y16_0_3 h23, Es (List (Int × Int × ByteArray)) y11_0 h14, Bx b3 [(aT__0h).v], Es (List (Int × Int × ByteArray)) aT__0 aT__0h] := H
    refine stA gok [(.int .i64 y16_0_0), (h19).v, (h21).v, (h23).v] rfl H rfl rfl rfl ?_; clear H; intro w28 H
    replace H : Cx w0 fp0 S0 w28 [Bx b26 [(.int .i64 y16_0_0), (h19).v, (h21).v, (h23).v], Es (List (Int × Int × List Int × List Int)) y16_0_1 h19, Es (List Int) y16_0_2 h21, Es (List Int) y16_0_3 h23, Es (List (Int × Int × ByteArray)) y11_0 h14, Bx b3 [(aT__0h).v], Es (List (Int × Int × ByteArray)) aT__0 aT__0h] := H
    refine loadN [(aT__0h).v] rfl (fun j u hj => H.bx 5 rfl hj) ?_
    obtain ⟨y29, e, hF30⟩ := bindS hF17; clear hF17
    obtain ⟨y29_0, rfl⟩ : ∃ z, z = y29 := ⟨_, rfl⟩
    have ey29 := e; clear e
    refine callF (laws_toTerm_c aT__0 aT__0h y29_0 ey29) (Γi := []) H ⟨Vw.sh 6 rfl, trivial⟩ ?_; clear H ey29
    rintro _ _ w31 ⟨h32, rfl, rfl⟩ (H : Cx w0 fp0 S0 w31 [E (List (Int × Int × ByteArray)) y29_0 h32, Bx b26 [(.int .i64 y16_0_0), (h19).v, (h21).v, (h23).v], Es (List (Int × Int × List Int × List Int)) y16_0_1 h19, Es (List Int) y16_0_2 h21, Es (List Int) y16_0_3 h23, Es (List (Int × Int × ByteArray)) y11_0 h14, Bx b3 [(aT__0h).v], Es (List (Int × Int × ByteArray)) aT__0 aT__0h])
    refine alloc_ gok rfl H ?_; clear H; intro b35 w34 hx H
    clear hx
    replace H : Cx w0 fp0 S0 w34 [Bx b35 [(.slice none 0 0)], E (List (Int × Int × ByteArray)) y29_0 h32, Bx b26 [(.int .i64 y16_0_0), (h19).v, (h21).v, (h23).v], Es (List (Int × Int × List Int × List Int)) y16_0_1 h19, Es (List Int) y16_0_2 h21, Es (List Int) y16_0_3 h23, Es (List (Int × Int × ByteArray)) y11_0 h14, Bx b3 [(aT__0h).v], Es (List (Int × Int × ByteArray)) aT__0 aT__0h] := H
    refine stA gok [(h32).v] rfl H rfl rfl rfl ?_; clear H; intro w37 H
    replace H : Cx w0 fp0 S0 w37 [Bx b35 [(h32).v], E (List (Int × Int × ByteArray)) y29_0 h32, Bx b26 [(.int .i64 y16_0_0), (h19).v, (h21).v, (h23).v], Es (List (Int × Int × List Int × List Int)) y16_0_1 h19, Es (List Int) y16_0_2 h21, Es (List Int) y16_0_3 h23, Es (List (Int × Int × ByteArray)) y11_0 h14, Bx b3 [(aT__0h).v], Es (List (Int × Int × ByteArray)) aT__0 aT__0h] := H
    refine loadN [(h32).v] rfl (fun j u hj => H.bx 0 rfl hj) ?_
    obtain ⟨y38, e, hF39⟩ := bindS hF30; clear hF30
    obtain ⟨⟨y38_0_0, y38_0_1, y38_0_2, y38_0_3⟩, y38_1⟩ := y38
    have ey38 := e; clear e
    refine callF (impl_GraphOf_c y29_0 h32 y38_0_0 y38_0_1 y38_0_2 y38_0_3 y38_1 ey38) (Γi := []) H ⟨Vw.own 1 rfl, trivial⟩ ?_; clear H ey38
    rintro _ _ w40 ⟨h41, h43, h45, rfl, rfl⟩ (H : Cx w0 fp0 S0 w40 [E (List (Int × Int × List Int × List Int)) y38_0_1 h41, E (List Int) y38_0_2 h43, E (List Int) y38_0_3 h45, Bx b35 [(h32).v], E (List (Int × Int × ByteArray)) y29_0 h32, Bx b26 [(.int .i64 y16_0_0), (h19).v, (h21).v, (h23).v], Es (List (Int × Int × List Int × List Int)) y16_0_1 h19, Es (List Int) y16_0_2 h21, Es (List Int) y16_0_3 h23, Es (List (Int × Int × ByteArray)) y11_0 h14, Bx b3 [(aT__0h).v], Es (List (Int × Int × ByteArray)) aT__0 aT__0h])
    refine alloc_ gok rfl H ?_; clear H; intro b48 w47 hx H
    clear hx
    replace H : Cx w0 fp0 S0 w47 [Bx b48 [(.int .i64 0), (.slice none 0 0), (.slice none 0 0), (.slice none 0 0)], E (List (Int × Int × List Int × List Int)) y38_0_1 h41, E (List Int) y38_0_2 h43, E (List Int) y38_0_3 h45, Bx b35 [(h32).v], E (List (Int × Int × ByteArray)) y29_0 h32, Bx b26 [(.int .i64 y16_0_0), (h19).v, (h21).v, (h23).v], Es (List (Int × Int × List Int × List Int)) y16_0_1 h19, Es (List Int) y16_0_2 h21, Es (List Int) y16_0_3 h23, Es (List (Int × Int × ByteArray)) y11_0 h14, Bx b3 [(aT__0h).v], Es (List (Int × Int × ByteArray)) aT__0 aT__0h] := H
    refine stA gok [(.int .i64 y38_0_0), (h41).v, (h43).v, (h45).v] rfl H rfl rfl rfl ?_; clear H; intro w50 H
    replace H : Cx w0 fp0 S0 w50 [Bx b48 [(.int .i64 y38_0_0), (h41).v, (h43).v, (h45).v], E (List (Int × Int × List Int × List Int)) y38_0_1 h41, E (List Int) y38_0_2 h43, E (List Int) y38_0_3 h45, Bx b35 [(h32).v], E (List (Int × Int × ByteArray)) y29_0 h32, Bx b26 [(.int .i64 y16_0_0), (h19).v, (h21).v, (h23).v], Es (List (Int × Int × List Int × List Int)) y16_0_1 h19, Es (List Int) y16_0_2 h21, Es (List Int) y16_0_3 h23, Es (List (Int × Int × ByteArray)) y11_0 h14, Bx b3 [(aT__0h).v], Es (List (Int × Int × ByteArray)) aT__0 aT__0h] := H
    refine sq ?_
    obtain ⟨r62, hF64, hF63⟩ := bindS hF39; clear hF39
    refine cut (fun (q65 : Bool) => [(1, (.pointer (some ⟨b3, 0, none⟩))), (4, (.pointer (some ⟨b26, 0, none⟩))), (5, (.bool y16_1)), (6, (.pointer (some ⟨b35, 0, none⟩))), (7, (.pointer (some ⟨b48, 0, none⟩))), (8, (.bool y38_1)), (40, (.bool q65))]) (fun (q65 : Bool) w' => q65 = r62 ∧ Cx w0 fp0 S0 w' [Bx b3 [(aT__0h).v], Es (List (Int × Int × ByteArray)) aT__0 aT__0h, Bx b26 [(.int .i64 y16_0_0), (h19).v, (h21).v, (h23).v], Es (List (Int × Int × List Int × List Int)) y16_0_1 h19, Es (List Int) y16_0_2 h21, Es (List Int) y16_0_3 h23, Bx b35 [(h32).v], E (List (Int × Int × ByteArray)) y29_0 h32, Bx b48 [(.int .i64 y38_0_0), (h41).v, (h43).v, (h45).v], E (List (Int × Int × List Int × List Int)) y38_0_1 h41, E (List Int) y38_0_2 h43, E (List Int) y38_0_3 h45]) ?_ ?_
    · skip
      refine loadN [(.int .i64 y38_0_0), (h41).v, (h43).v, (h45).v] rfl (fun j u hj => H.bx 0 rfl hj) ?_
      refine loadN [(.int .i64 y16_0_0), (h19).v, (h21).v, (h23).v] rfl (fun j u hj => H.bx 6 rfl hj) ?_
      obtain ⟨y66, e, hF67⟩ := bindS hF64; clear hF64
      have ey66 := e; clear e
      refine callF (laws_eqGraph_c y38_0_0 y38_0_1 h41 y38_0_2 h43 y38_0_3 h45 y16_0_0 y16_0_1 h19 y16_0_2 h21 y16_0_3 h23 y66 ey66) (Γi := []) H ⟨Vw.own 1 rfl, Vw.own 2 rfl, Vw.own 3 rfl, Vw.sh 7 rfl, Vw.sh 8 rfl, Vw.sh 9 rfl, trivial⟩ ?_; clear H ey66
      rintro _ _ w68 ⟨rfl, rfl⟩ (H : Cx w0 fp0 S0 w68 [Bx b48 [(.int .i64 y38_0_0), (h41).v, (h43).v, (h45).v], E (List (Int × Int × List Int × List Int)) y38_0_1 h41, E (List Int) y38_0_2 h43, E (List Int) y38_0_3 h45, Bx b35 [(h32).v], E (List (Int × Int × ByteArray)) y29_0 h32, Bx b26 [(.int .i64 y16_0_0), (h19).v, (h21).v, (h23).v], Es (List (Int × Int × List Int × List Int)) y16_0_1 h19, Es (List Int) y16_0_2 h21, Es (List Int) y16_0_3 h23, Es (List (Int × Int × ByteArray)) y11_0 h14, Bx b3 [(aT__0h).v], Es (List (Int × Int × ByteArray)) aT__0 aT__0h])
      obtain ⟨a69, e, hF70⟩ := bindS hF67; clear hF67
      refine boolO e ?_; clear e
      cases a69
      · have hF71 := condF hF70; clear hF70
        obtain ⟨a72, e, hF73⟩ := bindS hF71; clear hF71
        refine boolO e ?_; clear e
        exact ⟨a72, ⟨rfl, rfl, rfl, rfl, rfl, rfl, rfl, trivial⟩, Option.some.inj hF73, H.sel [11, 12, 6, 7, 8, 9, 4, 5, 0, 1, 2, 3] rfl⟩
      · have hF74 := condT hF70; clear hF70
        exact ⟨true, ⟨rfl, rfl, rfl, rfl, rfl, rfl, rfl, trivial⟩, Option.some.inj hF74, H.sel [11, 12, 6, 7, 8, 9, 4, 5, 0, 1, 2, 3] rfl⟩
    · clear hF64 H
      rintro T76 s60 w75 ⟨hr, (H : Cx w0 fp0 S0 w75 [Bx b3 [(aT__0h).v], Es (List (Int × Int × ByteArray)) aT__0 aT__0h, Bx b26 [(.int .i64 y16_0_0), (h19).v, (h21).v, (h23).v], Es (List (Int × Int × List Int × List Int)) y16_0_1 h19, Es (List Int) y16_0_2 h21, Es (List Int) y16_0_3 h23, Bx b35 [(h32).v], E (List (Int × Int × ByteArray)) y29_0 h32, Bx b48 [(.int .i64 y38_0_0), (h41).v, (h43).v, (h45).v], E (List (Int × Int × List Int × List Int)) y38_0_1 h41, E (List Int) y38_0_2 h43, E (List Int) y38_0_3 h45])⟩
      subst hr
      cases s60
      · have hF77 := condF hF63; clear hF63
        refine sq ?_
        refine heldX H [] (.fst 0 (.fst 1 (.act 2 (.act 3 (.fst 4 .done))))) mixed [] trivial (by kernel_rfl) ?_
        clear H; intro w78 H
        have hX : Ext w78 w78 := Upd.refl _ _
        have H0 := H
        refine loadNX [(h32).v] rfl (fun j u hj => H.bx 6 rfl hj) ?_
        refine loadNX [(aT__0h).v] rfl (fun j u hj => H.bx 0 rfl hj) ?_
        obtain ⟨y79, e, hF80⟩ := bindS hF77; clear hF77
        obtain ⟨y79_0, rfl⟩ : ∃ z, z = y79 := ⟨_, rfl⟩
        have ey79 := e; clear e
        refine callFx (laws_toTerm_c aT__0 aT__0h y79_0 ey79) H ⟨Vw.sh 1 rfl, trivial⟩ ?_; clear H ey79
        rintro _ _ w81 ⟨h82, rfl, rfl⟩ hx (H : Cx w0 fp0 S0 w81 [E (List (Int × Int × ByteArray)) y79_0 h82, Bx b3 [(aT__0h).v], Es (List (Int × Int × ByteArray)) aT__0 aT__0h, Bx b26 [(.int .i64 y16_0_0), (h19).v, (h21).v, (h23).v], Es (List (Int × Int × List Int × List Int)) y16_0_1 h19, Es (List Int) y16_0_2 h21, Es (List Int) y16_0_3 h23, Bx b35 [(h32).v], E (List (Int × Int × ByteArray)) y29_0 h32, Bx b48 [(.int .i64 y38_0_0), (h41).v, (h43).v, (h45).v], E (List (Int × Int × List Int × List Int)) y38_0_1 h41, E (List Int) y38_0_2 h43, E (List Int) y38_0_3 h45])
        replace hX := hX.trans0 hx; clear hx
        refine hold hX ?_
        obtain ⟨y84, e, hF85⟩ := bindS hF80; clear hF80
        have ey84 := e; clear e
        refine callFx (laws_eqTerm_c y29_0 h32 y79_0 h82 y84 ey84) H ⟨Vw.own 8 rfl, Vw.own 0 rfl, trivial⟩ ?_; clear H ey84
        rintro _ _ w86 ⟨rfl, rfl⟩ hx (H : Cx w0 fp0 S0 w86 [E (List (Int × Int × ByteArray)) y79_0 h82, Bx b3 [(aT__0h).v], Es (List (Int × Int × ByteArray)) aT__0 aT__0h, Bx b26 [(.int .i64 y16_0_0), (h19).v, (h21).v, (h23).v], Es (List (Int × Int × List Int × List Int)) y16_0_1 h19, Es (List Int) y16_0_2 h21, Es (List Int) y16_0_3 h23, Bx b35 [(h32).v], E (List (Int × Int × ByteArray)) y29_0 h32, Bx b48 [(.int .i64 y38_0_0), (h41).v, (h43).v, (h45).v], E (List (Int × Int × List Int × List Int)) y38_0_1 h41, E (List Int) y38_0_2 h43, E (List Int) y38_0_3 h45])
        replace hX := hX.trans0 hx; clear hx
        refine hold hX ?_
        obtain ⟨a87, e, hF88⟩ := bindS hF85; clear hF85
        refine boolO e ?_; clear e
        cases a87
        · have hF89 := condF hF88; clear hF88
          refine loadN [(h32).v] rfl (fun j u hj => H.bx 7 rfl hj) ?_
          obtain ⟨y90, e, hF91⟩ := bindS hF89; clear hF89
          obtain ⟨y90_0_0, y90_1⟩ := y90
          have ey90 := e; clear e
          replace H := H.sel [8, 0, 1, 2, 3, 4, 5, 6, 7, 9, 10, 11, 12] rfl
          refine callF (laws_markTerm_c y29_0 h32 1 y90_0_0 y90_1 ey90) (Γi := [E (List (Int × Int × ByteArray)) y29_0 h32]) H trivial ?_; clear H ey90
          rintro _ _ w92 ⟨rfl, rfl⟩ (H : Cx w0 fp0 S0 w92 [E (List (Int × Int × ByteArray)) y90_0_0 h32, E (List (Int × Int × ByteArray)) y79_0 h82, Bx b3 [(aT__0h).v], Es (List (Int × Int × ByteArray)) aT__0 aT__0h, Bx b26 [(.int .i64 y16_0_0), (h19).v, (h21).v, (h23).v], Es (List (Int × Int × List Int × List Int)) y16_0_1 h19, Es (List Int) y16_0_2 h21, Es (List Int) y16_0_3 h23, Bx b35 [(h32).v], Bx b48 [(.int .i64 y38_0_0), (h41).v, (h43).v, (h45).v], E (List (Int × Int × List Int × List Int)) y38_0_1 h41, E (List Int) y38_0_2 h43, E (List Int) y38_0_3 h45])
          refine sq ?_
          obtain ⟨r108, hF110, hF109⟩ := bindS hF91; clear hF91
          refine cut (fun (q111 : Bool) => [(1, (.pointer (some ⟨b3, 0, none⟩))), (4, (.pointer (some ⟨b26, 0, none⟩))), (5, (.bool y16_1)), (7, (.pointer (some ⟨b48, 0, none⟩))), (61, (.bool q111))]) (fun (q111 : Bool) w' => q111 = r108 ∧ Cx w0 fp0 S0 w' [Bx b3 [(aT__0h).v], Es (List (Int × Int × ByteArray)) aT__0 aT__0h, Bx b26 [(.int .i64 y16_0_0), (h19).v, (h21).v, (h23).v], Es (List (Int × Int × List Int × List Int)) y16_0_1 h19, Es (List Int) y16_0_2 h21, Es (List Int) y16_0_3 h23, Bx b48 [(.int .i64 y38_0_0), (h41).v, (h43).v, (h45).v], E (List (Int × Int × List Int × List Int)) y38_0_1 h41, E (List Int) y38_0_2 h43, E (List Int) y38_0_3 h45]) ?_ ?_
          · skip
            obtain ⟨a112, e, hF113⟩ := bindS hF110; clear hF110
            refine boolO e ?_; clear e
            cases a112
            · have hF114 := condF hF113; clear hF113
              refine loadN [(.int .i64 y38_0_0), (h41).v, (h43).v, (h45).v] rfl (fun j u hj => H.bx 9 rfl hj) ?_
              refine loadN [(.int .i64 y16_0_0), (h19).v, (h21).v, (h23).v] rfl (fun j u hj => H.bx 4 rfl hj) ?_
              obtain ⟨y115, e, hF116⟩ := bindS hF114; clear hF114
              have ey115 := e; clear e
              refine callF (laws_eqGraph_c y38_0_0 y38_0_1 h41 y38_0_2 h43 y38_0_3 h45 y16_0_0 y16_0_1 h19 y16_0_2 h21 y16_0_3 h23 y115 ey115) (Γi := []) H ⟨Vw.own 10 rfl, Vw.own 11 rfl, Vw.own 12 rfl, Vw.sh 5 rfl, Vw.sh 6 rfl, Vw.sh 7 rfl, trivial⟩ ?_; clear H ey115
              rintro _ _ w117 ⟨rfl, rfl⟩ (H : Cx w0 fp0 S0 w117 [E (List (Int × Int × ByteArray)) y90_0_0 h32, E (List (Int × Int × ByteArray)) y79_0 h82, Bx b3 [(aT__0h).v], Es (List (Int × Int × ByteArray)) aT__0 aT__0h, Bx b26 [(.int .i64 y16_0_0), (h19).v, (h21).v, (h23).v], Es (List (Int × Int × List Int × List Int)) y16_0_1 h19, Es (List Int) y16_0_2 h21, Es (List Int) y16_0_3 h23, Bx b35 [(h32).v], Bx b48 [(.int .i64 y38_0_0), (h41).v, (h43).v, (h45).v], E (List (Int × Int × List Int × List Int)) y38_0_1 h41, E (List Int) y38_0_2 h43, E (List Int) y38_0_3 h45])
              obtain ⟨a118, e, hF119⟩ := bindS hF116; clear hF116
              refine boolO e ?_; clear e
              cases a118
              · have hF120 := condF hF119; clear hF119
                obtain ⟨a121, e, hF122⟩ := bindS hF120; clear hF120
                refine boolO e ?_; clear e
                exact ⟨a121, ⟨rfl, rfl, rfl, rfl, rfl, trivial⟩, Option.some.inj hF122, H.sel [2, 3, 4, 5, 6, 7, 9, 10, 11, 12] rfl⟩
              · have hF123 := condT hF119; clear hF119
                exact ⟨true, ⟨rfl, rfl, rfl, rfl, rfl, trivial⟩, Option.some.inj hF123, H.sel [2, 3, 4, 5, 6, 7, 9, 10, 11, 12] rfl⟩
            · have hF124 := condT hF113; clear hF113
              exact ⟨true, ⟨rfl, rfl, rfl, rfl, rfl, trivial⟩, Option.some.inj hF124, H.sel [2, 3, 4, 5, 6, 7, 9, 10, 11, 12] rfl⟩
          · clear hF110 H
            rintro T126 s106 w125 ⟨hr, (H : Cx w0 fp0 S0 w125 [Bx b3 [(aT__0h).v], Es (List (Int × Int × ByteArray)) aT__0 aT__0h, Bx b26 [(.int .i64 y16_0_0), (h19).v, (h21).v, (h23).v], Es (List (Int × Int × List Int × List Int)) y16_0_1 h19, Es (List Int) y16_0_2 h21, Es (List Int) y16_0_3 h23, Bx b48 [(.int .i64 y38_0_0), (h41).v, (h43).v, (h45).v], E (List (Int × Int × List Int × List Int)) y38_0_1 h41, E (List Int) y38_0_2 h43, E (List Int) y38_0_3 h45])⟩
            subst hr
            cases s106
            · have hF127 := condF hF109; clear hF109
              refine loadN [(.int .i64 y38_0_0), (h41).v, (h43).v, (h45).v] rfl (fun j u hj => H.bx 6 rfl hj) ?_
              obtain ⟨y128, e, hF129⟩ := bindS hF127; clear hF127
              obtain ⟨⟨y128_0_0, y128_0_1, y128_0_2, y128_0_3⟩, y128_1⟩ := y128
              have ey128 := e; clear e
              replace H := H.sel [7, 8, 9, 0, 1, 2, 3, 4, 5, 6] rfl
              refine callF (laws_markGraph_c y38_0_0 y38_0_1 h41 y38_0_2 h43 y38_0_3 h45 1 y128_0_0 y128_0_1 y128_0_2 y128_0_3 y128_1 ey128) (Γi := [E (List (Int × Int × List Int × List Int)) y38_0_1 h41, E (List Int) y38_0_2 h43, E (List Int) y38_0_3 h45]) H trivial ?_; clear H ey128
              rintro _ _ w130 ⟨rfl, rfl⟩ (H : Cx w0 fp0 S0 w130 [E (List (Int × Int × List Int × List Int)) y128_0_1 h41, E (List Int) y128_0_2 h43, E (List Int) y128_0_3 h45, Bx b3 [(aT__0h).v], Es (List (Int × Int × ByteArray)) aT__0 aT__0h, Bx b26 [(.int .i64 y16_0_0), (h19).v, (h21).v, (h23).v], Es (List (Int × Int × List Int × List Int)) y16_0_1 h19, Es (List Int) y16_0_2 h21, Es (List Int) y16_0_3 h23, Bx b48 [(.int .i64 y38_0_0), (h41).v, (h43).v, (h45).v]])
              refine loadN [(.int .i64 y38_0_0), (h41).v, (h43).v, (h45).v] rfl (fun j u hj => H.bx 9 rfl hj) ?_
              obtain ⟨y131, e, hF132⟩ := bindS hF129; clear hF129
              have ey131 := e; clear e
              refine callF (laws_heldGraph_c y38_0_0 y128_0_1 h41 y128_0_2 h43 y128_0_3 h45 1 y131 ey131) (Γi := []) H ⟨Vw.own 0 rfl, Vw.own 1 rfl, Vw.own 2 rfl, trivial⟩ ?_; clear H ey131
              rintro _ _ w133 ⟨rfl, rfl⟩ (H : Cx w0 fp0 S0 w133 [E (List (Int × Int × List Int × List Int)) y128_0_1 h41, E (List Int) y128_0_2 h43, E (List Int) y128_0_3 h45, Bx b3 [(aT__0h).v], Es (List (Int × Int × ByteArray)) aT__0 aT__0h, Bx b26 [(.int .i64 y16_0_0), (h19).v, (h21).v, (h23).v], Es (List (Int × Int × List Int × List Int)) y16_0_1 h19, Es (List Int) y16_0_2 h21, Es (List Int) y16_0_3 h23, Bx b48 [(.int .i64 y38_0_0), (h41).v, (h43).v, (h45).v]])
              refine sq ?_
              obtain ⟨a134, e, hF135⟩ := bindS hF132; clear hF132
              refine boolO e ?_; clear e
              cases a134
              · have hF136 := condF hF135; clear hF135
                refine sq ?_
                obtain ⟨a137, e, hF138⟩ := bindS hF136; clear hF136
                refine boolO e ?_; clear e
                cases a137
                · have hF139 := condF hF138; clear hF138
                  refine loadN [(aT__0h).v] rfl (fun j u hj => H.bx 3 rfl hj) ?_
                  obtain ⟨y140, e, hF141⟩ := bindS hF139; clear hF139
                  obtain ⟨y140_0, rfl⟩ : ∃ z, z = y140 := ⟨_, rfl⟩
                  have ey140 := e; clear e
                  refine callF (laws_toTerm_c aT__0 aT__0h y140_0 ey140) (Γi := []) H ⟨Vw.sh 4 rfl, trivial⟩ ?_; clear H ey140
                  rintro _ _ w142 ⟨h143, rfl, rfl⟩ (H : Cx w0 fp0 S0 w142 [E (List (Int × Int × ByteArray)) y140_0 h143, E (List (Int × Int × List Int × List Int)) y128_0_1 h41, E (List Int) y128_0_2 h43, E (List Int) y128_0_3 h45, Bx b3 [(aT__0h).v], Es (List (Int × Int × ByteArray)) aT__0 aT__0h, Bx b26 [(.int .i64 y16_0_0), (h19).v, (h21).v, (h23).v], Es (List (Int × Int × List Int × List Int)) y16_0_1 h19, Es (List Int) y16_0_2 h21, Es (List Int) y16_0_3 h23, Bx b48 [(.int .i64 y38_0_0), (h41).v, (h43).v, (h45).v]])
                  obtain ⟨y145, e, hF146⟩ := bindS hF141; clear hF141
                  obtain ⟨⟨y145_0_0, y145_0_1, y145_0_2, y145_0_3⟩, y145_1⟩ := y145
                  have ey145 := e; clear e
                  refine callF (impl_GraphOf_c y140_0 h143 y145_0_0 y145_0_1 y145_0_2 y145_0_3 y145_1 ey145) (Γi := []) H ⟨Vw.own 0 rfl, trivial⟩ ?_; clear H ey145
                  rintro _ _ w147 ⟨h148, h150, h152, rfl, rfl⟩ (H : Cx w0 fp0 S0 w147 [E (List (Int × Int × List Int × List Int)) y145_0_1 h148, E (List Int) y145_0_2 h150, E (List Int) y145_0_3 h152, E (List (Int × Int × ByteArray)) y140_0 h143, E (List (Int × Int × List Int × List Int)) y128_0_1 h41, E (List Int) y128_0_2 h43, E (List Int) y128_0_3 h45, Bx b3 [(aT__0h).v], Es (List (Int × Int × ByteArray)) aT__0 aT__0h, Bx b26 [(.int .i64 y16_0_0), (h19).v, (h21).v, (h23).v], Es (List (Int × Int × List Int × List Int)) y16_0_1 h19, Es (List Int) y16_0_2 h21, Es (List Int) y16_0_3 h23, Bx b48 [(.int .i64 y38_0_0), (h41).v, (h43).v, (h45).v]])
                  refine alloc_ gok rfl H ?_; clear H; intro b155 w154 hx H
                  clear hx
                  replace H : Cx w0 fp0 S0 w154 [Bx b155 [(.int .i64 0), (.slice none 0 0), (.slice none 0 0), (.slice none 0 0)], E (List (Int × Int × List Int × List Int)) y145_0_1 h148, E (List Int) y145_0_2 h150, E (List Int) y145_0_3 h152, E (List (Int × Int × ByteArray)) y140_0 h143, E (List (Int × Int × List Int × List Int)) y128_0_1 h41, E (List Int) y128_0_2 h43, E (List Int) y128_0_3 h45, Bx b3 [(aT__0h).v], Es (List (Int × Int × ByteArray)) aT__0 aT__0h, Bx b26 [(.int .i64 y16_0_0), (h19).v, (h21).v, (h23).v], Es (List (Int × Int × List Int × List Int)) y16_0_1 h19, Es (List Int) y16_0_2 h21, Es (List Int) y16_0_3 h23, Bx b48 [(.int .i64 y38_0_0), (h41).v, (h43).v, (h45).v]] := H
                  refine stA gok [(.int .i64 y145_0_0), (h148).v, (h150).v, (h152).v] rfl H rfl rfl rfl ?_; clear H; intro w157 H
                  replace H : Cx w0 fp0 S0 w157 [Bx b155 [(.int .i64 y145_0_0), (h148).v, (h150).v, (h152).v], E (List (Int × Int × List Int × List Int)) y145_0_1 h148, E (List Int) y145_0_2 h150, E (List Int) y145_0_3 h152, E (List (Int × Int × ByteArray)) y140_0 h143, E (List (Int × Int × List Int × List Int)) y128_0_1 h41, E (List Int) y128_0_2 h43, E (List Int) y128_0_3 h45, Bx b3 [(aT__0h).v], Es (List (Int × Int × ByteArray)) aT__0 aT__0h, Bx b26 [(.int .i64 y16_0_0), (h19).v, (h21).v, (h23).v], Es (List (Int × Int × List Int × List Int)) y16_0_1 h19, Es (List Int) y16_0_2 h21, Es (List Int) y16_0_3 h23, Bx b48 [(.int .i64 y38_0_0), (h41).v, (h43).v, (h45).v]] := H
                  refine sq ?_
                  obtain ⟨r169, hF171, hF170⟩ := bindS hF146; clear hF146
                  refine cut (fun (q172 : Bool) => [(7, (.pointer (some ⟨b48, 0, none⟩))), (10, (.int .i64 y128_1)), (87, (.bool q172))]) (fun (q172 : Bool) w' => q172 = r169 ∧ Cx w0 fp0 S0 w' [Bx b48 [(.int .i64 y38_0_0), (h41).v, (h43).v, (h45).v], E (List (Int × Int × List Int × List Int)) y128_0_1 h41, E (List Int) y128_0_2 h43, E (List Int) y128_0_3 h45]) ?_ ?_
                  · skip
                    refine loadN [(.int .i64 y145_0_0), (h148).v, (h150).v, (h152).v] rfl (fun j u hj => H.bx 0 rfl hj) ?_
                    refine loadN [(.int .i64 y16_0_0), (h19).v, (h21).v, (h23).v] rfl (fun j u hj => H.bx 10 rfl hj) ?_
                    obtain ⟨y173, e, hF174⟩ := bindS hF171; clear hF171
                    have ey173 := e; clear e
                    refine callF (laws_eqGraph_c y145_0_0 y145_0_1 h148 y145_0_2 h150 y145_0_3 h152 y16_0_0 y16_0_1 h19 y16_0_2 h21 y16_0_3 h23 y173 ey173) (Γi := []) H ⟨Vw.own 1 rfl, Vw.own 2 rfl, Vw.own 3 rfl, Vw.sh 11 rfl, Vw.sh 12 rfl, Vw.sh 13 rfl, trivial⟩ ?_; clear H ey173
                    rintro _ _ w175 ⟨rfl, rfl⟩ (H : Cx w0 fp0 S0 w175 [Bx b155 [(.int .i64 y145_0_0), (h148).v, (h150).v, (h152).v], E (List (Int × Int × List Int × List Int)) y145_0_1 h148, E (List Int) y145_0_2 h150, E (List Int) y145_0_3 h152, E (List (Int × Int × ByteArray)) y140_0 h143, E (List (Int × Int × List Int × List Int)) y128_0_1 h41, E (List Int) y128_0_2 h43, E (List Int) y128_0_3 h45, Bx b3 [(aT__0h).v], Es (List (Int × Int × ByteArray)) aT__0 aT__0h, Bx b26 [(.int .i64 y16_0_0), (h19).v, (h21).v, (h23).v], Es (List (Int × Int × List Int × List Int)) y16_0_1 h19, Es (List Int) y16_0_2 h21, Es (List Int) y16_0_3 h23, Bx b48 [(.int .i64 y38_0_0), (h41).v, (h43).v, (h45).v]])
                    obtain ⟨a176, e, hF177⟩ := bindS hF174; clear hF174
                    refine boolO e ?_; clear e
                    cases a176
                    · have hF178 := condF hF177; clear hF177
                      obtain ⟨a179, e, hF180⟩ := bindS hF178; clear hF178
                      refine boolO e ?_; clear e
                      exact ⟨a179, ⟨rfl, rfl, rfl, trivial⟩, Option.some.inj hF180, H.sel [14, 5, 6, 7] rfl⟩
                    · have hF181 := condT hF177; clear hF177
                      exact ⟨true, ⟨rfl, rfl, rfl, trivial⟩, Option.some.inj hF181, H.sel [14, 5, 6, 7] rfl⟩
                  · clear hF171 H
                    rintro T183 s167 w182 ⟨hr, (H : Cx w0 fp0 S0 w182 [Bx b48 [(.int .i64 y38_0_0), (h41).v, (h43).v, (h45).v], E (List (Int × Int × List Int × List Int)) y128_0_1 h41, E (List Int) y128_0_2 h43, E (List Int) y128_0_3 h45])⟩
                    subst hr
                    cases s167
                    · have hF184 := condF hF170; clear hF170
                      refine loadN [(.int .i64 y38_0_0), (h41).v, (h43).v, (h45).v] rfl (fun j u hj => H.bx 0 rfl hj) ?_
                      obtain ⟨y185, e, hF186⟩ := bindS hF184; clear hF184
                      have ey185 := e; clear e
                      refine callF (laws_heldGraph_c y38_0_0 y128_0_1 h41 y128_0_2 h43 y128_0_3 h45 1 y185 ey185) (Γi := []) H ⟨Vw.own 1 rfl, Vw.own 2 rfl, Vw.own 3 rfl, trivial⟩ ?_; clear H ey185
                      rintro _ _ w187 ⟨rfl, rfl⟩ (H : Cx w0 fp0 S0 w187 [Bx b48 [(.int .i64 y38_0_0), (h41).v, (h43).v, (h45).v], E (List (Int × Int × List Int × List Int)) y128_0_1 h41, E (List Int) y128_0_2 h43, E (List Int) y128_0_3 h45])
                      refine sq ?_
                      obtain ⟨a188, e, hF189⟩ := bindS hF186; clear hF186
                      refine boolO e ?_; clear e
                      cases a188
                      · have hF190 := condF hF189; clear hF189
                        refine sq ?_
                        obtain ⟨a191, e, hF192⟩ := bindS hF190; clear hF190
                        refine boolO e ?_; clear e
                        cases a191
                        · have hF193 := condF hF192; clear hF192
                          cases hF193
                          exact ⟨_, _, rfl, ⟨rfl, rfl⟩, (H.sel [] rfl).close trivial⟩
                        · have hF194 := condT hF192; clear hF192
                          cases hF194
                          exact ⟨_, _, rfl, ⟨rfl, rfl⟩, (H.sel [] rfl).close trivial⟩
                      · have hF195 := condT hF189; clear hF189
                        cases hF195
                        exact ⟨_, _, rfl, ⟨rfl, rfl⟩, (H.sel [] rfl).close trivial⟩
                    · have hF196 := condT hF170; clear hF170
                      cases hF196
                      exact ⟨_, _, rfl, ⟨rfl, rfl⟩, (H.sel [] rfl).close trivial⟩
                · have hF197 := condT hF138; clear hF138
                  cases hF197
                  exact ⟨_, _, rfl, ⟨rfl, rfl⟩, (H.sel [] rfl).close trivial⟩
              · have hF198 := condT hF135; clear hF135
                cases hF198
                exact ⟨_, _, rfl, ⟨rfl, rfl⟩, (H.sel [] rfl).close trivial⟩
            · have hF199 := condT hF109; clear hF109
              cases hF199
              exact ⟨_, _, rfl, ⟨rfl, rfl⟩, (H.sel [] rfl).close trivial⟩
        · have hF200 := condT hF88; clear hF88
          cases hF200
          exact ⟨_, _, rfl, ⟨rfl, rfl⟩, (H.sel [] rfl).close trivial⟩
      · have hF201 := condT hF63; clear hF63
        cases hF201
        exact ⟨_, _, rfl, ⟨rfl, rfl⟩, (H.sel [] rfl).close trivial⟩
  · have hF202 := condT hF9; clear hF9
    cases hF202
    exact ⟨_, _, rfl, ⟨rfl, rfl⟩, (H.sel [] rfl).close trivial⟩
end Go.Proofs.Ytgfnophfoccamaa
