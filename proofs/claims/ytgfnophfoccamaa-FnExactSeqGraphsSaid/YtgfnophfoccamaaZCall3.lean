/-
  Contracts, printed by a program (wip/y/gen.py): each function of Go computes its partial function. Condition of each: its partial function yields a value.
-/
import Derived.Test.YtgfnophfoccamaaZCall2
namespace Go.Proofs.Ytgfnophfoccamaa
open Go Go.Proofs.Ytgfnophfoccamaa.RW
set_option maxRecDepth 100000
set_option linter.unusedVariables false

theorem laws_FnExactSeqGraphs_c (aA__0 : Int) (aA__1 : List (Int × Int × List Int × List Int)) (aA__1h : Hd) (aA__2 : List Int) (aA__2h : Hd) (aA__3 : List Int) (aA__3h : Hd) (aB__0 : Int) (aB__1 : List (Int × Int × List Int × List Int)) (aB__1h : Hd) (aB__2 : List Int) (aB__2h : Hd) (aB__3 : List Int) (aB__3h : Hd) (y : Bool) (hF : F_laws_FnExactSeqGraphs (aA__0, aA__1, aA__2, aA__3) (aB__0, aB__1, aB__2, aB__3) = some y) :
    ConF Try.prog 6 #[(.agg #[(.int .i64 aA__0), (aA__1h).v, (aA__2h).v, (aA__3h).v]), (.agg #[(.int .i64 aB__0), (aB__1h).v, (aB__2h).v, (aB__3h).v])] [Es (List (Int × Int × List Int × List Int)) aA__1 aA__1h, Es (List Int) aA__2 aA__2h, Es (List Int) aA__3 aA__3h, Es (List (Int × Int × List Int × List Int)) aB__1 aB__1h, Es (List Int) aB__2 aB__2h, Es (List Int) aB__3 aB__3h] [] (fun v Γ' => v = (.bool y) ∧ Γ' = []) := by
  intro w0 S0 fp0 hI hS
  have H : Cx w0 fp0 S0 w0 [Es (List (Int × Int × List Int × List Int)) aA__1 aA__1h, Es (List Int) aA__2 aA__2h, Es (List Int) aA__3 aA__3h, Es (List (Int × Int × List Int × List Int)) aB__1 aB__1h, Es (List Int) aB__2 aB__2h, Es (List Int) aB__3 aB__3h] := Cx.start hI hS
  clear hI hS
  refine enterC (args := [_, _]) gok Try.func6 rfl _ rfl rfl rfl ?_
  refine box_ H ?_; clear H; intro b8 w7 hx H
  clear hx
  replace H : Cx w0 fp0 S0 w7 [Bx b8 [(.int .i64 aA__0), (aA__1h).v, (aA__2h).v, (aA__3h).v], Es (List (Int × Int × List Int × List Int)) aA__1 aA__1h, Es (List Int) aA__2 aA__2h, Es (List Int) aA__3 aA__3h, Es (List (Int × Int × List Int × List Int)) aB__1 aB__1h, Es (List Int) aB__2 aB__2h, Es (List Int) aB__3 aB__3h] := H
  refine box_ H ?_; clear H; intro b11 w10 hx H
  clear hx
  replace H : Cx w0 fp0 S0 w10 [Bx b11 [(.int .i64 aB__0), (aB__1h).v, (aB__2h).v, (aB__3h).v], Bx b8 [(.int .i64 aA__0), (aA__1h).v, (aA__2h).v, (aA__3h).v], Es (List (Int × Int × List Int × List Int)) aA__1 aA__1h, Es (List Int) aA__2 aA__2h, Es (List Int) aA__3 aA__3h, Es (List (Int × Int × List Int × List Int)) aB__1 aB__1h, Es (List Int) aB__2 aB__2h, Es (List Int) aB__3 aB__3h] := H
  refine loadN [(.int .i64 aA__0), (aA__1h).v, (aA__2h).v, (aA__3h).v] rfl (fun j u hj => H.bx 1 rfl hj) ?_
  obtain ⟨y13, e, hF14⟩ := bindS hF; clear hF
  have ey13 := e; clear e
  refine callF (laws_szGraph_c aA__0 aA__1 aA__1h aA__2 aA__2h aA__3 aA__3h 1048576 y13 ey13) (Γi := []) H ⟨Vw.sh 2 rfl, Vw.sh 3 rfl, Vw.sh 4 rfl, trivial⟩ ?_; clear H ey13
  rintro _ _ w15 ⟨rfl, rfl⟩ (H : Cx w0 fp0 S0 w15 [Bx b11 [(.int .i64 aB__0), (aB__1h).v, (aB__2h).v, (aB__3h).v], Bx b8 [(.int .i64 aA__0), (aA__1h).v, (aA__2h).v, (aA__3h).v], Es (List (Int × Int × List Int × List Int)) aA__1 aA__1h, Es (List Int) aA__2 aA__2h, Es (List Int) aA__3 aA__3h, Es (List (Int × Int × List Int × List Int)) aB__1 aB__1h, Es (List Int) aB__2 aB__2h, Es (List Int) aB__3 aB__3h])
  refine sq ?_
  obtain ⟨a16, e, hF17⟩ := bindS hF14; clear hF14
  refine boolO e ?_; clear e
  cases a16
  · have hF18 := condF hF17; clear hF17
    refine loadN [(.int .i64 aB__0), (aB__1h).v, (aB__2h).v, (aB__3h).v] rfl (fun j u hj => H.bx 0 rfl hj) ?_
    obtain ⟨y19, e, hF20⟩ := bindS hF18; clear hF18
    have ey19 := e; clear e
    refine callF (laws_szGraph_c aB__0 aB__1 aB__1h aB__2 aB__2h aB__3 aB__3h y13 y19 ey19) (Γi := []) H ⟨Vw.sh 5 rfl, Vw.sh 6 rfl, Vw.sh 7 rfl, trivial⟩ ?_; clear H ey19
    rintro _ _ w21 ⟨rfl, rfl⟩ (H : Cx w0 fp0 S0 w21 [Bx b11 [(.int .i64 aB__0), (aB__1h).v, (aB__2h).v, (aB__3h).v], Bx b8 [(.int .i64 aA__0), (aA__1h).v, (aA__2h).v, (aA__3h).v], Es (List (Int × Int × List Int × List Int)) aA__1 aA__1h, Es (List Int) aA__2 aA__2h, Es (List Int) aA__3 aA__3h, Es (List (Int × Int × List Int × List Int)) aB__1 aB__1h, Es (List Int) aB__2 aB__2h, Es (List Int) aB__3 aB__3h])
    refine sq ?_
    obtain ⟨a22, e, hF23⟩ := bindS hF20; clear hF20
    refine boolO e ?_; clear e
    cases a22
    · have hF24 := condF hF23; clear hF23
      obtain ⟨r201, hF203, hF202⟩ := bindS hF24; clear hF24
      refine heldJ H [9, 10, 7] (.fst 0 (.fst 2 (.alts (.alt 1 (.alts (.alt 3 (.alts (.alt 4 (.fst 5 (.pure 7 (.fst 6 (.act 8 (.act 9 (.act 10 .done)))))) (.alt 8 (.act 4 (.fst 5 (.pure 7 (.fst 6 (.act 9 (.act 10 .done)))))) .no))) (.alt 8 (.act 3 (.act 4 (.fst 5 (.pure 7 (.fst 6 (.act 9 (.act 10 .done))))))) .no))) (.alt 8 (.act 1 (.act 3 (.act 4 (.fst 5 (.pure 7 (.fst 6 (.act 9 (.act 10 .done)))))))) .no))))) mixed [] trivial (by kernel_rfl) (fun (q204 : (Int × (List (Int × Int × List Int × List Int)) × List Int × List Int × Bool) × (Hd × Hd × Hd × Nat)) => [(2, (.pointer (some ⟨b8, 0, none⟩))), (3, (.pointer (some ⟨b11, 0, none⟩))), (6, (.pointer (some ⟨q204.2.2.2.2, 0, none⟩))), (7, (.bool q204.1.2.2.2.2))]) (fun (q204 : (Int × (List (Int × Int × List Int × List Int)) × List Int × List Int × Bool) × (Hd × Hd × Hd × Nat)) w' => (q204.1.1, q204.1.2.1, q204.1.2.2.1, q204.1.2.2.2.1, q204.1.2.2.2.2) = r201 ∧ Cx w0 fp0 S0 w' [Bx b8 [(.int .i64 aA__0), (aA__1h).v, (aA__2h).v, (aA__3h).v], Es (List (Int × Int × List Int × List Int)) aA__1 aA__1h, Es (List Int) aA__2 aA__2h, Es (List Int) aA__3 aA__3h, Bx b11 [(.int .i64 aB__0), (aB__1h).v, (aB__2h).v, (aB__3h).v], Es (List (Int × Int × List Int × List Int)) aB__1 aB__1h, Es (List Int) aB__2 aB__2h, Es (List Int) aB__3 aB__3h, Bx q204.2.2.2.2 [(.int .i64 q204.1.1), (q204.2.1).v, (q204.2.2.1).v, (q204.2.2.2.1).v], Es (List (Int × Int × List Int × List Int)) q204.1.2.1 q204.2.1, Es (List Int) q204.1.2.2.1 q204.2.2.1, Es (List Int) q204.1.2.2.2.1 q204.2.2.2.1]) ?_ ?_
      · skip
        clear H; intro w205 H
        have hX : Ext w205 w205 := Upd.refl _ _
        have H0 := H
        refine loadNX [(.int .i64 aA__0), (aA__1h).v, (aA__2h).v, (aA__3h).v] rfl (fun j u hj => H.bx 1 rfl hj) ?_
        refine loadNX [(.int .i64 aB__0), (aB__1h).v, (aB__2h).v, (aB__3h).v] rfl (fun j u hj => H.bx 0 rfl hj) ?_
        refine both ?_ ?_
        · skip
          obtain ⟨y237, e, hF238⟩ := bindS hF203; clear hF203
          obtain ⟨y237_0, y237_1, y237_2, y237_3⟩ := y237
          have ey237 := e; clear e
          refine callFx (laws_toGraph_c aA__0 aA__1 aA__1h aA__2 aA__2h aA__3 aA__3h y237_0 y237_1 y237_2 y237_3 ey237) H ⟨Vw.sh 2 rfl, Vw.sh 3 rfl, Vw.sh 4 rfl, trivial⟩ ?_; clear H ey237
          rintro _ _ w239 ⟨h240, h242, h244, rfl, rfl⟩ hx (H : Cx w0 fp0 S0 w239 [E (List (Int × Int × List Int × List Int)) y237_1 h240, E (List Int) y237_2 h242, E (List Int) y237_3 h244, Bx b11 [(.int .i64 aB__0), (aB__1h).v, (aB__2h).v, (aB__3h).v], Bx b8 [(.int .i64 aA__0), (aA__1h).v, (aA__2h).v, (aA__3h).v], Es (List (Int × Int × List Int × List Int)) aA__1 aA__1h, Es (List Int) aA__2 aA__2h, Es (List Int) aA__3 aA__3h, Es (List (Int × Int × List Int × List Int)) aB__1 aB__1h, Es (List Int) aB__2 aB__2h, Es (List Int) aB__3 aB__3h])
          replace hX := hX.trans0 hx; clear hx
          refine hold hX ?_
          refine both ?_ ?_
          · skip
            obtain ⟨y268, e, hF269⟩ := bindS hF238; clear hF238
            obtain ⟨y268_0, y268_1, y268_2, y268_3⟩ := y268
            have ey268 := e; clear e
            refine callFx (laws_toGraph_c aB__0 aB__1 aB__1h aB__2 aB__2h aB__3 aB__3h y268_0 y268_1 y268_2 y268_3 ey268) H ⟨Vw.sh 8 rfl, Vw.sh 9 rfl, Vw.sh 10 rfl, trivial⟩ ?_; clear H ey268
            rintro _ _ w270 ⟨h271, h273, h275, rfl, rfl⟩ hx (H : Cx w0 fp0 S0 w270 [E (List (Int × Int × List Int × List Int)) y268_1 h271, E (List Int) y268_2 h273, E (List Int) y268_3 h275, E (List (Int × Int × List Int × List Int)) y237_1 h240, E (List Int) y237_2 h242, E (List Int) y237_3 h244, Bx b11 [(.int .i64 aB__0), (aB__1h).v, (aB__2h).v, (aB__3h).v], Bx b8 [(.int .i64 aA__0), (aA__1h).v, (aA__2h).v, (aA__3h).v], Es (List (Int × Int × List Int × List Int)) aA__1 aA__1h, Es (List Int) aA__2 aA__2h, Es (List Int) aA__3 aA__3h, Es (List (Int × Int × List Int × List Int)) aB__1 aB__1h, Es (List Int) aB__2 aB__2h, Es (List Int) aB__3 aB__3h])
            replace hX := hX.trans0 hx; clear hx
            refine hold hX ?_
            refine both ?_ ?_
            · skip
              obtain ⟨y290, e, hF291⟩ := bindS hF269; clear hF269
              obtain ⟨⟨y290_0_0, y290_0_1, y290_0_2, y290_0_3⟩, y290_1⟩ := y290
              have ey290 := e; clear e
              replace H := H.sel [3, 0, 1, 2, 4, 5, 6, 7, 8, 9, 10, 11, 12, 13] rfl
              replace H := H.frz
              replace H := H.sel [4, 0, 1, 2, 3, 5, 6, 7, 8, 9, 10, 11, 12, 13] rfl
              replace H := H.frz
              replace H := H.sel [5, 0, 1, 2, 3, 4, 6, 7, 8, 9, 10, 11, 12, 13] rfl
              replace H := H.frz
              replace H := H.sel [3, 0, 1, 2, 4, 5, 6, 7, 8, 9, 10, 11, 12, 13] rfl
              replace H := H.frz
              replace H := H.sel [4, 0, 1, 2, 3, 5, 6, 7, 8, 9, 10, 11, 12, 13] rfl
              replace H := H.frz
              replace H := H.sel [5, 0, 1, 2, 3, 4, 6, 7, 8, 9, 10, 11, 12, 13] rfl
              replace H := H.frz
              refine callSx (spec_SeqGraphs_c y237_0 y237_1 h240 y237_2 h242 y237_3 h244 y268_0 y268_1 h271 y268_2 h273 y268_3 h275 y290_0_0 y290_0_1 y290_0_2 y290_0_3 y290_1 ey290) H [5, 4, 3, 2, 1, 0] rfl (persC persS (persC persS (persC persS (persC persS (persC persS (persC persS persN)))))) ?_; clear H ey290
              rintro _ _ w292 ⟨h293, h295, h297, rfl, rfl⟩ hx (H : Cx w0 fp0 S0 w292 [Es (List (Int × Int × List Int × List Int)) y290_0_1 h293, Es (List Int) y290_0_2 h295, Es (List Int) y290_0_3 h297, Es (List Int) y268_3 h275, Es (List Int) y268_2 h273, Es (List (Int × Int × List Int × List Int)) y268_1 h271, Es (List Int) y237_3 h244, Es (List Int) y237_2 h242, Es (List (Int × Int × List Int × List Int)) y237_1 h240, Bx b11 [(.int .i64 aB__0), (aB__1h).v, (aB__2h).v, (aB__3h).v], Bx b8 [(.int .i64 aA__0), (aA__1h).v, (aA__2h).v, (aA__3h).v], Es (List (Int × Int × List Int × List Int)) aA__1 aA__1h, Es (List Int) aA__2 aA__2h, Es (List Int) aA__3 aA__3h, Es (List (Int × Int × List Int × List Int)) aB__1 aB__1h, Es (List Int) aB__2 aB__2h, Es (List Int) aB__3 aB__3h])
              replace hX := hX.trans0 hx; clear hx
              refine hold hX ?_
              refine alloc_ gok rfl H ?_; clear H; intro b300 w299 hx H
              replace hX := hX.trans0 hx; clear hx
              replace H : Cx w0 fp0 S0 w299 [Bx b300 [(.int .i64 0), (.slice none 0 0), (.slice none 0 0), (.slice none 0 0)], Es (List (Int × Int × List Int × List Int)) y290_0_1 h293, Es (List Int) y290_0_2 h295, Es (List Int) y290_0_3 h297, Es (List Int) y268_3 h275, Es (List Int) y268_2 h273, Es (List (Int × Int × List Int × List Int)) y268_1 h271, Es (List Int) y237_3 h244, Es (List Int) y237_2 h242, Es (List (Int × Int × List Int × List Int)) y237_1 h240, Bx b11 [(.int .i64 aB__0), (aB__1h).v, (aB__2h).v, (aB__3h).v], Bx b8 [(.int .i64 aA__0), (aA__1h).v, (aA__2h).v, (aA__3h).v], Es (List (Int × Int × List Int × List Int)) aA__1 aA__1h, Es (List Int) aA__2 aA__2h, Es (List Int) aA__3 aA__3h, Es (List (Int × Int × List Int × List Int)) aB__1 aB__1h, Es (List Int) aB__2 aB__2h, Es (List Int) aB__3 aB__3h] := H
              refine hold hX ?_
              refine stA gok [(.int .i64 y290_0_0), (h293).v, (h295).v, (h297).v] rfl H rfl rfl rfl ?_; clear H; intro w302 H
              replace H : Cx w0 fp0 S0 w302 [Bx b300 [(.int .i64 y290_0_0), (h293).v, (h295).v, (h297).v], Es (List (Int × Int × List Int × List Int)) y290_0_1 h293, Es (List Int) y290_0_2 h295, Es (List Int) y290_0_3 h297, Es (List Int) y268_3 h275, Es (List Int) y268_2 h273, Es (List (Int × Int × List Int × List Int)) y268_1 h271, Es (List Int) y237_3 h244, Es (List Int) y237_2 h242, Es (List (Int × Int × List Int × List Int)) y237_1 h240, Bx b11 [(.int .i64 aB__0), (aB__1h).v, (aB__2h).v, (aB__3h).v], Bx b8 [(.int .i64 aA__0), (aA__1h).v, (aA__2h).v, (aA__3h).v], Es (List (Int × Int × List Int × List Int)) aA__1 aA__1h, Es (List Int) aA__2 aA__2h, Es (List Int) aA__3 aA__3h, Es (List (Int × Int × List Int × List Int)) aB__1 aB__1h, Es (List Int) aB__2 aB__2h, Es (List Int) aB__3 aB__3h] := H
              refine hold trivial ?_
              refine hold trivial ?_
              exact ⟨((y290_0_0, y290_0_1, y290_0_2, y290_0_3, y290_1), (h293, h295, h297, b300)), ⟨rfl, rfl, rfl, rfl, trivial⟩, Option.some.inj hF291, H.sel [11, 12, 13, 14, 10, 15, 16, 17, 0, 1, 2, 3] rfl⟩
            · skip
              refine both ?_ ?_
              · skip
                obtain ⟨a303, eq304, hF305⟩ := bindS hF269; clear hF269
                refine alloc_ gok rfl H ?_; clear H; intro b307 w306 hx H
                replace hX := hX.trans0 hx; clear hx
                replace H : Cx w0 fp0 S0 w306 [Bx b307 [(.int .i64 0), (.slice none 0 0), (.slice none 0 0), (.slice none 0 0)], E (List (Int × Int × List Int × List Int)) y268_1 h271, E (List Int) y268_2 h273, E (List Int) y268_3 h275, E (List (Int × Int × List Int × List Int)) y237_1 h240, E (List Int) y237_2 h242, E (List Int) y237_3 h244, Bx b11 [(.int .i64 aB__0), (aB__1h).v, (aB__2h).v, (aB__3h).v], Bx b8 [(.int .i64 aA__0), (aA__1h).v, (aA__2h).v, (aA__3h).v], Es (List (Int × Int × List Int × List Int)) aA__1 aA__1h, Es (List Int) aA__2 aA__2h, Es (List Int) aA__3 aA__3h, Es (List (Int × Int × List Int × List Int)) aB__1 aB__1h, Es (List Int) aB__2 aB__2h, Es (List Int) aB__3 aB__3h] := H
                refine hold hX ?_
                have e := eq304; clear eq304
                obtain ⟨⟨a303_0_0, a303_0_1, a303_0_2, a303_0_3⟩, a303_1⟩ := a303
                have ea303 := e; clear e
                replace H := H.sel [4, 0, 1, 2, 3, 5, 6, 7, 8, 9, 10, 11, 12, 13, 14] rfl
                replace H := H.frz
                replace H := H.sel [5, 0, 1, 2, 3, 4, 6, 7, 8, 9, 10, 11, 12, 13, 14] rfl
                replace H := H.frz
                replace H := H.sel [6, 0, 1, 2, 3, 4, 5, 7, 8, 9, 10, 11, 12, 13, 14] rfl
                replace H := H.frz
                replace H := H.sel [4, 0, 1, 2, 3, 5, 6, 7, 8, 9, 10, 11, 12, 13, 14] rfl
                replace H := H.frz
                replace H := H.sel [5, 0, 1, 2, 3, 4, 6, 7, 8, 9, 10, 11, 12, 13, 14] rfl
                replace H := H.frz
                replace H := H.sel [6, 0, 1, 2, 3, 4, 5, 7, 8, 9, 10, 11, 12, 13, 14] rfl
                replace H := H.frz
                refine callSx (spec_SeqGraphs_c y237_0 y237_1 h240 y237_2 h242 y237_3 h244 y268_0 y268_1 h271 y268_2 h273 y268_3 h275 a303_0_0 a303_0_1 a303_0_2 a303_0_3 a303_1 ea303) H [5, 4, 3, 2, 1, 0] rfl (persC persS (persC persS (persC persS (persC persS (persC persS (persC persS persN)))))) ?_; clear H ea303
                rintro _ _ w309 ⟨h310, h312, h314, rfl, rfl⟩ hx (H : Cx w0 fp0 S0 w309 [Es (List (Int × Int × List Int × List Int)) a303_0_1 h310, Es (List Int) a303_0_2 h312, Es (List Int) a303_0_3 h314, Es (List Int) y268_3 h275, Es (List Int) y268_2 h273, Es (List (Int × Int × List Int × List Int)) y268_1 h271, Es (List Int) y237_3 h244, Es (List Int) y237_2 h242, Es (List (Int × Int × List Int × List Int)) y237_1 h240, Bx b307 [(.int .i64 0), (.slice none 0 0), (.slice none 0 0), (.slice none 0 0)], Bx b11 [(.int .i64 aB__0), (aB__1h).v, (aB__2h).v, (aB__3h).v], Bx b8 [(.int .i64 aA__0), (aA__1h).v, (aA__2h).v, (aA__3h).v], Es (List (Int × Int × List Int × List Int)) aA__1 aA__1h, Es (List Int) aA__2 aA__2h, Es (List Int) aA__3 aA__3h, Es (List (Int × Int × List Int × List Int)) aB__1 aB__1h, Es (List Int) aB__2 aB__2h, Es (List Int) aB__3 aB__3h])
                replace hX := hX.trans0 hx; clear hx
                refine hold hX ?_
                replace H := H.sel [9, 0, 1, 2, 3, 4, 5, 6, 7, 8, 10, 11, 12, 13, 14, 15, 16, 17] rfl
                refine stA gok [(.int .i64 a303_0_0), (h310).v, (h312).v, (h314).v] rfl H rfl rfl rfl ?_; clear H; intro w316 H
                replace H : Cx w0 fp0 S0 w316 [Bx b307 [(.int .i64 a303_0_0), (h310).v, (h312).v, (h314).v], Es (List (Int × Int × List Int × List Int)) a303_0_1 h310, Es (List Int) a303_0_2 h312, Es (List Int) a303_0_3 h314, Es (List Int) y268_3 h275, Es (List Int) y268_2 h273, Es (List (Int × Int × List Int × List Int)) y268_1 h271, Es (List Int) y237_3 h244, Es (List Int) y237_2 h242, Es (List (Int × Int × List Int × List Int)) y237_1 h240, Bx b11 [(.int .i64 aB__0), (aB__1h).v, (aB__2h).v, (aB__3h).v], Bx b8 [(.int .i64 aA__0), (aA__1h).v, (aA__2h).v, (aA__3h).v], Es (List (Int × Int × List Int × List Int)) aA__1 aA__1h, Es (List Int) aA__2 aA__2h, Es (List Int) aA__3 aA__3h, Es (List (Int × Int × List Int × List Int)) aB__1 aB__1h, Es (List Int) aB__2 aB__2h, Es (List Int) aB__3 aB__3h] := H
                refine hold trivial ?_
                refine hold trivial ?_
                exact ⟨((a303_0_0, a303_0_1, a303_0_2, a303_0_3, a303_1), (h310, h312, h314, b307)), ⟨rfl, rfl, rfl, rfl, trivial⟩, Option.some.inj hF305, H.sel [11, 12, 13, 14, 10, 15, 16, 17, 0, 1, 2, 3] rfl⟩
              · skip
                exact trivial
          · skip
            refine both ?_ ?_
            · skip
              obtain ⟨a317, eq318, hF319⟩ := bindS hF238; clear hF238
              obtain ⟨a320, eq321, hF322⟩ := bindS hF319; clear hF319
              refine alloc_ gok rfl H ?_; clear H; intro b324 w323 hx H
              replace hX := hX.trans0 hx; clear hx
              replace H : Cx w0 fp0 S0 w323 [Bx b324 [(.int .i64 0), (.slice none 0 0), (.slice none 0 0), (.slice none 0 0)], E (List (Int × Int × List Int × List Int)) y237_1 h240, E (List Int) y237_2 h242, E (List Int) y237_3 h244, Bx b11 [(.int .i64 aB__0), (aB__1h).v, (aB__2h).v, (aB__3h).v], Bx b8 [(.int .i64 aA__0), (aA__1h).v, (aA__2h).v, (aA__3h).v], Es (List (Int × Int × List Int × List Int)) aA__1 aA__1h, Es (List Int) aA__2 aA__2h, Es (List Int) aA__3 aA__3h, Es (List (Int × Int × List Int × List Int)) aB__1 aB__1h, Es (List Int) aB__2 aB__2h, Es (List Int) aB__3 aB__3h] := H
              refine hold hX ?_
              have e := eq318; clear eq318
              obtain ⟨a317_0, a317_1, a317_2, a317_3⟩ := a317
              have ea317 := e; clear e
              refine callFx (laws_toGraph_c aB__0 aB__1 aB__1h aB__2 aB__2h aB__3 aB__3h a317_0 a317_1 a317_2 a317_3 ea317) H ⟨Vw.sh 9 rfl, Vw.sh 10 rfl, Vw.sh 11 rfl, trivial⟩ ?_; clear H ea317
              rintro _ _ w326 ⟨h327, h329, h331, rfl, rfl⟩ hx (H : Cx w0 fp0 S0 w326 [E (List (Int × Int × List Int × List Int)) a317_1 h327, E (List Int) a317_2 h329, E (List Int) a317_3 h331, Bx b324 [(.int .i64 0), (.slice none 0 0), (.slice none 0 0), (.slice none 0 0)], E (List (Int × Int × List Int × List Int)) y237_1 h240, E (List Int) y237_2 h242, E (List Int) y237_3 h244, Bx b11 [(.int .i64 aB__0), (aB__1h).v, (aB__2h).v, (aB__3h).v], Bx b8 [(.int .i64 aA__0), (aA__1h).v, (aA__2h).v, (aA__3h).v], Es (List (Int × Int × List Int × List Int)) aA__1 aA__1h, Es (List Int) aA__2 aA__2h, Es (List Int) aA__3 aA__3h, Es (List (Int × Int × List Int × List Int)) aB__1 aB__1h, Es (List Int) aB__2 aB__2h, Es (List Int) aB__3 aB__3h])
              replace hX := hX.trans0 hx; clear hx
              refine hold hX ?_
              have e := eq321; clear eq321
              obtain ⟨⟨a320_0_0, a320_0_1, a320_0_2, a320_0_3⟩, a320_1⟩ := a320
              have ea320 := e; clear e
              replace H := H.sel [4, 0, 1, 2, 3, 5, 6, 7, 8, 9, 10, 11, 12, 13, 14] rfl
              replace H := H.frz
              replace H := H.sel [5, 0, 1, 2, 3, 4, 6, 7, 8, 9, 10, 11, 12, 13, 14] rfl
              replace H := H.frz
              replace H := H.sel [6, 0, 1, 2, 3, 4, 5, 7, 8, 9, 10, 11, 12, 13, 14] rfl
              replace H := H.frz
              replace H := H.sel [3, 0, 1, 2, 4, 5, 6, 7, 8, 9, 10, 11, 12, 13, 14] rfl
              replace H := H.frz
              replace H := H.sel [4, 0, 1, 2, 3, 5, 6, 7, 8, 9, 10, 11, 12, 13, 14] rfl
              replace H := H.frz
              replace H := H.sel [5, 0, 1, 2, 3, 4, 6, 7, 8, 9, 10, 11, 12, 13, 14] rfl
              replace H := H.frz
              refine callSx (spec_SeqGraphs_c y237_0 y237_1 h240 y237_2 h242 y237_3 h244 a317_0 a317_1 h327 a317_2 h329 a317_3 h331 a320_0_0 a320_0_1 a320_0_2 a320_0_3 a320_1 ea320) H [5, 4, 3, 2, 1, 0] rfl (persC persS (persC persS (persC persS (persC persS (persC persS (persC persS persN)))))) ?_; clear H ea320
              rintro _ _ w333 ⟨h334, h336, h338, rfl, rfl⟩ hx (H : Cx w0 fp0 S0 w333 [Es (List (Int × Int × List Int × List Int)) a320_0_1 h334, Es (List Int) a320_0_2 h336, Es (List Int) a320_0_3 h338, Es (List Int) a317_3 h331, Es (List Int) a317_2 h329, Es (List (Int × Int × List Int × List Int)) a317_1 h327, Es (List Int) y237_3 h244, Es (List Int) y237_2 h242, Es (List (Int × Int × List Int × List Int)) y237_1 h240, Bx b324 [(.int .i64 0), (.slice none 0 0), (.slice none 0 0), (.slice none 0 0)], Bx b11 [(.int .i64 aB__0), (aB__1h).v, (aB__2h).v, (aB__3h).v], Bx b8 [(.int .i64 aA__0), (aA__1h).v, (aA__2h).v, (aA__3h).v], Es (List (Int × Int × List Int × List Int)) aA__1 aA__1h, Es (List Int) aA__2 aA__2h, Es (List Int) aA__3 aA__3h, Es (List (Int × Int × List Int × List Int)) aB__1 aB__1h, Es (List Int) aB__2 aB__2h, Es (List Int) aB__3 aB__3h])
              replace hX := hX.trans0 hx; clear hx
              refine hold hX ?_
              replace H := H.sel [9, 0, 1, 2, 3, 4, 5, 6, 7, 8, 10, 11, 12, 13, 14, 15, 16, 17] rfl
              refine stA gok [(.int .i64 a320_0_0), (h334).v, (h336).v, (h338).v] rfl H rfl rfl rfl ?_; clear H; intro w340 H
              replace H : Cx w0 fp0 S0 w340 [Bx b324 [(.int .i64 a320_0_0), (h334).v, (h336).v, (h338).v], Es (List (Int × Int × List Int × List Int)) a320_0_1 h334, Es (List Int) a320_0_2 h336, Es (List Int) a320_0_3 h338, Es (List Int) a317_3 h331, Es (List Int) a317_2 h329, Es (List (Int × Int × List Int × List Int)) a317_1 h327, Es (List Int) y237_3 h244, Es (List Int) y237_2 h242, Es (List (Int × Int × List Int × List Int)) y237_1 h240, Bx b11 [(.int .i64 aB__0), (aB__1h).v, (aB__2h).v, (aB__3h).v], Bx b8 [(.int .i64 aA__0), (aA__1h).v, (aA__2h).v, (aA__3h).v], Es (List (Int × Int × List Int × List Int)) aA__1 aA__1h, Es (List Int) aA__2 aA__2h, Es (List Int) aA__3 aA__3h, Es (List (Int × Int × List Int × List Int)) aB__1 aB__1h, Es (List Int) aB__2 aB__2h, Es (List Int) aB__3 aB__3h] := H
              refine hold trivial ?_
              refine hold trivial ?_
              exact ⟨((a320_0_0, a320_0_1, a320_0_2, a320_0_3, a320_1), (h334, h336, h338, b324)), ⟨rfl, rfl, rfl, rfl, trivial⟩, Option.some.inj hF322, H.sel [11, 12, 13, 14, 10, 15, 16, 17, 0, 1, 2, 3] rfl⟩
            · skip
              exact trivial
        · skip
          refine both ?_ ?_
          · skip
            obtain ⟨a341, eq342, hF343⟩ := bindS hF203; clear hF203
            obtain ⟨a344, eq345, hF346⟩ := bindS hF343; clear hF343
            obtain ⟨a347, eq348, hF349⟩ := bindS hF346; clear hF346
            refine alloc_ gok rfl H ?_; clear H; intro b351 w350 hx H
            replace hX := hX.trans0 hx; clear hx
            replace H : Cx w0 fp0 S0 w350 [Bx b351 [(.int .i64 0), (.slice none 0 0), (.slice none 0 0), (.slice none 0 0)], Bx b11 [(.int .i64 aB__0), (aB__1h).v, (aB__2h).v, (aB__3h).v], Bx b8 [(.int .i64 aA__0), (aA__1h).v, (aA__2h).v, (aA__3h).v], Es (List (Int × Int × List Int × List Int)) aA__1 aA__1h, Es (List Int) aA__2 aA__2h, Es (List Int) aA__3 aA__3h, Es (List (Int × Int × List Int × List Int)) aB__1 aB__1h, Es (List Int) aB__2 aB__2h, Es (List Int) aB__3 aB__3h] := H
            refine hold hX ?_
            have e := eq342; clear eq342
            obtain ⟨a341_0, a341_1, a341_2, a341_3⟩ := a341
            have ea341 := e; clear e
            refine callFx (laws_toGraph_c aA__0 aA__1 aA__1h aA__2 aA__2h aA__3 aA__3h a341_0 a341_1 a341_2 a341_3 ea341) H ⟨Vw.sh 3 rfl, Vw.sh 4 rfl, Vw.sh 5 rfl, trivial⟩ ?_; clear H ea341
            rintro _ _ w353 ⟨h354, h356, h358, rfl, rfl⟩ hx (H : Cx w0 fp0 S0 w353 [E (List (Int × Int × List Int × List Int)) a341_1 h354, E (List Int) a341_2 h356, E (List Int) a341_3 h358, Bx b351 [(.int .i64 0), (.slice none 0 0), (.slice none 0 0), (.slice none 0 0)], Bx b11 [(.int .i64 aB__0), (aB__1h).v, (aB__2h).v, (aB__3h).v], Bx b8 [(.int .i64 aA__0), (aA__1h).v, (aA__2h).v, (aA__3h).v], Es (List (Int × Int × List Int × List Int)) aA__1 aA__1h, Es (List Int) aA__2 aA__2h, Es (List Int) aA__3 aA__3h, Es (List (Int × Int × List Int × List Int)) aB__1 aB__1h, Es (List Int) aB__2 aB__2h, Es (List Int) aB__3 aB__3h])
            replace hX := hX.trans0 hx; clear hx
            refine hold hX ?_
            have e := eq345; clear eq345
            obtain ⟨a344_0, a344_1, a344_2, a344_3⟩ := a344
            have ea344 := e; clear e
            refine callFx (laws_toGraph_c aB__0 aB__1 aB__1h aB__2 aB__2h aB__3 aB__3h a344_0 a344_1 a344_2 a344_3 ea344) H ⟨Vw.sh 9 rfl, Vw.sh 10 rfl, Vw.sh 11 rfl, trivial⟩ ?_; clear H ea344
            rintro _ _ w360 ⟨h361, h363, h365, rfl, rfl⟩ hx (H : Cx w0 fp0 S0 w360 [E (List (Int × Int × List Int × List Int)) a344_1 h361, E (List Int) a344_2 h363, E (List Int) a344_3 h365, E (List (Int × Int × List Int × List Int)) a341_1 h354, E (List Int) a341_2 h356, E (List Int) a341_3 h358, Bx b351 [(.int .i64 0), (.slice none 0 0), (.slice none 0 0), (.slice none 0 0)], Bx b11 [(.int .i64 aB__0), (aB__1h).v, (aB__2h).v, (aB__3h).v], Bx b8 [(.int .i64 aA__0), (aA__1h).v, (aA__2h).v, (aA__3h).v], Es (List (Int × Int × List Int × List Int)) aA__1 aA__1h, Es (List Int) aA__2 aA__2h, Es (List Int) aA__3 aA__3h, Es (List (Int × Int × List Int × List Int)) aB__1 aB__1h, Es (List Int) aB__2 aB__2h, Es (List Int) aB__3 aB__3h])
            replace hX := hX.trans0 hx; clear hx
            refine hold hX ?_
            have e := eq348; clear eq348
            obtain ⟨⟨a347_0_0, a347_0_1, a347_0_2, a347_0_3⟩, a347_1⟩ := a347
            have ea347 := e; clear e
            replace H := H.sel [3, 0, 1, 2, 4, 5, 6, 7, 8, 9, 10, 11, 12, 13, 14] rfl
            replace H := H.frz
            replace H := H.sel [4, 0, 1, 2, 3, 5, 6, 7, 8, 9, 10, 11, 12, 13, 14] rfl
            replace H := H.frz
            replace H := H.sel [5, 0, 1, 2, 3, 4, 6, 7, 8, 9, 10, 11, 12, 13, 14] rfl
            replace H := H.frz
            replace H := H.sel [3, 0, 1, 2, 4, 5, 6, 7, 8, 9, 10, 11, 12, 13, 14] rfl
            replace H := H.frz
            replace H := H.sel [4, 0, 1, 2, 3, 5, 6, 7, 8, 9, 10, 11, 12, 13, 14] rfl
            replace H := H.frz
            replace H := H.sel [5, 0, 1, 2, 3, 4, 6, 7, 8, 9, 10, 11, 12, 13, 14] rfl
            replace H := H.frz
            refine callSx (spec_SeqGraphs_c a341_0 a341_1 h354 a341_2 h356 a341_3 h358 a344_0 a344_1 h361 a344_2 h363 a344_3 h365 a347_0_0 a347_0_1 a347_0_2 a347_0_3 a347_1 ea347) H [5, 4, 3, 2, 1, 0] rfl (persC persS (persC persS (persC persS (persC persS (persC persS (persC persS persN)))))) ?_; clear H ea347
            rintro _ _ w367 ⟨h368, h370, h372, rfl, rfl⟩ hx (H : Cx w0 fp0 S0 w367 [Es (List (Int × Int × List Int × List Int)) a347_0_1 h368, Es (List Int) a347_0_2 h370, Es (List Int) a347_0_3 h372, Es (List Int) a344_3 h365, Es (List Int) a344_2 h363, Es (List (Int × Int × List Int × List Int)) a344_1 h361, Es (List Int) a341_3 h358, Es (List Int) a341_2 h356, Es (List (Int × Int × List Int × List Int)) a341_1 h354, Bx b351 [(.int .i64 0), (.slice none 0 0), (.slice none 0 0), (.slice none 0 0)], Bx b11 [(.int .i64 aB__0), (aB__1h).v, (aB__2h).v, (aB__3h).v], Bx b8 [(.int .i64 aA__0), (aA__1h).v, (aA__2h).v, (aA__3h).v], Es (List (Int × Int × List Int × List Int)) aA__1 aA__1h, Es (List Int) aA__2 aA__2h, Es (List Int) aA__3 aA__3h, Es (List (Int × Int × List Int × List Int)) aB__1 aB__1h, Es (List Int) aB__2 aB__2h, Es (List Int) aB__3 aB__3h])
            replace hX := hX.trans0 hx; clear hx
            refine hold hX ?_
            replace H := H.sel [9, 0, 1, 2, 3, 4, 5, 6, 7, 8, 10, 11, 12, 13, 14, 15, 16, 17] rfl
            refine stA gok [(.int .i64 a347_0_0), (h368).v, (h370).v, (h372).v] rfl H rfl rfl rfl ?_; clear H; intro w374 H
            replace H : Cx w0 fp0 S0 w374 [Bx b351 [(.int .i64 a347_0_0), (h368).v, (h370).v, (h372).v], Es (List (Int × Int × List Int × List Int)) a347_0_1 h368, Es (List Int) a347_0_2 h370, Es (List Int) a347_0_3 h372, Es (List Int) a344_3 h365, Es (List Int) a344_2 h363, Es (List (Int × Int × List Int × List Int)) a344_1 h361, Es (List Int) a341_3 h358, Es (List Int) a341_2 h356, Es (List (Int × Int × List Int × List Int)) a341_1 h354, Bx b11 [(.int .i64 aB__0), (aB__1h).v, (aB__2h).v, (aB__3h).v], Bx b8 [(.int .i64 aA__0), (aA__1h).v, (aA__2h).v, (aA__3h).v], Es (List (Int × Int × List Int × List Int)) aA__1 aA__1h, Es (List Int) aA__2 aA__2h, Es (List Int) aA__3 aA__3h, Es (List (Int × Int × List Int × List Int)) aB__1 aB__1h, Es (List Int) aB__2 aB__2h, Es (List Int) aB__3 aB__3h] := H
            refine hold trivial ?_
            refine hold trivial ?_
            exact ⟨((a347_0_0, a347_0_1, a347_0_2, a347_0_3, a347_1), (h368, h370, h372, b351)), ⟨rfl, rfl, rfl, rfl, trivial⟩, Option.some.inj hF349, H.sel [11, 12, 13, 14, 10, 15, 16, 17, 0, 1, 2, 3] rfl⟩
          · skip
            exact trivial
      · clear hF203 H
        rintro T376 ⟨⟨s195_0, s195_1, s195_2, s195_3, s195_4⟩, ⟨g196_0, g196_1, g196_2, g196_3⟩⟩ w375 ⟨hr, (H : Cx w0 fp0 S0 w375 [Bx b8 [(.int .i64 aA__0), (aA__1h).v, (aA__2h).v, (aA__3h).v], Es (List (Int × Int × List Int × List Int)) aA__1 aA__1h, Es (List Int) aA__2 aA__2h, Es (List Int) aA__3 aA__3h, Bx b11 [(.int .i64 aB__0), (aB__1h).v, (aB__2h).v, (aB__3h).v], Es (List (Int × Int × List Int × List Int)) aB__1 aB__1h, Es (List Int) aB__2 aB__2h, Es (List Int) aB__3 aB__3h, Bx g196_3 [(.int .i64 s195_0), (g196_0).v, (g196_1).v, (g196_2).v], Es (List (Int × Int × List Int × List Int)) s195_1 g196_0, Es (List Int) s195_2 g196_1, Es (List Int) s195_3 g196_2])⟩
        subst hr
        refine loadN [(.int .i64 aA__0), (aA__1h).v, (aA__2h).v, (aA__3h).v] rfl (fun j u hj => H.bx 0 rfl hj) ?_
        obtain ⟨y377, e, hF378⟩ := bindS hF202; clear hF202
        obtain ⟨y377_0, y377_1, y377_2, y377_3⟩ := y377
        have ey377 := e; clear e
        refine callF (laws_toGraph_c aA__0 aA__1 aA__1h aA__2 aA__2h aA__3 aA__3h y377_0 y377_1 y377_2 y377_3 ey377) (Γi := []) H ⟨Vw.sh 1 rfl, Vw.sh 2 rfl, Vw.sh 3 rfl, trivial⟩ ?_; clear H ey377
        rintro _ _ w379 ⟨h380, h382, h384, rfl, rfl⟩ (H : Cx w0 fp0 S0 w379 [E (List (Int × Int × List Int × List Int)) y377_1 h380, E (List Int) y377_2 h382, E (List Int) y377_3 h384, Bx b8 [(.int .i64 aA__0), (aA__1h).v, (aA__2h).v, (aA__3h).v], Es (List (Int × Int × List Int × List Int)) aA__1 aA__1h, Es (List Int) aA__2 aA__2h, Es (List Int) aA__3 aA__3h, Bx b11 [(.int .i64 aB__0), (aB__1h).v, (aB__2h).v, (aB__3h).v], Es (List (Int × Int × List Int × List Int)) aB__1 aB__1h, Es (List Int) aB__2 aB__2h, Es (List Int) aB__3 aB__3h, Bx g196_3 [(.int .i64 s195_0), (g196_0).v, (g196_1).v, (g196_2).v], Es (List (Int × Int × List Int × List Int)) s195_1 g196_0, Es (List Int) s195_2 g196_1, Es (List Int) s195_3 g196_2])
        refine alloc_ gok rfl H ?_; clear H; intro b387 w386 hx H
        clear hx
        replace H : Cx w0 fp0 S0 w386 [Bx b387 [(.int .i64 0), (.slice none 0 0), (.slice none 0 0), (.slice none 0 0)], E (List (Int × Int × List Int × List Int)) y377_1 h380, E (List Int) y377_2 h382, E (List Int) y377_3 h384, Bx b8 [(.int .i64 aA__0), (aA__1h).v, (aA__2h).v, (aA__3h).v], Es (List (Int × Int × List Int × List Int)) aA__1 aA__1h, Es (List Int) aA__2 aA__2h, Es (List Int) aA__3 aA__3h, Bx b11 [(.int .i64 aB__0), (aB__1h).v, (aB__2h).v, (aB__3h).v], Es (List (Int × Int × List Int × List Int)) aB__1 aB__1h, Es (List Int) aB__2 aB__2h, Es (List Int) aB__3 aB__3h, Bx g196_3 [(.int .i64 s195_0), (g196_0).v, (g196_1).v, (g196_2).v], Es (List (Int × Int × List Int × List Int)) s195_1 g196_0, Es (List Int) s195_2 g196_1, Es (List Int) s195_3 g196_2] := H
        refine stA gok [(.int .i64 y377_0), (h380).v, (h382).v, (h384).v] rfl H rfl rfl rfl ?_; clear H; intro w389 H
        replace H : Cx w0 fp0 S0 w389 [Bx b387 [(.int .i64 y377_0), (h380).v, (h382).v, (h384).v], E (List (Int × Int × List Int × List Int)) y377_1 h380, E (List Int) y377_2 h382, E (List Int) y377_3 h384, Bx b8 [(.int .i64 aA__0), (aA__1h).v, (aA__2h).v, (aA__3h).v], Es (List (Int × Int × List Int × List Int)) aA__1 aA__1h, Es (List Int) aA__2 aA__2h, Es (List Int) aA__3 aA__3h, Bx b11 [(.int .i64 aB__0), (aB__1h).v, (aB__2h).v, (aB__3h).v], Es (List (Int × Int × List Int × List Int)) aB__1 aB__1h, Es (List Int) aB__2 aB__2h, Es (List Int) aB__3 aB__3h, Bx g196_3 [(.int .i64 s195_0), (g196_0).v, (g196_1).v, (g196_2).v], Es (List (Int × Int × List Int × List Int)) s195_1 g196_0, Es (List Int) s195_2 g196_1, Es (List Int) s195_3 g196_2] := H
        refine loadN [(.int .i64 aB__0), (aB__1h).v, (aB__2h).v, (aB__3h).v] rfl (fun j u hj => H.bx 8 rfl hj) ?_
        obtain ⟨y390, e, hF391⟩ := bindS hF378; clear hF378
        obtain ⟨y390_0, y390_1, y390_2, y390_3⟩ := y390
        have ey390 := e; clear e
        refine callF (laws_toGraph_c aB__0 aB__1 aB__1h aB__2 aB__2h aB__3 aB__3h y390_0 y390_1 y390_2 y390_3 ey390) (Γi := []) H ⟨Vw.sh 9 rfl, Vw.sh 10 rfl, Vw.sh 11 rfl, trivial⟩ ?_; clear H ey390
        rintro _ _ w392 ⟨h393, h395, h397, rfl, rfl⟩ (H : Cx w0 fp0 S0 w392 [E (List (Int × Int × List Int × List Int)) y390_1 h393, E (List Int) y390_2 h395, E (List Int) y390_3 h397, Bx b387 [(.int .i64 y377_0), (h380).v, (h382).v, (h384).v], E (List (Int × Int × List Int × List Int)) y377_1 h380, E (List Int) y377_2 h382, E (List Int) y377_3 h384, Bx b8 [(.int .i64 aA__0), (aA__1h).v, (aA__2h).v, (aA__3h).v], Es (List (Int × Int × List Int × List Int)) aA__1 aA__1h, Es (List Int) aA__2 aA__2h, Es (List Int) aA__3 aA__3h, Bx b11 [(.int .i64 aB__0), (aB__1h).v, (aB__2h).v, (aB__3h).v], Es (List (Int × Int × List Int × List Int)) aB__1 aB__1h, Es (List Int) aB__2 aB__2h, Es (List Int) aB__3 aB__3h, Bx g196_3 [(.int .i64 s195_0), (g196_0).v, (g196_1).v, (g196_2).v], Es (List (Int × Int × List Int × List Int)) s195_1 g196_0, Es (List Int) s195_2 g196_1, Es (List Int) s195_3 g196_2])
        refine alloc_ gok rfl H ?_; clear H; intro b400 w399 hx H
        clear hx
        replace H : Cx w0 fp0 S0 w399 [Bx b400 [(.int .i64 0), (.slice none 0 0), (.slice none 0 0), (.slice none 0 0)], E (List (Int × Int × List Int × List Int)) y390_1 h393, E (List Int) y390_2 h395, E (List Int) y390_3 h397, Bx b387 [(.int .i64 y377_0), (h380).v, (h382).v, (h384).v], E (List (Int × Int × List Int × List Int)) y377_1 h380, E (List Int) y377_2 h382, E (List Int) y377_3 h384, Bx b8 [(.int .i64 aA__0), (aA__1h).v, (aA__2h).v, (aA__3h).v], Es (List (Int × Int × List Int × List Int)) aA__1 aA__1h, Es (List Int) aA__2 aA__2h, Es (List Int) aA__3 aA__3h, Bx b11 [(.int .i64 aB__0), (aB__1h).v, (aB__2h).v, (aB__3h).v], Es (List (Int × Int × List Int × List Int)) aB__1 aB__1h, Es (List Int) aB__2 aB__2h, Es (List Int) aB__3 aB__3h, Bx g196_3 [(.int .i64 s195_0), (g196_0).v, (g196_1).v, (g196_2).v], Es (List (Int × Int × List Int × List Int)) s195_1 g196_0, Es (List Int) s195_2 g196_1, Es (List Int) s195_3 g196_2] := H
        refine stA gok [(.int .i64 y390_0), (h393).v, (h395).v, (h397).v] rfl H rfl rfl rfl ?_; clear H; intro w402 H
        replace H : Cx w0 fp0 S0 w402 [Bx b400 [(.int .i64 y390_0), (h393).v, (h395).v, (h397).v], E (List (Int × Int × List Int × List Int)) y390_1 h393, E (List Int) y390_2 h395, E (List Int) y390_3 h397, Bx b387 [(.int .i64 y377_0), (h380).v, (h382).v, (h384).v], E (List (Int × Int × List Int × List Int)) y377_1 h380, E (List Int) y377_2 h382, E (List Int) y377_3 h384, Bx b8 [(.int .i64 aA__0), (aA__1h).v, (aA__2h).v, (aA__3h).v], Es (List (Int × Int × List Int × List Int)) aA__1 aA__1h, Es (List Int) aA__2 aA__2h, Es (List Int) aA__3 aA__3h, Bx b11 [(.int .i64 aB__0), (aB__1h).v, (aB__2h).v, (aB__3h).v], Es (List (Int × Int × List Int × List Int)) aB__1 aB__1h, Es (List Int) aB__2 aB__2h, Es (List Int) aB__3 aB__3h, Bx g196_3 [(.int .i64 s195_0), (g196_0).v, (g196_1).v, (g196_2).v], Es (List (Int × Int × List Int × List Int)) s195_1 g196_0, Es (List Int) s195_2 g196_1, Es (List Int) s195_3 g196_2] := H
        refine loadN [(.int .i64 y377_0), (h380).v, (h382).v, (h384).v] rfl (fun j u hj => H.bx 4 rfl hj) ?_
        refine loadN [(.int .i64 y390_0), (h393).v, (h395).v, (h397).v] rfl (fun j u hj => H.bx 0 rfl hj) ?_
        obtain ⟨y403, e, hF404⟩ := bindS hF391; clear hF391
        obtain ⟨⟨y403_0_0, y403_0_1, y403_0_2, y403_0_3⟩, y403_1⟩ := y403
        have ey403 := e; clear e
        refine callF (impl_SeqGraphs_c y377_0 y377_1 h380 y377_2 h382 y377_3 h384 y390_0 y390_1 h393 y390_2 h395 y390_3 h397 y403_0_0 y403_0_1 y403_0_2 y403_0_3 y403_1 ey403) (Γi := []) H ⟨Vw.own 5 rfl, Vw.own 6 rfl, Vw.own 7 rfl, Vw.own 1 rfl, Vw.own 2 rfl, Vw.own 3 rfl, trivial⟩ ?_; clear H ey403
        rintro _ _ w405 ⟨h406, h408, h410, rfl, rfl⟩ (H : Cx w0 fp0 S0 w405 [E (List (Int × Int × List Int × List Int)) y403_0_1 h406, E (List Int) y403_0_2 h408, E (List Int) y403_0_3 h410, Bx b400 [(.int .i64 y390_0), (h393).v, (h395).v, (h397).v], E (List (Int × Int × List Int × List Int)) y390_1 h393, E (List Int) y390_2 h395, E (List Int) y390_3 h397, Bx b387 [(.int .i64 y377_0), (h380).v, (h382).v, (h384).v], E (List (Int × Int × List Int × List Int)) y377_1 h380, E (List Int) y377_2 h382, E (List Int) y377_3 h384, Bx b8 [(.int .i64 aA__0), (aA__1h).v, (aA__2h).v, (aA__3h).v], Es (List (Int × Int × List Int × List Int)) aA__1 aA__1h, Es (List Int) aA__2 aA__2h, Es (List Int) aA__3 aA__3h, Bx b11 [(.int .i64 aB__0), (aB__1h).v, (aB__2h).v, (aB__3h).v], Es (List (Int × Int × List Int × List Int)) aB__1 aB__1h, Es (List Int) aB__2 aB__2h, Es (List Int) aB__3 aB__3h, Bx g196_3 [(.int .i64 s195_0), (g196_0).v, (g196_1).v, (g196_2).v], Es (List (Int × Int × List Int × List Int)) s195_1 g196_0, Es (List Int) s195_2 g196_1, Es (List Int) s195_3 g196_2])
        refine alloc_ gok rfl H ?_; clear H; intro b413 w412 hx H
        clear hx
        replace H : Cx w0 fp0 S0 w412 [Bx b413 [(.int .i64 0), (.slice none 0 0), (.slice none 0 0), (.slice none 0 0)], E (List (Int × Int × List Int × List Int)) y403_0_1 h406, E (List Int) y403_0_2 h408, E (List Int) y403_0_3 h410, Bx b400 [(.int .i64 y390_0), (h393).v, (h395).v, (h397).v], E (List (Int × Int × List Int × List Int)) y390_1 h393, E (List Int) y390_2 h395, E (List Int) y390_3 h397, Bx b387 [(.int .i64 y377_0), (h380).v, (h382).v, (h384).v], E (List (Int × Int × List Int × List Int)) y377_1 h380, E (List Int) y377_2 h382, E (List Int) y377_3 h384, Bx b8 [(.int .i64 aA__0), (aA__1h).v, (aA__2h).v, (aA__3h).v], Es (List (Int × Int × List Int × List Int)) aA__1 aA__1h, Es (List Int) aA__2 aA__2h, Es (List Int) aA__3 aA__3h, Bx b11 [(.int .i64 aB__0), (aB__1h).v, (aB__2h).v, (aB__3h).v], Es (List (Int × Int × List Int × List Int)) aB__1 aB__1h, Es (List Int) aB__2 aB__2h, Es (List Int) aB__3 aB__3h, Bx g196_3 [(.int .i64 s195_0), (g196_0).v, (g196_1).v, (g196_2).v], Es (List (Int × Int × List Int × List Int)) s195_1 g196_0, Es (List Int) s195_2 g196_1, Es (List Int) s195_3 g196_2] := H
        refine stA gok [(.int .i64 y403_0_0), (h406).v, (h408).v, (h410).v] rfl H rfl rfl rfl ?_; clear H; intro w415 H
        replace H : Cx w0 fp0 S0 w415 [Bx b413 [(.int .i64 y403_0_0), (h406).v, (h408).v, (h410).v], E (List (Int × Int × List Int × List Int)) y403_0_1 h406, E (List Int) y403_0_2 h408, E (List Int) y403_0_3 h410, Bx b400 [(.int .i64 y390_0), (h393).v, (h395).v, (h397).v], E (List (Int × Int × List Int × List Int)) y390_1 h393, E (List Int) y390_2 h395, E (List Int) y390_3 h397, Bx b387 [(.int .i64 y377_0), (h380).v, (h382).v, (h384).v], E (List (Int × Int × List Int × List Int)) y377_1 h380, E (List Int) y377_2 h382, E (List Int) y377_3 h384, Bx b8 [(.int .i64 aA__0), (aA__1h).v, (aA__2h).v, (aA__3h).v], Es (List (Int × Int × List Int × List Int)) aA__1 aA__1h, Es (List Int) aA__2 aA__2h, Es (List Int) aA__3 aA__3h, Bx b11 [(.int .i64 aB__0), (aB__1h).v, (aB__2h).v, (aB__3h).v], Es (List (Int × Int × List Int × List Int)) aB__1 aB__1h, Es (List Int) aB__2 aB__2h, Es (List Int) aB__3 aB__3h, Bx g196_3 [(.int .i64 s195_0), (g196_0).v, (g196_1).v, (g196_2).v], Es (List (Int × Int × List Int × List Int)) s195_1 g196_0, Es (List Int) s195_2 g196_1, Es (List Int) s195_3 g196_2] := H
        refine sq ?_
        obtain ⟨r427, hF429, hF428⟩ := bindS hF404; clear hF404
        refine cut (fun (q430 : Bool) => [(2, (.pointer (some ⟨b8, 0, none⟩))), (3, (.pointer (some ⟨b11, 0, none⟩))), (6, (.pointer (some ⟨g196_3, 0, none⟩))), (7, (.bool s195_4)), (8, (.pointer (some ⟨b387, 0, none⟩))), (9, (.pointer (some ⟨b400, 0, none⟩))), (10, (.pointer (some ⟨b413, 0, none⟩))), (11, (.bool y403_1)), (53, (.bool q430))]) (fun (q430 : Bool) w' => q430 = r427 ∧ Cx w0 fp0 S0 w' [Bx b8 [(.int .i64 aA__0), (aA__1h).v, (aA__2h).v, (aA__3h).v], Es (List (Int × Int × List Int × List Int)) aA__1 aA__1h, Es (List Int) aA__2 aA__2h, Es (List Int) aA__3 aA__3h, Bx b11 [(.int .i64 aB__0), (aB__1h).v, (aB__2h).v, (aB__3h).v], Es (List (Int × Int × List Int × List Int)) aB__1 aB__1h, Es (List Int) aB__2 aB__2h, Es (List Int) aB__3 aB__3h, Bx g196_3 [(.int .i64 s195_0), (g196_0).v, (g196_1).v, (g196_2).v], Es (List (Int × Int × List Int × List Int)) s195_1 g196_0, Es (List Int) s195_2 g196_1, Es (List Int) s195_3 g196_2, Bx b387 [(.int .i64 y377_0), (h380).v, (h382).v, (h384).v], E (List (Int × Int × List Int × List Int)) y377_1 h380, E (List Int) y377_2 h382, E (List Int) y377_3 h384, Bx b400 [(.int .i64 y390_0), (h393).v, (h395).v, (h397).v], E (List (Int × Int × List Int × List Int)) y390_1 h393, E (List Int) y390_2 h395, E (List Int) y390_3 h397, Bx b413 [(.int .i64 y403_0_0), (h406).v, (h408).v, (h410).v], E (List (Int × Int × List Int × List Int)) y403_0_1 h406, E (List Int) y403_0_2 h408, E (List Int) y403_0_3 h410]) ?_ ?_
        · skip
          refine loadN [(.int .i64 y403_0_0), (h406).v, (h408).v, (h410).v] rfl (fun j u hj => H.bx 0 rfl hj) ?_
          refine loadN [(.int .i64 s195_0), (g196_0).v, (g196_1).v, (g196_2).v] rfl (fun j u hj => H.bx 20 rfl hj) ?_
          obtain ⟨y431, e, hF432⟩ := bindS hF429; clear hF429
          have ey431 := e; clear e
          refine callF (laws_eqGraph_c y403_0_0 y403_0_1 h406 y403_0_2 h408 y403_0_3 h410 s195_0 s195_1 g196_0 s195_2 g196_1 s195_3 g196_2 y431 ey431) (Γi := []) H ⟨Vw.own 1 rfl, Vw.own 2 rfl, Vw.own 3 rfl, Vw.sh 21 rfl, Vw.sh 22 rfl, Vw.sh 23 rfl, trivial⟩ ?_; clear H ey431
          rintro _ _ w433 ⟨rfl, rfl⟩ (H : Cx w0 fp0 S0 w433 [Bx b413 [(.int .i64 y403_0_0), (h406).v, (h408).v, (h410).v], E (List (Int × Int × List Int × List Int)) y403_0_1 h406, E (List Int) y403_0_2 h408, E (List Int) y403_0_3 h410, Bx b400 [(.int .i64 y390_0), (h393).v, (h395).v, (h397).v], E (List (Int × Int × List Int × List Int)) y390_1 h393, E (List Int) y390_2 h395, E (List Int) y390_3 h397, Bx b387 [(.int .i64 y377_0), (h380).v, (h382).v, (h384).v], E (List (Int × Int × List Int × List Int)) y377_1 h380, E (List Int) y377_2 h382, E (List Int) y377_3 h384, Bx b8 [(.int .i64 aA__0), (aA__1h).v, (aA__2h).v, (aA__3h).v], Es (List (Int × Int × List Int × List Int)) aA__1 aA__1h, Es (List Int) aA__2 aA__2h, Es (List Int) aA__3 aA__3h, Bx b11 [(.int .i64 aB__0), (aB__1h).v, (aB__2h).v, (aB__3h).v], Es (List (Int × Int × List Int × List Int)) aB__1 aB__1h, Es (List Int) aB__2 aB__2h, Es (List Int) aB__3 aB__3h, Bx g196_3 [(.int .i64 s195_0), (g196_0).v, (g196_1).v, (g196_2).v], Es (List (Int × Int × List Int × List Int)) s195_1 g196_0, Es (List Int) s195_2 g196_1, Es (List Int) s195_3 g196_2])
          obtain ⟨a434, e, hF435⟩ := bindS hF432; clear hF432
          refine boolO e ?_; clear e
          cases a434
          · have hF436 := condF hF435; clear hF435
            obtain ⟨a437, e, hF438⟩ := bindS hF436; clear hF436
            refine boolO e ?_; clear e
            exact ⟨a437, ⟨rfl, rfl, rfl, rfl, rfl, rfl, rfl, rfl, rfl, trivial⟩, Option.some.inj hF438, H.sel [12, 13, 14, 15, 16, 17, 18, 19, 20, 21, 22, 23, 8, 9, 10, 11, 4, 5, 6, 7, 0, 1, 2, 3] rfl⟩
          · have hF439 := condT hF435; clear hF435
            exact ⟨true, ⟨rfl, rfl, rfl, rfl, rfl, rfl, rfl, rfl, rfl, trivial⟩, Option.some.inj hF439, H.sel [12, 13, 14, 15, 16, 17, 18, 19, 20, 21, 22, 23, 8, 9, 10, 11, 4, 5, 6, 7, 0, 1, 2, 3] rfl⟩
        · clear hF429 H
          rintro T441 s425 w440 ⟨hr, (H : Cx w0 fp0 S0 w440 [Bx b8 [(.int .i64 aA__0), (aA__1h).v, (aA__2h).v, (aA__3h).v], Es (List (Int × Int × List Int × List Int)) aA__1 aA__1h, Es (List Int) aA__2 aA__2h, Es (List Int) aA__3 aA__3h, Bx b11 [(.int .i64 aB__0), (aB__1h).v, (aB__2h).v, (aB__3h).v], Es (List (Int × Int × List Int × List Int)) aB__1 aB__1h, Es (List Int) aB__2 aB__2h, Es (List Int) aB__3 aB__3h, Bx g196_3 [(.int .i64 s195_0), (g196_0).v, (g196_1).v, (g196_2).v], Es (List (Int × Int × List Int × List Int)) s195_1 g196_0, Es (List Int) s195_2 g196_1, Es (List Int) s195_3 g196_2, Bx b387 [(.int .i64 y377_0), (h380).v, (h382).v, (h384).v], E (List (Int × Int × List Int × List Int)) y377_1 h380, E (List Int) y377_2 h382, E (List Int) y377_3 h384, Bx b400 [(.int .i64 y390_0), (h393).v, (h395).v, (h397).v], E (List (Int × Int × List Int × List Int)) y390_1 h393, E (List Int) y390_2 h395, E (List Int) y390_3 h397, Bx b413 [(.int .i64 y403_0_0), (h406).v, (h408).v, (h410).v], E (List (Int × Int × List Int × List Int)) y403_0_1 h406, E (List Int) y403_0_2 h408, E (List Int) y403_0_3 h410])⟩
          subst hr
          cases s425
          · have hF442 := condF hF428; clear hF428
            refine sq ?_
            refine heldX H [] (.fst 0 (.fst 1 (.act 2 (.act 3 (.fst 4 .done))))) mixed [] trivial (by kernel_rfl) ?_
            clear H; intro w443 H
            have hX : Ext w443 w443 := Upd.refl _ _
            have H0 := H
            refine loadNX [(.int .i64 y377_0), (h380).v, (h382).v, (h384).v] rfl (fun j u hj => H.bx 12 rfl hj) ?_
            refine loadNX [(.int .i64 aA__0), (aA__1h).v, (aA__2h).v, (aA__3h).v] rfl (fun j u hj => H.bx 0 rfl hj) ?_
            obtain ⟨y444, e, hF445⟩ := bindS hF442; clear hF442
            obtain ⟨y444_0, y444_1, y444_2, y444_3⟩ := y444
            have ey444 := e; clear e
            refine callFx (laws_toGraph_c aA__0 aA__1 aA__1h aA__2 aA__2h aA__3 aA__3h y444_0 y444_1 y444_2 y444_3 ey444) H ⟨Vw.sh 1 rfl, Vw.sh 2 rfl, Vw.sh 3 rfl, trivial⟩ ?_; clear H ey444
            rintro _ _ w446 ⟨h447, h449, h451, rfl, rfl⟩ hx (H : Cx w0 fp0 S0 w446 [E (List (Int × Int × List Int × List Int)) y444_1 h447, E (List Int) y444_2 h449, E (List Int) y444_3 h451, Bx b8 [(.int .i64 aA__0), (aA__1h).v, (aA__2h).v, (aA__3h).v], Es (List (Int × Int × List Int × List Int)) aA__1 aA__1h, Es (List Int) aA__2 aA__2h, Es (List Int) aA__3 aA__3h, Bx b11 [(.int .i64 aB__0), (aB__1h).v, (aB__2h).v, (aB__3h).v], Es (List (Int × Int × List Int × List Int)) aB__1 aB__1h, Es (List Int) aB__2 aB__2h, Es (List Int) aB__3 aB__3h, Bx g196_3 [(.int .i64 s195_0), (g196_0).v, (g196_1).v, (g196_2).v], Es (List (Int × Int × List Int × List Int)) s195_1 g196_0, Es (List Int) s195_2 g196_1, Es (List Int) s195_3 g196_2, Bx b387 [(.int .i64 y377_0), (h380).v, (h382).v, (h384).v], E (List (Int × Int × List Int × List Int)) y377_1 h380, E (List Int) y377_2 h382, E (List Int) y377_3 h384, Bx b400 [(.int .i64 y390_0), (h393).v, (h395).v, (h397).v], E (List (Int × Int × List Int × List Int)) y390_1 h393, E (List Int) y390_2 h395, E (List Int) y390_3 h397, Bx b413 [(.int .i64 y403_0_0), (h406).v, (h408).v, (h410).v], E (List (Int × Int × List Int × List Int)) y403_0_1 h406, E (List Int) y403_0_2 h408, E (List Int) y403_0_3 h410])
            replace hX := hX.trans0 hx; clear hx
            refine hold hX ?_
            obtain ⟨y453, e, hF454⟩ := bindS hF445; clear hF445
            have ey453 := e; clear e
            refine callFx (laws_eqGraph_c y377_0 y377_1 h380 y377_2 h382 y377_3 h384 y444_0 y444_1 h447 y444_2 h449 y444_3 h451 y453 ey453) H ⟨Vw.own 16 rfl, Vw.own 17 rfl, Vw.own 18 rfl, Vw.own 0 rfl, Vw.own 1 rfl, Vw.own 2 rfl, trivial⟩ ?_; clear H ey453
            rintro _ _ w455 ⟨rfl, rfl⟩ hx (H : Cx w0 fp0 S0 w455 [E (List (Int × Int × List Int × List Int)) y444_1 h447, E (List Int) y444_2 h449, E (List Int) y444_3 h451, Bx b8 [(.int .i64 aA__0), (aA__1h).v, (aA__2h).v, (aA__3h).v], Es (List (Int × Int × List Int × List Int)) aA__1 aA__1h, Es (List Int) aA__2 aA__2h, Es (List Int) aA__3 aA__3h, Bx b11 [(.int .i64 aB__0), (aB__1h).v, (aB__2h).v, (aB__3h).v], Es (List (Int × Int × List Int × List Int)) aB__1 aB__1h, Es (List Int) aB__2 aB__2h, Es (List Int) aB__3 aB__3h, Bx g196_3 [(.int .i64 s195_0), (g196_0).v, (g196_1).v, (g196_2).v], Es (List (Int × Int × List Int × List Int)) s195_1 g196_0, Es (List Int) s195_2 g196_1, Es (List Int) s195_3 g196_2, Bx b387 [(.int .i64 y377_0), (h380).v, (h382).v, (h384).v], E (List (Int × Int × List Int × List Int)) y377_1 h380, E (List Int) y377_2 h382, E (List Int) y377_3 h384, Bx b400 [(.int .i64 y390_0), (h393).v, (h395).v, (h397).v], E (List (Int × Int × List Int × List Int)) y390_1 h393, E (List Int) y390_2 h395, E (List Int) y390_3 h397, Bx b413 [(.int .i64 y403_0_0), (h406).v, (h408).v, (h410).v], E (List (Int × Int × List Int × List Int)) y403_0_1 h406, E (List Int) y403_0_2 h408, E (List Int) y403_0_3 h410])
            replace hX := hX.trans0 hx; clear hx
            refine hold hX ?_
            obtain ⟨a456, e, hF457⟩ := bindS hF454; clear hF454
            refine boolO e ?_; clear e
            cases a456
            · have hF458 := condF hF457; clear hF457
              refine sq ?_
              refine heldX H [] (.fst 0 (.fst 1 (.act 2 (.act 3 (.fst 4 .done))))) mixed [] trivial (by kernel_rfl) ?_
              clear H; intro w459 H
              have hX : Ext w459 w459 := Upd.refl _ _
              have H0 := H
              refine loadNX [(.int .i64 y390_0), (h393).v, (h395).v, (h397).v] rfl (fun j u hj => H.bx 19 rfl hj) ?_
              refine loadNX [(.int .i64 aB__0), (aB__1h).v, (aB__2h).v, (aB__3h).v] rfl (fun j u hj => H.bx 7 rfl hj) ?_
              obtain ⟨y460, e, hF461⟩ := bindS hF458; clear hF458
              obtain ⟨y460_0, y460_1, y460_2, y460_3⟩ := y460
              have ey460 := e; clear e
              refine callFx (laws_toGraph_c aB__0 aB__1 aB__1h aB__2 aB__2h aB__3 aB__3h y460_0 y460_1 y460_2 y460_3 ey460) H ⟨Vw.sh 8 rfl, Vw.sh 9 rfl, Vw.sh 10 rfl, trivial⟩ ?_; clear H ey460
              rintro _ _ w462 ⟨h463, h465, h467, rfl, rfl⟩ hx (H : Cx w0 fp0 S0 w462 [E (List (Int × Int × List Int × List Int)) y460_1 h463, E (List Int) y460_2 h465, E (List Int) y460_3 h467, E (List (Int × Int × List Int × List Int)) y444_1 h447, E (List Int) y444_2 h449, E (List Int) y444_3 h451, Bx b8 [(.int .i64 aA__0), (aA__1h).v, (aA__2h).v, (aA__3h).v], Es (List (Int × Int × List Int × List Int)) aA__1 aA__1h, Es (List Int) aA__2 aA__2h, Es (List Int) aA__3 aA__3h, Bx b11 [(.int .i64 aB__0), (aB__1h).v, (aB__2h).v, (aB__3h).v], Es (List (Int × Int × List Int × List Int)) aB__1 aB__1h, Es (List Int) aB__2 aB__2h, Es (List Int) aB__3 aB__3h, Bx g196_3 [(.int .i64 s195_0), (g196_0).v, (g196_1).v, (g196_2).v], Es (List (Int × Int × List Int × List Int)) s195_1 g196_0, Es (List Int) s195_2 g196_1, Es (List Int) s195_3 g196_2, Bx b387 [(.int .i64 y377_0), (h380).v, (h382).v, (h384).v], E (List (Int × Int × List Int × List Int)) y377_1 h380, E (List Int) y377_2 h382, E (List Int) y377_3 h384, Bx b400 [(.int .i64 y390_0), (h393).v, (h395).v, (h397).v], E (List (Int × Int × List Int × List Int)) y390_1 h393, E (List Int) y390_2 h395, E (List Int) y390_3 h397, Bx b413 [(.int .i64 y403_0_0), (h406).v, (h408).v, (h410).v], E (List (Int × Int × List Int × List Int)) y403_0_1 h406, E (List Int) y403_0_2 h408, E (List Int) y403_0_3 h410])
              replace hX := hX.trans0 hx; clear hx
              refine hold hX ?_
              obtain ⟨y469, e, hF470⟩ := bindS hF461; clear hF461
              have ey469 := e; clear e
              refine callFx (laws_eqGraph_c y390_0 y390_1 h393 y390_2 h395 y390_3 h397 y460_0 y460_1 h463 y460_2 h465 y460_3 h467 y469 ey469) H ⟨Vw.own 23 rfl, Vw.own 24 rfl, Vw.own 25 rfl, Vw.own 0 rfl, Vw.own 1 rfl, Vw.own 2 rfl, trivial⟩ ?_; clear H ey469
              rintro _ _ w471 ⟨rfl, rfl⟩ hx (H : Cx w0 fp0 S0 w471 [E (List (Int × Int × List Int × List Int)) y460_1 h463, E (List Int) y460_2 h465, E (List Int) y460_3 h467, E (List (Int × Int × List Int × List Int)) y444_1 h447, E (List Int) y444_2 h449, E (List Int) y444_3 h451, Bx b8 [(.int .i64 aA__0), (aA__1h).v, (aA__2h).v, (aA__3h).v], Es (List (Int × Int × List Int × List Int)) aA__1 aA__1h, Es (List Int) aA__2 aA__2h, Es (List Int) aA__3 aA__3h, Bx b11 [(.int .i64 aB__0), (aB__1h).v, (aB__2h).v, (aB__3h).v], Es (List (Int × Int × List Int × List Int)) aB__1 aB__1h, Es (List Int) aB__2 aB__2h, Es (List Int) aB__3 aB__3h, Bx g196_3 [(.int .i64 s195_0), (g196_0).v, (g196_1).v, (g196_2).v], Es (List (Int × Int × List Int × List Int)) s195_1 g196_0, Es (List Int) s195_2 g196_1, Es (List Int) s195_3 g196_2, Bx b387 [(.int .i64 y377_0), (h380).v, (h382).v, (h384).v], E (List (Int × Int × List Int × List Int)) y377_1 h380, E (List Int) y377_2 h382, E (List Int) y377_3 h384, Bx b400 [(.int .i64 y390_0), (h393).v, (h395).v, (h397).v], E (List (Int × Int × List Int × List Int)) y390_1 h393, E (List Int) y390_2 h395, E (List Int) y390_3 h397, Bx b413 [(.int .i64 y403_0_0), (h406).v, (h408).v, (h410).v], E (List (Int × Int × List Int × List Int)) y403_0_1 h406, E (List Int) y403_0_2 h408, E (List Int) y403_0_3 h410])
              replace hX := hX.trans0 hx; clear hx
              refine hold hX ?_
              obtain ⟨a472, e, hF473⟩ := bindS hF470; clear hF470
              refine boolO e ?_; clear e
              cases a472
              · have hF474 := condF hF473; clear hF473
                refine loadN [(.int .i64 y377_0), (h380).v, (h382).v, (h384).v] rfl (fun j u hj => H.bx 18 rfl hj) ?_
                obtain ⟨y475, e, hF476⟩ := bindS hF474; clear hF474
                obtain ⟨⟨y475_0_0, y475_0_1, y475_0_2, y475_0_3⟩, y475_1⟩ := y475
                have ey475 := e; clear e
                replace H := H.sel [19, 20, 21, 0, 1, 2, 3, 4, 5, 6, 7, 8, 9, 10, 11, 12, 13, 14, 15, 16, 17, 18, 22, 23, 24, 25, 26, 27, 28, 29] rfl
                refine callF (laws_markGraph_c y377_0 y377_1 h380 y377_2 h382 y377_3 h384 1 y475_0_0 y475_0_1 y475_0_2 y475_0_3 y475_1 ey475) (Γi := [E (List (Int × Int × List Int × List Int)) y377_1 h380, E (List Int) y377_2 h382, E (List Int) y377_3 h384]) H trivial ?_; clear H ey475
                rintro _ _ w477 ⟨rfl, rfl⟩ (H : Cx w0 fp0 S0 w477 [E (List (Int × Int × List Int × List Int)) y475_0_1 h380, E (List Int) y475_0_2 h382, E (List Int) y475_0_3 h384, E (List (Int × Int × List Int × List Int)) y460_1 h463, E (List Int) y460_2 h465, E (List Int) y460_3 h467, E (List (Int × Int × List Int × List Int)) y444_1 h447, E (List Int) y444_2 h449, E (List Int) y444_3 h451, Bx b8 [(.int .i64 aA__0), (aA__1h).v, (aA__2h).v, (aA__3h).v], Es (List (Int × Int × List Int × List Int)) aA__1 aA__1h, Es (List Int) aA__2 aA__2h, Es (List Int) aA__3 aA__3h, Bx b11 [(.int .i64 aB__0), (aB__1h).v, (aB__2h).v, (aB__3h).v], Es (List (Int × Int × List Int × List Int)) aB__1 aB__1h, Es (List Int) aB__2 aB__2h, Es (List Int) aB__3 aB__3h, Bx g196_3 [(.int .i64 s195_0), (g196_0).v, (g196_1).v, (g196_2).v], Es (List (Int × Int × List Int × List Int)) s195_1 g196_0, Es (List Int) s195_2 g196_1, Es (List Int) s195_3 g196_2, Bx b387 [(.int .i64 y377_0), (h380).v, (h382).v, (h384).v], Bx b400 [(.int .i64 y390_0), (h393).v, (h395).v, (h397).v], E (List (Int × Int × List Int × List Int)) y390_1 h393, E (List Int) y390_2 h395, E (List Int) y390_3 h397, Bx b413 [(.int .i64 y403_0_0), (h406).v, (h408).v, (h410).v], E (List (Int × Int × List Int × List Int)) y403_0_1 h406, E (List Int) y403_0_2 h408, E (List Int) y403_0_3 h410])
                refine loadN [(.int .i64 y390_0), (h393).v, (h395).v, (h397).v] rfl (fun j u hj => H.bx 22 rfl hj) ?_
                obtain ⟨y478, e, hF479⟩ := bindS hF476; clear hF476
                obtain ⟨⟨y478_0_0, y478_0_1, y478_0_2, y478_0_3⟩, y478_1⟩ := y478
                have ey478 := e; clear e
                replace H := H.sel [23, 24, 25, 0, 1, 2, 3, 4, 5, 6, 7, 8, 9, 10, 11, 12, 13, 14, 15, 16, 17, 18, 19, 20, 21, 22, 26, 27, 28, 29] rfl
                refine callF (laws_markGraph_c y390_0 y390_1 h393 y390_2 h395 y390_3 h397 y475_1 y478_0_0 y478_0_1 y478_0_2 y478_0_3 y478_1 ey478) (Γi := [E (List (Int × Int × List Int × List Int)) y390_1 h393, E (List Int) y390_2 h395, E (List Int) y390_3 h397]) H trivial ?_; clear H ey478
                rintro _ _ w480 ⟨rfl, rfl⟩ (H : Cx w0 fp0 S0 w480 [E (List (Int × Int × List Int × List Int)) y478_0_1 h393, E (List Int) y478_0_2 h395, E (List Int) y478_0_3 h397, E (List (Int × Int × List Int × List Int)) y475_0_1 h380, E (List Int) y475_0_2 h382, E (List Int) y475_0_3 h384, E (List (Int × Int × List Int × List Int)) y460_1 h463, E (List Int) y460_2 h465, E (List Int) y460_3 h467, E (List (Int × Int × List Int × List Int)) y444_1 h447, E (List Int) y444_2 h449, E (List Int) y444_3 h451, Bx b8 [(.int .i64 aA__0), (aA__1h).v, (aA__2h).v, (aA__3h).v], Es (List (Int × Int × List Int × List Int)) aA__1 aA__1h, Es (List Int) aA__2 aA__2h, Es (List Int) aA__3 aA__3h, Bx b11 [(.int .i64 aB__0), (aB__1h).v, (aB__2h).v, (aB__3h).v], Es (List (Int × Int × List Int × List Int)) aB__1 aB__1h, Es (List Int) aB__2 aB__2h, Es (List Int) aB__3 aB__3h, Bx g196_3 [(.int .i64 s195_0), (g196_0).v, (g196_1).v, (g196_2).v], Es (List (Int × Int × List Int × List Int)) s195_1 g196_0, Es (List Int) s195_2 g196_1, Es (List Int) s195_3 g196_2, Bx b387 [(.int .i64 y377_0), (h380).v, (h382).v, (h384).v], Bx b400 [(.int .i64 y390_0), (h393).v, (h395).v, (h397).v], Bx b413 [(.int .i64 y403_0_0), (h406).v, (h408).v, (h410).v], E (List (Int × Int × List Int × List Int)) y403_0_1 h406, E (List Int) y403_0_2 h408, E (List Int) y403_0_3 h410])
                refine sq ?_
                obtain ⟨r496, hF498, hF497⟩ := bindS hF479; clear hF479
                refine cut (fun (q499 : Bool) => [(2, (.pointer (some ⟨b8, 0, none⟩))), (3, (.pointer (some ⟨b11, 0, none⟩))), (6, (.pointer (some ⟨g196_3, 0, none⟩))), (7, (.bool s195_4)), (10, (.pointer (some ⟨b413, 0, none⟩))), (82, (.bool q499))]) (fun (q499 : Bool) w' => q499 = r496 ∧ Cx w0 fp0 S0 w' [Bx b8 [(.int .i64 aA__0), (aA__1h).v, (aA__2h).v, (aA__3h).v], Es (List (Int × Int × List Int × List Int)) aA__1 aA__1h, Es (List Int) aA__2 aA__2h, Es (List Int) aA__3 aA__3h, Bx b11 [(.int .i64 aB__0), (aB__1h).v, (aB__2h).v, (aB__3h).v], Es (List (Int × Int × List Int × List Int)) aB__1 aB__1h, Es (List Int) aB__2 aB__2h, Es (List Int) aB__3 aB__3h, Bx g196_3 [(.int .i64 s195_0), (g196_0).v, (g196_1).v, (g196_2).v], Es (List (Int × Int × List Int × List Int)) s195_1 g196_0, Es (List Int) s195_2 g196_1, Es (List Int) s195_3 g196_2, Bx b413 [(.int .i64 y403_0_0), (h406).v, (h408).v, (h410).v], E (List (Int × Int × List Int × List Int)) y403_0_1 h406, E (List Int) y403_0_2 h408, E (List Int) y403_0_3 h410]) ?_ ?_
                · skip
                  obtain ⟨a500, e, hF501⟩ := bindS hF498; clear hF498
                  refine boolO e ?_; clear e
                  cases a500
                  · have hF502 := condF hF501; clear hF501
                    refine loadN [(.int .i64 y403_0_0), (h406).v, (h408).v, (h410).v] rfl (fun j u hj => H.bx 26 rfl hj) ?_
                    refine loadN [(.int .i64 s195_0), (g196_0).v, (g196_1).v, (g196_2).v] rfl (fun j u hj => H.bx 20 rfl hj) ?_
                    obtain ⟨y503, e, hF504⟩ := bindS hF502; clear hF502
                    have ey503 := e; clear e
                    refine callF (laws_eqGraph_c y403_0_0 y403_0_1 h406 y403_0_2 h408 y403_0_3 h410 s195_0 s195_1 g196_0 s195_2 g196_1 s195_3 g196_2 y503 ey503) (Γi := []) H ⟨Vw.own 27 rfl, Vw.own 28 rfl, Vw.own 29 rfl, Vw.sh 21 rfl, Vw.sh 22 rfl, Vw.sh 23 rfl, trivial⟩ ?_; clear H ey503
                    rintro _ _ w505 ⟨rfl, rfl⟩ (H : Cx w0 fp0 S0 w505 [E (List (Int × Int × List Int × List Int)) y478_0_1 h393, E (List Int) y478_0_2 h395, E (List Int) y478_0_3 h397, E (List (Int × Int × List Int × List Int)) y475_0_1 h380, E (List Int) y475_0_2 h382, E (List Int) y475_0_3 h384, E (List (Int × Int × List Int × List Int)) y460_1 h463, E (List Int) y460_2 h465, E (List Int) y460_3 h467, E (List (Int × Int × List Int × List Int)) y444_1 h447, E (List Int) y444_2 h449, E (List Int) y444_3 h451, Bx b8 [(.int .i64 aA__0), (aA__1h).v, (aA__2h).v, (aA__3h).v], Es (List (Int × Int × List Int × List Int)) aA__1 aA__1h, Es (List Int) aA__2 aA__2h, Es (List Int) aA__3 aA__3h, Bx b11 [(.int .i64 aB__0), (aB__1h).v, (aB__2h).v, (aB__3h).v], Es (List (Int × Int × List Int × List Int)) aB__1 aB__1h, Es (List Int) aB__2 aB__2h, Es (List Int) aB__3 aB__3h, Bx g196_3 [(.int .i64 s195_0), (g196_0).v, (g196_1).v, (g196_2).v], Es (List (Int × Int × List Int × List Int)) s195_1 g196_0, Es (List Int) s195_2 g196_1, Es (List Int) s195_3 g196_2, Bx b387 [(.int .i64 y377_0), (h380).v, (h382).v, (h384).v], Bx b400 [(.int .i64 y390_0), (h393).v, (h395).v, (h397).v], Bx b413 [(.int .i64 y403_0_0), (h406).v, (h408).v, (h410).v], E (List (Int × Int × List Int × List Int)) y403_0_1 h406, E (List Int) y403_0_2 h408, E (List Int) y403_0_3 h410])
                    obtain ⟨a506, e, hF507⟩ := bindS hF504; clear hF504
                    refine boolO e ?_; clear e
                    cases a506
                    · have hF508 := condF hF507; clear hF507
                      obtain ⟨a509, e, hF510⟩ := bindS hF508; clear hF508
                      refine boolO e ?_; clear e
                      exact ⟨a509, ⟨rfl, rfl, rfl, rfl, rfl, rfl, trivial⟩, Option.some.inj hF510, H.sel [12, 13, 14, 15, 16, 17, 18, 19, 20, 21, 22, 23, 26, 27, 28, 29] rfl⟩
                    · have hF511 := condT hF507; clear hF507
                      exact ⟨true, ⟨rfl, rfl, rfl, rfl, rfl, rfl, trivial⟩, Option.some.inj hF511, H.sel [12, 13, 14, 15, 16, 17, 18, 19, 20, 21, 22, 23, 26, 27, 28, 29] rfl⟩
                  · have hF512 := condT hF501; clear hF501
                    exact ⟨true, ⟨rfl, rfl, rfl, rfl, rfl, rfl, trivial⟩, Option.some.inj hF512, H.sel [12, 13, 14, 15, 16, 17, 18, 19, 20, 21, 22, 23, 26, 27, 28, 29] rfl⟩
                · clear hF498 H
                  rintro T514 s494 w513 ⟨hr, (H : Cx w0 fp0 S0 w513 [Bx b8 [(.int .i64 aA__0), (aA__1h).v, (aA__2h).v, (aA__3h).v], Es (List (Int × Int × List Int × List Int)) aA__1 aA__1h, Es (List Int) aA__2 aA__2h, Es (List Int) aA__3 aA__3h, Bx b11 [(.int .i64 aB__0), (aB__1h).v, (aB__2h).v, (aB__3h).v], Es (List (Int × Int × List Int × List Int)) aB__1 aB__1h, Es (List Int) aB__2 aB__2h, Es (List Int) aB__3 aB__3h, Bx g196_3 [(.int .i64 s195_0), (g196_0).v, (g196_1).v, (g196_2).v], Es (List (Int × Int × List Int × List Int)) s195_1 g196_0, Es (List Int) s195_2 g196_1, Es (List Int) s195_3 g196_2, Bx b413 [(.int .i64 y403_0_0), (h406).v, (h408).v, (h410).v], E (List (Int × Int × List Int × List Int)) y403_0_1 h406, E (List Int) y403_0_2 h408, E (List Int) y403_0_3 h410])⟩
                  subst hr
                  cases s494
                  · have hF515 := condF hF497; clear hF497
                    refine loadN [(.int .i64 y403_0_0), (h406).v, (h408).v, (h410).v] rfl (fun j u hj => H.bx 12 rfl hj) ?_
                    obtain ⟨y516, e, hF517⟩ := bindS hF515; clear hF515
                    obtain ⟨⟨y516_0_0, y516_0_1, y516_0_2, y516_0_3⟩, y516_1⟩ := y516
                    have ey516 := e; clear e
                    replace H := H.sel [13, 14, 15, 0, 1, 2, 3, 4, 5, 6, 7, 8, 9, 10, 11, 12] rfl
                    refine callF (laws_markGraph_c y403_0_0 y403_0_1 h406 y403_0_2 h408 y403_0_3 h410 1 y516_0_0 y516_0_1 y516_0_2 y516_0_3 y516_1 ey516) (Γi := [E (List (Int × Int × List Int × List Int)) y403_0_1 h406, E (List Int) y403_0_2 h408, E (List Int) y403_0_3 h410]) H trivial ?_; clear H ey516
                    rintro _ _ w518 ⟨rfl, rfl⟩ (H : Cx w0 fp0 S0 w518 [E (List (Int × Int × List Int × List Int)) y516_0_1 h406, E (List Int) y516_0_2 h408, E (List Int) y516_0_3 h410, Bx b8 [(.int .i64 aA__0), (aA__1h).v, (aA__2h).v, (aA__3h).v], Es (List (Int × Int × List Int × List Int)) aA__1 aA__1h, Es (List Int) aA__2 aA__2h, Es (List Int) aA__3 aA__3h, Bx b11 [(.int .i64 aB__0), (aB__1h).v, (aB__2h).v, (aB__3h).v], Es (List (Int × Int × List Int × List Int)) aB__1 aB__1h, Es (List Int) aB__2 aB__2h, Es (List Int) aB__3 aB__3h, Bx g196_3 [(.int .i64 s195_0), (g196_0).v, (g196_1).v, (g196_2).v], Es (List (Int × Int × List Int × List Int)) s195_1 g196_0, Es (List Int) s195_2 g196_1, Es (List Int) s195_3 g196_2, Bx b413 [(.int .i64 y403_0_0), (h406).v, (h408).v, (h410).v]])
                    refine loadN [(.int .i64 y403_0_0), (h406).v, (h408).v, (h410).v] rfl (fun j u hj => H.bx 15 rfl hj) ?_
                    obtain ⟨y519, e, hF520⟩ := bindS hF517; clear hF517
                    have ey519 := e; clear e
                    refine callF (laws_heldGraph_c y403_0_0 y516_0_1 h406 y516_0_2 h408 y516_0_3 h410 1 y519 ey519) (Γi := []) H ⟨Vw.own 0 rfl, Vw.own 1 rfl, Vw.own 2 rfl, trivial⟩ ?_; clear H ey519
                    rintro _ _ w521 ⟨rfl, rfl⟩ (H : Cx w0 fp0 S0 w521 [E (List (Int × Int × List Int × List Int)) y516_0_1 h406, E (List Int) y516_0_2 h408, E (List Int) y516_0_3 h410, Bx b8 [(.int .i64 aA__0), (aA__1h).v, (aA__2h).v, (aA__3h).v], Es (List (Int × Int × List Int × List Int)) aA__1 aA__1h, Es (List Int) aA__2 aA__2h, Es (List Int) aA__3 aA__3h, Bx b11 [(.int .i64 aB__0), (aB__1h).v, (aB__2h).v, (aB__3h).v], Es (List (Int × Int × List Int × List Int)) aB__1 aB__1h, Es (List Int) aB__2 aB__2h, Es (List Int) aB__3 aB__3h, Bx g196_3 [(.int .i64 s195_0), (g196_0).v, (g196_1).v, (g196_2).v], Es (List (Int × Int × List Int × List Int)) s195_1 g196_0, Es (List Int) s195_2 g196_1, Es (List Int) s195_3 g196_2, Bx b413 [(.int .i64 y403_0_0), (h406).v, (h408).v, (h410).v]])
                    refine sq ?_
                    obtain ⟨a522, e, hF523⟩ := bindS hF520; clear hF520
                    refine boolO e ?_; clear e
                    cases a522
                    · have hF524 := condF hF523; clear hF523
                      refine sq ?_
                      obtain ⟨a525, e, hF526⟩ := bindS hF524; clear hF524
                      refine boolO e ?_; clear e
                      cases a525
                      · have hF527 := condF hF526; clear hF526
                        obtain ⟨r704, hF706, hF705⟩ := bindS hF527; clear hF527
                        refine heldJ H [9, 10, 7] (.fst 0 (.fst 2 (.alts (.alt 1 (.alts (.alt 3 (.alts (.alt 4 (.fst 5 (.pure 7 (.fst 6 (.act 8 (.act 9 (.act 10 .done)))))) (.alt 8 (.act 4 (.fst 5 (.pure 7 (.fst 6 (.act 9 (.act 10 .done)))))) .no))) (.alt 8 (.act 3 (.act 4 (.fst 5 (.pure 7 (.fst 6 (.act 9 (.act 10 .done))))))) .no))) (.alt 8 (.act 1 (.act 3 (.act 4 (.fst 5 (.pure 7 (.fst 6 (.act 9 (.act 10 .done)))))))) .no))))) mixed [] trivial (by kernel_rfl) (fun (q707 : (Int × (List (Int × Int × List Int × List Int)) × List Int × List Int × Bool) × (Hd × Hd × Hd × Nat)) => [(6, (.pointer (some ⟨g196_3, 0, none⟩))), (7, (.bool s195_4)), (10, (.pointer (some ⟨b413, 0, none⟩))), (13, (.int .i64 y516_1)), (15, (.pointer (some ⟨q707.2.2.2.2, 0, none⟩))), (16, (.bool q707.1.2.2.2.2))]) (fun (q707 : (Int × (List (Int × Int × List Int × List Int)) × List Int × List Int × Bool) × (Hd × Hd × Hd × Nat)) w' => (q707.1.1, q707.1.2.1, q707.1.2.2.1, q707.1.2.2.2.1, q707.1.2.2.2.2) = r704 ∧ Cx w0 fp0 S0 w' [Bx g196_3 [(.int .i64 s195_0), (g196_0).v, (g196_1).v, (g196_2).v], Es (List (Int × Int × List Int × List Int)) s195_1 g196_0, Es (List Int) s195_2 g196_1, Es (List Int) s195_3 g196_2, Bx b413 [(.int .i64 y403_0_0), (h406).v, (h408).v, (h410).v], E (List (Int × Int × List Int × List Int)) y516_0_1 h406, E (List Int) y516_0_2 h408, E (List Int) y516_0_3 h410, Bx q707.2.2.2.2 [(.int .i64 q707.1.1), (q707.2.1).v, (q707.2.2.1).v, (q707.2.2.2.1).v], E (List (Int × Int × List Int × List Int)) q707.1.2.1 q707.2.1, E (List Int) q707.1.2.2.1 q707.2.2.1, E (List Int) q707.1.2.2.2.1 q707.2.2.2.1]) ?_ ?_
                        · skip
                          clear H; intro w708 H
                          have hX : Ext w708 w708 := Upd.refl _ _
                          have H0 := H
                          refine loadNX [(.int .i64 aA__0), (aA__1h).v, (aA__2h).v, (aA__3h).v] rfl (fun j u hj => H.bx 3 rfl hj) ?_
                          refine loadNX [(.int .i64 aB__0), (aB__1h).v, (aB__2h).v, (aB__3h).v] rfl (fun j u hj => H.bx 7 rfl hj) ?_
                          refine both ?_ ?_
                          · skip
                            obtain ⟨y740, e, hF741⟩ := bindS hF706; clear hF706
                            obtain ⟨y740_0, y740_1, y740_2, y740_3⟩ := y740
                            have ey740 := e; clear e
                            refine callFx (laws_toGraph_c aA__0 aA__1 aA__1h aA__2 aA__2h aA__3 aA__3h y740_0 y740_1 y740_2 y740_3 ey740) H ⟨Vw.sh 4 rfl, Vw.sh 5 rfl, Vw.sh 6 rfl, trivial⟩ ?_; clear H ey740
                            rintro _ _ w742 ⟨h743, h745, h747, rfl, rfl⟩ hx (H : Cx w0 fp0 S0 w742 [E (List (Int × Int × List Int × List Int)) y740_1 h743, E (List Int) y740_2 h745, E (List Int) y740_3 h747, E (List (Int × Int × List Int × List Int)) y516_0_1 h406, E (List Int) y516_0_2 h408, E (List Int) y516_0_3 h410, Bx b8 [(.int .i64 aA__0), (aA__1h).v, (aA__2h).v, (aA__3h).v], Es (List (Int × Int × List Int × List Int)) aA__1 aA__1h, Es (List Int) aA__2 aA__2h, Es (List Int) aA__3 aA__3h, Bx b11 [(.int .i64 aB__0), (aB__1h).v, (aB__2h).v, (aB__3h).v], Es (List (Int × Int × List Int × List Int)) aB__1 aB__1h, Es (List Int) aB__2 aB__2h, Es (List Int) aB__3 aB__3h, Bx g196_3 [(.int .i64 s195_0), (g196_0).v, (g196_1).v, (g196_2).v], Es (List (Int × Int × List Int × List Int)) s195_1 g196_0, Es (List Int) s195_2 g196_1, Es (List Int) s195_3 g196_2, Bx b413 [(.int .i64 y403_0_0), (h406).v, (h408).v, (h410).v]])
                            replace hX := hX.trans0 hx; clear hx
                            refine hold hX ?_
                            refine both ?_ ?_
                            · skip
                              obtain ⟨y771, e, hF772⟩ := bindS hF741; clear hF741
                              obtain ⟨y771_0, y771_1, y771_2, y771_3⟩ := y771
                              have ey771 := e; clear e
                              refine callFx (laws_toGraph_c aB__0 aB__1 aB__1h aB__2 aB__2h aB__3 aB__3h y771_0 y771_1 y771_2 y771_3 ey771) H ⟨Vw.sh 11 rfl, Vw.sh 12 rfl, Vw.sh 13 rfl, trivial⟩ ?_; clear H ey771
                              rintro _ _ w773 ⟨h774, h776, h778, rfl, rfl⟩ hx (H : Cx w0 fp0 S0 w773 [E (List (Int × Int × List Int × List Int)) y771_1 h774, E (List Int) y771_2 h776, E (List Int) y771_3 h778, E (List (Int × Int × List Int × List Int)) y740_1 h743, E (List Int) y740_2 h745, E (List Int) y740_3 h747, E (List (Int × Int × List Int × List Int)) y516_0_1 h406, E (List Int) y516_0_2 h408, E (List Int) y516_0_3 h410, Bx b8 [(.int .i64 aA__0), (aA__1h).v, (aA__2h).v, (aA__3h).v], Es (List (Int × Int × List Int × List Int)) aA__1 aA__1h, Es (List Int) aA__2 aA__2h, Es (List Int) aA__3 aA__3h, Bx b11 [(.int .i64 aB__0), (aB__1h).v, (aB__2h).v, (aB__3h).v], Es (List (Int × Int × List Int × List Int)) aB__1 aB__1h, Es (List Int) aB__2 aB__2h, Es (List Int) aB__3 aB__3h, Bx g196_3 [(.int .i64 s195_0), (g196_0).v, (g196_1).v, (g196_2).v], Es (List (Int × Int × List Int × List Int)) s195_1 g196_0, Es (List Int) s195_2 g196_1, Es (List Int) s195_3 g196_2, Bx b413 [(.int .i64 y403_0_0), (h406).v, (h408).v, (h410).v]])
                              replace hX := hX.trans0 hx; clear hx
                              refine hold hX ?_
                              refine both ?_ ?_
                              · skip
                                obtain ⟨y793, e, hF794⟩ := bindS hF772; clear hF772
                                obtain ⟨⟨y793_0_0, y793_0_1, y793_0_2, y793_0_3⟩, y793_1⟩ := y793
                                have ey793 := e; clear e
                                refine callFx (impl_SeqGraphs_c y740_0 y740_1 h743 y740_2 h745 y740_3 h747 y771_0 y771_1 h774 y771_2 h776 y771_3 h778 y793_0_0 y793_0_1 y793_0_2 y793_0_3 y793_1 ey793) H ⟨Vw.own 3 rfl, Vw.own 4 rfl, Vw.own 5 rfl, Vw.own 0 rfl, Vw.own 1 rfl, Vw.own 2 rfl, trivial⟩ ?_; clear H ey793
                                rintro _ _ w795 ⟨h796, h798, h800, rfl, rfl⟩ hx (H : Cx w0 fp0 S0 w795 [E (List (Int × Int × List Int × List Int)) y793_0_1 h796, E (List Int) y793_0_2 h798, E (List Int) y793_0_3 h800, E (List (Int × Int × List Int × List Int)) y771_1 h774, E (List Int) y771_2 h776, E (List Int) y771_3 h778, E (List (Int × Int × List Int × List Int)) y740_1 h743, E (List Int) y740_2 h745, E (List Int) y740_3 h747, E (List (Int × Int × List Int × List Int)) y516_0_1 h406, E (List Int) y516_0_2 h408, E (List Int) y516_0_3 h410, Bx b8 [(.int .i64 aA__0), (aA__1h).v, (aA__2h).v, (aA__3h).v], Es (List (Int × Int × List Int × List Int)) aA__1 aA__1h, Es (List Int) aA__2 aA__2h, Es (List Int) aA__3 aA__3h, Bx b11 [(.int .i64 aB__0), (aB__1h).v, (aB__2h).v, (aB__3h).v], Es (List (Int × Int × List Int × List Int)) aB__1 aB__1h, Es (List Int) aB__2 aB__2h, Es (List Int) aB__3 aB__3h, Bx g196_3 [(.int .i64 s195_0), (g196_0).v, (g196_1).v, (g196_2).v], Es (List (Int × Int × List Int × List Int)) s195_1 g196_0, Es (List Int) s195_2 g196_1, Es (List Int) s195_3 g196_2, Bx b413 [(.int .i64 y403_0_0), (h406).v, (h408).v, (h410).v]])
                                replace hX := hX.trans0 hx; clear hx
                                refine hold hX ?_
                                refine alloc_ gok rfl H ?_; clear H; intro b803 w802 hx H
                                replace hX := hX.trans0 hx; clear hx
                                replace H : Cx w0 fp0 S0 w802 [Bx b803 [(.int .i64 0), (.slice none 0 0), (.slice none 0 0), (.slice none 0 0)], E (List (Int × Int × List Int × List Int)) y793_0_1 h796, E (List Int) y793_0_2 h798, E (List Int) y793_0_3 h800, E (List (Int × Int × List Int × List Int)) y771_1 h774, E (List Int) y771_2 h776, E (List Int) y771_3 h778, E (List (Int × Int × List Int × List Int)) y740_1 h743, E (List Int) y740_2 h745, E (List Int) y740_3 h747, E (List (Int × Int × List Int × List Int)) y516_0_1 h406, E (List Int) y516_0_2 h408, E (List Int) y516_0_3 h410, Bx b8 [(.int .i64 aA__0), (aA__1h).v, (aA__2h).v, (aA__3h).v], Es (List (Int × Int × List Int × List Int)) aA__1 aA__1h, Es (List Int) aA__2 aA__2h, Es (List Int) aA__3 aA__3h, Bx b11 [(.int .i64 aB__0), (aB__1h).v, (aB__2h).v, (aB__3h).v], Es (List (Int × Int × List Int × List Int)) aB__1 aB__1h, Es (List Int) aB__2 aB__2h, Es (List Int) aB__3 aB__3h, Bx g196_3 [(.int .i64 s195_0), (g196_0).v, (g196_1).v, (g196_2).v], Es (List (Int × Int × List Int × List Int)) s195_1 g196_0, Es (List Int) s195_2 g196_1, Es (List Int) s195_3 g196_2, Bx b413 [(.int .i64 y403_0_0), (h406).v, (h408).v, (h410).v]] := H
                                refine hold hX ?_
                                refine stA gok [(.int .i64 y793_0_0), (h796).v, (h798).v, (h800).v] rfl H rfl rfl rfl ?_; clear H; intro w805 H
                                replace H : Cx w0 fp0 S0 w805 [Bx b803 [(.int .i64 y793_0_0), (h796).v, (h798).v, (h800).v], E (List (Int × Int × List Int × List Int)) y793_0_1 h796, E (List Int) y793_0_2 h798, E (List Int) y793_0_3 h800, E (List (Int × Int × List Int × List Int)) y771_1 h774, E (List Int) y771_2 h776, E (List Int) y771_3 h778, E (List (Int × Int × List Int × List Int)) y740_1 h743, E (List Int) y740_2 h745, E (List Int) y740_3 h747, E (List (Int × Int × List Int × List Int)) y516_0_1 h406, E (List Int) y516_0_2 h408, E (List Int) y516_0_3 h410, Bx b8 [(.int .i64 aA__0), (aA__1h).v, (aA__2h).v, (aA__3h).v], Es (List (Int × Int × List Int × List Int)) aA__1 aA__1h, Es (List Int) aA__2 aA__2h, Es (List Int) aA__3 aA__3h, Bx b11 [(.int .i64 aB__0), (aB__1h).v, (aB__2h).v, (aB__3h).v], Es (List (Int × Int × List Int × List Int)) aB__1 aB__1h, Es (List Int) aB__2 aB__2h, Es (List Int) aB__3 aB__3h, Bx g196_3 [(.int .i64 s195_0), (g196_0).v, (g196_1).v, (g196_2).v], Es (List (Int × Int × List Int × List Int)) s195_1 g196_0, Es (List Int) s195_2 g196_1, Es (List Int) s195_3 g196_2, Bx b413 [(.int .i64 y403_0_0), (h406).v, (h408).v, (h410).v]] := H
                                refine hold trivial ?_
                                refine hold trivial ?_
                                exact ⟨((y793_0_0, y793_0_1, y793_0_2, y793_0_3, y793_1), (h796, h798, h800, b803)), ⟨rfl, rfl, rfl, rfl, rfl, rfl, trivial⟩, Option.some.inj hF794, H.sel [21, 22, 23, 24, 25, 10, 11, 12, 0, 1, 2, 3] rfl⟩
                              · skip
                                refine both ?_ ?_
                                · skip
                                  obtain ⟨a806, eq807, hF808⟩ := bindS hF772; clear hF772
                                  refine alloc_ gok rfl H ?_; clear H; intro b810 w809 hx H
                                  replace hX := hX.trans0 hx; clear hx
                                  replace H : Cx w0 fp0 S0 w809 [Bx b810 [(.int .i64 0), (.slice none 0 0), (.slice none 0 0), (.slice none 0 0)], E (List (Int × Int × List Int × List Int)) y771_1 h774, E (List Int) y771_2 h776, E (List Int) y771_3 h778, E (List (Int × Int × List Int × List Int)) y740_1 h743, E (List Int) y740_2 h745, E (List Int) y740_3 h747, E (List (Int × Int × List Int × List Int)) y516_0_1 h406, E (List Int) y516_0_2 h408, E (List Int) y516_0_3 h410, Bx b8 [(.int .i64 aA__0), (aA__1h).v, (aA__2h).v, (aA__3h).v], Es (List (Int × Int × List Int × List Int)) aA__1 aA__1h, Es (List Int) aA__2 aA__2h, Es (List Int) aA__3 aA__3h, Bx b11 [(.int .i64 aB__0), (aB__1h).v, (aB__2h).v, (aB__3h).v], Es (List (Int × Int × List Int × List Int)) aB__1 aB__1h, Es (List Int) aB__2 aB__2h, Es (List Int) aB__3 aB__3h, Bx g196_3 [(.int .i64 s195_0), (g196_0).v, (g196_1).v, (g196_2).v], Es (List (Int × Int × List Int × List Int)) s195_1 g196_0, Es (List Int) s195_2 g196_1, Es (List Int) s195_3 g196_2, Bx b413 [(.int .i64 y403_0_0), (h406).v, (h408).v, (h410).v]] := H
                                  refine hold hX ?_
                                  have e := eq807; clear eq807
                                  obtain ⟨⟨a806_0_0, a806_0_1, a806_0_2, a806_0_3⟩, a806_1⟩ := a806
                                  have ea806 := e; clear e
                                  refine callFx (impl_SeqGraphs_c y740_0 y740_1 h743 y740_2 h745 y740_3 h747 y771_0 y771_1 h774 y771_2 h776 y771_3 h778 a806_0_0 a806_0_1 a806_0_2 a806_0_3 a806_1 ea806) H ⟨Vw.own 4 rfl, Vw.own 5 rfl, Vw.own 6 rfl, Vw.own 1 rfl, Vw.own 2 rfl, Vw.own 3 rfl, trivial⟩ ?_; clear H ea806
                                  rintro _ _ w812 ⟨h813, h815, h817, rfl, rfl⟩ hx (H : Cx w0 fp0 S0 w812 [E (List (Int × Int × List Int × List Int)) a806_0_1 h813, E (List Int) a806_0_2 h815, E (List Int) a806_0_3 h817, Bx b810 [(.int .i64 0), (.slice none 0 0), (.slice none 0 0), (.slice none 0 0)], E (List (Int × Int × List Int × List Int)) y771_1 h774, E (List Int) y771_2 h776, E (List Int) y771_3 h778, E (List (Int × Int × List Int × List Int)) y740_1 h743, E (List Int) y740_2 h745, E (List Int) y740_3 h747, E (List (Int × Int × List Int × List Int)) y516_0_1 h406, E (List Int) y516_0_2 h408, E (List Int) y516_0_3 h410, Bx b8 [(.int .i64 aA__0), (aA__1h).v, (aA__2h).v, (aA__3h).v], Es (List (Int × Int × List Int × List Int)) aA__1 aA__1h, Es (List Int) aA__2 aA__2h, Es (List Int) aA__3 aA__3h, Bx b11 [(.int .i64 aB__0), (aB__1h).v, (aB__2h).v, (aB__3h).v], Es (List (Int × Int × List Int × List Int)) aB__1 aB__1h, Es (List Int) aB__2 aB__2h, Es (List Int) aB__3 aB__3h, Bx g196_3 [(.int .i64 s195_0), (g196_0).v, (g196_1).v, (g196_2).v], Es (List (Int × Int × List Int × List Int)) s195_1 g196_0, Es (List Int) s195_2 g196_1, Es (List Int) s195_3 g196_2, Bx b413 [(.int .i64 y403_0_0), (h406).v, (h408).v, (h410).v]])
                                  replace hX := hX.trans0 hx; clear hx
                                  refine hold hX ?_
                                  replace H := H.sel [3, 0, 1, 2, 4, 5, 6, 7, 8, 9, 10, 11, 12, 13, 14, 15, 16, 17, 18, 19, 20, 21, 22, 23, 24, 25] rfl
                                  refine stA gok [(.int .i64 a806_0_0), (h813).v, (h815).v, (h817).v] rfl H rfl rfl rfl ?_; clear H; intro w819 H
                                  replace H : Cx w0 fp0 S0 w819 [Bx b810 [(.int .i64 a806_0_0), (h813).v, (h815).v, (h817).v], E (List (Int × Int × List Int × List Int)) a806_0_1 h813, E (List Int) a806_0_2 h815, E (List Int) a806_0_3 h817, E (List (Int × Int × List Int × List Int)) y771_1 h774, E (List Int) y771_2 h776, E (List Int) y771_3 h778, E (List (Int × Int × List Int × List Int)) y740_1 h743, E (List Int) y740_2 h745, E (List Int) y740_3 h747, E (List (Int × Int × List Int × List Int)) y516_0_1 h406, E (List Int) y516_0_2 h408, E (List Int) y516_0_3 h410, Bx b8 [(.int .i64 aA__0), (aA__1h).v, (aA__2h).v, (aA__3h).v], Es (List (Int × Int × List Int × List Int)) aA__1 aA__1h, Es (List Int) aA__2 aA__2h, Es (List Int) aA__3 aA__3h, Bx b11 [(.int .i64 aB__0), (aB__1h).v, (aB__2h).v, (aB__3h).v], Es (List (Int × Int × List Int × List Int)) aB__1 aB__1h, Es (List Int) aB__2 aB__2h, Es (List Int) aB__3 aB__3h, Bx g196_3 [(.int .i64 s195_0), (g196_0).v, (g196_1).v, (g196_2).v], Es (List (Int × Int × List Int × List Int)) s195_1 g196_0, Es (List Int) s195_2 g196_1, Es (List Int) s195_3 g196_2, Bx b413 [(.int .i64 y403_0_0), (h406).v, (h408).v, (h410).v]] := H
                                  refine hold trivial ?_
                                  refine hold trivial ?_
                                  exact ⟨((a806_0_0, a806_0_1, a806_0_2, a806_0_3, a806_1), (h813, h815, h817, b810)), ⟨rfl, rfl, rfl, rfl, rfl, rfl, trivial⟩, Option.some.inj hF808, H.sel [21, 22, 23, 24, 25, 10, 11, 12, 0, 1, 2, 3] rfl⟩
                                · skip
                                  exact trivial
                            · skip
                              refine both ?_ ?_
                              · skip
                                obtain ⟨a820, eq821, hF822⟩ := bindS hF741; clear hF741
                                obtain ⟨a823, eq824, hF825⟩ := bindS hF822; clear hF822
                                refine alloc_ gok rfl H ?_; clear H; intro b827 w826 hx H
                                replace hX := hX.trans0 hx; clear hx
                                replace H : Cx w0 fp0 S0 w826 [Bx b827 [(.int .i64 0), (.slice none 0 0), (.slice none 0 0), (.slice none 0 0)], E (List (Int × Int × List Int × List Int)) y740_1 h743, E (List Int) y740_2 h745, E (List Int) y740_3 h747, E (List (Int × Int × List Int × List Int)) y516_0_1 h406, E (List Int) y516_0_2 h408, E (List Int) y516_0_3 h410, Bx b8 [(.int .i64 aA__0), (aA__1h).v, (aA__2h).v, (aA__3h).v], Es (List (Int × Int × List Int × List Int)) aA__1 aA__1h, Es (List Int) aA__2 aA__2h, Es (List Int) aA__3 aA__3h, Bx b11 [(.int .i64 aB__0), (aB__1h).v, (aB__2h).v, (aB__3h).v], Es (List (Int × Int × List Int × List Int)) aB__1 aB__1h, Es (List Int) aB__2 aB__2h, Es (List Int) aB__3 aB__3h, Bx g196_3 [(.int .i64 s195_0), (g196_0).v, (g196_1).v, (g196_2).v], Es (List (Int × Int × List Int × List Int)) s195_1 g196_0, Es (List Int) s195_2 g196_1, Es (List Int) s195_3 g196_2, Bx b413 [(.int .i64 y403_0_0), (h406).v, (h408).v, (h410).v]] := H
                                refine hold hX ?_
                                have e := eq821; clear eq821
                                obtain ⟨a820_0, a820_1, a820_2, a820_3⟩ := a820
                                have ea820 := e; clear e
                                refine callFx (laws_toGraph_c aB__0 aB__1 aB__1h aB__2 aB__2h aB__3 aB__3h a820_0 a820_1 a820_2 a820_3 ea820) H ⟨Vw.sh 12 rfl, Vw.sh 13 rfl, Vw.sh 14 rfl, trivial⟩ ?_; clear H ea820
                                rintro _ _ w829 ⟨h830, h832, h834, rfl, rfl⟩ hx (H : Cx w0 fp0 S0 w829 [E (List (Int × Int × List Int × List Int)) a820_1 h830, E (List Int) a820_2 h832, E (List Int) a820_3 h834, Bx b827 [(.int .i64 0), (.slice none 0 0), (.slice none 0 0), (.slice none 0 0)], E (List (Int × Int × List Int × List Int)) y740_1 h743, E (List Int) y740_2 h745, E (List Int) y740_3 h747, E (List (Int × Int × List Int × List Int)) y516_0_1 h406, E (List Int) y516_0_2 h408, E (List Int) y516_0_3 h410, Bx b8 [(.int .i64 aA__0), (aA__1h).v, (aA__2h).v, (aA__3h).v], Es (List (Int × Int × List Int × List Int)) aA__1 aA__1h, Es (List Int) aA__2 aA__2h, Es (List Int) aA__3 aA__3h, Bx b11 [(.int .i64 aB__0), (aB__1h).v, (aB__2h).v, (aB__3h).v], Es (List (Int × Int × List Int × List Int)) aB__1 aB__1h, Es (List Int) aB__2 aB__2h, Es (List Int) aB__3 aB__3h, Bx g196_3 [(.int .i64 s195_0), (g196_0).v, (g196_1).v, (g196_2).v], Es (List (Int × Int × List Int × List Int)) s195_1 g196_0, Es (List Int) s195_2 g196_1, Es (List Int) s195_3 g196_2, Bx b413 [(.int .i64 y403_0_0), (h406).v, (h408).v, (h410).v]])
                                replace hX := hX.trans0 hx; clear hx
                                refine hold hX ?_
                                have e := eq824; clear eq824
                                obtain ⟨⟨a823_0_0, a823_0_1, a823_0_2, a823_0_3⟩, a823_1⟩ := a823
                                have ea823 := e; clear e
                                refine callFx (impl_SeqGraphs_c y740_0 y740_1 h743 y740_2 h745 y740_3 h747 a820_0 a820_1 h830 a820_2 h832 a820_3 h834 a823_0_0 a823_0_1 a823_0_2 a823_0_3 a823_1 ea823) H ⟨Vw.own 4 rfl, Vw.own 5 rfl, Vw.own 6 rfl, Vw.own 0 rfl, Vw.own 1 rfl, Vw.own 2 rfl, trivial⟩ ?_; clear H ea823
                                rintro _ _ w836 ⟨h837, h839, h841, rfl, rfl⟩ hx (H : Cx w0 fp0 S0 w836 [E (List (Int × Int × List Int × List Int)) a823_0_1 h837, E (List Int) a823_0_2 h839, E (List Int) a823_0_3 h841, E (List (Int × Int × List Int × List Int)) a820_1 h830, E (List Int) a820_2 h832, E (List Int) a820_3 h834, Bx b827 [(.int .i64 0), (.slice none 0 0), (.slice none 0 0), (.slice none 0 0)], E (List (Int × Int × List Int × List Int)) y740_1 h743, E (List Int) y740_2 h745, E (List Int) y740_3 h747, E (List (Int × Int × List Int × List Int)) y516_0_1 h406, E (List Int) y516_0_2 h408, E (List Int) y516_0_3 h410, Bx b8 [(.int .i64 aA__0), (aA__1h).v, (aA__2h).v, (aA__3h).v], Es (List (Int × Int × List Int × List Int)) aA__1 aA__1h, Es (List Int) aA__2 aA__2h, Es (List Int) aA__3 aA__3h, Bx b11 [(.int .i64 aB__0), (aB__1h).v, (aB__2h).v, (aB__3h).v], Es (List (Int × Int × List Int × List Int)) aB__1 aB__1h, Es (List Int) aB__2 aB__2h, Es (List Int) aB__3 aB__3h, Bx g196_3 [(.int .i64 s195_0), (g196_0).v, (g196_1).v, (g196_2).v], Es (List (Int × Int × List Int × List Int)) s195_1 g196_0, Es (List Int) s195_2 g196_1, Es (List Int) s195_3 g196_2, Bx b413 [(.int .i64 y403_0_0), (h406).v, (h408).v, (h410).v]])
                                replace hX := hX.trans0 hx; clear hx
                                refine hold hX ?_
                                replace H := H.sel [6, 0, 1, 2, 3, 4, 5, 7, 8, 9, 10, 11, 12, 13, 14, 15, 16, 17, 18, 19, 20, 21, 22, 23, 24, 25] rfl
                                refine stA gok [(.int .i64 a823_0_0), (h837).v, (h839).v, (h841).v] rfl H rfl rfl rfl ?_; clear H; intro w843 H
                                replace H : Cx w0 fp0 S0 w843 [Bx b827 [(.int .i64 a823_0_0), (h837).v, (h839).v, (h841).v], E (List (Int × Int × List Int × List Int)) a823_0_1 h837, E (List Int) a823_0_2 h839, E (List Int) a823_0_3 h841, E (List (Int × Int × List Int × List Int)) a820_1 h830, E (List Int) a820_2 h832, E (List Int) a820_3 h834, E (List (Int × Int × List Int × List Int)) y740_1 h743, E (List Int) y740_2 h745, E (List Int) y740_3 h747, E (List (Int × Int × List Int × List Int)) y516_0_1 h406, E (List Int) y516_0_2 h408, E (List Int) y516_0_3 h410, Bx b8 [(.int .i64 aA__0), (aA__1h).v, (aA__2h).v, (aA__3h).v], Es (List (Int × Int × List Int × List Int)) aA__1 aA__1h, Es (List Int) aA__2 aA__2h, Es (List Int) aA__3 aA__3h, Bx b11 [(.int .i64 aB__0), (aB__1h).v, (aB__2h).v, (aB__3h).v], Es (List (Int × Int × List Int × List Int)) aB__1 aB__1h, Es (List Int) aB__2 aB__2h, Es (List Int) aB__3 aB__3h, Bx g196_3 [(.int .i64 s195_0), (g196_0).v, (g196_1).v, (g196_2).v], Es (List (Int × Int × List Int × List Int)) s195_1 g196_0, Es (List Int) s195_2 g196_1, Es (List Int) s195_3 g196_2, Bx b413 [(.int .i64 y403_0_0), (h406).v, (h408).v, (h410).v]] := H
                                refine hold trivial ?_
                                refine hold trivial ?_
                                exact ⟨((a823_0_0, a823_0_1, a823_0_2, a823_0_3, a823_1), (h837, h839, h841, b827)), ⟨rfl, rfl, rfl, rfl, rfl, rfl, trivial⟩, Option.some.inj hF825, H.sel [21, 22, 23, 24, 25, 10, 11, 12, 0, 1, 2, 3] rfl⟩
                              · skip
                                exact trivial
                          · skip
                            refine both ?_ ?_
                            · skip
                              obtain ⟨a844, eq845, hF846⟩ := bindS hF706; clear hF706
                              obtain ⟨a847, eq848, hF849⟩ := bindS hF846; clear hF846
                              obtain ⟨a850, eq851, hF852⟩ := bindS hF849; clear hF849
                              refine alloc_ gok rfl H ?_; clear H; intro b854 w853 hx H
                              replace hX := hX.trans0 hx; clear hx
                              replace H : Cx w0 fp0 S0 w853 [Bx b854 [(.int .i64 0), (.slice none 0 0), (.slice none 0 0), (.slice none 0 0)], E (List (Int × Int × List Int × List Int)) y516_0_1 h406, E (List Int) y516_0_2 h408, E (List Int) y516_0_3 h410, Bx b8 [(.int .i64 aA__0), (aA__1h).v, (aA__2h).v, (aA__3h).v], Es (List (Int × Int × List Int × List Int)) aA__1 aA__1h, Es (List Int) aA__2 aA__2h, Es (List Int) aA__3 aA__3h, Bx b11 [(.int .i64 aB__0), (aB__1h).v, (aB__2h).v, (aB__3h).v], Es (List (Int × Int × List Int × List Int)) aB__1 aB__1h, Es (List Int) aB__2 aB__2h, Es (List Int) aB__3 aB__3h, Bx g196_3 [(.int .i64 s195_0), (g196_0).v, (g196_1).v, (g196_2).v], Es (List (Int × Int × List Int × List Int)) s195_1 g196_0, Es (List Int) s195_2 g196_1, Es (List Int) s195_3 g196_2, Bx b413 [(.int .i64 y403_0_0), (h406).v, (h408).v, (h410).v]] := H
                              refine hold hX ?_
                              have e := eq845; clear eq845
                              obtain ⟨a844_0, a844_1, a844_2, a844_3⟩ := a844
                              have ea844 := e; clear e
                              refine callFx (laws_toGraph_c aA__0 aA__1 aA__1h aA__2 aA__2h aA__3 aA__3h a844_0 a844_1 a844_2 a844_3 ea844) H ⟨Vw.sh 5 rfl, Vw.sh 6 rfl, Vw.sh 7 rfl, trivial⟩ ?_; clear H ea844
                              rintro _ _ w856 ⟨h857, h859, h861, rfl, rfl⟩ hx (H : Cx w0 fp0 S0 w856 [E (List (Int × Int × List Int × List Int)) a844_1 h857, E (List Int) a844_2 h859, E (List Int) a844_3 h861, Bx b854 [(.int .i64 0), (.slice none 0 0), (.slice none 0 0), (.slice none 0 0)], E (List (Int × Int × List Int × List Int)) y516_0_1 h406, E (List Int) y516_0_2 h408, E (List Int) y516_0_3 h410, Bx b8 [(.int .i64 aA__0), (aA__1h).v, (aA__2h).v, (aA__3h).v], Es (List (Int × Int × List Int × List Int)) aA__1 aA__1h, Es (List Int) aA__2 aA__2h, Es (List Int) aA__3 aA__3h, Bx b11 [(.int .i64 aB__0), (aB__1h).v, (aB__2h).v, (aB__3h).v], Es (List (Int × Int × List Int × List Int)) aB__1 aB__1h, Es (List Int) aB__2 aB__2h, Es (List Int) aB__3 aB__3h, Bx g196_3 [(.int .i64 s195_0), (g196_0).v, (g196_1).v, (g196_2).v], Es (List (Int × Int × List Int × List Int)) s195_1 g196_0, Es (List Int) s195_2 g196_1, Es (List Int) s195_3 g196_2, Bx b413 [(.int .i64 y403_0_0), (h406).v, (h408).v, (h410).v]])
                              replace hX := hX.trans0 hx; clear hx
                              refine hold hX ?_
                              have e := eq848; clear eq848
                              obtain ⟨a847_0, a847_1, a847_2, a847_3⟩ := a847
                              have ea847 := e; clear e
                              refine callFx (laws_toGraph_c aB__0 aB__1 aB__1h aB__2 aB__2h aB__3 aB__3h a847_0 a847_1 a847_2 a847_3 ea847) H ⟨Vw.sh 12 rfl, Vw.sh 13 rfl, Vw.sh 14 rfl, trivial⟩ ?_; clear H ea847
                              rintro _ _ w863 ⟨h864, h866, h868, rfl, rfl⟩ hx (H : Cx w0 fp0 S0 w863 [E (List (Int × Int × List Int × List Int)) a847_1 h864, E (List Int) a847_2 h866, E (List Int) a847_3 h868, E (List (Int × Int × List Int × List Int)) a844_1 h857, E (List Int) a844_2 h859, E (List Int) a844_3 h861, Bx b854 [(.int .i64 0), (.slice none 0 0), (.slice none 0 0), (.slice none 0 0)], E (List (Int × Int × List Int × List Int)) y516_0_1 h406, E (List Int) y516_0_2 h408, E (List Int) y516_0_3 h410, Bx b8 [(.int .i64 aA__0), (aA__1h).v, (aA__2h).v, (aA__3h).v], Es (List (Int × Int × List Int × List Int)) aA__1 aA__1h, Es (List Int) aA__2 aA__2h, Es (List Int) aA__3 aA__3h, Bx b11 [(.int .i64 aB__0), (aB__1h).v, (aB__2h).v, (aB__3h).v], Es (List (Int × Int × List Int × List Int)) aB__1 aB__1h, Es (List Int) aB__2 aB__2h, Es (List Int) aB__3 aB__3h, Bx g196_3 [(.int .i64 s195_0), (g196_0).v, (g196_1).v, (g196_2).v], Es (List (Int × Int × List Int × List Int)) s195_1 g196_0, Es (List Int) s195_2 g196_1, Es (List Int) s195_3 g196_2, Bx b413 [(.int .i64 y403_0_0), (h406).v, (h408).v, (h410).v]])
                              replace hX := hX.trans0 hx; clear hx
                              refine hold hX ?_
                              have e := eq851; clear eq851
                              obtain ⟨⟨a850_0_0, a850_0_1, a850_0_2, a850_0_3⟩, a850_1⟩ := a850
                              have ea850 := e; clear e
                              refine callFx (impl_SeqGraphs_c a844_0 a844_1 h857 a844_2 h859 a844_3 h861 a847_0 a847_1 h864 a847_2 h866 a847_3 h868 a850_0_0 a850_0_1 a850_0_2 a850_0_3 a850_1 ea850) H ⟨Vw.own 3 rfl, Vw.own 4 rfl, Vw.own 5 rfl, Vw.own 0 rfl, Vw.own 1 rfl, Vw.own 2 rfl, trivial⟩ ?_; clear H ea850
                              rintro _ _ w870 ⟨h871, h873, h875, rfl, rfl⟩ hx (H : Cx w0 fp0 S0 w870 [E (List (Int × Int × List Int × List Int)) a850_0_1 h871, E (List Int) a850_0_2 h873, E (List Int) a850_0_3 h875, E (List (Int × Int × List Int × List Int)) a847_1 h864, E (List Int) a847_2 h866, E (List Int) a847_3 h868, E (List (Int × Int × List Int × List Int)) a844_1 h857, E (List Int) a844_2 h859, E (List Int) a844_3 h861, Bx b854 [(.int .i64 0), (.slice none 0 0), (.slice none 0 0), (.slice none 0 0)], E (List (Int × Int × List Int × List Int)) y516_0_1 h406, E (List Int) y516_0_2 h408, E (List Int) y516_0_3 h410, Bx b8 [(.int .i64 aA__0), (aA__1h).v, (aA__2h).v, (aA__3h).v], Es (List (Int × Int × List Int × List Int)) aA__1 aA__1h, Es (List Int) aA__2 aA__2h, Es (List Int) aA__3 aA__3h, Bx b11 [(.int .i64 aB__0), (aB__1h).v, (aB__2h).v, (aB__3h).v], Es (List (Int × Int × List Int × List Int)) aB__1 aB__1h, Es (List Int) aB__2 aB__2h, Es (List Int) aB__3 aB__3h, Bx g196_3 [(.int .i64 s195_0), (g196_0).v, (g196_1).v, (g196_2).v], Es (List (Int × Int × List Int × List Int)) s195_1 g196_0, Es (List Int) s195_2 g196_1, Es (List Int) s195_3 g196_2, Bx b413 [(.int .i64 y403_0_0), (h406).v, (h408).v, (h410).v]])
                              replace hX := hX.trans0 hx; clear hx
                              refine hold hX ?_
                              replace H := H.sel [9, 0, 1, 2, 3, 4, 5, 6, 7, 8, 10, 11, 12, 13, 14, 15, 16, 17, 18, 19, 20, 21, 22, 23, 24, 25] rfl
                              refine stA gok [(.int .i64 a850_0_0), (h871).v, (h873).v, (h875).v] rfl H rfl rfl rfl ?_; clear H; intro w877 H
                              replace H : Cx w0 fp0 S0 w877 [Bx b854 [(.int .i64 a850_0_0), (h871).v, (h873).v, (h875).v], E (List (Int × Int × List Int × List Int)) a850_0_1 h871, E (List Int) a850_0_2 h873, E (List Int) a850_0_3 h875, E (List (Int × Int × List Int × List Int)) a847_1 h864, E (List Int) a847_2 h866, E (List Int) a847_3 h868, E (List (Int × Int × List Int × List Int)) a844_1 h857, E (List Int) a844_2 h859, E (List Int) a844_3 h861, E (List (Int × Int × List Int × List Int)) y516_0_1 h406, E (List Int) y516_0_2 h408, E (List Int) y516_0_3 h410, Bx b8 [(.int .i64 aA__0), (aA__1h).v, (aA__2h).v, (aA__3h).v], Es (List (Int × Int × List Int × List Int)) aA__1 aA__1h, Es (List Int) aA__2 aA__2h, Es (List Int) aA__3 aA__3h, Bx b11 [(.int .i64 aB__0), (aB__1h).v, (aB__2h).v, (aB__3h).v], Es (List (Int × Int × List Int × List Int)) aB__1 aB__1h, Es (List Int) aB__2 aB__2h, Es (List Int) aB__3 aB__3h, Bx g196_3 [(.int .i64 s195_0), (g196_0).v, (g196_1).v, (g196_2).v], Es (List (Int × Int × List Int × List Int)) s195_1 g196_0, Es (List Int) s195_2 g196_1, Es (List Int) s195_3 g196_2, Bx b413 [(.int .i64 y403_0_0), (h406).v, (h408).v, (h410).v]] := H
                              refine hold trivial ?_
                              refine hold trivial ?_
                              exact ⟨((a850_0_0, a850_0_1, a850_0_2, a850_0_3, a850_1), (h871, h873, h875, b854)), ⟨rfl, rfl, rfl, rfl, rfl, rfl, trivial⟩, Option.some.inj hF852, H.sel [21, 22, 23, 24, 25, 10, 11, 12, 0, 1, 2, 3] rfl⟩
                            · skip
                              exact trivial
                        · clear hF706 H
                          rintro T879 ⟨⟨s698_0, s698_1, s698_2, s698_3, s698_4⟩, ⟨g699_0, g699_1, g699_2, g699_3⟩⟩ w878 ⟨hr, (H : Cx w0 fp0 S0 w878 [Bx g196_3 [(.int .i64 s195_0), (g196_0).v, (g196_1).v, (g196_2).v], Es (List (Int × Int × List Int × List Int)) s195_1 g196_0, Es (List Int) s195_2 g196_1, Es (List Int) s195_3 g196_2, Bx b413 [(.int .i64 y403_0_0), (h406).v, (h408).v, (h410).v], E (List (Int × Int × List Int × List Int)) y516_0_1 h406, E (List Int) y516_0_2 h408, E (List Int) y516_0_3 h410, Bx g699_3 [(.int .i64 s698_0), (g699_0).v, (g699_1).v, (g699_2).v], E (List (Int × Int × List Int × List Int)) s698_1 g699_0, E (List Int) s698_2 g699_1, E (List Int) s698_3 g699_2])⟩
                          subst hr
                          refine sq ?_
                          obtain ⟨r891, hF893, hF892⟩ := bindS hF705; clear hF705
                          refine cut (fun (q894 : Bool) => [(10, (.pointer (some ⟨b413, 0, none⟩))), (13, (.int .i64 y516_1)), (110, (.bool q894))]) (fun (q894 : Bool) w' => q894 = r891 ∧ Cx w0 fp0 S0 w' [Bx b413 [(.int .i64 y403_0_0), (h406).v, (h408).v, (h410).v], E (List (Int × Int × List Int × List Int)) y516_0_1 h406, E (List Int) y516_0_2 h408, E (List Int) y516_0_3 h410]) ?_ ?_
                          · skip
                            refine loadN [(.int .i64 s698_0), (g699_0).v, (g699_1).v, (g699_2).v] rfl (fun j u hj => H.bx 8 rfl hj) ?_
                            refine loadN [(.int .i64 s195_0), (g196_0).v, (g196_1).v, (g196_2).v] rfl (fun j u hj => H.bx 0 rfl hj) ?_
                            obtain ⟨y895, e, hF896⟩ := bindS hF893; clear hF893
                            have ey895 := e; clear e
                            refine callF (laws_eqGraph_c s698_0 s698_1 g699_0 s698_2 g699_1 s698_3 g699_2 s195_0 s195_1 g196_0 s195_2 g196_1 s195_3 g196_2 y895 ey895) (Γi := []) H ⟨Vw.own 9 rfl, Vw.own 10 rfl, Vw.own 11 rfl, Vw.sh 1 rfl, Vw.sh 2 rfl, Vw.sh 3 rfl, trivial⟩ ?_; clear H ey895
                            rintro _ _ w897 ⟨rfl, rfl⟩ (H : Cx w0 fp0 S0 w897 [Bx g196_3 [(.int .i64 s195_0), (g196_0).v, (g196_1).v, (g196_2).v], Es (List (Int × Int × List Int × List Int)) s195_1 g196_0, Es (List Int) s195_2 g196_1, Es (List Int) s195_3 g196_2, Bx b413 [(.int .i64 y403_0_0), (h406).v, (h408).v, (h410).v], E (List (Int × Int × List Int × List Int)) y516_0_1 h406, E (List Int) y516_0_2 h408, E (List Int) y516_0_3 h410, Bx g699_3 [(.int .i64 s698_0), (g699_0).v, (g699_1).v, (g699_2).v], E (List (Int × Int × List Int × List Int)) s698_1 g699_0, E (List Int) s698_2 g699_1, E (List Int) s698_3 g699_2])
                            obtain ⟨a898, e, hF899⟩ := bindS hF896; clear hF896
                            refine boolO e ?_; clear e
                            cases a898
                            · have hF900 := condF hF899; clear hF899
                              obtain ⟨a901, e, hF902⟩ := bindS hF900; clear hF900
                              refine boolO e ?_; clear e
                              exact ⟨a901, ⟨rfl, rfl, rfl, trivial⟩, Option.some.inj hF902, H.sel [4, 5, 6, 7] rfl⟩
                            · have hF903 := condT hF899; clear hF899
                              exact ⟨true, ⟨rfl, rfl, rfl, trivial⟩, Option.some.inj hF903, H.sel [4, 5, 6, 7] rfl⟩
                          · clear hF893 H
                            rintro T905 s889 w904 ⟨hr, (H : Cx w0 fp0 S0 w904 [Bx b413 [(.int .i64 y403_0_0), (h406).v, (h408).v, (h410).v], E (List (Int × Int × List Int × List Int)) y516_0_1 h406, E (List Int) y516_0_2 h408, E (List Int) y516_0_3 h410])⟩
                            subst hr
                            cases s889
                            · have hF906 := condF hF892; clear hF892
                              refine loadN [(.int .i64 y403_0_0), (h406).v, (h408).v, (h410).v] rfl (fun j u hj => H.bx 0 rfl hj) ?_
                              obtain ⟨y907, e, hF908⟩ := bindS hF906; clear hF906
                              have ey907 := e; clear e
                              refine callF (laws_heldGraph_c y403_0_0 y516_0_1 h406 y516_0_2 h408 y516_0_3 h410 1 y907 ey907) (Γi := []) H ⟨Vw.own 1 rfl, Vw.own 2 rfl, Vw.own 3 rfl, trivial⟩ ?_; clear H ey907
                              rintro _ _ w909 ⟨rfl, rfl⟩ (H : Cx w0 fp0 S0 w909 [Bx b413 [(.int .i64 y403_0_0), (h406).v, (h408).v, (h410).v], E (List (Int × Int × List Int × List Int)) y516_0_1 h406, E (List Int) y516_0_2 h408, E (List Int) y516_0_3 h410])
                              refine sq ?_
                              obtain ⟨a910, e, hF911⟩ := bindS hF908; clear hF908
                              refine boolO e ?_; clear e
                              cases a910
                              · have hF912 := condF hF911; clear hF911
                                refine sq ?_
                                obtain ⟨a913, e, hF914⟩ := bindS hF912; clear hF912
                                refine boolO e ?_; clear e
                                cases a913
                                · have hF915 := condF hF914; clear hF914
                                  cases hF915
                                  exact ⟨_, _, rfl, ⟨rfl, rfl⟩, (H.sel [] rfl).close trivial⟩
                                · have hF916 := condT hF914; clear hF914
                                  cases hF916
                                  exact ⟨_, _, rfl, ⟨rfl, rfl⟩, (H.sel [] rfl).close trivial⟩
                              · have hF917 := condT hF911; clear hF911
                                cases hF917
                                exact ⟨_, _, rfl, ⟨rfl, rfl⟩, (H.sel [] rfl).close trivial⟩
                            · have hF918 := condT hF892; clear hF892
                              cases hF918
                              exact ⟨_, _, rfl, ⟨rfl, rfl⟩, (H.sel [] rfl).close trivial⟩
                      · have hF919 := condT hF526; clear hF526
                        cases hF919
                        exact ⟨_, _, rfl, ⟨rfl, rfl⟩, (H.sel [] rfl).close trivial⟩
                    · have hF920 := condT hF523; clear hF523
                      cases hF920
                      exact ⟨_, _, rfl, ⟨rfl, rfl⟩, (H.sel [] rfl).close trivial⟩
                  · have hF921 := condT hF497; clear hF497
                    cases hF921
                    exact ⟨_, _, rfl, ⟨rfl, rfl⟩, (H.sel [] rfl).close trivial⟩
              · have hF922 := condT hF473; clear hF473
                cases hF922
                exact ⟨_, _, rfl, ⟨rfl, rfl⟩, (H.sel [] rfl).close trivial⟩
            · have hF923 := condT hF457; clear hF457
              cases hF923
              exact ⟨_, _, rfl, ⟨rfl, rfl⟩, (H.sel [] rfl).close trivial⟩
          · have hF924 := condT hF428; clear hF428
            cases hF924
            exact ⟨_, _, rfl, ⟨rfl, rfl⟩, (H.sel [] rfl).close trivial⟩
    · have hF925 := condT hF23; clear hF23
      cases hF925
      exact ⟨_, _, rfl, ⟨rfl, rfl⟩, (H.sel [] rfl).close trivial⟩
  · have hF926 := condT hF17; clear hF17
    cases hF926
    exact ⟨_, _, rfl, ⟨rfl, rfl⟩, (H.sel [] rfl).close trivial⟩
end Go.Proofs.Ytgfnophfoccamaa
