/-
  Contracts, printed by a program (wip/y/gen.py): each function of Go computes its partial function. Condition of each: its partial function yields a value.
-/
import Derived.Test.YtgfnophfoccamaaZCall
namespace Go.Proofs.Ytgfnophfoccamaa
open Go Go.Proofs.Ytgfnophfoccamaa.RW
set_option maxRecDepth 100000
set_option linter.unusedVariables false

theorem impl_Graph_beside_c (g__0 : Int) (g__1 : List (Int × Int × List Int × List Int)) (g__1h : Hd) (g__2 : List Int) (g__2h : Hd) (g__3 : List Int) (g__3h : Hd) (h__0 : Int) (h__1 : List (Int × Int × List Int × List Int)) (h__1h : Hd) (h__2 : List Int) (h__2h : Hd) (h__3 : List Int) (h__3h : Hd) (y_0 : Int) (y_1 : List (Int × Int × List Int × List Int)) (y_2 : List Int) (y_3 : List Int) (hF : F_impl_Graph_beside (g__0, g__1, g__2, g__3) (h__0, h__1, h__2, h__3) = some (y_0, y_1, y_2, y_3)) :
    ConF Try.prog 93 #[(.agg #[(.int .i64 g__0), (g__1h).v, (g__2h).v, (g__3h).v]), (.agg #[(.int .i64 h__0), (h__1h).v, (h__2h).v, (h__3h).v])] [Es (List (Int × Int × List Int × List Int)) g__1 g__1h, Es (List Int) g__2 g__2h, Es (List Int) g__3 g__3h, Es (List (Int × Int × List Int × List Int)) h__1 h__1h, Es (List Int) h__2 h__2h, Es (List Int) h__3 h__3h] [] (fun v Γ' => ∃ z0 z1 z2 : Hd, v = (.agg #[(.int .i64 y_0), (z0).v, (z1).v, (z2).v]) ∧ Γ' = [E (List (Int × Int × List Int × List Int)) y_1 z0, E (List Int) y_2 z1, E (List Int) y_3 z2]) := by
  intro w0 S0 fp0 hI hS
  have H : Cx w0 fp0 S0 w0 [Es (List (Int × Int × List Int × List Int)) g__1 g__1h, Es (List Int) g__2 g__2h, Es (List Int) g__3 g__3h, Es (List (Int × Int × List Int × List Int)) h__1 h__1h, Es (List Int) h__2 h__2h, Es (List Int) h__3 h__3h] := Cx.start hI hS
  clear hI hS
  refine enterC (args := [_, _]) gok Try.func93 rfl _ rfl rfl rfl ?_
  refine box_ H ?_; clear H; intro b8 w7 hx H
  clear hx
  replace H : Cx w0 fp0 S0 w7 [Bx b8 [(.int .i64 g__0), (g__1h).v, (g__2h).v, (g__3h).v], Es (List (Int × Int × List Int × List Int)) g__1 g__1h, Es (List Int) g__2 g__2h, Es (List Int) g__3 g__3h, Es (List (Int × Int × List Int × List Int)) h__1 h__1h, Es (List Int) h__2 h__2h, Es (List Int) h__3 h__3h] := H
  refine box_ H ?_; clear H; intro b11 w10 hx H
  clear hx
  replace H : Cx w0 fp0 S0 w10 [Bx b11 [(.int .i64 h__0), (h__1h).v, (h__2h).v, (h__3h).v], Bx b8 [(.int .i64 g__0), (g__1h).v, (g__2h).v, (g__3h).v], Es (List (Int × Int × List Int × List Int)) g__1 g__1h, Es (List Int) g__2 g__2h, Es (List Int) g__3 g__3h, Es (List (Int × Int × List Int × List Int)) h__1 h__1h, Es (List Int) h__2 h__2h, Es (List Int) h__3 h__3h] := H
  refine alloc_ gok rfl H ?_; clear H; intro b14 w13 hx H
  clear hx
  replace H : Cx w0 fp0 S0 w13 [Bx b14 [(.int .i64 0), (.slice none 0 0), (.slice none 0 0), (.slice none 0 0)], Bx b11 [(.int .i64 h__0), (h__1h).v, (h__2h).v, (h__3h).v], Bx b8 [(.int .i64 g__0), (g__1h).v, (g__2h).v, (g__3h).v], Es (List (Int × Int × List Int × List Int)) g__1 g__1h, Es (List Int) g__2 g__2h, Es (List Int) g__3 g__3h, Es (List (Int × Int × List Int × List Int)) h__1 h__1h, Es (List Int) h__2 h__2h, Es (List Int) h__3 h__3h] := H
  refine fld gok rfl rfl rfl rfl ?_
  refine load1 (H.bx 2 rfl (j := 0) rfl) ?_
  refine fld gok rfl rfl rfl rfl ?_
  refine load1 (H.bx 1 rfl (j := 0) rfl) ?_
  obtain ⟨a16, e, hF17⟩ := bindS hF; clear hF
  refine arO e ?_; clear e
  refine build_ (cs := #[(.int .i64 a16), (.slice none 0 0), (.slice none 0 0), (.slice none 0 0)]) gok rfl rfl rfl ?_
  refine alloc_ gok rfl H ?_; clear H; intro b19 w18 hx H
  clear hx
  replace H : Cx w0 fp0 S0 w18 [Bx b19 [(.int .i64 0), (.slice none 0 0), (.slice none 0 0), (.slice none 0 0)], Bx b14 [(.int .i64 0), (.slice none 0 0), (.slice none 0 0), (.slice none 0 0)], Bx b11 [(.int .i64 h__0), (h__1h).v, (h__2h).v, (h__3h).v], Bx b8 [(.int .i64 g__0), (g__1h).v, (g__2h).v, (g__3h).v], Es (List (Int × Int × List Int × List Int)) g__1 g__1h, Es (List Int) g__2 g__2h, Es (List Int) g__3 g__3h, Es (List (Int × Int × List Int × List Int)) h__1 h__1h, Es (List Int) h__2 h__2h, Es (List Int) h__3 h__3h] := H
  refine stA gok [(.int .i64 a16), (.slice none 0 0), (.slice none 0 0), (.slice none 0 0)] rfl H rfl rfl rfl ?_; clear H; intro w21 H
  replace H : Cx w0 fp0 S0 w21 [Bx b19 [(.int .i64 a16), (.slice none 0 0), (.slice none 0 0), (.slice none 0 0)], Bx b14 [(.int .i64 0), (.slice none 0 0), (.slice none 0 0), (.slice none 0 0)], Bx b11 [(.int .i64 h__0), (h__1h).v, (h__2h).v, (h__3h).v], Bx b8 [(.int .i64 g__0), (g__1h).v, (g__2h).v, (g__3h).v], Es (List (Int × Int × List Int × List Int)) g__1 g__1h, Es (List Int) g__2 g__2h, Es (List Int) g__3 g__3h, Es (List (Int × Int × List Int × List Int)) h__1 h__1h, Es (List Int) h__2 h__2h, Es (List Int) h__3 h__3h] := H
  obtain ⟨r112, hF114, hF113⟩ := bindS hF17; clear hF17
  refine heldJ H [8] (.fst 1 (.fst 3 (.fst 0 (.fst 2 (.fst 4 (.alts (.alt 5 (.alts (.alt 6 (.act 7 (.act 8 .done)) (.alt 7 (.act 6 (.act 8 .done)) .no))) (.alt 7 (.act 5 (.act 6 (.act 8 .done))) .no)))))))) mixed [] trivial (by kernel_rfl) (fun (q115 : (Int × (List (Int × Int × List Int × List Int)) × List Int × List Int) × (Hd × Hd × Hd × Nat)) => [(2, (.pointer (some ⟨b8, 0, none⟩))), (3, (.pointer (some ⟨b11, 0, none⟩))), (4, (.pointer (some ⟨b14, 0, none⟩))), (5, (.pointer (some ⟨b19, 0, none⟩))), (6, (.pointer (some ⟨q115.2.2.2.2, 0, none⟩)))]) (fun (q115 : (Int × (List (Int × Int × List Int × List Int)) × List Int × List Int) × (Hd × Hd × Hd × Nat)) w' => (q115.1.1, q115.1.2.1, q115.1.2.2.1, q115.1.2.2.2) = r112 ∧ Cx w0 fp0 S0 w' [Bx b8 [(.int .i64 g__0), (g__1h).v, (g__2h).v, (g__3h).v], Es (List (Int × Int × List Int × List Int)) g__1 g__1h, Es (List Int) g__2 g__2h, Es (List Int) g__3 g__3h, Bx b11 [(.int .i64 h__0), (h__1h).v, (h__2h).v, (h__3h).v], Es (List (Int × Int × List Int × List Int)) h__1 h__1h, Es (List Int) h__2 h__2h, Es (List Int) h__3 h__3h, Bx b14 [(.int .i64 0), (.slice none 0 0), (.slice none 0 0), (.slice none 0 0)], Bx b19 [(.int .i64 a16), (.slice none 0 0), (.slice none 0 0), (.slice none 0 0)], Bx q115.2.2.2.2 [(.int .i64 q115.1.1), (q115.2.1).v, (q115.2.2.1).v, (q115.2.2.2.1).v], E (List (Int × Int × List Int × List Int)) q115.1.2.1 q115.2.1, E (List Int) q115.1.2.2.1 q115.2.2.1, E (List Int) q115.1.2.2.2 q115.2.2.2.1]) ?_ ?_
  · skip
    clear H; intro w116 H
    have hX : Ext w116 w116 := Upd.refl _ _
    have H0 := H
    refine anyH (fun _ => fld gok rfl rfl rfl rfl ⟨rfl, rfl⟩) ?_
    refine anyH (fun _ => fld gok rfl rfl rfl rfl ⟨rfl, rfl⟩) ?_
    refine loadNX [(.int .i64 g__0), (g__1h).v, (g__2h).v, (g__3h).v] rfl (fun j u hj => H.bx 3 rfl hj) ?_
    refine load1X (H.bx 3 rfl (j := 0) rfl) ?_
    refine load1X (H.bx 3 rfl (j := 0) rfl) ?_
    refine both ?_ ?_
    · skip
      obtain ⟨y135, e, hF136⟩ := bindS hF114; clear hF114
      have ey135 := e; clear e
      refine callFx (impl_upTo_c g__0 y135 ey135) H trivial ?_; clear H ey135
      rintro _ _ w137 ⟨h138, rfl, rfl⟩ hx (H : Cx w0 fp0 S0 w137 [E (List Int) y135 h138, Bx b19 [(.int .i64 a16), (.slice none 0 0), (.slice none 0 0), (.slice none 0 0)], Bx b14 [(.int .i64 0), (.slice none 0 0), (.slice none 0 0), (.slice none 0 0)], Bx b11 [(.int .i64 h__0), (h__1h).v, (h__2h).v, (h__3h).v], Bx b8 [(.int .i64 g__0), (g__1h).v, (g__2h).v, (g__3h).v], Es (List (Int × Int × List Int × List Int)) g__1 g__1h, Es (List Int) g__2 g__2h, Es (List Int) g__3 g__3h, Es (List (Int × Int × List Int × List Int)) h__1 h__1h, Es (List Int) h__2 h__2h, Es (List Int) h__3 h__3h])
      replace hX := hX.trans0 hx; clear hx
      refine hold hX ?_
      refine both ?_ ?_
      · skip
        obtain ⟨y153, e, hF154⟩ := bindS hF136; clear hF136
        obtain ⟨y153_0, y153_1, y153_2, y153_3⟩ := y153
        have ey153 := e; clear e
        refine callFx (impl_Graph_moved_c g__0 g__1 g__1h g__2 g__2h g__3 g__3h g__0 y135 h138 y153_0 y153_1 y153_2 y153_3 ey153) H ⟨Vw.sh 5 rfl, Vw.sh 6 rfl, Vw.sh 7 rfl, Vw.own 0 rfl, trivial⟩ ?_; clear H ey153
        rintro _ _ w155 ⟨h156, h158, h160, rfl, rfl⟩ hx (H : Cx w0 fp0 S0 w155 [E (List (Int × Int × List Int × List Int)) y153_1 h156, E (List Int) y153_2 h158, E (List Int) y153_3 h160, E (List Int) y135 h138, Bx b19 [(.int .i64 a16), (.slice none 0 0), (.slice none 0 0), (.slice none 0 0)], Bx b14 [(.int .i64 0), (.slice none 0 0), (.slice none 0 0), (.slice none 0 0)], Bx b11 [(.int .i64 h__0), (h__1h).v, (h__2h).v, (h__3h).v], Bx b8 [(.int .i64 g__0), (g__1h).v, (g__2h).v, (g__3h).v], Es (List (Int × Int × List Int × List Int)) g__1 g__1h, Es (List Int) g__2 g__2h, Es (List Int) g__3 g__3h, Es (List (Int × Int × List Int × List Int)) h__1 h__1h, Es (List Int) h__2 h__2h, Es (List Int) h__3 h__3h])
        replace hX := hX.trans0 hx; clear hx
        refine hold hX ?_
        refine alloc_ gok rfl H ?_; clear H; intro b163 w162 hx H
        replace hX := hX.trans0 hx; clear hx
        replace H : Cx w0 fp0 S0 w162 [Bx b163 [(.int .i64 0), (.slice none 0 0), (.slice none 0 0), (.slice none 0 0)], E (List (Int × Int × List Int × List Int)) y153_1 h156, E (List Int) y153_2 h158, E (List Int) y153_3 h160, E (List Int) y135 h138, Bx b19 [(.int .i64 a16), (.slice none 0 0), (.slice none 0 0), (.slice none 0 0)], Bx b14 [(.int .i64 0), (.slice none 0 0), (.slice none 0 0), (.slice none 0 0)], Bx b11 [(.int .i64 h__0), (h__1h).v, (h__2h).v, (h__3h).v], Bx b8 [(.int .i64 g__0), (g__1h).v, (g__2h).v, (g__3h).v], Es (List (Int × Int × List Int × List Int)) g__1 g__1h, Es (List Int) g__2 g__2h, Es (List Int) g__3 g__3h, Es (List (Int × Int × List Int × List Int)) h__1 h__1h, Es (List Int) h__2 h__2h, Es (List Int) h__3 h__3h] := H
        refine hold hX ?_
        refine stA gok [(.int .i64 y153_0), (h156).v, (h158).v, (h160).v] rfl H rfl rfl rfl ?_; clear H; intro w165 H
        replace H : Cx w0 fp0 S0 w165 [Bx b163 [(.int .i64 y153_0), (h156).v, (h158).v, (h160).v], E (List (Int × Int × List Int × List Int)) y153_1 h156, E (List Int) y153_2 h158, E (List Int) y153_3 h160, E (List Int) y135 h138, Bx b19 [(.int .i64 a16), (.slice none 0 0), (.slice none 0 0), (.slice none 0 0)], Bx b14 [(.int .i64 0), (.slice none 0 0), (.slice none 0 0), (.slice none 0 0)], Bx b11 [(.int .i64 h__0), (h__1h).v, (h__2h).v, (h__3h).v], Bx b8 [(.int .i64 g__0), (g__1h).v, (g__2h).v, (g__3h).v], Es (List (Int × Int × List Int × List Int)) g__1 g__1h, Es (List Int) g__2 g__2h, Es (List Int) g__3 g__3h, Es (List (Int × Int × List Int × List Int)) h__1 h__1h, Es (List Int) h__2 h__2h, Es (List Int) h__3 h__3h] := H
        refine hold trivial ?_
        exact ⟨((y153_0, y153_1, y153_2, y153_3), (h156, h158, h160, b163)), ⟨rfl, rfl, rfl, rfl, rfl, trivial⟩, Option.some.inj hF154, H.sel [8, 9, 10, 11, 7, 12, 13, 14, 6, 5, 0, 1, 2, 3] rfl⟩
      · skip
        refine both ?_ ?_
        · skip
          obtain ⟨a166, eq167, hF168⟩ := bindS hF136; clear hF136
          refine alloc_ gok rfl H ?_; clear H; intro b170 w169 hx H
          replace hX := hX.trans0 hx; clear hx
          replace H : Cx w0 fp0 S0 w169 [Bx b170 [(.int .i64 0), (.slice none 0 0), (.slice none 0 0), (.slice none 0 0)], E (List Int) y135 h138, Bx b19 [(.int .i64 a16), (.slice none 0 0), (.slice none 0 0), (.slice none 0 0)], Bx b14 [(.int .i64 0), (.slice none 0 0), (.slice none 0 0), (.slice none 0 0)], Bx b11 [(.int .i64 h__0), (h__1h).v, (h__2h).v, (h__3h).v], Bx b8 [(.int .i64 g__0), (g__1h).v, (g__2h).v, (g__3h).v], Es (List (Int × Int × List Int × List Int)) g__1 g__1h, Es (List Int) g__2 g__2h, Es (List Int) g__3 g__3h, Es (List (Int × Int × List Int × List Int)) h__1 h__1h, Es (List Int) h__2 h__2h, Es (List Int) h__3 h__3h] := H
          refine hold hX ?_
          have e := eq167; clear eq167
          obtain ⟨a166_0, a166_1, a166_2, a166_3⟩ := a166
          have ea166 := e; clear e
          refine callFx (impl_Graph_moved_c g__0 g__1 g__1h g__2 g__2h g__3 g__3h g__0 y135 h138 a166_0 a166_1 a166_2 a166_3 ea166) H ⟨Vw.sh 6 rfl, Vw.sh 7 rfl, Vw.sh 8 rfl, Vw.own 1 rfl, trivial⟩ ?_; clear H ea166
          rintro _ _ w172 ⟨h173, h175, h177, rfl, rfl⟩ hx (H : Cx w0 fp0 S0 w172 [E (List (Int × Int × List Int × List Int)) a166_1 h173, E (List Int) a166_2 h175, E (List Int) a166_3 h177, Bx b170 [(.int .i64 0), (.slice none 0 0), (.slice none 0 0), (.slice none 0 0)], E (List Int) y135 h138, Bx b19 [(.int .i64 a16), (.slice none 0 0), (.slice none 0 0), (.slice none 0 0)], Bx b14 [(.int .i64 0), (.slice none 0 0), (.slice none 0 0), (.slice none 0 0)], Bx b11 [(.int .i64 h__0), (h__1h).v, (h__2h).v, (h__3h).v], Bx b8 [(.int .i64 g__0), (g__1h).v, (g__2h).v, (g__3h).v], Es (List (Int × Int × List Int × List Int)) g__1 g__1h, Es (List Int) g__2 g__2h, Es (List Int) g__3 g__3h, Es (List (Int × Int × List Int × List Int)) h__1 h__1h, Es (List Int) h__2 h__2h, Es (List Int) h__3 h__3h])
          replace hX := hX.trans0 hx; clear hx
          refine hold hX ?_
          replace H := H.sel [3, 0, 1, 2, 4, 5, 6, 7, 8, 9, 10, 11, 12, 13, 14] rfl
          refine stA gok [(.int .i64 a166_0), (h173).v, (h175).v, (h177).v] rfl H rfl rfl rfl ?_; clear H; intro w179 H
          replace H : Cx w0 fp0 S0 w179 [Bx b170 [(.int .i64 a166_0), (h173).v, (h175).v, (h177).v], E (List (Int × Int × List Int × List Int)) a166_1 h173, E (List Int) a166_2 h175, E (List Int) a166_3 h177, E (List Int) y135 h138, Bx b19 [(.int .i64 a16), (.slice none 0 0), (.slice none 0 0), (.slice none 0 0)], Bx b14 [(.int .i64 0), (.slice none 0 0), (.slice none 0 0), (.slice none 0 0)], Bx b11 [(.int .i64 h__0), (h__1h).v, (h__2h).v, (h__3h).v], Bx b8 [(.int .i64 g__0), (g__1h).v, (g__2h).v, (g__3h).v], Es (List (Int × Int × List Int × List Int)) g__1 g__1h, Es (List Int) g__2 g__2h, Es (List Int) g__3 g__3h, Es (List (Int × Int × List Int × List Int)) h__1 h__1h, Es (List Int) h__2 h__2h, Es (List Int) h__3 h__3h] := H
          refine hold trivial ?_
          exact ⟨((a166_0, a166_1, a166_2, a166_3), (h173, h175, h177, b170)), ⟨rfl, rfl, rfl, rfl, rfl, trivial⟩, Option.some.inj hF168, H.sel [8, 9, 10, 11, 7, 12, 13, 14, 6, 5, 0, 1, 2, 3] rfl⟩
        · skip
          exact trivial
    · skip
      refine both ?_ ?_
      · skip
        obtain ⟨a180, eq181, hF182⟩ := bindS hF114; clear hF114
        obtain ⟨a183, eq184, hF185⟩ := bindS hF182; clear hF182
        refine alloc_ gok rfl H ?_; clear H; intro b187 w186 hx H
        replace hX := hX.trans0 hx; clear hx
        replace H : Cx w0 fp0 S0 w186 [Bx b187 [(.int .i64 0), (.slice none 0 0), (.slice none 0 0), (.slice none 0 0)], Bx b19 [(.int .i64 a16), (.slice none 0 0), (.slice none 0 0), (.slice none 0 0)], Bx b14 [(.int .i64 0), (.slice none 0 0), (.slice none 0 0), (.slice none 0 0)], Bx b11 [(.int .i64 h__0), (h__1h).v, (h__2h).v, (h__3h).v], Bx b8 [(.int .i64 g__0), (g__1h).v, (g__2h).v, (g__3h).v], Es (List (Int × Int × List Int × List Int)) g__1 g__1h, Es (List Int) g__2 g__2h, Es (List Int) g__3 g__3h, Es (List (Int × Int × List Int × List Int)) h__1 h__1h, Es (List Int) h__2 h__2h, Es (List Int) h__3 h__3h] := H
        refine hold hX ?_
        have e := eq181; clear eq181
        have ea180 := e; clear e
        refine callFx (impl_upTo_c g__0 a180 ea180) H trivial ?_; clear H ea180
        rintro _ _ w189 ⟨h190, rfl, rfl⟩ hx (H : Cx w0 fp0 S0 w189 [E (List Int) a180 h190, Bx b187 [(.int .i64 0), (.slice none 0 0), (.slice none 0 0), (.slice none 0 0)], Bx b19 [(.int .i64 a16), (.slice none 0 0), (.slice none 0 0), (.slice none 0 0)], Bx b14 [(.int .i64 0), (.slice none 0 0), (.slice none 0 0), (.slice none 0 0)], Bx b11 [(.int .i64 h__0), (h__1h).v, (h__2h).v, (h__3h).v], Bx b8 [(.int .i64 g__0), (g__1h).v, (g__2h).v, (g__3h).v], Es (List (Int × Int × List Int × List Int)) g__1 g__1h, Es (List Int) g__2 g__2h, Es (List Int) g__3 g__3h, Es (List (Int × Int × List Int × List Int)) h__1 h__1h, Es (List Int) h__2 h__2h, Es (List Int) h__3 h__3h])
        replace hX := hX.trans0 hx; clear hx
        refine hold hX ?_
        have e := eq184; clear eq184
        obtain ⟨a183_0, a183_1, a183_2, a183_3⟩ := a183
        have ea183 := e; clear e
        refine callFx (impl_Graph_moved_c g__0 g__1 g__1h g__2 g__2h g__3 g__3h g__0 a180 h190 a183_0 a183_1 a183_2 a183_3 ea183) H ⟨Vw.sh 6 rfl, Vw.sh 7 rfl, Vw.sh 8 rfl, Vw.own 0 rfl, trivial⟩ ?_; clear H ea183
        rintro _ _ w192 ⟨h193, h195, h197, rfl, rfl⟩ hx (H : Cx w0 fp0 S0 w192 [E (List (Int × Int × List Int × List Int)) a183_1 h193, E (List Int) a183_2 h195, E (List Int) a183_3 h197, E (List Int) a180 h190, Bx b187 [(.int .i64 0), (.slice none 0 0), (.slice none 0 0), (.slice none 0 0)], Bx b19 [(.int .i64 a16), (.slice none 0 0), (.slice none 0 0), (.slice none 0 0)], Bx b14 [(.int .i64 0), (.slice none 0 0), (.slice none 0 0), (.slice none 0 0)], Bx b11 [(.int .i64 h__0), (h__1h).v, (h__2h).v, (h__3h).v], Bx b8 [(.int .i64 g__0), (g__1h).v, (g__2h).v, (g__3h).v], Es (List (Int × Int × List Int × List Int)) g__1 g__1h, Es (List Int) g__2 g__2h, Es (List Int) g__3 g__3h, Es (List (Int × Int × List Int × List Int)) h__1 h__1h, Es (List Int) h__2 h__2h, Es (List Int) h__3 h__3h])
        replace hX := hX.trans0 hx; clear hx
        refine hold hX ?_
        replace H := H.sel [4, 0, 1, 2, 3, 5, 6, 7, 8, 9, 10, 11, 12, 13, 14] rfl
        refine stA gok [(.int .i64 a183_0), (h193).v, (h195).v, (h197).v] rfl H rfl rfl rfl ?_; clear H; intro w199 H
        replace H : Cx w0 fp0 S0 w199 [Bx b187 [(.int .i64 a183_0), (h193).v, (h195).v, (h197).v], E (List (Int × Int × List Int × List Int)) a183_1 h193, E (List Int) a183_2 h195, E (List Int) a183_3 h197, E (List Int) a180 h190, Bx b19 [(.int .i64 a16), (.slice none 0 0), (.slice none 0 0), (.slice none 0 0)], Bx b14 [(.int .i64 0), (.slice none 0 0), (.slice none 0 0), (.slice none 0 0)], Bx b11 [(.int .i64 h__0), (h__1h).v, (h__2h).v, (h__3h).v], Bx b8 [(.int .i64 g__0), (g__1h).v, (g__2h).v, (g__3h).v], Es (List (Int × Int × List Int × List Int)) g__1 g__1h, Es (List Int) g__2 g__2h, Es (List Int) g__3 g__3h, Es (List (Int × Int × List Int × List Int)) h__1 h__1h, Es (List Int) h__2 h__2h, Es (List Int) h__3 h__3h] := H
        refine hold trivial ?_
        exact ⟨((a183_0, a183_1, a183_2, a183_3), (h193, h195, h197, b187)), ⟨rfl, rfl, rfl, rfl, rfl, trivial⟩, Option.some.inj hF185, H.sel [8, 9, 10, 11, 7, 12, 13, 14, 6, 5, 0, 1, 2, 3] rfl⟩
      · skip
        exact trivial
  · clear hF114 H
    rintro T201 ⟨⟨s106_0, s106_1, s106_2, s106_3⟩, ⟨g107_0, g107_1, g107_2, g107_3⟩⟩ w200 ⟨hr, (H : Cx w0 fp0 S0 w200 [Bx b8 [(.int .i64 g__0), (g__1h).v, (g__2h).v, (g__3h).v], Es (List (Int × Int × List Int × List Int)) g__1 g__1h, Es (List Int) g__2 g__2h, Es (List Int) g__3 g__3h, Bx b11 [(.int .i64 h__0), (h__1h).v, (h__2h).v, (h__3h).v], Es (List (Int × Int × List Int × List Int)) h__1 h__1h, Es (List Int) h__2 h__2h, Es (List Int) h__3 h__3h, Bx b14 [(.int .i64 0), (.slice none 0 0), (.slice none 0 0), (.slice none 0 0)], Bx b19 [(.int .i64 a16), (.slice none 0 0), (.slice none 0 0), (.slice none 0 0)], Bx g107_3 [(.int .i64 s106_0), (g107_0).v, (g107_1).v, (g107_2).v], E (List (Int × Int × List Int × List Int)) s106_1 g107_0, E (List Int) s106_2 g107_1, E (List Int) s106_3 g107_2])⟩
    subst hr
    obtain ⟨r292, hF294, hF293⟩ := bindS hF113; clear hF113
    refine heldJ H [10] (.fst 1 (.fst 3 (.fst 5 (.fst 0 (.fst 2 (.fst 4 (.fst 6 (.alts (.alt 7 (.alts (.alt 8 (.act 9 (.act 10 .done)) (.alt 9 (.act 8 (.act 10 .done)) .no))) (.alt 9 (.act 7 (.act 8 (.act 10 .done))) .no)))))))))) mixed [] trivial (by kernel_rfl) (fun (q295 : (Int × (List (Int × Int × List Int × List Int)) × List Int × List Int) × (Hd × Hd × Hd × Nat)) => [(4, (.pointer (some ⟨b14, 0, none⟩))), (5, (.pointer (some ⟨b19, 0, none⟩))), (6, (.pointer (some ⟨g107_3, 0, none⟩))), (7, (.pointer (some ⟨q295.2.2.2.2, 0, none⟩)))]) (fun (q295 : (Int × (List (Int × Int × List Int × List Int)) × List Int × List Int) × (Hd × Hd × Hd × Nat)) w' => (q295.1.1, q295.1.2.1, q295.1.2.2.1, q295.1.2.2.2) = r292 ∧ Cx w0 fp0 S0 w' [Bx b14 [(.int .i64 0), (.slice none 0 0), (.slice none 0 0), (.slice none 0 0)], Bx b19 [(.int .i64 a16), (.slice none 0 0), (.slice none 0 0), (.slice none 0 0)], Bx g107_3 [(.int .i64 s106_0), (g107_0).v, (g107_1).v, (g107_2).v], E (List (Int × Int × List Int × List Int)) s106_1 g107_0, E (List Int) s106_2 g107_1, E (List Int) s106_3 g107_2, Bx q295.2.2.2.2 [(.int .i64 q295.1.1), (q295.2.1).v, (q295.2.2.1).v, (q295.2.2.2.1).v], E (List (Int × Int × List Int × List Int)) q295.1.2.1 q295.2.1, E (List Int) q295.1.2.2.1 q295.2.2.1, E (List Int) q295.1.2.2.2 q295.2.2.2.1]) ?_ ?_
    · skip
      clear H; intro w296 H
      have hX : Ext w296 w296 := Upd.refl _ _
      have H0 := H
      refine anyH (fun _ => fld gok rfl rfl rfl rfl ⟨rfl, rfl⟩) ?_
      refine anyH (fun _ => fld gok rfl rfl rfl rfl ⟨rfl, rfl⟩) ?_
      refine anyH (fun _ => fld gok rfl rfl rfl rfl ⟨rfl, rfl⟩) ?_
      refine loadNX [(.int .i64 h__0), (h__1h).v, (h__2h).v, (h__3h).v] rfl (fun j u hj => H.bx 4 rfl hj) ?_
      refine load1X (H.bx 4 rfl (j := 0) rfl) ?_
      refine load1X (H.bx 0 rfl (j := 0) rfl) ?_
      refine load1X (H.bx 4 rfl (j := 0) rfl) ?_
      refine both ?_ ?_
      · skip
        obtain ⟨y315, e, hF316⟩ := bindS hF294; clear hF294
        have ey315 := e; clear e
        refine callFx (impl_from_c g__0 h__0 y315 ey315) H trivial ?_; clear H ey315
        rintro _ _ w317 ⟨h318, rfl, rfl⟩ hx (H : Cx w0 fp0 S0 w317 [E (List Int) y315 h318, Bx b8 [(.int .i64 g__0), (g__1h).v, (g__2h).v, (g__3h).v], Es (List (Int × Int × List Int × List Int)) g__1 g__1h, Es (List Int) g__2 g__2h, Es (List Int) g__3 g__3h, Bx b11 [(.int .i64 h__0), (h__1h).v, (h__2h).v, (h__3h).v], Es (List (Int × Int × List Int × List Int)) h__1 h__1h, Es (List Int) h__2 h__2h, Es (List Int) h__3 h__3h, Bx b14 [(.int .i64 0), (.slice none 0 0), (.slice none 0 0), (.slice none 0 0)], Bx b19 [(.int .i64 a16), (.slice none 0 0), (.slice none 0 0), (.slice none 0 0)], Bx g107_3 [(.int .i64 s106_0), (g107_0).v, (g107_1).v, (g107_2).v], E (List (Int × Int × List Int × List Int)) s106_1 g107_0, E (List Int) s106_2 g107_1, E (List Int) s106_3 g107_2])
        replace hX := hX.trans0 hx; clear hx
        refine hold hX ?_
        refine both ?_ ?_
        · skip
          obtain ⟨y333, e, hF334⟩ := bindS hF316; clear hF316
          obtain ⟨y333_0, y333_1, y333_2, y333_3⟩ := y333
          have ey333 := e; clear e
          refine callFx (impl_Graph_moved_c h__0 h__1 h__1h h__2 h__2h h__3 h__3h h__0 y315 h318 y333_0 y333_1 y333_2 y333_3 ey333) H ⟨Vw.sh 6 rfl, Vw.sh 7 rfl, Vw.sh 8 rfl, Vw.own 0 rfl, trivial⟩ ?_; clear H ey333
          rintro _ _ w335 ⟨h336, h338, h340, rfl, rfl⟩ hx (H : Cx w0 fp0 S0 w335 [E (List (Int × Int × List Int × List Int)) y333_1 h336, E (List Int) y333_2 h338, E (List Int) y333_3 h340, E (List Int) y315 h318, Bx b8 [(.int .i64 g__0), (g__1h).v, (g__2h).v, (g__3h).v], Es (List (Int × Int × List Int × List Int)) g__1 g__1h, Es (List Int) g__2 g__2h, Es (List Int) g__3 g__3h, Bx b11 [(.int .i64 h__0), (h__1h).v, (h__2h).v, (h__3h).v], Es (List (Int × Int × List Int × List Int)) h__1 h__1h, Es (List Int) h__2 h__2h, Es (List Int) h__3 h__3h, Bx b14 [(.int .i64 0), (.slice none 0 0), (.slice none 0 0), (.slice none 0 0)], Bx b19 [(.int .i64 a16), (.slice none 0 0), (.slice none 0 0), (.slice none 0 0)], Bx g107_3 [(.int .i64 s106_0), (g107_0).v, (g107_1).v, (g107_2).v], E (List (Int × Int × List Int × List Int)) s106_1 g107_0, E (List Int) s106_2 g107_1, E (List Int) s106_3 g107_2])
          replace hX := hX.trans0 hx; clear hx
          refine hold hX ?_
          refine alloc_ gok rfl H ?_; clear H; intro b343 w342 hx H
          replace hX := hX.trans0 hx; clear hx
          replace H : Cx w0 fp0 S0 w342 [Bx b343 [(.int .i64 0), (.slice none 0 0), (.slice none 0 0), (.slice none 0 0)], E (List (Int × Int × List Int × List Int)) y333_1 h336, E (List Int) y333_2 h338, E (List Int) y333_3 h340, E (List Int) y315 h318, Bx b8 [(.int .i64 g__0), (g__1h).v, (g__2h).v, (g__3h).v], Es (List (Int × Int × List Int × List Int)) g__1 g__1h, Es (List Int) g__2 g__2h, Es (List Int) g__3 g__3h, Bx b11 [(.int .i64 h__0), (h__1h).v, (h__2h).v, (h__3h).v], Es (List (Int × Int × List Int × List Int)) h__1 h__1h, Es (List Int) h__2 h__2h, Es (List Int) h__3 h__3h, Bx b14 [(.int .i64 0), (.slice none 0 0), (.slice none 0 0), (.slice none 0 0)], Bx b19 [(.int .i64 a16), (.slice none 0 0), (.slice none 0 0), (.slice none 0 0)], Bx g107_3 [(.int .i64 s106_0), (g107_0).v, (g107_1).v, (g107_2).v], E (List (Int × Int × List Int × List Int)) s106_1 g107_0, E (List Int) s106_2 g107_1, E (List Int) s106_3 g107_2] := H
          refine hold hX ?_
          refine stA gok [(.int .i64 y333_0), (h336).v, (h338).v, (h340).v] rfl H rfl rfl rfl ?_; clear H; intro w345 H
          replace H : Cx w0 fp0 S0 w345 [Bx b343 [(.int .i64 y333_0), (h336).v, (h338).v, (h340).v], E (List (Int × Int × List Int × List Int)) y333_1 h336, E (List Int) y333_2 h338, E (List Int) y333_3 h340, E (List Int) y315 h318, Bx b8 [(.int .i64 g__0), (g__1h).v, (g__2h).v, (g__3h).v], Es (List (Int × Int × List Int × List Int)) g__1 g__1h, Es (List Int) g__2 g__2h, Es (List Int) g__3 g__3h, Bx b11 [(.int .i64 h__0), (h__1h).v, (h__2h).v, (h__3h).v], Es (List (Int × Int × List Int × List Int)) h__1 h__1h, Es (List Int) h__2 h__2h, Es (List Int) h__3 h__3h, Bx b14 [(.int .i64 0), (.slice none 0 0), (.slice none 0 0), (.slice none 0 0)], Bx b19 [(.int .i64 a16), (.slice none 0 0), (.slice none 0 0), (.slice none 0 0)], Bx g107_3 [(.int .i64 s106_0), (g107_0).v, (g107_1).v, (g107_2).v], E (List (Int × Int × List Int × List Int)) s106_1 g107_0, E (List Int) s106_2 g107_1, E (List Int) s106_3 g107_2] := H
          refine hold trivial ?_
          exact ⟨((y333_0, y333_1, y333_2, y333_3), (h336, h338, h340, b343)), ⟨rfl, rfl, rfl, rfl, trivial⟩, Option.some.inj hF334, H.sel [13, 14, 15, 16, 17, 18, 0, 1, 2, 3] rfl⟩
        · skip
          refine both ?_ ?_
          · skip
            obtain ⟨a346, eq347, hF348⟩ := bindS hF316; clear hF316
            refine alloc_ gok rfl H ?_; clear H; intro b350 w349 hx H
            replace hX := hX.trans0 hx; clear hx
            replace H : Cx w0 fp0 S0 w349 [Bx b350 [(.int .i64 0), (.slice none 0 0), (.slice none 0 0), (.slice none 0 0)], E (List Int) y315 h318, Bx b8 [(.int .i64 g__0), (g__1h).v, (g__2h).v, (g__3h).v], Es (List (Int × Int × List Int × List Int)) g__1 g__1h, Es (List Int) g__2 g__2h, Es (List Int) g__3 g__3h, Bx b11 [(.int .i64 h__0), (h__1h).v, (h__2h).v, (h__3h).v], Es (List (Int × Int × List Int × List Int)) h__1 h__1h, Es (List Int) h__2 h__2h, Es (List Int) h__3 h__3h, Bx b14 [(.int .i64 0), (.slice none 0 0), (.slice none 0 0), (.slice none 0 0)], Bx b19 [(.int .i64 a16), (.slice none 0 0), (.slice none 0 0), (.slice none 0 0)], Bx g107_3 [(.int .i64 s106_0), (g107_0).v, (g107_1).v, (g107_2).v], E (List (Int × Int × List Int × List Int)) s106_1 g107_0, E (List Int) s106_2 g107_1, E (List Int) s106_3 g107_2] := H
            refine hold hX ?_
            have e := eq347; clear eq347
            obtain ⟨a346_0, a346_1, a346_2, a346_3⟩ := a346
            have ea346 := e; clear e
            refine callFx (impl_Graph_moved_c h__0 h__1 h__1h h__2 h__2h h__3 h__3h h__0 y315 h318 a346_0 a346_1 a346_2 a346_3 ea346) H ⟨Vw.sh 7 rfl, Vw.sh 8 rfl, Vw.sh 9 rfl, Vw.own 1 rfl, trivial⟩ ?_; clear H ea346
            rintro _ _ w352 ⟨h353, h355, h357, rfl, rfl⟩ hx (H : Cx w0 fp0 S0 w352 [E (List (Int × Int × List Int × List Int)) a346_1 h353, E (List Int) a346_2 h355, E (List Int) a346_3 h357, Bx b350 [(.int .i64 0), (.slice none 0 0), (.slice none 0 0), (.slice none 0 0)], E (List Int) y315 h318, Bx b8 [(.int .i64 g__0), (g__1h).v, (g__2h).v, (g__3h).v], Es (List (Int × Int × List Int × List Int)) g__1 g__1h, Es (List Int) g__2 g__2h, Es (List Int) g__3 g__3h, Bx b11 [(.int .i64 h__0), (h__1h).v, (h__2h).v, (h__3h).v], Es (List (Int × Int × List Int × List Int)) h__1 h__1h, Es (List Int) h__2 h__2h, Es (List Int) h__3 h__3h, Bx b14 [(.int .i64 0), (.slice none 0 0), (.slice none 0 0), (.slice none 0 0)], Bx b19 [(.int .i64 a16), (.slice none 0 0), (.slice none 0 0), (.slice none 0 0)], Bx g107_3 [(.int .i64 s106_0), (g107_0).v, (g107_1).v, (g107_2).v], E (List (Int × Int × List Int × List Int)) s106_1 g107_0, E (List Int) s106_2 g107_1, E (List Int) s106_3 g107_2])
            replace hX := hX.trans0 hx; clear hx
            refine hold hX ?_
            replace H := H.sel [3, 0, 1, 2, 4, 5, 6, 7, 8, 9, 10, 11, 12, 13, 14, 15, 16, 17, 18] rfl
            refine stA gok [(.int .i64 a346_0), (h353).v, (h355).v, (h357).v] rfl H rfl rfl rfl ?_; clear H; intro w359 H
            replace H : Cx w0 fp0 S0 w359 [Bx b350 [(.int .i64 a346_0), (h353).v, (h355).v, (h357).v], E (List (Int × Int × List Int × List Int)) a346_1 h353, E (List Int) a346_2 h355, E (List Int) a346_3 h357, E (List Int) y315 h318, Bx b8 [(.int .i64 g__0), (g__1h).v, (g__2h).v, (g__3h).v], Es (List (Int × Int × List Int × List Int)) g__1 g__1h, Es (List Int) g__2 g__2h, Es (List Int) g__3 g__3h, Bx b11 [(.int .i64 h__0), (h__1h).v, (h__2h).v, (h__3h).v], Es (List (Int × Int × List Int × List Int)) h__1 h__1h, Es (List Int) h__2 h__2h, Es (List Int) h__3 h__3h, Bx b14 [(.int .i64 0), (.slice none 0 0), (.slice none 0 0), (.slice none 0 0)], Bx b19 [(.int .i64 a16), (.slice none 0 0), (.slice none 0 0), (.slice none 0 0)], Bx g107_3 [(.int .i64 s106_0), (g107_0).v, (g107_1).v, (g107_2).v], E (List (Int × Int × List Int × List Int)) s106_1 g107_0, E (List Int) s106_2 g107_1, E (List Int) s106_3 g107_2] := H
            refine hold trivial ?_
            exact ⟨((a346_0, a346_1, a346_2, a346_3), (h353, h355, h357, b350)), ⟨rfl, rfl, rfl, rfl, trivial⟩, Option.some.inj hF348, H.sel [13, 14, 15, 16, 17, 18, 0, 1, 2, 3] rfl⟩
          · skip
            exact trivial
      · skip
        refine both ?_ ?_
        · skip
          obtain ⟨a360, eq361, hF362⟩ := bindS hF294; clear hF294
          obtain ⟨a363, eq364, hF365⟩ := bindS hF362; clear hF362
          refine alloc_ gok rfl H ?_; clear H; intro b367 w366 hx H
          replace hX := hX.trans0 hx; clear hx
          replace H : Cx w0 fp0 S0 w366 [Bx b367 [(.int .i64 0), (.slice none 0 0), (.slice none 0 0), (.slice none 0 0)], Bx b8 [(.int .i64 g__0), (g__1h).v, (g__2h).v, (g__3h).v], Es (List (Int × Int × List Int × List Int)) g__1 g__1h, Es (List Int) g__2 g__2h, Es (List Int) g__3 g__3h, Bx b11 [(.int .i64 h__0), (h__1h).v, (h__2h).v, (h__3h).v], Es (List (Int × Int × List Int × List Int)) h__1 h__1h, Es (List Int) h__2 h__2h, Es (List Int) h__3 h__3h, Bx b14 [(.int .i64 0), (.slice none 0 0), (.slice none 0 0), (.slice none 0 0)], Bx b19 [(.int .i64 a16), (.slice none 0 0), (.slice none 0 0), (.slice none 0 0)], Bx g107_3 [(.int .i64 s106_0), (g107_0).v, (g107_1).v, (g107_2).v], E (List (Int × Int × List Int × List Int)) s106_1 g107_0, E (List Int) s106_2 g107_1, E (List Int) s106_3 g107_2] := H
          refine hold hX ?_
          have e := eq361; clear eq361
          have ea360 := e; clear e
          refine callFx (impl_from_c g__0 h__0 a360 ea360) H trivial ?_; clear H ea360
          rintro _ _ w369 ⟨h370, rfl, rfl⟩ hx (H : Cx w0 fp0 S0 w369 [E (List Int) a360 h370, Bx b367 [(.int .i64 0), (.slice none 0 0), (.slice none 0 0), (.slice none 0 0)], Bx b8 [(.int .i64 g__0), (g__1h).v, (g__2h).v, (g__3h).v], Es (List (Int × Int × List Int × List Int)) g__1 g__1h, Es (List Int) g__2 g__2h, Es (List Int) g__3 g__3h, Bx b11 [(.int .i64 h__0), (h__1h).v, (h__2h).v, (h__3h).v], Es (List (Int × Int × List Int × List Int)) h__1 h__1h, Es (List Int) h__2 h__2h, Es (List Int) h__3 h__3h, Bx b14 [(.int .i64 0), (.slice none 0 0), (.slice none 0 0), (.slice none 0 0)], Bx b19 [(.int .i64 a16), (.slice none 0 0), (.slice none 0 0), (.slice none 0 0)], Bx g107_3 [(.int .i64 s106_0), (g107_0).v, (g107_1).v, (g107_2).v], E (List (Int × Int × List Int × List Int)) s106_1 g107_0, E (List Int) s106_2 g107_1, E (List Int) s106_3 g107_2])
          replace hX := hX.trans0 hx; clear hx
          refine hold hX ?_
          have e := eq364; clear eq364
          obtain ⟨a363_0, a363_1, a363_2, a363_3⟩ := a363
          have ea363 := e; clear e
          refine callFx (impl_Graph_moved_c h__0 h__1 h__1h h__2 h__2h h__3 h__3h h__0 a360 h370 a363_0 a363_1 a363_2 a363_3 ea363) H ⟨Vw.sh 7 rfl, Vw.sh 8 rfl, Vw.sh 9 rfl, Vw.own 0 rfl, trivial⟩ ?_; clear H ea363
          rintro _ _ w372 ⟨h373, h375, h377, rfl, rfl⟩ hx (H : Cx w0 fp0 S0 w372 [E (List (Int × Int × List Int × List Int)) a363_1 h373, E (List Int) a363_2 h375, E (List Int) a363_3 h377, E (List Int) a360 h370, Bx b367 [(.int .i64 0), (.slice none 0 0), (.slice none 0 0), (.slice none 0 0)], Bx b8 [(.int .i64 g__0), (g__1h).v, (g__2h).v, (g__3h).v], Es (List (Int × Int × List Int × List Int)) g__1 g__1h, Es (List Int) g__2 g__2h, Es (List Int) g__3 g__3h, Bx b11 [(.int .i64 h__0), (h__1h).v, (h__2h).v, (h__3h).v], Es (List (Int × Int × List Int × List Int)) h__1 h__1h, Es (List Int) h__2 h__2h, Es (List Int) h__3 h__3h, Bx b14 [(.int .i64 0), (.slice none 0 0), (.slice none 0 0), (.slice none 0 0)], Bx b19 [(.int .i64 a16), (.slice none 0 0), (.slice none 0 0), (.slice none 0 0)], Bx g107_3 [(.int .i64 s106_0), (g107_0).v, (g107_1).v, (g107_2).v], E (List (Int × Int × List Int × List Int)) s106_1 g107_0, E (List Int) s106_2 g107_1, E (List Int) s106_3 g107_2])
          replace hX := hX.trans0 hx; clear hx
          refine hold hX ?_
          replace H := H.sel [4, 0, 1, 2, 3, 5, 6, 7, 8, 9, 10, 11, 12, 13, 14, 15, 16, 17, 18] rfl
          refine stA gok [(.int .i64 a363_0), (h373).v, (h375).v, (h377).v] rfl H rfl rfl rfl ?_; clear H; intro w379 H
          replace H : Cx w0 fp0 S0 w379 [Bx b367 [(.int .i64 a363_0), (h373).v, (h375).v, (h377).v], E (List (Int × Int × List Int × List Int)) a363_1 h373, E (List Int) a363_2 h375, E (List Int) a363_3 h377, E (List Int) a360 h370, Bx b8 [(.int .i64 g__0), (g__1h).v, (g__2h).v, (g__3h).v], Es (List (Int × Int × List Int × List Int)) g__1 g__1h, Es (List Int) g__2 g__2h, Es (List Int) g__3 g__3h, Bx b11 [(.int .i64 h__0), (h__1h).v, (h__2h).v, (h__3h).v], Es (List (Int × Int × List Int × List Int)) h__1 h__1h, Es (List Int) h__2 h__2h, Es (List Int) h__3 h__3h, Bx b14 [(.int .i64 0), (.slice none 0 0), (.slice none 0 0), (.slice none 0 0)], Bx b19 [(.int .i64 a16), (.slice none 0 0), (.slice none 0 0), (.slice none 0 0)], Bx g107_3 [(.int .i64 s106_0), (g107_0).v, (g107_1).v, (g107_2).v], E (List (Int × Int × List Int × List Int)) s106_1 g107_0, E (List Int) s106_2 g107_1, E (List Int) s106_3 g107_2] := H
          refine hold trivial ?_
          exact ⟨((a363_0, a363_1, a363_2, a363_3), (h373, h375, h377, b367)), ⟨rfl, rfl, rfl, rfl, trivial⟩, Option.some.inj hF365, H.sel [13, 14, 15, 16, 17, 18, 0, 1, 2, 3] rfl⟩
        · skip
          exact trivial
    · clear hF294 H
      rintro T381 ⟨⟨s286_0, s286_1, s286_2, s286_3⟩, ⟨g287_0, g287_1, g287_2, g287_3⟩⟩ w380 ⟨hr, (H : Cx w0 fp0 S0 w380 [Bx b14 [(.int .i64 0), (.slice none 0 0), (.slice none 0 0), (.slice none 0 0)], Bx b19 [(.int .i64 a16), (.slice none 0 0), (.slice none 0 0), (.slice none 0 0)], Bx g107_3 [(.int .i64 s106_0), (g107_0).v, (g107_1).v, (g107_2).v], E (List (Int × Int × List Int × List Int)) s106_1 g107_0, E (List Int) s106_2 g107_1, E (List Int) s106_3 g107_2, Bx g287_3 [(.int .i64 s286_0), (g287_0).v, (g287_1).v, (g287_2).v], E (List (Int × Int × List Int × List Int)) s286_1 g287_0, E (List Int) s286_2 g287_1, E (List Int) s286_3 g287_2])⟩
      subst hr
      refine fld gok rfl rfl rfl rfl ?_
      refine load1 (H.bx 2 rfl (j := 1) rfl) ?_
      refine fld gok rfl rfl rfl rfl ?_
      refine load1 (H.bx 6 rfl (j := 1) rfl) ?_
      obtain ⟨a382, e, hF383⟩ := bindS hF293; clear hF293
      replace H := H.sel [3, 7, 0, 1, 2, 4, 5, 6, 8, 9] rfl
      refine append_ (α := Int × Int × List Int × List Int) gok rfl rfl rfl rfl H e ?_; clear e H; intro h385 w384 H
      refine fld gok rfl rfl rfl rfl ?_
      replace H := H.sel [2, 0, 1, 3, 4, 5, 6, 7, 8] rfl
      refine stB (j := 1) H rfl rfl ?_; clear H; intro w387 H
      replace H : Cx w0 fp0 S0 w387 [Bx b19 [(.int .i64 a16), (h385).v, (.slice none 0 0), (.slice none 0 0)], E (List (Int × Int × List Int × List Int)) a382 h385, Bx b14 [(.int .i64 0), (.slice none 0 0), (.slice none 0 0), (.slice none 0 0)], Bx g107_3 [(.int .i64 s106_0), (g107_0).v, (g107_1).v, (g107_2).v], E (List Int) s106_2 g107_1, E (List Int) s106_3 g107_2, Bx g287_3 [(.int .i64 s286_0), (g287_0).v, (g287_1).v, (g287_2).v], E (List Int) s286_2 g287_1, E (List Int) s286_3 g287_2] := H
      refine loadN [(.int .i64 a16), (h385).v, (.slice none 0 0), (.slice none 0 0)] rfl (fun j u hj => H.bx 0 rfl hj) ?_
      replace H := H.sel [2, 0, 1, 3, 4, 5, 6, 7, 8] rfl
      refine stA gok [(.int .i64 a16), (h385).v, (.slice none 0 0), (.slice none 0 0)] rfl H rfl rfl rfl ?_; clear H; intro w388 H
      replace H : Cx w0 fp0 S0 w388 [Bx b14 [(.int .i64 a16), (h385).v, (.slice none 0 0), (.slice none 0 0)], Bx b19 [(.int .i64 a16), (h385).v, (.slice none 0 0), (.slice none 0 0)], E (List (Int × Int × List Int × List Int)) a382 h385, Bx g107_3 [(.int .i64 s106_0), (g107_0).v, (g107_1).v, (g107_2).v], E (List Int) s106_2 g107_1, E (List Int) s106_3 g107_2, Bx g287_3 [(.int .i64 s286_0), (g287_0).v, (g287_1).v, (g287_2).v], E (List Int) s286_2 g287_1, E (List Int) s286_3 g287_2] := H
      refine loadN [(.int .i64 a16), (h385).v, (.slice none 0 0), (.slice none 0 0)] rfl (fun j u hj => H.bx 0 rfl hj) ?_
      replace H := H.nil (α := Int)
      replace H := H.nil (α := Int)
      cases hF383
      exact ⟨_, _, rfl, ⟨h385, nilH, nilH, rfl, rfl⟩, (H.sel [4, 1, 0] rfl).close ⟨cloE, cloE, cloE, trivial⟩⟩

theorem impl_joined_c (lists_ : List (List Int)) (lists_h : Hd) (y : List Int) (hF : F_impl_joined lists_ = some y) :
    ConF Try.prog 95 #[(lists_h).v] [Es (List (List Int)) lists_ lists_h] [] (fun v Γ' => ∃ z0 : Hd, v = (z0).v ∧ Γ' = [E (List Int) y z0]) := by
  intro w0 S0 fp0 hI hS
  have H : Cx w0 fp0 S0 w0 [Es (List (List Int)) lists_ lists_h] := Cx.start hI hS
  clear hI hS
  refine enterC (args := [_]) gok Try.func95 rfl _ rfl rfl rfl ?_
  refine lit0 (α := Int) gok rfl rfl H ?_; clear H; intro h3 w2 hx H
  clear hx
  refine sq ?_
  refine lenE (H.rs (α := List (List Int)) 1 rfl).len ?_
  have hmx44 := (H.rs (α := List (List Int)) 1 rfl).max
  obtain ⟨r45, e, hF46⟩ := bindS hF; clear hF
  refine loopS _ lists_.length (fun (k5 : Nat) (s41 : List Int) (g42 : Hd) => [(3, (g42).v), (7, (lists_h).v), (8, (.int .i64 ((lists_.length : Nat) : Int))), (9, (.int .i64 ((k5 : Nat) : Int)))]) (fun _ (s41 : List Int) (g42 : Hd) w' => Cx w0 fp0 S0 w' [E (List Int) s41 g42, Es (List (List Int)) lists_ lists_h]) ([] : List Int) h3 e ⟨rfl, rfl, rfl, rfl, trivial⟩ (H.sel [0, 1] rfl) ?_ ?_
  · clear H e
    rintro T48 k5 s41 g42 w47 o49 hk (H : Cx w0 fp0 S0 w47 [E (List Int) s41 g42, Es (List (List Int)) lists_ lists_h]) hF50
    refine boolE (z := true) (ltLen hk) ?_
    refine sq ?_
    refine sq ?_
    obtain ⟨a57, e, hF58⟩ := bindS hF50; clear hF50
    have HH := H; clear H; obtain ⟨p55, m56, h59, c51, c52, c53, c54, H⟩ := HH.elL 1 rfl e; clear HH
    clear e
    refine idxE c51 c52 c53 ?_; clear c51 c52 c53
    refine load1 c54 ?_; clear c54
    obtain ⟨a61, e, hF62⟩ := bindS hF58; clear hF58
    replace H := H.sel [1, 0, 2] rfl
    refine appendS (α := Int) gok rfl rfl rfl rfl H (Vw.sh 0 rfl) e ?_; clear e H; intro h64 w63 H
    refine arK hk hmx44 ?_
    have hs := Option.some.inj hF62; subst hs; clear hF62
    exact ⟨h64, ⟨rfl, rfl, rfl, rfl, trivial⟩, H.sel [0, 2] rfl⟩
  · clear H e
    rintro T67 g69 w66 (H : Cx w0 fp0 S0 w66 [E (List Int) r45 g69, Es (List (List Int)) lists_ lists_h])
    refine boolE (z := false) geLen ?_
    refine sq ?_
    cases hF46
    exact ⟨_, _, rfl, ⟨g69, rfl, rfl⟩, (H.sel [0] rfl).close ⟨cloE, trivial⟩⟩

theorem impl_parGraphs_c (a__0 : Int) (a__1 : List (Int × Int × List Int × List Int)) (a__1h : Hd) (a__2 : List Int) (a__2h : Hd) (a__3 : List Int) (a__3h : Hd) (b__0 : Int) (b__1 : List (Int × Int × List Int × List Int)) (b__1h : Hd) (b__2 : List Int) (b__2h : Hd) (b__3 : List Int) (b__3h : Hd) (y_0 : Int) (y_1 : List (Int × Int × List Int × List Int)) (y_2 : List Int) (y_3 : List Int) (hF : F_impl_parGraphs (a__0, a__1, a__2, a__3) (b__0, b__1, b__2, b__3) = some (y_0, y_1, y_2, y_3)) :
    ConF Try.prog 58 #[(.agg #[(.int .i64 a__0), (a__1h).v, (a__2h).v, (a__3h).v]), (.agg #[(.int .i64 b__0), (b__1h).v, (b__2h).v, (b__3h).v])] [Es (List (Int × Int × List Int × List Int)) a__1 a__1h, Es (List Int) a__2 a__2h, Es (List Int) a__3 a__3h, Es (List (Int × Int × List Int × List Int)) b__1 b__1h, Es (List Int) b__2 b__2h, Es (List Int) b__3 b__3h] [] (fun v Γ' => ∃ z0 z1 z2 : Hd, v = (.agg #[(.int .i64 y_0), (z0).v, (z1).v, (z2).v]) ∧ Γ' = [E (List (Int × Int × List Int × List Int)) y_1 z0, E (List Int) y_2 z1, E (List Int) y_3 z2]) := by
  intro w0 S0 fp0 hI hS
  have H : Cx w0 fp0 S0 w0 [Es (List (Int × Int × List Int × List Int)) a__1 a__1h, Es (List Int) a__2 a__2h, Es (List Int) a__3 a__3h, Es (List (Int × Int × List Int × List Int)) b__1 b__1h, Es (List Int) b__2 b__2h, Es (List Int) b__3 b__3h] := Cx.start hI hS
  clear hI hS
  refine enterC (args := [_, _]) gok Try.func58 rfl _ rfl rfl rfl ?_
  refine box_ H ?_; clear H; intro b8 w7 hx H
  clear hx
  replace H : Cx w0 fp0 S0 w7 [Bx b8 [(.int .i64 a__0), (a__1h).v, (a__2h).v, (a__3h).v], Es (List (Int × Int × List Int × List Int)) a__1 a__1h, Es (List Int) a__2 a__2h, Es (List Int) a__3 a__3h, Es (List (Int × Int × List Int × List Int)) b__1 b__1h, Es (List Int) b__2 b__2h, Es (List Int) b__3 b__3h] := H
  refine box_ H ?_; clear H; intro b11 w10 hx H
  clear hx
  replace H : Cx w0 fp0 S0 w10 [Bx b11 [(.int .i64 b__0), (b__1h).v, (b__2h).v, (b__3h).v], Bx b8 [(.int .i64 a__0), (a__1h).v, (a__2h).v, (a__3h).v], Es (List (Int × Int × List Int × List Int)) a__1 a__1h, Es (List Int) a__2 a__2h, Es (List Int) a__3 a__3h, Es (List (Int × Int × List Int × List Int)) b__1 b__1h, Es (List Int) b__2 b__2h, Es (List Int) b__3 b__3h] := H
  refine alloc_ gok rfl H ?_; clear H; intro b14 w13 hx H
  clear hx
  replace H : Cx w0 fp0 S0 w13 [Bx b14 [(.int .i64 0), (.slice none 0 0), (.slice none 0 0), (.slice none 0 0)], Bx b11 [(.int .i64 b__0), (b__1h).v, (b__2h).v, (b__3h).v], Bx b8 [(.int .i64 a__0), (a__1h).v, (a__2h).v, (a__3h).v], Es (List (Int × Int × List Int × List Int)) a__1 a__1h, Es (List Int) a__2 a__2h, Es (List Int) a__3 a__3h, Es (List (Int × Int × List Int × List Int)) b__1 b__1h, Es (List Int) b__2 b__2h, Es (List Int) b__3 b__3h] := H
  refine loadN [(.int .i64 a__0), (a__1h).v, (a__2h).v, (a__3h).v] rfl (fun j u hj => H.bx 2 rfl hj) ?_
  refine loadN [(.int .i64 b__0), (b__1h).v, (b__2h).v, (b__3h).v] rfl (fun j u hj => H.bx 1 rfl hj) ?_
  obtain ⟨y16, e, hF17⟩ := bindS hF; clear hF
  obtain ⟨y16_0, y16_1, y16_2, y16_3⟩ := y16
  have ey16 := e; clear e
  refine callF (impl_Graph_beside_c a__0 a__1 a__1h a__2 a__2h a__3 a__3h b__0 b__1 b__1h b__2 b__2h b__3 b__3h y16_0 y16_1 y16_2 y16_3 ey16) (Γi := []) H ⟨Vw.sh 3 rfl, Vw.sh 4 rfl, Vw.sh 5 rfl, Vw.sh 6 rfl, Vw.sh 7 rfl, Vw.sh 8 rfl, trivial⟩ ?_; clear H ey16
  rintro _ _ w18 ⟨h19, h21, h23, rfl, rfl⟩ (H : Cx w0 fp0 S0 w18 [E (List (Int × Int × List Int × List Int)) y16_1 h19, E (List Int) y16_2 h21, E (List Int) y16_3 h23, Bx b14 [(.int .i64 0), (.slice none 0 0), (.slice none 0 0), (.slice none 0 0)], Bx b11 [(.int .i64 b__0), (b__1h).v, (b__2h).v, (b__3h).v], Bx b8 [(.int .i64 a__0), (a__1h).v, (a__2h).v, (a__3h).v], Es (List (Int × Int × List Int × List Int)) a__1 a__1h, Es (List Int) a__2 a__2h, Es (List Int) a__3 a__3h, Es (List (Int × Int × List Int × List Int)) b__1 b__1h, Es (List Int) b__2 b__2h, Es (List Int) b__3 b__3h])
  refine alloc_ gok rfl H ?_; clear H; intro b26 w25 hx H
  clear hx
  replace H : Cx w0 fp0 S0 w25 [Bx b26 [(.int .i64 0), (.slice none 0 0), (.slice none 0 0), (.slice none 0 0)], E (List (Int × Int × List Int × List Int)) y16_1 h19, E (List Int) y16_2 h21, E (List Int) y16_3 h23, Bx b14 [(.int .i64 0), (.slice none 0 0), (.slice none 0 0), (.slice none 0 0)], Bx b11 [(.int .i64 b__0), (b__1h).v, (b__2h).v, (b__3h).v], Bx b8 [(.int .i64 a__0), (a__1h).v, (a__2h).v, (a__3h).v], Es (List (Int × Int × List Int × List Int)) a__1 a__1h, Es (List Int) a__2 a__2h, Es (List Int) a__3 a__3h, Es (List (Int × Int × List Int × List Int)) b__1 b__1h, Es (List Int) b__2 b__2h, Es (List Int) b__3 b__3h] := H
  refine stA gok [(.int .i64 y16_0), (h19).v, (h21).v, (h23).v] rfl H rfl rfl rfl ?_; clear H; intro w28 H
  replace H : Cx w0 fp0 S0 w28 [Bx b26 [(.int .i64 y16_0), (h19).v, (h21).v, (h23).v], E (List (Int × Int × List Int × List Int)) y16_1 h19, E (List Int) y16_2 h21, E (List Int) y16_3 h23, Bx b14 [(.int .i64 0), (.slice none 0 0), (.slice none 0 0), (.slice none 0 0)], Bx b11 [(.int .i64 b__0), (b__1h).v, (b__2h).v, (b__3h).v], Bx b8 [(.int .i64 a__0), (a__1h).v, (a__2h).v, (a__3h).v], Es (List (Int × Int × List Int × List Int)) a__1 a__1h, Es (List Int) a__2 a__2h, Es (List Int) a__3 a__3h, Es (List (Int × Int × List Int × List Int)) b__1 b__1h, Es (List Int) b__2 b__2h, Es (List Int) b__3 b__3h] := H
  refine fld gok rfl rfl rfl rfl ?_
  refine load1 (H.bx 6 rfl (j := 0) rfl) ?_
  refine fld gok rfl rfl rfl rfl ?_
  refine load1 (H.bx 5 rfl (j := 0) rfl) ?_
  obtain ⟨y29, e, hF30⟩ := bindS hF17; clear hF17
  have ey29 := e; clear e
  refine callF (impl_from_c a__0 b__0 y29 ey29) (Γi := []) H trivial ?_; clear H ey29
  rintro _ _ w31 ⟨h32, rfl, rfl⟩ (H : Cx w0 fp0 S0 w31 [E (List Int) y29 h32, Bx b26 [(.int .i64 y16_0), (h19).v, (h21).v, (h23).v], E (List (Int × Int × List Int × List Int)) y16_1 h19, E (List Int) y16_2 h21, E (List Int) y16_3 h23, Bx b14 [(.int .i64 0), (.slice none 0 0), (.slice none 0 0), (.slice none 0 0)], Bx b11 [(.int .i64 b__0), (b__1h).v, (b__2h).v, (b__3h).v], Bx b8 [(.int .i64 a__0), (a__1h).v, (a__2h).v, (a__3h).v], Es (List (Int × Int × List Int × List Int)) a__1 a__1h, Es (List Int) a__2 a__2h, Es (List Int) a__3 a__3h, Es (List (Int × Int × List Int × List Int)) b__1 b__1h, Es (List Int) b__2 b__2h, Es (List Int) b__3 b__3h])
  refine heldX H [17, 19, 18] (.fst 0 (.fst 2 (.fst 4 (.fst 8 (.fst 10 (.fst 12 (.fst 1 (.fst 3 (.fst 9 (.fst 11 (.act 5 (.act 6 (.act 7 (.fst 16 (.act 13 (.act 14 (.act 15 (.act 17 (.act 18 (.act 19 .done)))))))))))))))))))) mixed [] trivial (by kernel_rfl) ?_
  clear H; intro w34 H
  have hX : Ext w34 w34 := Upd.refl _ _
  have H0 := H
  refine anyH (fun _ => fld gok rfl rfl rfl rfl ⟨rfl, rfl⟩) ?_
  refine anyH (fun _ => fld gok rfl rfl rfl rfl ⟨rfl, rfl⟩) ?_
  refine anyH (fun _ => fld gok rfl rfl rfl rfl ⟨rfl, rfl⟩) ?_
  refine anyH (fun _ => fld gok rfl rfl rfl rfl ⟨rfl, rfl⟩) ?_
  refine load1X (H.bx 7 rfl (j := 2) rfl) ?_
  refine load1X (H.bx 6 rfl (j := 2) rfl) ?_
  refine load1X (H.bx 7 rfl (j := 3) rfl) ?_
  refine load1X (H.bx 6 rfl (j := 3) rfl) ?_
  obtain ⟨y35, e, hF36⟩ := bindS hF30; clear hF30
  have ey35 := e; clear e
  refine callFx (impl_mapped_c b__2 b__2h y29 h32 y35 ey35) H ⟨Vw.sh 12 rfl, Vw.own 0 rfl, trivial⟩ ?_; clear H ey35
  rintro _ _ w37 ⟨h38, rfl, rfl⟩ hx (H : Cx w0 fp0 S0 w37 [E (List Int) y35 h38, E (List Int) y29 h32, Bx b26 [(.int .i64 y16_0), (h19).v, (h21).v, (h23).v], E (List (Int × Int × List Int × List Int)) y16_1 h19, E (List Int) y16_2 h21, E (List Int) y16_3 h23, Bx b14 [(.int .i64 0), (.slice none 0 0), (.slice none 0 0), (.slice none 0 0)], Bx b11 [(.int .i64 b__0), (b__1h).v, (b__2h).v, (b__3h).v], Bx b8 [(.int .i64 a__0), (a__1h).v, (a__2h).v, (a__3h).v], Es (List (Int × Int × List Int × List Int)) a__1 a__1h, Es (List Int) a__2 a__2h, Es (List Int) a__3 a__3h, Es (List (Int × Int × List Int × List Int)) b__1 b__1h, Es (List Int) b__2 b__2h, Es (List Int) b__3 b__3h])
  replace hX := hX.trans0 hx; clear hx
  refine hold hX ?_
  replace H := H.frz
  replace H := H.dup 0 rfl persS
  replace H := H.dup 11 rfl persS
  refine litN (α := Sh (List Int)) (us := [(a__2h).v, (h38).v]) (xs := [a__2, y35]) (gs := [a__2h, h38]) gok rfl rfl rfl ⟨rfl, rfl, trivial⟩ rfl rfl H ?_; clear H; intro h41 w40 hx H
  replace hX := hX.trans0 hx; clear hx
  refine hold hX ?_
  obtain ⟨y45, e, hF46⟩ := bindS hF36; clear hF36
  have ey45 := e; clear e
  refine callFx (impl_joined_c [a__2, y35] h41 y45 ey45) H ⟨Vw.part (β := List (List Int)) (Vw.own (α := List (Sh (List Int))) 0 rfl) [a__2, y35] h41 (fun S h => h), trivial⟩ ?_; clear H ey45
  rintro _ _ w47 ⟨h48, rfl, rfl⟩ hx (H : Cx w0 fp0 S0 w47 [E (List Int) y45 h48, E (List (Sh (List Int))) [a__2, y35] h41, Es (List Int) y35 h38, E (List Int) y29 h32, Bx b26 [(.int .i64 y16_0), (h19).v, (h21).v, (h23).v], E (List (Int × Int × List Int × List Int)) y16_1 h19, E (List Int) y16_2 h21, E (List Int) y16_3 h23, Bx b14 [(.int .i64 0), (.slice none 0 0), (.slice none 0 0), (.slice none 0 0)], Bx b11 [(.int .i64 b__0), (b__1h).v, (b__2h).v, (b__3h).v], Bx b8 [(.int .i64 a__0), (a__1h).v, (a__2h).v, (a__3h).v], Es (List (Int × Int × List Int × List Int)) a__1 a__1h, Es (List Int) a__2 a__2h, Es (List Int) a__3 a__3h, Es (List (Int × Int × List Int × List Int)) b__1 b__1h, Es (List Int) b__2 b__2h, Es (List Int) b__3 b__3h])
  replace hX := hX.trans0 hx; clear hx
  refine hold hX ?_
  refine anyH (fun _ => fld gok rfl rfl rfl rfl ⟨rfl, rfl⟩) ?_
  obtain ⟨y50, e, hF51⟩ := bindS hF46; clear hF46
  have ey50 := e; clear e
  refine callFx (impl_mapped_c b__3 b__3h y29 h32 y50 ey50) H ⟨Vw.sh 16 rfl, Vw.own 3 rfl, trivial⟩ ?_; clear H ey50
  rintro _ _ w52 ⟨h53, rfl, rfl⟩ hx (H : Cx w0 fp0 S0 w52 [E (List Int) y50 h53, E (List Int) y45 h48, E (List (Sh (List Int))) [a__2, y35] h41, Es (List Int) y35 h38, E (List Int) y29 h32, Bx b26 [(.int .i64 y16_0), (h19).v, (h21).v, (h23).v], E (List (Int × Int × List Int × List Int)) y16_1 h19, E (List Int) y16_2 h21, E (List Int) y16_3 h23, Bx b14 [(.int .i64 0), (.slice none 0 0), (.slice none 0 0), (.slice none 0 0)], Bx b11 [(.int .i64 b__0), (b__1h).v, (b__2h).v, (b__3h).v], Bx b8 [(.int .i64 a__0), (a__1h).v, (a__2h).v, (a__3h).v], Es (List (Int × Int × List Int × List Int)) a__1 a__1h, Es (List Int) a__2 a__2h, Es (List Int) a__3 a__3h, Es (List (Int × Int × List Int × List Int)) b__1 b__1h, Es (List Int) b__2 b__2h, Es (List Int) b__3 b__3h])
  replace hX := hX.trans0 hx; clear hx
  refine hold hX ?_
  replace H := H.frz
  replace H := H.dup 0 rfl persS
  replace H := H.dup 15 rfl persS
  refine litN (α := Sh (List Int)) (us := [(a__3h).v, (h53).v]) (xs := [a__3, y50]) (gs := [a__3h, h53]) gok rfl rfl rfl ⟨rfl, rfl, trivial⟩ rfl rfl H ?_; clear H; intro h56 w55 hx H
  replace hX := hX.trans0 hx; clear hx
  refine hold hX ?_
  obtain ⟨y60, e, hF61⟩ := bindS hF51; clear hF51
  have ey60 := e; clear e
  refine callFx (impl_joined_c [a__3, y50] h56 y60 ey60) H ⟨Vw.part (β := List (List Int)) (Vw.own (α := List (Sh (List Int))) 0 rfl) [a__3, y50] h56 (fun S h => h), trivial⟩ ?_; clear H ey60
  rintro _ _ w62 ⟨h63, rfl, rfl⟩ hx (H : Cx w0 fp0 S0 w62 [E (List Int) y60 h63, E (List (Sh (List Int))) [a__3, y50] h56, Es (List Int) y50 h53, E (List Int) y45 h48, E (List (Sh (List Int))) [a__2, y35] h41, Es (List Int) y35 h38, E (List Int) y29 h32, Bx b26 [(.int .i64 y16_0), (h19).v, (h21).v, (h23).v], E (List (Int × Int × List Int × List Int)) y16_1 h19, E (List Int) y16_2 h21, E (List Int) y16_3 h23, Bx b14 [(.int .i64 0), (.slice none 0 0), (.slice none 0 0), (.slice none 0 0)], Bx b11 [(.int .i64 b__0), (b__1h).v, (b__2h).v, (b__3h).v], Bx b8 [(.int .i64 a__0), (a__1h).v, (a__2h).v, (a__3h).v], Es (List (Int × Int × List Int × List Int)) a__1 a__1h, Es (List Int) a__2 a__2h, Es (List Int) a__3 a__3h, Es (List (Int × Int × List Int × List Int)) b__1 b__1h, Es (List Int) b__2 b__2h, Es (List Int) b__3 b__3h])
  replace hX := hX.trans0 hx; clear hx
  refine hold hX ?_
  replace H := H.sel [7, 0, 1, 2, 3, 4, 5, 6, 8, 9, 10, 11, 12, 13, 14, 15, 16, 17, 18, 19] rfl
  refine stB (j := 2) H rfl rfl ?_; clear H; intro w65 H
  replace H : Cx w0 fp0 S0 w65 [Bx b26 [(.int .i64 y16_0), (h19).v, (h48).v, (h23).v], E (List Int) y60 h63, E (List (Sh (List Int))) [a__3, y50] h56, Es (List Int) y50 h53, E (List Int) y45 h48, E (List (Sh (List Int))) [a__2, y35] h41, Es (List Int) y35 h38, E (List Int) y29 h32, E (List (Int × Int × List Int × List Int)) y16_1 h19, E (List Int) y16_2 h21, E (List Int) y16_3 h23, Bx b14 [(.int .i64 0), (.slice none 0 0), (.slice none 0 0), (.slice none 0 0)], Bx b11 [(.int .i64 b__0), (b__1h).v, (b__2h).v, (b__3h).v], Bx b8 [(.int .i64 a__0), (a__1h).v, (a__2h).v, (a__3h).v], Es (List (Int × Int × List Int × List Int)) a__1 a__1h, Es (List Int) a__2 a__2h, Es (List Int) a__3 a__3h, Es (List (Int × Int × List Int × List Int)) b__1 b__1h, Es (List Int) b__2 b__2h, Es (List Int) b__3 b__3h] := H
  refine hold trivial ?_
  refine fld gok rfl rfl rfl rfl ?_
  refine hold trivial ?_
  refine stB (j := 3) H rfl rfl ?_; clear H; intro w66 H
  replace H : Cx w0 fp0 S0 w66 [Bx b26 [(.int .i64 y16_0), (h19).v, (h48).v, (h63).v], E (List Int) y60 h63, E (List (Sh (List Int))) [a__3, y50] h56, Es (List Int) y50 h53, E (List Int) y45 h48, E (List (Sh (List Int))) [a__2, y35] h41, Es (List Int) y35 h38, E (List Int) y29 h32, E (List (Int × Int × List Int × List Int)) y16_1 h19, E (List Int) y16_2 h21, E (List Int) y16_3 h23, Bx b14 [(.int .i64 0), (.slice none 0 0), (.slice none 0 0), (.slice none 0 0)], Bx b11 [(.int .i64 b__0), (b__1h).v, (b__2h).v, (b__3h).v], Bx b8 [(.int .i64 a__0), (a__1h).v, (a__2h).v, (a__3h).v], Es (List (Int × Int × List Int × List Int)) a__1 a__1h, Es (List Int) a__2 a__2h, Es (List Int) a__3 a__3h, Es (List (Int × Int × List Int × List Int)) b__1 b__1h, Es (List Int) b__2 b__2h, Es (List Int) b__3 b__3h] := H
  refine hold trivial ?_
  refine loadN [(.int .i64 y16_0), (h19).v, (h48).v, (h63).v] rfl (fun j u hj => H.bx 0 rfl hj) ?_
  replace H := H.sel [11, 0, 1, 2, 3, 4, 5, 6, 7, 8, 9, 10, 12, 13, 14, 15, 16, 17, 18, 19] rfl
  refine stA gok [(.int .i64 y16_0), (h19).v, (h48).v, (h63).v] rfl H rfl rfl rfl ?_; clear H; intro w67 H
  replace H : Cx w0 fp0 S0 w67 [Bx b14 [(.int .i64 y16_0), (h19).v, (h48).v, (h63).v], Bx b26 [(.int .i64 y16_0), (h19).v, (h48).v, (h63).v], E (List Int) y60 h63, E (List (Sh (List Int))) [a__3, y50] h56, Es (List Int) y50 h53, E (List Int) y45 h48, E (List (Sh (List Int))) [a__2, y35] h41, Es (List Int) y35 h38, E (List Int) y29 h32, E (List (Int × Int × List Int × List Int)) y16_1 h19, E (List Int) y16_2 h21, E (List Int) y16_3 h23, Bx b11 [(.int .i64 b__0), (b__1h).v, (b__2h).v, (b__3h).v], Bx b8 [(.int .i64 a__0), (a__1h).v, (a__2h).v, (a__3h).v], Es (List (Int × Int × List Int × List Int)) a__1 a__1h, Es (List Int) a__2 a__2h, Es (List Int) a__3 a__3h, Es (List (Int × Int × List Int × List Int)) b__1 b__1h, Es (List Int) b__2 b__2h, Es (List Int) b__3 b__3h] := H
  refine loadN [(.int .i64 y16_0), (h19).v, (h48).v, (h63).v] rfl (fun j u hj => H.bx 0 rfl hj) ?_
  cases hF61
  exact ⟨_, _, rfl, ⟨h19, h48, h63, rfl, rfl⟩, (H.sel [9, 5, 2] rfl).close ⟨cloE, cloE, cloE, trivial⟩⟩

theorem impl_validGraph_c (g__0 : Int) (g__1 : List (Int × Int × List Int × List Int)) (g__1h : Hd) (g__2 : List Int) (g__2h : Hd) (g__3 : List Int) (g__3h : Hd) (y0_0 : Int) (y0_1 : List (Int × Int × List Int × List Int)) (y0_2 : List Int) (y0_3 : List Int) (y1 : Bool) (hF : F_impl_validGraph (g__0, g__1, g__2, g__3) = some ((y0_0, y0_1, y0_2, y0_3), y1)) :
    ConF Try.prog 57 #[(.agg #[(.int .i64 g__0), (g__1h).v, (g__2h).v, (g__3h).v])] [] [E (List (Int × Int × List Int × List Int)) g__1 g__1h, E (List Int) g__2 g__2h, E (List Int) g__3 g__3h] (fun v Γ' => ∃ z0 z1 z2 : Hd, v = (.tuple #[(.agg #[(.int .i64 y0_0), (z0).v, (z1).v, (z2).v]), (.bool y1)]) ∧ Γ' = [E (List (Int × Int × List Int × List Int)) y0_1 z0, E (List Int) y0_2 z1, E (List Int) y0_3 z2]) := by
  intro w0 S0 fp0 hI hS
  have H : Cx w0 fp0 S0 w0 [E (List (Int × Int × List Int × List Int)) g__1 g__1h, E (List Int) g__2 g__2h, E (List Int) g__3 g__3h] := Cx.start hI hS
  clear hI hS
  refine enterC (args := [_]) gok Try.func57 rfl _ rfl rfl rfl ?_
  refine box_ H ?_; clear H; intro b5 w4 hx H
  clear hx
  replace H : Cx w0 fp0 S0 w4 [Bx b5 [(.int .i64 g__0), (g__1h).v, (g__2h).v, (g__3h).v], E (List (Int × Int × List Int × List Int)) g__1 g__1h, E (List Int) g__2 g__2h, E (List Int) g__3 g__3h] := H
  refine alloc_ gok rfl H ?_; clear H; intro b8 w7 hx H
  clear hx
  replace H : Cx w0 fp0 S0 w7 [Bx b8 [(.int .i64 0), (.slice none 0 0), (.slice none 0 0), (.slice none 0 0)], Bx b5 [(.int .i64 g__0), (g__1h).v, (g__2h).v, (g__3h).v], E (List (Int × Int × List Int × List Int)) g__1 g__1h, E (List Int) g__2 g__2h, E (List Int) g__3 g__3h] := H
  refine sq ?_
  refine loadN [(.int .i64 g__0), (g__1h).v, (g__2h).v, (g__3h).v] rfl (fun j u hj => H.bx 1 rfl hj) ?_
  obtain ⟨y10, e, hF11⟩ := bindS hF; clear hF
  have ey10 := e; clear e
  refine callF (impl_Graph_isGraph_c g__0 g__1 g__1h g__2 g__2h g__3 g__3h y10 ey10) (Γi := []) H ⟨Vw.own 2 rfl, Vw.own 3 rfl, Vw.own 4 rfl, trivial⟩ ?_; clear H ey10
  rintro _ _ w12 ⟨rfl, rfl⟩ (H : Cx w0 fp0 S0 w12 [Bx b8 [(.int .i64 0), (.slice none 0 0), (.slice none 0 0), (.slice none 0 0)], Bx b5 [(.int .i64 g__0), (g__1h).v, (g__2h).v, (g__3h).v], E (List (Int × Int × List Int × List Int)) g__1 g__1h, E (List Int) g__2 g__2h, E (List Int) g__3 g__3h])
  obtain ⟨a13, e, hF14⟩ := bindS hF11; clear hF11
  refine boolO e ?_; clear e
  cases a13
  · have hF15 := condF hF14; clear hF14
    refine loadN [(.int .i64 g__0), (g__1h).v, (g__2h).v, (g__3h).v] rfl (fun j u hj => H.bx 1 rfl hj) ?_
    refine stA gok [(.int .i64 g__0), (g__1h).v, (g__2h).v, (g__3h).v] rfl H rfl rfl rfl ?_; clear H; intro w16 H
    replace H : Cx w0 fp0 S0 w16 [Bx b8 [(.int .i64 g__0), (g__1h).v, (g__2h).v, (g__3h).v], Bx b5 [(.int .i64 g__0), (g__1h).v, (g__2h).v, (g__3h).v], E (List (Int × Int × List Int × List Int)) g__1 g__1h, E (List Int) g__2 g__2h, E (List Int) g__3 g__3h] := H
    refine loadN [(.int .i64 g__0), (g__1h).v, (g__2h).v, (g__3h).v] rfl (fun j u hj => H.bx 0 rfl hj) ?_
    cases hF15
    exact ⟨_, _, rfl, ⟨g__1h, g__2h, g__3h, rfl, rfl⟩, (H.sel [2, 3, 4] rfl).close ⟨cloE, cloE, cloE, trivial⟩⟩
  · have hF17 := condT hF14; clear hF14
    refine build_ (cs := #[(.int .i64 0), (.slice none 0 0), (.slice none 0 0), (.slice none 0 0)]) gok rfl rfl rfl ?_
    refine stA gok [(.int .i64 0), (.slice none 0 0), (.slice none 0 0), (.slice none 0 0)] rfl H rfl rfl rfl ?_; clear H; intro w18 H
    replace H : Cx w0 fp0 S0 w18 [Bx b8 [(.int .i64 0), (.slice none 0 0), (.slice none 0 0), (.slice none 0 0)], Bx b5 [(.int .i64 g__0), (g__1h).v, (g__2h).v, (g__3h).v], E (List (Int × Int × List Int × List Int)) g__1 g__1h, E (List Int) g__2 g__2h, E (List Int) g__3 g__3h] := H
    refine loadN [(.int .i64 0), (.slice none 0 0), (.slice none 0 0), (.slice none 0 0)] rfl (fun j u hj => H.bx 0 rfl hj) ?_
    replace H := H.nil (α := Int × Int × List Int × List Int)
    replace H := H.nil (α := Int)
    replace H := H.nil (α := Int)
    cases hF17
    exact ⟨_, _, rfl, ⟨nilH, nilH, nilH, rfl, rfl⟩, (H.sel [2, 1, 0] rfl).close ⟨cloE, cloE, cloE, trivial⟩⟩

theorem impl_ParGraphs_c (a__0 : Int) (a__1 : List (Int × Int × List Int × List Int)) (a__1h : Hd) (a__2 : List Int) (a__2h : Hd) (a__3 : List Int) (a__3h : Hd) (b__0 : Int) (b__1 : List (Int × Int × List Int × List Int)) (b__1h : Hd) (b__2 : List Int) (b__2h : Hd) (b__3 : List Int) (b__3h : Hd) (y0_0 : Int) (y0_1 : List (Int × Int × List Int × List Int)) (y0_2 : List Int) (y0_3 : List Int) (y1 : Bool) (hF : F_impl_ParGraphs (a__0, a__1, a__2, a__3) (b__0, b__1, b__2, b__3) = some ((y0_0, y0_1, y0_2, y0_3), y1)) :
    ConF Try.prog 24 #[(.agg #[(.int .i64 a__0), (a__1h).v, (a__2h).v, (a__3h).v]), (.agg #[(.int .i64 b__0), (b__1h).v, (b__2h).v, (b__3h).v])] [Es (List (Int × Int × List Int × List Int)) a__1 a__1h, Es (List Int) a__2 a__2h, Es (List Int) a__3 a__3h, Es (List (Int × Int × List Int × List Int)) b__1 b__1h, Es (List Int) b__2 b__2h, Es (List Int) b__3 b__3h] [] (fun v Γ' => ∃ z0 z1 z2 : Hd, v = (.tuple #[(.agg #[(.int .i64 y0_0), (z0).v, (z1).v, (z2).v]), (.bool y1)]) ∧ Γ' = [E (List (Int × Int × List Int × List Int)) y0_1 z0, E (List Int) y0_2 z1, E (List Int) y0_3 z2]) := by
  intro w0 S0 fp0 hI hS
  have H : Cx w0 fp0 S0 w0 [Es (List (Int × Int × List Int × List Int)) a__1 a__1h, Es (List Int) a__2 a__2h, Es (List Int) a__3 a__3h, Es (List (Int × Int × List Int × List Int)) b__1 b__1h, Es (List Int) b__2 b__2h, Es (List Int) b__3 b__3h] := Cx.start hI hS
  clear hI hS
  refine enterC (args := [_, _]) gok Try.func24 rfl _ rfl rfl rfl ?_
  refine box_ H ?_; clear H; intro b8 w7 hx H
  clear hx
  replace H : Cx w0 fp0 S0 w7 [Bx b8 [(.int .i64 a__0), (a__1h).v, (a__2h).v, (a__3h).v], Es (List (Int × Int × List Int × List Int)) a__1 a__1h, Es (List Int) a__2 a__2h, Es (List Int) a__3 a__3h, Es (List (Int × Int × List Int × List Int)) b__1 b__1h, Es (List Int) b__2 b__2h, Es (List Int) b__3 b__3h] := H
  refine box_ H ?_; clear H; intro b11 w10 hx H
  clear hx
  replace H : Cx w0 fp0 S0 w10 [Bx b11 [(.int .i64 b__0), (b__1h).v, (b__2h).v, (b__3h).v], Bx b8 [(.int .i64 a__0), (a__1h).v, (a__2h).v, (a__3h).v], Es (List (Int × Int × List Int × List Int)) a__1 a__1h, Es (List Int) a__2 a__2h, Es (List Int) a__3 a__3h, Es (List (Int × Int × List Int × List Int)) b__1 b__1h, Es (List Int) b__2 b__2h, Es (List Int) b__3 b__3h] := H
  refine alloc_ gok rfl H ?_; clear H; intro b14 w13 hx H
  clear hx
  replace H : Cx w0 fp0 S0 w13 [Bx b14 [(.int .i64 0), (.slice none 0 0), (.slice none 0 0), (.slice none 0 0)], Bx b11 [(.int .i64 b__0), (b__1h).v, (b__2h).v, (b__3h).v], Bx b8 [(.int .i64 a__0), (a__1h).v, (a__2h).v, (a__3h).v], Es (List (Int × Int × List Int × List Int)) a__1 a__1h, Es (List Int) a__2 a__2h, Es (List Int) a__3 a__3h, Es (List (Int × Int × List Int × List Int)) b__1 b__1h, Es (List Int) b__2 b__2h, Es (List Int) b__3 b__3h] := H
  refine sq ?_
  obtain ⟨r30, hF32, hF31⟩ := bindS hF; clear hF
  refine cut (fun (q33 : Bool) => [(2, (.pointer (some ⟨b8, 0, none⟩))), (3, (.pointer (some ⟨b11, 0, none⟩))), (4, (.pointer (some ⟨b14, 0, none⟩))), (13, (.bool q33))]) (fun (q33 : Bool) w' => q33 = r30 ∧ Cx w0 fp0 S0 w' [Bx b8 [(.int .i64 a__0), (a__1h).v, (a__2h).v, (a__3h).v], Es (List (Int × Int × List Int × List Int)) a__1 a__1h, Es (List Int) a__2 a__2h, Es (List Int) a__3 a__3h, Bx b11 [(.int .i64 b__0), (b__1h).v, (b__2h).v, (b__3h).v], Es (List (Int × Int × List Int × List Int)) b__1 b__1h, Es (List Int) b__2 b__2h, Es (List Int) b__3 b__3h, Bx b14 [(.int .i64 0), (.slice none 0 0), (.slice none 0 0), (.slice none 0 0)]]) ?_ ?_
  · skip
    refine loadN [(.int .i64 a__0), (a__1h).v, (a__2h).v, (a__3h).v] rfl (fun j u hj => H.bx 2 rfl hj) ?_
    obtain ⟨y34, e, hF35⟩ := bindS hF32; clear hF32
    have ey34 := e; clear e
    refine callF (impl_Graph_isGraph_c a__0 a__1 a__1h a__2 a__2h a__3 a__3h y34 ey34) (Γi := []) H ⟨Vw.sh 3 rfl, Vw.sh 4 rfl, Vw.sh 5 rfl, trivial⟩ ?_; clear H ey34
    rintro _ _ w36 ⟨rfl, rfl⟩ (H : Cx w0 fp0 S0 w36 [Bx b14 [(.int .i64 0), (.slice none 0 0), (.slice none 0 0), (.slice none 0 0)], Bx b11 [(.int .i64 b__0), (b__1h).v, (b__2h).v, (b__3h).v], Bx b8 [(.int .i64 a__0), (a__1h).v, (a__2h).v, (a__3h).v], Es (List (Int × Int × List Int × List Int)) a__1 a__1h, Es (List Int) a__2 a__2h, Es (List Int) a__3 a__3h, Es (List (Int × Int × List Int × List Int)) b__1 b__1h, Es (List Int) b__2 b__2h, Es (List Int) b__3 b__3h])
    obtain ⟨a37, e, hF38⟩ := bindS hF35; clear hF35
    refine boolO e ?_; clear e
    cases a37
    · have hF39 := condF hF38; clear hF38
      refine loadN [(.int .i64 b__0), (b__1h).v, (b__2h).v, (b__3h).v] rfl (fun j u hj => H.bx 1 rfl hj) ?_
      obtain ⟨y40, e, hF41⟩ := bindS hF39; clear hF39
      have ey40 := e; clear e
      refine callF (impl_Graph_isGraph_c b__0 b__1 b__1h b__2 b__2h b__3 b__3h y40 ey40) (Γi := []) H ⟨Vw.sh 6 rfl, Vw.sh 7 rfl, Vw.sh 8 rfl, trivial⟩ ?_; clear H ey40
      rintro _ _ w42 ⟨rfl, rfl⟩ (H : Cx w0 fp0 S0 w42 [Bx b14 [(.int .i64 0), (.slice none 0 0), (.slice none 0 0), (.slice none 0 0)], Bx b11 [(.int .i64 b__0), (b__1h).v, (b__2h).v, (b__3h).v], Bx b8 [(.int .i64 a__0), (a__1h).v, (a__2h).v, (a__3h).v], Es (List (Int × Int × List Int × List Int)) a__1 a__1h, Es (List Int) a__2 a__2h, Es (List Int) a__3 a__3h, Es (List (Int × Int × List Int × List Int)) b__1 b__1h, Es (List Int) b__2 b__2h, Es (List Int) b__3 b__3h])
      obtain ⟨a43, e, hF44⟩ := bindS hF41; clear hF41
      refine boolO e ?_; clear e
      exact ⟨a43, ⟨rfl, rfl, rfl, rfl, trivial⟩, Option.some.inj hF44, H.sel [2, 3, 4, 5, 1, 6, 7, 8, 0] rfl⟩
    · have hF45 := condT hF38; clear hF38
      exact ⟨true, ⟨rfl, rfl, rfl, rfl, trivial⟩, Option.some.inj hF45, H.sel [2, 3, 4, 5, 1, 6, 7, 8, 0] rfl⟩
  · clear hF32 H
    rintro T47 s28 w46 ⟨hr, (H : Cx w0 fp0 S0 w46 [Bx b8 [(.int .i64 a__0), (a__1h).v, (a__2h).v, (a__3h).v], Es (List (Int × Int × List Int × List Int)) a__1 a__1h, Es (List Int) a__2 a__2h, Es (List Int) a__3 a__3h, Bx b11 [(.int .i64 b__0), (b__1h).v, (b__2h).v, (b__3h).v], Es (List (Int × Int × List Int × List Int)) b__1 b__1h, Es (List Int) b__2 b__2h, Es (List Int) b__3 b__3h, Bx b14 [(.int .i64 0), (.slice none 0 0), (.slice none 0 0), (.slice none 0 0)]])⟩
    subst hr
    cases s28
    · have hF48 := condF hF31; clear hF31
      refine loadN [(.int .i64 a__0), (a__1h).v, (a__2h).v, (a__3h).v] rfl (fun j u hj => H.bx 0 rfl hj) ?_
      refine loadN [(.int .i64 b__0), (b__1h).v, (b__2h).v, (b__3h).v] rfl (fun j u hj => H.bx 4 rfl hj) ?_
      obtain ⟨y49, e, hF50⟩ := bindS hF48; clear hF48
      obtain ⟨y49_0, y49_1, y49_2, y49_3⟩ := y49
      have ey49 := e; clear e
      refine callF (impl_parGraphs_c a__0 a__1 a__1h a__2 a__2h a__3 a__3h b__0 b__1 b__1h b__2 b__2h b__3 b__3h y49_0 y49_1 y49_2 y49_3 ey49) (Γi := []) H ⟨Vw.sh 1 rfl, Vw.sh 2 rfl, Vw.sh 3 rfl, Vw.sh 5 rfl, Vw.sh 6 rfl, Vw.sh 7 rfl, trivial⟩ ?_; clear H ey49
      rintro _ _ w51 ⟨h52, h54, h56, rfl, rfl⟩ (H : Cx w0 fp0 S0 w51 [E (List (Int × Int × List Int × List Int)) y49_1 h52, E (List Int) y49_2 h54, E (List Int) y49_3 h56, Bx b8 [(.int .i64 a__0), (a__1h).v, (a__2h).v, (a__3h).v], Es (List (Int × Int × List Int × List Int)) a__1 a__1h, Es (List Int) a__2 a__2h, Es (List Int) a__3 a__3h, Bx b11 [(.int .i64 b__0), (b__1h).v, (b__2h).v, (b__3h).v], Es (List (Int × Int × List Int × List Int)) b__1 b__1h, Es (List Int) b__2 b__2h, Es (List Int) b__3 b__3h, Bx b14 [(.int .i64 0), (.slice none 0 0), (.slice none 0 0), (.slice none 0 0)]])
      obtain ⟨y58, e, hF59⟩ := bindS hF50; clear hF50
      obtain ⟨⟨y58_0_0, y58_0_1, y58_0_2, y58_0_3⟩, y58_1⟩ := y58
      have ey58 := e; clear e
      refine callF (impl_validGraph_c y49_0 y49_1 h52 y49_2 h54 y49_3 h56 y58_0_0 y58_0_1 y58_0_2 y58_0_3 y58_1 ey58) (Γi := [E (List (Int × Int × List Int × List Int)) y49_1 h52, E (List Int) y49_2 h54, E (List Int) y49_3 h56]) H trivial ?_; clear H ey58
      rintro _ _ w60 ⟨h61, h63, h65, rfl, rfl⟩ (H : Cx w0 fp0 S0 w60 [E (List (Int × Int × List Int × List Int)) y58_0_1 h61, E (List Int) y58_0_2 h63, E (List Int) y58_0_3 h65, Bx b8 [(.int .i64 a__0), (a__1h).v, (a__2h).v, (a__3h).v], Es (List (Int × Int × List Int × List Int)) a__1 a__1h, Es (List Int) a__2 a__2h, Es (List Int) a__3 a__3h, Bx b11 [(.int .i64 b__0), (b__1h).v, (b__2h).v, (b__3h).v], Es (List (Int × Int × List Int × List Int)) b__1 b__1h, Es (List Int) b__2 b__2h, Es (List Int) b__3 b__3h, Bx b14 [(.int .i64 0), (.slice none 0 0), (.slice none 0 0), (.slice none 0 0)]])
      replace H := H.sel [11, 0, 1, 2, 3, 4, 5, 6, 7, 8, 9, 10] rfl
      refine stA gok [(.int .i64 y58_0_0), (h61).v, (h63).v, (h65).v] rfl H rfl rfl rfl ?_; clear H; intro w67 H
      replace H : Cx w0 fp0 S0 w67 [Bx b14 [(.int .i64 y58_0_0), (h61).v, (h63).v, (h65).v], E (List (Int × Int × List Int × List Int)) y58_0_1 h61, E (List Int) y58_0_2 h63, E (List Int) y58_0_3 h65, Bx b8 [(.int .i64 a__0), (a__1h).v, (a__2h).v, (a__3h).v], Es (List (Int × Int × List Int × List Int)) a__1 a__1h, Es (List Int) a__2 a__2h, Es (List Int) a__3 a__3h, Bx b11 [(.int .i64 b__0), (b__1h).v, (b__2h).v, (b__3h).v], Es (List (Int × Int × List Int × List Int)) b__1 b__1h, Es (List Int) b__2 b__2h, Es (List Int) b__3 b__3h] := H
      refine loadN [(.int .i64 y58_0_0), (h61).v, (h63).v, (h65).v] rfl (fun j u hj => H.bx 0 rfl hj) ?_
      cases hF59
      exact ⟨_, _, rfl, ⟨h61, h63, h65, rfl, rfl⟩, (H.sel [1, 2, 3] rfl).close ⟨cloE, cloE, cloE, trivial⟩⟩
    · have hF68 := condT hF31; clear hF31
      refine build_ (cs := #[(.int .i64 0), (.slice none 0 0), (.slice none 0 0), (.slice none 0 0)]) gok rfl rfl rfl ?_
      replace H := H.sel [8, 0, 1, 2, 3, 4, 5, 6, 7] rfl
      refine stA gok [(.int .i64 0), (.slice none 0 0), (.slice none 0 0), (.slice none 0 0)] rfl H rfl rfl rfl ?_; clear H; intro w69 H
      replace H : Cx w0 fp0 S0 w69 [Bx b14 [(.int .i64 0), (.slice none 0 0), (.slice none 0 0), (.slice none 0 0)], Bx b8 [(.int .i64 a__0), (a__1h).v, (a__2h).v, (a__3h).v], Es (List (Int × Int × List Int × List Int)) a__1 a__1h, Es (List Int) a__2 a__2h, Es (List Int) a__3 a__3h, Bx b11 [(.int .i64 b__0), (b__1h).v, (b__2h).v, (b__3h).v], Es (List (Int × Int × List Int × List Int)) b__1 b__1h, Es (List Int) b__2 b__2h, Es (List Int) b__3 b__3h] := H
      refine loadN [(.int .i64 0), (.slice none 0 0), (.slice none 0 0), (.slice none 0 0)] rfl (fun j u hj => H.bx 0 rfl hj) ?_
      replace H := H.nil (α := Int × Int × List Int × List Int)
      replace H := H.nil (α := Int)
      replace H := H.nil (α := Int)
      cases hF68
      exact ⟨_, _, rfl, ⟨nilH, nilH, nilH, rfl, rfl⟩, (H.sel [2, 1, 0] rfl).close ⟨cloE, cloE, cloE, trivial⟩⟩

theorem laws_eqIntS_c (a_ : List Int) (a_h : Hd) (b_ : List Int) (b_h : Hd) (y : Bool) (hF : F_laws_eqIntS a_ b_ = some y) :
    ConF Try.prog 20 #[(a_h).v, (b_h).v] [Es (List Int) a_ a_h, Es (List Int) b_ b_h] [] (fun v Γ' => v = (.bool y) ∧ Γ' = []) := by
  intro w0 S0 fp0 hI hS
  have H : Cx w0 fp0 S0 w0 [Es (List Int) a_ a_h, Es (List Int) b_ b_h] := Cx.start hI hS
  clear hI hS
  refine enterC (args := [_, _]) gok Try.func20 rfl _ rfl rfl rfl ?_
  refine sq ?_
  refine lenE (H.rs (α := List Int) 0 rfl).len ?_
  refine lenE (H.rs (α := List Int) 1 rfl).len ?_
  obtain ⟨a3, e, hF4⟩ := bindS hF; clear hF
  refine boolO e ?_; clear e
  cases a3
  · have hF5 := condF hF4; clear hF4
    obtain ⟨r104, hF106, hF105⟩ := bindS hF5; clear hF5
    refine cut (fun (q107 : Unit) => []) (fun (q107 : Unit) w' => .inl () = r104 ∧ Cx w0 fp0 S0 w' []) ?_ ?_
    · skip
      refine loopW _ (fun (s166 : Int) (_ : Unit) => [(0, (a_h).v), (1, (b_h).v), (5, (.int .i64 s166))]) (fun (s166 : Int) (_ : Unit) w' => Cx w0 fp0 S0 w' [Es (List Int) a_ a_h, Es (List Int) b_ b_h]) 0 () hF106 ⟨rfl, rfl, rfl, trivial⟩ (H.sel [0, 1] rfl) ?_
      · clear H
        rintro T172 s166 _ w171 o173 (H : Cx w0 fp0 S0 w171 [Es (List Int) a_ a_h, Es (List Int) b_ b_h]) hrt hF174
        refine sq ?_
        refine lenE (H.rs (α := List Int) 0 rfl).len ?_
        obtain ⟨a175, e, hF176⟩ := bindS hF174; clear hF174
        refine boolO e ?_; clear e
        cases a175
        · have hF177 := condF hF176; clear hF176
          have hs := Option.some.inj hF177; subst hs; clear hF177
          have hF178 : some _ = some _ := congrArg some (hrt _ rfl).symm
          exact ⟨(), trivial, Option.some.inj hF178, H.sel [] rfl⟩
        · have hF179 := condT hF176; clear hF176
          refine sq ?_
          refine heldX H [] (.fst 0 (.fst 1 (.fst 2 (.fst 4 (.fst 5 (.fst 6 (.fst 3 (.fst 7 (.fst 8 .done))))))))) mixed [] trivial (by kernel_rfl) ?_
          clear H; intro w180 H
          have hX : Ext w180 w180 := Upd.refl _ _
          have H0 := H
          obtain ⟨a187, e, hF188⟩ := bindS hF179; clear hF179
          obtain ⟨p185, m186, c181, c182, c183, c184⟩ := (H.rs (α := List Int) 0 rfl).at1 e; clear e
          refine idxE c181 c182 c183 ?_; clear c181 c182 c183
          obtain ⟨a195, e, hF196⟩ := bindS hF188; clear hF188
          obtain ⟨p193, m194, c189, c190, c191, c192⟩ := (H.rs (α := List Int) 1 rfl).at1 e; clear e
          refine idxE c189 c190 c191 ?_; clear c189 c190 c191
          refine load1X c184 ?_; clear c184
          refine load1X c192 ?_; clear c192
          obtain ⟨a197, e, hF198⟩ := bindS hF196; clear hF196
          refine boolO e ?_; clear e
          cases a197
          · have hF199 := condF hF198; clear hF198
            obtain ⟨a200, e, hF201⟩ := bindS hF199; clear hF199
            refine arO e ?_; clear e
            have hs := Option.some.inj hF201; subst hs; clear hF201
            exact ⟨a200, (), rfl, ⟨rfl, rfl, rfl, trivial⟩, H.sel [0, 1] rfl⟩
          · have hF202 := condT hF198; clear hF198
            have hs := Option.some.inj hF202; subst hs; clear hF202
            have hF203 : some _ = some _ := congrArg some (hrt _ rfl).symm
            have hs := Option.some.inj hF203; subst hs; clear hF203
            have hF204 : some _ = some _ := hF105; clear hF105
            cases hF204
            exact ⟨_, _, rfl, ⟨rfl, rfl⟩, (H.sel [] rfl).close trivial⟩
    · clear hF106 H
      rintro T206 _ w205 ⟨hr, (H : Cx w0 fp0 S0 w205 [])⟩
      subst hr
      cases hF105
      exact ⟨_, _, rfl, ⟨rfl, rfl⟩, (H.sel [] rfl).close trivial⟩
  · have hF207 := condT hF4; clear hF4
    cases hF207
    exact ⟨_, _, rfl, ⟨rfl, rfl⟩, (H.sel [] rfl).close trivial⟩

theorem laws_eqEdge_c (a__0 : Int) (a__1 : Int) (a__2 : List Int) (a__2h : Hd) (a__3 : List Int) (a__3h : Hd) (b__0 : Int) (b__1 : Int) (b__2 : List Int) (b__2h : Hd) (b__3 : List Int) (b__3h : Hd) (y : Bool) (hF : F_laws_eqEdge (a__0, a__1, a__2, a__3) (b__0, b__1, b__2, b__3) = some y) :
    ConF Try.prog 86 #[(.agg #[(.int .i64 a__0), (.int .i64 a__1), (a__2h).v, (a__3h).v]), (.agg #[(.int .i64 b__0), (.int .i64 b__1), (b__2h).v, (b__3h).v])] [Es (List Int) a__2 a__2h, Es (List Int) a__3 a__3h, Es (List Int) b__2 b__2h, Es (List Int) b__3 b__3h] [] (fun v Γ' => v = (.bool y) ∧ Γ' = []) := by
  intro w0 S0 fp0 hI hS
  have H : Cx w0 fp0 S0 w0 [Es (List Int) a__2 a__2h, Es (List Int) a__3 a__3h, Es (List Int) b__2 b__2h, Es (List Int) b__3 b__3h] := Cx.start hI hS
  clear hI hS
  refine enterC (args := [_, _]) gok Try.func86 rfl _ rfl rfl rfl ?_
  refine box_ H ?_; clear H; intro b6 w5 hx H
  clear hx
  replace H : Cx w0 fp0 S0 w5 [Bx b6 [(.int .i64 a__0), (.int .i64 a__1), (a__2h).v, (a__3h).v], Es (List Int) a__2 a__2h, Es (List Int) a__3 a__3h, Es (List Int) b__2 b__2h, Es (List Int) b__3 b__3h] := H
  refine box_ H ?_; clear H; intro b9 w8 hx H
  clear hx
  replace H : Cx w0 fp0 S0 w8 [Bx b9 [(.int .i64 b__0), (.int .i64 b__1), (b__2h).v, (b__3h).v], Bx b6 [(.int .i64 a__0), (.int .i64 a__1), (a__2h).v, (a__3h).v], Es (List Int) a__2 a__2h, Es (List Int) a__3 a__3h, Es (List Int) b__2 b__2h, Es (List Int) b__3 b__3h] := H
  refine sq ?_
  refine fld gok rfl rfl rfl rfl ?_
  refine load1 (H.bx 1 rfl (j := 0) rfl) ?_
  refine fld gok rfl rfl rfl rfl ?_
  refine load1 (H.bx 0 rfl (j := 0) rfl) ?_
  obtain ⟨a11, e, hF12⟩ := bindS hF; clear hF
  refine boolO e ?_; clear e
  cases a11
  · have hF13 := condF hF12; clear hF12
    refine sq ?_
    refine fld gok rfl rfl rfl rfl ?_
    refine load1 (H.bx 1 rfl (j := 1) rfl) ?_
    refine fld gok rfl rfl rfl rfl ?_
    refine load1 (H.bx 0 rfl (j := 1) rfl) ?_
    obtain ⟨a14, e, hF15⟩ := bindS hF13; clear hF13
    refine boolO e ?_; clear e
    cases a14
    · have hF16 := condF hF15; clear hF15
      refine sq ?_
      refine fld gok rfl rfl rfl rfl ?_
      refine load1 (H.bx 1 rfl (j := 2) rfl) ?_
      refine fld gok rfl rfl rfl rfl ?_
      refine load1 (H.bx 0 rfl (j := 2) rfl) ?_
      obtain ⟨y17, e, hF18⟩ := bindS hF16; clear hF16
      have ey17 := e; clear e
      refine callF (laws_eqIntS_c a__2 a__2h b__2 b__2h y17 ey17) (Γi := []) H ⟨Vw.sh 2 rfl, Vw.sh 4 rfl, trivial⟩ ?_; clear H ey17
      rintro _ _ w19 ⟨rfl, rfl⟩ (H : Cx w0 fp0 S0 w19 [Bx b9 [(.int .i64 b__0), (.int .i64 b__1), (b__2h).v, (b__3h).v], Bx b6 [(.int .i64 a__0), (.int .i64 a__1), (a__2h).v, (a__3h).v], Es (List Int) a__2 a__2h, Es (List Int) a__3 a__3h, Es (List Int) b__2 b__2h, Es (List Int) b__3 b__3h])
      obtain ⟨a20, e, hF21⟩ := bindS hF18; clear hF18
      refine boolO e ?_; clear e
      cases a20
      · have hF22 := condF hF21; clear hF21
        refine sq ?_
        refine fld gok rfl rfl rfl rfl ?_
        refine load1 (H.bx 1 rfl (j := 3) rfl) ?_
        refine fld gok rfl rfl rfl rfl ?_
        refine load1 (H.bx 0 rfl (j := 3) rfl) ?_
        obtain ⟨y23, e, hF24⟩ := bindS hF22; clear hF22
        have ey23 := e; clear e
        refine callF (laws_eqIntS_c a__3 a__3h b__3 b__3h y23 ey23) (Γi := []) H ⟨Vw.sh 3 rfl, Vw.sh 5 rfl, trivial⟩ ?_; clear H ey23
        rintro _ _ w25 ⟨rfl, rfl⟩ (H : Cx w0 fp0 S0 w25 [Bx b9 [(.int .i64 b__0), (.int .i64 b__1), (b__2h).v, (b__3h).v], Bx b6 [(.int .i64 a__0), (.int .i64 a__1), (a__2h).v, (a__3h).v], Es (List Int) a__2 a__2h, Es (List Int) a__3 a__3h, Es (List Int) b__2 b__2h, Es (List Int) b__3 b__3h])
        obtain ⟨a26, e, hF27⟩ := bindS hF24; clear hF24
        refine boolO e ?_; clear e
        cases a26
        · have hF28 := condF hF27; clear hF27
          cases hF28
          exact ⟨_, _, rfl, ⟨rfl, rfl⟩, (H.sel [] rfl).close trivial⟩
        · have hF29 := condT hF27; clear hF27
          cases hF29
          exact ⟨_, _, rfl, ⟨rfl, rfl⟩, (H.sel [] rfl).close trivial⟩
      · have hF30 := condT hF21; clear hF21
        cases hF30
        exact ⟨_, _, rfl, ⟨rfl, rfl⟩, (H.sel [] rfl).close trivial⟩
    · have hF31 := condT hF15; clear hF15
      cases hF31
      exact ⟨_, _, rfl, ⟨rfl, rfl⟩, (H.sel [] rfl).close trivial⟩
  · have hF32 := condT hF12; clear hF12
    cases hF32
    exact ⟨_, _, rfl, ⟨rfl, rfl⟩, (H.sel [] rfl).close trivial⟩

theorem laws_eqEdgeS_c (a_ : List (Int × Int × List Int × List Int)) (a_h : Hd) (b_ : List (Int × Int × List Int × List Int)) (b_h : Hd) (y : Bool) (hF : F_laws_eqEdgeS a_ b_ = some y) :
    ConF Try.prog 47 #[(a_h).v, (b_h).v] [Es (List (Int × Int × List Int × List Int)) a_ a_h, Es (List (Int × Int × List Int × List Int)) b_ b_h] [] (fun v Γ' => v = (.bool y) ∧ Γ' = []) := by
  intro w0 S0 fp0 hI hS
  have H : Cx w0 fp0 S0 w0 [Es (List (Int × Int × List Int × List Int)) a_ a_h, Es (List (Int × Int × List Int × List Int)) b_ b_h] := Cx.start hI hS
  clear hI hS
  refine enterC (args := [_, _]) gok Try.func47 rfl _ rfl rfl rfl ?_
  refine sq ?_
  refine lenE (H.rs (α := List (Int × Int × List Int × List Int)) 0 rfl).len ?_
  refine lenE (H.rs (α := List (Int × Int × List Int × List Int)) 1 rfl).len ?_
  obtain ⟨a3, e, hF4⟩ := bindS hF; clear hF
  refine boolO e ?_; clear e
  cases a3
  · have hF5 := condF hF4; clear hF4
    obtain ⟨r149, hF151, hF150⟩ := bindS hF5; clear hF5
    refine cut (fun (q152 : Unit) => []) (fun (q152 : Unit) w' => .inl () = r149 ∧ Cx w0 fp0 S0 w' []) ?_ ?_
    · skip
      refine loopW _ (fun (s241 : Int) (_ : Unit) => [(0, (a_h).v), (1, (b_h).v), (5, (.int .i64 s241))]) (fun (s241 : Int) (_ : Unit) w' => Cx w0 fp0 S0 w' [Es (List (Int × Int × List Int × List Int)) a_ a_h, Es (List (Int × Int × List Int × List Int)) b_ b_h]) 0 () hF151 ⟨rfl, rfl, rfl, trivial⟩ (H.sel [0, 1] rfl) ?_
      · clear H
        rintro T247 s241 _ w246 o248 (H : Cx w0 fp0 S0 w246 [Es (List (Int × Int × List Int × List Int)) a_ a_h, Es (List (Int × Int × List Int × List Int)) b_ b_h]) hrt hF249
        refine sq ?_
        refine lenE (H.rs (α := List (Int × Int × List Int × List Int)) 0 rfl).len ?_
        obtain ⟨a250, e, hF251⟩ := bindS hF249; clear hF249
        refine boolO e ?_; clear e
        cases a250
        · have hF252 := condF hF251; clear hF251
          have hs := Option.some.inj hF252; subst hs; clear hF252
          have hF253 : some _ = some _ := congrArg some (hrt _ rfl).symm
          exact ⟨(), trivial, Option.some.inj hF253, H.sel [] rfl⟩
        · have hF254 := condT hF251; clear hF251
          refine sq ?_
          refine heldX H [] (.fst 0 (.fst 1 (.fst 2 (.fst 4 (.fst 5 (.fst 6 (.fst 3 (.fst 7 (.act 8 (.fst 9 .done)))))))))) mixed [] trivial (by kernel_rfl) ?_
          clear H; intro w255 H
          have hX : Ext w255 w255 := Upd.refl _ _
          have H0 := H
          obtain ⟨a262, e, hF263⟩ := bindS hF254; clear hF254
          have HH := H; clear H; obtain ⟨p260, m261, g264, c256, c257, c258, c259, H⟩ := HH.el (α := Int × Int × List Int × List Int) 0 rfl e; clear HH
          clear e
          obtain ⟨a262_0, a262_1, a262_2, a262_3⟩ := a262
          obtain ⟨_, _, h266, h267⟩ := g264
          replace H := H.part (β := List Int) a262_2 (h266 : Hd) 0 rfl (fun S h => (And.left (And.right (And.right h))))
          replace H := H.part (β := List Int) a262_3 (h267 : Hd) 1 rfl (fun S h => (And.right (And.right (And.right h))))
          replace H := H.sel [0, 1, 3, 4] rfl
          refine idxE c256 c257 c258 ?_; clear c256 c257 c258
          obtain ⟨a276, e, hF277⟩ := bindS hF263; clear hF263
          have HH := H; clear H; obtain ⟨p274, m275, g278, c270, c271, c272, c273, H⟩ := HH.el (α := Int × Int × List Int × List Int) 3 rfl e; clear HH
          clear e
          obtain ⟨a276_0, a276_1, a276_2, a276_3⟩ := a276
          obtain ⟨_, _, h280, h281⟩ := g278
          replace H := H.part (β := List Int) a276_2 (h280 : Hd) 0 rfl (fun S h => (And.left (And.right (And.right h))))
          replace H := H.part (β := List Int) a276_3 (h281 : Hd) 1 rfl (fun S h => (And.right (And.right (And.right h))))
          replace H := H.sel [0, 1, 3, 4, 5, 6] rfl
          refine idxE c270 c271 c272 ?_; clear c270 c271 c272
          refine loadNX [(.int .i64 a262_0), (.int .i64 a262_1), (h266).v, (h267).v] rfl c259 ?_; clear c259
          refine loadNX [(.int .i64 a276_0), (.int .i64 a276_1), (h280).v, (h281).v] rfl c273 ?_; clear c273
          obtain ⟨y284, e, hF285⟩ := bindS hF277; clear hF277
          have ey284 := e; clear e
          refine callFx (laws_eqEdge_c a262_0 a262_1 a262_2 h266 a262_3 h267 a276_0 a276_1 a276_2 h280 a276_3 h281 y284 ey284) H ⟨Vw.sh 3 rfl, Vw.sh 2 rfl, Vw.sh 1 rfl, Vw.sh 0 rfl, trivial⟩ ?_; clear H ey284
          rintro _ _ w286 ⟨rfl, rfl⟩ hx (H : Cx w0 fp0 S0 w286 [Es (List Int) a276_3 h281, Es (List Int) a276_2 h280, Es (List Int) a262_3 h267, Es (List Int) a262_2 h266, Es (List (Int × Int × List Int × List Int)) a_ a_h, Es (List (Int × Int × List Int × List Int)) b_ b_h])
          replace hX := hX.trans0 hx; clear hx
          refine hold hX ?_
          obtain ⟨a287, e, hF288⟩ := bindS hF285; clear hF285
          refine boolO e ?_; clear e
          cases a287
          · have hF289 := condF hF288; clear hF288
            obtain ⟨a290, e, hF291⟩ := bindS hF289; clear hF289
            refine arO e ?_; clear e
            have hs := Option.some.inj hF291; subst hs; clear hF291
            exact ⟨a290, (), rfl, ⟨rfl, rfl, rfl, trivial⟩, H.sel [4, 5] rfl⟩
          · have hF292 := condT hF288; clear hF288
            have hs := Option.some.inj hF292; subst hs; clear hF292
            have hF293 : some _ = some _ := congrArg some (hrt _ rfl).symm
            have hs := Option.some.inj hF293; subst hs; clear hF293
            have hF294 : some _ = some _ := hF150; clear hF150
            cases hF294
            exact ⟨_, _, rfl, ⟨rfl, rfl⟩, (H.sel [] rfl).close trivial⟩
    · clear hF151 H
      rintro T296 _ w295 ⟨hr, (H : Cx w0 fp0 S0 w295 [])⟩
      subst hr
      cases hF150
      exact ⟨_, _, rfl, ⟨rfl, rfl⟩, (H.sel [] rfl).close trivial⟩
  · have hF297 := condT hF4; clear hF4
    cases hF297
    exact ⟨_, _, rfl, ⟨rfl, rfl⟩, (H.sel [] rfl).close trivial⟩

theorem laws_eqGraph_c (a__0 : Int) (a__1 : List (Int × Int × List Int × List Int)) (a__1h : Hd) (a__2 : List Int) (a__2h : Hd) (a__3 : List Int) (a__3h : Hd) (b__0 : Int) (b__1 : List (Int × Int × List Int × List Int)) (b__1h : Hd) (b__2 : List Int) (b__2h : Hd) (b__3 : List Int) (b__3h : Hd) (y : Bool) (hF : F_laws_eqGraph (a__0, a__1, a__2, a__3) (b__0, b__1, b__2, b__3) = some y) :
    ConF Try.prog 14 #[(.agg #[(.int .i64 a__0), (a__1h).v, (a__2h).v, (a__3h).v]), (.agg #[(.int .i64 b__0), (b__1h).v, (b__2h).v, (b__3h).v])] [Es (List (Int × Int × List Int × List Int)) a__1 a__1h, Es (List Int) a__2 a__2h, Es (List Int) a__3 a__3h, Es (List (Int × Int × List Int × List Int)) b__1 b__1h, Es (List Int) b__2 b__2h, Es (List Int) b__3 b__3h] [] (fun v Γ' => v = (.bool y) ∧ Γ' = []) := by
  intro w0 S0 fp0 hI hS
  have H : Cx w0 fp0 S0 w0 [Es (List (Int × Int × List Int × List Int)) a__1 a__1h, Es (List Int) a__2 a__2h, Es (List Int) a__3 a__3h, Es (List (Int × Int × List Int × List Int)) b__1 b__1h, Es (List Int) b__2 b__2h, Es (List Int) b__3 b__3h] := Cx.start hI hS
  clear hI hS
  refine enterC (args := [_, _]) gok Try.func14 rfl _ rfl rfl rfl ?_
  refine box_ H ?_; clear H; intro b8 w7 hx H
  clear hx
  replace H : Cx w0 fp0 S0 w7 [Bx b8 [(.int .i64 a__0), (a__1h).v, (a__2h).v, (a__3h).v], Es (List (Int × Int × List Int × List Int)) a__1 a__1h, Es (List Int) a__2 a__2h, Es (List Int) a__3 a__3h, Es (List (Int × Int × List Int × List Int)) b__1 b__1h, Es (List Int) b__2 b__2h, Es (List Int) b__3 b__3h] := H
  refine box_ H ?_; clear H; intro b11 w10 hx H
  clear hx
  replace H : Cx w0 fp0 S0 w10 [Bx b11 [(.int .i64 b__0), (b__1h).v, (b__2h).v, (b__3h).v], Bx b8 [(.int .i64 a__0), (a__1h).v, (a__2h).v, (a__3h).v], Es (List (Int × Int × List Int × List Int)) a__1 a__1h, Es (List Int) a__2 a__2h, Es (List Int) a__3 a__3h, Es (List (Int × Int × List Int × List Int)) b__1 b__1h, Es (List Int) b__2 b__2h, Es (List Int) b__3 b__3h] := H
  refine sq ?_
  refine fld gok rfl rfl rfl rfl ?_
  refine load1 (H.bx 1 rfl (j := 0) rfl) ?_
  refine fld gok rfl rfl rfl rfl ?_
  refine load1 (H.bx 0 rfl (j := 0) rfl) ?_
  obtain ⟨a13, e, hF14⟩ := bindS hF; clear hF
  refine boolO e ?_; clear e
  cases a13
  · have hF15 := condF hF14; clear hF14
    refine sq ?_
    refine fld gok rfl rfl rfl rfl ?_
    refine load1 (H.bx 1 rfl (j := 1) rfl) ?_
    refine fld gok rfl rfl rfl rfl ?_
    refine load1 (H.bx 0 rfl (j := 1) rfl) ?_
    obtain ⟨y16, e, hF17⟩ := bindS hF15; clear hF15
    have ey16 := e; clear e
    refine callF (laws_eqEdgeS_c a__1 a__1h b__1 b__1h y16 ey16) (Γi := []) H ⟨Vw.sh 2 rfl, Vw.sh 5 rfl, trivial⟩ ?_; clear H ey16
    rintro _ _ w18 ⟨rfl, rfl⟩ (H : Cx w0 fp0 S0 w18 [Bx b11 [(.int .i64 b__0), (b__1h).v, (b__2h).v, (b__3h).v], Bx b8 [(.int .i64 a__0), (a__1h).v, (a__2h).v, (a__3h).v], Es (List (Int × Int × List Int × List Int)) a__1 a__1h, Es (List Int) a__2 a__2h, Es (List Int) a__3 a__3h, Es (List (Int × Int × List Int × List Int)) b__1 b__1h, Es (List Int) b__2 b__2h, Es (List Int) b__3 b__3h])
    obtain ⟨a19, e, hF20⟩ := bindS hF17; clear hF17
    refine boolO e ?_; clear e
    cases a19
    · have hF21 := condF hF20; clear hF20
      refine sq ?_
      refine fld gok rfl rfl rfl rfl ?_
      refine load1 (H.bx 1 rfl (j := 2) rfl) ?_
      refine fld gok rfl rfl rfl rfl ?_
      refine load1 (H.bx 0 rfl (j := 2) rfl) ?_
      obtain ⟨y22, e, hF23⟩ := bindS hF21; clear hF21
      have ey22 := e; clear e
      refine callF (laws_eqIntS_c a__2 a__2h b__2 b__2h y22 ey22) (Γi := []) H ⟨Vw.sh 3 rfl, Vw.sh 6 rfl, trivial⟩ ?_; clear H ey22
      rintro _ _ w24 ⟨rfl, rfl⟩ (H : Cx w0 fp0 S0 w24 [Bx b11 [(.int .i64 b__0), (b__1h).v, (b__2h).v, (b__3h).v], Bx b8 [(.int .i64 a__0), (a__1h).v, (a__2h).v, (a__3h).v], Es (List (Int × Int × List Int × List Int)) a__1 a__1h, Es (List Int) a__2 a__2h, Es (List Int) a__3 a__3h, Es (List (Int × Int × List Int × List Int)) b__1 b__1h, Es (List Int) b__2 b__2h, Es (List Int) b__3 b__3h])
      obtain ⟨a25, e, hF26⟩ := bindS hF23; clear hF23
      refine boolO e ?_; clear e
      cases a25
      · have hF27 := condF hF26; clear hF26
        refine sq ?_
        refine fld gok rfl rfl rfl rfl ?_
        refine load1 (H.bx 1 rfl (j := 3) rfl) ?_
        refine fld gok rfl rfl rfl rfl ?_
        refine load1 (H.bx 0 rfl (j := 3) rfl) ?_
        obtain ⟨y28, e, hF29⟩ := bindS hF27; clear hF27
        have ey28 := e; clear e
        refine callF (laws_eqIntS_c a__3 a__3h b__3 b__3h y28 ey28) (Γi := []) H ⟨Vw.sh 4 rfl, Vw.sh 7 rfl, trivial⟩ ?_; clear H ey28
        rintro _ _ w30 ⟨rfl, rfl⟩ (H : Cx w0 fp0 S0 w30 [Bx b11 [(.int .i64 b__0), (b__1h).v, (b__2h).v, (b__3h).v], Bx b8 [(.int .i64 a__0), (a__1h).v, (a__2h).v, (a__3h).v], Es (List (Int × Int × List Int × List Int)) a__1 a__1h, Es (List Int) a__2 a__2h, Es (List Int) a__3 a__3h, Es (List (Int × Int × List Int × List Int)) b__1 b__1h, Es (List Int) b__2 b__2h, Es (List Int) b__3 b__3h])
        obtain ⟨a31, e, hF32⟩ := bindS hF29; clear hF29
        refine boolO e ?_; clear e
        cases a31
        · have hF33 := condF hF32; clear hF32
          cases hF33
          exact ⟨_, _, rfl, ⟨rfl, rfl⟩, (H.sel [] rfl).close trivial⟩
        · have hF34 := condT hF32; clear hF32
          cases hF34
          exact ⟨_, _, rfl, ⟨rfl, rfl⟩, (H.sel [] rfl).close trivial⟩
      · have hF35 := condT hF26; clear hF26
        cases hF35
        exact ⟨_, _, rfl, ⟨rfl, rfl⟩, (H.sel [] rfl).close trivial⟩
    · have hF36 := condT hF20; clear hF20
      cases hF36
      exact ⟨_, _, rfl, ⟨rfl, rfl⟩, (H.sel [] rfl).close trivial⟩
  · have hF37 := condT hF14; clear hF14
    cases hF37
    exact ⟨_, _, rfl, ⟨rfl, rfl⟩, (H.sel [] rfl).close trivial⟩

theorem laws_markIntS_c (a_ : List Int) (a_h : Hd) (k_ : Int) (y0 : List Int) (y1 : Int) (hF : F_laws_markIntS a_ k_ = some (y0, y1)) :
    ConF Try.prog 21 #[(a_h).v, (.int .i64 k_)] [] [E (List Int) a_ a_h] (fun v Γ' => v = (.int .i64 y1) ∧ Γ' = [E (List Int) y0 a_h]) := by
  intro w0 S0 fp0 hI hS
  have H : Cx w0 fp0 S0 w0 [E (List Int) a_ a_h] := Cx.start hI hS
  clear hI hS
  refine enterC (args := [_, _]) gok Try.func21 rfl _ rfl rfl rfl ?_
  obtain ⟨r69, hF71, hF70⟩ := bindS hF; clear hF
  refine cut (fun (q72 : List Int × Int) => [(1, (.int .i64 q72.2))]) (fun (q72 : List Int × Int) w' => (q72.1, q72.2) = r69 ∧ Cx w0 fp0 S0 w' [E (List Int) q72.1 a_h]) ?_ ?_
  · skip
    refine loopW _ (fun (s111 : List Int × Int × Int) (_ : Unit) => [(0, (a_h).v), (1, (.int .i64 s111.2.1)), (5, (.int .i64 s111.2.2))]) (fun (s111 : List Int × Int × Int) (_ : Unit) w' => Cx w0 fp0 S0 w' [E (List Int) s111.1 a_h]) (a_, k_, 0) () hF71 ⟨rfl, rfl, rfl, trivial⟩ (H.sel [0] rfl) ?_
    · clear H
      rintro T117 ⟨s111_0, s111_1, s111_2⟩ _ w116 o118 (H : Cx w0 fp0 S0 w116 [E (List Int) s111_0 a_h]) hrt hF119
      refine sq ?_
      refine lenE (H.ro (α := List Int) 0 rfl).len ?_
      obtain ⟨a120, e, hF121⟩ := bindS hF119; clear hF119
      refine boolO e ?_; clear e
      cases a120
      · have hF122 := condF hF121; clear hF121
        have hs := Option.some.inj hF122; subst hs; clear hF122
        have hF123 : some _ = some _ := congrArg some (hrt _ rfl).symm
        exact ⟨(s111_0, s111_1), ⟨rfl, trivial⟩, Option.some.inj hF123, H.sel [0] rfl⟩
      · have hF124 := condT hF121; clear hF121
        refine sq ?_
        obtain ⟨a131, e, hF132⟩ := bindS hF124; clear hF124
        have ea131 := e; clear e
        obtain ⟨p129, m130, c125, c126, c127⟩ := (H.ro (α := List Int) 0 rfl).setp ea131
        refine idxE c125 c126 c127 ?_
        refine setS (α := Int) H c125 c126 ea131 ?_; clear H c125 c126 c127 ea131; intro w133 H
        obtain ⟨a134, e, hF135⟩ := bindS hF132; clear hF132
        refine arO e ?_; clear e
        obtain ⟨a136, e, hF137⟩ := bindS hF135; clear hF135
        refine arO e ?_; clear e
        have hs := Option.some.inj hF137; subst hs; clear hF137
        exact ⟨(a131, a134, a136), (), rfl, ⟨rfl, rfl, rfl, trivial⟩, H.sel [0] rfl⟩
  · clear hF71 H
    rintro T139 ⟨s67_0, s67_1⟩ w138 ⟨hr, (H : Cx w0 fp0 S0 w138 [E (List Int) s67_0 a_h])⟩
    subst hr
    cases hF70
    exact ⟨_, _, rfl, ⟨rfl, rfl⟩, (H.sel [0] rfl).close ⟨cloE, trivial⟩⟩

theorem laws_markEdgeS_c (a_ : List (Int × Int × List Int × List Int)) (a_h : Hd) (k_ : Int) (y0 : List (Int × Int × List Int × List Int)) (y1 : Int) (hF : F_laws_markEdgeS a_ k_ = some (y0, y1)) :
    ConF Try.prog 48 #[(a_h).v, (.int .i64 k_)] [] [E (List (Int × Int × List Int × List Int)) a_ a_h] (fun v Γ' => v = (.int .i64 y1) ∧ Γ' = [E (List (Int × Int × List Int × List Int)) y0 a_h]) := by
  intro w0 S0 fp0 hI hS
  have H : Cx w0 fp0 S0 w0 [E (List (Int × Int × List Int × List Int)) a_ a_h] := Cx.start hI hS
  clear hI hS
  refine enterC (args := [_, _]) gok Try.func48 rfl _ rfl rfl rfl ?_
  obtain ⟨r372, hF374, hF373⟩ := bindS hF; clear hF
  refine cut (fun (q375 : (List (Int × Int × List Int × List Int)) × Int) => [(1, (.int .i64 q375.2))]) (fun (q375 : (List (Int × Int × List Int × List Int)) × Int) w' => (q375.1, q375.2) = r372 ∧ Cx w0 fp0 S0 w' [E (List (Int × Int × List Int × List Int)) q375.1 a_h]) ?_ ?_
  · skip
    refine loopW _ (fun (s616 : (List (Int × Int × List Int × List Int)) × Int × Int) (_ : Unit) => [(0, (a_h).v), (1, (.int .i64 s616.2.1)), (5, (.int .i64 s616.2.2))]) (fun (s616 : (List (Int × Int × List Int × List Int)) × Int × Int) (_ : Unit) w' => Cx w0 fp0 S0 w' [E (List (Int × Int × List Int × List Int)) s616.1 a_h]) (a_, k_, 0) () hF374 ⟨rfl, rfl, rfl, trivial⟩ (H.sel [0] rfl) ?_
    · clear H
      rintro T622 ⟨s616_0, s616_1, s616_2⟩ _ w621 o623 (H : Cx w0 fp0 S0 w621 [E (List (Int × Int × List Int × List Int)) s616_0 a_h]) hrt hF624
      refine sq ?_
      refine lenE (H.ro (α := List (Int × Int × List Int × List Int)) 0 rfl).len ?_
      obtain ⟨a625, e, hF626⟩ := bindS hF624; clear hF624
      refine boolO e ?_; clear e
      cases a625
      · have hF627 := condF hF626; clear hF626
        have hs := Option.some.inj hF627; subst hs; clear hF627
        have hF628 : some _ = some _ := congrArg some (hrt _ rfl).symm
        exact ⟨(s616_0, s616_1), ⟨rfl, trivial⟩, Option.some.inj hF628, H.sel [0] rfl⟩
      · have hF629 := condT hF626; clear hF626
        refine sq ?_
        obtain ⟨a636, e, hF637⟩ := bindS hF629; clear hF629
        replace H := H.toEH (α := Int × Int × List Int × List Int)
        have HH := H; clear H; obtain ⟨p634, m635, g638, c630, c631, c632, c633, H⟩ := HH.peek e; clear HH
        clear e
        obtain ⟨a636_0, a636_1, a636_2, a636_3⟩ := a636
        obtain ⟨_, _, h639, h640⟩ := g638
        refine idxE c630 c631 c632 ?_
        refine fld gok rfl rfl rfl rfl ?_
        replace H := H.takeK 0 rfl
        replace H := H.sel [1, 0] rfl
        refine stX (α := Int × Int × List Int × List Int) (j := 0) H c630 rfl rfl ?_; clear H; intro w642 H
        replace H := H.sel [1, 0] rfl
        replace H := H.split
        replace H := H.sel [1, 2] rfl
        replace H := H.split
        replace H := H.sel [1, 2] rfl
        replace H := H.split
        replace H := H.join (α := List Int) (β := List Int)
        replace H := H.sc (α := Int) a636_1
        replace H := H.join (α := Int) (β := List Int × List Int)
        replace H := H.sc (α := Int) s616_1
        replace H := H.join (α := Int) (β := Int × List Int × List Int)
        obtain ⟨a654, e, hF655⟩ := bindS hF637; clear hF637
        replace H := H.put c631 e; clear e
        obtain ⟨a656, e, hF657⟩ := bindS hF655; clear hF655
        refine arO e ?_; clear e
        obtain ⟨a664, e, hF665⟩ := bindS hF657; clear hF657
        replace H := H.toEH (α := Int × Int × List Int × List Int)
        have HH := H; clear H; obtain ⟨p662, m663, g666, c658, c659, c660, c661, H⟩ := HH.peek e; clear HH
        clear e
        obtain ⟨a664_0, a664_1, a664_2, a664_3⟩ := a664
        obtain ⟨_, _, h667, h668⟩ := g666
        refine idxE c658 c659 c660 ?_
        refine fld gok rfl rfl rfl rfl ?_
        replace H := H.takeK 0 rfl
        replace H := H.sel [1, 0] rfl
        refine stX (α := Int × Int × List Int × List Int) (j := 1) H c658 rfl rfl ?_; clear H; intro w670 H
        replace H := H.sel [1, 0] rfl
        replace H := H.split
        replace H := H.sel [1, 2] rfl
        replace H := H.split
        replace H := H.sel [1, 2] rfl
        replace H := H.split
        replace H := H.join (α := List Int) (β := List Int)
        replace H := H.sc (α := Int) a656
        replace H := H.join (α := Int) (β := List Int × List Int)
        replace H := H.sc (α := Int) a664_0
        replace H := H.join (α := Int) (β := Int × List Int × List Int)
        obtain ⟨a682, e, hF683⟩ := bindS hF665; clear hF665
        replace H := H.put c659 e; clear e
        obtain ⟨a684, e, hF685⟩ := bindS hF683; clear hF683
        refine arO e ?_; clear e
        obtain ⟨a692, e, hF693⟩ := bindS hF685; clear hF685
        replace H := H.toEH (α := Int × Int × List Int × List Int)
        have HH := H; clear H; obtain ⟨p690, m691, g694, c686, c687, c688, c689, H⟩ := HH.peek e; clear HH
        clear e
        obtain ⟨a692_0, a692_1, a692_2, a692_3⟩ := a692
        obtain ⟨_, _, h695, h696⟩ := g694
        refine idxE c686 c687 c688 ?_
        refine fld gok rfl rfl rfl rfl ?_
        refine load1 (c689 2 _ rfl) ?_
        obtain ⟨y697, e, hF698⟩ := bindS hF693; clear hF693
        obtain ⟨y697_0, y697_1⟩ := y697
        have ey697 := e; clear e
        replace H := H.takeK 0 rfl
        replace H := H.split
        replace H := H.sel [1, 2] rfl
        replace H := H.split
        replace H := H.sel [1, 2] rfl
        replace H := H.split
        refine callF (laws_markIntS_c a692_2 h695 a684 y697_0 y697_1 ey697) (Γi := [E (List Int) a692_2 h695]) H trivial ?_; clear H ey697
        rintro _ _ w706 ⟨rfl, rfl⟩ (H : Cx w0 fp0 S0 w706 [E (List Int) y697_0 h695, E (List Int) a692_3 h696, EX (Int × Int × List Int × List Int) m691 [(.int .i64 a692_0), (.int .i64 a692_1), (h695).v, (h696).v] a682 a_h])
        replace H := H.join (α := List Int) (β := List Int)
        replace H := H.sc (α := Int) a692_1
        replace H := H.join (α := Int) (β := List Int × List Int)
        replace H := H.sc (α := Int) a692_0
        replace H := H.join (α := Int) (β := Int × List Int × List Int)
        obtain ⟨a712, e, hF713⟩ := bindS hF698; clear hF698
        replace H := H.put c687 e; clear e
        obtain ⟨a720, e, hF721⟩ := bindS hF713; clear hF713
        replace H := H.toEH (α := Int × Int × List Int × List Int)
        have HH := H; clear H; obtain ⟨p718, m719, g722, c714, c715, c716, c717, H⟩ := HH.peek e; clear HH
        clear e
        obtain ⟨a720_0, a720_1, a720_2, a720_3⟩ := a720
        obtain ⟨_, _, h723, h724⟩ := g722
        refine idxE c714 c715 c716 ?_
        refine fld gok rfl rfl rfl rfl ?_
        refine load1 (c717 3 _ rfl) ?_
        obtain ⟨y725, e, hF726⟩ := bindS hF721; clear hF721
        obtain ⟨y725_0, y725_1⟩ := y725
        have ey725 := e; clear e
        replace H := H.takeK 0 rfl
        replace H := H.split
        replace H := H.sel [1, 2] rfl
        replace H := H.split
        replace H := H.sel [1, 2] rfl
        replace H := H.split
        replace H := H.sel [1, 0, 2] rfl
        refine callF (laws_markIntS_c a720_3 h724 y697_1 y725_0 y725_1 ey725) (Γi := [E (List Int) a720_3 h724]) H trivial ?_; clear H ey725
        rintro _ _ w734 ⟨rfl, rfl⟩ (H : Cx w0 fp0 S0 w734 [E (List Int) y725_0 h724, E (List Int) a720_2 h723, EX (Int × Int × List Int × List Int) m719 [(.int .i64 a720_0), (.int .i64 a720_1), (h723).v, (h724).v] a712 a_h])
        replace H := H.sel [1, 0, 2] rfl
        replace H := H.join (α := List Int) (β := List Int)
        replace H := H.sc (α := Int) a720_1
        replace H := H.join (α := Int) (β := List Int × List Int)
        replace H := H.sc (α := Int) a720_0
        replace H := H.join (α := Int) (β := Int × List Int × List Int)
        obtain ⟨a740, e, hF741⟩ := bindS hF726; clear hF726
        replace H := H.put c715 e; clear e
        obtain ⟨a742, e, hF743⟩ := bindS hF741; clear hF741
        refine arO e ?_; clear e
        have hs := Option.some.inj hF743; subst hs; clear hF743
        exact ⟨(a740, y725_1, a742), (), rfl, ⟨rfl, rfl, rfl, trivial⟩, H.sel [0] rfl⟩
  · clear hF374 H
    rintro T745 ⟨s370_0, s370_1⟩ w744 ⟨hr, (H : Cx w0 fp0 S0 w744 [E (List (Int × Int × List Int × List Int)) s370_0 a_h])⟩
    subst hr
    cases hF373
    exact ⟨_, _, rfl, ⟨rfl, rfl⟩, (H.sel [0] rfl).close ⟨cloE, trivial⟩⟩

theorem laws_markGraph_c (a__0 : Int) (a__1 : List (Int × Int × List Int × List Int)) (a__1h : Hd) (a__2 : List Int) (a__2h : Hd) (a__3 : List Int) (a__3h : Hd) (k_ : Int) (y0_0 : Int) (y0_1 : List (Int × Int × List Int × List Int)) (y0_2 : List Int) (y0_3 : List Int) (y1 : Int) (hF : F_laws_markGraph (a__0, a__1, a__2, a__3) k_ = some ((y0_0, y0_1, y0_2, y0_3), y1)) :
    ConF Try.prog 15 #[(.agg #[(.int .i64 a__0), (a__1h).v, (a__2h).v, (a__3h).v]), (.int .i64 k_)] [] [E (List (Int × Int × List Int × List Int)) a__1 a__1h, E (List Int) a__2 a__2h, E (List Int) a__3 a__3h] (fun v Γ' => v = (.int .i64 y1) ∧ Γ' = [E (List (Int × Int × List Int × List Int)) y0_1 a__1h, E (List Int) y0_2 a__2h, E (List Int) y0_3 a__3h]) := by
  intro w0 S0 fp0 hI hS
  have H : Cx w0 fp0 S0 w0 [E (List (Int × Int × List Int × List Int)) a__1 a__1h, E (List Int) a__2 a__2h, E (List Int) a__3 a__3h] := Cx.start hI hS
  clear hI hS
  refine enterC (args := [_, _]) gok Try.func15 rfl _ rfl rfl rfl ?_
  refine box_ H ?_; clear H; intro b5 w4 hx H
  clear hx
  replace H : Cx w0 fp0 S0 w4 [Bx b5 [(.int .i64 a__0), (a__1h).v, (a__2h).v, (a__3h).v], E (List (Int × Int × List Int × List Int)) a__1 a__1h, E (List Int) a__2 a__2h, E (List Int) a__3 a__3h] := H
  refine fld gok rfl rfl rfl rfl ?_
  refine load1 (H.bx 0 rfl (j := 1) rfl) ?_
  obtain ⟨y7, e, hF8⟩ := bindS hF; clear hF
  obtain ⟨y7_0, y7_1⟩ := y7
  have ey7 := e; clear e
  replace H := H.sel [1, 0, 2, 3] rfl
  refine callF (laws_markEdgeS_c a__1 a__1h k_ y7_0 y7_1 ey7) (Γi := [E (List (Int × Int × List Int × List Int)) a__1 a__1h]) H trivial ?_; clear H ey7
  rintro _ _ w9 ⟨rfl, rfl⟩ (H : Cx w0 fp0 S0 w9 [E (List (Int × Int × List Int × List Int)) y7_0 a__1h, Bx b5 [(.int .i64 a__0), (a__1h).v, (a__2h).v, (a__3h).v], E (List Int) a__2 a__2h, E (List Int) a__3 a__3h])
  refine fld gok rfl rfl rfl rfl ?_
  refine load1 (H.bx 1 rfl (j := 2) rfl) ?_
  obtain ⟨y10, e, hF11⟩ := bindS hF8; clear hF8
  obtain ⟨y10_0, y10_1⟩ := y10
  have ey10 := e; clear e
  replace H := H.sel [2, 0, 1, 3] rfl
  refine callF (laws_markIntS_c a__2 a__2h y7_1 y10_0 y10_1 ey10) (Γi := [E (List Int) a__2 a__2h]) H trivial ?_; clear H ey10
  rintro _ _ w12 ⟨rfl, rfl⟩ (H : Cx w0 fp0 S0 w12 [E (List Int) y10_0 a__2h, E (List (Int × Int × List Int × List Int)) y7_0 a__1h, Bx b5 [(.int .i64 a__0), (a__1h).v, (a__2h).v, (a__3h).v], E (List Int) a__3 a__3h])
  refine fld gok rfl rfl rfl rfl ?_
  refine load1 (H.bx 2 rfl (j := 3) rfl) ?_
  obtain ⟨y13, e, hF14⟩ := bindS hF11; clear hF11
  obtain ⟨y13_0, y13_1⟩ := y13
  have ey13 := e; clear e
  replace H := H.sel [3, 0, 1, 2] rfl
  refine callF (laws_markIntS_c a__3 a__3h y10_1 y13_0 y13_1 ey13) (Γi := [E (List Int) a__3 a__3h]) H trivial ?_; clear H ey13
  rintro _ _ w15 ⟨rfl, rfl⟩ (H : Cx w0 fp0 S0 w15 [E (List Int) y13_0 a__3h, E (List Int) y10_0 a__2h, E (List (Int × Int × List Int × List Int)) y7_0 a__1h, Bx b5 [(.int .i64 a__0), (a__1h).v, (a__2h).v, (a__3h).v]])
  cases hF14
  exact ⟨_, _, rfl, ⟨rfl, rfl⟩, (H.sel [2, 1, 0] rfl).close ⟨cloE, cloE, cloE, trivial⟩⟩

theorem laws_heldIntS_c (a_ : List Int) (a_h : Hd) (k_ : Int) (y : Int) (hF : F_laws_heldIntS a_ k_ = some y) :
    ConF Try.prog 22 #[(a_h).v, (.int .i64 k_)] [Es (List Int) a_ a_h] [] (fun v Γ' => v = (.int .i64 y) ∧ Γ' = []) := by
  intro w0 S0 fp0 hI hS
  have H : Cx w0 fp0 S0 w0 [Es (List Int) a_ a_h] := Cx.start hI hS
  clear hI hS
  refine enterC (args := [_, _]) gok Try.func22 rfl _ rfl rfl rfl ?_
  obtain ⟨r79, hF81, hF80⟩ := bindS hF; clear hF
  refine cut (fun (q82 : Int) => [(1, (.int .i64 q82))]) (fun (q82 : Int) w' => .inl q82 = r79 ∧ Cx w0 fp0 S0 w' []) ?_ ?_
  · skip
    refine loopW _ (fun (s127 : Int × Int) (_ : Unit) => [(0, (a_h).v), (1, (.int .i64 s127.1)), (5, (.int .i64 s127.2))]) (fun (s127 : Int × Int) (_ : Unit) w' => Cx w0 fp0 S0 w' [Es (List Int) a_ a_h]) (k_, 0) () hF81 ⟨rfl, rfl, rfl, trivial⟩ (H.sel [0] rfl) ?_
    · clear H
      rintro T133 ⟨s127_0, s127_1⟩ _ w132 o134 (H : Cx w0 fp0 S0 w132 [Es (List Int) a_ a_h]) hrt hF135
      refine sq ?_
      refine lenE (H.rs (α := List Int) 0 rfl).len ?_
      obtain ⟨a136, e, hF137⟩ := bindS hF135; clear hF135
      refine boolO e ?_; clear e
      cases a136
      · have hF138 := condF hF137; clear hF137
        have hs := Option.some.inj hF138; subst hs; clear hF138
        have hF139 : some _ = some _ := congrArg some (hrt _ rfl).symm
        exact ⟨s127_0, ⟨rfl, trivial⟩, Option.some.inj hF139, H.sel [] rfl⟩
      · have hF140 := condT hF137; clear hF137
        refine sq ?_
        refine sq ?_
        obtain ⟨a147, e, hF148⟩ := bindS hF140; clear hF140
        obtain ⟨p145, m146, c141, c142, c143, c144⟩ := (H.rs (α := List Int) 0 rfl).at1 e; clear e
        refine idxE c141 c142 c143 ?_; clear c141 c142 c143
        refine load1 c144 ?_; clear c144
        obtain ⟨a149, e, hF150⟩ := bindS hF148; clear hF148
        refine boolO e ?_; clear e
        cases a149
        · have hF151 := condF hF150; clear hF150
          obtain ⟨a152, e, hF153⟩ := bindS hF151; clear hF151
          refine arO e ?_; clear e
          obtain ⟨a154, e, hF155⟩ := bindS hF153; clear hF153
          refine arO e ?_; clear e
          have hs := Option.some.inj hF155; subst hs; clear hF155
          exact ⟨(a152, a154), (), rfl, ⟨rfl, rfl, rfl, trivial⟩, H.sel [0] rfl⟩
        · have hF156 := condT hF150; clear hF150
          have hs := Option.some.inj hF156; subst hs; clear hF156
          have hF157 : some _ = some _ := congrArg some (hrt _ rfl).symm
          have hs := Option.some.inj hF157; subst hs; clear hF157
          have hF158 : some _ = some _ := hF80; clear hF80
          cases hF158
          exact ⟨_, _, rfl, ⟨rfl, rfl⟩, (H.sel [] rfl).close trivial⟩
  · clear hF81 H
    rintro T160 s77 w159 ⟨hr, (H : Cx w0 fp0 S0 w159 [])⟩
    subst hr
    cases hF80
    exact ⟨_, _, rfl, ⟨rfl, rfl⟩, (H.sel [] rfl).close trivial⟩

theorem laws_heldEdgeS_c (a_ : List (Int × Int × List Int × List Int)) (a_h : Hd) (k_ : Int) (y : Int) (hF : F_laws_heldEdgeS a_ k_ = some y) :
    ConF Try.prog 59 #[(a_h).v, (.int .i64 k_)] [Es (List (Int × Int × List Int × List Int)) a_ a_h] [] (fun v Γ' => v = (.int .i64 y) ∧ Γ' = []) := by
  intro w0 S0 fp0 hI hS
  have H : Cx w0 fp0 S0 w0 [Es (List (Int × Int × List Int × List Int)) a_ a_h] := Cx.start hI hS
  clear hI hS
  refine enterC (args := [_, _]) gok Try.func59 rfl _ rfl rfl rfl ?_
  obtain ⟨r286, hF288, hF287⟩ := bindS hF; clear hF
  refine cut (fun (q289 : Int) => [(1, (.int .i64 q289))]) (fun (q289 : Int) w' => .inl q289 = r286 ∧ Cx w0 fp0 S0 w' []) ?_ ?_
  · skip
    refine loopW _ (fun (s470 : Int × Int) (_ : Unit) => [(0, (a_h).v), (1, (.int .i64 s470.1)), (5, (.int .i64 s470.2))]) (fun (s470 : Int × Int) (_ : Unit) w' => Cx w0 fp0 S0 w' [Es (List (Int × Int × List Int × List Int)) a_ a_h]) (k_, 0) () hF288 ⟨rfl, rfl, rfl, trivial⟩ (H.sel [0] rfl) ?_
    · clear H
      rintro T476 ⟨s470_0, s470_1⟩ _ w475 o477 (H : Cx w0 fp0 S0 w475 [Es (List (Int × Int × List Int × List Int)) a_ a_h]) hrt hF478
      refine sq ?_
      refine lenE (H.rs (α := List (Int × Int × List Int × List Int)) 0 rfl).len ?_
      obtain ⟨a479, e, hF480⟩ := bindS hF478; clear hF478
      refine boolO e ?_; clear e
      cases a479
      · have hF481 := condF hF480; clear hF480
        have hs := Option.some.inj hF481; subst hs; clear hF481
        have hF482 : some _ = some _ := congrArg some (hrt _ rfl).symm
        exact ⟨s470_0, ⟨rfl, trivial⟩, Option.some.inj hF482, H.sel [] rfl⟩
      · have hF483 := condT hF480; clear hF480
        refine sq ?_
        refine sq ?_
        obtain ⟨a490, e, hF491⟩ := bindS hF483; clear hF483
        have HH := H; clear H; obtain ⟨p488, m489, g492, c484, c485, c486, c487, H⟩ := HH.el (α := Int × Int × List Int × List Int) 0 rfl e; clear HH
        clear e
        obtain ⟨a490_0, a490_1, a490_2, a490_3⟩ := a490
        obtain ⟨_, _, h494, h495⟩ := g492
        replace H := H.part (β := List Int) a490_2 (h494 : Hd) 0 rfl (fun S h => (And.left (And.right (And.right h))))
        replace H := H.part (β := List Int) a490_3 (h495 : Hd) 1 rfl (fun S h => (And.right (And.right (And.right h))))
        replace H := H.sel [0, 1, 3] rfl
        refine idxE c484 c485 c486 ?_; clear c484 c485 c486
        refine fld gok rfl rfl rfl rfl ?_
        refine load1 (c487 0 _ rfl) ?_
        obtain ⟨a498, e, hF499⟩ := bindS hF491; clear hF491
        refine boolO e ?_; clear e
        cases a498
        · have hF500 := condF hF499; clear hF499
          obtain ⟨a501, e, hF502⟩ := bindS hF500; clear hF500
          refine arO e ?_; clear e
          refine sq ?_
          obtain ⟨a509, e, hF510⟩ := bindS hF502; clear hF502
          have HH := H; clear H; obtain ⟨p507, m508, g511, c503, c504, c505, c506, H⟩ := HH.el (α := Int × Int × List Int × List Int) 2 rfl e; clear HH
          clear e
          obtain ⟨a509_0, a509_1, a509_2, a509_3⟩ := a509
          obtain ⟨_, _, h513, h514⟩ := g511
          replace H := H.part (β := List Int) a509_2 (h513 : Hd) 0 rfl (fun S h => (And.left (And.right (And.right h))))
          replace H := H.part (β := List Int) a509_3 (h514 : Hd) 1 rfl (fun S h => (And.right (And.right (And.right h))))
          replace H := H.sel [0, 1, 3, 4, 5] rfl
          refine idxE c503 c504 c505 ?_; clear c503 c504 c505
          refine fld gok rfl rfl rfl rfl ?_
          refine load1 (c506 1 _ rfl) ?_
          obtain ⟨a517, e, hF518⟩ := bindS hF510; clear hF510
          refine boolO e ?_; clear e
          cases a517
          · have hF519 := condF hF518; clear hF518
            obtain ⟨a520, e, hF521⟩ := bindS hF519; clear hF519
            refine arO e ?_; clear e
            obtain ⟨a528, e, hF529⟩ := bindS hF521; clear hF521
            have HH := H; clear H; obtain ⟨p526, m527, g530, c522, c523, c524, c525, H⟩ := HH.el (α := Int × Int × List Int × List Int) 4 rfl e; clear HH
            clear e
            obtain ⟨a528_0, a528_1, a528_2, a528_3⟩ := a528
            obtain ⟨_, _, h532, h533⟩ := g530
            replace H := H.part (β := List Int) a528_2 (h532 : Hd) 0 rfl (fun S h => (And.left (And.right (And.right h))))
            replace H := H.part (β := List Int) a528_3 (h533 : Hd) 1 rfl (fun S h => (And.right (And.right (And.right h))))
            replace H := H.sel [0, 1, 3, 4, 5, 6, 7] rfl
            refine idxE c522 c523 c524 ?_; clear c522 c523 c524
            refine fld gok rfl rfl rfl rfl ?_
            refine load1 (c525 2 _ rfl) ?_
            obtain ⟨y536, e, hF537⟩ := bindS hF529; clear hF529
            have ey536 := e; clear e
            refine callF (laws_heldIntS_c a528_2 h532 a520 y536 ey536) (Γi := []) H ⟨Vw.sh 1 rfl, trivial⟩ ?_; clear H ey536
            rintro _ _ w538 ⟨rfl, rfl⟩ (H : Cx w0 fp0 S0 w538 [Es (List Int) a528_3 h533, Es (List Int) a528_2 h532, Es (List Int) a509_3 h514, Es (List Int) a509_2 h513, Es (List Int) a490_3 h495, Es (List Int) a490_2 h494, Es (List (Int × Int × List Int × List Int)) a_ a_h])
            refine sq ?_
            obtain ⟨a539, e, hF540⟩ := bindS hF537; clear hF537
            refine boolO e ?_; clear e
            cases a539
            · have hF541 := condF hF540; clear hF540
              obtain ⟨a548, e, hF549⟩ := bindS hF541; clear hF541
              have HH := H; clear H; obtain ⟨p546, m547, g550, c542, c543, c544, c545, H⟩ := HH.el (α := Int × Int × List Int × List Int) 6 rfl e; clear HH
              clear e
              obtain ⟨a548_0, a548_1, a548_2, a548_3⟩ := a548
              obtain ⟨_, _, h552, h553⟩ := g550
              replace H := H.part (β := List Int) a548_2 (h552 : Hd) 0 rfl (fun S h => (And.left (And.right (And.right h))))
              replace H := H.part (β := List Int) a548_3 (h553 : Hd) 1 rfl (fun S h => (And.right (And.right (And.right h))))
              replace H := H.sel [0, 1, 3, 4, 5, 6, 7, 8, 9] rfl
              refine idxE c542 c543 c544 ?_; clear c542 c543 c544
              refine fld gok rfl rfl rfl rfl ?_
              refine load1 (c545 3 _ rfl) ?_
              obtain ⟨y556, e, hF557⟩ := bindS hF549; clear hF549
              have ey556 := e; clear e
              refine callF (laws_heldIntS_c a548_3 h553 y536 y556 ey556) (Γi := []) H ⟨Vw.sh 0 rfl, trivial⟩ ?_; clear H ey556
              rintro _ _ w558 ⟨rfl, rfl⟩ (H : Cx w0 fp0 S0 w558 [Es (List Int) a548_3 h553, Es (List Int) a548_2 h552, Es (List Int) a528_3 h533, Es (List Int) a528_2 h532, Es (List Int) a509_3 h514, Es (List Int) a509_2 h513, Es (List Int) a490_3 h495, Es (List Int) a490_2 h494, Es (List (Int × Int × List Int × List Int)) a_ a_h])
              obtain ⟨a559, e, hF560⟩ := bindS hF557; clear hF557
              refine boolO e ?_; clear e
              cases a559
              · have hF561 := condF hF560; clear hF560
                obtain ⟨a562, e, hF563⟩ := bindS hF561; clear hF561
                refine arO e ?_; clear e
                have hs := Option.some.inj hF563; subst hs; clear hF563
                exact ⟨(y556, a562), (), rfl, ⟨rfl, rfl, rfl, trivial⟩, H.sel [8] rfl⟩
              · have hF564 := condT hF560; clear hF560
                have hs := Option.some.inj hF564; subst hs; clear hF564
                have hF565 : some _ = some _ := congrArg some (hrt _ rfl).symm
                have hs := Option.some.inj hF565; subst hs; clear hF565
                have hF566 : some _ = some _ := hF287; clear hF287
                cases hF566
                exact ⟨_, _, rfl, ⟨rfl, rfl⟩, (H.sel [] rfl).close trivial⟩
            · have hF567 := condT hF540; clear hF540
              have hs := Option.some.inj hF567; subst hs; clear hF567
              have hF568 : some _ = some _ := congrArg some (hrt _ rfl).symm
              have hs := Option.some.inj hF568; subst hs; clear hF568
              have hF569 : some _ = some _ := hF287; clear hF287
              cases hF569
              exact ⟨_, _, rfl, ⟨rfl, rfl⟩, (H.sel [] rfl).close trivial⟩
          · have hF570 := condT hF518; clear hF518
            have hs := Option.some.inj hF570; subst hs; clear hF570
            have hF571 : some _ = some _ := congrArg some (hrt _ rfl).symm
            have hs := Option.some.inj hF571; subst hs; clear hF571
            have hF572 : some _ = some _ := hF287; clear hF287
            cases hF572
            exact ⟨_, _, rfl, ⟨rfl, rfl⟩, (H.sel [] rfl).close trivial⟩
        · have hF573 := condT hF499; clear hF499
          have hs := Option.some.inj hF573; subst hs; clear hF573
          have hF574 : some _ = some _ := congrArg some (hrt _ rfl).symm
          have hs := Option.some.inj hF574; subst hs; clear hF574
          have hF575 : some _ = some _ := hF287; clear hF287
          cases hF575
          exact ⟨_, _, rfl, ⟨rfl, rfl⟩, (H.sel [] rfl).close trivial⟩
  · clear hF288 H
    rintro T577 s284 w576 ⟨hr, (H : Cx w0 fp0 S0 w576 [])⟩
    subst hr
    cases hF287
    exact ⟨_, _, rfl, ⟨rfl, rfl⟩, (H.sel [] rfl).close trivial⟩

theorem laws_heldGraph_c (a__0 : Int) (a__1 : List (Int × Int × List Int × List Int)) (a__1h : Hd) (a__2 : List Int) (a__2h : Hd) (a__3 : List Int) (a__3h : Hd) (k_ : Int) (y : Int) (hF : F_laws_heldGraph (a__0, a__1, a__2, a__3) k_ = some y) :
    ConF Try.prog 25 #[(.agg #[(.int .i64 a__0), (a__1h).v, (a__2h).v, (a__3h).v]), (.int .i64 k_)] [Es (List (Int × Int × List Int × List Int)) a__1 a__1h, Es (List Int) a__2 a__2h, Es (List Int) a__3 a__3h] [] (fun v Γ' => v = (.int .i64 y) ∧ Γ' = []) := by
  intro w0 S0 fp0 hI hS
  have H : Cx w0 fp0 S0 w0 [Es (List (Int × Int × List Int × List Int)) a__1 a__1h, Es (List Int) a__2 a__2h, Es (List Int) a__3 a__3h] := Cx.start hI hS
  clear hI hS
  refine enterC (args := [_, _]) gok Try.func25 rfl _ rfl rfl rfl ?_
  refine box_ H ?_; clear H; intro b5 w4 hx H
  clear hx
  replace H : Cx w0 fp0 S0 w4 [Bx b5 [(.int .i64 a__0), (a__1h).v, (a__2h).v, (a__3h).v], Es (List (Int × Int × List Int × List Int)) a__1 a__1h, Es (List Int) a__2 a__2h, Es (List Int) a__3 a__3h] := H
  refine fld gok rfl rfl rfl rfl ?_
  refine load1 (H.bx 0 rfl (j := 1) rfl) ?_
  obtain ⟨y7, e, hF8⟩ := bindS hF; clear hF
  have ey7 := e; clear e
  refine callF (laws_heldEdgeS_c a__1 a__1h k_ y7 ey7) (Γi := []) H ⟨Vw.sh 1 rfl, trivial⟩ ?_; clear H ey7
  rintro _ _ w9 ⟨rfl, rfl⟩ (H : Cx w0 fp0 S0 w9 [Bx b5 [(.int .i64 a__0), (a__1h).v, (a__2h).v, (a__3h).v], Es (List (Int × Int × List Int × List Int)) a__1 a__1h, Es (List Int) a__2 a__2h, Es (List Int) a__3 a__3h])
  refine sq ?_
  obtain ⟨a10, e, hF11⟩ := bindS hF8; clear hF8
  refine boolO e ?_; clear e
  cases a10
  · have hF12 := condF hF11; clear hF11
    refine fld gok rfl rfl rfl rfl ?_
    refine load1 (H.bx 0 rfl (j := 2) rfl) ?_
    obtain ⟨y13, e, hF14⟩ := bindS hF12; clear hF12
    have ey13 := e; clear e
    refine callF (laws_heldIntS_c a__2 a__2h y7 y13 ey13) (Γi := []) H ⟨Vw.sh 2 rfl, trivial⟩ ?_; clear H ey13
    rintro _ _ w15 ⟨rfl, rfl⟩ (H : Cx w0 fp0 S0 w15 [Bx b5 [(.int .i64 a__0), (a__1h).v, (a__2h).v, (a__3h).v], Es (List (Int × Int × List Int × List Int)) a__1 a__1h, Es (List Int) a__2 a__2h, Es (List Int) a__3 a__3h])
    refine sq ?_
    obtain ⟨a16, e, hF17⟩ := bindS hF14; clear hF14
    refine boolO e ?_; clear e
    cases a16
    · have hF18 := condF hF17; clear hF17
      refine fld gok rfl rfl rfl rfl ?_
      refine load1 (H.bx 0 rfl (j := 3) rfl) ?_
      obtain ⟨y19, e, hF20⟩ := bindS hF18; clear hF18
      have ey19 := e; clear e
      refine callF (laws_heldIntS_c a__3 a__3h y13 y19 ey19) (Γi := []) H ⟨Vw.sh 3 rfl, trivial⟩ ?_; clear H ey19
      rintro _ _ w21 ⟨rfl, rfl⟩ (H : Cx w0 fp0 S0 w21 [Bx b5 [(.int .i64 a__0), (a__1h).v, (a__2h).v, (a__3h).v], Es (List (Int × Int × List Int × List Int)) a__1 a__1h, Es (List Int) a__2 a__2h, Es (List Int) a__3 a__3h])
      refine sq ?_
      obtain ⟨a22, e, hF23⟩ := bindS hF20; clear hF20
      refine boolO e ?_; clear e
      cases a22
      · have hF24 := condF hF23; clear hF23
        cases hF24
        exact ⟨_, _, rfl, ⟨rfl, rfl⟩, (H.sel [] rfl).close trivial⟩
      · have hF25 := condT hF23; clear hF23
        cases hF25
        exact ⟨_, _, rfl, ⟨rfl, rfl⟩, (H.sel [] rfl).close trivial⟩
    · have hF26 := condT hF17; clear hF17
      cases hF26
      exact ⟨_, _, rfl, ⟨rfl, rfl⟩, (H.sel [] rfl).close trivial⟩
  · have hF27 := condT hF11; clear hF11
    cases hF27
    exact ⟨_, _, rfl, ⟨rfl, rfl⟩, (H.sel [] rfl).close trivial⟩

theorem laws_FnExactParGraphs_c (aA__0 : Int) (aA__1 : List (Int × Int × List Int × List Int)) (aA__1h : Hd) (aA__2 : List Int) (aA__2h : Hd) (aA__3 : List Int) (aA__3h : Hd) (aB__0 : Int) (aB__1 : List (Int × Int × List Int × List Int)) (aB__1h : Hd) (aB__2 : List Int) (aB__2h : Hd) (aB__3 : List Int) (aB__3h : Hd) (y : Bool) (hF : F_laws_FnExactParGraphs (aA__0, aA__1, aA__2, aA__3) (aB__0, aB__1, aB__2, aB__3) = some y) :
    ConF Try.prog 5 #[(.agg #[(.int .i64 aA__0), (aA__1h).v, (aA__2h).v, (aA__3h).v]), (.agg #[(.int .i64 aB__0), (aB__1h).v, (aB__2h).v, (aB__3h).v])] [Es (List (Int × Int × List Int × List Int)) aA__1 aA__1h, Es (List Int) aA__2 aA__2h, Es (List Int) aA__3 aA__3h, Es (List (Int × Int × List Int × List Int)) aB__1 aB__1h, Es (List Int) aB__2 aB__2h, Es (List Int) aB__3 aB__3h] [] (fun v Γ' => v = (.bool y) ∧ Γ' = []) := by
  intro w0 S0 fp0 hI hS
  have H : Cx w0 fp0 S0 w0 [Es (List (Int × Int × List Int × List Int)) aA__1 aA__1h, Es (List Int) aA__2 aA__2h, Es (List Int) aA__3 aA__3h, Es (List (Int × Int × List Int × List Int)) aB__1 aB__1h, Es (List Int) aB__2 aB__2h, Es (List Int) aB__3 aB__3h] := Cx.start hI hS
  clear hI hS
  refine enterC (args := [_, _]) gok Try.func5 rfl _ rfl rfl rfl ?_
  refine box_ H ?_; clear H; intro b8 w7 hx H
  clear hx
  replace H : Cx w0 fp0 S0 w7 [Bx b8 [(.int .i64 aA__0), (aA__1h).v, (aA__2h).v, (aA__3h).v], Es (List (Int × Int × List Int × List Int)) aA__1 aA__1h, Es (List Int) aA__2 aA__2h, Es (List Int) aA__3 aA__3h, Es (List (Int × Int × List Int × List Int)) aB__1 aB__1h, Es (List Int) aB__2 aB__2h, Es (List Int) aB__3 aB__3h] := H
  refine box_ H ?_; clear H; intro b11 w10 hx H
  clear hx
  replace H : Cx w0 fp0 S0 w10 [Bx b11 [(.int .i64 aB__0), (aB__1h).v, (aB__2h).v, (aB__3h).v], Bx b8 [(.int .i64 aA__0), (aA__1h).v, (aA__2h).v, (aA__3h).v], Es (List (Int × Int × List Int × List Int)) aA__1 aA__1h, Es (List Int) aA__2 aA__2h, Es (List Int) aA__3 aA__3h, Es (List (Int × Int × List Int × List Int)) aB__1 aB__1h, Es (List Int) aB__2 aB__2h, Es (List Int) aB__3 aB__3h] := H
  refine loadN [(.int .i64 aA__0), (aA__1h).v, (aA__2h).v, (aA__3h).v] rfl (fun j u hj => H.bx 1 rfl hj) ?_
  obtain ⟨y13, e, hF14⟩ := bindS hF; clear hF
  have ey13 := e; clear e
  refine callF (laws_szGraph_c aA__0 aA__1 aA__1h aA__2 aA__2h aA__3 aA__3h 1048576 y13 ey13) (Γi := []) H ⟨Vw.sh 2 rfl, Vw.sh 3 rfl, Vw.sh 4 rfl, trivial⟩ ?_; clear H ey13
  rintro _ _ w15 ⟨rfl, rfl⟩ (H : Cx w0 fp0 S0 w15 [Bx b11 [(.int .i64 aB__0), (aB__1h).v, (aB__2h).v, (aB__3h).v], Bx b8 [(.int .i64 aA__0), (aA__1h).v, (aA__2h).v, (aA__3h).v], Es (List (Int × Int × List Int × List Int)) aA__1 aA__1h, Es (List Int) aA__2 aA__2h, Es (List Int) aA__3 aA__3h, Es (List (Int × Int × List Int × List Int)) aB__1 aB__1h, Es (List Int) aB__2 aB__2h, Es (List Int) aB__3 aB__3h])
  refine sq ?_
  obtain ⟨a16, e, hF17⟩ := bindS hF14; clear hF14
  refine boolO e ?_; clear e
  cases a16
  · have hF18 := condF hF17; clear hF17
    refine loadN [(.int .i64 aB__0), (aB__1h).v, (aB__2h).v, (aB__3h).v] rfl (fun j u hj => H.bx 0 rfl hj) ?_
    obtain ⟨y19, e, hF20⟩ := bindS hF18; clear hF18
    have ey19 := e; clear e
    refine callF (laws_szGraph_c aB__0 aB__1 aB__1h aB__2 aB__2h aB__3 aB__3h y13 y19 ey19) (Γi := []) H ⟨Vw.sh 5 rfl, Vw.sh 6 rfl, Vw.sh 7 rfl, trivial⟩ ?_; clear H ey19
    rintro _ _ w21 ⟨rfl, rfl⟩ (H : Cx w0 fp0 S0 w21 [Bx b11 [(.int .i64 aB__0), (aB__1h).v, (aB__2h).v, (aB__3h).v], Bx b8 [(.int .i64 aA__0), (aA__1h).v, (aA__2h).v, (aA__3h).v], Es (List (Int × Int × List Int × List Int)) aA__1 aA__1h, Es (List Int) aA__2 aA__2h, Es (List Int) aA__3 aA__3h, Es (List (Int × Int × List Int × List Int)) aB__1 aB__1h, Es (List Int) aB__2 aB__2h, Es (List Int) aB__3 aB__3h])
    refine sq ?_
    obtain ⟨a22, e, hF23⟩ := bindS hF20; clear hF20
    refine boolO e ?_; clear e
    cases a22
    · have hF24 := condF hF23; clear hF23
      obtain ⟨r201, hF203, hF202⟩ := bindS hF24; clear hF24
      refine heldJ H [9, 10, 7] (.fst 0 (.fst 2 (.alts (.alt 1 (.alts (.alt 3 (.alts (.alt 4 (.fst 5 (.pure 7 (.fst 6 (.act 8 (.act 9 (.act 10 .done)))))) (.alt 8 (.act 4 (.fst 5 (.pure 7 (.fst 6 (.act 9 (.act 10 .done)))))) .no))) (.alt 8 (.act 3 (.act 4 (.fst 5 (.pure 7 (.fst 6 (.act 9 (.act 10 .done))))))) .no))) (.alt 8 (.act 1 (.act 3 (.act 4 (.fst 5 (.pure 7 (.fst 6 (.act 9 (.act 10 .done)))))))) .no))))) mixed [] trivial (by kernel_rfl) (fun (q204 : (Int × (List (Int × Int × List Int × List Int)) × List Int × List Int × Bool) × (Hd × Hd × Hd × Nat)) => [(2, (.pointer (some ⟨b8, 0, none⟩))), (3, (.pointer (some ⟨b11, 0, none⟩))), (6, (.pointer (some ⟨q204.2.2.2.2, 0, none⟩))), (7, (.bool q204.1.2.2.2.2))]) (fun (q204 : (Int × (List (Int × Int × List Int × List Int)) × List Int × List Int × Bool) × (Hd × Hd × Hd × Nat)) w' => (q204.1.1, q204.1.2.1, q204.1.2.2.1, q204.1.2.2.2.1, q204.1.2.2.2.2) = r201 ∧ Cx w0 fp0 S0 w' [Bx b8 [(.int .i64 aA__0), (aA__1h).v, (aA__2h).v, (aA__3h).v], Es (List (Int × Int × List Int × List Int)) aA__1 aA__1h, Es (List Int) aA__2 aA__2h, Es (List Int) aA__3 aA__3h, Bx b11 [(.int .i64 aB__0), (aB__1h).v, (aB__2h).v, (aB__3h).v], Es (List (Int × Int × List Int × List Int)) aB__1 aB__1h, Es (List Int) aB__2 aB__2h, Es (List Int) aB__3 aB__3h, Bx q204.2.2.2.2 [(.int .i64 q204.1.1), (q204.2.1).v, (q204.2.2.1).v, (q204.2.2.2.1).v], Es (List (Int × Int × List Int × List Int)) q204.1.2.1 q204.2.1, Es (List Int) q204.1.2.2.1 q204.2.2.1, Es (List Int) q204.1.2.2.2.1 q204.2.2.2.1]) ?_ ?_
      · skip
        clear H; intro w205 H
        have hX : Ext w205 w205 := Upd.refl _ _
        have H0 := H
        refine loadNX [(.int .i64 aA__0), (aA__1h).v, (aA__2h).v, (aA__3h).v] rfl (fun j u hj => H.bx 1 rfl hj) ?_
        refine loadNX [(.int .i64 aB__0), (aB__1h).v, (aB__2h).v, (aB__3h).v] rfl (fun j u hj => H.bx 0 rfl hj) ?_
        refine both ?_ ?_
        · skip
          obtain ⟨y237, e, hF238⟩ := bindS hF203; clear hF203
          obtain ⟨y237_0, y237_1, y237_2, y237_3⟩ := y237
          have ey237 := e; clear e
          refine callFx (laws_toGraph_c aA__0 aA__1 aA__1h aA__2 aA__2h aA__3 aA__3h y237_0 y237_1 y237_2 y237_3 ey237) H ⟨Vw.sh 2 rfl, Vw.sh 3 rfl, Vw.sh 4 rfl, trivial⟩ ?_; clear H ey237
          rintro _ _ w239 ⟨h240, h242, h244, rfl, rfl⟩ hx (H : Cx w0 fp0 S0 w239 [E (List (Int × Int × List Int × List Int)) y237_1 h240, E (List Int) y237_2 h242, E (List Int) y237_3 h244, Bx b11 [(.int .i64 aB__0), (aB__1h).v, (aB__2h).v, (aB__3h).v], Bx b8 [(.int .i64 aA__0), (aA__1h).v, (aA__2h).v, (aA__3h).v], Es (List (Int × Int × List Int × List Int)) aA__1 aA__1h, Es (List Int) aA__2 aA__2h, Es (List Int) aA__3 aA__3h, Es (List (Int × Int × List Int × List Int)) aB__1 aB__1h, Es (List Int) aB__2 aB__2h, Es (List Int) aB__3 aB__3h])
          replace hX := hX.trans0 hx; clear hx
          refine hold hX ?_
          refine both ?_ ?_
          · skip
            obtain ⟨y268, e, hF269⟩ := bindS hF238; clear hF238
            obtain ⟨y268_0, y268_1, y268_2, y268_3⟩ := y268
            have ey268 := e; clear e
            refine callFx (laws_toGraph_c aB__0 aB__1 aB__1h aB__2 aB__2h aB__3 aB__3h y268_0 y268_1 y268_2 y268_3 ey268) H ⟨Vw.sh 8 rfl, Vw.sh 9 rfl, Vw.sh 10 rfl, trivial⟩ ?_; clear H ey268
            rintro _ _ w270 ⟨h271, h273, h275, rfl, rfl⟩ hx (H : Cx w0 fp0 S0 w270 [E (List (Int × Int × List Int × List Int)) y268_1 h271, E (List Int) y268_2 h273, E (List Int) y268_3 h275, E (List (Int × Int × List Int × List Int)) y237_1 h240, E (List Int) y237_2 h242, E (List Int) y237_3 h244, Bx b11 [(.int .i64 aB__0), (aB__1h).v, (aB__2h).v, (aB__3h).v], Bx b8 [(.int .i64 aA__0), (aA__1h).v, (aA__2h).v, (aA__3h).v], Es (List (Int × Int × List Int × List Int)) aA__1 aA__1h, Es (List Int) aA__2 aA__2h, Es (List Int) aA__3 aA__3h, Es (List (Int × Int × List Int × List Int)) aB__1 aB__1h, Es (List Int) aB__2 aB__2h, Es (List Int) aB__3 aB__3h])
            replace hX := hX.trans0 hx; clear hx
            refine hold hX ?_
            refine both ?_ ?_
            · skip
              obtain ⟨y290, e, hF291⟩ := bindS hF269; clear hF269
              obtain ⟨⟨y290_0_0, y290_0_1, y290_0_2, y290_0_3⟩, y290_1⟩ := y290
              have ey290 := e; clear e
              replace H := H.sel [3, 0, 1, 2, 4, 5, 6, 7, 8, 9, 10, 11, 12, 13] rfl
              replace H := H.frz
              replace H := H.sel [4, 0, 1, 2, 3, 5, 6, 7, 8, 9, 10, 11, 12, 13] rfl
              replace H := H.frz
              replace H := H.sel [5, 0, 1, 2, 3, 4, 6, 7, 8, 9, 10, 11, 12, 13] rfl
              replace H := H.frz
              replace H := H.sel [3, 0, 1, 2, 4, 5, 6, 7, 8, 9, 10, 11, 12, 13] rfl
              replace H := H.frz
              replace H := H.sel [4, 0, 1, 2, 3, 5, 6, 7, 8, 9, 10, 11, 12, 13] rfl
              replace H := H.frz
              replace H := H.sel [5, 0, 1, 2, 3, 4, 6, 7, 8, 9, 10, 11, 12, 13] rfl
              replace H := H.frz
              refine callSx (spec_ParGraphs_c y237_0 y237_1 h240 y237_2 h242 y237_3 h244 y268_0 y268_1 h271 y268_2 h273 y268_3 h275 y290_0_0 y290_0_1 y290_0_2 y290_0_3 y290_1 ey290) H [5, 4, 3, 2, 1, 0] rfl (persC persS (persC persS (persC persS (persC persS (persC persS (persC persS persN)))))) ?_; clear H ey290
              rintro _ _ w292 ⟨h293, h295, h297, rfl, rfl⟩ hx (H : Cx w0 fp0 S0 w292 [Es (List (Int × Int × List Int × List Int)) y290_0_1 h293, Es (List Int) y290_0_2 h295, Es (List Int) y290_0_3 h297, Es (List Int) y268_3 h275, Es (List Int) y268_2 h273, Es (List (Int × Int × List Int × List Int)) y268_1 h271, Es (List Int) y237_3 h244, Es (List Int) y237_2 h242, Es (List (Int × Int × List Int × List Int)) y237_1 h240, Bx b11 [(.int .i64 aB__0), (aB__1h).v, (aB__2h).v, (aB__3h).v], Bx b8 [(.int .i64 aA__0), (aA__1h).v, (aA__2h).v, (aA__3h).v], Es (List (Int × Int × List Int × List Int)) aA__1 aA__1h, Es (List Int) aA__2 aA__2h, Es (List Int) aA__3 aA__3h, Es (List (Int × Int × List Int × List Int)) aB__1 aB__1h, Es (List Int) aB__2 aB__2h, Es (List Int) aB__3 aB__3h])
              replace hX := hX.trans0 hx; clear hx
              refine hold hX ?_
              refine alloc_ gok rfl H ?_; clear H; intro b300 w299 hx H
              replace hX := hX.trans0 hx; clear hx
              replace H : Cx w0 fp0 S0 w299 [Bx b300 [(.int .i64 0), (.slice none 0 0), (.slice none 0 0), (.slice none 0 0)], Es (List (Int × Int × List Int × List Int)) y290_0_1 h293, Es (List Int) y290_0_2 h295, Es (List Int) y290_0_3 h297, Es (List Int) y268_3 h275, Es (List Int) y268_2 h273, Es (List (Int × Int × List Int × List Int)) y268_1 h271, Es (List Int) y237_3 h244, Es (List Int) y237_2 h242, Es (List (Int × Int × List Int × List Int)) y237_1 h240, Bx b11 [(.int .i64 aB__0), (aB__1h).v, (aB__2h).v, (aB__3h).v], Bx b8 [(.int .i64 aA__0), (aA__1h).v, (aA__2h).v, (aA__3h).v], Es (List (Int × Int × List Int × List Int)) aA__1 aA__1h, Es (List Int) aA__2 aA__2h, Es (List Int) aA__3 aA__3h, Es (List (Int × Int × List Int × List Int)) aB__1 aB__1h, Es (List Int) aB__2 aB__2h, Es (List Int) aB__3 aB__3h] := H
              refine hold hX ?_
              refine stA gok [(.int .i64 y290_0_0), (h293).v, (h295).v, (h297).v] rfl H rfl rfl rfl ?_; clear H; intro w302 H
              replace H : Cx w0 fp0 S0 w302 [Bx b300 [(.int .i64 y290_0_0), (h293).v, (h295).v, (h297).v], Es (List (Int × Int × List Int × List Int)) y290_0_1 h293, Es (List Int) y290_0_2 h295, Es (List Int) y290_0_3 h297, Es (List Int) y268_3 h275, Es (List Int) y268_2 h273, Es (List (Int × Int × List Int × List Int)) y268_1 h271, Es (List Int) y237_3 h244, Es (List Int) y237_2 h242, Es (List (Int × Int × List Int × List Int)) y237_1 h240, Bx b11 [(.int .i64 aB__0), (aB__1h).v, (aB__2h).v, (aB__3h).v], Bx b8 [(.int .i64 aA__0), (aA__1h).v, (aA__2h).v, (aA__3h).v], Es (List (Int × Int × List Int × List Int)) aA__1 aA__1h, Es (List Int) aA__2 aA__2h, Es (List Int) aA__3 aA__3h, Es (List (Int × Int × List Int × List Int)) aB__1 aB__1h, Es (List Int) aB__2 aB__2h, Es (List Int) aB__3 aB__3h] := H
              refine hold trivial ?_
              refine hold trivial ?_
              exact ⟨((y290_0_0, y290_0_1, y290_0_2, y290_0_3, y290_1), (h293, h295, h297, b300)), ⟨rfl, rfl, rfl, rfl, trivial⟩, Option.some.inj hF291, H.sel [11, 12, 13, 14, 10, 15, 16, 17, 0, 1, 2, 3] rfl⟩
            · skip
              refine both ?_ ?_
              · skip
                obtain ⟨a303, eq304, hF305⟩ := bindS hF269; clear hF269
                refine alloc_ gok rfl H ?_; clear H; intro b307 w306 hx H
                replace hX := hX.trans0 hx; clear hx
                replace H : Cx w0 fp0 S0 w306 [Bx b307 [(.int .i64 0), (.slice none 0 0), (.slice none 0 0), (.slice none 0 0)], E (List (Int × Int × List Int × List Int)) y268_1 h271, E (List Int) y268_2 h273, E (List Int) y268_3 h275, E (List (Int × Int × List Int × List Int)) y237_1 h240, E (List Int) y237_2 h242, E (List Int) y237_3 h244, Bx b11 [(.int .i64 aB__0), (aB__1h).v, (aB__2h).v, (aB__3h).v], Bx b8 [(.int .i64 aA__0), (aA__1h).v, (aA__2h).v, (aA__3h).v], Es (List (Int × Int × List Int × List Int)) aA__1 aA__1h, Es (List Int) aA__2 aA__2h, Es (List Int) aA__3 aA__3h, Es (List (Int × Int × List Int × List Int)) aB__1 aB__1h, Es (List Int) aB__2 aB__2h, Es (List Int) aB__3 aB__3h] := H
                refine hold hX ?_
                have e := eq304; clear eq304
                obtain ⟨⟨a303_0_0, a303_0_1, a303_0_2, a303_0_3⟩, a303_1⟩ := a303
                have ea303 := e; clear e
                replace H := H.sel [4, 0, 1, 2, 3, 5, 6, 7, 8, 9, 10, 11, 12, 13, 14] rfl
                replace H := H.frz
                replace H := H.sel [5, 0, 1, 2, 3, 4, 6, 7, 8, 9, 10, 11, 12, 13, 14] rfl
                replace H := H.frz
                replace H := H.sel [6, 0, 1, 2, 3, 4, 5, 7, 8, 9, 10, 11, 12, 13, 14] rfl
                replace H := H.frz
                replace H := H.sel [4, 0, 1, 2, 3, 5, 6, 7, 8, 9, 10, 11, 12, 13, 14] rfl
                replace H := H.frz
                replace H := H.sel [5, 0, 1, 2, 3, 4, 6, 7, 8, 9, 10, 11, 12, 13, 14] rfl
                replace H := H.frz
                replace H := H.sel [6, 0, 1, 2, 3, 4, 5, 7, 8, 9, 10, 11, 12, 13, 14] rfl
                replace H := H.frz
                refine callSx (spec_ParGraphs_c y237_0 y237_1 h240 y237_2 h242 y237_3 h244 y268_0 y268_1 h271 y268_2 h273 y268_3 h275 a303_0_0 a303_0_1 a303_0_2 a303_0_3 a303_1 ea303) H [5, 4, 3, 2, 1, 0] rfl (persC persS (persC persS (persC persS (persC persS (persC persS (persC persS persN)))))) ?_; clear H ea303
                rintro _ _ w309 ⟨h310, h312, h314, rfl, rfl⟩ hx (H : Cx w0 fp0 S0 w309 [Es (List (Int × Int × List Int × List Int)) a303_0_1 h310, Es (List Int) a303_0_2 h312, Es (List Int) a303_0_3 h314, Es (List Int) y268_3 h275, Es (List Int) y268_2 h273, Es (List (Int × Int × List Int × List Int)) y268_1 h271, Es (List Int) y237_3 h244, Es (List Int) y237_2 h242, Es (List (Int × Int × List Int × List Int)) y237_1 h240, Bx b307 [(.int .i64 0), (.slice none 0 0), (.slice none 0 0), (.slice none 0 0)], Bx b11 [(.int .i64 aB__0), (aB__1h).v, (aB__2h).v, (aB__3h).v], Bx b8 [(.int .i64 aA__0), (aA__1h).v, (aA__2h).v, (aA__3h).v], Es (List (Int × Int × List Int × List Int)) aA__1 aA__1h, Es (List Int) aA__2 aA__2h, Es (List Int) aA__3 aA__3h, Es (List (Int × Int × List Int × List Int)) aB__1 aB__1h, Es (List Int) aB__2 aB__2h, Es (List Int) aB__3 aB__3h])
                replace hX := hX.trans0 hx; clear hx
                refine hold hX ?_
                replace H := H.sel [9, 0, 1, 2, 3, 4, 5, 6, 7, 8, 10, 11, 12, 13, 14, 15, 16, 17] rfl
                refine stA gok [(.int .i64 a303_0_0), (h310).v, (h312).v, (h314).v] rfl H rfl rfl rfl ?_; clear H; intro w316 H
                replace H : Cx w0 fp0 S0 w316 [Bx b307 [(.int .i64 a303_0_0), (h310).v, (h312).v, (h314).v], Es (List (Int × Int × List Int × List Int)) a303_0_1 h310, Es (List Int) a303_0_2 h312, Es (List Int) a303_0_3 h314, Es (List Int) y268_3 h275, Es (List Int) y268_2 h273, Es (List (Int × Int × List Int × List Int)) y268_1 h271, Es (List Int) y237_3 h244, Es (List Int) y237_2 h242, Es (List (Int × Int × List Int × List Int)) y237_1 h240, Bx b11 [(.int .i64 aB__0), (aB__1h).v, (aB__2h).v, (aB__3h).v], Bx b8 [(.int .i64 aA__0), (aA__1h).v, (aA__2h).v, (aA__3h).v], Es (List (Int × Int × List Int × List Int)) aA__1 aA__1h, Es (List Int) aA__2 aA__2h, Es (List Int) aA__3 aA__3h, Es (List (Int × Int × List Int × List Int)) aB__1 aB__1h, Es (List Int) aB__2 aB__2h, Es (List Int) aB__3 aB__3h] := H
                refine hold trivial ?_
                refine hold trivial ?_
                exact ⟨((a303_0_0, a303_0_1, a303_0_2, a303_0_3, a303_1), (h310, h312, h314, b307)), ⟨rfl, rfl, rfl, rfl, trivial⟩, Option.some.inj hF305, H.sel [11, 12, 13, 14, 10, 15, 16, 17, 0, 1, 2, 3] rfl⟩
              · skip
                exact trivial
          · skip
            refine both ?_ ?_
            · skip
              obtain ⟨a317, eq318, hF319⟩ := bindS hF238; clear hF238
              obtain ⟨a320, eq321, hF322⟩ := bindS hF319; clear hF319
              refine alloc_ gok rfl H ?_; clear H; intro b324 w323 hx H
              replace hX := hX.trans0 hx; clear hx
              replace H : Cx w0 fp0 S0 w323 [Bx b324 [(.int .i64 0), (.slice none 0 0), (.slice none 0 0), (.slice none 0 0)], E (List (Int × Int × List Int × List Int)) y237_1 h240, E (List Int) y237_2 h242, E (List Int) y237_3 h244, Bx b11 [(.int .i64 aB__0), (aB__1h).v, (aB__2h).v, (aB__3h).v], Bx b8 [(.int .i64 aA__0), (aA__1h).v, (aA__2h).v, (aA__3h).v], Es (List (Int × Int × List Int × List Int)) aA__1 aA__1h, Es (List Int) aA__2 aA__2h, Es (List Int) aA__3 aA__3h, Es (List (Int × Int × List Int × List Int)) aB__1 aB__1h, Es (List Int) aB__2 aB__2h, Es (List Int) aB__3 aB__3h] := H
              refine hold hX ?_
              have e := eq318; clear eq318
              obtain ⟨a317_0, a317_1, a317_2, a317_3⟩ := a317
              have ea317 := e; clear e
              refine callFx (laws_toGraph_c aB__0 aB__1 aB__1h aB__2 aB__2h aB__3 aB__3h a317_0 a317_1 a317_2 a317_3 ea317) H ⟨Vw.sh 9 rfl, Vw.sh 10 rfl, Vw.sh 11 rfl, trivial⟩ ?_; clear H ea317
              rintro _ _ w326 ⟨h327, h329, h331, rfl, rfl⟩ hx (H : Cx w0 fp0 S0 w326 [E (List (Int × Int × List Int × List Int)) a317_1 h327, E (List Int) a317_2 h329, E (List Int) a317_3 h331, Bx b324 [(.int .i64 0), (.slice none 0 0), (.slice none 0 0), (.slice none 0 0)], E (List (Int × Int × List Int × List Int)) y237_1 h240, E (List Int) y237_2 h242, E (List Int) y237_3 h244, Bx b11 [(.int .i64 aB__0), (aB__1h).v, (aB__2h).v, (aB__3h).v], Bx b8 [(.int .i64 aA__0), (aA__1h).v, (aA__2h).v, (aA__3h).v], Es (List (Int × Int × List Int × List Int)) aA__1 aA__1h, Es (List Int) aA__2 aA__2h, Es (List Int) aA__3 aA__3h, Es (List (Int × Int × List Int × List Int)) aB__1 aB__1h, Es (List Int) aB__2 aB__2h, Es (List Int) aB__3 aB__3h])
              replace hX := hX.trans0 hx; clear hx
              refine hold hX ?_
              have e := eq321; clear eq321
              obtain ⟨⟨a320_0_0, a320_0_1, a320_0_2, a320_0_3⟩, a320_1⟩ := a320
              have ea320 := e; clear e
              replace H := H.sel [4, 0, 1, 2, 3, 5, 6, 7, 8, 9, 10, 11, 12, 13, 14] rfl
              replace H := H.frz
              replace H := H.sel [5, 0, 1, 2, 3, 4, 6, 7, 8, 9, 10, 11, 12, 13, 14] rfl
              replace H := H.frz
              replace H := H.sel [6, 0, 1, 2, 3, 4, 5, 7, 8, 9, 10, 11, 12, 13, 14] rfl
              replace H := H.frz
              replace H := H.sel [3, 0, 1, 2, 4, 5, 6, 7, 8, 9, 10, 11, 12, 13, 14] rfl
              replace H := H.frz
              replace H := H.sel [4, 0, 1, 2, 3, 5, 6, 7, 8, 9, 10, 11, 12, 13, 14] rfl
              replace H := H.frz
              replace H := H.sel [5, 0, 1, 2, 3, 4, 6, 7, 8, 9, 10, 11, 12, 13, 14] rfl
              replace H := H.frz
              refine callSx (spec_ParGraphs_c y237_0 y237_1 h240 y237_2 h242 y237_3 h244 a317_0 a317_1 h327 a317_2 h329 a317_3 h331 a320_0_0 a320_0_1 a320_0_2 a320_0_3 a320_1 ea320) H [5, 4, 3, 2, 1, 0] rfl (persC persS (persC persS (persC persS (persC persS (persC persS (persC persS persN)))))) ?_; clear H ea320
              rintro _ _ w333 ⟨h334, h336, h338, rfl, rfl⟩ hx (H : Cx w0 fp0 S0 w333 [Es (List (Int × Int × List Int × List Int)) a320_0_1 h334, Es (List Int) a320_0_2 h336, Es (List Int) a320_0_3 h338, Es (List Int) a317_3 h331, Es (List Int) a317_2 h329, Es (List (Int × Int × List Int × List Int)) a317_1 h327, Es (List Int) y237_3 h244, Es (List Int) y237_2 h242, Es (List (Int × Int × List Int × List Int)) y237_1 h240, Bx b324 [(.int .i64 0), (.slice none 0 0), (.slice none 0 0), (.slice none 0 0)], Bx b11 [(.int .i64 aB__0), (aB__1h).v, (aB__2h).v, (aB__3h).v], Bx b8 [(.int .i64 aA__0), (aA__1h).v, (aA__2h).v, (aA__3h).v], Es (List (Int × Int × List Int × List Int)) aA__1 aA__1h, Es (List Int) aA__2 aA__2h, Es (List Int) aA__3 aA__3h, Es (List (Int × Int × List Int × List Int)) aB__1 aB__1h, Es (List Int) aB__2 aB__2h, Es (List Int) aB__3 aB__3h])
              replace hX := hX.trans0 hx; clear hx
              refine hold hX ?_
              replace H := H.sel [9, 0, 1, 2, 3, 4, 5, 6, 7, 8, 10, 11, 12, 13, 14, 15, 16, 17] rfl
              refine stA gok [(.int .i64 a320_0_0), (h334).v, (h336).v, (h338).v] rfl H rfl rfl rfl ?_; clear H; intro w340 H
              replace H : Cx w0 fp0 S0 w340 [Bx b324 [(.int .i64 a320_0_0), (h334).v, (h336).v, (h338).v], Es (List (Int × Int × List Int × List Int)) a320_0_1 h334, Es (List Int) a320_0_2 h336, Es (List Int) a320_0_3 h338, Es (List Int) a317_3 h331, Es (List Int) a317_2 h329, Es (List (Int × Int × List Int × List Int)) a317_1 h327, Es (List Int) y237_3 h244, Es (List Int) y237_2 h242, Es (List (Int × Int × List Int × List Int)) y237_1 h240, Bx b11 [(.int .i64 aB__0), (aB__1h).v, (aB__2h).v, (aB__3h).v], Bx b8 [(.int .i64 aA__0), (aA__1h).v, (aA__2h).v, (aA__3h).v], Es (List (Int × Int × List Int × List Int)) aA__1 aA__1h, Es (List Int) aA__2 aA__2h, Es (List Int) aA__3 aA__3h, Es (List (Int × Int × List Int × List Int)) aB__1 aB__1h, Es (List Int) aB__2 aB__2h, Es (List Int) aB__3 aB__3h] := H
              refine hold trivial ?_
              refine hold trivial ?_
              exact ⟨((a320_0_0, a320_0_1, a320_0_2, a320_0_3, a320_1), (h334, h336, h338, b324)), ⟨rfl, rfl, rfl, rfl, trivial⟩, Option.some.inj hF322, H.sel [11, 12, 13, 14, 10, 15, 16, 17, 0, 1, 2, 3] rfl⟩
            · skip
              exact trivial
        · skip
          refine both ?_ ?_
          · skip
            obtain ⟨a341, eq342, hF343⟩ := bindS hF203; clear hF203
            obtain ⟨a344, eq345, hF346⟩ := bindS hF343; clear hF343
            obtain ⟨a347, eq348, hF349⟩ := bindS hF346; clear hF346
            refine alloc_ gok rfl H ?_; clear H; intro b351 w350 hx H
            replace hX := hX.trans0 hx; clear hx
            replace H : Cx w0 fp0 S0 w350 [Bx b351 [(.int .i64 0), (.slice none 0 0), (.slice none 0 0), (.slice none 0 0)], Bx b11 [(.int .i64 aB__0), (aB__1h).v, (aB__2h).v, (aB__3h).v], Bx b8 [(.int .i64 aA__0), (aA__1h).v, (aA__2h).v, (aA__3h).v], Es (List (Int × Int × List Int × List Int)) aA__1 aA__1h, Es (List Int) aA__2 aA__2h, Es (List Int) aA__3 aA__3h, Es (List (Int × Int × List Int × List Int)) aB__1 aB__1h, Es (List Int) aB__2 aB__2h, Es (List Int) aB__3 aB__3h] := H
            refine hold hX ?_
            have e := eq342; clear eq342
            obtain ⟨a341_0, a341_1, a341_2, a341_3⟩ := a341
            have ea341 := e; clear e
            refine callFx (laws_toGraph_c aA__0 aA__1 aA__1h aA__2 aA__2h aA__3 aA__3h a341_0 a341_1 a341_2 a341_3 ea341) H ⟨Vw.sh 3 rfl, Vw.sh 4 rfl, Vw.sh 5 rfl, trivial⟩ ?_; clear H ea341
            rintro _ _ w353 ⟨h354, h356, h358, rfl, rfl⟩ hx (H : Cx w0 fp0 S0 w353 [E (List (Int × Int × List Int × List Int)) a341_1 h354, E (List Int) a341_2 h356, E (List Int) a341_3 h358, Bx b351 [(.int .i64 0), (.slice none 0 0), (.slice none 0 0), (.slice none 0 0)], Bx b11 [(.int .i64 aB__0), (aB__1h).v, (aB__2h).v, (aB__3h).v], Bx b8 [(.int .i64 aA__0), (aA__1h).v, (aA__2h).v, (aA__3h).v], Es (List (Int × Int × List Int × List Int)) aA__1 aA__1h, Es (List Int) aA__2 aA__2h, Es (List Int) aA__3 aA__3h, Es (List (Int × Int × List Int × List Int)) aB__1 aB__1h, Es (List Int) aB__2 aB__2h, Es (List Int) aB__3 aB__3h])
            replace hX := hX.trans0 hx; clear hx
            refine hold hX ?_
            have e := eq345; clear eq345
            obtain ⟨a344_0, a344_1, a344_2, a344_3⟩ := a344
            have ea344 := e; clear e
            refine callFx (laws_toGraph_c aB__0 aB__1 aB__1h aB__2 aB__2h aB__3 aB__3h a344_0 a344_1 a344_2 a344_3 ea344) H ⟨Vw.sh 9 rfl, Vw.sh 10 rfl, Vw.sh 11 rfl, trivial⟩ ?_; clear H ea344
            rintro _ _ w360 ⟨h361, h363, h365, rfl, rfl⟩ hx (H : Cx w0 fp0 S0 w360 [E (List (Int × Int × List Int × List Int)) a344_1 h361, E (List Int) a344_2 h363, E (List Int) a344_3 h365, E (List (Int × Int × List Int × List Int)) a341_1 h354, E (List Int) a341_2 h356, E (List Int) a341_3 h358, Bx b351 [(.int .i64 0), (.slice none 0 0), (.slice none 0 0), (.slice none 0 0)], Bx b11 [(.int .i64 aB__0), (aB__1h).v, (aB__2h).v, (aB__3h).v], Bx b8 [(.int .i64 aA__0), (aA__1h).v, (aA__2h).v, (aA__3h).v], Es (List (Int × Int × List Int × List Int)) aA__1 aA__1h, Es (List Int) aA__2 aA__2h, Es (List Int) aA__3 aA__3h, Es (List (Int × Int × List Int × List Int)) aB__1 aB__1h, Es (List Int) aB__2 aB__2h, Es (List Int) aB__3 aB__3h])
            replace hX := hX.trans0 hx; clear hx
            refine hold hX ?_
            have e := eq348; clear eq348
            obtain ⟨⟨a347_0_0, a347_0_1, a347_0_2, a347_0_3⟩, a347_1⟩ := a347
            have ea347 := e; clear e
            replace H := H.sel [3, 0, 1, 2, 4, 5, 6, 7, 8, 9, 10, 11, 12, 13, 14] rfl
            replace H := H.frz
            replace H := H.sel [4, 0, 1, 2, 3, 5, 6, 7, 8, 9, 10, 11, 12, 13, 14] rfl
            replace H := H.frz
            replace H := H.sel [5, 0, 1, 2, 3, 4, 6, 7, 8, 9, 10, 11, 12, 13, 14] rfl
            replace H := H.frz
            replace H := H.sel [3, 0, 1, 2, 4, 5, 6, 7, 8, 9, 10, 11, 12, 13, 14] rfl
            replace H := H.frz
            replace H := H.sel [4, 0, 1, 2, 3, 5, 6, 7, 8, 9, 10, 11, 12, 13, 14] rfl
            replace H := H.frz
            replace H := H.sel [5, 0, 1, 2, 3, 4, 6, 7, 8, 9, 10, 11, 12, 13, 14] rfl
            replace H := H.frz
            refine callSx (spec_ParGraphs_c a341_0 a341_1 h354 a341_2 h356 a341_3 h358 a344_0 a344_1 h361 a344_2 h363 a344_3 h365 a347_0_0 a347_0_1 a347_0_2 a347_0_3 a347_1 ea347) H [5, 4, 3, 2, 1, 0] rfl (persC persS (persC persS (persC persS (persC persS (persC persS (persC persS persN)))))) ?_; clear H ea347
            rintro _ _ w367 ⟨h368, h370, h372, rfl, rfl⟩ hx (H : Cx w0 fp0 S0 w367 [Es (List (Int × Int × List Int × List Int)) a347_0_1 h368, Es (List Int) a347_0_2 h370, Es (List Int) a347_0_3 h372, Es (List Int) a344_3 h365, Es (List Int) a344_2 h363, Es (List (Int × Int × List Int × List Int)) a344_1 h361, Es (List Int) a341_3 h358, Es (List Int) a341_2 h356, Es (List (Int × Int × List Int × List Int)) a341_1 h354, Bx b351 [(.int .i64 0), (.slice none 0 0), (.slice none 0 0), (.slice none 0 0)], Bx b11 [(.int .i64 aB__0), (aB__1h).v, (aB__2h).v, (aB__3h).v], Bx b8 [(.int .i64 aA__0), (aA__1h).v, (aA__2h).v, (aA__3h).v], Es (List (Int × Int × List Int × List Int)) aA__1 aA__1h, Es (List Int) aA__2 aA__2h, Es (List Int) aA__3 aA__3h, Es (List (Int × Int × List Int × List Int)) aB__1 aB__1h, Es (List Int) aB__2 aB__2h, Es (List Int) aB__3 aB__3h])
            replace hX := hX.trans0 hx; clear hx
            refine hold hX ?_
            replace H := H.sel [9, 0, 1, 2, 3, 4, 5, 6, 7, 8, 10, 11, 12, 13, 14, 15, 16, 17] rfl
            refine stA gok [(.int .i64 a347_0_0), (h368).v, (h370).v, (h372).v] rfl H rfl rfl rfl ?_; clear H; intro w374 H
            replace H : Cx w0 fp0 S0 w374 [Bx b351 [(.int .i64 a347_0_0), (h368).v, (h370).v, (h372).v], Es (List (Int × Int × List Int × List Int)) a347_0_1 h368, Es (List Int) a347_0_2 h370, Es (List Int) a347_0_3 h372, Es (List Int) a344_3 h365, Es (List Int) a344_2 h363, Es (List (Int × Int × List Int × List Int)) a344_1 h361, Es (List Int) a341_3 h358, Es (List Int) a341_2 h356, Es (List (Int × Int × List Int × List Int)) a341_1 h354, Bx b11 [(.int .i64 aB__0), (aB__1h).v, (aB__2h).v, (aB__3h).v], Bx b8 [(.int .i64 aA__0), (aA__1h).v, (aA__2h).v, (aA__3h).v], Es (List (Int × Int × List Int × List Int)) aA__1 aA__1h, Es (List Int) aA__2 aA__2h, Es (List Int) aA__3 aA__3h, Es (List (Int × Int × List Int × List Int)) aB__1 aB__1h, Es (List Int) aB__2 aB__2h, Es (List Int) aB__3 aB__3h] := H
            refine hold trivial ?_
            refine hold trivial ?_
            exact ⟨((a347_0_0, a347_0_1, a347_0_2, a347_0_3, a347_1), (h368, h370, h372, b351)), ⟨rfl, rfl, rfl, rfl, trivial⟩, Option.some.inj hF349, H.sel [11, 12, 13, 14, 10, 15, 16, 17, 0, 1, 2, 3] rfl⟩
          · skip
            exact trivial
      · clear hF203 H
        rintro T376 ⟨⟨s195_0, s195_1, s195_2, s195_3, s195_4⟩, ⟨g196_0, g196_1, g196_2, g196_3⟩⟩ w375 ⟨hr, (H : Cx w0 fp0 S0 w375 [Bx b8 [(.int .i64 aA__0), (aA__1h).v, (aA__2h).v, (aA__3h).v], Es (List (Int × Int × List Int × List Int)) aA__1 aA__1h, Es (List Int) aA__2 aA__2h, Es (List Int) aA__3 aA__3h, Bx b11 [(.int .i64 aB__0), (aB__1h).v, (aB__2h).v, (aB__3h).v], Es (List (Int × Int × List Int × List Int)) aB__1 aB__1h, Es (List Int) aB__2 aB__2h, Es (List Int) aB__3 aB__3h, Bx g196_3 [(.int .i64 s195_0), (g196_0).v, (g196_1).v, (g196_2).v], Es (List (Int × Int × List Int × List Int)) s195_1 g196_0, Es (List Int) s195_2 g196_1, Es (List Int) s195_3 g196_2])⟩
        subst hr
        refine loadN [(.int .i64 aA__0), (aA__1h).v, (aA__2h).v, (aA__3h).v] rfl (fun j u hj => H.bx 0 rfl hj) ?_
        obtain ⟨y377, e, hF378⟩ := bindS hF202; clear hF202
        obtain ⟨y377_0, y377_1, y377_2, y377_3⟩ := y377
        have ey377 := e; clear e
        refine callF (laws_toGraph_c aA__0 aA__1 aA__1h aA__2 aA__2h aA__3 aA__3h y377_0 y377_1 y377_2 y377_3 ey377) (Γi := []) H ⟨Vw.sh 1 rfl, Vw.sh 2 rfl, Vw.sh 3 rfl, trivial⟩ ?_; clear H ey377
        rintro _ _ w379 ⟨h380, h382, h384, rfl, rfl⟩ (H : Cx w0 fp0 S0 w379 [E (List (Int × Int × List Int × List Int)) y377_1 h380, E (List Int) y377_2 h382, E (List Int) y377_3 h384, Bx b8 [(.int .i64 aA__0), (aA__1h).v, (aA__2h).v, (aA__3h).v], Es (List (Int × Int × List Int × List Int)) aA__1 aA__1h, Es (List Int) aA__2 aA__2h, Es (List Int) aA__3 aA__3h, Bx b11 [(.int .i64 aB__0), (aB__1h).v, (aB__2h).v, (aB__3h).v], Es (List (Int × Int × List Int × List Int)) aB__1 aB__1h, Es (List Int) aB__2 aB__2h, Es (List Int) aB__3 aB__3h, Bx g196_3 [(.int .i64 s195_0), (g196_0).v, (g196_1).v, (g196_2).v], Es (List (Int × Int × List Int × List Int)) s195_1 g196_0, Es (List Int) s195_2 g196_1, Es (List Int) s195_3 g196_2])
        refine alloc_ gok rfl H ?_; clear H; intro b387 w386 hx H
        clear hx
        replace H : Cx w0 fp0 S0 w386 [Bx b387 [(.int .i64 0), (.slice none 0 0), (.slice none 0 0), (.slice none 0 0)], E (List (Int × Int × List Int × List Int)) y377_1 h380, E (List Int) y377_2 h382, E (List Int) y377_3 h384, Bx b8 [(.int .i64 aA__0), (aA__1h).v, (aA__2h).v, (aA__3h).v], Es (List (Int × Int × List Int × List Int)) aA__1 aA__1h, Es (List Int) aA__2 aA__2h, Es (List Int) aA__3 aA__3h, Bx b11 [(.int .i64 aB__0), (aB__1h).v, (aB__2h).v, (aB__3h).v], Es (List (Int × Int × List Int × List Int)) aB__1 aB__1h, Es (List Int) aB__2 aB__2h, Es (List Int) aB__3 aB__3h, Bx g196_3 [(.int .i64 s195_0), (g196_0).v, (g196_1).v, (g196_2).v], Es (List (Int × Int × List Int × List Int)) s195_1 g196_0, Es (List Int) s195_2 g196_1, Es (List Int) s195_3 g196_2] := H
        refine stA gok [(.int .i64 y377_0), (h380).v, (h382).v, (h384).v] rfl H rfl rfl rfl ?_; clear H; intro w389 H
        replace H : Cx w0 fp0 S0 w389 [Bx b387 [(.int .i64 y377_0), (h380).v, (h382).v, (h384).v], E (List (Int × Int × List Int × List Int)) y377_1 h380, E (List Int) y377_2 h382, E (List Int) y377_3 h384, Bx b8 [(.int .i64 aA__0), (aA__1h).v, (aA__2h).v, (aA__3h).v], Es (List (Int × Int × List Int × List Int)) aA__1 aA__1h, Es (List Int) aA__2 aA__2h, Es (List Int) aA__3 aA__3h, Bx b11 [(.int .i64 aB__0), (aB__1h).v, (aB__2h).v, (aB__3h).v], Es (List (Int × Int × List Int × List Int)) aB__1 aB__1h, Es (List Int) aB__2 aB__2h, Es (List Int) aB__3 aB__3h, Bx g196_3 [(.int .i64 s195_0), (g196_0).v, (g196_1).v, (g196_2).v], Es (List (Int × Int × List Int × List Int)) s195_1 g196_0, Es (List Int) s195_2 g196_1, Es (List Int) s195_3 g196_2] := H
        refine loadN [(.int .i64 aB__0), (aB__1h).v, (aB__2h).v, (aB__3h).v] rfl (fun j u hj => H.bx 8 rfl hj) ?_
        obtain ⟨y390, e, hF391⟩ := bindS hF378; clear hF378
        obtain ⟨y390_0, y390_1, y390_2, y390_3⟩ := y390
        have ey390 := e; clear e
        refine callF (laws_toGraph_c aB__0 aB__1 aB__1h aB__2 aB__2h aB__3 aB__3h y390_0 y390_1 y390_2 y390_3 ey390) (Γi := []) H ⟨Vw.sh 9 rfl, Vw.sh 10 rfl, Vw.sh 11 rfl, trivial⟩ ?_; clear H ey390
        rintro _ _ w392 ⟨h393, h395, h397, rfl, rfl⟩ (H : Cx w0 fp0 S0 w392 [E (List (Int × Int × List Int × List Int)) y390_1 h393, E (List Int) y390_2 h395, E (List Int) y390_3 h397, Bx b387 [(.int .i64 y377_0), (h380).v, (h382).v, (h384).v], E (List (Int × Int × List Int × List Int)) y377_1 h380, E (List Int) y377_2 h382, E (List Int) y377_3 h384, Bx b8 [(.int .i64 aA__0), (aA__1h).v, (aA__2h).v, (aA__3h).v], Es (List (Int × Int × List Int × List Int)) aA__1 aA__1h, Es (List Int) aA__2 aA__2h, Es (List Int) aA__3 aA__3h, Bx b11 [(.int .i64 aB__0), (aB__1h).v, (aB__2h).v, (aB__3h).v], Es (List (Int × Int × List Int × List Int)) aB__1 aB__1h, Es (List Int) aB__2 aB__2h, Es (List Int) aB__3 aB__3h, Bx g196_3 [(.int .i64 s195_0), (g196_0).v, (g196_1).v, (g196_2).v], Es (List (Int × Int × List Int × List Int)) s195_1 g196_0, Es (List Int) s195_2 g196_1, Es (List Int) s195_3 g196_2])
        refine alloc_ gok rfl H ?_; clear H; intro b400 w399 hx H
        clear hx
        replace H : Cx w0 fp0 S0 w399 [Bx b400 [(.int .i64 0), (.slice none 0 0), (.slice none 0 0), (.slice none 0 0)], E (List (Int × Int × List Int × List Int)) y390_1 h393, E (List Int) y390_2 h395, E (List Int) y390_3 h397, Bx b387 [(.int .i64 y377_0), (h380).v, (h382).v, (h384).v], E (List (Int × Int × List Int × List Int)) y377_1 h380, E (List Int) y377_2 h382, E (List Int) y377_3 h384, Bx b8 [(.int .i64 aA__0), (aA__1h).v, (aA__2h).v, (aA__3h).v], Es (List (Int × Int × List Int × List Int)) aA__1 aA__1h, Es (List Int) aA__2 aA__2h, Es (List Int) aA__3 aA__3h, Bx b11 [(.int .i64 aB__0), (aB__1h).v, (aB__2h).v, (aB__3h).v], Es (List (Int × Int × List Int × List Int)) aB__1 aB__1h, Es (List Int) aB__2 aB__2h, Es (List Int) aB__3 aB__3h, Bx g196_3 [(.int .i64 s195_0), (g196_0).v, (g196_1).v, (g196_2).v], Es (List (Int × Int × List Int × List Int)) s195_1 g196_0, Es (List Int) s195_2 g196_1, Es (List Int) s195_3 g196_2] := H
        refine stA gok [(.int .i64 y390_0), (h393).v, (h395).v, (h397).v] rfl H rfl rfl rfl ?_; clear H; intro w402 H
        replace H : Cx w0 fp0 S0 w402 [Bx b400 [(.int .i64 y390_0), (h393).v, (h395).v, (h397).v], E (List (Int × Int × List Int × List Int)) y390_1 h393, E (List Int) y390_2 h395, E (List Int) y390_3 h397, Bx b387 [(.int .i64 y377_0), (h380).v, (h382).v, (h384).v], E (List (Int × Int × List Int × List Int)) y377_1 h380, E (List Int) y377_2 h382, E (List Int) y377_3 h384, Bx b8 [(.int .i64 aA__0), (aA__1h).v, (aA__2h).v, (aA__3h).v], Es (List (Int × Int × List Int × List Int)) aA__1 aA__1h, Es (List Int) aA__2 aA__2h, Es (List Int) aA__3 aA__3h, Bx b11 [(.int .i64 aB__0), (aB__1h).v, (aB__2h).v, (aB__3h).v], Es (List (Int × Int × List Int × List Int)) aB__1 aB__1h, Es (List Int) aB__2 aB__2h, Es (List Int) aB__3 aB__3h, Bx g196_3 [(.int .i64 s195_0), (g196_0).v, (g196_1).v, (g196_2).v], Es (List (Int × Int × List Int × List Int)) s195_1 g196_0, Es (List Int) s195_2 g196_1, Es (List Int) s195_3 g196_2] := H
        refine loadN [(.int .i64 y377_0), (h380).v, (h382).v, (h384).v] rfl (fun j u hj => H.bx 4 rfl hj) ?_
        refine loadN [(.int .i64 y390_0), (h393).v, (h395).v, (h397).v] rfl (fun j u hj => H.bx 0 rfl hj) ?_
        obtain ⟨y403, e, hF404⟩ := bindS hF391; clear hF391
        obtain ⟨⟨y403_0_0, y403_0_1, y403_0_2, y403_0_3⟩, y403_1⟩ := y403
        have ey403 := e; clear e
        refine callF (impl_ParGraphs_c y377_0 y377_1 h380 y377_2 h382 y377_3 h384 y390_0 y390_1 h393 y390_2 h395 y390_3 h397 y403_0_0 y403_0_1 y403_0_2 y403_0_3 y403_1 ey403) (Γi := []) H ⟨Vw.own 5 rfl, Vw.own 6 rfl, Vw.own 7 rfl, Vw.own 1 rfl, Vw.own 2 rfl, Vw.own 3 rfl, trivial⟩ ?_; clear H ey403
        rintro _ _ w405 ⟨h406, h408, h410, rfl, rfl⟩ (H : Cx w0 fp0 S0 w405 [E (List (Int × Int × List Int × List Int)) y403_0_1 h406, E (List Int) y403_0_2 h408, E (List Int) y403_0_3 h410, Bx b400 [(.int .i64 y390_0), (h393).v, (h395).v, (h397).v], E (List (Int × Int × List Int × List Int)) y390_1 h393, E (List Int) y390_2 h395, E (List Int) y390_3 h397, Bx b387 [(.int .i64 y377_0), (h380).v, (h382).v, (h384).v], E (List (Int × Int × List Int × List Int)) y377_1 h380, E (List Int) y377_2 h382, E (List Int) y377_3 h384, Bx b8 [(.int .i64 aA__0), (aA__1h).v, (aA__2h).v, (aA__3h).v], Es (List (Int × Int × List Int × List Int)) aA__1 aA__1h, Es (List Int) aA__2 aA__2h, Es (List Int) aA__3 aA__3h, Bx b11 [(.int .i64 aB__0), (aB__1h).v, (aB__2h).v, (aB__3h).v], Es (List (Int × Int × List Int × List Int)) aB__1 aB__1h, Es (List Int) aB__2 aB__2h, Es (List Int) aB__3 aB__3h, Bx g196_3 [(.int .i64 s195_0), (g196_0).v, (g196_1).v, (g196_2).v], Es (List (Int × Int × List Int × List Int)) s195_1 g196_0, Es (List Int) s195_2 g196_1, Es (List Int) s195_3 g196_2])
        refine alloc_ gok rfl H ?_; clear H; intro b413 w412 hx H
        clear hx
        replace H : Cx w0 fp0 S0 w412 [Bx b413 [(.int .i64 0), (.slice none 0 0), (.slice none 0 0), (.slice none 0 0)], E (List (Int × Int × List Int × List Int)) y403_0_1 h406, E (List Int) y403_0_2 h408, E (List Int) y403_0_3 h410, Bx b400 [(.int .i64 y390_0), (h393).v, (h395).v, (h397).v], E (List (Int × Int × List Int × List Int)) y390_1 h393, E (List Int) y390_2 h395, E (List Int) y390_3 h397, Bx b387 [(.int .i64 y377_0), (h380).v, (h382).v, (h384).v], E (List (Int × Int × List Int × List Int)) y377_1 h380, E (List Int) y377_2 h382, E (List Int) y377_3 h384, Bx b8 [(.int .i64 aA__0), (aA__1h).v, (aA__2h).v, (aA__3h).v], Es (List (Int × Int × List Int × List Int)) aA__1 aA__1h, Es (List Int) aA__2 aA__2h, Es (List Int) aA__3 aA__3h, Bx b11 [(.int .i64 aB__0), (aB__1h).v, (aB__2h).v, (aB__3h).v], Es (List (Int × Int × List Int × List Int)) aB__1 aB__1h, Es (List Int) aB__2 aB__2h, Es (List Int) aB__3 aB__3h, Bx g196_3 [(.int .i64 s195_0), (g196_0).v, (g196_1).v, (g196_2).v], Es (List (Int × Int × List Int × List Int)) s195_1 g196_0, Es (List Int) s195_2 g196_1, Es (List Int) s195_3 g196_2] := H
        refine stA gok [(.int .i64 y403_0_0), (h406).v, (h408).v, (h410).v] rfl H rfl rfl rfl ?_; clear H; intro w415 H
        replace H : Cx w0 fp0 S0 w415 [Bx b413 [(.int .i64 y403_0_0), (h406).v, (h408).v, (h410).v], E (List (Int × Int × List Int × List Int)) y403_0_1 h406, E (List Int) y403_0_2 h408, E (List Int) y403_0_3 h410, Bx b400 [(.int .i64 y390_0), (h393).v, (h395).v, (h397).v], E (List (Int × Int × List Int × List Int)) y390_1 h393, E (List Int) y390_2 h395, E (List Int) y390_3 h397, Bx b387 [(.int .i64 y377_0), (h380).v, (h382).v, (h384).v], E (List (Int × Int × List Int × List Int)) y377_1 h380, E (List Int) y377_2 h382, E (List Int) y377_3 h384, Bx b8 [(.int .i64 aA__0), (aA__1h).v, (aA__2h).v, (aA__3h).v], Es (List (Int × Int × List Int × List Int)) aA__1 aA__1h, Es (List Int) aA__2 aA__2h, Es (List Int) aA__3 aA__3h, Bx b11 [(.int .i64 aB__0), (aB__1h).v, (aB__2h).v, (aB__3h).v], Es (List (Int × Int × List Int × List Int)) aB__1 aB__1h, Es (List Int) aB__2 aB__2h, Es (List Int) aB__3 aB__3h, Bx g196_3 [(.int .i64 s195_0), (g196_0).v, (g196_1).v, (g196_2).v], Es (List (Int × Int × List Int × List Int)) s195_1 g196_0, Es (List Int) s195_2 g196_1, Es (List Int) s195_3 g196_2] := H
        refine sq ?_
        obtain ⟨r427, hF429, hF428⟩ := bindS hF404; clear hF404
        refine cut (fun (q430 : Bool) => [(2, (.pointer (some ⟨b8, 0, none⟩))), (3, (.pointer (some ⟨b11, 0, none⟩))), (6, (.pointer (some ⟨g196_3, 0, none⟩))), (7, (.bool s195_4)), (8, (.pointer (some ⟨b387, 0, none⟩))), (9, (.pointer (some ⟨b400, 0, none⟩))), (10, (.pointer (some ⟨b413, 0, none⟩))), (11, (.bool y403_1)), (53, (.bool q430))]) (fun (q430 : Bool) w' => q430 = r427 ∧ Cx w0 fp0 S0 w' [Bx b8 [(.int .i64 aA__0), (aA__1h).v, (aA__2h).v, (aA__3h).v], Es (List (Int × Int × List Int × List Int)) aA__1 aA__1h, Es (List Int) aA__2 aA__2h, Es (List Int) aA__3 aA__3h, Bx b11 [(.int .i64 aB__0), (aB__1h).v, (aB__2h).v, (aB__3h).v], Es (List (Int × Int × List Int × List Int)) aB__1 aB__1h, Es (List Int) aB__2 aB__2h, Es (List Int) aB__3 aB__3h, Bx g196_3 [(.int .i64 s195_0), (g196_0).v, (g196_1).v, (g196_2).v], Es (List (Int × Int × List Int × List Int)) s195_1 g196_0, Es (List Int) s195_2 g196_1, Es (List Int) s195_3 g196_2, Bx b387 [(.int .i64 y377_0), (h380).v, (h382).v, (h384).v], E (List (Int × Int × List Int × List Int)) y377_1 h380, E (List Int) y377_2 h382, E (List Int) y377_3 h384, Bx b400 [(.int .i64 y390_0), (h393).v, (h395).v, (h397).v], E (List (Int × Int × List Int × List Int)) y390_1 h393, E (List Int) y390_2 h395, E (List Int) y390_3 h397, Bx b413 [(.int .i64 y403_0_0), (h406).v, (h408).v, (h410).v], E (List (Int × Int × List Int × List Int)) y403_0_1 h406, E (List Int) y403_0_2 h408, E (List Int) y403_0_3 h410]) ?_ ?_
        · skip
          refine loadN [(.int .i64 y403_0_0), (h406).v, (h408).v, (h410).v] rfl (fun j u hj => H.bx 0 rfl hj) ?_
          refine loadN [(.int .i64 s195_0), (g196_0).v, (g196_1).v, (g196_2).v] rfl (fun j u hj => H.bx 20 rfl hj) ?_
          obtain ⟨y431, e, hF432⟩ := bindS hF429; clear hF429
          have ey431 := e; clear e
          refine callF (laws_eqGraph_c y403_0_0 y403_0_1 h406 y403_0_2 h408 y403_0_3 h410 s195_0 s195_1 g196_0 s195_2 g196_1 s195_3 g196_2 y431 ey431) (Γi := []) H ⟨Vw.own 1 rfl, Vw.own 2 rfl, Vw.own 3 rfl, Vw.sh 21 rfl, Vw.sh 22 rfl, Vw.sh 23 rfl, trivial⟩ ?_; clear H ey431
          rintro _ _ w433 ⟨rfl, rfl⟩ (H : Cx w0 fp0 S0 w433 [Bx b413 [(.int .i64 y403_0_0), (h406).v, (h408).v, (h410).v], E (List (Int × Int × List Int × List Int)) y403_0_1 h406, E (List Int) y403_0_2 h408, E (List Int) y403_0_3 h410, Bx b400 [(.int .i64 y390_0), (h393).v, (h395).v, (h397).v], E (List (Int × Int × List Int × List Int)) y390_1 h393, E (List Int) y390_2 h395, E (List Int) y390_3 h397, Bx b387 [(.int .i64 y377_0), (h380).v, (h382).v, (h384).v], E (List (Int × Int × List Int × List Int)) y377_1 h380, E (List Int) y377_2 h382, E (List Int) y377_3 h384, Bx b8 [(.int .i64 aA__0), (aA__1h).v, (aA__2h).v, (aA__3h).v], Es (List (Int × Int × List Int × List Int)) aA__1 aA__1h, Es (List Int) aA__2 aA__2h, Es (List Int) aA__3 aA__3h, Bx b11 [(.int .i64 aB__0), (aB__1h).v, (aB__2h).v, (aB__3h).v], Es (List (Int × Int × List Int × List Int)) aB__1 aB__1h, Es (List Int) aB__2 aB__2h, Es (List Int) aB__3 aB__3h, Bx g196_3 [(.int .i64 s195_0), (g196_0).v, (g196_1).v, (g196_2).v], Es (List (Int × Int × List Int × List Int)) s195_1 g196_0, Es (List Int) s195_2 g196_1, Es (List Int) s195_3 g196_2])
          obtain ⟨a434, e, hF435⟩ := bindS hF432; clear hF432
          refine boolO e ?_; clear e
          cases a434
          · have hF436 := condF hF435; clear hF435
            obtain ⟨a437, e, hF438⟩ := bindS hF436; clear hF436
            refine boolO e ?_; clear e
            exact ⟨a437, ⟨rfl, rfl, rfl, rfl, rfl, rfl, rfl, rfl, rfl, trivial⟩, Option.some.inj hF438, H.sel [12, 13, 14, 15, 16, 17, 18, 19, 20, 21, 22, 23, 8, 9, 10, 11, 4, 5, 6, 7, 0, 1, 2, 3] rfl⟩
          · have hF439 := condT hF435; clear hF435
            exact ⟨true, ⟨rfl, rfl, rfl, rfl, rfl, rfl, rfl, rfl, rfl, trivial⟩, Option.some.inj hF439, H.sel [12, 13, 14, 15, 16, 17, 18, 19, 20, 21, 22, 23, 8, 9, 10, 11, 4, 5, 6, 7, 0, 1, 2, 3] rfl⟩
        · clear hF429 H
          rintro T441 s425 w440 ⟨hr, (H : Cx w0 fp0 S0 w440 [Bx b8 [(.int .i64 aA__0), (aA__1h).v, (aA__2h).v, (aA__3h).v], Es (List (Int × Int × List Int × List Int)) aA__1 aA__1h, Es (List Int) aA__2 aA__2h, Es (List Int) aA__3 aA__3h, Bx b11 [(.int .i64 aB__0), (aB__1h).v, (aB__2h).v, (aB__3h).v], Es (List (Int × Int × List Int × List Int)) aB__1 aB__1h, Es (List Int) aB__2 aB__2h, Es (List Int) aB__3 aB__3h, Bx g196_3 [(.int .i64 s195_0), (g196_0).v, (g196_1).v, (g196_2).v], Es (List (Int × Int × List Int × List Int)) s195_1 g196_0, Es (List Int) s195_2 g196_1, Es (List Int) s195_3 g196_2, Bx b387 [(.int .i64 y377_0), (h380).v, (h382).v, (h384).v], E (List (Int × Int × List Int × List Int)) y377_1 h380, E (List Int) y377_2 h382, E (List Int) y377_3 h384, Bx b400 [(.int .i64 y390_0), (h393).v, (h395).v, (h397).v], E (List (Int × Int × List Int × List Int)) y390_1 h393, E (List Int) y390_2 h395, E (List Int) y390_3 h397, Bx b413 [(.int .i64 y403_0_0), (h406).v, (h408).v, (h410).v], E (List (Int × Int × List Int × List Int)) y403_0_1 h406, E (List Int) y403_0_2 h408, E (List Int) y403_0_3 h410])⟩
          subst hr
          cases s425
          · have hF442 := condF hF428; clear hF428
            refine sq ?_
            refine heldX H [] (.fst 0 (.fst 1 (.act 2 (.act 3 (.fst 4 .done))))) mixed [] trivial (by kernel_rfl) ?_
            clear H; intro w443 H
            have hX : Ext w443 w443 := Upd.refl _ _
            have H0 := H
            refine loadNX [(.int .i64 y377_0), (h380).v, (h382).v, (h384).v] rfl (fun j u hj => H.bx 12 rfl hj) ?_
            refine loadNX [(.int .i64 aA__0), (aA__1h).v, (aA__2h).v, (aA__3h).v] rfl (fun j u hj => H.bx 0 rfl hj) ?_
            obtain ⟨y444, e, hF445⟩ := bindS hF442; clear hF442
            obtain ⟨y444_0, y444_1, y444_2, y444_3⟩ := y444
            have ey444 := e; clear e
            refine callFx (laws_toGraph_c aA__0 aA__1 aA__1h aA__2 aA__2h aA__3 aA__3h y444_0 y444_1 y444_2 y444_3 ey444) H ⟨Vw.sh 1 rfl, Vw.sh 2 rfl, Vw.sh 3 rfl, trivial⟩ ?_; clear H ey444
            rintro _ _ w446 ⟨h447, h449, h451, rfl, rfl⟩ hx (H : Cx w0 fp0 S0 w446 [E (List (Int × Int × List Int × List Int)) y444_1 h447, E (List Int) y444_2 h449, E (List Int) y444_3 h451, Bx b8 [(.int .i64 aA__0), (aA__1h).v, (aA__2h).v, (aA__3h).v], Es (List (Int × Int × List Int × List Int)) aA__1 aA__1h, Es (List Int) aA__2 aA__2h, Es (List Int) aA__3 aA__3h, Bx b11 [(.int .i64 aB__0), (aB__1h).v, (aB__2h).v, (aB__3h).v], Es (List (Int × Int × List Int × List Int)) aB__1 aB__1h, Es (List Int) aB__2 aB__2h, Es (List Int) aB__3 aB__3h, Bx g196_3 [(.int .i64 s195_0), (g196_0).v, (g196_1).v, (g196_2).v], Es (List (Int × Int × List Int × List Int)) s195_1 g196_0, Es (List Int) s195_2 g196_1, Es (List Int) s195_3 g196_2, Bx b387 [(.int .i64 y377_0), (h380).v, (h382).v, (h384).v], E (List (Int × Int × List Int × List Int)) y377_1 h380, E (List Int) y377_2 h382, E (List Int) y377_3 h384, Bx b400 [(.int .i64 y390_0), (h393).v, (h395).v, (h397).v], E (List (Int × Int × List Int × List Int)) y390_1 h393, E (List Int) y390_2 h395, E (List Int) y390_3 h397, Bx b413 [(.int .i64 y403_0_0), (h406).v, (h408).v, (h410).v], E (List (Int × Int × List Int × List Int)) y403_0_1 h406, E (List Int) y403_0_2 h408, E (List Int) y403_0_3 h410])
            replace hX := hX.trans0 hx; clear hx
            refine hold hX ?_
            obtain ⟨y453, e, hF454⟩ := bindS hF445; clear hF445
            have ey453 := e; clear e
            refine callFx (laws_eqGraph_c y377_0 y377_1 h380 y377_2 h382 y377_3 h384 y444_0 y444_1 h447 y444_2 h449 y444_3 h451 y453 ey453) H ⟨Vw.own 16 rfl, Vw.own 17 rfl, Vw.own 18 rfl, Vw.own 0 rfl, Vw.own 1 rfl, Vw.own 2 rfl, trivial⟩ ?_; clear H ey453
            rintro _ _ w455 ⟨rfl, rfl⟩ hx (H : Cx w0 fp0 S0 w455 [E (List (Int × Int × List Int × List Int)) y444_1 h447, E (List Int) y444_2 h449, E (List Int) y444_3 h451, Bx b8 [(.int .i64 aA__0), (aA__1h).v, (aA__2h).v, (aA__3h).v], Es (List (Int × Int × List Int × List Int)) aA__1 aA__1h, Es (List Int) aA__2 aA__2h, Es (List Int) aA__3 aA__3h, Bx b11 [(.int .i64 aB__0), (aB__1h).v, (aB__2h).v, (aB__3h).v], Es (List (Int × Int × List Int × List Int)) aB__1 aB__1h, Es (List Int) aB__2 aB__2h, Es (List Int) aB__3 aB__3h, Bx g196_3 [(.int .i64 s195_0), (g196_0).v, (g196_1).v, (g196_2).v], Es (List (Int × Int × List Int × List Int)) s195_1 g196_0, Es (List Int) s195_2 g196_1, Es (List Int) s195_3 g196_2, Bx b387 [(.int .i64 y377_0), (h380).v, (h382).v, (h384).v], E (List (Int × Int × List Int × List Int)) y377_1 h380, E (List Int) y377_2 h382, E (List Int) y377_3 h384, Bx b400 [(.int .i64 y390_0), (h393).v, (h395).v, (h397).v], E (List (Int × Int × List Int × List Int)) y390_1 h393, E (List Int) y390_2 h395, E (List Int) y390_3 h397, Bx b413 [(.int .i64 y403_0_0), (h406).v, (h408).v, (h410).v], E (List (Int × Int × List Int × List Int)) y403_0_1 h406, E (List Int) y403_0_2 h408, E (List Int) y403_0_3 h410])
            replace hX := hX.trans0 hx; clear hx
            refine hold hX ?_
            obtain ⟨a456, e, hF457⟩ := bindS hF454; clear hF454
            refine boolO e ?_; clear e
            cases a456
            · have hF458 := condF hF457; clear hF457
              refine sq ?_
              refine heldX H [] (.fst 0 (.fst 1 (.act 2 (.act 3 (.fst 4 .done))))) mixed [] trivial (by kernel_rfl) ?_
              clear H; intro w459 H
              have hX : Ext w459 w459 := Upd.refl _ _
              have H0 := H
              refine loadNX [(.int .i64 y390_0), (h393).v, (h395).v, (h397).v] rfl (fun j u hj => H.bx 19 rfl hj) ?_
              refine loadNX [(.int .i64 aB__0), (aB__1h).v, (aB__2h).v, (aB__3h).v] rfl (fun j u hj => H.bx 7 rfl hj) ?_
              obtain ⟨y460, e, hF461⟩ := bindS hF458; clear hF458
              obtain ⟨y460_0, y460_1, y460_2, y460_3⟩ := y460
              have ey460 := e; clear e
              refine callFx (laws_toGraph_c aB__0 aB__1 aB__1h aB__2 aB__2h aB__3 aB__3h y460_0 y460_1 y460_2 y460_3 ey460) H ⟨Vw.sh 8 rfl, Vw.sh 9 rfl, Vw.sh 10 rfl, trivial⟩ ?_; clear H ey460
              rintro _ _ w462 ⟨h463, h465, h467, rfl, rfl⟩ hx (H : Cx w0 fp0 S0 w462 [E (List (Int × Int × List Int × List Int)) y460_1 h463, E (List Int) y460_2 h465, E (List Int) y460_3 h467, E (List (Int × Int × List Int × List Int)) y444_1 h447, E (List Int) y444_2 h449, E (List Int) y444_3 h451, Bx b8 [(.int .i64 aA__0), (aA__1h).v, (aA__2h).v, (aA__3h).v], Es (List (Int × Int × List Int × List Int)) aA__1 aA__1h, Es (List Int) aA__2 aA__2h, Es (List Int) aA__3 aA__3h, Bx b11 [(.int .i64 aB__0), (aB__1h).v, (aB__2h).v, (aB__3h).v], Es (List (Int × Int × List Int × List Int)) aB__1 aB__1h, Es (List Int) aB__2 aB__2h, Es (List Int) aB__3 aB__3h, Bx g196_3 [(.int .i64 s195_0), (g196_0).v, (g196_1).v, (g196_2).v], Es (List (Int × Int × List Int × List Int)) s195_1 g196_0, Es (List Int) s195_2 g196_1, Es (List Int) s195_3 g196_2, Bx b387 [(.int .i64 y377_0), (h380).v, (h382).v, (h384).v], E (List (Int × Int × List Int × List Int)) y377_1 h380, E (List Int) y377_2 h382, E (List Int) y377_3 h384, Bx b400 [(.int .i64 y390_0), (h393).v, (h395).v, (h397).v], E (List (Int × Int × List Int × List Int)) y390_1 h393, E (List Int) y390_2 h395, E (List Int) y390_3 h397, Bx b413 [(.int .i64 y403_0_0), (h406).v, (h408).v, (h410).v], E (List (Int × Int × List Int × List Int)) y403_0_1 h406, E (List Int) y403_0_2 h408, E (List Int) y403_0_3 h410])
              replace hX := hX.trans0 hx; clear hx
              refine hold hX ?_
              obtain ⟨y469, e, hF470⟩ := bindS hF461; clear hF461
              have ey469 := e; clear e
              refine callFx (laws_eqGraph_c y390_0 y390_1 h393 y390_2 h395 y390_3 h397 y460_0 y460_1 h463 y460_2 h465 y460_3 h467 y469 ey469) H ⟨Vw.own 23 rfl, Vw.own 24 rfl, Vw.own 25 rfl, Vw.own 0 rfl, Vw.own 1 rfl, Vw.own 2 rfl, trivial⟩ ?_; clear H ey469
              rintro _ _ w471 ⟨rfl, rfl⟩ hx (H : Cx w0 fp0 S0 w471 [E (List (Int × Int × List Int × List Int)) y460_1 h463, E (List Int) y460_2 h465, E (List Int) y460_3 h467, E (List (Int × Int × List Int × List Int)) y444_1 h447, E (List Int) y444_2 h449, E (List Int) y444_3 h451, Bx b8 [(.int .i64 aA__0), (aA__1h).v, (aA__2h).v, (aA__3h).v], Es (List (Int × Int × List Int × List Int)) aA__1 aA__1h, Es (List Int) aA__2 aA__2h, Es (List Int) aA__3 aA__3h, Bx b11 [(.int .i64 aB__0), (aB__1h).v, (aB__2h).v, (aB__3h).v], Es (List (Int × Int × List Int × List Int)) aB__1 aB__1h, Es (List Int) aB__2 aB__2h, Es (List Int) aB__3 aB__3h, Bx g196_3 [(.int .i64 s195_0), (g196_0).v, (g196_1).v, (g196_2).v], Es (List (Int × Int × List Int × List Int)) s195_1 g196_0, Es (List Int) s195_2 g196_1, Es (List Int) s195_3 g196_2, Bx b387 [(.int .i64 y377_0), (h380).v, (h382).v, (h384).v], E (List (Int × Int × List Int × List Int)) y377_1 h380, E (List Int) y377_2 h382, E (List Int) y377_3 h384, Bx b400 [(.int .i64 y390_0), (h393).v, (h395).v, (h397).v], E (List (Int × Int × List Int × List Int)) y390_1 h393, E (List Int) y390_2 h395, E (List Int) y390_3 h397, Bx b413 [(.int .i64 y403_0_0), (h406).v, (h408).v, (h410).v], E (List (Int × Int × List Int × List Int)) y403_0_1 h406, E (List Int) y403_0_2 h408, E (List Int) y403_0_3 h410])
              replace hX := hX.trans0 hx; clear hx
              refine hold hX ?_
              obtain ⟨a472, e, hF473⟩ := bindS hF470; clear hF470
              refine boolO e ?_; clear e
              cases a472
              · have hF474 := condF hF473; clear hF473
                refine loadN [(.int .i64 y377_0), (h380).v, (h382).v, (h384).v] rfl (fun j u hj => H.bx 18 rfl hj) ?_
                obtain ⟨y475, e, hF476⟩ := bindS hF474; clear hF474
                obtain ⟨⟨y475_0_0, y475_0_1, y475_0_2, y475_0_3⟩, y475_1⟩ := y475
                have ey475 := e; clear e
                replace H := H.sel [19, 20, 21, 0, 1, 2, 3, 4, 5, 6, 7, 8, 9, 10, 11, 12, 13, 14, 15, 16, 17, 18, 22, 23, 24, 25, 26, 27, 28, 29] rfl
                refine callF (laws_markGraph_c y377_0 y377_1 h380 y377_2 h382 y377_3 h384 1 y475_0_0 y475_0_1 y475_0_2 y475_0_3 y475_1 ey475) (Γi := [E (List (Int × Int × List Int × List Int)) y377_1 h380, E (List Int) y377_2 h382, E (List Int) y377_3 h384]) H trivial ?_; clear H ey475
                rintro _ _ w477 ⟨rfl, rfl⟩ (H : Cx w0 fp0 S0 w477 [E (List (Int × Int × List Int × List Int)) y475_0_1 h380, E (List Int) y475_0_2 h382, E (List Int) y475_0_3 h384, E (List (Int × Int × List Int × List Int)) y460_1 h463, E (List Int) y460_2 h465, E (List Int) y460_3 h467, E (List (Int × Int × List Int × List Int)) y444_1 h447, E (List Int) y444_2 h449, E (List Int) y444_3 h451, Bx b8 [(.int .i64 aA__0), (aA__1h).v, (aA__2h).v, (aA__3h).v], Es (List (Int × Int × List Int × List Int)) aA__1 aA__1h, Es (List Int) aA__2 aA__2h, Es (List Int) aA__3 aA__3h, Bx b11 [(.int .i64 aB__0), (aB__1h).v, (aB__2h).v, (aB__3h).v], Es (List (Int × Int × List Int × List Int)) aB__1 aB__1h, Es (List Int) aB__2 aB__2h, Es (List Int) aB__3 aB__3h, Bx g196_3 [(.int .i64 s195_0), (g196_0).v, (g196_1).v, (g196_2).v], Es (List (Int × Int × List Int × List Int)) s195_1 g196_0, Es (List Int) s195_2 g196_1, Es (List Int) s195_3 g196_2, Bx b387 [(.int .i64 y377_0), (h380).v, (h382).v, (h384).v], Bx b400 [(.int .i64 y390_0), (h393).v, (h395).v, (h397).v], E (List (Int × Int × List Int × List Int)) y390_1 h393, E (List Int) y390_2 h395, E (List Int) y390_3 h397, Bx b413 [(.int .i64 y403_0_0), (h406).v, (h408).v, (h410).v], E (List (Int × Int × List Int × List Int)) y403_0_1 h406, E (List Int) y403_0_2 h408, E (List Int) y403_0_3 h410])
                refine loadN [(.int .i64 y390_0), (h393).v, (h395).v, (h397).v] rfl (fun j u hj => H.bx 22 rfl hj) ?_
                obtain ⟨y478, e, hF479⟩ := bindS hF476; clear hF476
                obtain ⟨⟨y478_0_0, y478_0_1, y478_0_2, y478_0_3⟩, y478_1⟩ := y478
                have ey478 := e; clear e
                replace H := H.sel [23, 24, 25, 0, 1, 2, 3, 4, 5, 6, 7, 8, 9, 10, 11, 12, 13, 14, 15, 16, 17, 18, 19, 20, 21, 22, 26, 27, 28, 29] rfl
                refine callF (laws_markGraph_c y390_0 y390_1 h393 y390_2 h395 y390_3 h397 y475_1 y478_0_0 y478_0_1 y478_0_2 y478_0_3 y478_1 ey478) (Γi := [E (List (Int × Int × List Int × List Int)) y390_1 h393, E (List Int) y390_2 h395, E (List Int) y390_3 h397]) H trivial ?_; clear H ey478
                rintro _ _ w480 ⟨rfl, rfl⟩ (H : Cx w0 fp0 S0 w480 [E (List (Int × Int × List Int × List Int)) y478_0_1 h393, E (List Int) y478_0_2 h395, E (List Int) y478_0_3 h397, E (List (Int × Int × List Int × List Int)) y475_0_1 h380, E (List Int) y475_0_2 h382, E (List Int) y475_0_3 h384, E (List (Int × Int × List Int × List Int)) y460_1 h463, E (List Int) y460_2 h465, E (List Int) y460_3 h467, E (List (Int × Int × List Int × List Int)) y444_1 h447, E (List Int) y444_2 h449, E (List Int) y444_3 h451, Bx b8 [(.int .i64 aA__0), (aA__1h).v, (aA__2h).v, (aA__3h).v], Es (List (Int × Int × List Int × List Int)) aA__1 aA__1h, Es (List Int) aA__2 aA__2h, Es (List Int) aA__3 aA__3h, Bx b11 [(.int .i64 aB__0), (aB__1h).v, (aB__2h).v, (aB__3h).v], Es (List (Int × Int × List Int × List Int)) aB__1 aB__1h, Es (List Int) aB__2 aB__2h, Es (List Int) aB__3 aB__3h, Bx g196_3 [(.int .i64 s195_0), (g196_0).v, (g196_1).v, (g196_2).v], Es (List (Int × Int × List Int × List Int)) s195_1 g196_0, Es (List Int) s195_2 g196_1, Es (List Int) s195_3 g196_2, Bx b387 [(.int .i64 y377_0), (h380).v, (h382).v, (h384).v], Bx b400 [(.int .i64 y390_0), (h393).v, (h395).v, (h397).v], Bx b413 [(.int .i64 y403_0_0), (h406).v, (h408).v, (h410).v], E (List (Int × Int × List Int × List Int)) y403_0_1 h406, E (List Int) y403_0_2 h408, E (List Int) y403_0_3 h410])
                refine sq ?_
                obtain ⟨r496, hF498, hF497⟩ := bindS hF479; clear hF479
                refine cut (fun (q499 : Bool) => [(2, (.pointer (some ⟨b8, 0, none⟩))), (3, (.pointer (some ⟨b11, 0, none⟩))), (6, (.pointer (some ⟨g196_3, 0, none⟩))), (7, (.bool s195_4)), (10, (.pointer (some ⟨b413, 0, none⟩))), (82, (.bool q499))]) (fun (q499 : Bool) w' => q499 = r496 ∧ Cx w0 fp0 S0 w' [Bx b8 [(.int .i64 aA__0), (aA__1h).v, (aA__2h).v, (aA__3h).v], Es (List (Int × Int × List Int × List Int)) aA__1 aA__1h, Es (List Int) aA__2 aA__2h, Es (List Int) aA__3 aA__3h, Bx b11 [(.int .i64 aB__0), (aB__1h).v, (aB__2h).v, (aB__3h).v], Es (List (Int × Int × List Int × List Int)) aB__1 aB__1h, Es (List Int) aB__2 aB__2h, Es (List Int) aB__3 aB__3h, Bx g196_3 [(.int .i64 s195_0), (g196_0).v, (g196_1).v, (g196_2).v], Es (List (Int × Int × List Int × List Int)) s195_1 g196_0, Es (List Int) s195_2 g196_1, Es (List Int) s195_3 g196_2, Bx b413 [(.int .i64 y403_0_0), (h406).v, (h408).v, (h410).v], E (List (Int × Int × List Int × List Int)) y403_0_1 h406, E (List Int) y403_0_2 h408, E (List Int) y403_0_3 h410]) ?_ ?_
                · skip
                  obtain ⟨a500, e, hF501⟩ := bindS hF498; clear hF498
                  refine boolO e ?_; clear e
                  cases a500
                  · have hF502 := condF hF501; clear hF501
                    refine loadN [(.int .i64 y403_0_0), (h406).v, (h408).v, (h410).v] rfl (fun j u hj => H.bx 26 rfl hj) ?_
                    refine loadN [(.int .i64 s195_0), (g196_0).v, (g196_1).v, (g196_2).v] rfl (fun j u hj => H.bx 20 rfl hj) ?_
                    obtain ⟨y503, e, hF504⟩ := bindS hF502; clear hF502
                    have ey503 := e; clear e
                    refine callF (laws_eqGraph_c y403_0_0 y403_0_1 h406 y403_0_2 h408 y403_0_3 h410 s195_0 s195_1 g196_0 s195_2 g196_1 s195_3 g196_2 y503 ey503) (Γi := []) H ⟨Vw.own 27 rfl, Vw.own 28 rfl, Vw.own 29 rfl, Vw.sh 21 rfl, Vw.sh 22 rfl, Vw.sh 23 rfl, trivial⟩ ?_; clear H ey503
                    rintro _ _ w505 ⟨rfl, rfl⟩ (H : Cx w0 fp0 S0 w505 [E (List (Int × Int × List Int × List Int)) y478_0_1 h393, E (List Int) y478_0_2 h395, E (List Int) y478_0_3 h397, E (List (Int × Int × List Int × List Int)) y475_0_1 h380, E (List Int) y475_0_2 h382, E (List Int) y475_0_3 h384, E (List (Int × Int × List Int × List Int)) y460_1 h463, E (List Int) y460_2 h465, E (List Int) y460_3 h467, E (List (Int × Int × List Int × List Int)) y444_1 h447, E (List Int) y444_2 h449, E (List Int) y444_3 h451, Bx b8 [(.int .i64 aA__0), (aA__1h).v, (aA__2h).v, (aA__3h).v], Es (List (Int × Int × List Int × List Int)) aA__1 aA__1h, Es (List Int) aA__2 aA__2h, Es (List Int) aA__3 aA__3h, Bx b11 [(.int .i64 aB__0), (aB__1h).v, (aB__2h).v, (aB__3h).v], Es (List (Int × Int × List Int × List Int)) aB__1 aB__1h, Es (List Int) aB__2 aB__2h, Es (List Int) aB__3 aB__3h, Bx g196_3 [(.int .i64 s195_0), (g196_0).v, (g196_1).v, (g196_2).v], Es (List (Int × Int × List Int × List Int)) s195_1 g196_0, Es (List Int) s195_2 g196_1, Es (List Int) s195_3 g196_2, Bx b387 [(.int .i64 y377_0), (h380).v, (h382).v, (h384).v], Bx b400 [(.int .i64 y390_0), (h393).v, (h395).v, (h397).v], Bx b413 [(.int .i64 y403_0_0), (h406).v, (h408).v, (h410).v], E (List (Int × Int × List Int × List Int)) y403_0_1 h406, E (List Int) y403_0_2 h408, E (List Int) y403_0_3 h410])
                    obtain ⟨a506, e, hF507⟩ := bindS hF504; clear hF504
                    refine boolO e ?_; clear e
                    cases a506
                    · have hF508 := condF hF507; clear hF507
                      obtain ⟨a509, e, hF510⟩ := bindS hF508; clear hF508
                      refine boolO e ?_; clear e
                      exact ⟨a509, ⟨rfl, rfl, rfl, rfl, rfl, rfl, trivial⟩, Option.some.inj hF510, H.sel [12, 13, 14, 15, 16, 17, 18, 19, 20, 21, 22, 23, 26, 27, 28, 29] rfl⟩
                    · have hF511 := condT hF507; clear hF507
                      exact ⟨true, ⟨rfl, rfl, rfl, rfl, rfl, rfl, trivial⟩, Option.some.inj hF511, H.sel [12, 13, 14, 15, 16, 17, 18, 19, 20, 21, 22, 23, 26, 27, 28, 29] rfl⟩
                  · have hF512 := condT hF501; clear hF501
                    exact ⟨true, ⟨rfl, rfl, rfl, rfl, rfl, rfl, trivial⟩, Option.some.inj hF512, H.sel [12, 13, 14, 15, 16, 17, 18, 19, 20, 21, 22, 23, 26, 27, 28, 29] rfl⟩
                · clear hF498 H
                  rintro T514 s494 w513 ⟨hr, (H : Cx w0 fp0 S0 w513 [Bx b8 [(.int .i64 aA__0), (aA__1h).v, (aA__2h).v, (aA__3h).v], Es (List (Int × Int × List Int × List Int)) aA__1 aA__1h, Es (List Int) aA__2 aA__2h, Es (List Int) aA__3 aA__3h, Bx b11 [(.int .i64 aB__0), (aB__1h).v, (aB__2h).v, (aB__3h).v], Es (List (Int × Int × List Int × List Int)) aB__1 aB__1h, Es (List Int) aB__2 aB__2h, Es (List Int) aB__3 aB__3h, Bx g196_3 [(.int .i64 s195_0), (g196_0).v, (g196_1).v, (g196_2).v], Es (List (Int × Int × List Int × List Int)) s195_1 g196_0, Es (List Int) s195_2 g196_1, Es (List Int) s195_3 g196_2, Bx b413 [(.int .i64 y403_0_0), (h406).v, (h408).v, (h410).v], E (List (Int × Int × List Int × List Int)) y403_0_1 h406, E (List Int) y403_0_2 h408, E (List Int) y403_0_3 h410])⟩
                  subst hr
                  cases s494
                  · have hF515 := condF hF497; clear hF497
                    refine loadN [(.int .i64 y403_0_0), (h406).v, (h408).v, (h410).v] rfl (fun j u hj => H.bx 12 rfl hj) ?_
                    obtain ⟨y516, e, hF517⟩ := bindS hF515; clear hF515
                    obtain ⟨⟨y516_0_0, y516_0_1, y516_0_2, y516_0_3⟩, y516_1⟩ := y516
                    have ey516 := e; clear e
                    replace H := H.sel [13, 14, 15, 0, 1, 2, 3, 4, 5, 6, 7, 8, 9, 10, 11, 12] rfl
                    refine callF (laws_markGraph_c y403_0_0 y403_0_1 h406 y403_0_2 h408 y403_0_3 h410 1 y516_0_0 y516_0_1 y516_0_2 y516_0_3 y516_1 ey516) (Γi := [E (List (Int × Int × List Int × List Int)) y403_0_1 h406, E (List Int) y403_0_2 h408, E (List Int) y403_0_3 h410]) H trivial ?_; clear H ey516
                    rintro _ _ w518 ⟨rfl, rfl⟩ (H : Cx w0 fp0 S0 w518 [E (List (Int × Int × List Int × List Int)) y516_0_1 h406, E (List Int) y516_0_2 h408, E (List Int) y516_0_3 h410, Bx b8 [(.int .i64 aA__0), (aA__1h).v, (aA__2h).v, (aA__3h).v], Es (List (Int × Int × List Int × List Int)) aA__1 aA__1h, Es (List Int) aA__2 aA__2h, Es (List Int) aA__3 aA__3h, Bx b11 [(.int .i64 aB__0), (aB__1h).v, (aB__2h).v, (aB__3h).v], Es (List (Int × Int × List Int × List Int)) aB__1 aB__1h, Es (List Int) aB__2 aB__2h, Es (List Int) aB__3 aB__3h, Bx g196_3 [(.int .i64 s195_0), (g196_0).v, (g196_1).v, (g196_2).v], Es (List (Int × Int × List Int × List Int)) s195_1 g196_0, Es (List Int) s195_2 g196_1, Es (List Int) s195_3 g196_2, Bx b413 [(.int .i64 y403_0_0), (h406).v, (h408).v, (h410).v]])
                    refine loadN [(.int .i64 y403_0_0), (h406).v, (h408).v, (h410).v] rfl (fun j u hj => H.bx 15 rfl hj) ?_
                    obtain ⟨y519, e, hF520⟩ := bindS hF517; clear hF517
                    have ey519 := e; clear e
                    refine callF (laws_heldGraph_c y403_0_0 y516_0_1 h406 y516_0_2 h408 y516_0_3 h410 1 y519 ey519) (Γi := []) H ⟨Vw.own 0 rfl, Vw.own 1 rfl, Vw.own 2 rfl, trivial⟩ ?_; clear H ey519
                    rintro _ _ w521 ⟨rfl, rfl⟩ (H : Cx w0 fp0 S0 w521 [E (List (Int × Int × List Int × List Int)) y516_0_1 h406, E (List Int) y516_0_2 h408, E (List Int) y516_0_3 h410, Bx b8 [(.int .i64 aA__0), (aA__1h).v, (aA__2h).v, (aA__3h).v], Es (List (Int × Int × List Int × List Int)) aA__1 aA__1h, Es (List Int) aA__2 aA__2h, Es (List Int) aA__3 aA__3h, Bx b11 [(.int .i64 aB__0), (aB__1h).v, (aB__2h).v, (aB__3h).v], Es (List (Int × Int × List Int × List Int)) aB__1 aB__1h, Es (List Int) aB__2 aB__2h, Es (List Int) aB__3 aB__3h, Bx g196_3 [(.int .i64 s195_0), (g196_0).v, (g196_1).v, (g196_2).v], Es (List (Int × Int × List Int × List Int)) s195_1 g196_0, Es (List Int) s195_2 g196_1, Es (List Int) s195_3 g196_2, Bx b413 [(.int .i64 y403_0_0), (h406).v, (h408).v, (h410).v]])
                    refine sq ?_
                    obtain ⟨a522, e, hF523⟩ := bindS hF520; clear hF520
                    refine boolO e ?_; clear e
                    cases a522
                    · have hF524 := condF hF523; clear hF523
                      refine sq ?_
                      obtain ⟨a525, e, hF526⟩ := bindS hF524; clear hF524
                      refine boolO e ?_; clear e
                      cases a525
                      · have hF527 := condF hF526; clear hF526
                        obtain ⟨r704, hF706, hF705⟩ := bindS hF527; clear hF527
                        refine heldJ H [9, 10, 7] (.fst 0 (.fst 2 (.alts (.alt 1 (.alts (.alt 3 (.alts (.alt 4 (.fst 5 (.pure 7 (.fst 6 (.act 8 (.act 9 (.act 10 .done)))))) (.alt 8 (.act 4 (.fst 5 (.pure 7 (.fst 6 (.act 9 (.act 10 .done)))))) .no))) (.alt 8 (.act 3 (.act 4 (.fst 5 (.pure 7 (.fst 6 (.act 9 (.act 10 .done))))))) .no))) (.alt 8 (.act 1 (.act 3 (.act 4 (.fst 5 (.pure 7 (.fst 6 (.act 9 (.act 10 .done)))))))) .no))))) mixed [] trivial (by kernel_rfl) (fun (q707 : (Int × (List (Int × Int × List Int × List Int)) × List Int × List Int × Bool) × (Hd × Hd × Hd × Nat)) => [(6, (.pointer (some ⟨g196_3, 0, none⟩))), (7, (.bool s195_4)), (10, (.pointer (some ⟨b413, 0, none⟩))), (13, (.int .i64 y516_1)), (15, (.pointer (some ⟨q707.2.2.2.2, 0, none⟩))), (16, (.bool q707.1.2.2.2.2))]) (fun (q707 : (Int × (List (Int × Int × List Int × List Int)) × List Int × List Int × Bool) × (Hd × Hd × Hd × Nat)) w' => (q707.1.1, q707.1.2.1, q707.1.2.2.1, q707.1.2.2.2.1, q707.1.2.2.2.2) = r704 ∧ Cx w0 fp0 S0 w' [Bx g196_3 [(.int .i64 s195_0), (g196_0).v, (g196_1).v, (g196_2).v], Es (List (Int × Int × List Int × List Int)) s195_1 g196_0, Es (List Int) s195_2 g196_1, Es (List Int) s195_3 g196_2, Bx b413 [(.int .i64 y403_0_0), (h406).v, (h408).v, (h410).v], E (List (Int × Int × List Int × List Int)) y516_0_1 h406, E (List Int) y516_0_2 h408, E (List Int) y516_0_3 h410, Bx q707.2.2.2.2 [(.int .i64 q707.1.1), (q707.2.1).v, (q707.2.2.1).v, (q707.2.2.2.1).v], E (List (Int × Int × List Int × List Int)) q707.1.2.1 q707.2.1, E (List Int) q707.1.2.2.1 q707.2.2.1, E (List Int) q707.1.2.2.2.1 q707.2.2.2.1]) ?_ ?_
                        · skip
                          clear H; intro w708 H
                          have hX : Ext w708 w708 := Upd.refl _ _
                          have H0 := H
                          refine loadNX [(.int .i64 aA__0), (aA__1h).v, (aA__2h).v, (aA__3h).v] rfl (fun j u hj => H.bx 3 rfl hj) ?_
                          refine loadNX [(.int .i64 aB__0), (aB__1h).v, (aB__2h).v, (aB__3h).v] rfl (fun j u hj => H.bx 7 rfl hj) ?_
                          refine both ?_ ?_
                          · skip
                            obtain ⟨y740, e, hF741⟩ := bindS hF706; clear hF706
                            obtain ⟨y740_0, y740_1, y740_2, y740_3⟩ := y740
                            have ey740 := e; clear e
                            refine callFx (laws_toGraph_c aA__0 aA__1 aA__1h aA__2 aA__2h aA__3 aA__3h y740_0 y740_1 y740_2 y740_3 ey740) H ⟨Vw.sh 4 rfl, Vw.sh 5 rfl, Vw.sh 6 rfl, trivial⟩ ?_; clear H ey740
                            rintro _ _ w742 ⟨h743, h745, h747, rfl, rfl⟩ hx (H : Cx w0 fp0 S0 w742 [E (List (Int × Int × List Int × List Int)) y740_1 h743, E (List Int) y740_2 h745, E (List Int) y740_3 h747, E (List (Int × Int × List Int × List Int)) y516_0_1 h406, E (List Int) y516_0_2 h408, E (List Int) y516_0_3 h410, Bx b8 [(.int .i64 aA__0), (aA__1h).v, (aA__2h).v, (aA__3h).v], Es (List (Int × Int × List Int × List Int)) aA__1 aA__1h, Es (List Int) aA__2 aA__2h, Es (List Int) aA__3 aA__3h, Bx b11 [(.int .i64 aB__0), (aB__1h).v, (aB__2h).v, (aB__3h).v], Es (List (Int × Int × List Int × List Int)) aB__1 aB__1h, Es (List Int) aB__2 aB__2h, Es (List Int) aB__3 aB__3h, Bx g196_3 [(.int .i64 s195_0), (g196_0).v, (g196_1).v, (g196_2).v], Es (List (Int × Int × List Int × List Int)) s195_1 g196_0, Es (List Int) s195_2 g196_1, Es (List Int) s195_3 g196_2, Bx b413 [(.int .i64 y403_0_0), (h406).v, (h408).v, (h410).v]])
                            replace hX := hX.trans0 hx; clear hx
                            refine hold hX ?_
                            refine both ?_ ?_
                            · skip
                              obtain ⟨y771, e, hF772⟩ := bindS hF741; clear hF741
                              obtain ⟨y771_0, y771_1, y771_2, y771_3⟩ := y771
                              have ey771 := e; clear e
                              refine callFx (laws_toGraph_c aB__0 aB__1 aB__1h aB__2 aB__2h aB__3 aB__3h y771_0 y771_1 y771_2 y771_3 ey771) H ⟨Vw.sh 11 rfl, Vw.sh 12 rfl, Vw.sh 13 rfl, trivial⟩ ?_; clear H ey771
                              rintro _ _ w773 ⟨h774, h776, h778, rfl, rfl⟩ hx (H : Cx w0 fp0 S0 w773 [E (List (Int × Int × List Int × List Int)) y771_1 h774, E (List Int) y771_2 h776, E (List Int) y771_3 h778, E (List (Int × Int × List Int × List Int)) y740_1 h743, E (List Int) y740_2 h745, E (List Int) y740_3 h747, E (List (Int × Int × List Int × List Int)) y516_0_1 h406, E (List Int) y516_0_2 h408, E (List Int) y516_0_3 h410, Bx b8 [(.int .i64 aA__0), (aA__1h).v, (aA__2h).v, (aA__3h).v], Es (List (Int × Int × List Int × List Int)) aA__1 aA__1h, Es (List Int) aA__2 aA__2h, Es (List Int) aA__3 aA__3h, Bx b11 [(.int .i64 aB__0), (aB__1h).v, (aB__2h).v, (aB__3h).v], Es (List (Int × Int × List Int × List Int)) aB__1 aB__1h, Es (List Int) aB__2 aB__2h, Es (List Int) aB__3 aB__3h, Bx g196_3 [(.int .i64 s195_0), (g196_0).v, (g196_1).v, (g196_2).v], Es (List (Int × Int × List Int × List Int)) s195_1 g196_0, Es (List Int) s195_2 g196_1, Es (List Int) s195_3 g196_2, Bx b413 [(.int .i64 y403_0_0), (h406).v, (h408).v, (h410).v]])
                              replace hX := hX.trans0 hx; clear hx
                              refine hold hX ?_
                              refine both ?_ ?_
                              · skip
                                obtain ⟨y793, e, hF794⟩ := bindS hF772; clear hF772
                                obtain ⟨⟨y793_0_0, y793_0_1, y793_0_2, y793_0_3⟩, y793_1⟩ := y793
                                have ey793 := e; clear e
                                refine callFx (impl_ParGraphs_c y740_0 y740_1 h743 y740_2 h745 y740_3 h747 y771_0 y771_1 h774 y771_2 h776 y771_3 h778 y793_0_0 y793_0_1 y793_0_2 y793_0_3 y793_1 ey793) H ⟨Vw.own 3 rfl, Vw.own 4 rfl, Vw.own 5 rfl, Vw.own 0 rfl, Vw.own 1 rfl, Vw.own 2 rfl, trivial⟩ ?_; clear H ey793
                                rintro _ _ w795 ⟨h796, h798, h800, rfl, rfl⟩ hx (H : Cx w0 fp0 S0 w795 [E (List (Int × Int × List Int × List Int)) y793_0_1 h796, E (List Int) y793_0_2 h798, E (List Int) y793_0_3 h800, E (List (Int × Int × List Int × List Int)) y771_1 h774, E (List Int) y771_2 h776, E (List Int) y771_3 h778, E (List (Int × Int × List Int × List Int)) y740_1 h743, E (List Int) y740_2 h745, E (List Int) y740_3 h747, E (List (Int × Int × List Int × List Int)) y516_0_1 h406, E (List Int) y516_0_2 h408, E (List Int) y516_0_3 h410, Bx b8 [(.int .i64 aA__0), (aA__1h).v, (aA__2h).v, (aA__3h).v], Es (List (Int × Int × List Int × List Int)) aA__1 aA__1h, Es (List Int) aA__2 aA__2h, Es (List Int) aA__3 aA__3h, Bx b11 [(.int .i64 aB__0), (aB__1h).v, (aB__2h).v, (aB__3h).v], Es (List (Int × Int × List Int × List Int)) aB__1 aB__1h, Es (List Int) aB__2 aB__2h, Es (List Int) aB__3 aB__3h, Bx g196_3 [(.int .i64 s195_0), (g196_0).v, (g196_1).v, (g196_2).v], Es (List (Int × Int × List Int × List Int)) s195_1 g196_0, Es (List Int) s195_2 g196_1, Es (List Int) s195_3 g196_2, Bx b413 [(.int .i64 y403_0_0), (h406).v, (h408).v, (h410).v]])
                                replace hX := hX.trans0 hx; clear hx
                                refine hold hX ?_
                                refine alloc_ gok rfl H ?_; clear H; intro b803 w802 hx H
                                replace hX := hX.trans0 hx; clear hx
                                replace H : Cx w0 fp0 S0 w802 [Bx b803 [(.int .i64 0), (.slice none 0 0), (.slice none 0 0), (.slice none 0 0)], E (List (Int × Int × List Int × List Int)) y793_0_1 h796, E (List Int) y793_0_2 h798, E (List Int) y793_0_3 h800, E (List (Int × Int × List Int × List Int)) y771_1 h774, E (List Int) y771_2 h776, E (List Int) y771_3 h778, E (List (Int × Int × List Int × List Int)) y740_1 h743, E (List Int) y740_2 h745, E (List Int) y740_3 h747, E (List (Int × Int × List Int × List Int)) y516_0_1 h406, E (List Int) y516_0_2 h408, E (List Int) y516_0_3 h410, Bx b8 [(.int .i64 aA__0), (aA__1h).v, (aA__2h).v, (aA__3h).v], Es (List (Int × Int × List Int × List Int)) aA__1 aA__1h, Es (List Int) aA__2 aA__2h, Es (List Int) aA__3 aA__3h, Bx b11 [(.int .i64 aB__0), (aB__1h).v, (aB__2h).v, (aB__3h).v], Es (List (Int × Int × List Int × List Int)) aB__1 aB__1h, Es (List Int) aB__2 aB__2h, Es (List Int) aB__3 aB__3h, Bx g196_3 [(.int .i64 s195_0), (g196_0).v, (g196_1).v, (g196_2).v], Es (List (Int × Int × List Int × List Int)) s195_1 g196_0, Es (List Int) s195_2 g196_1, Es (List Int) s195_3 g196_2, Bx b413 [(.int .i64 y403_0_0), (h406).v, (h408).v, (h410).v]] := H
                                refine hold hX ?_
                                refine stA gok [(.int .i64 y793_0_0), (h796).v, (h798).v, (h800).v] rfl H rfl rfl rfl ?_; clear H; intro w805 H
                                replace H : Cx w0 fp0 S0 w805 [Bx b803 [(.int .i64 y793_0_0), (h796).v, (h798).v, (h800).v], E (List (Int × Int × List Int × List Int)) y793_0_1 h796, E (List Int) y793_0_2 h798, E (List Int) y793_0_3 h800, E (List (Int × Int × List Int × List Int)) y771_1 h774, E (List Int) y771_2 h776, E (List Int) y771_3 h778, E (List (Int × Int × List Int × List Int)) y740_1 h743, E (List Int) y740_2 h745, E (List Int) y740_3 h747, E (List (Int × Int × List Int × List Int)) y516_0_1 h406, E (List Int) y516_0_2 h408, E (List Int) y516_0_3 h410, Bx b8 [(.int .i64 aA__0), (aA__1h).v, (aA__2h).v, (aA__3h).v], Es (List (Int × Int × List Int × List Int)) aA__1 aA__1h, Es (List Int) aA__2 aA__2h, Es (List Int) aA__3 aA__3h, Bx b11 [(.int .i64 aB__0), (aB__1h).v, (aB__2h).v, (aB__3h).v], Es (List (Int × Int × List Int × List Int)) aB__1 aB__1h, Es (List Int) aB__2 aB__2h, Es (List Int) aB__3 aB__3h, Bx g196_3 [(.int .i64 s195_0), (g196_0).v, (g196_1).v, (g196_2).v], Es (List (Int × Int × List Int × List Int)) s195_1 g196_0, Es (List Int) s195_2 g196_1, Es (List Int) s195_3 g196_2, Bx b413 [(.int .i64 y403_0_0), (h406).v, (h408).v, (h410).v]] := H
                                refine hold trivial ?_
                                refine hold trivial ?_
                                exact ⟨((y793_0_0, y793_0_1, y793_0_2, y793_0_3, y793_1), (h796, h798, h800, b803)), ⟨rfl, rfl, rfl, rfl, rfl, rfl, trivial⟩, Option.some.inj hF794, H.sel [21, 22, 23, 24, 25, 10, 11, 12, 0, 1, 2, 3] rfl⟩
                              · skip
                                refine both ?_ ?_
                                · skip
                                  obtain ⟨a806, eq807, hF808⟩ := bindS hF772; clear hF772
                                  refine alloc_ gok rfl H ?_; clear H; intro b810 w809 hx H
                                  replace hX := hX.trans0 hx; clear hx
                                  replace H : Cx w0 fp0 S0 w809 [Bx b810 [(.int .i64 0), (.slice none 0 0), (.slice none 0 0), (.slice none 0 0)], E (List (Int × Int × List Int × List Int)) y771_1 h774, E (List Int) y771_2 h776, E (List Int) y771_3 h778, E (List (Int × Int × List Int × List Int)) y740_1 h743, E (List Int) y740_2 h745, E (List Int) y740_3 h747, E (List (Int × Int × List Int × List Int)) y516_0_1 h406, E (List Int) y516_0_2 h408, E (List Int) y516_0_3 h410, Bx b8 [(.int .i64 aA__0), (aA__1h).v, (aA__2h).v, (aA__3h).v], Es (List (Int × Int × List Int × List Int)) aA__1 aA__1h, Es (List Int) aA__2 aA__2h, Es (List Int) aA__3 aA__3h, Bx b11 [(.int .i64 aB__0), (aB__1h).v, (aB__2h).v, (aB__3h).v], Es (List (Int × Int × List Int × List Int)) aB__1 aB__1h, Es (List Int) aB__2 aB__2h, Es (List Int) aB__3 aB__3h, Bx g196_3 [(.int .i64 s195_0), (g196_0).v, (g196_1).v, (g196_2).v], Es (List (Int × Int × List Int × List Int)) s195_1 g196_0, Es (List Int) s195_2 g196_1, Es (List Int) s195_3 g196_2, Bx b413 [(.int .i64 y403_0_0), (h406).v, (h408).v, (h410).v]] := H
                                  refine hold hX ?_
                                  have e := eq807; clear eq807
                                  obtain ⟨⟨a806_0_0, a806_0_1, a806_0_2, a806_0_3⟩, a806_1⟩ := a806
                                  have ea806 := e; clear e
                                  refine callFx (impl_ParGraphs_c y740_0 y740_1 h743 y740_2 h745 y740_3 h747 y771_0 y771_1 h774 y771_2 h776 y771_3 h778 a806_0_0 a806_0_1 a806_0_2 a806_0_3 a806_1 ea806) H ⟨Vw.own 4 rfl, Vw.own 5 rfl, Vw.own 6 rfl, Vw.own 1 rfl, Vw.own 2 rfl, Vw.own 3 rfl, trivial⟩ ?_; clear H ea806
                                  rintro _ _ w812 ⟨h813, h815, h817, rfl, rfl⟩ hx (H : Cx w0 fp0 S0 w812 [E (List (Int × Int × List Int × List Int)) a806_0_1 h813, E (List Int) a806_0_2 h815, E (List Int) a806_0_3 h817, Bx b810 [(.int .i64 0), (.slice none 0 0), (.slice none 0 0), (.slice none 0 0)], E (List (Int × Int × List Int × List Int)) y771_1 h774, E (List Int) y771_2 h776, E (List Int) y771_3 h778, E (List (Int × Int × List Int × List Int)) y740_1 h743, E (List Int) y740_2 h745, E (List Int) y740_3 h747, E (List (Int × Int × List Int × List Int)) y516_0_1 h406, E (List Int) y516_0_2 h408, E (List Int) y516_0_3 h410, Bx b8 [(.int .i64 aA__0), (aA__1h).v, (aA__2h).v, (aA__3h).v], Es (List (Int × Int × List Int × List Int)) aA__1 aA__1h, Es (List Int) aA__2 aA__2h, Es (List Int) aA__3 aA__3h, Bx b11 [(.int .i64 aB__0), (aB__1h).v, (aB__2h).v, (aB__3h).v], Es (List (Int × Int × List Int × List Int)) aB__1 aB__1h, Es (List Int) aB__2 aB__2h, Es (List Int) aB__3 aB__3h, Bx g196_3 [(.int .i64 s195_0), (g196_0).v, (g196_1).v, (g196_2).v], Es (List (Int × Int × List Int × List Int)) s195_1 g196_0, Es (List Int) s195_2 g196_1, Es (List Int) s195_3 g196_2, Bx b413 [(.int .i64 y403_0_0), (h406).v, (h408).v, (h410).v]])
                                  replace hX := hX.trans0 hx; clear hx
                                  refine hold hX ?_
                                  replace H := H.sel [3, 0, 1, 2, 4, 5, 6, 7, 8, 9, 10, 11, 12, 13, 14, 15, 16, 17, 18, 19, 20, 21, 22, 23, 24, 25] rfl
                                  refine stA gok [(.int .i64 a806_0_0), (h813).v, (h815).v, (h817).v] rfl H rfl rfl rfl ?_; clear H; intro w819 H
                                  replace H : Cx w0 fp0 S0 w819 [Bx b810 [(.int .i64 a806_0_0), (h813).v, (h815).v, (h817).v], E (List (Int × Int × List Int × List Int)) a806_0_1 h813, E (List Int) a806_0_2 h815, E (List Int) a806_0_3 h817, E (List (Int × Int × List Int × List Int)) y771_1 h774, E (List Int) y771_2 h776, E (List Int) y771_3 h778, E (List (Int × Int × List Int × List Int)) y740_1 h743, E (List Int) y740_2 h745, E (List Int) y740_3 h747, E (List (Int × Int × List Int × List Int)) y516_0_1 h406, E (List Int) y516_0_2 h408, E (List Int) y516_0_3 h410, Bx b8 [(.int .i64 aA__0), (aA__1h).v, (aA__2h).v, (aA__3h).v], Es (List (Int × Int × List Int × List Int)) aA__1 aA__1h, Es (List Int) aA__2 aA__2h, Es (List Int) aA__3 aA__3h, Bx b11 [(.int .i64 aB__0), (aB__1h).v, (aB__2h).v, (aB__3h).v], Es (List (Int × Int × List Int × List Int)) aB__1 aB__1h, Es (List Int) aB__2 aB__2h, Es (List Int) aB__3 aB__3h, Bx g196_3 [(.int .i64 s195_0), (g196_0).v, (g196_1).v, (g196_2).v], Es (List (Int × Int × List Int × List Int)) s195_1 g196_0, Es (List Int) s195_2 g196_1, Es (List Int) s195_3 g196_2, Bx b413 [(.int .i64 y403_0_0), (h406).v, (h408).v, (h410).v]] := H
                                  refine hold trivial ?_
                                  refine hold trivial ?_
                                  exact ⟨((a806_0_0, a806_0_1, a806_0_2, a806_0_3, a806_1), (h813, h815, h817, b810)), ⟨rfl, rfl, rfl, rfl, rfl, rfl, trivial⟩, Option.some.inj hF808, H.sel [21, 22, 23, 24, 25, 10, 11, 12, 0, 1, 2, 3] rfl⟩
                                · skip
                                  exact trivial
                            · skip
                              refine both ?_ ?_
                              · skip
                                obtain ⟨a820, eq821, hF822⟩ := bindS hF741; clear hF741
                                obtain ⟨a823, eq824, hF825⟩ := bindS hF822; clear hF822
                                refine alloc_ gok rfl H ?_; clear H; intro b827 w826 hx H
                                replace hX := hX.trans0 hx; clear hx
                                replace H : Cx w0 fp0 S0 w826 [Bx b827 [(.int .i64 0), (.slice none 0 0), (.slice none 0 0), (.slice none 0 0)], E (List (Int × Int × List Int × List Int)) y740_1 h743, E (List Int) y740_2 h745, E (List Int) y740_3 h747, E (List (Int × Int × List Int × List Int)) y516_0_1 h406, E (List Int) y516_0_2 h408, E (List Int) y516_0_3 h410, Bx b8 [(.int .i64 aA__0), (aA__1h).v, (aA__2h).v, (aA__3h).v], Es (List (Int × Int × List Int × List Int)) aA__1 aA__1h, Es (List Int) aA__2 aA__2h, Es (List Int) aA__3 aA__3h, Bx b11 [(.int .i64 aB__0), (aB__1h).v, (aB__2h).v, (aB__3h).v], Es (List (Int × Int × List Int × List Int)) aB__1 aB__1h, Es (List Int) aB__2 aB__2h, Es (List Int) aB__3 aB__3h, Bx g196_3 [(.int .i64 s195_0), (g196_0).v, (g196_1).v, (g196_2).v], Es (List (Int × Int × List Int × List Int)) s195_1 g196_0, Es (List Int) s195_2 g196_1, Es (List Int) s195_3 g196_2, Bx b413 [(.int .i64 y403_0_0), (h406).v, (h408).v, (h410).v]] := H
                                refine hold hX ?_
                                have e := eq821; clear eq821
                                obtain ⟨a820_0, a820_1, a820_2, a820_3⟩ := a820
                                have ea820 := e; clear e
                                refine callFx (laws_toGraph_c aB__0 aB__1 aB__1h aB__2 aB__2h aB__3 aB__3h a820_0 a820_1 a820_2 a820_3 ea820) H ⟨Vw.sh 12 rfl, Vw.sh 13 rfl, Vw.sh 14 rfl, trivial⟩ ?_; clear H ea820
                                rintro _ _ w829 ⟨h830, h832, h834, rfl, rfl⟩ hx (H : Cx w0 fp0 S0 w829 [E (List (Int × Int × List Int × List Int)) a820_1 h830, E (List Int) a820_2 h832, E (List Int) a820_3 h834, Bx b827 [(.int .i64 0), (.slice none 0 0), (.slice none 0 0), (.slice none 0 0)], E (List (Int × Int × List Int × List Int)) y740_1 h743, E (List Int) y740_2 h745, E (List Int) y740_3 h747, E (List (Int × Int × List Int × List Int)) y516_0_1 h406, E (List Int) y516_0_2 h408, E (List Int) y516_0_3 h410, Bx b8 [(.int .i64 aA__0), (aA__1h).v, (aA__2h).v, (aA__3h).v], Es (List (Int × Int × List Int × List Int)) aA__1 aA__1h, Es (List Int) aA__2 aA__2h, Es (List Int) aA__3 aA__3h, Bx b11 [(.int .i64 aB__0), (aB__1h).v, (aB__2h).v, (aB__3h).v], Es (List (Int × Int × List Int × List Int)) aB__1 aB__1h, Es (List Int) aB__2 aB__2h, Es (List Int) aB__3 aB__3h, Bx g196_3 [(.int .i64 s195_0), (g196_0).v, (g196_1).v, (g196_2).v], Es (List (Int × Int × List Int × List Int)) s195_1 g196_0, Es (List Int) s195_2 g196_1, Es (List Int) s195_3 g196_2, Bx b413 [(.int .i64 y403_0_0), (h406).v, (h408).v, (h410).v]])
                                replace hX := hX.trans0 hx; clear hx
                                refine hold hX ?_
                                have e := eq824; clear eq824
                                obtain ⟨⟨a823_0_0, a823_0_1, a823_0_2, a823_0_3⟩, a823_1⟩ := a823
                                have ea823 := e; clear e
                                refine callFx (impl_ParGraphs_c y740_0 y740_1 h743 y740_2 h745 y740_3 h747 a820_0 a820_1 h830 a820_2 h832 a820_3 h834 a823_0_0 a823_0_1 a823_0_2 a823_0_3 a823_1 ea823) H ⟨Vw.own 4 rfl, Vw.own 5 rfl, Vw.own 6 rfl, Vw.own 0 rfl, Vw.own 1 rfl, Vw.own 2 rfl, trivial⟩ ?_; clear H ea823
                                rintro _ _ w836 ⟨h837, h839, h841, rfl, rfl⟩ hx (H : Cx w0 fp0 S0 w836 [E (List (Int × Int × List Int × List Int)) a823_0_1 h837, E (List Int) a823_0_2 h839, E (List Int) a823_0_3 h841, E (List (Int × Int × List Int × List Int)) a820_1 h830, E (List Int) a820_2 h832, E (List Int) a820_3 h834, Bx b827 [(.int .i64 0), (.slice none 0 0), (.slice none 0 0), (.slice none 0 0)], E (List (Int × Int × List Int × List Int)) y740_1 h743, E (List Int) y740_2 h745, E (List Int) y740_3 h747, E (List (Int × Int × List Int × List Int)) y516_0_1 h406, E (List Int) y516_0_2 h408, E (List Int) y516_0_3 h410, Bx b8 [(.int .i64 aA__0), (aA__1h).v, (aA__2h).v, (aA__3h).v], Es (List (Int × Int × List Int × List Int)) aA__1 aA__1h, Es (List Int) aA__2 aA__2h, Es (List Int) aA__3 aA__3h, Bx b11 [(.int .i64 aB__0), (aB__1h).v, (aB__2h).v, (aB__3h).v], Es (List (Int × Int × List Int × List Int)) aB__1 aB__1h, Es (List Int) aB__2 aB__2h, Es (List Int) aB__3 aB__3h, Bx g196_3 [(.int .i64 s195_0), (g196_0).v, (g196_1).v, (g196_2).v], Es (List (Int × Int × List Int × List Int)) s195_1 g196_0, Es (List Int) s195_2 g196_1, Es (List Int) s195_3 g196_2, Bx b413 [(.int .i64 y403_0_0), (h406).v, (h408).v, (h410).v]])
                                replace hX := hX.trans0 hx; clear hx
                                refine hold hX ?_
                                replace H := H.sel [6, 0, 1, 2, 3, 4, 5, 7, 8, 9, 10, 11, 12, 13, 14, 15, 16, 17, 18, 19, 20, 21, 22, 23, 24, 25] rfl
                                refine stA gok [(.int .i64 a823_0_0), (h837).v, (h839).v, (h841).v] rfl H rfl rfl rfl ?_; clear H; intro w843 H
                                replace H : Cx w0 fp0 S0 w843 [Bx b827 [(.int .i64 a823_0_0), (h837).v, (h839).v, (h841).v], E (List (Int × Int × List Int × List Int)) a823_0_1 h837, E (List Int) a823_0_2 h839, E (List Int) a823_0_3 h841, E (List (Int × Int × List Int × List Int)) a820_1 h830, E (List Int) a820_2 h832, E (List Int) a820_3 h834, E (List (Int × Int × List Int × List Int)) y740_1 h743, E (List Int) y740_2 h745, E (List Int) y740_3 h747, E (List (Int × Int × List Int × List Int)) y516_0_1 h406, E (List Int) y516_0_2 h408, E (List Int) y516_0_3 h410, Bx b8 [(.int .i64 aA__0), (aA__1h).v, (aA__2h).v, (aA__3h).v], Es (List (Int × Int × List Int × List Int)) aA__1 aA__1h, Es (List Int) aA__2 aA__2h, Es (List Int) aA__3 aA__3h, Bx b11 [(.int .i64 aB__0), (aB__1h).v, (aB__2h).v, (aB__3h).v], Es (List (Int × Int × List Int × List Int)) aB__1 aB__1h, Es (List Int) aB__2 aB__2h, Es (List Int) aB__3 aB__3h, Bx g196_3 [(.int .i64 s195_0), (g196_0).v, (g196_1).v, (g196_2).v], Es (List (Int × Int × List Int × List Int)) s195_1 g196_0, Es (List Int) s195_2 g196_1, Es (List Int) s195_3 g196_2, Bx b413 [(.int .i64 y403_0_0), (h406).v, (h408).v, (h410).v]] := H
                                refine hold trivial ?_
                                refine hold trivial ?_
                                exact ⟨((a823_0_0, a823_0_1, a823_0_2, a823_0_3, a823_1), (h837, h839, h841, b827)), ⟨rfl, rfl, rfl, rfl, rfl, rfl, trivial⟩, Option.some.inj hF825, H.sel [21, 22, 23, 24, 25, 10, 11, 12, 0, 1, 2, 3] rfl⟩
                              · skip
                                exact trivial
                          · skip
                            refine both ?_ ?_
                            · skip
                              obtain ⟨a844, eq845, hF846⟩ := bindS hF706; clear hF706
                              obtain ⟨a847, eq848, hF849⟩ := bindS hF846; clear hF846
                              obtain ⟨a850, eq851, hF852⟩ := bindS hF849; clear hF849
                              refine alloc_ gok rfl H ?_; clear H; intro b854 w853 hx H
                              replace hX := hX.trans0 hx; clear hx
                              replace H : Cx w0 fp0 S0 w853 [Bx b854 [(.int .i64 0), (.slice none 0 0), (.slice none 0 0), (.slice none 0 0)], E (List (Int × Int × List Int × List Int)) y516_0_1 h406, E (List Int) y516_0_2 h408, E (List Int) y516_0_3 h410, Bx b8 [(.int .i64 aA__0), (aA__1h).v, (aA__2h).v, (aA__3h).v], Es (List (Int × Int × List Int × List Int)) aA__1 aA__1h, Es (List Int) aA__2 aA__2h, Es (List Int) aA__3 aA__3h, Bx b11 [(.int .i64 aB__0), (aB__1h).v, (aB__2h).v, (aB__3h).v], Es (List (Int × Int × List Int × List Int)) aB__1 aB__1h, Es (List Int) aB__2 aB__2h, Es (List Int) aB__3 aB__3h, Bx g196_3 [(.int .i64 s195_0), (g196_0).v, (g196_1).v, (g196_2).v], Es (List (Int × Int × List Int × List Int)) s195_1 g196_0, Es (List Int) s195_2 g196_1, Es (List Int) s195_3 g196_2, Bx b413 [(.int .i64 y403_0_0), (h406).v, (h408).v, (h410).v]] := H
                              refine hold hX ?_
                              have e := eq845; clear eq845
                              obtain ⟨a844_0, a844_1, a844_2, a844_3⟩ := a844
                              have ea844 := e; clear e
                              refine callFx (laws_toGraph_c aA__0 aA__1 aA__1h aA__2 aA__2h aA__3 aA__3h a844_0 a844_1 a844_2 a844_3 ea844) H ⟨Vw.sh 5 rfl, Vw.sh 6 rfl, Vw.sh 7 rfl, trivial⟩ ?_; clear H ea844
                              rintro _ _ w856 ⟨h857, h859, h861, rfl, rfl⟩ hx (H : Cx w0 fp0 S0 w856 [E (List (Int × Int × List Int × List Int)) a844_1 h857, E (List Int) a844_2 h859, E (List Int) a844_3 h861, Bx b854 [(.int .i64 0), (.slice none 0 0), (.slice none 0 0), (.slice none 0 0)], E (List (Int × Int × List Int × List Int)) y516_0_1 h406, E (List Int) y516_0_2 h408, E (List Int) y516_0_3 h410, Bx b8 [(.int .i64 aA__0), (aA__1h).v, (aA__2h).v, (aA__3h).v], Es (List (Int × Int × List Int × List Int)) aA__1 aA__1h, Es (List Int) aA__2 aA__2h, Es (List Int) aA__3 aA__3h, Bx b11 [(.int .i64 aB__0), (aB__1h).v, (aB__2h).v, (aB__3h).v], Es (List (Int × Int × List Int × List Int)) aB__1 aB__1h, Es (List Int) aB__2 aB__2h, Es (List Int) aB__3 aB__3h, Bx g196_3 [(.int .i64 s195_0), (g196_0).v, (g196_1).v, (g196_2).v], Es (List (Int × Int × List Int × List Int)) s195_1 g196_0, Es (List Int) s195_2 g196_1, Es (List Int) s195_3 g196_2, Bx b413 [(.int .i64 y403_0_0), (h406).v, (h408).v, (h410).v]])
                              replace hX := hX.trans0 hx; clear hx
                              refine hold hX ?_
                              have e := eq848; clear eq848
                              obtain ⟨a847_0, a847_1, a847_2, a847_3⟩ := a847
                              have ea847 := e; clear e
                              refine callFx (laws_toGraph_c aB__0 aB__1 aB__1h aB__2 aB__2h aB__3 aB__3h a847_0 a847_1 a847_2 a847_3 ea847) H ⟨Vw.sh 12 rfl, Vw.sh 13 rfl, Vw.sh 14 rfl, trivial⟩ ?_; clear H ea847
                              rintro _ _ w863 ⟨h864, h866, h868, rfl, rfl⟩ hx (H : Cx w0 fp0 S0 w863 [E (List (Int × Int × List Int × List Int)) a847_1 h864, E (List Int) a847_2 h866, E (List Int) a847_3 h868, E (List (Int × Int × List Int × List Int)) a844_1 h857, E (List Int) a844_2 h859, E (List Int) a844_3 h861, Bx b854 [(.int .i64 0), (.slice none 0 0), (.slice none 0 0), (.slice none 0 0)], E (List (Int × Int × List Int × List Int)) y516_0_1 h406, E (List Int) y516_0_2 h408, E (List Int) y516_0_3 h410, Bx b8 [(.int .i64 aA__0), (aA__1h).v, (aA__2h).v, (aA__3h).v], Es (List (Int × Int × List Int × List Int)) aA__1 aA__1h, Es (List Int) aA__2 aA__2h, Es (List Int) aA__3 aA__3h, Bx b11 [(.int .i64 aB__0), (aB__1h).v, (aB__2h).v, (aB__3h).v], Es (List (Int × Int × List Int × List Int)) aB__1 aB__1h, Es (List Int) aB__2 aB__2h, Es (List Int) aB__3 aB__3h, Bx g196_3 [(.int .i64 s195_0), (g196_0).v, (g196_1).v, (g196_2).v], Es (List (Int × Int × List Int × List Int)) s195_1 g196_0, Es (List Int) s195_2 g196_1, Es (List Int) s195_3 g196_2, Bx b413 [(.int .i64 y403_0_0), (h406).v, (h408).v, (h410).v]])
                              replace hX := hX.trans0 hx; clear hx
                              refine hold hX ?_
                              have e := eq851; clear eq851
                              obtain ⟨⟨a850_0_0, a850_0_1, a850_0_2, a850_0_3⟩, a850_1⟩ := a850
                              have ea850 := e; clear e
                              refine callFx (impl_ParGraphs_c a844_0 a844_1 h857 a844_2 h859 a844_3 h861 a847_0 a847_1 h864 a847_2 h866 a847_3 h868 a850_0_0 a850_0_1 a850_0_2 a850_0_3 a850_1 ea850) H ⟨Vw.own 3 rfl, Vw.own 4 rfl, Vw.own 5 rfl, Vw.own 0 rfl, Vw.own 1 rfl, Vw.own 2 rfl, trivial⟩ ?_; clear H ea850
                              rintro _ _ w870 ⟨h871, h873, h875, rfl, rfl⟩ hx (H : Cx w0 fp0 S0 w870 [E (List (Int × Int × List Int × List Int)) a850_0_1 h871, E (List Int) a850_0_2 h873, E (List Int) a850_0_3 h875, E (List (Int × Int × List Int × List Int)) a847_1 h864, E (List Int) a847_2 h866, E (List Int) a847_3 h868, E (List (Int × Int × List Int × List Int)) a844_1 h857, E (List Int) a844_2 h859, E (List Int) a844_3 h861, Bx b854 [(.int .i64 0), (.slice none 0 0), (.slice none 0 0), (.slice none 0 0)], E (List (Int × Int × List Int × List Int)) y516_0_1 h406, E (List Int) y516_0_2 h408, E (List Int) y516_0_3 h410, Bx b8 [(.int .i64 aA__0), (aA__1h).v, (aA__2h).v, (aA__3h).v], Es (List (Int × Int × List Int × List Int)) aA__1 aA__1h, Es (List Int) aA__2 aA__2h, Es (List Int) aA__3 aA__3h, Bx b11 [(.int .i64 aB__0), (aB__1h).v, (aB__2h).v, (aB__3h).v], Es (List (Int × Int × List Int × List Int)) aB__1 aB__1h, Es (List Int) aB__2 aB__2h, Es (List Int) aB__3 aB__3h, Bx g196_3 [(.int .i64 s195_0), (g196_0).v, (g196_1).v, (g196_2).v], Es (List (Int × Int × List Int × List Int)) s195_1 g196_0, Es (List Int) s195_2 g196_1, Es (List Int) s195_3 g196_2, Bx b413 [(.int .i64 y403_0_0), (h406).v, (h408).v, (h410).v]])
                              replace hX := hX.trans0 hx; clear hx
                              refine hold hX ?_
                              replace H := H.sel [9, 0, 1, 2, 3, 4, 5, 6, 7, 8, 10, 11, 12, 13, 14, 15, 16, 17, 18, 19, 20, 21, 22, 23, 24, 25] rfl
                              refine stA gok [(.int .i64 a850_0_0), (h871).v, (h873).v, (h875).v] rfl H rfl rfl rfl ?_; clear H; intro w877 H
                              replace H : Cx w0 fp0 S0 w877 [Bx b854 [(.int .i64 a850_0_0), (h871).v, (h873).v, (h875).v], E (List (Int × Int × List Int × List Int)) a850_0_1 h871, E (List Int) a850_0_2 h873, E (List Int) a850_0_3 h875, E (List (Int × Int × List Int × List Int)) a847_1 h864, E (List Int) a847_2 h866, E (List Int) a847_3 h868, E (List (Int × Int × List Int × List Int)) a844_1 h857, E (List Int) a844_2 h859, E (List Int) a844_3 h861, E (List (Int × Int × List Int × List Int)) y516_0_1 h406, E (List Int) y516_0_2 h408, E (List Int) y516_0_3 h410, Bx b8 [(.int .i64 aA__0), (aA__1h).v, (aA__2h).v, (aA__3h).v], Es (List (Int × Int × List Int × List Int)) aA__1 aA__1h, Es (List Int) aA__2 aA__2h, Es (List Int) aA__3 aA__3h, Bx b11 [(.int .i64 aB__0), (aB__1h).v, (aB__2h).v, (aB__3h).v], Es (List (Int × Int × List Int × List Int)) aB__1 aB__1h, Es (List Int) aB__2 aB__2h, Es (List Int) aB__3 aB__3h, Bx g196_3 [(.int .i64 s195_0), (g196_0).v, (g196_1).v, (g196_2).v], Es (List (Int × Int × List Int × List Int)) s195_1 g196_0, Es (List Int) s195_2 g196_1, Es (List Int) s195_3 g196_2, Bx b413 [(.int .i64 y403_0_0), (h406).v, (h408).v, (h410).v]] := H
                              refine hold trivial ?_
                              refine hold trivial ?_
                              exact ⟨((a850_0_0, a850_0_1, a850_0_2, a850_0_3, a850_1), (h871, h873, h875, b854)), ⟨rfl, rfl, rfl, rfl, rfl, rfl, trivial⟩, Option.some.inj hF852, H.sel [21, 22, 23, 24, 25, 10, 11, 12, 0, 1, 2, 3] rfl⟩
                            · skip
                              exact trivial
                        · clear hF706 H
                          rintro T879 ⟨⟨s698_0, s698_1, s698_2, s698_3, s698_4⟩, ⟨g699_0, g699_1, g699_2, g699_3⟩⟩ w878 ⟨hr, (H : Cx w0 fp0 S0 w878 [Bx g196_3 [(.int .i64 s195_0), (g196_0).v, (g196_1).v, (g196_2).v], Es (List (Int × Int × List Int × List Int)) s195_1 g196_0, Es (List Int) s195_2 g196_1, Es (List Int) s195_3 g196_2, Bx b413 [(.int .i64 y403_0_0), (h406).v, (h408).v, (h410).v], E (List (Int × Int × List Int × List Int)) y516_0_1 h406, E (List Int) y516_0_2 h408, E (List Int) y516_0_3 h410, Bx g699_3 [(.int .i64 s698_0), (g699_0).v, (g699_1).v, (g699_2).v], E (List (Int × Int × List Int × List Int)) s698_1 g699_0, E (List Int) s698_2 g699_1, E (List Int) s698_3 g699_2])⟩
                          subst hr
                          refine sq ?_
                          obtain ⟨r891, hF893, hF892⟩ := bindS hF705; clear hF705
                          refine cut (fun (q894 : Bool) => [(10, (.pointer (some ⟨b413, 0, none⟩))), (13, (.int .i64 y516_1)), (110, (.bool q894))]) (fun (q894 : Bool) w' => q894 = r891 ∧ Cx w0 fp0 S0 w' [Bx b413 [(.int .i64 y403_0_0), (h406).v, (h408).v, (h410).v], E (List (Int × Int × List Int × List Int)) y516_0_1 h406, E (List Int) y516_0_2 h408, E (List Int) y516_0_3 h410]) ?_ ?_
                          · skip
                            refine loadN [(.int .i64 s698_0), (g699_0).v, (g699_1).v, (g699_2).v] rfl (fun j u hj => H.bx 8 rfl hj) ?_
                            refine loadN [(.int .i64 s195_0), (g196_0).v, (g196_1).v, (g196_2).v] rfl (fun j u hj => H.bx 0 rfl hj) ?_
                            obtain ⟨y895, e, hF896⟩ := bindS hF893; clear hF893
                            have ey895 := e; clear e
                            refine callF (laws_eqGraph_c s698_0 s698_1 g699_0 s698_2 g699_1 s698_3 g699_2 s195_0 s195_1 g196_0 s195_2 g196_1 s195_3 g196_2 y895 ey895) (Γi := []) H ⟨Vw.own 9 rfl, Vw.own 10 rfl, Vw.own 11 rfl, Vw.sh 1 rfl, Vw.sh 2 rfl, Vw.sh 3 rfl, trivial⟩ ?_; clear H ey895
                            rintro _ _ w897 ⟨rfl, rfl⟩ (H : Cx w0 fp0 S0 w897 [Bx g196_3 [(.int .i64 s195_0), (g196_0).v, (g196_1).v, (g196_2).v], Es (List (Int × Int × List Int × List Int)) s195_1 g196_0, Es (List Int) s195_2 g196_1, Es (List Int) s195_3 g196_2, Bx b413 [(.int .i64 y403_0_0), (h406).v, (h408).v, (h410).v], E (List (Int × Int × List Int × List Int)) y516_0_1 h406, E (List Int) y516_0_2 h408, E (List Int) y516_0_3 h410, Bx g699_3 [(.int .i64 s698_0), (g699_0).v, (g699_1).v, (g699_2).v], E (List (Int × Int × List Int × List Int)) s698_1 g699_0, E (List Int) s698_2 g699_1, E (List Int) s698_3 g699_2])
                            obtain ⟨a898, e, hF899⟩ := bindS hF896; clear hF896
                            refine boolO e ?_; clear e
                            cases a898
                            · have hF900 := condF hF899; clear hF899
                              obtain ⟨a901, e, hF902⟩ := bindS hF900; clear hF900
                              refine boolO e ?_; clear e
                              exact ⟨a901, ⟨rfl, rfl, rfl, trivial⟩, Option.some.inj hF902, H.sel [4, 5, 6, 7] rfl⟩
                            · have hF903 := condT hF899; clear hF899
                              exact ⟨true, ⟨rfl, rfl, rfl, trivial⟩, Option.some.inj hF903, H.sel [4, 5, 6, 7] rfl⟩
                          · clear hF893 H
                            rintro T905 s889 w904 ⟨hr, (H : Cx w0 fp0 S0 w904 [Bx b413 [(.int .i64 y403_0_0), (h406).v, (h408).v, (h410).v], E (List (Int × Int × List Int × List Int)) y516_0_1 h406, E (List Int) y516_0_2 h408, E (List Int) y516_0_3 h410])⟩
                            subst hr
                            cases s889
                            · have hF906 := condF hF892; clear hF892
                              refine loadN [(.int .i64 y403_0_0), (h406).v, (h408).v, (h410).v] rfl (fun j u hj => H.bx 0 rfl hj) ?_
                              obtain ⟨y907, e, hF908⟩ := bindS hF906; clear hF906
                              have ey907 := e; clear e
                              refine callF (laws_heldGraph_c y403_0_0 y516_0_1 h406 y516_0_2 h408 y516_0_3 h410 1 y907 ey907) (Γi := []) H ⟨Vw.own 1 rfl, Vw.own 2 rfl, Vw.own 3 rfl, trivial⟩ ?_; clear H ey907
                              rintro _ _ w909 ⟨rfl, rfl⟩ (H : Cx w0 fp0 S0 w909 [Bx b413 [(.int .i64 y403_0_0), (h406).v, (h408).v, (h410).v], E (List (Int × Int × List Int × List Int)) y516_0_1 h406, E (List Int) y516_0_2 h408, E (List Int) y516_0_3 h410])
                              refine sq ?_
                              obtain ⟨a910, e, hF911⟩ := bindS hF908; clear hF908
                              refine boolO e ?_; clear e
                              cases a910
                              · have hF912 := condF hF911; clear hF911
                                refine sq ?_
                                obtain ⟨a913, e, hF914⟩ := bindS hF912; clear hF912
                                refine boolO e ?_; clear e
                                cases a913
                                · have hF915 := condF hF914; clear hF914
                                  cases hF915
                                  exact ⟨_, _, rfl, ⟨rfl, rfl⟩, (H.sel [] rfl).close trivial⟩
                                · have hF916 := condT hF914; clear hF914
                                  cases hF916
                                  exact ⟨_, _, rfl, ⟨rfl, rfl⟩, (H.sel [] rfl).close trivial⟩
                              · have hF917 := condT hF911; clear hF911
                                cases hF917
                                exact ⟨_, _, rfl, ⟨rfl, rfl⟩, (H.sel [] rfl).close trivial⟩
                            · have hF918 := condT hF892; clear hF892
                              cases hF918
                              exact ⟨_, _, rfl, ⟨rfl, rfl⟩, (H.sel [] rfl).close trivial⟩
                      · have hF919 := condT hF526; clear hF526
                        cases hF919
                        exact ⟨_, _, rfl, ⟨rfl, rfl⟩, (H.sel [] rfl).close trivial⟩
                    · have hF920 := condT hF523; clear hF523
                      cases hF920
                      exact ⟨_, _, rfl, ⟨rfl, rfl⟩, (H.sel [] rfl).close trivial⟩
                  · have hF921 := condT hF497; clear hF497
                    cases hF921
                    exact ⟨_, _, rfl, ⟨rfl, rfl⟩, (H.sel [] rfl).close trivial⟩
              · have hF922 := condT hF473; clear hF473
                cases hF922
                exact ⟨_, _, rfl, ⟨rfl, rfl⟩, (H.sel [] rfl).close trivial⟩
            · have hF923 := condT hF457; clear hF457
              cases hF923
              exact ⟨_, _, rfl, ⟨rfl, rfl⟩, (H.sel [] rfl).close trivial⟩
          · have hF924 := condT hF428; clear hF428
            cases hF924
            exact ⟨_, _, rfl, ⟨rfl, rfl⟩, (H.sel [] rfl).close trivial⟩
    · have hF925 := condT hF23; clear hF23
      cases hF925
      exact ⟨_, _, rfl, ⟨rfl, rfl⟩, (H.sel [] rfl).close trivial⟩
  · have hF926 := condT hF17; clear hF17
    cases hF926
    exact ⟨_, _, rfl, ⟨rfl, rfl⟩, (H.sel [] rfl).close trivial⟩
end Go.Proofs.Ytgfnophfoccamaa
