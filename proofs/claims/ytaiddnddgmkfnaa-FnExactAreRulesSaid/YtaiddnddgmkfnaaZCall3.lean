/-
  Contracts, printed by a program (wip/y/gen.py): each function of Go computes its partial function. Condition of each: its partial function yields a value.
-/
import Derived.Test.YtaiddnddgmkfnaaZCall2
namespace Go.Proofs.Ytaiddnddgmkfnaa
open Go Go.Proofs.Ytaiddnddgmkfnaa.RW
set_option maxRecDepth 100000
set_option linter.unusedVariables false

theorem impl_Graph_beside_c (g__0 : Int) (g__1 : List (Int × Int × List Int × List Int)) (g__1h : Hd) (g__2 : List Int) (g__2h : Hd) (g__3 : List Int) (g__3h : Hd) (h__0 : Int) (h__1 : List (Int × Int × List Int × List Int)) (h__1h : Hd) (h__2 : List Int) (h__2h : Hd) (h__3 : List Int) (h__3h : Hd) (y_0 : Int) (y_1 : List (Int × Int × List Int × List Int)) (y_2 : List Int) (y_3 : List Int) (hF : F_impl_Graph_beside (g__0, g__1, g__2, g__3) (h__0, h__1, h__2, h__3) = some (y_0, y_1, y_2, y_3)) :
    ConF Try.prog 67 #[(.agg #[(.int .i64 g__0), (g__1h).v, (g__2h).v, (g__3h).v]), (.agg #[(.int .i64 h__0), (h__1h).v, (h__2h).v, (h__3h).v])] [Es (List (Int × Int × List Int × List Int)) g__1 g__1h, Es (List Int) g__2 g__2h, Es (List Int) g__3 g__3h, Es (List (Int × Int × List Int × List Int)) h__1 h__1h, Es (List Int) h__2 h__2h, Es (List Int) h__3 h__3h] [] (fun v Γ' => ∃ z0 z1 z2 : Hd, v = (.agg #[(.int .i64 y_0), (z0).v, (z1).v, (z2).v]) ∧ Γ' = [E (List (Int × Int × List Int × List Int)) y_1 z0, E (List Int) y_2 z1, E (List Int) y_3 z2]) := by
  intro w0 S0 fp0 hI hS
  have H : Cx w0 fp0 S0 w0 [Es (List (Int × Int × List Int × List Int)) g__1 g__1h, Es (List Int) g__2 g__2h, Es (List Int) g__3 g__3h, Es (List (Int × Int × List Int × List Int)) h__1 h__1h, Es (List Int) h__2 h__2h, Es (List Int) h__3 h__3h] := Cx.start hI hS
  clear hI hS
  refine enterC (args := [_, _]) gok Try.func67 rfl _ rfl rfl rfl ?_
  refine box_ H ?_; clear H; intro b8 w7 hx H
  clear hx
  replace H : Cx w0 fp0 S0 w7 [Bx b8 [(.int .i64 g__0), (g__1h).v, (g__2h).v, (g__3h).v], Es (List (Int × Int × List Int × List Int)) g__1 g__1h, Es (List Int) g__2 g__2h, Es (List Int) g__3 g__3h, Es (List (Int × Int × List Int × List Int)) h__1 h__1h, Es (List Int) h__2 h__2h, Es (List Int) h__3 h__3h] := H
  refine box_ H ?_; clear H; intro b11 w10 hx H
  clear hx
  replace H : Cx w0 fp0 S0 w10 [Bx b11 [(.int .i64 h__0), (h__1h).v, (h__2h).v, (h__3h).v], Bx b8 [(.int .i64 g__0), (g__1h).v, (g__2h).v, (g__3h).v], Es (List (Int × Int × List Int × List Int)) g__1 g__1h, Es (List Int) g__2 g__2h, Es (List Int) g__3 g__3h, Es (List (Int × Int × List Int × List Int)) h__1 h__1h, Es (List Int) h__2 h__2h, Es (List Int) h__3 h__3h] := H
  refine alloc_ gok rfl H ?_; clear H; intro b14 w13 hx H
  clear hx
  replace H : Cx w0 fp0 S0 w13 [Bx b14 [(.int .i64 0), (.slice none 0 0), (.slice none 0 0), (.slice none 0 0)], Bx b11 [(.int .i64 h__0), (h__1h).v, (h__2h).v, (h__3h).v], Bx b8 [(.int .i64 g__0), (g__1h).v, (g__2h).v, (g__3h).v], Es (List (Int × Int × List Int × List Int)) g__1 g__1h, Es (List Int) g__2 g__2h, Es (List Int) g__3 g__3h, Es (List (Int × Int × List Int × List Int)) h__1 h__1h, Es (List Int) h__2 h__2h, Es (List Int) h__3 h__3h] := H
  refine fld gok rfl rfl rfl rfl ?_
  refine load1 (H.bx 2 rfl (j := 0) rfl) ?_
  refine fld gok rfl rfl rfl rfl ?_
  refine load1 (H.bx 1 rfl (j := 0) rfl) ?_
  obtain ⟨a16, e, hF17⟩ := bindS hF; clear hF
  refine arO e ?_; clear e
  refine build_ (cs := #[(.int .i64 a16), (.slice none 0 0), (.slice none 0 0), (.slice none 0 0)]) gok rfl rfl rfl ?_
  refine alloc_ gok rfl H ?_; clear H; intro b19 w18 hx H
  clear hx
  replace H : Cx w0 fp0 S0 w18 [Bx b19 [(.int .i64 0), (.slice none 0 0), (.slice none 0 0), (.slice none 0 0)], Bx b14 [(.int .i64 0), (.slice none 0 0), (.slice none 0 0), (.slice none 0 0)], Bx b11 [(.int .i64 h__0), (h__1h).v, (h__2h).v, (h__3h).v], Bx b8 [(.int .i64 g__0), (g__1h).v, (g__2h).v, (g__3h).v], Es (List (Int × Int × List Int × List Int)) g__1 g__1h, Es (List Int) g__2 g__2h, Es (List Int) g__3 g__3h, Es (List (Int × Int × List Int × List Int)) h__1 h__1h, Es (List Int) h__2 h__2h, Es (List Int) h__3 h__3h] := H
  refine stA gok [(.int .i64 a16), (.slice none 0 0), (.slice none 0 0), (.slice none 0 0)] rfl H rfl rfl rfl ?_; clear H; intro w21 H
  replace H : Cx w0 fp0 S0 w21 [Bx b19 [(.int .i64 a16), (.slice none 0 0), (.slice none 0 0), (.slice none 0 0)], Bx b14 [(.int .i64 0), (.slice none 0 0), (.slice none 0 0), (.slice none 0 0)], Bx b11 [(.int .i64 h__0), (h__1h).v, (h__2h).v, (h__3h).v], Bx b8 [(.int .i64 g__0), (g__1h).v, (g__2h).v, (g__3h).v], Es (List (Int × Int × List Int × List Int)) g__1 g__1h, Es (List Int) g__2 g__2h, Es (List Int) g__3 g__3h, Es (List (Int × Int × List Int × List Int)) h__1 h__1h, Es (List Int) h__2 h__2h, Es (List Int) h__3 h__3h] := H
  obtain ⟨r112, hF114, hF113⟩ := bindS hF17; clear hF17
  refine heldJ H [8] (.fst 1 (.fst 3 (.fst 0 (.fst 2 (.fst 4 (.alts (.alt 5 (.alts (.alt 6 (.act 7 (.act 8 .done)) (.alt 7 (.act 6 (.act 8 .done)) .no))) (.alt 7 (.act 5 (.act 6 (.act 8 .done))) .no)))))))) mixed [] trivial (by kernel_rfl) (fun (q115 : (Int × (List (Int × Int × List Int × List Int)) × List Int × List Int) × (Hd × Hd × Hd × Nat)) => [(2, (.pointer (some ⟨b8, 0, none⟩))), (3, (.pointer (some ⟨b11, 0, none⟩))), (4, (.pointer (some ⟨b14, 0, none⟩))), (5, (.pointer (some ⟨b19, 0, none⟩))), (6, (.pointer (some ⟨q115.2.2.2.2, 0, none⟩)))]) (fun (q115 : (Int × (List (Int × Int × List Int × List Int)) × List Int × List Int) × (Hd × Hd × Hd × Nat)) w' => (q115.1.1, q115.1.2.1, q115.1.2.2.1, q115.1.2.2.2) = r112 ∧ Cx w0 fp0 S0 w' [Bx b8 [(.int .i64 g__0), (g__1h).v, (g__2h).v, (g__3h).v], Es (List (Int × Int × List Int × List Int)) g__1 g__1h, Es (List Int) g__2 g__2h, Es (List Int) g__3 g__3h, Bx b11 [(.int .i64 h__0), (h__1h).v, (h__2h).v, (h__3h).v], Es (List (Int × Int × List Int × List Int)) h__1 h__1h, Es (List Int) h__2 h__2h, Es (List Int) h__3 h__3h, Bx b14 [(.int .i64 0), (.slice none 0 0), (.slice none 0 0), (.slice none 0 0)], Bx b19 [(.int .i64 a16), (.slice none 0 0), (.slice none 0 0), (.slice none 0 0)], Bx q115.2.2.2.2 [(.int .i64 q115.1.1), (q115.2.1).v, (q115.2.2.1).v, (q115.2.2.2.1).v], E (List (Int × Int × List Int × List Int)) q115.1.2.1 q115.2.1, E (List Int) q115.1.2.2.1 q115.2.2.1, E (List Int) q115.1.2.2.2 q115.2.2.2.1]) ?_ ?_
  · skip
    clear H; intro w116 H
    have hX : Ext w116 w116 := Upd.refl _ _
    have H0 := H
    refine anyH (fun _ => fld gok rfl rfl rfl rfl ⟨rfl, rfl⟩) ?_
    refine anyH (fun _ => fld gok rfl rfl rfl rfl ⟨rfl, rfl⟩) ?_
    refine loadNX [(.int .i64 g__0), (g__1h).v, (g__2h).v, (g__3h).v] rfl (fun j u hj => H.bx 3 rfl hj) ?_
    refine load1X (H.bx 3 rfl (j := 0) rfl) ?_
    refine load1X (H.bx 3 rfl (j := 0) rfl) ?_
    refine both ?_ ?_
    · skip
      obtain ⟨y135, e, hF136⟩ := bindS hF114; clear hF114
      have ey135 := e; clear e
      refine callFx (impl_upTo_c g__0 y135 ey135) H trivial ?_; clear H ey135
      rintro _ _ w137 ⟨h138, rfl, rfl⟩ hx (H : Cx w0 fp0 S0 w137 [E (List Int) y135 h138, Bx b19 [(.int .i64 a16), (.slice none 0 0), (.slice none 0 0), (.slice none 0 0)], Bx b14 [(.int .i64 0), (.slice none 0 0), (.slice none 0 0), (.slice none 0 0)], Bx b11 [(.int .i64 h__0), (h__1h).v, (h__2h).v, (h__3h).v], Bx b8 [(.int .i64 g__0), (g__1h).v, (g__2h).v, (g__3h).v], Es (List (Int × Int × List Int × List Int)) g__1 g__1h, Es (List Int) g__2 g__2h, Es (List Int) g__3 g__3h, Es (List (Int × Int × List Int × List Int)) h__1 h__1h, Es (List Int) h__2 h__2h, Es (List Int) h__3 h__3h])
      replace hX := hX.trans0 hx; clear hx
      refine hold hX ?_
      refine both ?_ ?_
      · skip
        obtain ⟨y153, e, hF154⟩ := bindS hF136; clear hF136
        obtain ⟨y153_0, y153_1, y153_2, y153_3⟩ := y153
        have ey153 := e; clear e
        refine callFx (impl_Graph_moved_c g__0 g__1 g__1h g__2 g__2h g__3 g__3h g__0 y135 h138 y153_0 y153_1 y153_2 y153_3 ey153) H ⟨Vw.sh 5 rfl, Vw.sh 6 rfl, Vw.sh 7 rfl, Vw.own 0 rfl, trivial⟩ ?_; clear H ey153
        rintro _ _ w155 ⟨h156, h158, h160, rfl, rfl⟩ hx (H : Cx w0 fp0 S0 w155 [E (List (Int × Int × List Int × List Int)) y153_1 h156, E (List Int) y153_2 h158, E (List Int) y153_3 h160, E (List Int) y135 h138, Bx b19 [(.int .i64 a16), (.slice none 0 0), (.slice none 0 0), (.slice none 0 0)], Bx b14 [(.int .i64 0), (.slice none 0 0), (.slice none 0 0), (.slice none 0 0)], Bx b11 [(.int .i64 h__0), (h__1h).v, (h__2h).v, (h__3h).v], Bx b8 [(.int .i64 g__0), (g__1h).v, (g__2h).v, (g__3h).v], Es (List (Int × Int × List Int × List Int)) g__1 g__1h, Es (List Int) g__2 g__2h, Es (List Int) g__3 g__3h, Es (List (Int × Int × List Int × List Int)) h__1 h__1h, Es (List Int) h__2 h__2h, Es (List Int) h__3 h__3h])
        replace hX := hX.trans0 hx; clear hx
        refine hold hX ?_
        refine alloc_ gok rfl H ?_; clear H; intro b163 w162 hx H
        replace hX := hX.trans0 hx; clear hx
        replace H : Cx w0 fp0 S0 w162 [Bx b163 [(.int .i64 0), (.slice none 0 0), (.slice none 0 0), (.slice none 0 0)], E (List (Int × Int × List Int × List Int)) y153_1 h156, E (List Int) y153_2 h158, E (List Int) y153_3 h160, E (List Int) y135 h138, Bx b19 [(.int .i64 a16), (.slice none 0 0), (.slice none 0 0), (.slice none 0 0)], Bx b14 [(.int .i64 0), (.slice none 0 0), (.slice none 0 0), (.slice none 0 0)], Bx b11 [(.int .i64 h__0), (h__1h).v, (h__2h).v, (h__3h).v], Bx b8 [(.int .i64 g__0), (g__1h).v, (g__2h).v, (g__3h).v], Es (List (Int × Int × List Int × List Int)) g__1 g__1h, Es (List Int) g__2 g__2h, Es (List Int) g__3 g__3h, Es (List (Int × Int × List Int × List Int)) h__1 h__1h, Es (List Int) h__2 h__2h, Es (List Int) h__3 h__3h] := H
        refine hold hX ?_
        refine stA gok [(.int .i64 y153_0), (h156).v, (h158).v, (h160).v] rfl H rfl rfl rfl ?_; clear H; intro w165 H
        replace H : Cx w0 fp0 S0 w165 [Bx b163 [(.int .i64 y153_0), (h156).v, (h158).v, (h160).v], E (List (Int × Int × List Int × List Int)) y153_1 h156, E (List Int) y153_2 h158, E (List Int) y153_3 h160, E (List Int) y135 h138, Bx b19 [(.int .i64 a16), (.slice none 0 0), (.slice none 0 0), (.slice none 0 0)], Bx b14 [(.int .i64 0), (.slice none 0 0), (.slice none 0 0), (.slice none 0 0)], Bx b11 [(.int .i64 h__0), (h__1h).v, (h__2h).v, (h__3h).v], Bx b8 [(.int .i64 g__0), (g__1h).v, (g__2h).v, (g__3h).v], Es (List (Int × Int × List Int × List Int)) g__1 g__1h, Es (List Int) g__2 g__2h, Es (List Int) g__3 g__3h, Es (List (Int × Int × List Int × List Int)) h__1 h__1h, Es (List Int) h__2 h__2h, Es (List Int) h__3 h__3h] := H
        refine hold trivial ?_
        exact ⟨((y153_0, y153_1, y153_2, y153_3), (h156, h158, h160, b163)), ⟨rfl, rfl, rfl, rfl, rfl, trivial⟩, Option.some.inj hF154, H.sel [8, 9, 10, 11, 7, 12, 13, 14, 6, 5, 0, 1, 2, 3] rfl⟩
      · skip
        refine both ?_ ?_
        · skip
          obtain ⟨a166, eq167, hF168⟩ := bindS hF136; clear hF136
          refine alloc_ gok rfl H ?_; clear H; intro b170 w169 hx H
          replace hX := hX.trans0 hx; clear hx
          replace H : Cx w0 fp0 S0 w169 [Bx b170 [(.int .i64 0), (.slice none 0 0), (.slice none 0 0), (.slice none 0 0)], E (List Int) y135 h138, Bx b19 [(.int .i64 a16), (.slice none 0 0), (.slice none 0 0), (.slice none 0 0)], Bx b14 [(.int .i64 0), (.slice none 0 0), (.slice none 0 0), (.slice none 0 0)], Bx b11 [(.int .i64 h__0), (h__1h).v, (h__2h).v, (h__3h).v], Bx b8 [(.int .i64 g__0), (g__1h).v, (g__2h).v, (g__3h).v], Es (List (Int × Int × List Int × List Int)) g__1 g__1h, Es (List Int) g__2 g__2h, Es (List Int) g__3 g__3h, Es (List (Int × Int × List Int × List Int)) h__1 h__1h, Es (List Int) h__2 h__2h, Es (List Int) h__3 h__3h] := H
          refine hold hX ?_
          have e := eq167; clear eq167
          obtain ⟨a166_0, a166_1, a166_2, a166_3⟩ := a166
          have ea166 := e; clear e
          refine callFx (impl_Graph_moved_c g__0 g__1 g__1h g__2 g__2h g__3 g__3h g__0 y135 h138 a166_0 a166_1 a166_2 a166_3 ea166) H ⟨Vw.sh 6 rfl, Vw.sh 7 rfl, Vw.sh 8 rfl, Vw.own 1 rfl, trivial⟩ ?_; clear H ea166
          rintro _ _ w172 ⟨h173, h175, h177, rfl, rfl⟩ hx (H : Cx w0 fp0 S0 w172 [E (List (Int × Int × List Int × List Int)) a166_1 h173, E (List Int) a166_2 h175, E (List Int) a166_3 h177, Bx b170 [(.int .i64 0), (.slice none 0 0), (.slice none 0 0), (.slice none 0 0)], E (List Int) y135 h138, Bx b19 [(.int .i64 a16), (.slice none 0 0), (.slice none 0 0), (.slice none 0 0)], Bx b14 [(.int .i64 0), (.slice none 0 0), (.slice none 0 0), (.slice none 0 0)], Bx b11 [(.int .i64 h__0), (h__1h).v, (h__2h).v, (h__3h).v], Bx b8 [(.int .i64 g__0), (g__1h).v, (g__2h).v, (g__3h).v], Es (List (Int × Int × List Int × List Int)) g__1 g__1h, Es (List Int) g__2 g__2h, Es (List Int) g__3 g__3h, Es (List (Int × Int × List Int × List Int)) h__1 h__1h, Es (List Int) h__2 h__2h, Es (List Int) h__3 h__3h])
          replace hX := hX.trans0 hx; clear hx
          refine hold hX ?_
          replace H := H.sel [3, 0, 1, 2, 4, 5, 6, 7, 8, 9, 10, 11, 12, 13, 14] rfl
          refine stA gok [(.int .i64 a166_0), (h173).v, (h175).v, (h177).v] rfl H rfl rfl rfl ?_; clear H; intro w179 H
          replace H : Cx w0 fp0 S0 w179 [Bx b170 [(.int .i64 a166_0), (h173).v, (h175).v, (h177).v], E (List (Int × Int × List Int × List Int)) a166_1 h173, E (List Int) a166_2 h175, E (List Int) a166_3 h177, E (List Int) y135 h138, Bx b19 [(.int .i64 a16), (.slice none 0 0), (.slice none 0 0), (.slice none 0 0)], Bx b14 [(.int .i64 0), (.slice none 0 0), (.slice none 0 0), (.slice none 0 0)], Bx b11 [(.int .i64 h__0), (h__1h).v, (h__2h).v, (h__3h).v], Bx b8 [(.int .i64 g__0), (g__1h).v, (g__2h).v, (g__3h).v], Es (List (Int × Int × List Int × List Int)) g__1 g__1h, Es (List Int) g__2 g__2h, Es (List Int) g__3 g__3h, Es (List (Int × Int × List Int × List Int)) h__1 h__1h, Es (List Int) h__2 h__2h, Es (List Int) h__3 h__3h] := H
          refine hold trivial ?_
          exact ⟨((a166_0, a166_1, a166_2, a166_3), (h173, h175, h177, b170)), ⟨rfl, rfl, rfl, rfl, rfl, trivial⟩, Option.some.inj hF168, H.sel [8, 9, 10, 11, 7, 12, 13, 14, 6, 5, 0, 1, 2, 3] rfl⟩
        · skip
          exact trivial
    · skip
      refine both ?_ ?_
      · skip
        obtain ⟨a180, eq181, hF182⟩ := bindS hF114; clear hF114
        obtain ⟨a183, eq184, hF185⟩ := bindS hF182; clear hF182
        refine alloc_ gok rfl H ?_; clear H; intro b187 w186 hx H
        replace hX := hX.trans0 hx; clear hx
        replace H : Cx w0 fp0 S0 w186 [Bx b187 [(.int .i64 0), (.slice none 0 0), (.slice none 0 0), (.slice none 0 0)], Bx b19 [(.int .i64 a16), (.slice none 0 0), (.slice none 0 0), (.slice none 0 0)], Bx b14 [(.int .i64 0), (.slice none 0 0), (.slice none 0 0), (.slice none 0 0)], Bx b11 [(.int .i64 h__0), (h__1h).v, (h__2h).v, (h__3h).v], Bx b8 [(.int .i64 g__0), (g__1h).v, (g__2h).v, (g__3h).v], Es (List (Int × Int × List Int × List Int)) g__1 g__1h, Es (List Int) g__2 g__2h, Es (List Int) g__3 g__3h, Es (List (Int × Int × List Int × List Int)) h__1 h__1h, Es (List Int) h__2 h__2h, Es (List Int) h__3 h__3h] := H
        refine hold hX ?_
        have e := eq181; clear eq181
        have ea180 := e; clear e
        refine callFx (impl_upTo_c g__0 a180 ea180) H trivial ?_; clear H ea180
        rintro _ _ w189 ⟨h190, rfl, rfl⟩ hx (H : Cx w0 fp0 S0 w189 [E (List Int) a180 h190, Bx b187 [(.int .i64 0), (.slice none 0 0), (.slice none 0 0), (.slice none 0 0)], Bx b19 [(.int .i64 a16), (.slice none 0 0), (.slice none 0 0), (.slice none 0 0)], Bx b14 [(.int .i64 0), (.slice none 0 0), (.slice none 0 0), (.slice none 0 0)], Bx b11 [(.int .i64 h__0), (h__1h).v, (h__2h).v, (h__3h).v], Bx b8 [(.int .i64 g__0), (g__1h).v, (g__2h).v, (g__3h).v], Es (List (Int × Int × List Int × List Int)) g__1 g__1h, Es (List Int) g__2 g__2h, Es (List Int) g__3 g__3h, Es (List (Int × Int × List Int × List Int)) h__1 h__1h, Es (List Int) h__2 h__2h, Es (List Int) h__3 h__3h])
        replace hX := hX.trans0 hx; clear hx
        refine hold hX ?_
        have e := eq184; clear eq184
        obtain ⟨a183_0, a183_1, a183_2, a183_3⟩ := a183
        have ea183 := e; clear e
        refine callFx (impl_Graph_moved_c g__0 g__1 g__1h g__2 g__2h g__3 g__3h g__0 a180 h190 a183_0 a183_1 a183_2 a183_3 ea183) H ⟨Vw.sh 6 rfl, Vw.sh 7 rfl, Vw.sh 8 rfl, Vw.own 0 rfl, trivial⟩ ?_; clear H ea183
        rintro _ _ w192 ⟨h193, h195, h197, rfl, rfl⟩ hx (H : Cx w0 fp0 S0 w192 [E (List (Int × Int × List Int × List Int)) a183_1 h193, E (List Int) a183_2 h195, E (List Int) a183_3 h197, E (List Int) a180 h190, Bx b187 [(.int .i64 0), (.slice none 0 0), (.slice none 0 0), (.slice none 0 0)], Bx b19 [(.int .i64 a16), (.slice none 0 0), (.slice none 0 0), (.slice none 0 0)], Bx b14 [(.int .i64 0), (.slice none 0 0), (.slice none 0 0), (.slice none 0 0)], Bx b11 [(.int .i64 h__0), (h__1h).v, (h__2h).v, (h__3h).v], Bx b8 [(.int .i64 g__0), (g__1h).v, (g__2h).v, (g__3h).v], Es (List (Int × Int × List Int × List Int)) g__1 g__1h, Es (List Int) g__2 g__2h, Es (List Int) g__3 g__3h, Es (List (Int × Int × List Int × List Int)) h__1 h__1h, Es (List Int) h__2 h__2h, Es (List Int) h__3 h__3h])
        replace hX := hX.trans0 hx; clear hx
        refine hold hX ?_
        replace H := H.sel [4, 0, 1, 2, 3, 5, 6, 7, 8, 9, 10, 11, 12, 13, 14] rfl
        refine stA gok [(.int .i64 a183_0), (h193).v, (h195).v, (h197).v] rfl H rfl rfl rfl ?_; clear H; intro w199 H
        replace H : Cx w0 fp0 S0 w199 [Bx b187 [(.int .i64 a183_0), (h193).v, (h195).v, (h197).v], E (List (Int × Int × List Int × List Int)) a183_1 h193, E (List Int) a183_2 h195, E (List Int) a183_3 h197, E (List Int) a180 h190, Bx b19 [(.int .i64 a16), (.slice none 0 0), (.slice none 0 0), (.slice none 0 0)], Bx b14 [(.int .i64 0), (.slice none 0 0), (.slice none 0 0), (.slice none 0 0)], Bx b11 [(.int .i64 h__0), (h__1h).v, (h__2h).v, (h__3h).v], Bx b8 [(.int .i64 g__0), (g__1h).v, (g__2h).v, (g__3h).v], Es (List (Int × Int × List Int × List Int)) g__1 g__1h, Es (List Int) g__2 g__2h, Es (List Int) g__3 g__3h, Es (List (Int × Int × List Int × List Int)) h__1 h__1h, Es (List Int) h__2 h__2h, Es (List Int) h__3 h__3h] := H
        refine hold trivial ?_
        exact ⟨((a183_0, a183_1, a183_2, a183_3), (h193, h195, h197, b187)), ⟨rfl, rfl, rfl, rfl, rfl, trivial⟩, Option.some.inj hF185, H.sel [8, 9, 10, 11, 7, 12, 13, 14, 6, 5, 0, 1, 2, 3] rfl⟩
      · skip
        exact trivial
  · clear hF114 H
    rintro T201 ⟨⟨s106_0, s106_1, s106_2, s106_3⟩, ⟨g107_0, g107_1, g107_2, g107_3⟩⟩ w200 ⟨hr, (H : Cx w0 fp0 S0 w200 [Bx b8 [(.int .i64 g__0), (g__1h).v, (g__2h).v, (g__3h).v], Es (List (Int × Int × List Int × List Int)) g__1 g__1h, Es (List Int) g__2 g__2h, Es (List Int) g__3 g__3h, Bx b11 [(.int .i64 h__0), (h__1h).v, (h__2h).v, (h__3h).v], Es (List (Int × Int × List Int × List Int)) h__1 h__1h, Es (List Int) h__2 h__2h, Es (List Int) h__3 h__3h, Bx b14 [(.int .i64 0), (.slice none 0 0), (.slice none 0 0), (.slice none 0 0)], Bx b19 [(.int .i64 a16), (.slice none 0 0), (.slice none 0 0), (.slice none 0 0)], Bx g107_3 [(.int .i64 s106_0), (g107_0).v, (g107_1).v, (g107_2).v], E (List (Int × Int × List Int × List Int)) s106_1 g107_0, E (List Int) s106_2 g107_1, E (List Int) s106_3 g107_2])⟩
    subst hr
    obtain ⟨r292, hF294, hF293⟩ := bindS hF113; clear hF113
    refine heldJ H [10] (.fst 1 (.fst 3 (.fst 5 (.fst 0 (.fst 2 (.fst 4 (.fst 6 (.alts (.alt 7 (.alts (.alt 8 (.act 9 (.act 10 .done)) (.alt 9 (.act 8 (.act 10 .done)) .no))) (.alt 9 (.act 7 (.act 8 (.act 10 .done))) .no)))))))))) mixed [] trivial (by kernel_rfl) (fun (q295 : (Int × (List (Int × Int × List Int × List Int)) × List Int × List Int) × (Hd × Hd × Hd × Nat)) => [(4, (.pointer (some ⟨b14, 0, none⟩))), (5, (.pointer (some ⟨b19, 0, none⟩))), (6, (.pointer (some ⟨g107_3, 0, none⟩))), (7, (.pointer (some ⟨q295.2.2.2.2, 0, none⟩)))]) (fun (q295 : (Int × (List (Int × Int × List Int × List Int)) × List Int × List Int) × (Hd × Hd × Hd × Nat)) w' => (q295.1.1, q295.1.2.1, q295.1.2.2.1, q295.1.2.2.2) = r292 ∧ Cx w0 fp0 S0 w' [Bx b14 [(.int .i64 0), (.slice none 0 0), (.slice none 0 0), (.slice none 0 0)], Bx b19 [(.int .i64 a16), (.slice none 0 0), (.slice none 0 0), (.slice none 0 0)], Bx g107_3 [(.int .i64 s106_0), (g107_0).v, (g107_1).v, (g107_2).v], E (List (Int × Int × List Int × List Int)) s106_1 g107_0, E (List Int) s106_2 g107_1, E (List Int) s106_3 g107_2, Bx q295.2.2.2.2 [(.int .i64 q295.1.1), (q295.2.1).v, (q295.2.2.1).v, (q295.2.2.2.1).v], E (List (Int × Int × List Int × List Int)) q295.1.2.1 q295.2.1, E (List Int) q295.1.2.2.1 q295.2.2.1, E (List Int) q295.1.2.2.2 q295.2.2.2.1]) ?_ ?_
    · skip
      clear H; intro w296 H
      have hX : Ext w296 w296 := Upd.refl _ _
      have H0 := H
      refine anyH (fun _ => fld gok rfl rfl rfl rfl ⟨rfl, rfl⟩) ?_
      refine anyH (fun _ => fld gok rfl rfl rfl rfl ⟨rfl, rfl⟩) ?_
      refine anyH (fun _ => fld gok rfl rfl rfl rfl ⟨rfl, rfl⟩) ?_
      refine loadNX [(.int .i64 h__0), (h__1h).v, (h__2h).v, (h__3h).v] rfl (fun j u hj => H.bx 4 rfl hj) ?_
      refine load1X (H.bx 4 rfl (j := 0) rfl) ?_
      refine load1X (H.bx 0 rfl (j := 0) rfl) ?_
      refine load1X (H.bx 4 rfl (j := 0) rfl) ?_
      refine both ?_ ?_
      · skip
        obtain ⟨y315, e, hF316⟩ := bindS hF294; clear hF294
        have ey315 := e; clear e
        refine callFx (impl_from_c g__0 h__0 y315 ey315) H trivial ?_; clear H ey315
        rintro _ _ w317 ⟨h318, rfl, rfl⟩ hx (H : Cx w0 fp0 S0 w317 [E (List Int) y315 h318, Bx b8 [(.int .i64 g__0), (g__1h).v, (g__2h).v, (g__3h).v], Es (List (Int × Int × List Int × List Int)) g__1 g__1h, Es (List Int) g__2 g__2h, Es (List Int) g__3 g__3h, Bx b11 [(.int .i64 h__0), (h__1h).v, (h__2h).v, (h__3h).v], Es (List (Int × Int × List Int × List Int)) h__1 h__1h, Es (List Int) h__2 h__2h, Es (List Int) h__3 h__3h, Bx b14 [(.int .i64 0), (.slice none 0 0), (.slice none 0 0), (.slice none 0 0)], Bx b19 [(.int .i64 a16), (.slice none 0 0), (.slice none 0 0), (.slice none 0 0)], Bx g107_3 [(.int .i64 s106_0), (g107_0).v, (g107_1).v, (g107_2).v], E (List (Int × Int × List Int × List Int)) s106_1 g107_0, E (List Int) s106_2 g107_1, E (List Int) s106_3 g107_2])
        replace hX := hX.trans0 hx; clear hx
        refine hold hX ?_
        refine both ?_ ?_
        · skip
          obtain ⟨y333, e, hF334⟩ := bindS hF316; clear hF316
          obtain ⟨y333_0, y333_1, y333_2, y333_3⟩ := y333
          have ey333 := e; clear e
          refine callFx (impl_Graph_moved_c h__0 h__1 h__1h h__2 h__2h h__3 h__3h h__0 y315 h318 y333_0 y333_1 y333_2 y333_3 ey333) H ⟨Vw.sh 6 rfl, Vw.sh 7 rfl, Vw.sh 8 rfl, Vw.own 0 rfl, trivial⟩ ?_; clear H ey333
          rintro _ _ w335 ⟨h336, h338, h340, rfl, rfl⟩ hx (H : Cx w0 fp0 S0 w335 [E (List (Int × Int × List Int × List Int)) y333_1 h336, E (List Int) y333_2 h338, E (List Int) y333_3 h340, E (List Int) y315 h318, Bx b8 [(.int .i64 g__0), (g__1h).v, (g__2h).v, (g__3h).v], Es (List (Int × Int × List Int × List Int)) g__1 g__1h, Es (List Int) g__2 g__2h, Es (List Int) g__3 g__3h, Bx b11 [(.int .i64 h__0), (h__1h).v, (h__2h).v, (h__3h).v], Es (List (Int × Int × List Int × List Int)) h__1 h__1h, Es (List Int) h__2 h__2h, Es (List Int) h__3 h__3h, Bx b14 [(.int .i64 0), (.slice none 0 0), (.slice none 0 0), (.slice none 0 0)], Bx b19 [(.int .i64 a16), (.slice none 0 0), (.slice none 0 0), (.slice none 0 0)], Bx g107_3 [(.int .i64 s106_0), (g107_0).v, (g107_1).v, (g107_2).v], E (List (Int × Int × List Int × List Int)) s106_1 g107_0, E (List Int) s106_2 g107_1, E (List Int) s106_3 g107_2])
          replace hX := hX.trans0 hx; clear hx
          refine hold hX ?_
          refine alloc_ gok rfl H ?_; clear H; intro b343 w342 hx H
          replace hX := hX.trans0 hx; clear hx
          replace H : Cx w0 fp0 S0 w342 [Bx b343 [(.int .i64 0), (.slice none 0 0), (.slice none 0 0), (.slice none 0 0)], E (List (Int × Int × List Int × List Int)) y333_1 h336, E (List Int) y333_2 h338, E (List Int) y333_3 h340, E (List Int) y315 h318, Bx b8 [(.int .i64 g__0), (g__1h).v, (g__2h).v, (g__3h).v], Es (List (Int × Int × List Int × List Int)) g__1 g__1h, Es (List Int) g__2 g__2h, Es (List Int) g__3 g__3h, Bx b11 [(.int .i64 h__0), (h__1h).v, (h__2h).v, (h__3h).v], Es (List (Int × Int × List Int × List Int)) h__1 h__1h, Es (List Int) h__2 h__2h, Es (List Int) h__3 h__3h, Bx b14 [(.int .i64 0), (.slice none 0 0), (.slice none 0 0), (.slice none 0 0)], Bx b19 [(.int .i64 a16), (.slice none 0 0), (.slice none 0 0), (.slice none 0 0)], Bx g107_3 [(.int .i64 s106_0), (g107_0).v, (g107_1).v, (g107_2).v], E (List (Int × Int × List Int × List Int)) s106_1 g107_0, E (List Int) s106_2 g107_1, E (List Int) s106_3 g107_2] := H
          refine hold hX ?_
          refine stA gok [(.int .i64 y333_0), (h336).v, (h338).v, (h340).v] rfl H rfl rfl rfl ?_; clear H; intro w345 H
          replace H : Cx w0 fp0 S0 w345 [Bx b343 [(.int .i64 y333_0), (h336).v, (h338).v, (h340).v], E (List (Int × Int × List Int × List Int)) y333_1 h336, E (List Int) y333_2 h338, E (List Int) y333_3 h340, E (List Int) y315 h318, Bx b8 [(.int .i64 g__0), (g__1h).v, (g__2h).v, (g__3h).v], Es (List (Int × Int × List Int × List Int)) g__1 g__1h, Es (List Int) g__2 g__2h, Es (List Int) g__3 g__3h, Bx b11 [(.int .i64 h__0), (h__1h).v, (h__2h).v, (h__3h).v], Es (List (Int × Int × List Int × List Int)) h__1 h__1h, Es (List Int) h__2 h__2h, Es (List Int) h__3 h__3h, Bx b14 [(.int .i64 0), (.slice none 0 0), (.slice none 0 0), (.slice none 0 0)], Bx b19 [(.int .i64 a16), (.slice none 0 0), (.slice none 0 0), (.slice none 0 0)], Bx g107_3 [(.int .i64 s106_0), (g107_0).v, (g107_1).v, (g107_2).v], E (List (Int × Int × List Int × List Int)) s106_1 g107_0, E (List Int) s106_2 g107_1, E (List Int) s106_3 g107_2] := H
          refine hold trivial ?_
          exact ⟨((y333_0, y333_1, y333_2, y333_3), (h336, h338, h340, b343)), ⟨rfl, rfl, rfl, rfl, trivial⟩, Option.some.inj hF334, H.sel [13, 14, 15, 16, 17, 18, 0, 1, 2, 3] rfl⟩
        · skip
          refine both ?_ ?_
          · skip
            obtain ⟨a346, eq347, hF348⟩ := bindS hF316; clear hF316
            refine alloc_ gok rfl H ?_; clear H; intro b350 w349 hx H
            replace hX := hX.trans0 hx; clear hx
            replace H : Cx w0 fp0 S0 w349 [Bx b350 [(.int .i64 0), (.slice none 0 0), (.slice none 0 0), (.slice none 0 0)], E (List Int) y315 h318, Bx b8 [(.int .i64 g__0), (g__1h).v, (g__2h).v, (g__3h).v], Es (List (Int × Int × List Int × List Int)) g__1 g__1h, Es (List Int) g__2 g__2h, Es (List Int) g__3 g__3h, Bx b11 [(.int .i64 h__0), (h__1h).v, (h__2h).v, (h__3h).v], Es (List (Int × Int × List Int × List Int)) h__1 h__1h, Es (List Int) h__2 h__2h, Es (List Int) h__3 h__3h, Bx b14 [(.int .i64 0), (.slice none 0 0), (.slice none 0 0), (.slice none 0 0)], Bx b19 [(.int .i64 a16), (.slice none 0 0), (.slice none 0 0), (.slice none 0 0)], Bx g107_3 [(.int .i64 s106_0), (g107_0).v, (g107_1).v, (g107_2).v], E (List (Int × Int × List Int × List Int)) s106_1 g107_0, E (List Int) s106_2 g107_1, E (List Int) s106_3 g107_2] := H
            refine hold hX ?_
            have e := eq347; clear eq347
            obtain ⟨a346_0, a346_1, a346_2, a346_3⟩ := a346
            have ea346 := e; clear e
            refine callFx (impl_Graph_moved_c h__0 h__1 h__1h h__2 h__2h h__3 h__3h h__0 y315 h318 a346_0 a346_1 a346_2 a346_3 ea346) H ⟨Vw.sh 7 rfl, Vw.sh 8 rfl, Vw.sh 9 rfl, Vw.own 1 rfl, trivial⟩ ?_; clear H ea346
            rintro _ _ w352 ⟨h353, h355, h357, rfl, rfl⟩ hx (H : Cx w0 fp0 S0 w352 [E (List (Int × Int × List Int × List Int)) a346_1 h353, E (List Int) a346_2 h355, E (List Int) a346_3 h357, Bx b350 [(.int .i64 0), (.slice none 0 0), (.slice none 0 0), (.slice none 0 0)], E (List Int) y315 h318, Bx b8 [(.int .i64 g__0), (g__1h).v, (g__2h).v, (g__3h).v], Es (List (Int × Int × List Int × List Int)) g__1 g__1h, Es (List Int) g__2 g__2h, Es (List Int) g__3 g__3h, Bx b11 [(.int .i64 h__0), (h__1h).v, (h__2h).v, (h__3h).v], Es (List (Int × Int × List Int × List Int)) h__1 h__1h, Es (List Int) h__2 h__2h, Es (List Int) h__3 h__3h, Bx b14 [(.int .i64 0), (.slice none 0 0), (.slice none 0 0), (.slice none 0 0)], Bx b19 [(.int .i64 a16), (.slice none 0 0), (.slice none 0 0), (.slice none 0 0)], Bx g107_3 [(.int .i64 s106_0), (g107_0).v, (g107_1).v, (g107_2).v], E (List (Int × Int × List Int × List Int)) s106_1 g107_0, E (List Int) s106_2 g107_1, E (List Int) s106_3 g107_2])
            replace hX := hX.trans0 hx; clear hx
            refine hold hX ?_
            replace H := H.sel [3, 0, 1, 2, 4, 5, 6, 7, 8, 9, 10, 11, 12, 13, 14, 15, 16, 17, 18] rfl
            refine stA gok [(.int .i64 a346_0), (h353).v, (h355).v, (h357).v] rfl H rfl rfl rfl ?_; clear H; intro w359 H
            replace H : Cx w0 fp0 S0 w359 [Bx b350 [(.int .i64 a346_0), (h353).v, (h355).v, (h357).v], E (List (Int × Int × List Int × List Int)) a346_1 h353, E (List Int) a346_2 h355, E (List Int) a346_3 h357, E (List Int) y315 h318, Bx b8 [(.int .i64 g__0), (g__1h).v, (g__2h).v, (g__3h).v], Es (List (Int × Int × List Int × List Int)) g__1 g__1h, Es (List Int) g__2 g__2h, Es (List Int) g__3 g__3h, Bx b11 [(.int .i64 h__0), (h__1h).v, (h__2h).v, (h__3h).v], Es (List (Int × Int × List Int × List Int)) h__1 h__1h, Es (List Int) h__2 h__2h, Es (List Int) h__3 h__3h, Bx b14 [(.int .i64 0), (.slice none 0 0), (.slice none 0 0), (.slice none 0 0)], Bx b19 [(.int .i64 a16), (.slice none 0 0), (.slice none 0 0), (.slice none 0 0)], Bx g107_3 [(.int .i64 s106_0), (g107_0).v, (g107_1).v, (g107_2).v], E (List (Int × Int × List Int × List Int)) s106_1 g107_0, E (List Int) s106_2 g107_1, E (List Int) s106_3 g107_2] := H
            refine hold trivial ?_
            exact ⟨((a346_0, a346_1, a346_2, a346_3), (h353, h355, h357, b350)), ⟨rfl, rfl, rfl, rfl, trivial⟩, Option.some.inj hF348, H.sel [13, 14, 15, 16, 17, 18, 0, 1, 2, 3] rfl⟩
          · skip
            exact trivial
      · skip
        refine both ?_ ?_
        · skip
          obtain ⟨a360, eq361, hF362⟩ := bindS hF294; clear hF294
          obtain ⟨a363, eq364, hF365⟩ := bindS hF362; clear hF362
          refine alloc_ gok rfl H ?_; clear H; intro b367 w366 hx H
          replace hX := hX.trans0 hx; clear hx
          replace H : Cx w0 fp0 S0 w366 [Bx b367 [(.int .i64 0), (.slice none 0 0), (.slice none 0 0), (.slice none 0 0)], Bx b8 [(.int .i64 g__0), (g__1h).v, (g__2h).v, (g__3h).v], Es (List (Int × Int × List Int × List Int)) g__1 g__1h, Es (List Int) g__2 g__2h, Es (List Int) g__3 g__3h, Bx b11 [(.int .i64 h__0), (h__1h).v, (h__2h).v, (h__3h).v], Es (List (Int × Int × List Int × List Int)) h__1 h__1h, Es (List Int) h__2 h__2h, Es (List Int) h__3 h__3h, Bx b14 [(.int .i64 0), (.slice none 0 0), (.slice none 0 0), (.slice none 0 0)], Bx b19 [(.int .i64 a16), (.slice none 0 0), (.slice none 0 0), (.slice none 0 0)], Bx g107_3 [(.int .i64 s106_0), (g107_0).v, (g107_1).v, (g107_2).v], E (List (Int × Int × List Int × List Int)) s106_1 g107_0, E (List Int) s106_2 g107_1, E (List Int) s106_3 g107_2] := H
          refine hold hX ?_
          have e := eq361; clear eq361
          have ea360 := e; clear e
          refine callFx (impl_from_c g__0 h__0 a360 ea360) H trivial ?_; clear H ea360
          rintro _ _ w369 ⟨h370, rfl, rfl⟩ hx (H : Cx w0 fp0 S0 w369 [E (List Int) a360 h370, Bx b367 [(.int .i64 0), (.slice none 0 0), (.slice none 0 0), (.slice none 0 0)], Bx b8 [(.int .i64 g__0), (g__1h).v, (g__2h).v, (g__3h).v], Es (List (Int × Int × List Int × List Int)) g__1 g__1h, Es (List Int) g__2 g__2h, Es (List Int) g__3 g__3h, Bx b11 [(.int .i64 h__0), (h__1h).v, (h__2h).v, (h__3h).v], Es (List (Int × Int × List Int × List Int)) h__1 h__1h, Es (List Int) h__2 h__2h, Es (List Int) h__3 h__3h, Bx b14 [(.int .i64 0), (.slice none 0 0), (.slice none 0 0), (.slice none 0 0)], Bx b19 [(.int .i64 a16), (.slice none 0 0), (.slice none 0 0), (.slice none 0 0)], Bx g107_3 [(.int .i64 s106_0), (g107_0).v, (g107_1).v, (g107_2).v], E (List (Int × Int × List Int × List Int)) s106_1 g107_0, E (List Int) s106_2 g107_1, E (List Int) s106_3 g107_2])
          replace hX := hX.trans0 hx; clear hx
          refine hold hX ?_
          have e := eq364; clear eq364
          obtain ⟨a363_0, a363_1, a363_2, a363_3⟩ := a363
          have ea363 := e; clear e
          refine callFx (impl_Graph_moved_c h__0 h__1 h__1h h__2 h__2h h__3 h__3h h__0 a360 h370 a363_0 a363_1 a363_2 a363_3 ea363) H ⟨Vw.sh 7 rfl, Vw.sh 8 rfl, Vw.sh 9 rfl, Vw.own 0 rfl, trivial⟩ ?_; clear H ea363
          rintro _ _ w372 ⟨h373, h375, h377, rfl, rfl⟩ hx (H : Cx w0 fp0 S0 w372 [E (List (Int × Int × List Int × List Int)) a363_1 h373, E (List Int) a363_2 h375, E (List Int) a363_3 h377, E (List Int) a360 h370, Bx b367 [(.int .i64 0), (.slice none 0 0), (.slice none 0 0), (.slice none 0 0)], Bx b8 [(.int .i64 g__0), (g__1h).v, (g__2h).v, (g__3h).v], Es (List (Int × Int × List Int × List Int)) g__1 g__1h, Es (List Int) g__2 g__2h, Es (List Int) g__3 g__3h, Bx b11 [(.int .i64 h__0), (h__1h).v, (h__2h).v, (h__3h).v], Es (List (Int × Int × List Int × List Int)) h__1 h__1h, Es (List Int) h__2 h__2h, Es (List Int) h__3 h__3h, Bx b14 [(.int .i64 0), (.slice none 0 0), (.slice none 0 0), (.slice none 0 0)], Bx b19 [(.int .i64 a16), (.slice none 0 0), (.slice none 0 0), (.slice none 0 0)], Bx g107_3 [(.int .i64 s106_0), (g107_0).v, (g107_1).v, (g107_2).v], E (List (Int × Int × List Int × List Int)) s106_1 g107_0, E (List Int) s106_2 g107_1, E (List Int) s106_3 g107_2])
          replace hX := hX.trans0 hx; clear hx
          refine hold hX ?_
          replace H := H.sel [4, 0, 1, 2, 3, 5, 6, 7, 8, 9, 10, 11, 12, 13, 14, 15, 16, 17, 18] rfl
          refine stA gok [(.int .i64 a363_0), (h373).v, (h375).v, (h377).v] rfl H rfl rfl rfl ?_; clear H; intro w379 H
          replace H : Cx w0 fp0 S0 w379 [Bx b367 [(.int .i64 a363_0), (h373).v, (h375).v, (h377).v], E (List (Int × Int × List Int × List Int)) a363_1 h373, E (List Int) a363_2 h375, E (List Int) a363_3 h377, E (List Int) a360 h370, Bx b8 [(.int .i64 g__0), (g__1h).v, (g__2h).v, (g__3h).v], Es (List (Int × Int × List Int × List Int)) g__1 g__1h, Es (List Int) g__2 g__2h, Es (List Int) g__3 g__3h, Bx b11 [(.int .i64 h__0), (h__1h).v, (h__2h).v, (h__3h).v], Es (List (Int × Int × List Int × List Int)) h__1 h__1h, Es (List Int) h__2 h__2h, Es (List Int) h__3 h__3h, Bx b14 [(.int .i64 0), (.slice none 0 0), (.slice none 0 0), (.slice none 0 0)], Bx b19 [(.int .i64 a16), (.slice none 0 0), (.slice none 0 0), (.slice none 0 0)], Bx g107_3 [(.int .i64 s106_0), (g107_0).v, (g107_1).v, (g107_2).v], E (List (Int × Int × List Int × List Int)) s106_1 g107_0, E (List Int) s106_2 g107_1, E (List Int) s106_3 g107_2] := H
          refine hold trivial ?_
          exact ⟨((a363_0, a363_1, a363_2, a363_3), (h373, h375, h377, b367)), ⟨rfl, rfl, rfl, rfl, trivial⟩, Option.some.inj hF365, H.sel [13, 14, 15, 16, 17, 18, 0, 1, 2, 3] rfl⟩
        · skip
          exact trivial
    · clear hF294 H
      rintro T381 ⟨⟨s286_0, s286_1, s286_2, s286_3⟩, ⟨g287_0, g287_1, g287_2, g287_3⟩⟩ w380 ⟨hr, (H : Cx w0 fp0 S0 w380 [Bx b14 [(.int .i64 0), (.slice none 0 0), (.slice none 0 0), (.slice none 0 0)], Bx b19 [(.int .i64 a16), (.slice none 0 0), (.slice none 0 0), (.slice none 0 0)], Bx g107_3 [(.int .i64 s106_0), (g107_0).v, (g107_1).v, (g107_2).v], E (List (Int × Int × List Int × List Int)) s106_1 g107_0, E (List Int) s106_2 g107_1, E (List Int) s106_3 g107_2, Bx g287_3 [(.int .i64 s286_0), (g287_0).v, (g287_1).v, (g287_2).v], E (List (Int × Int × List Int × List Int)) s286_1 g287_0, E (List Int) s286_2 g287_1, E (List Int) s286_3 g287_2])⟩
      subst hr
      refine fld gok rfl rfl rfl rfl ?_
      refine load1 (H.bx 2 rfl (j := 1) rfl) ?_
      refine fld gok rfl rfl rfl rfl ?_
      refine load1 (H.bx 6 rfl (j := 1) rfl) ?_
      obtain ⟨a382, e, hF383⟩ := bindS hF293; clear hF293
      replace H := H.sel [3, 7, 0, 1, 2, 4, 5, 6, 8, 9] rfl
      refine append_ (α := Int × Int × List Int × List Int) gok rfl rfl rfl rfl H e ?_; clear e H; intro h385 w384 H
      refine fld gok rfl rfl rfl rfl ?_
      replace H := H.sel [2, 0, 1, 3, 4, 5, 6, 7, 8] rfl
      refine stB (j := 1) H rfl rfl ?_; clear H; intro w387 H
      replace H : Cx w0 fp0 S0 w387 [Bx b19 [(.int .i64 a16), (h385).v, (.slice none 0 0), (.slice none 0 0)], E (List (Int × Int × List Int × List Int)) a382 h385, Bx b14 [(.int .i64 0), (.slice none 0 0), (.slice none 0 0), (.slice none 0 0)], Bx g107_3 [(.int .i64 s106_0), (g107_0).v, (g107_1).v, (g107_2).v], E (List Int) s106_2 g107_1, E (List Int) s106_3 g107_2, Bx g287_3 [(.int .i64 s286_0), (g287_0).v, (g287_1).v, (g287_2).v], E (List Int) s286_2 g287_1, E (List Int) s286_3 g287_2] := H
      refine loadN [(.int .i64 a16), (h385).v, (.slice none 0 0), (.slice none 0 0)] rfl (fun j u hj => H.bx 0 rfl hj) ?_
      replace H := H.sel [2, 0, 1, 3, 4, 5, 6, 7, 8] rfl
      refine stA gok [(.int .i64 a16), (h385).v, (.slice none 0 0), (.slice none 0 0)] rfl H rfl rfl rfl ?_; clear H; intro w388 H
      replace H : Cx w0 fp0 S0 w388 [Bx b14 [(.int .i64 a16), (h385).v, (.slice none 0 0), (.slice none 0 0)], Bx b19 [(.int .i64 a16), (h385).v, (.slice none 0 0), (.slice none 0 0)], E (List (Int × Int × List Int × List Int)) a382 h385, Bx g107_3 [(.int .i64 s106_0), (g107_0).v, (g107_1).v, (g107_2).v], E (List Int) s106_2 g107_1, E (List Int) s106_3 g107_2, Bx g287_3 [(.int .i64 s286_0), (g287_0).v, (g287_1).v, (g287_2).v], E (List Int) s286_2 g287_1, E (List Int) s286_3 g287_2] := H
      refine loadN [(.int .i64 a16), (h385).v, (.slice none 0 0), (.slice none 0 0)] rfl (fun j u hj => H.bx 0 rfl hj) ?_
      replace H := H.nil (α := Int)
      replace H := H.nil (α := Int)
      cases hF383
      exact ⟨_, _, rfl, ⟨h385, nilH, nilH, rfl, rfl⟩, (H.sel [4, 1, 0] rfl).close ⟨cloE, cloE, cloE, trivial⟩⟩

theorem impl_clone_c (list_ : List Int) (list_h : Hd) (y : List Int) (hF : F_impl_clone list_ = some y) :
    ConF Try.prog 68 #[(list_h).v] [Es (List Int) list_ list_h] [] (fun v Γ' => ∃ z0 : Hd, v = (z0).v ∧ Γ' = [E (List Int) y z0]) := by
  intro w0 S0 fp0 hI hS
  have H : Cx w0 fp0 S0 w0 [Es (List Int) list_ list_h] := Cx.start hI hS
  clear hI hS
  refine enterC (args := [_]) gok Try.func68 rfl _ rfl rfl rfl ?_
  refine lit0 (α := Int) gok rfl rfl H ?_; clear H; intro h3 w2 hx H
  clear hx
  obtain ⟨a5, e, hF6⟩ := bindS hF; clear hF
  refine appendS (α := Int) gok rfl rfl rfl rfl H (Vw.sh 0 rfl) e ?_; clear e H; intro h8 w7 H
  cases hF6
  exact ⟨_, _, rfl, ⟨h8, rfl, rfl⟩, (H.sel [0] rfl).close ⟨cloE, trivial⟩⟩

theorem impl_classes_root_c (c_ : List Int) (c_h : Hd) (w_ : Int) (y : Int) (hF : F_impl_classes_root c_ w_ = some y) :
    ConF Try.prog 93 #[(c_h).v, (.int .i64 w_)] [Es (List Int) c_ c_h] [] (fun v Γ' => v = (.int .i64 y) ∧ Γ' = []) := by
  intro w0 S0 fp0 hI hS
  have H : Cx w0 fp0 S0 w0 [Es (List Int) c_ c_h] := Cx.start hI hS
  clear hI hS
  refine enterC (args := [_, _]) gok Try.func93 rfl _ rfl rfl rfl ?_
  obtain ⟨r78, hF80, hF79⟩ := bindS hF; clear hF
  refine cut (fun (q81 : Int) => [(1, (.int .i64 q81))]) (fun (q81 : Int) w' => q81 = r78 ∧ Cx w0 fp0 S0 w' []) ?_ ?_
  · skip
    refine loopW _ (fun (s126 : Int) (_ : Unit) => [(0, (c_h).v), (1, (.int .i64 s126))]) (fun (s126 : Int) (_ : Unit) w' => Cx w0 fp0 S0 w' [Es (List Int) c_ c_h]) w_ () hF80 ⟨rfl, rfl, trivial⟩ (H.sel [0] rfl) ?_
    · clear H
      rintro T132 s126 _ w131 o133 (H : Cx w0 fp0 S0 w131 [Es (List Int) c_ c_h]) hrt hF134
      refine sq ?_
      obtain ⟨a141, e, hF142⟩ := bindS hF134; clear hF134
      obtain ⟨p139, m140, c135, c136, c137, c138⟩ := (H.rs (α := List Int) 0 rfl).at1 e; clear e
      refine idxE c135 c136 c137 ?_; clear c135 c136 c137
      refine load1 c138 ?_; clear c138
      obtain ⟨a143, e, hF144⟩ := bindS hF142; clear hF142
      refine boolO e ?_; clear e
      cases a143
      · have hF145 := condF hF144; clear hF144
        have hs := Option.some.inj hF145; subst hs; clear hF145
        have hF146 : some _ = some _ := congrArg some (hrt _ rfl).symm
        exact ⟨s126, ⟨rfl, trivial⟩, Option.some.inj hF146, H.sel [] rfl⟩
      · have hF147 := condT hF144; clear hF144
        obtain ⟨a154, e, hF155⟩ := bindS hF147; clear hF147
        obtain ⟨p152, m153, c148, c149, c150, c151⟩ := (H.rs (α := List Int) 0 rfl).at1 e; clear e
        refine idxE c148 c149 c150 ?_; clear c148 c149 c150
        refine load1 c151 ?_; clear c151
        have hs := Option.some.inj hF155; subst hs; clear hF155
        exact ⟨a154, (), rfl, ⟨rfl, rfl, trivial⟩, H.sel [0] rfl⟩
  · clear hF80 H
    rintro T157 s76 w156 ⟨hr, (H : Cx w0 fp0 S0 w156 [])⟩
    subst hr
    cases hF79
    exact ⟨_, _, rfl, ⟨rfl, rfl⟩, (H.sel [] rfl).close trivial⟩

theorem impl_classes_join_c (c_ : List Int) (c_h : Hd) (v_ : Int) (w_ : Int) (y : List Int) (hF : F_impl_classes_join c_ v_ w_ = some y) :
    ConF Try.prog 91 #[(c_h).v, (.int .i64 v_), (.int .i64 w_)] [] [E (List Int) c_ c_h] (fun v Γ' => v = (.tuple #[]) ∧ Γ' = [E (List Int) y c_h]) := by
  intro w0 S0 fp0 hI hS
  have H : Cx w0 fp0 S0 w0 [E (List Int) c_ c_h] := Cx.start hI hS
  clear hI hS
  refine enterC (args := [_, _, _]) gok Try.func91 rfl _ rfl rfl rfl ?_
  obtain ⟨y2, e, hF3⟩ := bindS hF; clear hF
  have ey2 := e; clear e
  refine callF (impl_classes_root_c c_ c_h v_ y2 ey2) (Γi := []) H ⟨Vw.own 0 rfl, trivial⟩ ?_; clear H ey2
  rintro _ _ w4 ⟨rfl, rfl⟩ (H : Cx w0 fp0 S0 w4 [E (List Int) c_ c_h])
  obtain ⟨y5, e, hF6⟩ := bindS hF3; clear hF3
  have ey5 := e; clear e
  refine callF (impl_classes_root_c c_ c_h w_ y5 ey5) (Γi := []) H ⟨Vw.own 0 rfl, trivial⟩ ?_; clear H ey5
  rintro _ _ w7 ⟨rfl, rfl⟩ (H : Cx w0 fp0 S0 w7 [E (List Int) c_ c_h])
  obtain ⟨a8, e, hF9⟩ := bindS hF6; clear hF6
  refine max_ e ?_; clear e
  obtain ⟨a10, e, hF11⟩ := bindS hF9; clear hF9
  refine min_ e ?_; clear e
  obtain ⟨a18, e, hF19⟩ := bindS hF11; clear hF11
  have ea18 := e; clear e
  obtain ⟨p16, m17, c12, c13, c14⟩ := (H.ro (α := List Int) 0 rfl).setp ea18
  refine idxE c12 c13 c14 ?_
  refine setS (α := Int) H c12 c13 ea18 ?_; clear H c12 c13 c14 ea18; intro w20 H
  cases hF19
  exact ⟨_, _, rfl, ⟨rfl, rfl⟩, (H.sel [0] rfl).close ⟨cloE, trivial⟩⟩

theorem impl_Graph_glue_1_c (list_ : List Int) (list_h : Hd) (c0_b : Nat) (c0_ : List Bool) (c0_h : Hd) (c1_b : Nat) (c1_ : List Int) (c1_h : Hd) (y : List Bool) (hF : F_impl_Graph_glue_1 list_ c0_ c1_ = some y) :
    ConF Try.prog 92 #[(list_h).v, (.pointer (some ⟨c0_b, 0, none⟩)), (.pointer (some ⟨c1_b, 0, none⟩))] [Es (List Int) list_ list_h, Es (List Int) c1_ c1_h] [Bx c0_b [(c0_h).v], E (List Bool) c0_ c0_h, Bx c1_b [(c1_h).v]] (fun v Γ' => v = (.tuple #[]) ∧ Γ' = [Bx c0_b [(c0_h).v], E (List Bool) y c0_h, Bx c1_b [(c1_h).v]]) := by
  intro w0 S0 fp0 hI hS
  have H : Cx w0 fp0 S0 w0 [Es (List Int) list_ list_h, Es (List Int) c1_ c1_h, Bx c0_b [(c0_h).v], E (List Bool) c0_ c0_h, Bx c1_b [(c1_h).v]] := Cx.start hI hS
  clear hI hS
  refine enterC (args := [_, _, _]) gok Try.func92 rfl _ rfl rfl rfl ?_
  refine lenE (H.rs (α := List Int) 0 rfl).len ?_
  have hmx55 := (H.rs (α := List Int) 0 rfl).max
  obtain ⟨r56, e, hF57⟩ := bindS hF; clear hF
  refine loopS _ list_.length (fun (k6 : Nat) (s53 : List Bool) (_ : Unit) => [(1, (.pointer (some ⟨c0_b, 0, none⟩))), (2, (.pointer (some ⟨c1_b, 0, none⟩))), (6, (list_h).v), (7, (.int .i64 ((list_.length : Nat) : Int))), (8, (.int .i64 ((k6 : Nat) : Int)))]) (fun _ (s53 : List Bool) (_ : Unit) w' => Cx w0 fp0 S0 w' [Bx c0_b [(c0_h).v], E (List Bool) s53 c0_h, Bx c1_b [(c1_h).v], Es (List Int) c1_ c1_h, Es (List Int) list_ list_h]) c0_ () e ⟨rfl, rfl, rfl, rfl, rfl, trivial⟩ (H.sel [2, 3, 4, 1, 0] rfl) ?_ ?_
  · clear H e
    rintro T59 k6 s53 _ w58 o60 hk (H : Cx w0 fp0 S0 w58 [Bx c0_b [(c0_h).v], E (List Bool) s53 c0_h, Bx c1_b [(c1_h).v], Es (List Int) c1_ c1_h, Es (List Int) list_ list_h]) hF61
    refine boolE (z := true) (ltLen hk) ?_
    refine sq ?_
    refine sq ?_
    obtain ⟨a68, e, hF69⟩ := bindS hF61; clear hF61
    obtain ⟨p66, m67, c62, c63, c64, c65⟩ := (H.rs (α := List Int) 4 rfl).at1 e; clear e
    refine idxE c62 c63 c64 ?_; clear c62 c63 c64
    refine load1 c65 ?_; clear c65
    refine heldX H [5] (.fst 2 (.fst 0 (.fst 1 (.act 3 (.fst 4 (.act 5 .done)))))) mixed [] trivial (by kernel_rfl) ?_
    clear H; intro w70 H
    have hX : Ext w70 w70 := Upd.refl _ _
    have H0 := H
    refine load1X (H.bx0 0 rfl) ?_
    refine load1X (H.bx0 2 rfl) ?_
    obtain ⟨y71, e, hF72⟩ := bindS hF69; clear hF69
    have ey71 := e; clear e
    refine callFx (impl_classes_root_c c1_ c1_h a68 y71 ey71) H ⟨Vw.sh 3 rfl, trivial⟩ ?_; clear H ey71
    rintro _ _ w73 ⟨rfl, rfl⟩ hx (H : Cx w0 fp0 S0 w73 [Bx c0_b [(c0_h).v], E (List Bool) s53 c0_h, Bx c1_b [(c1_h).v], Es (List Int) c1_ c1_h, Es (List Int) list_ list_h])
    replace hX := hX.trans0 hx; clear hx
    refine hold hX ?_
    obtain ⟨a80, e, hF81⟩ := bindS hF72; clear hF72
    have ea80 := e; clear e
    obtain ⟨p78, m79, c74, c75, c76⟩ := (H.ro (α := List Bool) 1 rfl).setp ea80
    refine idxE c74 c75 c76 ?_
    replace H := H.sel [1, 0, 2, 3, 4] rfl
    refine setS (α := Bool) H c74 c75 ea80 ?_; clear H c74 c75 c76 ea80; intro w82 H
    refine hold trivial ?_
    refine arK hk hmx55 ?_
    have hs := Option.some.inj hF81; subst hs; clear hF81
    exact ⟨(), ⟨rfl, rfl, rfl, rfl, rfl, trivial⟩, H.sel [1, 0, 2, 3, 4] rfl⟩
  · clear H e
    rintro T84 _ w83 (H : Cx w0 fp0 S0 w83 [Bx c0_b [(c0_h).v], E (List Bool) r56 c0_h, Bx c1_b [(c1_h).v], Es (List Int) c1_ c1_h, Es (List Int) list_ list_h])
    refine boolE (z := false) geLen ?_
    refine sq ?_
    cases hF57
    exact ⟨_, _, rfl, ⟨rfl, rfl⟩, (H.sel [0, 1, 2] rfl).close ⟨cloB, cloE, cloB, trivial⟩⟩

theorem impl_Graph_lists_impl_Graph_glue_1_c (g__0 : Int) (g__1 : List (Int × Int × List Int × List Int)) (g__1h : Hd) (g__2 : List Int) (g__2h : Hd) (g__3 : List Int) (g__3h : Hd) (d0_b : Nat) (d0_ : List Bool) (d0_h : Hd) (d1_b : Nat) (d1_ : List Int) (d1_h : Hd) (y : List Bool) (hF : F_impl_Graph_lists_impl_Graph_glue_1 (g__0, g__1, g__2, g__3) d0_ d1_ = some y) :
    ConF Try.prog 76 #[(.agg #[(.int .i64 g__0), (g__1h).v, (g__2h).v, (g__3h).v]), (.func (.func 92) #[] #[(.pointer (some ⟨d0_b, 0, none⟩)), (.pointer (some ⟨d1_b, 0, none⟩))])] [Es (List (Int × Int × List Int × List Int)) g__1 g__1h, Es (List Int) g__2 g__2h, Es (List Int) g__3 g__3h, Es (List Int) d1_ d1_h] [Bx d0_b [(d0_h).v], E (List Bool) d0_ d0_h, Bx d1_b [(d1_h).v]] (fun v Γ' => v = (.tuple #[]) ∧ Γ' = [Bx d0_b [(d0_h).v], E (List Bool) y d0_h, Bx d1_b [(d1_h).v]]) := by
  intro w0 S0 fp0 hI hS
  have H : Cx w0 fp0 S0 w0 [Es (List (Int × Int × List Int × List Int)) g__1 g__1h, Es (List Int) g__2 g__2h, Es (List Int) g__3 g__3h, Es (List Int) d1_ d1_h, Bx d0_b [(d0_h).v], E (List Bool) d0_ d0_h, Bx d1_b [(d1_h).v]] := Cx.start hI hS
  clear hI hS
  refine enterC (args := [_, _]) gok Try.func76 rfl _ rfl rfl rfl ?_
  refine box_ H ?_; clear H; intro b9 w8 hx H
  clear hx
  replace H : Cx w0 fp0 S0 w8 [Bx b9 [(.int .i64 g__0), (g__1h).v, (g__2h).v, (g__3h).v], Es (List (Int × Int × List Int × List Int)) g__1 g__1h, Es (List Int) g__2 g__2h, Es (List Int) g__3 g__3h, Es (List Int) d1_ d1_h, Bx d0_b [(d0_h).v], E (List Bool) d0_ d0_h, Bx d1_b [(d1_h).v]] := H
  refine fld gok rfl rfl rfl rfl ?_
  refine load1 (H.bx 0 rfl (j := 2) rfl) ?_
  obtain ⟨y11, e, hF12⟩ := bindS hF; clear hF
  have ey11 := e; clear e
  replace H := H.sel [5, 6, 7, 0, 1, 2, 3, 4] rfl
  refine callF (impl_Graph_glue_1_c g__2 g__2h d0_b d0_ d0_h d1_b d1_ d1_h y11 ey11) (Γi := [Bx d0_b [(d0_h).v], E (List Bool) d0_ d0_h, Bx d1_b [(d1_h).v]]) H ⟨Vw.sh 2 rfl, Vw.sh 4 rfl, trivial⟩ ?_; clear H ey11
  rintro _ _ w13 ⟨rfl, rfl⟩ (H : Cx w0 fp0 S0 w13 [Bx d0_b [(d0_h).v], E (List Bool) y11 d0_h, Bx d1_b [(d1_h).v], Bx b9 [(.int .i64 g__0), (g__1h).v, (g__2h).v, (g__3h).v], Es (List (Int × Int × List Int × List Int)) g__1 g__1h, Es (List Int) g__2 g__2h, Es (List Int) g__3 g__3h, Es (List Int) d1_ d1_h])
  refine fld gok rfl rfl rfl rfl ?_
  refine load1 (H.bx 3 rfl (j := 3) rfl) ?_
  obtain ⟨y14, e, hF15⟩ := bindS hF12; clear hF12
  have ey14 := e; clear e
  refine callF (impl_Graph_glue_1_c g__3 g__3h d0_b y11 d0_h d1_b d1_ d1_h y14 ey14) (Γi := [Bx d0_b [(d0_h).v], E (List Bool) y11 d0_h, Bx d1_b [(d1_h).v]]) H ⟨Vw.sh 3 rfl, Vw.sh 4 rfl, trivial⟩ ?_; clear H ey14
  rintro _ _ w16 ⟨rfl, rfl⟩ (H : Cx w0 fp0 S0 w16 [Bx d0_b [(d0_h).v], E (List Bool) y14 d0_h, Bx d1_b [(d1_h).v], Bx b9 [(.int .i64 g__0), (g__1h).v, (g__2h).v, (g__3h).v], Es (List (Int × Int × List Int × List Int)) g__1 g__1h, Es (List Int) g__2 g__2h, Es (List Int) g__3 g__3h, Es (List Int) d1_ d1_h])
  refine fld gok rfl rfl rfl rfl ?_
  refine load1 (H.bx 3 rfl (j := 1) rfl) ?_
  refine lenE (H.rs (α := List (Int × Int × List Int × List Int)) 4 rfl).len ?_
  have hmx72 := (H.rs (α := List (Int × Int × List Int × List Int)) 4 rfl).max
  obtain ⟨r73, e, hF74⟩ := bindS hF15; clear hF15
  refine loopS _ g__1.length (fun (k17 : Nat) (s70 : List Bool) (_ : Unit) => [(1, (.func (.func 92) #[] #[(.pointer (some ⟨d0_b, 0, none⟩)), (.pointer (some ⟨d1_b, 0, none⟩))])), (15, (g__1h).v), (16, (.int .i64 ((g__1.length : Nat) : Int))), (17, (.int .i64 ((k17 : Nat) : Int)))]) (fun _ (s70 : List Bool) (_ : Unit) w' => Cx w0 fp0 S0 w' [Bx d0_b [(d0_h).v], E (List Bool) s70 d0_h, Bx d1_b [(d1_h).v], Es (List Int) d1_ d1_h, Es (List (Int × Int × List Int × List Int)) g__1 g__1h]) y14 () e ⟨rfl, rfl, rfl, rfl, trivial⟩ (H.sel [0, 1, 2, 7, 4] rfl) ?_ ?_
  · clear H e
    rintro T76 k17 s70 _ w75 o77 hk (H : Cx w0 fp0 S0 w75 [Bx d0_b [(d0_h).v], E (List Bool) s70 d0_h, Bx d1_b [(d1_h).v], Es (List Int) d1_ d1_h, Es (List (Int × Int × List Int × List Int)) g__1 g__1h]) hF78
    refine boolE (z := true) (ltLen hk) ?_
    refine sq ?_
    refine sq ?_
    obtain ⟨a85, e, hF86⟩ := bindS hF78; clear hF78
    have HH := H; clear H; obtain ⟨p83, m84, g87, c79, c80, c81, c82, H⟩ := HH.el (α := Int × Int × List Int × List Int) 4 rfl e; clear HH
    clear e
    obtain ⟨a85_0, a85_1, a85_2, a85_3⟩ := a85
    obtain ⟨_, _, h89, h90⟩ := g87
    replace H := H.part (β := List Int) a85_2 (h89 : Hd) 0 rfl (fun S h => (And.left (And.right (And.right h))))
    replace H := H.part (β := List Int) a85_3 (h90 : Hd) 1 rfl (fun S h => (And.right (And.right (And.right h))))
    replace H := H.sel [0, 1, 3, 4, 5, 6, 7] rfl
    refine idxE c79 c80 c81 ?_; clear c79 c80 c81
    refine loadN [(.int .i64 a85_0), (.int .i64 a85_1), (h89).v, (h90).v] rfl c82 ?_; clear c82
    refine alloc_ gok rfl H ?_; clear H; intro b94 w93 hx H
    clear hx
    replace H : Cx w0 fp0 S0 w93 [Bx b94 [(.int .i64 0), (.int .i64 0), (.slice none 0 0), (.slice none 0 0)], Es (List Int) a85_3 h90, Es (List Int) a85_2 h89, Bx d0_b [(d0_h).v], E (List Bool) s70 d0_h, Bx d1_b [(d1_h).v], Es (List Int) d1_ d1_h, Es (List (Int × Int × List Int × List Int)) g__1 g__1h] := H
    refine stA gok [(.int .i64 a85_0), (.int .i64 a85_1), (h89).v, (h90).v] rfl H rfl rfl rfl ?_; clear H; intro w96 H
    replace H : Cx w0 fp0 S0 w96 [Bx b94 [(.int .i64 a85_0), (.int .i64 a85_1), (h89).v, (h90).v], Es (List Int) a85_3 h90, Es (List Int) a85_2 h89, Bx d0_b [(d0_h).v], E (List Bool) s70 d0_h, Bx d1_b [(d1_h).v], Es (List Int) d1_ d1_h, Es (List (Int × Int × List Int × List Int)) g__1 g__1h] := H
    refine fld gok rfl rfl rfl rfl ?_
    refine load1 (H.bx 0 rfl (j := 2) rfl) ?_
    obtain ⟨y97, e, hF98⟩ := bindS hF86; clear hF86
    have ey97 := e; clear e
    replace H := H.sel [3, 4, 5, 0, 1, 2, 6, 7] rfl
    refine callF (impl_Graph_glue_1_c a85_2 h89 d0_b s70 d0_h d1_b d1_ d1_h y97 ey97) (Γi := [Bx d0_b [(d0_h).v], E (List Bool) s70 d0_h, Bx d1_b [(d1_h).v]]) H ⟨Vw.sh 2 rfl, Vw.sh 3 rfl, trivial⟩ ?_; clear H ey97
    rintro _ _ w99 ⟨rfl, rfl⟩ (H : Cx w0 fp0 S0 w99 [Bx d0_b [(d0_h).v], E (List Bool) y97 d0_h, Bx d1_b [(d1_h).v], Bx b94 [(.int .i64 a85_0), (.int .i64 a85_1), (h89).v, (h90).v], Es (List Int) a85_3 h90, Es (List Int) a85_2 h89, Es (List Int) d1_ d1_h, Es (List (Int × Int × List Int × List Int)) g__1 g__1h])
    refine fld gok rfl rfl rfl rfl ?_
    refine load1 (H.bx 3 rfl (j := 3) rfl) ?_
    obtain ⟨y100, e, hF101⟩ := bindS hF98; clear hF98
    have ey100 := e; clear e
    refine callF (impl_Graph_glue_1_c a85_3 h90 d0_b y97 d0_h d1_b d1_ d1_h y100 ey100) (Γi := [Bx d0_b [(d0_h).v], E (List Bool) y97 d0_h, Bx d1_b [(d1_h).v]]) H ⟨Vw.sh 1 rfl, Vw.sh 3 rfl, trivial⟩ ?_; clear H ey100
    rintro _ _ w102 ⟨rfl, rfl⟩ (H : Cx w0 fp0 S0 w102 [Bx d0_b [(d0_h).v], E (List Bool) y100 d0_h, Bx d1_b [(d1_h).v], Bx b94 [(.int .i64 a85_0), (.int .i64 a85_1), (h89).v, (h90).v], Es (List Int) a85_3 h90, Es (List Int) a85_2 h89, Es (List Int) d1_ d1_h, Es (List (Int × Int × List Int × List Int)) g__1 g__1h])
    refine arK hk hmx72 ?_
    have hs := Option.some.inj hF101; subst hs; clear hF101
    exact ⟨(), ⟨rfl, rfl, rfl, rfl, trivial⟩, H.sel [0, 1, 2, 6, 7] rfl⟩
  · clear H e
    rintro T104 _ w103 (H : Cx w0 fp0 S0 w103 [Bx d0_b [(d0_h).v], E (List Bool) r73 d0_h, Bx d1_b [(d1_h).v], Es (List Int) d1_ d1_h, Es (List (Int × Int × List Int × List Int)) g__1 g__1h])
    refine boolE (z := false) geLen ?_
    refine sq ?_
    cases hF74
    exact ⟨_, _, rfl, ⟨rfl, rfl⟩, (H.sel [0, 1, 2] rfl).close ⟨cloB, cloE, cloB, trivial⟩⟩

theorem impl_Graph_glue_c (g__0 : Int) (g__1 : List (Int × Int × List Int × List Int)) (g__1h : Hd) (g__2 : List Int) (g__2h : Hd) (g__3 : List Int) (g__3h : Hd) (pairs_ : List (Int × Int)) (pairs_h : Hd) (y_0_0 : Int) (y_0_1 : List (Int × Int × List Int × List Int)) (y_0_2 : List Int) (y_0_3 : List Int) (y_1 : List Int) (hF : F_impl_Graph_glue (g__0, g__1, g__2, g__3) pairs_ = some ((y_0_0, y_0_1, y_0_2, y_0_3), y_1)) :
    ConF Try.prog 71 #[(.agg #[(.int .i64 g__0), (g__1h).v, (g__2h).v, (g__3h).v]), (pairs_h).v] [Es (List (Int × Int × List Int × List Int)) g__1 g__1h, Es (List Int) g__2 g__2h, Es (List Int) g__3 g__3h, Es (List (Int × Int)) pairs_ pairs_h] [] (fun v Γ' => ∃ z0 z1 z2 z3 : Hd, v = (.agg #[(.int .i64 y_0_0), (z0).v, (z1).v, (z2).v, (z3).v]) ∧ Γ' = [E (List (Int × Int × List Int × List Int)) y_0_1 z0, E (List Int) y_0_2 z1, E (List Int) y_0_3 z2, E (List Int) y_1 z3]) := by
  intro w0 S0 fp0 hI hS
  have H : Cx w0 fp0 S0 w0 [Es (List (Int × Int × List Int × List Int)) g__1 g__1h, Es (List Int) g__2 g__2h, Es (List Int) g__3 g__3h, Es (List (Int × Int)) pairs_ pairs_h] := Cx.start hI hS
  clear hI hS
  refine enterC (args := [_, _]) gok Try.func71 rfl _ rfl rfl rfl ?_
  refine box_ H ?_; clear H; intro b6 w5 hx H
  clear hx
  replace H : Cx w0 fp0 S0 w5 [Bx b6 [(.int .i64 g__0), (g__1h).v, (g__2h).v, (g__3h).v], Es (List (Int × Int × List Int × List Int)) g__1 g__1h, Es (List Int) g__2 g__2h, Es (List Int) g__3 g__3h, Es (List (Int × Int)) pairs_ pairs_h] := H
  refine alloc_ gok rfl H ?_; clear H; intro b9 w8 hx H
  clear hx
  replace H : Cx w0 fp0 S0 w8 [Bx b9 [(.int .i64 0), (.slice none 0 0), (.slice none 0 0), (.slice none 0 0), (.slice none 0 0)], Bx b6 [(.int .i64 g__0), (g__1h).v, (g__2h).v, (g__3h).v], Es (List (Int × Int × List Int × List Int)) g__1 g__1h, Es (List Int) g__2 g__2h, Es (List Int) g__3 g__3h, Es (List (Int × Int)) pairs_ pairs_h] := H
  refine fld gok rfl rfl rfl rfl ?_
  refine load1 (H.bx 1 rfl (j := 0) rfl) ?_
  obtain ⟨y11, e, hF12⟩ := bindS hF; clear hF
  have ey11 := e; clear e
  refine callF (impl_upTo_c g__0 y11 ey11) (Γi := []) H trivial ?_; clear H ey11
  rintro _ _ w13 ⟨h14, rfl, rfl⟩ (H : Cx w0 fp0 S0 w13 [E (List Int) y11 h14, Bx b9 [(.int .i64 0), (.slice none 0 0), (.slice none 0 0), (.slice none 0 0), (.slice none 0 0)], Bx b6 [(.int .i64 g__0), (g__1h).v, (g__2h).v, (g__3h).v], Es (List (Int × Int × List Int × List Int)) g__1 g__1h, Es (List Int) g__2 g__2h, Es (List Int) g__3 g__3h, Es (List (Int × Int)) pairs_ pairs_h])
  refine alloc_ gok rfl H ?_; clear H; intro b17 w16 hx H
  clear hx
  replace H : Cx w0 fp0 S0 w16 [Bx b17 [(.slice none 0 0)], E (List Int) y11 h14, Bx b9 [(.int .i64 0), (.slice none 0 0), (.slice none 0 0), (.slice none 0 0), (.slice none 0 0)], Bx b6 [(.int .i64 g__0), (g__1h).v, (g__2h).v, (g__3h).v], Es (List (Int × Int × List Int × List Int)) g__1 g__1h, Es (List Int) g__2 g__2h, Es (List Int) g__3 g__3h, Es (List (Int × Int)) pairs_ pairs_h] := H
  refine stB0 H rfl ?_; clear H; intro w19 H
  replace H : Cx w0 fp0 S0 w19 [Bx b17 [(h14).v], E (List Int) y11 h14, Bx b9 [(.int .i64 0), (.slice none 0 0), (.slice none 0 0), (.slice none 0 0), (.slice none 0 0)], Bx b6 [(.int .i64 g__0), (g__1h).v, (g__2h).v, (g__3h).v], Es (List (Int × Int × List Int × List Int)) g__1 g__1h, Es (List Int) g__2 g__2h, Es (List Int) g__3 g__3h, Es (List (Int × Int)) pairs_ pairs_h] := H
  refine sq ?_
  refine lenE (H.rs (α := List (Int × Int)) 7 rfl).len ?_
  have hmx61 := (H.rs (α := List (Int × Int)) 7 rfl).max
  obtain ⟨r62, e, hF63⟩ := bindS hF12; clear hF12
  refine loopS _ pairs_.length (fun (k20 : Nat) (s59 : List Int) (_ : Unit) => [(2, (.pointer (some ⟨b6, 0, none⟩))), (4, (.pointer (some ⟨b9, 0, none⟩))), (5, (.pointer (some ⟨b17, 0, none⟩))), (16, (pairs_h).v), (17, (.int .i64 ((pairs_.length : Nat) : Int))), (18, (.int .i64 ((k20 : Nat) : Int)))]) (fun _ (s59 : List Int) (_ : Unit) w' => Cx w0 fp0 S0 w' [Bx b6 [(.int .i64 g__0), (g__1h).v, (g__2h).v, (g__3h).v], Es (List (Int × Int × List Int × List Int)) g__1 g__1h, Es (List Int) g__2 g__2h, Es (List Int) g__3 g__3h, Bx b9 [(.int .i64 0), (.slice none 0 0), (.slice none 0 0), (.slice none 0 0), (.slice none 0 0)], Bx b17 [(h14).v], E (List Int) s59 h14, Es (List (Int × Int)) pairs_ pairs_h]) y11 () e ⟨rfl, rfl, rfl, rfl, rfl, rfl, trivial⟩ (H.sel [3, 4, 5, 6, 2, 0, 1, 7] rfl) ?_ ?_
  · clear H e
    rintro T65 k20 s59 _ w64 o66 hk (H : Cx w0 fp0 S0 w64 [Bx b6 [(.int .i64 g__0), (g__1h).v, (g__2h).v, (g__3h).v], Es (List (Int × Int × List Int × List Int)) g__1 g__1h, Es (List Int) g__2 g__2h, Es (List Int) g__3 g__3h, Bx b9 [(.int .i64 0), (.slice none 0 0), (.slice none 0 0), (.slice none 0 0), (.slice none 0 0)], Bx b17 [(h14).v], E (List Int) s59 h14, Es (List (Int × Int)) pairs_ pairs_h]) hF67
    refine boolE (z := true) (ltLen hk) ?_
    refine sq ?_
    refine sq ?_
    obtain ⟨a74, e, hF75⟩ := bindS hF67; clear hF67
    have HH := H; clear H; obtain ⟨p72, m73, g76, c68, c69, c70, c71, H⟩ := HH.el (α := Int × Int) 7 rfl e; clear HH
    clear e
    obtain ⟨a74_0, a74_1⟩ := a74
    obtain ⟨_, _⟩ := g76
    replace H := H.sel [1, 2, 3, 4, 5, 6, 7, 8] rfl
    refine idxE c68 c69 c70 ?_; clear c68 c69 c70
    refine loadN [(.int .i64 a74_0), (.int .i64 a74_1)] rfl c71 ?_; clear c71
    refine alloc_ gok rfl H ?_; clear H; intro b79 w78 hx H
    clear hx
    replace H : Cx w0 fp0 S0 w78 [Bx b79 [(.int .i64 0), (.int .i64 0)], Bx b6 [(.int .i64 g__0), (g__1h).v, (g__2h).v, (g__3h).v], Es (List (Int × Int × List Int × List Int)) g__1 g__1h, Es (List Int) g__2 g__2h, Es (List Int) g__3 g__3h, Bx b9 [(.int .i64 0), (.slice none 0 0), (.slice none 0 0), (.slice none 0 0), (.slice none 0 0)], Bx b17 [(h14).v], E (List Int) s59 h14, Es (List (Int × Int)) pairs_ pairs_h] := H
    refine stA gok [(.int .i64 a74_0), (.int .i64 a74_1)] rfl H rfl rfl rfl ?_; clear H; intro w81 H
    replace H : Cx w0 fp0 S0 w81 [Bx b79 [(.int .i64 a74_0), (.int .i64 a74_1)], Bx b6 [(.int .i64 g__0), (g__1h).v, (g__2h).v, (g__3h).v], Es (List (Int × Int × List Int × List Int)) g__1 g__1h, Es (List Int) g__2 g__2h, Es (List Int) g__3 g__3h, Bx b9 [(.int .i64 0), (.slice none 0 0), (.slice none 0 0), (.slice none 0 0), (.slice none 0 0)], Bx b17 [(h14).v], E (List Int) s59 h14, Es (List (Int × Int)) pairs_ pairs_h] := H
    refine load1 (H.bx0 6 rfl) ?_
    refine idxAr gok rfl rfl (m := 0) rfl rfl ?_
    refine load1 (H.bx 0 rfl (j := 0) rfl) ?_
    refine idxAr gok rfl rfl (m := 1) rfl rfl ?_
    refine load1 (H.bx 0 rfl (j := 1) rfl) ?_
    obtain ⟨y82, e, hF83⟩ := bindS hF75; clear hF75
    have ey82 := e; clear e
    replace H := H.sel [7, 0, 1, 2, 3, 4, 5, 6, 8] rfl
    refine callF (impl_classes_join_c s59 h14 a74_0 a74_1 y82 ey82) (Γi := [E (List Int) s59 h14]) H trivial ?_; clear H ey82
    rintro _ _ w84 ⟨rfl, rfl⟩ (H : Cx w0 fp0 S0 w84 [E (List Int) y82 h14, Bx b79 [(.int .i64 a74_0), (.int .i64 a74_1)], Bx b6 [(.int .i64 g__0), (g__1h).v, (g__2h).v, (g__3h).v], Es (List (Int × Int × List Int × List Int)) g__1 g__1h, Es (List Int) g__2 g__2h, Es (List Int) g__3 g__3h, Bx b9 [(.int .i64 0), (.slice none 0 0), (.slice none 0 0), (.slice none 0 0), (.slice none 0 0)], Bx b17 [(h14).v], Es (List (Int × Int)) pairs_ pairs_h])
    refine arK hk hmx61 ?_
    have hs := Option.some.inj hF83; subst hs; clear hF83
    exact ⟨(), ⟨rfl, rfl, rfl, rfl, rfl, rfl, trivial⟩, H.sel [2, 3, 4, 5, 6, 7, 0, 8] rfl⟩
  · clear H e
    rintro T86 _ w85 (H : Cx w0 fp0 S0 w85 [Bx b6 [(.int .i64 g__0), (g__1h).v, (g__2h).v, (g__3h).v], Es (List (Int × Int × List Int × List Int)) g__1 g__1h, Es (List Int) g__2 g__2h, Es (List Int) g__3 g__3h, Bx b9 [(.int .i64 0), (.slice none 0 0), (.slice none 0 0), (.slice none 0 0), (.slice none 0 0)], Bx b17 [(h14).v], E (List Int) r62 h14, Es (List (Int × Int)) pairs_ pairs_h])
    refine boolE (z := false) geLen ?_
    refine sq ?_
    refine fld gok rfl rfl rfl rfl ?_
    refine load1 (H.bx 0 rfl (j := 0) rfl) ?_
    obtain ⟨a89, e, hF90⟩ := bindS hF63; clear hF63
    refine make_ (α := Bool) gok rfl rfl rfl rfl (makeCO_of e) H ?_; clear e H; intro h92 w91 hx H
    clear hx
    refine alloc_ gok rfl H ?_; clear H; intro b95 w94 hx H
    clear hx
    replace H : Cx w0 fp0 S0 w94 [Bx b95 [(.slice none 0 0)], E (List Bool) a89 h92, Bx b6 [(.int .i64 g__0), (g__1h).v, (g__2h).v, (g__3h).v], Es (List (Int × Int × List Int × List Int)) g__1 g__1h, Es (List Int) g__2 g__2h, Es (List Int) g__3 g__3h, Bx b9 [(.int .i64 0), (.slice none 0 0), (.slice none 0 0), (.slice none 0 0), (.slice none 0 0)], Bx b17 [(h14).v], E (List Int) r62 h14, Es (List (Int × Int)) pairs_ pairs_h] := H
    refine stB0 H rfl ?_; clear H; intro w97 H
    replace H : Cx w0 fp0 S0 w97 [Bx b95 [(h92).v], E (List Bool) a89 h92, Bx b6 [(.int .i64 g__0), (g__1h).v, (g__2h).v, (g__3h).v], Es (List (Int × Int × List Int × List Int)) g__1 g__1h, Es (List Int) g__2 g__2h, Es (List Int) g__3 g__3h, Bx b9 [(.int .i64 0), (.slice none 0 0), (.slice none 0 0), (.slice none 0 0), (.slice none 0 0)], Bx b17 [(h14).v], E (List Int) r62 h14, Es (List (Int × Int)) pairs_ pairs_h] := H
    refine loadN [(.int .i64 g__0), (g__1h).v, (g__2h).v, (g__3h).v] rfl (fun j u hj => H.bx 2 rfl hj) ?_
    obtain ⟨y98, e, hF99⟩ := bindS hF90; clear hF90
    have ey98 := e; clear e
    replace H := H.sel [0, 1, 7, 2, 3, 4, 5, 6, 8, 9] rfl
    refine callF (impl_Graph_lists_impl_Graph_glue_1_c g__0 g__1 g__1h g__2 g__2h g__3 g__3h b95 a89 h92 b17 r62 h14 y98 ey98) (Γi := [Bx b95 [(h92).v], E (List Bool) a89 h92, Bx b17 [(h14).v]]) H ⟨Vw.sh 1 rfl, Vw.sh 2 rfl, Vw.sh 3 rfl, Vw.own 5 rfl, trivial⟩ ?_; clear H ey98
    rintro _ _ w100 ⟨rfl, rfl⟩ (H : Cx w0 fp0 S0 w100 [Bx b95 [(h92).v], E (List Bool) y98 h92, Bx b17 [(h14).v], Bx b6 [(.int .i64 g__0), (g__1h).v, (g__2h).v, (g__3h).v], Es (List (Int × Int × List Int × List Int)) g__1 g__1h, Es (List Int) g__2 g__2h, Es (List Int) g__3 g__3h, Bx b9 [(.int .i64 0), (.slice none 0 0), (.slice none 0 0), (.slice none 0 0), (.slice none 0 0)], E (List Int) r62 h14, Es (List (Int × Int)) pairs_ pairs_h])
    refine fld gok rfl rfl rfl rfl ?_
    refine load1 (H.bx 3 rfl (j := 0) rfl) ?_
    obtain ⟨y101, e, hF102⟩ := bindS hF99; clear hF99
    have ey101 := e; clear e
    refine callF (impl_zeros_c g__0 y101 ey101) (Γi := []) H trivial ?_; clear H ey101
    rintro _ _ w103 ⟨h104, rfl, rfl⟩ (H : Cx w0 fp0 S0 w103 [E (List Int) y101 h104, Bx b95 [(h92).v], E (List Bool) y98 h92, Bx b17 [(h14).v], Bx b6 [(.int .i64 g__0), (g__1h).v, (g__2h).v, (g__3h).v], Es (List (Int × Int × List Int × List Int)) g__1 g__1h, Es (List Int) g__2 g__2h, Es (List Int) g__3 g__3h, Bx b9 [(.int .i64 0), (.slice none 0 0), (.slice none 0 0), (.slice none 0 0), (.slice none 0 0)], E (List Int) r62 h14, Es (List (Int × Int)) pairs_ pairs_h])
    refine sq ?_
    refine lenE (H.ro (α := List Int) 0 rfl).len ?_
    have hmx225 := (H.ro (α := List Int) 0 rfl).max
    obtain ⟨r226, e, hF227⟩ := bindS hF102; clear hF102
    refine loopS _ y101.length (fun (k106 : Nat) (s223 : List Int × Int) (_ : Unit) => [(2, (.pointer (some ⟨b6, 0, none⟩))), (4, (.pointer (some ⟨b9, 0, none⟩))), (5, (.pointer (some ⟨b17, 0, none⟩))), (8, (.pointer (some ⟨b95, 0, none⟩))), (9, (h104).v), (10, (.int .i64 s223.2)), (39, (.int .i64 ((y101.length : Nat) : Int))), (40, (.int .i64 ((k106 : Nat) : Int)))]) (fun _ (s223 : List Int × Int) (_ : Unit) w' => Cx w0 fp0 S0 w' [Bx b6 [(.int .i64 g__0), (g__1h).v, (g__2h).v, (g__3h).v], Es (List (Int × Int × List Int × List Int)) g__1 g__1h, Es (List Int) g__2 g__2h, Es (List Int) g__3 g__3h, Bx b9 [(.int .i64 0), (.slice none 0 0), (.slice none 0 0), (.slice none 0 0), (.slice none 0 0)], Bx b17 [(h14).v], E (List Int) r62 h14, Bx b95 [(h92).v], E (List Bool) y98 h92, E (List Int) s223.1 h104]) (y101, 0) () e ⟨rfl, rfl, rfl, rfl, rfl, rfl, rfl, rfl, trivial⟩ (H.sel [4, 5, 6, 7, 8, 3, 9, 1, 2, 0] rfl) ?_ ?_
    · clear H e
      rintro T229 k106 ⟨s223_0, s223_1⟩ _ w228 o230 hk (H : Cx w0 fp0 S0 w228 [Bx b6 [(.int .i64 g__0), (g__1h).v, (g__2h).v, (g__3h).v], Es (List (Int × Int × List Int × List Int)) g__1 g__1h, Es (List Int) g__2 g__2h, Es (List Int) g__3 g__3h, Bx b9 [(.int .i64 0), (.slice none 0 0), (.slice none 0 0), (.slice none 0 0), (.slice none 0 0)], Bx b17 [(h14).v], E (List Int) r62 h14, Bx b95 [(h92).v], E (List Bool) y98 h92, E (List Int) s223_0 h104]) hF231
      refine boolE (z := true) (ltLen hk) ?_
      refine sq ?_
      refine sq ?_
      refine load1 (H.bx0 5 rfl) ?_
      obtain ⟨y232, e, hF233⟩ := bindS hF231; clear hF231
      have ey232 := e; clear e
      refine callF (impl_classes_root_c r62 h14 ((k106 : Nat) : Int) y232 ey232) (Γi := []) H ⟨Vw.own 6 rfl, trivial⟩ ?_; clear H ey232
      rintro _ _ w234 ⟨rfl, rfl⟩ (H : Cx w0 fp0 S0 w234 [Bx b6 [(.int .i64 g__0), (g__1h).v, (g__2h).v, (g__3h).v], Es (List (Int × Int × List Int × List Int)) g__1 g__1h, Es (List Int) g__2 g__2h, Es (List Int) g__3 g__3h, Bx b9 [(.int .i64 0), (.slice none 0 0), (.slice none 0 0), (.slice none 0 0), (.slice none 0 0)], Bx b17 [(h14).v], E (List Int) r62 h14, Bx b95 [(h92).v], E (List Bool) y98 h92, E (List Int) s223_0 h104])
      refine load1 (H.bx0 7 rfl) ?_
      obtain ⟨a241, e, hF242⟩ := bindS hF233; clear hF233
      obtain ⟨p239, m240, c235, c236, c237, c238⟩ := (H.ro (α := List Bool) 8 rfl).at1 e; clear e
      refine idxE c235 c236 c237 ?_; clear c235 c236 c237
      refine load1 c238 ?_; clear c238
      obtain ⟨a243, e, hF244⟩ := bindS hF242; clear hF242
      refine boolO e ?_; clear e
      cases a243
      · have hF245 := condF hF244; clear hF244
        obtain ⟨a246, e, hF247⟩ := bindS hF245; clear hF245
        refine boolO e ?_; clear e
        cases a246
        · have hF248 := condF hF247; clear hF247
          obtain ⟨a255, e, hF256⟩ := bindS hF248; clear hF248
          have ea255 := e; clear e
          obtain ⟨p253, m254, c249, c250, c251⟩ := (H.ro (α := List Int) 9 rfl).setp ea255
          refine idxE c249 c250 c251 ?_
          replace H := H.sel [9, 0, 1, 2, 3, 4, 5, 6, 7, 8] rfl
          refine setS (α := Int) H c249 c250 ea255 ?_; clear H c249 c250 c251 ea255; intro w257 H
          obtain ⟨a258, e, hF259⟩ := bindS hF256; clear hF256
          refine arO e ?_; clear e
          refine arK hk hmx225 ?_
          have hs := Option.some.inj hF259; subst hs; clear hF259
          exact ⟨(), ⟨rfl, rfl, rfl, rfl, rfl, rfl, rfl, rfl, trivial⟩, H.sel [1, 2, 3, 4, 5, 6, 7, 8, 9, 0] rfl⟩
        · have hF260 := condT hF247; clear hF247
          obtain ⟨a267, e, hF268⟩ := bindS hF260; clear hF260
          obtain ⟨p265, m266, c261, c262, c263, c264⟩ := (H.ro (α := List Int) 9 rfl).at1 e; clear e
          refine idxE c261 c262 c263 ?_; clear c261 c262 c263
          refine load1 c264 ?_; clear c264
          obtain ⟨a275, e, hF276⟩ := bindS hF268; clear hF268
          have ea275 := e; clear e
          obtain ⟨p273, m274, c269, c270, c271⟩ := (H.ro (α := List Int) 9 rfl).setp ea275
          refine idxE c269 c270 c271 ?_
          replace H := H.sel [9, 0, 1, 2, 3, 4, 5, 6, 7, 8] rfl
          refine setS (α := Int) H c269 c270 ea275 ?_; clear H c269 c270 c271 ea275; intro w277 H
          refine arK hk hmx225 ?_
          have hs := Option.some.inj hF276; subst hs; clear hF276
          exact ⟨(), ⟨rfl, rfl, rfl, rfl, rfl, rfl, rfl, rfl, trivial⟩, H.sel [1, 2, 3, 4, 5, 6, 7, 8, 9, 0] rfl⟩
      · have hF278 := condT hF244; clear hF244
        obtain ⟨a285, e, hF286⟩ := bindS hF278; clear hF278
        have ea285 := e; clear e
        obtain ⟨p283, m284, c279, c280, c281⟩ := (H.ro (α := List Int) 9 rfl).setp ea285
        refine idxE c279 c280 c281 ?_
        replace H := H.sel [9, 0, 1, 2, 3, 4, 5, 6, 7, 8] rfl
        refine setS (α := Int) H c279 c280 ea285 ?_; clear H c279 c280 c281 ea285; intro w287 H
        refine arK hk hmx225 ?_
        have hs := Option.some.inj hF286; subst hs; clear hF286
        exact ⟨(), ⟨rfl, rfl, rfl, rfl, rfl, rfl, rfl, rfl, trivial⟩, H.sel [1, 2, 3, 4, 5, 6, 7, 8, 9, 0] rfl⟩
    · clear H e
      obtain ⟨s290_0, s290_1⟩ := r226
      rintro T289 _ w288 (H : Cx w0 fp0 S0 w288 [Bx b6 [(.int .i64 g__0), (g__1h).v, (g__2h).v, (g__3h).v], Es (List (Int × Int × List Int × List Int)) g__1 g__1h, Es (List Int) g__2 g__2h, Es (List Int) g__3 g__3h, Bx b9 [(.int .i64 0), (.slice none 0 0), (.slice none 0 0), (.slice none 0 0), (.slice none 0 0)], Bx b17 [(h14).v], E (List Int) r62 h14, Bx b95 [(h92).v], E (List Bool) y98 h92, E (List Int) s290_0 h104])
      refine boolE (z := false) geLen ?_
      refine sq ?_
      refine loadN [(.int .i64 g__0), (g__1h).v, (g__2h).v, (g__3h).v] rfl (fun j u hj => H.bx 0 rfl hj) ?_
      obtain ⟨y292, e, hF293⟩ := bindS hF227; clear hF227
      obtain ⟨y292_0, y292_1, y292_2, y292_3⟩ := y292
      have ey292 := e; clear e
      refine callF (impl_Graph_moved_c g__0 g__1 g__1h g__2 g__2h g__3 g__3h s290_1 s290_0 h104 y292_0 y292_1 y292_2 y292_3 ey292) (Γi := []) H ⟨Vw.sh 1 rfl, Vw.sh 2 rfl, Vw.sh 3 rfl, Vw.own 9 rfl, trivial⟩ ?_; clear H ey292
      rintro _ _ w294 ⟨h295, h297, h299, rfl, rfl⟩ (H : Cx w0 fp0 S0 w294 [E (List (Int × Int × List Int × List Int)) y292_1 h295, E (List Int) y292_2 h297, E (List Int) y292_3 h299, Bx b6 [(.int .i64 g__0), (g__1h).v, (g__2h).v, (g__3h).v], Es (List (Int × Int × List Int × List Int)) g__1 g__1h, Es (List Int) g__2 g__2h, Es (List Int) g__3 g__3h, Bx b9 [(.int .i64 0), (.slice none 0 0), (.slice none 0 0), (.slice none 0 0), (.slice none 0 0)], Bx b17 [(h14).v], E (List Int) r62 h14, Bx b95 [(h92).v], E (List Bool) y98 h92, E (List Int) s290_0 h104])
      refine build_ (cs := #[(.int .i64 y292_0), (h295).v, (h297).v, (h299).v, (h104).v]) gok rfl rfl rfl ?_
      replace H := H.sel [7, 0, 1, 2, 3, 4, 5, 6, 8, 9, 10, 11, 12] rfl
      refine stA gok [(.int .i64 y292_0), (h295).v, (h297).v, (h299).v, (h104).v] rfl H rfl rfl rfl ?_; clear H; intro w301 H
      replace H : Cx w0 fp0 S0 w301 [Bx b9 [(.int .i64 y292_0), (h295).v, (h297).v, (h299).v, (h104).v], E (List (Int × Int × List Int × List Int)) y292_1 h295, E (List Int) y292_2 h297, E (List Int) y292_3 h299, Bx b6 [(.int .i64 g__0), (g__1h).v, (g__2h).v, (g__3h).v], Es (List (Int × Int × List Int × List Int)) g__1 g__1h, Es (List Int) g__2 g__2h, Es (List Int) g__3 g__3h, Bx b17 [(h14).v], E (List Int) r62 h14, Bx b95 [(h92).v], E (List Bool) y98 h92, E (List Int) s290_0 h104] := H
      refine loadN [(.int .i64 y292_0), (h295).v, (h297).v, (h299).v, (h104).v] rfl (fun j u hj => H.bx 0 rfl hj) ?_
      cases hF293
      exact ⟨_, _, rfl, ⟨h295, h297, h299, h104, rfl, rfl⟩, (H.sel [1, 2, 3, 12] rfl).close ⟨cloE, cloE, cloE, cloE, trivial⟩⟩

theorem impl_seqGraphs_c (a__0 : Int) (a__1 : List (Int × Int × List Int × List Int)) (a__1h : Hd) (a__2 : List Int) (a__2h : Hd) (a__3 : List Int) (a__3h : Hd) (b__0 : Int) (b__1 : List (Int × Int × List Int × List Int)) (b__1h : Hd) (b__2 : List Int) (b__2h : Hd) (b__3 : List Int) (b__3h : Hd) (y_0 : Int) (y_1 : List (Int × Int × List Int × List Int)) (y_2 : List Int) (y_3 : List Int) (hF : F_impl_seqGraphs (a__0, a__1, a__2, a__3) (b__0, b__1, b__2, b__3) = some (y_0, y_1, y_2, y_3)) :
    ConF Try.prog 49 #[(.agg #[(.int .i64 a__0), (a__1h).v, (a__2h).v, (a__3h).v]), (.agg #[(.int .i64 b__0), (b__1h).v, (b__2h).v, (b__3h).v])] [Es (List (Int × Int × List Int × List Int)) a__1 a__1h, Es (List Int) a__2 a__2h, Es (List Int) a__3 a__3h, Es (List (Int × Int × List Int × List Int)) b__1 b__1h, Es (List Int) b__2 b__2h, Es (List Int) b__3 b__3h] [] (fun v Γ' => ∃ z0 z1 z2 : Hd, v = (.agg #[(.int .i64 y_0), (z0).v, (z1).v, (z2).v]) ∧ Γ' = [E (List (Int × Int × List Int × List Int)) y_1 z0, E (List Int) y_2 z1, E (List Int) y_3 z2]) := by
  intro w0 S0 fp0 hI hS
  have H : Cx w0 fp0 S0 w0 [Es (List (Int × Int × List Int × List Int)) a__1 a__1h, Es (List Int) a__2 a__2h, Es (List Int) a__3 a__3h, Es (List (Int × Int × List Int × List Int)) b__1 b__1h, Es (List Int) b__2 b__2h, Es (List Int) b__3 b__3h] := Cx.start hI hS
  clear hI hS
  refine enterC (args := [_, _]) gok Try.func49 rfl _ rfl rfl rfl ?_
  refine box_ H ?_; clear H; intro b8 w7 hx H
  clear hx
  replace H : Cx w0 fp0 S0 w7 [Bx b8 [(.int .i64 a__0), (a__1h).v, (a__2h).v, (a__3h).v], Es (List (Int × Int × List Int × List Int)) a__1 a__1h, Es (List Int) a__2 a__2h, Es (List Int) a__3 a__3h, Es (List (Int × Int × List Int × List Int)) b__1 b__1h, Es (List Int) b__2 b__2h, Es (List Int) b__3 b__3h] := H
  refine box_ H ?_; clear H; intro b11 w10 hx H
  clear hx
  replace H : Cx w0 fp0 S0 w10 [Bx b11 [(.int .i64 b__0), (b__1h).v, (b__2h).v, (b__3h).v], Bx b8 [(.int .i64 a__0), (a__1h).v, (a__2h).v, (a__3h).v], Es (List (Int × Int × List Int × List Int)) a__1 a__1h, Es (List Int) a__2 a__2h, Es (List Int) a__3 a__3h, Es (List (Int × Int × List Int × List Int)) b__1 b__1h, Es (List Int) b__2 b__2h, Es (List Int) b__3 b__3h] := H
  refine alloc_ gok rfl H ?_; clear H; intro b14 w13 hx H
  clear hx
  replace H : Cx w0 fp0 S0 w13 [Bx b14 [(.int .i64 0), (.slice none 0 0), (.slice none 0 0), (.slice none 0 0)], Bx b11 [(.int .i64 b__0), (b__1h).v, (b__2h).v, (b__3h).v], Bx b8 [(.int .i64 a__0), (a__1h).v, (a__2h).v, (a__3h).v], Es (List (Int × Int × List Int × List Int)) a__1 a__1h, Es (List Int) a__2 a__2h, Es (List Int) a__3 a__3h, Es (List (Int × Int × List Int × List Int)) b__1 b__1h, Es (List Int) b__2 b__2h, Es (List Int) b__3 b__3h] := H
  refine loadN [(.int .i64 a__0), (a__1h).v, (a__2h).v, (a__3h).v] rfl (fun j u hj => H.bx 2 rfl hj) ?_
  refine loadN [(.int .i64 b__0), (b__1h).v, (b__2h).v, (b__3h).v] rfl (fun j u hj => H.bx 1 rfl hj) ?_
  obtain ⟨y16, e, hF17⟩ := bindS hF; clear hF
  obtain ⟨y16_0, y16_1, y16_2, y16_3⟩ := y16
  have ey16 := e; clear e
  refine callF (impl_Graph_beside_c a__0 a__1 a__1h a__2 a__2h a__3 a__3h b__0 b__1 b__1h b__2 b__2h b__3 b__3h y16_0 y16_1 y16_2 y16_3 ey16) (Γi := []) H ⟨Vw.sh 3 rfl, Vw.sh 4 rfl, Vw.sh 5 rfl, Vw.sh 6 rfl, Vw.sh 7 rfl, Vw.sh 8 rfl, trivial⟩ ?_; clear H ey16
  rintro _ _ w18 ⟨h19, h21, h23, rfl, rfl⟩ (H : Cx w0 fp0 S0 w18 [E (List (Int × Int × List Int × List Int)) y16_1 h19, E (List Int) y16_2 h21, E (List Int) y16_3 h23, Bx b14 [(.int .i64 0), (.slice none 0 0), (.slice none 0 0), (.slice none 0 0)], Bx b11 [(.int .i64 b__0), (b__1h).v, (b__2h).v, (b__3h).v], Bx b8 [(.int .i64 a__0), (a__1h).v, (a__2h).v, (a__3h).v], Es (List (Int × Int × List Int × List Int)) a__1 a__1h, Es (List Int) a__2 a__2h, Es (List Int) a__3 a__3h, Es (List (Int × Int × List Int × List Int)) b__1 b__1h, Es (List Int) b__2 b__2h, Es (List Int) b__3 b__3h])
  refine alloc_ gok rfl H ?_; clear H; intro b26 w25 hx H
  clear hx
  replace H : Cx w0 fp0 S0 w25 [Bx b26 [(.int .i64 0), (.slice none 0 0), (.slice none 0 0), (.slice none 0 0)], E (List (Int × Int × List Int × List Int)) y16_1 h19, E (List Int) y16_2 h21, E (List Int) y16_3 h23, Bx b14 [(.int .i64 0), (.slice none 0 0), (.slice none 0 0), (.slice none 0 0)], Bx b11 [(.int .i64 b__0), (b__1h).v, (b__2h).v, (b__3h).v], Bx b8 [(.int .i64 a__0), (a__1h).v, (a__2h).v, (a__3h).v], Es (List (Int × Int × List Int × List Int)) a__1 a__1h, Es (List Int) a__2 a__2h, Es (List Int) a__3 a__3h, Es (List (Int × Int × List Int × List Int)) b__1 b__1h, Es (List Int) b__2 b__2h, Es (List Int) b__3 b__3h] := H
  refine stA gok [(.int .i64 y16_0), (h19).v, (h21).v, (h23).v] rfl H rfl rfl rfl ?_; clear H; intro w28 H
  replace H : Cx w0 fp0 S0 w28 [Bx b26 [(.int .i64 y16_0), (h19).v, (h21).v, (h23).v], E (List (Int × Int × List Int × List Int)) y16_1 h19, E (List Int) y16_2 h21, E (List Int) y16_3 h23, Bx b14 [(.int .i64 0), (.slice none 0 0), (.slice none 0 0), (.slice none 0 0)], Bx b11 [(.int .i64 b__0), (b__1h).v, (b__2h).v, (b__3h).v], Bx b8 [(.int .i64 a__0), (a__1h).v, (a__2h).v, (a__3h).v], Es (List (Int × Int × List Int × List Int)) a__1 a__1h, Es (List Int) a__2 a__2h, Es (List Int) a__3 a__3h, Es (List (Int × Int × List Int × List Int)) b__1 b__1h, Es (List Int) b__2 b__2h, Es (List Int) b__3 b__3h] := H
  refine lit0 (α := Int × Int) gok rfl rfl H ?_; clear H; intro h30 w29 hx H
  clear hx
  refine sq ?_
  refine fld gok rfl rfl rfl rfl ?_
  refine load1 (H.bx 7 rfl (j := 3) rfl) ?_
  refine lenE (H.rs (α := List Int) 10 rfl).len ?_
  have hmx101 := (H.rs (α := List Int) 10 rfl).max
  obtain ⟨r102, e, hF103⟩ := bindS hF17; clear hF17
  refine loopS _ a__3.length (fun (k32 : Nat) (s98 : List (Int × Int)) (g99 : Hd) => [(2, (.pointer (some ⟨b8, 0, none⟩))), (3, (.pointer (some ⟨b11, 0, none⟩))), (4, (.pointer (some ⟨b14, 0, none⟩))), (5, (.pointer (some ⟨b26, 0, none⟩))), (6, (g99).v), (14, (a__3h).v), (15, (.int .i64 ((a__3.length : Nat) : Int))), (16, (.int .i64 ((k32 : Nat) : Int)))]) (fun _ (s98 : List (Int × Int)) (g99 : Hd) w' => Cx w0 fp0 S0 w' [Bx b8 [(.int .i64 a__0), (a__1h).v, (a__2h).v, (a__3h).v], Es (List (Int × Int × List Int × List Int)) a__1 a__1h, Es (List Int) a__2 a__2h, Es (List Int) a__3 a__3h, Bx b11 [(.int .i64 b__0), (b__1h).v, (b__2h).v, (b__3h).v], Es (List (Int × Int × List Int × List Int)) b__1 b__1h, Es (List Int) b__2 b__2h, Es (List Int) b__3 b__3h, Bx b14 [(.int .i64 0), (.slice none 0 0), (.slice none 0 0), (.slice none 0 0)], Bx b26 [(.int .i64 y16_0), (h19).v, (h21).v, (h23).v], E (List (Int × Int × List Int × List Int)) y16_1 h19, E (List Int) y16_2 h21, E (List Int) y16_3 h23, E (List (Int × Int)) s98 g99]) ([] : List (Int × Int)) h30 e ⟨rfl, rfl, rfl, rfl, rfl, rfl, rfl, rfl, trivial⟩ (H.sel [7, 8, 9, 10, 6, 11, 12, 13, 5, 1, 2, 3, 4, 0] rfl) ?_ ?_
  · clear H e
    rintro T105 k32 s98 g99 w104 o106 hk (H : Cx w0 fp0 S0 w104 [Bx b8 [(.int .i64 a__0), (a__1h).v, (a__2h).v, (a__3h).v], Es (List (Int × Int × List Int × List Int)) a__1 a__1h, Es (List Int) a__2 a__2h, Es (List Int) a__3 a__3h, Bx b11 [(.int .i64 b__0), (b__1h).v, (b__2h).v, (b__3h).v], Es (List (Int × Int × List Int × List Int)) b__1 b__1h, Es (List Int) b__2 b__2h, Es (List Int) b__3 b__3h, Bx b14 [(.int .i64 0), (.slice none 0 0), (.slice none 0 0), (.slice none 0 0)], Bx b26 [(.int .i64 y16_0), (h19).v, (h21).v, (h23).v], E (List (Int × Int × List Int × List Int)) y16_1 h19, E (List Int) y16_2 h21, E (List Int) y16_3 h23, E (List (Int × Int)) s98 g99]) hF107
    refine boolE (z := true) (ltLen hk) ?_
    refine sq ?_
    refine sq ?_
    obtain ⟨a114, e, hF115⟩ := bindS hF107; clear hF107
    obtain ⟨p112, m113, c108, c109, c110, c111⟩ := (H.rs (α := List Int) 3 rfl).at1 e; clear e
    refine idxE c108 c109 c110 ?_; clear c108 c109 c110
    refine load1 c111 ?_; clear c111
    refine heldX H [12, 13] (.fst 0 (.fst 1 (.fst 2 (.fst 4 (.fst 6 (.fst 3 (.fst 5 (.fst 7 (.fst 8 (.fst 9 (.fst 10 (.act 11 (.act 12 (.act 13 .done)))))))))))))) mixed [] trivial (by kernel_rfl) ?_
    clear H; intro w116 H
    have hX : Ext w116 w116 := Upd.refl _ _
    have H0 := H
    refine anyH (fun _ => fld gok rfl rfl rfl rfl ⟨rfl, rfl⟩) ?_
    refine anyH (fun _ => fld gok rfl rfl rfl rfl ⟨rfl, rfl⟩) ?_
    refine load1X (H.bx 0 rfl (j := 0) rfl) ?_
    refine load1X (H.bx 4 rfl (j := 2) rfl) ?_
    obtain ⟨a123, e, hF124⟩ := bindS hF115; clear hF115
    obtain ⟨p121, m122, c117, c118, c119, c120⟩ := (H.rs (α := List Int) 6 rfl).at1 e; clear e
    refine idxE c117 c118 c119 ?_; clear c117 c118 c119
    refine load1X c120 ?_; clear c120
    obtain ⟨a125, e, hF126⟩ := bindS hF124; clear hF124
    refine arO e ?_; clear e
    refine anyH (fun _ => buildAr (cs := #[(.int .i64 a114), (.int .i64 a125)]) gok rfl rfl rfl ⟨rfl, rfl⟩) ?_
    replace H := H.sc (α := Int) a125
    replace H := H.sc (α := Int) a114
    replace H := H.join (α := Int) (β := Int)
    refine lit1 (α := Int × Int) (g := ((), ())) gok rfl rfl rfl rfl rfl H ?_; clear H; intro h128 w127 hx H
    replace hX := hX.trans0 hx; clear hx
    refine hold hX ?_
    obtain ⟨a133, e, hF134⟩ := bindS hF126; clear hF126
    replace H := H.sel [14, 0, 1, 2, 3, 4, 5, 6, 7, 8, 9, 10, 11, 12, 13] rfl
    refine append_ (α := Int × Int) gok rfl rfl rfl rfl H e ?_; clear e H; intro h136 w135 H
    refine hold trivial ?_
    refine hold trivial ?_
    refine arK hk hmx101 ?_
    have hs := Option.some.inj hF134; subst hs; clear hF134
    exact ⟨h136, ⟨rfl, rfl, rfl, rfl, rfl, rfl, rfl, rfl, trivial⟩, H.sel [1, 2, 3, 4, 5, 6, 7, 8, 9, 10, 11, 12, 13, 0] rfl⟩
  · clear H e
    rintro T139 g141 w138 (H : Cx w0 fp0 S0 w138 [Bx b8 [(.int .i64 a__0), (a__1h).v, (a__2h).v, (a__3h).v], Es (List (Int × Int × List Int × List Int)) a__1 a__1h, Es (List Int) a__2 a__2h, Es (List Int) a__3 a__3h, Bx b11 [(.int .i64 b__0), (b__1h).v, (b__2h).v, (b__3h).v], Es (List (Int × Int × List Int × List Int)) b__1 b__1h, Es (List Int) b__2 b__2h, Es (List Int) b__3 b__3h, Bx b14 [(.int .i64 0), (.slice none 0 0), (.slice none 0 0), (.slice none 0 0)], Bx b26 [(.int .i64 y16_0), (h19).v, (h21).v, (h23).v], E (List (Int × Int × List Int × List Int)) y16_1 h19, E (List Int) y16_2 h21, E (List Int) y16_3 h23, E (List (Int × Int)) r102 g141])
    refine boolE (z := false) geLen ?_
    refine sq ?_
    refine heldX H [12, 14, 13] (.fst 0 (.fst 3 (.fst 5 (.fst 7 (.fst 1 (.fst 4 (.fst 6 (.fst 8 (.act 2 (.fst 11 (.act 9 (.act 10 (.act 12 (.act 13 (.act 14 .done))))))))))))))) mixed [] trivial (by kernel_rfl) ?_
    clear H; intro w143 H
    have hX : Ext w143 w143 := Upd.refl _ _
    have H0 := H
    refine anyH (fun _ => fld gok rfl rfl rfl rfl ⟨rfl, rfl⟩) ?_
    refine anyH (fun _ => fld gok rfl rfl rfl rfl ⟨rfl, rfl⟩) ?_
    refine anyH (fun _ => fld gok rfl rfl rfl rfl ⟨rfl, rfl⟩) ?_
    refine anyH (fun _ => fld gok rfl rfl rfl rfl ⟨rfl, rfl⟩) ?_
    refine load1X (H.bx 0 rfl (j := 2) rfl) ?_
    refine load1X (H.bx 4 rfl (j := 3) rfl) ?_
    refine load1X (H.bx 0 rfl (j := 0) rfl) ?_
    refine load1X (H.bx 4 rfl (j := 0) rfl) ?_
    obtain ⟨y144, e, hF145⟩ := bindS hF103; clear hF103
    have ey144 := e; clear e
    refine callFx (impl_clone_c a__2 a__2h y144 ey144) H ⟨Vw.sh 2 rfl, trivial⟩ ?_; clear H ey144
    rintro _ _ w146 ⟨h147, rfl, rfl⟩ hx (H : Cx w0 fp0 S0 w146 [E (List Int) y144 h147, Bx b8 [(.int .i64 a__0), (a__1h).v, (a__2h).v, (a__3h).v], Es (List (Int × Int × List Int × List Int)) a__1 a__1h, Es (List Int) a__2 a__2h, Es (List Int) a__3 a__3h, Bx b11 [(.int .i64 b__0), (b__1h).v, (b__2h).v, (b__3h).v], Es (List (Int × Int × List Int × List Int)) b__1 b__1h, Es (List Int) b__2 b__2h, Es (List Int) b__3 b__3h, Bx b14 [(.int .i64 0), (.slice none 0 0), (.slice none 0 0), (.slice none 0 0)], Bx b26 [(.int .i64 y16_0), (h19).v, (h21).v, (h23).v], E (List (Int × Int × List Int × List Int)) y16_1 h19, E (List Int) y16_2 h21, E (List Int) y16_3 h23, E (List (Int × Int)) r102 g141])
    replace hX := hX.trans0 hx; clear hx
    refine hold hX ?_
    refine anyH (fun _ => fld gok rfl rfl rfl rfl ⟨rfl, rfl⟩) ?_
    obtain ⟨y149, e, hF150⟩ := bindS hF145; clear hF145
    have ey149 := e; clear e
    refine callFx (impl_from_c a__0 b__0 y149 ey149) H trivial ?_; clear H ey149
    rintro _ _ w151 ⟨h152, rfl, rfl⟩ hx (H : Cx w0 fp0 S0 w151 [E (List Int) y149 h152, E (List Int) y144 h147, Bx b8 [(.int .i64 a__0), (a__1h).v, (a__2h).v, (a__3h).v], Es (List (Int × Int × List Int × List Int)) a__1 a__1h, Es (List Int) a__2 a__2h, Es (List Int) a__3 a__3h, Bx b11 [(.int .i64 b__0), (b__1h).v, (b__2h).v, (b__3h).v], Es (List (Int × Int × List Int × List Int)) b__1 b__1h, Es (List Int) b__2 b__2h, Es (List Int) b__3 b__3h, Bx b14 [(.int .i64 0), (.slice none 0 0), (.slice none 0 0), (.slice none 0 0)], Bx b26 [(.int .i64 y16_0), (h19).v, (h21).v, (h23).v], E (List (Int × Int × List Int × List Int)) y16_1 h19, E (List Int) y16_2 h21, E (List Int) y16_3 h23, E (List (Int × Int)) r102 g141])
    replace hX := hX.trans0 hx; clear hx
    refine hold hX ?_
    obtain ⟨y154, e, hF155⟩ := bindS hF150; clear hF150
    have ey154 := e; clear e
    refine callFx (impl_mapped_c b__3 b__3h y149 h152 y154 ey154) H ⟨Vw.sh 9 rfl, Vw.own 0 rfl, trivial⟩ ?_; clear H ey154
    rintro _ _ w156 ⟨h157, rfl, rfl⟩ hx (H : Cx w0 fp0 S0 w156 [E (List Int) y154 h157, E (List Int) y149 h152, E (List Int) y144 h147, Bx b8 [(.int .i64 a__0), (a__1h).v, (a__2h).v, (a__3h).v], Es (List (Int × Int × List Int × List Int)) a__1 a__1h, Es (List Int) a__2 a__2h, Es (List Int) a__3 a__3h, Bx b11 [(.int .i64 b__0), (b__1h).v, (b__2h).v, (b__3h).v], Es (List (Int × Int × List Int × List Int)) b__1 b__1h, Es (List Int) b__2 b__2h, Es (List Int) b__3 b__3h, Bx b14 [(.int .i64 0), (.slice none 0 0), (.slice none 0 0), (.slice none 0 0)], Bx b26 [(.int .i64 y16_0), (h19).v, (h21).v, (h23).v], E (List (Int × Int × List Int × List Int)) y16_1 h19, E (List Int) y16_2 h21, E (List Int) y16_3 h23, E (List (Int × Int)) r102 g141])
    replace hX := hX.trans0 hx; clear hx
    refine hold hX ?_
    replace H := H.sel [12, 0, 1, 2, 3, 4, 5, 6, 7, 8, 9, 10, 11, 13, 14, 15, 16] rfl
    refine stB (j := 2) H rfl rfl ?_; clear H; intro w159 H
    replace H : Cx w0 fp0 S0 w159 [Bx b26 [(.int .i64 y16_0), (h19).v, (h147).v, (h23).v], E (List Int) y154 h157, E (List Int) y149 h152, E (List Int) y144 h147, Bx b8 [(.int .i64 a__0), (a__1h).v, (a__2h).v, (a__3h).v], Es (List (Int × Int × List Int × List Int)) a__1 a__1h, Es (List Int) a__2 a__2h, Es (List Int) a__3 a__3h, Bx b11 [(.int .i64 b__0), (b__1h).v, (b__2h).v, (b__3h).v], Es (List (Int × Int × List Int × List Int)) b__1 b__1h, Es (List Int) b__2 b__2h, Es (List Int) b__3 b__3h, Bx b14 [(.int .i64 0), (.slice none 0 0), (.slice none 0 0), (.slice none 0 0)], E (List (Int × Int × List Int × List Int)) y16_1 h19, E (List Int) y16_2 h21, E (List Int) y16_3 h23, E (List (Int × Int)) r102 g141] := H
    refine hold trivial ?_
    refine fld gok rfl rfl rfl rfl ?_
    refine hold trivial ?_
    refine stB (j := 3) H rfl rfl ?_; clear H; intro w160 H
    replace H : Cx w0 fp0 S0 w160 [Bx b26 [(.int .i64 y16_0), (h19).v, (h147).v, (h157).v], E (List Int) y154 h157, E (List Int) y149 h152, E (List Int) y144 h147, Bx b8 [(.int .i64 a__0), (a__1h).v, (a__2h).v, (a__3h).v], Es (List (Int × Int × List Int × List Int)) a__1 a__1h, Es (List Int) a__2 a__2h, Es (List Int) a__3 a__3h, Bx b11 [(.int .i64 b__0), (b__1h).v, (b__2h).v, (b__3h).v], Es (List (Int × Int × List Int × List Int)) b__1 b__1h, Es (List Int) b__2 b__2h, Es (List Int) b__3 b__3h, Bx b14 [(.int .i64 0), (.slice none 0 0), (.slice none 0 0), (.slice none 0 0)], E (List (Int × Int × List Int × List Int)) y16_1 h19, E (List Int) y16_2 h21, E (List Int) y16_3 h23, E (List (Int × Int)) r102 g141] := H
    refine hold trivial ?_
    refine loadN [(.int .i64 y16_0), (h19).v, (h147).v, (h157).v] rfl (fun j u hj => H.bx 0 rfl hj) ?_
    obtain ⟨y161, e, hF162⟩ := bindS hF155; clear hF155
    obtain ⟨⟨y161_0_0, y161_0_1, y161_0_2, y161_0_3⟩, y161_1⟩ := y161
    have ey161 := e; clear e
    refine callF (impl_Graph_glue_c y16_0 y16_1 h19 y144 h147 y154 h157 r102 g141 y161_0_0 y161_0_1 y161_0_2 y161_0_3 y161_1 ey161) (Γi := []) H ⟨Vw.own 13 rfl, Vw.own 3 rfl, Vw.own 1 rfl, Vw.own 16 rfl, trivial⟩ ?_; clear H ey161
    rintro _ _ w163 ⟨h164, h166, h168, h170, rfl, rfl⟩ (H : Cx w0 fp0 S0 w163 [E (List (Int × Int × List Int × List Int)) y161_0_1 h164, E (List Int) y161_0_2 h166, E (List Int) y161_0_3 h168, E (List Int) y161_1 h170, Bx b26 [(.int .i64 y16_0), (h19).v, (h147).v, (h157).v], E (List Int) y154 h157, E (List Int) y149 h152, E (List Int) y144 h147, Bx b8 [(.int .i64 a__0), (a__1h).v, (a__2h).v, (a__3h).v], Es (List (Int × Int × List Int × List Int)) a__1 a__1h, Es (List Int) a__2 a__2h, Es (List Int) a__3 a__3h, Bx b11 [(.int .i64 b__0), (b__1h).v, (b__2h).v, (b__3h).v], Es (List (Int × Int × List Int × List Int)) b__1 b__1h, Es (List Int) b__2 b__2h, Es (List Int) b__3 b__3h, Bx b14 [(.int .i64 0), (.slice none 0 0), (.slice none 0 0), (.slice none 0 0)], E (List (Int × Int × List Int × List Int)) y16_1 h19, E (List Int) y16_2 h21, E (List Int) y16_3 h23, E (List (Int × Int)) r102 g141])
    replace H := H.sel [16, 0, 1, 2, 3, 4, 5, 6, 7, 8, 9, 10, 11, 12, 13, 14, 15, 17, 18, 19, 20] rfl
    refine stA gok [(.int .i64 y161_0_0), (h164).v, (h166).v, (h168).v] rfl H rfl rfl rfl ?_; clear H; intro w172 H
    replace H : Cx w0 fp0 S0 w172 [Bx b14 [(.int .i64 y161_0_0), (h164).v, (h166).v, (h168).v], E (List (Int × Int × List Int × List Int)) y161_0_1 h164, E (List Int) y161_0_2 h166, E (List Int) y161_0_3 h168, E (List Int) y161_1 h170, Bx b26 [(.int .i64 y16_0), (h19).v, (h147).v, (h157).v], E (List Int) y154 h157, E (List Int) y149 h152, E (List Int) y144 h147, Bx b8 [(.int .i64 a__0), (a__1h).v, (a__2h).v, (a__3h).v], Es (List (Int × Int × List Int × List Int)) a__1 a__1h, Es (List Int) a__2 a__2h, Es (List Int) a__3 a__3h, Bx b11 [(.int .i64 b__0), (b__1h).v, (b__2h).v, (b__3h).v], Es (List (Int × Int × List Int × List Int)) b__1 b__1h, Es (List Int) b__2 b__2h, Es (List Int) b__3 b__3h, E (List (Int × Int × List Int × List Int)) y16_1 h19, E (List Int) y16_2 h21, E (List Int) y16_3 h23, E (List (Int × Int)) r102 g141] := H
    refine loadN [(.int .i64 y161_0_0), (h164).v, (h166).v, (h168).v] rfl (fun j u hj => H.bx 0 rfl hj) ?_
    cases hF162
    exact ⟨_, _, rfl, ⟨h164, h166, h168, rfl, rfl⟩, (H.sel [1, 2, 3] rfl).close ⟨cloE, cloE, cloE, trivial⟩⟩

theorem impl_joined_c (lists_ : List (List Int)) (lists_h : Hd) (y : List Int) (hF : F_impl_joined lists_ = some y) :
    ConF Try.prog 72 #[(lists_h).v] [Es (List (List Int)) lists_ lists_h] [] (fun v Γ' => ∃ z0 : Hd, v = (z0).v ∧ Γ' = [E (List Int) y z0]) := by
  intro w0 S0 fp0 hI hS
  have H : Cx w0 fp0 S0 w0 [Es (List (List Int)) lists_ lists_h] := Cx.start hI hS
  clear hI hS
  refine enterC (args := [_]) gok Try.func72 rfl _ rfl rfl rfl ?_
  refine lit0 (α := Int) gok rfl rfl H ?_; clear H; intro h3 w2 hx H
  clear hx
  refine sq ?_
  refine lenE (H.rs (α := List (List Int)) 1 rfl).len ?_
  have hmx44 := (H.rs (α := List (List Int)) 1 rfl).max
  obtain ⟨r45, e, hF46⟩ := bindS hF; clear hF
  refine loopS _ lists_.length (fun (k5 : Nat) (s41 : List Int) (g42 : Hd) => [(3, (g42).v), (7, (lists_h).v), (8, (.int .i64 ((lists_.length : Nat) : Int))), (9, (.int .i64 ((k5 : Nat) : Int)))]) (fun _ (s41 : List Int) (g42 : Hd) w' => Cx w0 fp0 S0 w' [E (List Int) s41 g42, Es (List (List Int)) lists_ lists_h]) ([] : List Int) h3 e ⟨rfl, rfl, rfl, rfl, trivial⟩ (H.sel [0, 1] rfl) ?_ ?_
  · clear H e
    rintro T48 k5 s41 g42 w47 o49 hk (H : Cx w0 fp0 S0 w47 [E (List Int) s41 g42, Es (List (List Int)) lists_ lists_h]) hF50
    refine boolE (z := true) (ltLen hk) ?_
    refine sq ?_
    refine sq ?_
    obtain ⟨a57, e, hF58⟩ := bindS hF50; clear hF50
    have HH := H; clear H; obtain ⟨p55, m56, h59, c51, c52, c53, c54, H⟩ := HH.elL 1 rfl e; clear HH
    clear e
    refine idxE c51 c52 c53 ?_; clear c51 c52 c53
    refine load1 c54 ?_; clear c54
    obtain ⟨a61, e, hF62⟩ := bindS hF58; clear hF58
    replace H := H.sel [1, 0, 2] rfl
    refine appendS (α := Int) gok rfl rfl rfl rfl H (Vw.sh 0 rfl) e ?_; clear e H; intro h64 w63 H
    refine arK hk hmx44 ?_
    have hs := Option.some.inj hF62; subst hs; clear hF62
    exact ⟨h64, ⟨rfl, rfl, rfl, rfl, trivial⟩, H.sel [0, 2] rfl⟩
  · clear H e
    rintro T67 g69 w66 (H : Cx w0 fp0 S0 w66 [E (List Int) r45 g69, Es (List (List Int)) lists_ lists_h])
    refine boolE (z := false) geLen ?_
    refine sq ?_
    cases hF46
    exact ⟨_, _, rfl, ⟨g69, rfl, rfl⟩, (H.sel [0] rfl).close ⟨cloE, trivial⟩⟩

theorem impl_parGraphs_c (a__0 : Int) (a__1 : List (Int × Int × List Int × List Int)) (a__1h : Hd) (a__2 : List Int) (a__2h : Hd) (a__3 : List Int) (a__3h : Hd) (b__0 : Int) (b__1 : List (Int × Int × List Int × List Int)) (b__1h : Hd) (b__2 : List Int) (b__2h : Hd) (b__3 : List Int) (b__3h : Hd) (y_0 : Int) (y_1 : List (Int × Int × List Int × List Int)) (y_2 : List Int) (y_3 : List Int) (hF : F_impl_parGraphs (a__0, a__1, a__2, a__3) (b__0, b__1, b__2, b__3) = some (y_0, y_1, y_2, y_3)) :
    ConF Try.prog 50 #[(.agg #[(.int .i64 a__0), (a__1h).v, (a__2h).v, (a__3h).v]), (.agg #[(.int .i64 b__0), (b__1h).v, (b__2h).v, (b__3h).v])] [Es (List (Int × Int × List Int × List Int)) a__1 a__1h, Es (List Int) a__2 a__2h, Es (List Int) a__3 a__3h, Es (List (Int × Int × List Int × List Int)) b__1 b__1h, Es (List Int) b__2 b__2h, Es (List Int) b__3 b__3h] [] (fun v Γ' => ∃ z0 z1 z2 : Hd, v = (.agg #[(.int .i64 y_0), (z0).v, (z1).v, (z2).v]) ∧ Γ' = [E (List (Int × Int × List Int × List Int)) y_1 z0, E (List Int) y_2 z1, E (List Int) y_3 z2]) := by
  intro w0 S0 fp0 hI hS
  have H : Cx w0 fp0 S0 w0 [Es (List (Int × Int × List Int × List Int)) a__1 a__1h, Es (List Int) a__2 a__2h, Es (List Int) a__3 a__3h, Es (List (Int × Int × List Int × List Int)) b__1 b__1h, Es (List Int) b__2 b__2h, Es (List Int) b__3 b__3h] := Cx.start hI hS
  clear hI hS
  refine enterC (args := [_, _]) gok Try.func50 rfl _ rfl rfl rfl ?_
  refine box_ H ?_; clear H; intro b8 w7 hx H
  clear hx
  replace H : Cx w0 fp0 S0 w7 [Bx b8 [(.int .i64 a__0), (a__1h).v, (a__2h).v, (a__3h).v], Es (List (Int × Int × List Int × List Int)) a__1 a__1h, Es (List Int) a__2 a__2h, Es (List Int) a__3 a__3h, Es (List (Int × Int × List Int × List Int)) b__1 b__1h, Es (List Int) b__2 b__2h, Es (List Int) b__3 b__3h] := H
  refine box_ H ?_; clear H; intro b11 w10 hx H
  clear hx
  replace H : Cx w0 fp0 S0 w10 [Bx b11 [(.int .i64 b__0), (b__1h).v, (b__2h).v, (b__3h).v], Bx b8 [(.int .i64 a__0), (a__1h).v, (a__2h).v, (a__3h).v], Es (List (Int × Int × List Int × List Int)) a__1 a__1h, Es (List Int) a__2 a__2h, Es (List Int) a__3 a__3h, Es (List (Int × Int × List Int × List Int)) b__1 b__1h, Es (List Int) b__2 b__2h, Es (List Int) b__3 b__3h] := H
  refine alloc_ gok rfl H ?_; clear H; intro b14 w13 hx H
  clear hx
  replace H : Cx w0 fp0 S0 w13 [Bx b14 [(.int .i64 0), (.slice none 0 0), (.slice none 0 0), (.slice none 0 0)], Bx b11 [(.int .i64 b__0), (b__1h).v, (b__2h).v, (b__3h).v], Bx b8 [(.int .i64 a__0), (a__1h).v, (a__2h).v, (a__3h).v], Es (List (Int × Int × List Int × List Int)) a__1 a__1h, Es (List Int) a__2 a__2h, Es (List Int) a__3 a__3h, Es (List (Int × Int × List Int × List Int)) b__1 b__1h, Es (List Int) b__2 b__2h, Es (List Int) b__3 b__3h] := H
  refine loadN [(.int .i64 a__0), (a__1h).v, (a__2h).v, (a__3h).v] rfl (fun j u hj => H.bx 2 rfl hj) ?_
  refine loadN [(.int .i64 b__0), (b__1h).v, (b__2h).v, (b__3h).v] rfl (fun j u hj => H.bx 1 rfl hj) ?_
  obtain ⟨y16, e, hF17⟩ := bindS hF; clear hF
  obtain ⟨y16_0, y16_1, y16_2, y16_3⟩ := y16
  have ey16 := e; clear e
  refine callF (impl_Graph_beside_c a__0 a__1 a__1h a__2 a__2h a__3 a__3h b__0 b__1 b__1h b__2 b__2h b__3 b__3h y16_0 y16_1 y16_2 y16_3 ey16) (Γi := []) H ⟨Vw.sh 3 rfl, Vw.sh 4 rfl, Vw.sh 5 rfl, Vw.sh 6 rfl, Vw.sh 7 rfl, Vw.sh 8 rfl, trivial⟩ ?_; clear H ey16
  rintro _ _ w18 ⟨h19, h21, h23, rfl, rfl⟩ (H : Cx w0 fp0 S0 w18 [E (List (Int × Int × List Int × List Int)) y16_1 h19, E (List Int) y16_2 h21, E (List Int) y16_3 h23, Bx b14 [(.int .i64 0), (.slice none 0 0), (.slice none 0 0), (.slice none 0 0)], Bx b11 [(.int .i64 b__0), (b__1h).v, (b__2h).v, (b__3h).v], Bx b8 [(.int .i64 a__0), (a__1h).v, (a__2h).v, (a__3h).v], Es (List (Int × Int × List Int × List Int)) a__1 a__1h, Es (List Int) a__2 a__2h, Es (List Int) a__3 a__3h, Es (List (Int × Int × List Int × List Int)) b__1 b__1h, Es (List Int) b__2 b__2h, Es (List Int) b__3 b__3h])
  refine alloc_ gok rfl H ?_; clear H; intro b26 w25 hx H
  clear hx
  replace H : Cx w0 fp0 S0 w25 [Bx b26 [(.int .i64 0), (.slice none 0 0), (.slice none 0 0), (.slice none 0 0)], E (List (Int × Int × List Int × List Int)) y16_1 h19, E (List Int) y16_2 h21, E (List Int) y16_3 h23, Bx b14 [(.int .i64 0), (.slice none 0 0), (.slice none 0 0), (.slice none 0 0)], Bx b11 [(.int .i64 b__0), (b__1h).v, (b__2h).v, (b__3h).v], Bx b8 [(.int .i64 a__0), (a__1h).v, (a__2h).v, (a__3h).v], Es (List (Int × Int × List Int × List Int)) a__1 a__1h, Es (List Int) a__2 a__2h, Es (List Int) a__3 a__3h, Es (List (Int × Int × List Int × List Int)) b__1 b__1h, Es (List Int) b__2 b__2h, Es (List Int) b__3 b__3h] := H
  refine stA gok [(.int .i64 y16_0), (h19).v, (h21).v, (h23).v] rfl H rfl rfl rfl ?_; clear H; intro w28 H
  replace H : Cx w0 fp0 S0 w28 [Bx b26 [(.int .i64 y16_0), (h19).v, (h21).v, (h23).v], E (List (Int × Int × List Int × List Int)) y16_1 h19, E (List Int) y16_2 h21, E (List Int) y16_3 h23, Bx b14 [(.int .i64 0), (.slice none 0 0), (.slice none 0 0), (.slice none 0 0)], Bx b11 [(.int .i64 b__0), (b__1h).v, (b__2h).v, (b__3h).v], Bx b8 [(.int .i64 a__0), (a__1h).v, (a__2h).v, (a__3h).v], Es (List (Int × Int × List Int × List Int)) a__1 a__1h, Es (List Int) a__2 a__2h, Es (List Int) a__3 a__3h, Es (List (Int × Int × List Int × List Int)) b__1 b__1h, Es (List Int) b__2 b__2h, Es (List Int) b__3 b__3h] := H
  refine fld gok rfl rfl rfl rfl ?_
  refine load1 (H.bx 6 rfl (j := 0) rfl) ?_
  refine fld gok rfl rfl rfl rfl ?_
  refine load1 (H.bx 5 rfl (j := 0) rfl) ?_
  obtain ⟨y29, e, hF30⟩ := bindS hF17; clear hF17
  have ey29 := e; clear e
  refine callF (impl_from_c a__0 b__0 y29 ey29) (Γi := []) H trivial ?_; clear H ey29
  rintro _ _ w31 ⟨h32, rfl, rfl⟩ (H : Cx w0 fp0 S0 w31 [E (List Int) y29 h32, Bx b26 [(.int .i64 y16_0), (h19).v, (h21).v, (h23).v], E (List (Int × Int × List Int × List Int)) y16_1 h19, E (List Int) y16_2 h21, E (List Int) y16_3 h23, Bx b14 [(.int .i64 0), (.slice none 0 0), (.slice none 0 0), (.slice none 0 0)], Bx b11 [(.int .i64 b__0), (b__1h).v, (b__2h).v, (b__3h).v], Bx b8 [(.int .i64 a__0), (a__1h).v, (a__2h).v, (a__3h).v], Es (List (Int × Int × List Int × List Int)) a__1 a__1h, Es (List Int) a__2 a__2h, Es (List Int) a__3 a__3h, Es (List (Int × Int × List Int × List Int)) b__1 b__1h, Es (List Int) b__2 b__2h, Es (List Int) b__3 b__3h])
  refine heldX H [17, 19, 18] (.fst 0 (.fst 2 (.fst 4 (.fst 8 (.fst 10 (.fst 12 (.fst 1 (.fst 3 (.fst 9 (.fst 11 (.act 5 (.act 6 (.act 7 (.fst 16 (.act 13 (.act 14 (.act 15 (.act 17 (.act 18 (.act 19 .done)))))))))))))))))))) mixed [] trivial (by kernel_rfl) ?_
  clear H; intro w34 H
  have hX : Ext w34 w34 := Upd.refl _ _
  have H0 := H
  refine anyH (fun _ => fld gok rfl rfl rfl rfl ⟨rfl, rfl⟩) ?_
  refine anyH (fun _ => fld gok rfl rfl rfl rfl ⟨rfl, rfl⟩) ?_
  refine anyH (fun _ => fld gok rfl rfl rfl rfl ⟨rfl, rfl⟩) ?_
  refine anyH (fun _ => fld gok rfl rfl rfl rfl ⟨rfl, rfl⟩) ?_
  refine load1X (H.bx 7 rfl (j := 2) rfl) ?_
  refine load1X (H.bx 6 rfl (j := 2) rfl) ?_
  refine load1X (H.bx 7 rfl (j := 3) rfl) ?_
  refine load1X (H.bx 6 rfl (j := 3) rfl) ?_
  obtain ⟨y35, e, hF36⟩ := bindS hF30; clear hF30
  have ey35 := e; clear e
  refine callFx (impl_mapped_c b__2 b__2h y29 h32 y35 ey35) H ⟨Vw.sh 12 rfl, Vw.own 0 rfl, trivial⟩ ?_; clear H ey35
  rintro _ _ w37 ⟨h38, rfl, rfl⟩ hx (H : Cx w0 fp0 S0 w37 [E (List Int) y35 h38, E (List Int) y29 h32, Bx b26 [(.int .i64 y16_0), (h19).v, (h21).v, (h23).v], E (List (Int × Int × List Int × List Int)) y16_1 h19, E (List Int) y16_2 h21, E (List Int) y16_3 h23, Bx b14 [(.int .i64 0), (.slice none 0 0), (.slice none 0 0), (.slice none 0 0)], Bx b11 [(.int .i64 b__0), (b__1h).v, (b__2h).v, (b__3h).v], Bx b8 [(.int .i64 a__0), (a__1h).v, (a__2h).v, (a__3h).v], Es (List (Int × Int × List Int × List Int)) a__1 a__1h, Es (List Int) a__2 a__2h, Es (List Int) a__3 a__3h, Es (List (Int × Int × List Int × List Int)) b__1 b__1h, Es (List Int) b__2 b__2h, Es (List Int) b__3 b__3h])
  replace hX := hX.trans0 hx; clear hx
  refine hold hX ?_
  replace H := H.frz
  replace H := H.dup 0 rfl persS
  replace H := H.dup 11 rfl persS
  refine litN (α := Sh (List Int)) (us := [(a__2h).v, (h38).v]) (xs := [a__2, y35]) (gs := [a__2h, h38]) gok rfl rfl rfl ⟨rfl, rfl, trivial⟩ rfl rfl H ?_; clear H; intro h41 w40 hx H
  replace hX := hX.trans0 hx; clear hx
  refine hold hX ?_
  obtain ⟨y45, e, hF46⟩ := bindS hF36; clear hF36
  have ey45 := e; clear e
  refine callFx (impl_joined_c [a__2, y35] h41 y45 ey45) H ⟨Vw.part (β := List (List Int)) (Vw.own (α := List (Sh (List Int))) 0 rfl) [a__2, y35] h41 (fun S h => h), trivial⟩ ?_; clear H ey45
  rintro _ _ w47 ⟨h48, rfl, rfl⟩ hx (H : Cx w0 fp0 S0 w47 [E (List Int) y45 h48, E (List (Sh (List Int))) [a__2, y35] h41, Es (List Int) y35 h38, E (List Int) y29 h32, Bx b26 [(.int .i64 y16_0), (h19).v, (h21).v, (h23).v], E (List (Int × Int × List Int × List Int)) y16_1 h19, E (List Int) y16_2 h21, E (List Int) y16_3 h23, Bx b14 [(.int .i64 0), (.slice none 0 0), (.slice none 0 0), (.slice none 0 0)], Bx b11 [(.int .i64 b__0), (b__1h).v, (b__2h).v, (b__3h).v], Bx b8 [(.int .i64 a__0), (a__1h).v, (a__2h).v, (a__3h).v], Es (List (Int × Int × List Int × List Int)) a__1 a__1h, Es (List Int) a__2 a__2h, Es (List Int) a__3 a__3h, Es (List (Int × Int × List Int × List Int)) b__1 b__1h, Es (List Int) b__2 b__2h, Es (List Int) b__3 b__3h])
  replace hX := hX.trans0 hx; clear hx
  refine hold hX ?_
  refine anyH (fun _ => fld gok rfl rfl rfl rfl ⟨rfl, rfl⟩) ?_
  obtain ⟨y50, e, hF51⟩ := bindS hF46; clear hF46
  have ey50 := e; clear e
  refine callFx (impl_mapped_c b__3 b__3h y29 h32 y50 ey50) H ⟨Vw.sh 16 rfl, Vw.own 3 rfl, trivial⟩ ?_; clear H ey50
  rintro _ _ w52 ⟨h53, rfl, rfl⟩ hx (H : Cx w0 fp0 S0 w52 [E (List Int) y50 h53, E (List Int) y45 h48, E (List (Sh (List Int))) [a__2, y35] h41, Es (List Int) y35 h38, E (List Int) y29 h32, Bx b26 [(.int .i64 y16_0), (h19).v, (h21).v, (h23).v], E (List (Int × Int × List Int × List Int)) y16_1 h19, E (List Int) y16_2 h21, E (List Int) y16_3 h23, Bx b14 [(.int .i64 0), (.slice none 0 0), (.slice none 0 0), (.slice none 0 0)], Bx b11 [(.int .i64 b__0), (b__1h).v, (b__2h).v, (b__3h).v], Bx b8 [(.int .i64 a__0), (a__1h).v, (a__2h).v, (a__3h).v], Es (List (Int × Int × List Int × List Int)) a__1 a__1h, Es (List Int) a__2 a__2h, Es (List Int) a__3 a__3h, Es (List (Int × Int × List Int × List Int)) b__1 b__1h, Es (List Int) b__2 b__2h, Es (List Int) b__3 b__3h])
  replace hX := hX.trans0 hx; clear hx
  refine hold hX ?_
  replace H := H.frz
  replace H := H.dup 0 rfl persS
  replace H := H.dup 15 rfl persS
  refine litN (α := Sh (List Int)) (us := [(a__3h).v, (h53).v]) (xs := [a__3, y50]) (gs := [a__3h, h53]) gok rfl rfl rfl ⟨rfl, rfl, trivial⟩ rfl rfl H ?_; clear H; intro h56 w55 hx H
  replace hX := hX.trans0 hx; clear hx
  refine hold hX ?_
  obtain ⟨y60, e, hF61⟩ := bindS hF51; clear hF51
  have ey60 := e; clear e
  refine callFx (impl_joined_c [a__3, y50] h56 y60 ey60) H ⟨Vw.part (β := List (List Int)) (Vw.own (α := List (Sh (List Int))) 0 rfl) [a__3, y50] h56 (fun S h => h), trivial⟩ ?_; clear H ey60
  rintro _ _ w62 ⟨h63, rfl, rfl⟩ hx (H : Cx w0 fp0 S0 w62 [E (List Int) y60 h63, E (List (Sh (List Int))) [a__3, y50] h56, Es (List Int) y50 h53, E (List Int) y45 h48, E (List (Sh (List Int))) [a__2, y35] h41, Es (List Int) y35 h38, E (List Int) y29 h32, Bx b26 [(.int .i64 y16_0), (h19).v, (h21).v, (h23).v], E (List (Int × Int × List Int × List Int)) y16_1 h19, E (List Int) y16_2 h21, E (List Int) y16_3 h23, Bx b14 [(.int .i64 0), (.slice none 0 0), (.slice none 0 0), (.slice none 0 0)], Bx b11 [(.int .i64 b__0), (b__1h).v, (b__2h).v, (b__3h).v], Bx b8 [(.int .i64 a__0), (a__1h).v, (a__2h).v, (a__3h).v], Es (List (Int × Int × List Int × List Int)) a__1 a__1h, Es (List Int) a__2 a__2h, Es (List Int) a__3 a__3h, Es (List (Int × Int × List Int × List Int)) b__1 b__1h, Es (List Int) b__2 b__2h, Es (List Int) b__3 b__3h])
  replace hX := hX.trans0 hx; clear hx
  refine hold hX ?_
  replace H := H.sel [7, 0, 1, 2, 3, 4, 5, 6, 8, 9, 10, 11, 12, 13, 14, 15, 16, 17, 18, 19] rfl
  refine stB (j := 2) H rfl rfl ?_; clear H; intro w65 H
  replace H : Cx w0 fp0 S0 w65 [Bx b26 [(.int .i64 y16_0), (h19).v, (h48).v, (h23).v], E (List Int) y60 h63, E (List (Sh (List Int))) [a__3, y50] h56, Es (List Int) y50 h53, E (List Int) y45 h48, E (List (Sh (List Int))) [a__2, y35] h41, Es (List Int) y35 h38, E (List Int) y29 h32, E (List (Int × Int × List Int × List Int)) y16_1 h19, E (List Int) y16_2 h21, E (List Int) y16_3 h23, Bx b14 [(.int .i64 0), (.slice none 0 0), (.slice none 0 0), (.slice none 0 0)], Bx b11 [(.int .i64 b__0), (b__1h).v, (b__2h).v, (b__3h).v], Bx b8 [(.int .i64 a__0), (a__1h).v, (a__2h).v, (a__3h).v], Es (List (Int × Int × List Int × List Int)) a__1 a__1h, Es (List Int) a__2 a__2h, Es (List Int) a__3 a__3h, Es (List (Int × Int × List Int × List Int)) b__1 b__1h, Es (List Int) b__2 b__2h, Es (List Int) b__3 b__3h] := H
  refine hold trivial ?_
  refine fld gok rfl rfl rfl rfl ?_
  refine hold trivial ?_
  refine stB (j := 3) H rfl rfl ?_; clear H; intro w66 H
  replace H : Cx w0 fp0 S0 w66 [Bx b26 [(.int .i64 y16_0), (h19).v, (h48).v, (h63).v], E (List Int) y60 h63, E (List (Sh (List Int))) [a__3, y50] h56, Es (List Int) y50 h53, E (List Int) y45 h48, E (List (Sh (List Int))) [a__2, y35] h41, Es (List Int) y35 h38, E (List Int) y29 h32, E (List (Int × Int × List Int × List Int)) y16_1 h19, E (List Int) y16_2 h21, E (List Int) y16_3 h23, Bx b14 [(.int .i64 0), (.slice none 0 0), (.slice none 0 0), (.slice none 0 0)], Bx b11 [(.int .i64 b__0), (b__1h).v, (b__2h).v, (b__3h).v], Bx b8 [(.int .i64 a__0), (a__1h).v, (a__2h).v, (a__3h).v], Es (List (Int × Int × List Int × List Int)) a__1 a__1h, Es (List Int) a__2 a__2h, Es (List Int) a__3 a__3h, Es (List (Int × Int × List Int × List Int)) b__1 b__1h, Es (List Int) b__2 b__2h, Es (List Int) b__3 b__3h] := H
  refine hold trivial ?_
  refine loadN [(.int .i64 y16_0), (h19).v, (h48).v, (h63).v] rfl (fun j u hj => H.bx 0 rfl hj) ?_
  replace H := H.sel [11, 0, 1, 2, 3, 4, 5, 6, 7, 8, 9, 10, 12, 13, 14, 15, 16, 17, 18, 19] rfl
  refine stA gok [(.int .i64 y16_0), (h19).v, (h48).v, (h63).v] rfl H rfl rfl rfl ?_; clear H; intro w67 H
  replace H : Cx w0 fp0 S0 w67 [Bx b14 [(.int .i64 y16_0), (h19).v, (h48).v, (h63).v], Bx b26 [(.int .i64 y16_0), (h19).v, (h48).v, (h63).v], E (List Int) y60 h63, E (List (Sh (List Int))) [a__3, y50] h56, Es (List Int) y50 h53, E (List Int) y45 h48, E (List (Sh (List Int))) [a__2, y35] h41, Es (List Int) y35 h38, E (List Int) y29 h32, E (List (Int × Int × List Int × List Int)) y16_1 h19, E (List Int) y16_2 h21, E (List Int) y16_3 h23, Bx b11 [(.int .i64 b__0), (b__1h).v, (b__2h).v, (b__3h).v], Bx b8 [(.int .i64 a__0), (a__1h).v, (a__2h).v, (a__3h).v], Es (List (Int × Int × List Int × List Int)) a__1 a__1h, Es (List Int) a__2 a__2h, Es (List Int) a__3 a__3h, Es (List (Int × Int × List Int × List Int)) b__1 b__1h, Es (List Int) b__2 b__2h, Es (List Int) b__3 b__3h] := H
  refine loadN [(.int .i64 y16_0), (h19).v, (h48).v, (h63).v] rfl (fun j u hj => H.bx 0 rfl hj) ?_
  cases hF61
  exact ⟨_, _, rfl, ⟨h19, h48, h63, rfl, rfl⟩, (H.sel [9, 5, 2] rfl).close ⟨cloE, cloE, cloE, trivial⟩⟩

theorem impl_identityGraph_c (n_ : Int) (y_0 : Int) (y_1 : List (Int × Int × List Int × List Int)) (y_2 : List Int) (y_3 : List Int) (hF : F_impl_identityGraph n_ = some (y_0, y_1, y_2, y_3)) :
    ConF Try.prog 73 #[(.int .i64 n_)] [] [] (fun v Γ' => ∃ z0 z1 z2 : Hd, v = (.agg #[(.int .i64 y_0), (z0).v, (z1).v, (z2).v]) ∧ Γ' = [E (List (Int × Int × List Int × List Int)) y_1 z0, E (List Int) y_2 z1, E (List Int) y_3 z2]) := by
  intro w0 S0 fp0 hI hS
  have H : Cx w0 fp0 S0 w0 [] := Cx.start hI hS
  clear hI hS
  refine enterC (args := [_]) gok Try.func73 rfl _ rfl rfl rfl ?_
  refine alloc_ gok rfl H ?_; clear H; intro b2 w1 hx H
  clear hx
  replace H : Cx w0 fp0 S0 w1 [Bx b2 [(.int .i64 0), (.slice none 0 0), (.slice none 0 0), (.slice none 0 0)]] := H
  obtain ⟨y4, e, hF5⟩ := bindS hF; clear hF
  have ey4 := e; clear e
  refine callF (impl_upTo_c n_ y4 ey4) (Γi := []) H trivial ?_; clear H ey4
  rintro _ _ w6 ⟨h7, rfl, rfl⟩ (H : Cx w0 fp0 S0 w6 [E (List Int) y4 h7, Bx b2 [(.int .i64 0), (.slice none 0 0), (.slice none 0 0), (.slice none 0 0)]])
  obtain ⟨y9, e, hF10⟩ := bindS hF5; clear hF5
  have ey9 := e; clear e
  refine callF (impl_upTo_c n_ y9 ey9) (Γi := []) H trivial ?_; clear H ey9
  rintro _ _ w11 ⟨h12, rfl, rfl⟩ (H : Cx w0 fp0 S0 w11 [E (List Int) y9 h12, E (List Int) y4 h7, Bx b2 [(.int .i64 0), (.slice none 0 0), (.slice none 0 0), (.slice none 0 0)]])
  refine build_ (cs := #[(.int .i64 n_), (.slice none 0 0), (h7).v, (h12).v]) gok rfl rfl rfl ?_
  replace H := H.sel [2, 0, 1] rfl
  refine stA gok [(.int .i64 n_), (.slice none 0 0), (h7).v, (h12).v] rfl H rfl rfl rfl ?_; clear H; intro w14 H
  replace H : Cx w0 fp0 S0 w14 [Bx b2 [(.int .i64 n_), (.slice none 0 0), (h7).v, (h12).v], E (List Int) y9 h12, E (List Int) y4 h7] := H
  refine loadN [(.int .i64 n_), (.slice none 0 0), (h7).v, (h12).v] rfl (fun j u hj => H.bx 0 rfl hj) ?_
  replace H := H.nil (α := Int × Int × List Int × List Int)
  cases hF10
  exact ⟨_, _, rfl, ⟨nilH, h7, h12, rfl, rfl⟩, (H.sel [0, 3, 2] rfl).close ⟨cloE, cloE, cloE, trivial⟩⟩

theorem impl_leafGraph_c (n__0 : Int) (n__1 : Int) (n__2 : ByteArray) (y_0 : Int) (y_1 : List (Int × Int × List Int × List Int)) (y_2 : List Int) (y_3 : List Int) (hF : F_impl_leafGraph (n__0, n__1, n__2) = some (y_0, y_1, y_2, y_3)) :
    ConF Try.prog 51 #[(.agg #[(.int .i64 n__0), (.int .i64 n__1), (.string n__2)])] [] [] (fun v Γ' => ∃ z0 z1 z2 : Hd, v = (.agg #[(.int .i64 y_0), (z0).v, (z1).v, (z2).v]) ∧ Γ' = [E (List (Int × Int × List Int × List Int)) y_1 z0, E (List Int) y_2 z1, E (List Int) y_3 z2]) := by
  intro w0 S0 fp0 hI hS
  have H : Cx w0 fp0 S0 w0 [] := Cx.start hI hS
  clear hI hS
  refine enterC (args := [_]) gok Try.func51 rfl _ rfl rfl rfl ?_
  refine box_ H ?_; clear H; intro b2 w1 hx H
  clear hx
  replace H : Cx w0 fp0 S0 w1 [Bx b2 [(.int .i64 n__0), (.int .i64 n__1), (.string n__2)]] := H
  refine alloc_ gok rfl H ?_; clear H; intro b5 w4 hx H
  clear hx
  replace H : Cx w0 fp0 S0 w4 [Bx b5 [(.int .i64 0), (.slice none 0 0), (.slice none 0 0), (.slice none 0 0)], Bx b2 [(.int .i64 n__0), (.int .i64 n__1), (.string n__2)]] := H
  refine sq ?_
  refine fld gok rfl rfl rfl rfl ?_
  refine load1 (H.bx 1 rfl (j := 0) rfl) ?_
  obtain ⟨a7, e, hF8⟩ := bindS hF; clear hF
  refine boolO e ?_; clear e
  cases a7
  · have hF9 := condF hF8; clear hF8
    obtain ⟨a10, e, hF11⟩ := bindS hF9; clear hF9
    refine boolO e ?_; clear e
    cases a10
    · have hF12 := condF hF11; clear hF11
      refine fld gok rfl rfl rfl rfl ?_
      refine load1 (H.bx 1 rfl (j := 0) rfl) ?_
      obtain ⟨y13, e, hF14⟩ := bindS hF12; clear hF12
      obtain ⟨y13_0, y13_1⟩ := y13
      have ey13 := e; clear e
      refine callF (impl_generatorWires_c n__0 y13_0 y13_1 ey13) (Γi := []) H trivial ?_; clear H ey13
      rintro _ _ w15 ⟨rfl, rfl⟩ (H : Cx w0 fp0 S0 w15 [Bx b5 [(.int .i64 0), (.slice none 0 0), (.slice none 0 0), (.slice none 0 0)], Bx b2 [(.int .i64 n__0), (.int .i64 n__1), (.string n__2)]])
      refine alloc_ gok rfl H ?_; clear H; intro b17 w16 hx H
      clear hx
      replace H : Cx w0 fp0 S0 w16 [Bx b17 [(.int .i64 0), (.int .i64 0)], Bx b5 [(.int .i64 0), (.slice none 0 0), (.slice none 0 0), (.slice none 0 0)], Bx b2 [(.int .i64 n__0), (.int .i64 n__1), (.string n__2)]] := H
      refine stA gok [(.int .i64 y13_0), (.int .i64 y13_1)] rfl H rfl rfl rfl ?_; clear H; intro w19 H
      replace H : Cx w0 fp0 S0 w19 [Bx b17 [(.int .i64 y13_0), (.int .i64 y13_1)], Bx b5 [(.int .i64 0), (.slice none 0 0), (.slice none 0 0), (.slice none 0 0)], Bx b2 [(.int .i64 n__0), (.int .i64 n__1), (.string n__2)]] := H
      refine heldX H [] (.fst 0 (.fst 3 (.fst 5 (.fst 1 (.fst 4 (.fst 6 (.act 2 (.act 7 (.fst 8 (.fst 9 .done)))))))))) mixed [] trivial (by kernel_rfl) ?_
      clear H; intro w20 H
      have hX : Ext w20 w20 := Upd.refl _ _
      have H0 := H
      refine anyH (fun _ => fld gok rfl rfl rfl rfl ⟨rfl, rfl⟩) ?_
      refine anyH (fun _ => fld gok rfl rfl rfl rfl ⟨rfl, rfl⟩) ?_
      refine anyH (fun _ => fld gok rfl rfl rfl rfl ⟨rfl, rfl⟩) ?_
      refine load1X (H.bx 0 rfl (j := 0) rfl) ?_
      refine load1X (H.bx 0 rfl (j := 0) rfl) ?_
      refine load1X (H.bx 0 rfl (j := 1) rfl) ?_
      obtain ⟨y21, e, hF22⟩ := bindS hF14; clear hF14
      have ey21 := e; clear e
      refine callFx (impl_upTo_c y13_0 y21 ey21) H trivial ?_; clear H ey21
      rintro _ _ w23 ⟨h24, rfl, rfl⟩ hx (H : Cx w0 fp0 S0 w23 [E (List Int) y21 h24, Bx b17 [(.int .i64 y13_0), (.int .i64 y13_1)], Bx b5 [(.int .i64 0), (.slice none 0 0), (.slice none 0 0), (.slice none 0 0)], Bx b2 [(.int .i64 n__0), (.int .i64 n__1), (.string n__2)]])
      replace hX := hX.trans0 hx; clear hx
      refine hold hX ?_
      obtain ⟨y26, e, hF27⟩ := bindS hF22; clear hF22
      have ey26 := e; clear e
      refine callFx (impl_from_c y13_0 y13_1 y26 ey26) H trivial ?_; clear H ey26
      rintro _ _ w28 ⟨h29, rfl, rfl⟩ hx (H : Cx w0 fp0 S0 w28 [E (List Int) y26 h29, E (List Int) y21 h24, Bx b17 [(.int .i64 y13_0), (.int .i64 y13_1)], Bx b5 [(.int .i64 0), (.slice none 0 0), (.slice none 0 0), (.slice none 0 0)], Bx b2 [(.int .i64 n__0), (.int .i64 n__1), (.string n__2)]])
      replace hX := hX.trans0 hx; clear hx
      refine hold hX ?_
      obtain ⟨r110, hF112, hF111⟩ := bindS hF27; clear hF27
      refine heldJ H [18] (.fst 0 (.fst 2 (.fst 5 (.fst 7 (.fst 9 (.fst 10 (.fst 13 (.fst 15 (.fst 1 (.fst 3 (.fst 4 (.fst 6 (.fst 8 (.fst 11 (.alts (.alt 12 (.act 14 (.act 16 (.fst 17 (.act 18 .done)))) (.alt 14 (.alts (.alt 12 (.act 16 (.fst 17 (.act 18 .done))) (.alt 16 (.act 12 (.fst 17 (.act 18 .done))) .no))) .no))))))))))))))))) mixed [] trivial (by kernel_rfl) (fun (q113 : (Int × (List (Int × Int × List Int × List Int)) × List Int × List Int) × (Hd × Hd × Hd)) => [(2, (.pointer (some ⟨b5, 0, none⟩)))]) (fun (q113 : (Int × (List (Int × Int × List Int × List Int)) × List Int × List Int) × (Hd × Hd × Hd)) w' => (q113.1.1, q113.1.2.1, q113.1.2.2.1, q113.1.2.2.2) = r110 ∧ Cx w0 fp0 S0 w' [Bx b5 [(.int .i64 q113.1.1), (q113.2.1).v, (q113.2.2.1).v, (q113.2.2.2).v], E (List (Int × Int × List Int × List Int)) q113.1.2.1 q113.2.1, E (List Int) q113.1.2.2.1 q113.2.2.1, E (List Int) q113.1.2.2.2 q113.2.2.2]) ?_ ?_
      · skip
        clear H; intro w114 H
        have hX : Ext w114 w114 := Upd.refl _ _
        have H0 := H
        refine anyH (fun _ => fld gok rfl rfl rfl rfl ⟨rfl, rfl⟩) ?_
        refine anyH (fun _ => fld gok rfl rfl rfl rfl ⟨rfl, rfl⟩) ?_
        refine anyH (fun _ => fld gok rfl rfl rfl rfl ⟨rfl, rfl⟩) ?_
        refine anyH (fun _ => fld gok rfl rfl rfl rfl ⟨rfl, rfl⟩) ?_
        refine load1X (H.bx 2 rfl (j := 0) rfl) ?_
        refine load1X (H.bx 2 rfl (j := 1) rfl) ?_
        obtain ⟨a115, e, hF116⟩ := bindS hF112; clear hF112
        refine arO e ?_; clear e
        refine load1X (H.bx 4 rfl (j := 0) rfl) ?_
        refine load1X (H.bx 4 rfl (j := 1) rfl) ?_
        refine anyH (fun _ => build_ (cs := #[(.int .i64 n__0), (.int .i64 n__1), (h24).v, (h29).v]) gok rfl rfl rfl ⟨rfl, rfl⟩) ?_
        refine both ?_ ?_
        · skip
          replace H := H.sel [1, 0, 2, 3, 4] rfl
          replace H := H.join (α := List Int) (β := List Int)
          replace H := H.sc (α := Int) n__1
          replace H := H.join (α := Int) (β := List Int × List Int)
          replace H := H.sc (α := Int) n__0
          replace H := H.join (α := Int) (β := Int × List Int × List Int)
          refine lit1K (α := Int × Int × List Int × List Int) (g := ((), (), h24, h29)) gok rfl rfl rfl rfl rfl H ?_; clear H; intro h137 w136 hx H
          replace hX := hX.trans0 hx; clear hx
          refine hold hX ?_
          obtain ⟨y144, e, hF145⟩ := bindS hF116; clear hF116
          have ey144 := e; clear e
          refine callFx (impl_clone_c y21 h24 y144 ey144) H ⟨Vw.part (β := List Int) (Vw.eh (α := Int × Int × List Int × List Int) (k := ⟨0, (n__0, n__1, y21, y26), ((), (), h24, h29)⟩) 0 rfl 0 rfl) y21 (h24 : Hd) (fun S h => (And.left (And.right (And.right h)))), trivial⟩ ?_; clear H ey144
          rintro _ _ w146 ⟨h147, rfl, rfl⟩ hx (H : Cx w0 fp0 S0 w146 [E (List Int) y144 h147, EH (Int × Int × List Int × List Int) [(n__0, n__1, y21, y26)] h137 [⟨0, (n__0, n__1, y21, y26), ((), (), h24, h29)⟩], Bx b17 [(.int .i64 y13_0), (.int .i64 y13_1)], Bx b5 [(.int .i64 0), (.slice none 0 0), (.slice none 0 0), (.slice none 0 0)], Bx b2 [(.int .i64 n__0), (.int .i64 n__1), (.string n__2)]])
          replace hX := hX.trans0 hx; clear hx
          refine hold hX ?_
          obtain ⟨y149, e, hF150⟩ := bindS hF145; clear hF145
          have ey149 := e; clear e
          refine callFx (impl_clone_c y26 h29 y149 ey149) H ⟨Vw.part (β := List Int) (Vw.eh (α := Int × Int × List Int × List Int) (k := ⟨0, (n__0, n__1, y21, y26), ((), (), h24, h29)⟩) 1 rfl 0 rfl) y26 (h29 : Hd) (fun S h => (And.right (And.right (And.right h)))), trivial⟩ ?_; clear H ey149
          rintro _ _ w151 ⟨h152, rfl, rfl⟩ hx (H : Cx w0 fp0 S0 w151 [E (List Int) y149 h152, E (List Int) y144 h147, EH (Int × Int × List Int × List Int) [(n__0, n__1, y21, y26)] h137 [⟨0, (n__0, n__1, y21, y26), ((), (), h24, h29)⟩], Bx b17 [(.int .i64 y13_0), (.int .i64 y13_1)], Bx b5 [(.int .i64 0), (.slice none 0 0), (.slice none 0 0), (.slice none 0 0)], Bx b2 [(.int .i64 n__0), (.int .i64 n__1), (.string n__2)]])
          replace hX := hX.trans0 hx; clear hx
          refine hold hX ?_
          refine anyH (fun _ => build_ (cs := #[(.int .i64 a115), (h137).v, (h147).v, (h152).v]) gok rfl rfl rfl ⟨rfl, rfl⟩) ?_
          replace H := H.sel [4, 0, 1, 2, 3, 5] rfl
          refine stA gok [(.int .i64 a115), (h137).v, (h147).v, (h152).v] rfl H rfl rfl rfl ?_; clear H; intro w154 H
          replace H : Cx w0 fp0 S0 w154 [Bx b5 [(.int .i64 a115), (h137).v, (h147).v, (h152).v], E (List Int) y149 h152, E (List Int) y144 h147, EH (Int × Int × List Int × List Int) [(n__0, n__1, y21, y26)] h137 [⟨0, (n__0, n__1, y21, y26), ((), (), h24, h29)⟩], Bx b17 [(.int .i64 y13_0), (.int .i64 y13_1)], Bx b2 [(.int .i64 n__0), (.int .i64 n__1), (.string n__2)]] := H
          refine hold trivial ?_
          replace H := H.sel [3, 0, 1, 2, 4, 5] rfl
          replace H := H.ofEH
          exact ⟨((a115, [(n__0, n__1, y21, y26)], y144, y149), (h137, h147, h152)), ⟨rfl, trivial⟩, Option.some.inj hF150, H.sel [1, 0, 3, 2] rfl⟩
        · skip
          refine both ?_ ?_
          · skip
            obtain ⟨a155, eq156, hF157⟩ := bindS hF116; clear hF116
            obtain ⟨a158, eq159, hF160⟩ := bindS hF157; clear hF157
            have e := eq156; clear eq156
            have ea155 := e; clear e
            refine callFx (impl_clone_c y21 h24 a155 ea155) H ⟨Vw.own 1 rfl, trivial⟩ ?_; clear H ea155
            rintro _ _ w161 ⟨h162, rfl, rfl⟩ hx (H : Cx w0 fp0 S0 w161 [E (List Int) a155 h162, E (List Int) y26 h29, E (List Int) y21 h24, Bx b17 [(.int .i64 y13_0), (.int .i64 y13_1)], Bx b5 [(.int .i64 0), (.slice none 0 0), (.slice none 0 0), (.slice none 0 0)], Bx b2 [(.int .i64 n__0), (.int .i64 n__1), (.string n__2)]])
            replace hX := hX.trans0 hx; clear hx
            refine hold hX ?_
            refine both ?_ ?_
            · skip
              replace H := H.sel [2, 1, 0, 3, 4, 5] rfl
              replace H := H.join (α := List Int) (β := List Int)
              replace H := H.sc (α := Int) n__1
              replace H := H.join (α := Int) (β := List Int × List Int)
              replace H := H.sc (α := Int) n__0
              replace H := H.join (α := Int) (β := Int × List Int × List Int)
              refine lit1K (α := Int × Int × List Int × List Int) (g := ((), (), h24, h29)) gok rfl rfl rfl rfl rfl H ?_; clear H; intro h165 w164 hx H
              replace hX := hX.trans0 hx; clear hx
              refine hold hX ?_
              have e := eq159; clear eq159
              have ea158 := e; clear e
              refine callFx (impl_clone_c y26 h29 a158 ea158) H ⟨Vw.part (β := List Int) (Vw.eh (α := Int × Int × List Int × List Int) (k := ⟨0, (n__0, n__1, y21, y26), ((), (), h24, h29)⟩) 0 rfl 0 rfl) y26 (h29 : Hd) (fun S h => (And.right (And.right (And.right h)))), trivial⟩ ?_; clear H ea158
              rintro _ _ w172 ⟨h173, rfl, rfl⟩ hx (H : Cx w0 fp0 S0 w172 [E (List Int) a158 h173, EH (Int × Int × List Int × List Int) [(n__0, n__1, y21, y26)] h165 [⟨0, (n__0, n__1, y21, y26), ((), (), h24, h29)⟩], E (List Int) a155 h162, Bx b17 [(.int .i64 y13_0), (.int .i64 y13_1)], Bx b5 [(.int .i64 0), (.slice none 0 0), (.slice none 0 0), (.slice none 0 0)], Bx b2 [(.int .i64 n__0), (.int .i64 n__1), (.string n__2)]])
              replace hX := hX.trans0 hx; clear hx
              refine hold hX ?_
              refine anyH (fun _ => build_ (cs := #[(.int .i64 a115), (h165).v, (h162).v, (h173).v]) gok rfl rfl rfl ⟨rfl, rfl⟩) ?_
              replace H := H.sel [4, 0, 1, 2, 3, 5] rfl
              refine stA gok [(.int .i64 a115), (h165).v, (h162).v, (h173).v] rfl H rfl rfl rfl ?_; clear H; intro w175 H
              replace H : Cx w0 fp0 S0 w175 [Bx b5 [(.int .i64 a115), (h165).v, (h162).v, (h173).v], E (List Int) a158 h173, EH (Int × Int × List Int × List Int) [(n__0, n__1, y21, y26)] h165 [⟨0, (n__0, n__1, y21, y26), ((), (), h24, h29)⟩], E (List Int) a155 h162, Bx b17 [(.int .i64 y13_0), (.int .i64 y13_1)], Bx b2 [(.int .i64 n__0), (.int .i64 n__1), (.string n__2)]] := H
              refine hold trivial ?_
              replace H := H.sel [2, 0, 1, 3, 4, 5] rfl
              replace H := H.ofEH
              exact ⟨((a115, [(n__0, n__1, y21, y26)], a155, a158), (h165, h162, h173)), ⟨rfl, trivial⟩, Option.some.inj hF160, H.sel [1, 0, 3, 2] rfl⟩
            · skip
              refine both ?_ ?_
              · skip
                have e := eq159; clear eq159
                have ea158 := e; clear e
                refine callFx (impl_clone_c y26 h29 a158 ea158) H ⟨Vw.own 1 rfl, trivial⟩ ?_; clear H ea158
                rintro _ _ w176 ⟨h177, rfl, rfl⟩ hx (H : Cx w0 fp0 S0 w176 [E (List Int) a158 h177, E (List Int) a155 h162, E (List Int) y26 h29, E (List Int) y21 h24, Bx b17 [(.int .i64 y13_0), (.int .i64 y13_1)], Bx b5 [(.int .i64 0), (.slice none 0 0), (.slice none 0 0), (.slice none 0 0)], Bx b2 [(.int .i64 n__0), (.int .i64 n__1), (.string n__2)]])
                replace hX := hX.trans0 hx; clear hx
                refine hold hX ?_
                replace H := H.sel [3, 2, 0, 1, 4, 5, 6] rfl
                replace H := H.join (α := List Int) (β := List Int)
                replace H := H.sc (α := Int) n__1
                replace H := H.join (α := Int) (β := List Int × List Int)
                replace H := H.sc (α := Int) n__0
                replace H := H.join (α := Int) (β := Int × List Int × List Int)
                refine lit1K (α := Int × Int × List Int × List Int) (g := ((), (), h24, h29)) gok rfl rfl rfl rfl rfl H ?_; clear H; intro h180 w179 hx H
                replace hX := hX.trans0 hx; clear hx
                refine hold hX ?_
                refine anyH (fun _ => build_ (cs := #[(.int .i64 a115), (h180).v, (h162).v, (h177).v]) gok rfl rfl rfl ⟨rfl, rfl⟩) ?_
                replace H := H.sel [4, 0, 1, 2, 3, 5] rfl
                refine stA gok [(.int .i64 a115), (h180).v, (h162).v, (h177).v] rfl H rfl rfl rfl ?_; clear H; intro w187 H
                replace H : Cx w0 fp0 S0 w187 [Bx b5 [(.int .i64 a115), (h180).v, (h162).v, (h177).v], EH (Int × Int × List Int × List Int) [(n__0, n__1, y21, y26)] h180 [⟨0, (n__0, n__1, y21, y26), ((), (), h24, h29)⟩], E (List Int) a158 h177, E (List Int) a155 h162, Bx b17 [(.int .i64 y13_0), (.int .i64 y13_1)], Bx b2 [(.int .i64 n__0), (.int .i64 n__1), (.string n__2)]] := H
                refine hold trivial ?_
                replace H := H.sel [1, 0, 2, 3, 4, 5] rfl
                replace H := H.ofEH
                exact ⟨((a115, [(n__0, n__1, y21, y26)], a155, a158), (h180, h162, h177)), ⟨rfl, trivial⟩, Option.some.inj hF160, H.sel [1, 0, 3, 2] rfl⟩
              · skip
                exact trivial
          · skip
            exact trivial
      · clear hF112 H
        rintro T189 ⟨⟨s105_0, s105_1, s105_2, s105_3⟩, ⟨g106_0, g106_1, g106_2⟩⟩ w188 ⟨hr, (H : Cx w0 fp0 S0 w188 [Bx b5 [(.int .i64 s105_0), (g106_0).v, (g106_1).v, (g106_2).v], E (List (Int × Int × List Int × List Int)) s105_1 g106_0, E (List Int) s105_2 g106_1, E (List Int) s105_3 g106_2])⟩
        subst hr
        refine loadN [(.int .i64 s105_0), (g106_0).v, (g106_1).v, (g106_2).v] rfl (fun j u hj => H.bx 0 rfl hj) ?_
        cases hF111
        exact ⟨_, _, rfl, ⟨g106_0, g106_1, g106_2, rfl, rfl⟩, (H.sel [1, 2, 3] rfl).close ⟨cloE, cloE, cloE, trivial⟩⟩
    · have hF190 := condT hF11; clear hF11
      replace H := H.sc (α := Int) 1
      replace H := H.sc (α := Int) 0
      refine litN (α := Int) (us := [(.int .i64 0), (.int .i64 1)]) (xs := [0, 1]) (gs := [(), ()]) gok rfl rfl rfl ⟨rfl, rfl, trivial⟩ rfl rfl H ?_; clear H; intro h192 w191 hx H
      clear hx
      replace H := H.sc (α := Int) 0
      replace H := H.sc (α := Int) 1
      refine litN (α := Int) (us := [(.int .i64 1), (.int .i64 0)]) (xs := [1, 0]) (gs := [(), ()]) gok rfl rfl rfl ⟨rfl, rfl, trivial⟩ rfl rfl H ?_; clear H; intro h195 w194 hx H
      clear hx
      refine build_ (cs := #[(.int .i64 2), (.slice none 0 0), (h192).v, (h195).v]) gok rfl rfl rfl ?_
      replace H := H.sel [2, 0, 1, 3] rfl
      refine stA gok [(.int .i64 2), (.slice none 0 0), (h192).v, (h195).v] rfl H rfl rfl rfl ?_; clear H; intro w197 H
      replace H : Cx w0 fp0 S0 w197 [Bx b5 [(.int .i64 2), (.slice none 0 0), (h192).v, (h195).v], E (List Int) [1, 0] h195, E (List Int) [0, 1] h192, Bx b2 [(.int .i64 n__0), (.int .i64 n__1), (.string n__2)]] := H
      refine loadN [(.int .i64 2), (.slice none 0 0), (h192).v, (h195).v] rfl (fun j u hj => H.bx 0 rfl hj) ?_
      replace H := H.nil (α := Int × Int × List Int × List Int)
      cases hF190
      exact ⟨_, _, rfl, ⟨nilH, h192, h195, rfl, rfl⟩, (H.sel [0, 3, 2] rfl).close ⟨cloE, cloE, cloE, trivial⟩⟩
  · have hF199 := condT hF8; clear hF8
    refine fld gok rfl rfl rfl rfl ?_
    refine load1 (H.bx 1 rfl (j := 1) rfl) ?_
    obtain ⟨y200, e, hF201⟩ := bindS hF199; clear hF199
    obtain ⟨y200_0, y200_1, y200_2, y200_3⟩ := y200
    have ey200 := e; clear e
    refine callF (impl_identityGraph_c n__1 y200_0 y200_1 y200_2 y200_3 ey200) (Γi := []) H trivial ?_; clear H ey200
    rintro _ _ w202 ⟨h203, h205, h207, rfl, rfl⟩ (H : Cx w0 fp0 S0 w202 [E (List (Int × Int × List Int × List Int)) y200_1 h203, E (List Int) y200_2 h205, E (List Int) y200_3 h207, Bx b5 [(.int .i64 0), (.slice none 0 0), (.slice none 0 0), (.slice none 0 0)], Bx b2 [(.int .i64 n__0), (.int .i64 n__1), (.string n__2)]])
    replace H := H.sel [3, 0, 1, 2, 4] rfl
    refine stA gok [(.int .i64 y200_0), (h203).v, (h205).v, (h207).v] rfl H rfl rfl rfl ?_; clear H; intro w209 H
    replace H : Cx w0 fp0 S0 w209 [Bx b5 [(.int .i64 y200_0), (h203).v, (h205).v, (h207).v], E (List (Int × Int × List Int × List Int)) y200_1 h203, E (List Int) y200_2 h205, E (List Int) y200_3 h207, Bx b2 [(.int .i64 n__0), (.int .i64 n__1), (.string n__2)]] := H
    refine loadN [(.int .i64 y200_0), (h203).v, (h205).v, (h207).v] rfl (fun j u hj => H.bx 0 rfl hj) ?_
    cases hF201
    exact ⟨_, _, rfl, ⟨h203, h205, h207, rfl, rfl⟩, (H.sel [1, 2, 3] rfl).close ⟨cloE, cloE, cloE, trivial⟩⟩

theorem impl_Edge_isEdge_c (e__0 : Int) (e__1 : Int) (e__2 : List Int) (e__2h : Hd) (e__3 : List Int) (e__3h : Hd) (y : Bool) (hF : F_impl_Edge_isEdge (e__0, e__1, e__2, e__3) = some y) :
    ConF Try.prog 75 #[(.agg #[(.int .i64 e__0), (.int .i64 e__1), (e__2h).v, (e__3h).v])] [Es (List Int) e__2 e__2h, Es (List Int) e__3 e__3h] [] (fun v Γ' => v = (.bool y) ∧ Γ' = []) := by
  intro w0 S0 fp0 hI hS
  have H : Cx w0 fp0 S0 w0 [Es (List Int) e__2 e__2h, Es (List Int) e__3 e__3h] := Cx.start hI hS
  clear hI hS
  refine enterC (args := [_]) gok Try.func75 rfl _ rfl rfl rfl ?_
  refine box_ H ?_; clear H; intro b4 w3 hx H
  clear hx
  replace H : Cx w0 fp0 S0 w3 [Bx b4 [(.int .i64 e__0), (.int .i64 e__1), (e__2h).v, (e__3h).v], Es (List Int) e__2 e__2h, Es (List Int) e__3 e__3h] := H
  refine sq ?_
  obtain ⟨r20, hF22, hF21⟩ := bindS hF; clear hF
  refine cut (fun (q23 : Bool) => [(1, (.pointer (some ⟨b4, 0, none⟩))), (14, (.bool q23))]) (fun (q23 : Bool) w' => q23 = r20 ∧ Cx w0 fp0 S0 w' [Bx b4 [(.int .i64 e__0), (.int .i64 e__1), (e__2h).v, (e__3h).v], Es (List Int) e__2 e__2h, Es (List Int) e__3 e__3h]) ?_ ?_
  · skip
    refine fld gok rfl rfl rfl rfl ?_
    refine load1 (H.bx 0 rfl (j := 0) rfl) ?_
    obtain ⟨y24, e, hF25⟩ := bindS hF22; clear hF22
    have ey24 := e; clear e
    refine callF (impl_isGenerator_c e__0 y24 ey24) (Γi := []) H trivial ?_; clear H ey24
    rintro _ _ w26 ⟨rfl, rfl⟩ (H : Cx w0 fp0 S0 w26 [Bx b4 [(.int .i64 e__0), (.int .i64 e__1), (e__2h).v, (e__3h).v], Es (List Int) e__2 e__2h, Es (List Int) e__3 e__3h])
    obtain ⟨a27, e, hF28⟩ := bindS hF25; clear hF25
    refine boolO e ?_; clear e
    cases a27
    · have hF29 := condF hF28; clear hF28
      refine fld gok rfl rfl rfl rfl ?_
      refine load1 (H.bx 0 rfl (j := 0) rfl) ?_
      refine fld gok rfl rfl rfl rfl ?_
      refine load1 (H.bx 0 rfl (j := 1) rfl) ?_
      obtain ⟨y30, e, hF31⟩ := bindS hF29; clear hF29
      have ey30 := e; clear e
      refine callF (impl_isGeneratorValue_c e__0 e__1 y30 ey30) (Γi := []) H trivial ?_; clear H ey30
      rintro _ _ w32 ⟨rfl, rfl⟩ (H : Cx w0 fp0 S0 w32 [Bx b4 [(.int .i64 e__0), (.int .i64 e__1), (e__2h).v, (e__3h).v], Es (List Int) e__2 e__2h, Es (List Int) e__3 e__3h])
      obtain ⟨a33, e, hF34⟩ := bindS hF31; clear hF31
      refine boolO e ?_; clear e
      exact ⟨a33, ⟨rfl, rfl, trivial⟩, Option.some.inj hF34, H.sel [0, 1, 2] rfl⟩
    · have hF35 := condT hF28; clear hF28
      exact ⟨true, ⟨rfl, rfl, trivial⟩, Option.some.inj hF35, H.sel [0, 1, 2] rfl⟩
  · clear hF22 H
    rintro T37 s18 w36 ⟨hr, (H : Cx w0 fp0 S0 w36 [Bx b4 [(.int .i64 e__0), (.int .i64 e__1), (e__2h).v, (e__3h).v], Es (List Int) e__2 e__2h, Es (List Int) e__3 e__3h])⟩
    subst hr
    cases s18
    · have hF38 := condF hF21; clear hF21
      refine heldX H [] (.fst 0 (.fst 3 (.fst 6 (.fst 1 (.fst 4 (.fst 5 (.fst 7 (.fst 8 (.fst 9 (.act 2 (.act 10 (.fst 11 .done)))))))))))) mixed [] trivial (by kernel_rfl) ?_
      clear H; intro w39 H
      have hX : Ext w39 w39 := Upd.refl _ _
      have H0 := H
      refine anyH (fun _ => fld gok rfl rfl rfl rfl ⟨rfl, rfl⟩) ?_
      refine anyH (fun _ => fld gok rfl rfl rfl rfl ⟨rfl, rfl⟩) ?_
      refine anyH (fun _ => fld gok rfl rfl rfl rfl ⟨rfl, rfl⟩) ?_
      refine load1X (H.bx 0 rfl (j := 0) rfl) ?_
      refine load1X (H.bx 0 rfl (j := 2) rfl) ?_
      refine lenE (H.rs (α := List Int) 1 rfl).len ?_
      refine load1X (H.bx 0 rfl (j := 3) rfl) ?_
      refine lenE (H.rs (α := List Int) 2 rfl).len ?_
      refine anyH (fun _ => build_ (cs := #[(.int .i64 ((e__2.length : Nat) : Int)), (.int .i64 ((e__3.length : Nat) : Int))]) gok rfl rfl rfl ⟨rfl, rfl⟩) ?_
      obtain ⟨y40, e, hF41⟩ := bindS hF38; clear hF38
      obtain ⟨y40_0, y40_1⟩ := y40
      have ey40 := e; clear e
      refine callFx (impl_generatorWires_c e__0 y40_0 y40_1 ey40) H trivial ?_; clear H ey40
      rintro _ _ w42 ⟨rfl, rfl⟩ hx (H : Cx w0 fp0 S0 w42 [Bx b4 [(.int .i64 e__0), (.int .i64 e__1), (e__2h).v, (e__3h).v], Es (List Int) e__2 e__2h, Es (List Int) e__3 e__3h])
      replace hX := hX.trans0 hx; clear hx
      refine hold hX ?_
      obtain ⟨a43, e, hF44⟩ := bindS hF41; clear hF41
      refine eqA gok rfl Try.underlying63 (by kernel_rfl) (by kernel_rfl) (by kernel_rfl) (by refine ⟨rfl, ⟨_, _, rfl⟩, rfl, ⟨_, _, rfl⟩, trivial⟩) (ls := [y40_0, y40_1]) (bs := [((e__2.length : Nat) : Int), ((e__3.length : Nat) : Int)]) rfl rfl rfl rfl e ?_; clear e
      refine hold hX ?_
      cases hF44
      exact ⟨_, _, rfl, ⟨rfl, rfl⟩, (H.sel [] rfl).close trivial⟩
    · have hF45 := condT hF21; clear hF21
      cases hF45
      exact ⟨_, _, rfl, ⟨rfl, rfl⟩, (H.sel [] rfl).close trivial⟩

theorem impl_Graph_isGraph_1_c (list_ : List Int) (list_h : Hd) (c0_b : Nat) (c0__0 : Int) (c0__1 : List (Int × Int × List Int × List Int)) (c0__1h : Hd) (c0__2 : List Int) (c0__2h : Hd) (c0__3 : List Int) (c0__3h : Hd) (c1_b : Nat) (c1_ : Bool) (c2_b : Nat) (c2_ : List Bool) (c2_h : Hd) (c3_b : Nat) (c3_ : Int) (y0 : Bool) (y1 : List Bool) (y2 : Int) (hF : F_impl_Graph_isGraph_1 list_ (c0__0, c0__1, c0__2, c0__3) c1_ c2_ c3_ = some (y0, y1, y2)) :
    ConF Try.prog 77 #[(list_h).v, (.pointer (some ⟨c0_b, 0, none⟩)), (.pointer (some ⟨c1_b, 0, none⟩)), (.pointer (some ⟨c2_b, 0, none⟩)), (.pointer (some ⟨c3_b, 0, none⟩))] [Es (List Int) list_ list_h, Es (List (Int × Int × List Int × List Int)) c0__1 c0__1h, Es (List Int) c0__2 c0__2h, Es (List Int) c0__3 c0__3h] [Bx c0_b [(.int .i64 c0__0), (c0__1h).v, (c0__2h).v, (c0__3h).v], Bx c1_b [(.bool c1_)], Bx c2_b [(c2_h).v], E (List Bool) c2_ c2_h, Bx c3_b [(.int .i64 c3_)]] (fun v Γ' => v = (.tuple #[]) ∧ Γ' = [Bx c0_b [(.int .i64 c0__0), (c0__1h).v, (c0__2h).v, (c0__3h).v], Bx c1_b [(.bool y0)], Bx c2_b [(c2_h).v], E (List Bool) y1 c2_h, Bx c3_b [(.int .i64 y2)]]) := by
  intro w0 S0 fp0 hI hS
  have H : Cx w0 fp0 S0 w0 [Es (List Int) list_ list_h, Es (List (Int × Int × List Int × List Int)) c0__1 c0__1h, Es (List Int) c0__2 c0__2h, Es (List Int) c0__3 c0__3h, Bx c0_b [(.int .i64 c0__0), (c0__1h).v, (c0__2h).v, (c0__3h).v], Bx c1_b [(.bool c1_)], Bx c2_b [(c2_h).v], E (List Bool) c2_ c2_h, Bx c3_b [(.int .i64 c3_)]] := Cx.start hI hS
  clear hI hS
  refine enterC (args := [_, _, _, _, _]) gok Try.func77 rfl _ rfl rfl rfl ?_
  refine lenE (H.rs (α := List Int) 0 rfl).len ?_
  have hmx201 := (H.rs (α := List Int) 0 rfl).max
  obtain ⟨r202, e, hF203⟩ := bindS hF; clear hF
  refine loopS _ list_.length (fun (k10 : Nat) (s199 : Bool × Int × List Bool) (_ : Unit) => [(1, (.pointer (some ⟨c0_b, 0, none⟩))), (2, (.pointer (some ⟨c1_b, 0, none⟩))), (3, (.pointer (some ⟨c2_b, 0, none⟩))), (4, (.pointer (some ⟨c3_b, 0, none⟩))), (8, (list_h).v), (9, (.int .i64 ((list_.length : Nat) : Int))), (10, (.int .i64 ((k10 : Nat) : Int)))]) (fun _ (s199 : Bool × Int × List Bool) (_ : Unit) w' => Cx w0 fp0 S0 w' [Bx c0_b [(.int .i64 c0__0), (c0__1h).v, (c0__2h).v, (c0__3h).v], Es (List (Int × Int × List Int × List Int)) c0__1 c0__1h, Es (List Int) c0__2 c0__2h, Es (List Int) c0__3 c0__3h, Bx c1_b [(.bool s199.1)], Bx c2_b [(c2_h).v], E (List Bool) s199.2.2 c2_h, Bx c3_b [(.int .i64 s199.2.1)], Es (List Int) list_ list_h]) (c1_, c3_, c2_) () e ⟨rfl, rfl, rfl, rfl, rfl, rfl, rfl, trivial⟩ (H.sel [4, 1, 2, 3, 5, 6, 7, 8, 0] rfl) ?_ ?_
  · clear H e
    rintro T205 k10 ⟨s199_0, s199_1, s199_2⟩ _ w204 o206 hk (H : Cx w0 fp0 S0 w204 [Bx c0_b [(.int .i64 c0__0), (c0__1h).v, (c0__2h).v, (c0__3h).v], Es (List (Int × Int × List Int × List Int)) c0__1 c0__1h, Es (List Int) c0__2 c0__2h, Es (List Int) c0__3 c0__3h, Bx c1_b [(.bool s199_0)], Bx c2_b [(c2_h).v], E (List Bool) s199_2 c2_h, Bx c3_b [(.int .i64 s199_1)], Es (List Int) list_ list_h]) hF207
    refine boolE (z := true) (ltLen hk) ?_
    refine sq ?_
    obtain ⟨r252, hF254, hF253⟩ := bindS hF207; clear hF207
    refine cut (fun (q255 : Bool × Int × List Bool) => [(1, (.pointer (some ⟨c0_b, 0, none⟩))), (2, (.pointer (some ⟨c1_b, 0, none⟩))), (3, (.pointer (some ⟨c2_b, 0, none⟩))), (4, (.pointer (some ⟨c3_b, 0, none⟩))), (8, (list_h).v), (9, (.int .i64 ((list_.length : Nat) : Int))), (10, (.int .i64 ((k10 : Nat) : Int)))]) (fun (q255 : Bool × Int × List Bool) w' => (q255.1, q255.2.1, q255.2.2) = r252 ∧ Cx w0 fp0 S0 w' [Bx c0_b [(.int .i64 c0__0), (c0__1h).v, (c0__2h).v, (c0__3h).v], Es (List (Int × Int × List Int × List Int)) c0__1 c0__1h, Es (List Int) c0__2 c0__2h, Es (List Int) c0__3 c0__3h, Bx c1_b [(.bool q255.1)], Bx c2_b [(c2_h).v], E (List Bool) q255.2.2 c2_h, Bx c3_b [(.int .i64 q255.2.1)], Es (List Int) list_ list_h]) ?_ ?_
    · skip
      obtain ⟨a262, e, hF263⟩ := bindS hF254; clear hF254
      obtain ⟨p260, m261, c256, c257, c258, c259⟩ := (H.rs (α := List Int) 8 rfl).at1 e; clear e
      refine idxE c256 c257 c258 ?_; clear c256 c257 c258
      refine load1 c259 ?_; clear c259
      refine sq ?_
      refine fld gok rfl rfl rfl rfl ?_
      refine load1 (H.bx 0 rfl (j := 0) rfl) ?_
      obtain ⟨a264, e, hF265⟩ := bindS hF263; clear hF263
      refine arO e ?_; clear e
      obtain ⟨y266, e, hF267⟩ := bindS hF265; clear hF265
      have ey266 := e; clear e
      refine callF (impl_within_c a262 0 a264 y266 ey266) (Γi := []) H trivial ?_; clear H ey266
      rintro _ _ w268 ⟨rfl, rfl⟩ (H : Cx w0 fp0 S0 w268 [Bx c0_b [(.int .i64 c0__0), (c0__1h).v, (c0__2h).v, (c0__3h).v], Es (List (Int × Int × List Int × List Int)) c0__1 c0__1h, Es (List Int) c0__2 c0__2h, Es (List Int) c0__3 c0__3h, Bx c1_b [(.bool s199_0)], Bx c2_b [(c2_h).v], E (List Bool) s199_2 c2_h, Bx c3_b [(.int .i64 s199_1)], Es (List Int) list_ list_h])
      obtain ⟨a269, e, hF270⟩ := bindS hF267; clear hF267
      refine boolO e ?_; clear e
      cases a269
      · have hF271 := condF hF270; clear hF270
        refine load1 (H.bx0 5 rfl) ?_
        obtain ⟨a278, e, hF279⟩ := bindS hF271; clear hF271
        obtain ⟨p276, m277, c272, c273, c274, c275⟩ := (H.ro (α := List Bool) 6 rfl).at1 e; clear e
        refine idxE c272 c273 c274 ?_; clear c272 c273 c274
        refine load1 c275 ?_; clear c275
        obtain ⟨a280, e, hF281⟩ := bindS hF279; clear hF279
        refine boolO e ?_; clear e
        cases a280
        · have hF282 := condF hF281; clear hF281
          exact ⟨(s199_0, s199_1, s199_2), ⟨rfl, rfl, rfl, rfl, rfl, rfl, rfl, trivial⟩, Option.some.inj hF282, H.sel [0, 1, 2, 3, 4, 5, 6, 7, 8] rfl⟩
        · have hF283 := condT hF281; clear hF281
          refine load1 (H.bx0 5 rfl) ?_
          obtain ⟨a290, e, hF291⟩ := bindS hF283; clear hF283
          have ea290 := e; clear e
          obtain ⟨p288, m289, c284, c285, c286⟩ := (H.ro (α := List Bool) 6 rfl).setp ea290
          refine idxE c284 c285 c286 ?_
          replace H := H.sel [6, 0, 1, 2, 3, 4, 5, 7, 8] rfl
          refine setS (α := Bool) H c284 c285 ea290 ?_; clear H c284 c285 c286 ea290; intro w292 H
          refine load1 (H.bx0 7 rfl) ?_
          obtain ⟨a293, e, hF294⟩ := bindS hF291; clear hF291
          refine arO e ?_; clear e
          replace H := H.sel [7, 0, 1, 2, 3, 4, 5, 6, 8] rfl
          refine stB0 H rfl ?_; clear H; intro w295 H
          replace H : Cx w0 fp0 S0 w295 [Bx c3_b [(.int .i64 a293)], E (List Bool) a290 c2_h, Bx c0_b [(.int .i64 c0__0), (c0__1h).v, (c0__2h).v, (c0__3h).v], Es (List (Int × Int × List Int × List Int)) c0__1 c0__1h, Es (List Int) c0__2 c0__2h, Es (List Int) c0__3 c0__3h, Bx c1_b [(.bool s199_0)], Bx c2_b [(c2_h).v], Es (List Int) list_ list_h] := H
          exact ⟨(s199_0, a293, a290), ⟨rfl, rfl, rfl, rfl, rfl, rfl, rfl, trivial⟩, Option.some.inj hF294, H.sel [2, 3, 4, 5, 6, 7, 1, 0, 8] rfl⟩
      · have hF296 := condT hF270; clear hF270
        replace H := H.sel [4, 0, 1, 2, 3, 5, 6, 7, 8] rfl
        refine stB0 H rfl ?_; clear H; intro w297 H
        replace H : Cx w0 fp0 S0 w297 [Bx c1_b [(.bool false)], Bx c0_b [(.int .i64 c0__0), (c0__1h).v, (c0__2h).v, (c0__3h).v], Es (List (Int × Int × List Int × List Int)) c0__1 c0__1h, Es (List Int) c0__2 c0__2h, Es (List Int) c0__3 c0__3h, Bx c2_b [(c2_h).v], E (List Bool) s199_2 c2_h, Bx c3_b [(.int .i64 s199_1)], Es (List Int) list_ list_h] := H
        exact ⟨(false, s199_1, s199_2), ⟨rfl, rfl, rfl, rfl, rfl, rfl, rfl, trivial⟩, Option.some.inj hF296, H.sel [1, 2, 3, 4, 0, 5, 6, 7, 8] rfl⟩
    · clear hF254 H
      rintro T299 ⟨s250_0, s250_1, s250_2⟩ w298 ⟨hr, (H : Cx w0 fp0 S0 w298 [Bx c0_b [(.int .i64 c0__0), (c0__1h).v, (c0__2h).v, (c0__3h).v], Es (List (Int × Int × List Int × List Int)) c0__1 c0__1h, Es (List Int) c0__2 c0__2h, Es (List Int) c0__3 c0__3h, Bx c1_b [(.bool s250_0)], Bx c2_b [(c2_h).v], E (List Bool) s250_2 c2_h, Bx c3_b [(.int .i64 s250_1)], Es (List Int) list_ list_h])⟩
      subst hr
      refine arK hk hmx201 ?_
      have hs := Option.some.inj hF253; subst hs; clear hF253
      exact ⟨(), ⟨rfl, rfl, rfl, rfl, rfl, rfl, rfl, trivial⟩, H.sel [0, 1, 2, 3, 4, 5, 6, 7, 8] rfl⟩
  · clear H e
    obtain ⟨s302_0, s302_1, s302_2⟩ := r202
    rintro T301 _ w300 (H : Cx w0 fp0 S0 w300 [Bx c0_b [(.int .i64 c0__0), (c0__1h).v, (c0__2h).v, (c0__3h).v], Es (List (Int × Int × List Int × List Int)) c0__1 c0__1h, Es (List Int) c0__2 c0__2h, Es (List Int) c0__3 c0__3h, Bx c1_b [(.bool s302_0)], Bx c2_b [(c2_h).v], E (List Bool) s302_2 c2_h, Bx c3_b [(.int .i64 s302_1)], Es (List Int) list_ list_h])
    refine boolE (z := false) geLen ?_
    refine sq ?_
    cases hF203
    exact ⟨_, _, rfl, ⟨rfl, rfl⟩, (H.sel [0, 4, 5, 6, 7] rfl).close ⟨cloB, cloB, cloB, cloE, cloB, trivial⟩⟩

theorem impl_Graph_lists_impl_Graph_isGraph_1_c (g__0 : Int) (g__1 : List (Int × Int × List Int × List Int)) (g__1h : Hd) (g__2 : List Int) (g__2h : Hd) (g__3 : List Int) (g__3h : Hd) (d0_b : Nat) (d0__0 : Int) (d0__1 : List (Int × Int × List Int × List Int)) (d0__1h : Hd) (d0__2 : List Int) (d0__2h : Hd) (d0__3 : List Int) (d0__3h : Hd) (d1_b : Nat) (d1_ : Bool) (d2_b : Nat) (d2_ : List Bool) (d2_h : Hd) (d3_b : Nat) (d3_ : Int) (y0 : Bool) (y1 : List Bool) (y2 : Int) (hF : F_impl_Graph_lists_impl_Graph_isGraph_1 (g__0, g__1, g__2, g__3) (d0__0, d0__1, d0__2, d0__3) d1_ d2_ d3_ = some (y0, y1, y2)) :
    ConF Try.prog 76 #[(.agg #[(.int .i64 g__0), (g__1h).v, (g__2h).v, (g__3h).v]), (.func (.func 77) #[] #[(.pointer (some ⟨d0_b, 0, none⟩)), (.pointer (some ⟨d1_b, 0, none⟩)), (.pointer (some ⟨d2_b, 0, none⟩)), (.pointer (some ⟨d3_b, 0, none⟩))])] [Es (List (Int × Int × List Int × List Int)) g__1 g__1h, Es (List Int) g__2 g__2h, Es (List Int) g__3 g__3h, Es (List (Int × Int × List Int × List Int)) d0__1 d0__1h, Es (List Int) d0__2 d0__2h, Es (List Int) d0__3 d0__3h] [Bx d0_b [(.int .i64 d0__0), (d0__1h).v, (d0__2h).v, (d0__3h).v], Bx d1_b [(.bool d1_)], Bx d2_b [(d2_h).v], E (List Bool) d2_ d2_h, Bx d3_b [(.int .i64 d3_)]] (fun v Γ' => v = (.tuple #[]) ∧ Γ' = [Bx d0_b [(.int .i64 d0__0), (d0__1h).v, (d0__2h).v, (d0__3h).v], Bx d1_b [(.bool y0)], Bx d2_b [(d2_h).v], E (List Bool) y1 d2_h, Bx d3_b [(.int .i64 y2)]]) := by
  intro w0 S0 fp0 hI hS
  have H : Cx w0 fp0 S0 w0 [Es (List (Int × Int × List Int × List Int)) g__1 g__1h, Es (List Int) g__2 g__2h, Es (List Int) g__3 g__3h, Es (List (Int × Int × List Int × List Int)) d0__1 d0__1h, Es (List Int) d0__2 d0__2h, Es (List Int) d0__3 d0__3h, Bx d0_b [(.int .i64 d0__0), (d0__1h).v, (d0__2h).v, (d0__3h).v], Bx d1_b [(.bool d1_)], Bx d2_b [(d2_h).v], E (List Bool) d2_ d2_h, Bx d3_b [(.int .i64 d3_)]] := Cx.start hI hS
  clear hI hS
  refine enterC (args := [_, _]) gok Try.func76 rfl _ rfl rfl rfl ?_
  refine box_ H ?_; clear H; intro b13 w12 hx H
  clear hx
  replace H : Cx w0 fp0 S0 w12 [Bx b13 [(.int .i64 g__0), (g__1h).v, (g__2h).v, (g__3h).v], Es (List (Int × Int × List Int × List Int)) g__1 g__1h, Es (List Int) g__2 g__2h, Es (List Int) g__3 g__3h, Es (List (Int × Int × List Int × List Int)) d0__1 d0__1h, Es (List Int) d0__2 d0__2h, Es (List Int) d0__3 d0__3h, Bx d0_b [(.int .i64 d0__0), (d0__1h).v, (d0__2h).v, (d0__3h).v], Bx d1_b [(.bool d1_)], Bx d2_b [(d2_h).v], E (List Bool) d2_ d2_h, Bx d3_b [(.int .i64 d3_)]] := H
  refine fld gok rfl rfl rfl rfl ?_
  refine load1 (H.bx 0 rfl (j := 2) rfl) ?_
  obtain ⟨y15, e, hF16⟩ := bindS hF; clear hF
  obtain ⟨y15_0, y15_1, y15_2⟩ := y15
  have ey15 := e; clear e
  replace H := H.sel [7, 8, 9, 10, 11, 0, 1, 2, 3, 4, 5, 6] rfl
  refine callF (impl_Graph_isGraph_1_c g__2 g__2h d0_b d0__0 d0__1 d0__1h d0__2 d0__2h d0__3 d0__3h d1_b d1_ d2_b d2_ d2_h d3_b d3_ y15_0 y15_1 y15_2 ey15) (Γi := [Bx d0_b [(.int .i64 d0__0), (d0__1h).v, (d0__2h).v, (d0__3h).v], Bx d1_b [(.bool d1_)], Bx d2_b [(d2_h).v], E (List Bool) d2_ d2_h, Bx d3_b [(.int .i64 d3_)]]) H ⟨Vw.sh 2 rfl, Vw.sh 4 rfl, Vw.sh 5 rfl, Vw.sh 6 rfl, trivial⟩ ?_; clear H ey15
  rintro _ _ w17 ⟨rfl, rfl⟩ (H : Cx w0 fp0 S0 w17 [Bx d0_b [(.int .i64 d0__0), (d0__1h).v, (d0__2h).v, (d0__3h).v], Bx d1_b [(.bool y15_0)], Bx d2_b [(d2_h).v], E (List Bool) y15_1 d2_h, Bx d3_b [(.int .i64 y15_2)], Bx b13 [(.int .i64 g__0), (g__1h).v, (g__2h).v, (g__3h).v], Es (List (Int × Int × List Int × List Int)) g__1 g__1h, Es (List Int) g__2 g__2h, Es (List Int) g__3 g__3h, Es (List (Int × Int × List Int × List Int)) d0__1 d0__1h, Es (List Int) d0__2 d0__2h, Es (List Int) d0__3 d0__3h])
  refine fld gok rfl rfl rfl rfl ?_
  refine load1 (H.bx 5 rfl (j := 3) rfl) ?_
  obtain ⟨y18, e, hF19⟩ := bindS hF16; clear hF16
  obtain ⟨y18_0, y18_1, y18_2⟩ := y18
  have ey18 := e; clear e
  refine callF (impl_Graph_isGraph_1_c g__3 g__3h d0_b d0__0 d0__1 d0__1h d0__2 d0__2h d0__3 d0__3h d1_b y15_0 d2_b y15_1 d2_h d3_b y15_2 y18_0 y18_1 y18_2 ey18) (Γi := [Bx d0_b [(.int .i64 d0__0), (d0__1h).v, (d0__2h).v, (d0__3h).v], Bx d1_b [(.bool y15_0)], Bx d2_b [(d2_h).v], E (List Bool) y15_1 d2_h, Bx d3_b [(.int .i64 y15_2)]]) H ⟨Vw.sh 3 rfl, Vw.sh 4 rfl, Vw.sh 5 rfl, Vw.sh 6 rfl, trivial⟩ ?_; clear H ey18
  rintro _ _ w20 ⟨rfl, rfl⟩ (H : Cx w0 fp0 S0 w20 [Bx d0_b [(.int .i64 d0__0), (d0__1h).v, (d0__2h).v, (d0__3h).v], Bx d1_b [(.bool y18_0)], Bx d2_b [(d2_h).v], E (List Bool) y18_1 d2_h, Bx d3_b [(.int .i64 y18_2)], Bx b13 [(.int .i64 g__0), (g__1h).v, (g__2h).v, (g__3h).v], Es (List (Int × Int × List Int × List Int)) g__1 g__1h, Es (List Int) g__2 g__2h, Es (List Int) g__3 g__3h, Es (List (Int × Int × List Int × List Int)) d0__1 d0__1h, Es (List Int) d0__2 d0__2h, Es (List Int) d0__3 d0__3h])
  refine fld gok rfl rfl rfl rfl ?_
  refine load1 (H.bx 5 rfl (j := 1) rfl) ?_
  refine lenE (H.rs (α := List (Int × Int × List Int × List Int)) 6 rfl).len ?_
  have hmx76 := (H.rs (α := List (Int × Int × List Int × List Int)) 6 rfl).max
  obtain ⟨r77, e, hF78⟩ := bindS hF19; clear hF19
  refine loopS _ g__1.length (fun (k21 : Nat) (s74 : Int × Bool × List Bool) (_ : Unit) => [(1, (.func (.func 77) #[] #[(.pointer (some ⟨d0_b, 0, none⟩)), (.pointer (some ⟨d1_b, 0, none⟩)), (.pointer (some ⟨d2_b, 0, none⟩)), (.pointer (some ⟨d3_b, 0, none⟩))])), (15, (g__1h).v), (16, (.int .i64 ((g__1.length : Nat) : Int))), (17, (.int .i64 ((k21 : Nat) : Int)))]) (fun _ (s74 : Int × Bool × List Bool) (_ : Unit) w' => Cx w0 fp0 S0 w' [Bx d0_b [(.int .i64 d0__0), (d0__1h).v, (d0__2h).v, (d0__3h).v], Es (List (Int × Int × List Int × List Int)) d0__1 d0__1h, Es (List Int) d0__2 d0__2h, Es (List Int) d0__3 d0__3h, Bx d1_b [(.bool s74.2.1)], Bx d2_b [(d2_h).v], E (List Bool) s74.2.2 d2_h, Bx d3_b [(.int .i64 s74.1)], Es (List (Int × Int × List Int × List Int)) g__1 g__1h]) (y18_2, y18_0, y18_1) () e ⟨rfl, rfl, rfl, rfl, trivial⟩ (H.sel [0, 9, 10, 11, 1, 2, 3, 4, 6] rfl) ?_ ?_
  · clear H e
    rintro T80 k21 ⟨s74_0, s74_1, s74_2⟩ _ w79 o81 hk (H : Cx w0 fp0 S0 w79 [Bx d0_b [(.int .i64 d0__0), (d0__1h).v, (d0__2h).v, (d0__3h).v], Es (List (Int × Int × List Int × List Int)) d0__1 d0__1h, Es (List Int) d0__2 d0__2h, Es (List Int) d0__3 d0__3h, Bx d1_b [(.bool s74_1)], Bx d2_b [(d2_h).v], E (List Bool) s74_2 d2_h, Bx d3_b [(.int .i64 s74_0)], Es (List (Int × Int × List Int × List Int)) g__1 g__1h]) hF82
    refine boolE (z := true) (ltLen hk) ?_
    refine sq ?_
    refine sq ?_
    obtain ⟨a89, e, hF90⟩ := bindS hF82; clear hF82
    have HH := H; clear H; obtain ⟨p87, m88, g91, c83, c84, c85, c86, H⟩ := HH.el (α := Int × Int × List Int × List Int) 8 rfl e; clear HH
    clear e
    obtain ⟨a89_0, a89_1, a89_2, a89_3⟩ := a89
    obtain ⟨_, _, h93, h94⟩ := g91
    replace H := H.part (β := List Int) a89_2 (h93 : Hd) 0 rfl (fun S h => (And.left (And.right (And.right h))))
    replace H := H.part (β := List Int) a89_3 (h94 : Hd) 1 rfl (fun S h => (And.right (And.right (And.right h))))
    replace H := H.sel [0, 1, 3, 4, 5, 6, 7, 8, 9, 10, 11] rfl
    refine idxE c83 c84 c85 ?_; clear c83 c84 c85
    refine loadN [(.int .i64 a89_0), (.int .i64 a89_1), (h93).v, (h94).v] rfl c86 ?_; clear c86
    refine alloc_ gok rfl H ?_; clear H; intro b98 w97 hx H
    clear hx
    replace H : Cx w0 fp0 S0 w97 [Bx b98 [(.int .i64 0), (.int .i64 0), (.slice none 0 0), (.slice none 0 0)], Es (List Int) a89_3 h94, Es (List Int) a89_2 h93, Bx d0_b [(.int .i64 d0__0), (d0__1h).v, (d0__2h).v, (d0__3h).v], Es (List (Int × Int × List Int × List Int)) d0__1 d0__1h, Es (List Int) d0__2 d0__2h, Es (List Int) d0__3 d0__3h, Bx d1_b [(.bool s74_1)], Bx d2_b [(d2_h).v], E (List Bool) s74_2 d2_h, Bx d3_b [(.int .i64 s74_0)], Es (List (Int × Int × List Int × List Int)) g__1 g__1h] := H
    refine stA gok [(.int .i64 a89_0), (.int .i64 a89_1), (h93).v, (h94).v] rfl H rfl rfl rfl ?_; clear H; intro w100 H
    replace H : Cx w0 fp0 S0 w100 [Bx b98 [(.int .i64 a89_0), (.int .i64 a89_1), (h93).v, (h94).v], Es (List Int) a89_3 h94, Es (List Int) a89_2 h93, Bx d0_b [(.int .i64 d0__0), (d0__1h).v, (d0__2h).v, (d0__3h).v], Es (List (Int × Int × List Int × List Int)) d0__1 d0__1h, Es (List Int) d0__2 d0__2h, Es (List Int) d0__3 d0__3h, Bx d1_b [(.bool s74_1)], Bx d2_b [(d2_h).v], E (List Bool) s74_2 d2_h, Bx d3_b [(.int .i64 s74_0)], Es (List (Int × Int × List Int × List Int)) g__1 g__1h] := H
    refine fld gok rfl rfl rfl rfl ?_
    refine load1 (H.bx 0 rfl (j := 2) rfl) ?_
    obtain ⟨y101, e, hF102⟩ := bindS hF90; clear hF90
    obtain ⟨y101_0, y101_1, y101_2⟩ := y101
    have ey101 := e; clear e
    replace H := H.sel [3, 7, 8, 9, 10, 0, 1, 2, 4, 5, 6, 11] rfl
    refine callF (impl_Graph_isGraph_1_c a89_2 h93 d0_b d0__0 d0__1 d0__1h d0__2 d0__2h d0__3 d0__3h d1_b s74_1 d2_b s74_2 d2_h d3_b s74_0 y101_0 y101_1 y101_2 ey101) (Γi := [Bx d0_b [(.int .i64 d0__0), (d0__1h).v, (d0__2h).v, (d0__3h).v], Bx d1_b [(.bool s74_1)], Bx d2_b [(d2_h).v], E (List Bool) s74_2 d2_h, Bx d3_b [(.int .i64 s74_0)]]) H ⟨Vw.sh 2 rfl, Vw.sh 3 rfl, Vw.sh 4 rfl, Vw.sh 5 rfl, trivial⟩ ?_; clear H ey101
    rintro _ _ w103 ⟨rfl, rfl⟩ (H : Cx w0 fp0 S0 w103 [Bx d0_b [(.int .i64 d0__0), (d0__1h).v, (d0__2h).v, (d0__3h).v], Bx d1_b [(.bool y101_0)], Bx d2_b [(d2_h).v], E (List Bool) y101_1 d2_h, Bx d3_b [(.int .i64 y101_2)], Bx b98 [(.int .i64 a89_0), (.int .i64 a89_1), (h93).v, (h94).v], Es (List Int) a89_3 h94, Es (List Int) a89_2 h93, Es (List (Int × Int × List Int × List Int)) d0__1 d0__1h, Es (List Int) d0__2 d0__2h, Es (List Int) d0__3 d0__3h, Es (List (Int × Int × List Int × List Int)) g__1 g__1h])
    refine fld gok rfl rfl rfl rfl ?_
    refine load1 (H.bx 5 rfl (j := 3) rfl) ?_
    obtain ⟨y104, e, hF105⟩ := bindS hF102; clear hF102
    obtain ⟨y104_0, y104_1, y104_2⟩ := y104
    have ey104 := e; clear e
    refine callF (impl_Graph_isGraph_1_c a89_3 h94 d0_b d0__0 d0__1 d0__1h d0__2 d0__2h d0__3 d0__3h d1_b y101_0 d2_b y101_1 d2_h d3_b y101_2 y104_0 y104_1 y104_2 ey104) (Γi := [Bx d0_b [(.int .i64 d0__0), (d0__1h).v, (d0__2h).v, (d0__3h).v], Bx d1_b [(.bool y101_0)], Bx d2_b [(d2_h).v], E (List Bool) y101_1 d2_h, Bx d3_b [(.int .i64 y101_2)]]) H ⟨Vw.sh 1 rfl, Vw.sh 3 rfl, Vw.sh 4 rfl, Vw.sh 5 rfl, trivial⟩ ?_; clear H ey104
    rintro _ _ w106 ⟨rfl, rfl⟩ (H : Cx w0 fp0 S0 w106 [Bx d0_b [(.int .i64 d0__0), (d0__1h).v, (d0__2h).v, (d0__3h).v], Bx d1_b [(.bool y104_0)], Bx d2_b [(d2_h).v], E (List Bool) y104_1 d2_h, Bx d3_b [(.int .i64 y104_2)], Bx b98 [(.int .i64 a89_0), (.int .i64 a89_1), (h93).v, (h94).v], Es (List Int) a89_3 h94, Es (List Int) a89_2 h93, Es (List (Int × Int × List Int × List Int)) d0__1 d0__1h, Es (List Int) d0__2 d0__2h, Es (List Int) d0__3 d0__3h, Es (List (Int × Int × List Int × List Int)) g__1 g__1h])
    refine arK hk hmx76 ?_
    have hs := Option.some.inj hF105; subst hs; clear hF105
    exact ⟨(), ⟨rfl, rfl, rfl, rfl, trivial⟩, H.sel [0, 8, 9, 10, 1, 2, 3, 4, 11] rfl⟩
  · clear H e
    obtain ⟨s109_0, s109_1, s109_2⟩ := r77
    rintro T108 _ w107 (H : Cx w0 fp0 S0 w107 [Bx d0_b [(.int .i64 d0__0), (d0__1h).v, (d0__2h).v, (d0__3h).v], Es (List (Int × Int × List Int × List Int)) d0__1 d0__1h, Es (List Int) d0__2 d0__2h, Es (List Int) d0__3 d0__3h, Bx d1_b [(.bool s109_1)], Bx d2_b [(d2_h).v], E (List Bool) s109_2 d2_h, Bx d3_b [(.int .i64 s109_0)], Es (List (Int × Int × List Int × List Int)) g__1 g__1h])
    refine boolE (z := false) geLen ?_
    refine sq ?_
    cases hF78
    exact ⟨_, _, rfl, ⟨rfl, rfl⟩, (H.sel [0, 4, 5, 6, 7] rfl).close ⟨cloB, cloB, cloB, cloE, cloB, trivial⟩⟩

theorem impl_Graph_isGraph_c (g__0 : Int) (g__1 : List (Int × Int × List Int × List Int)) (g__1h : Hd) (g__2 : List Int) (g__2h : Hd) (g__3 : List Int) (g__3h : Hd) (y : Bool) (hF : F_impl_Graph_isGraph (g__0, g__1, g__2, g__3) = some y) :
    ConF Try.prog 52 #[(.agg #[(.int .i64 g__0), (g__1h).v, (g__2h).v, (g__3h).v])] [Es (List (Int × Int × List Int × List Int)) g__1 g__1h, Es (List Int) g__2 g__2h, Es (List Int) g__3 g__3h] [] (fun v Γ' => v = (.bool y) ∧ Γ' = []) := by
  intro w0 S0 fp0 hI hS
  have H : Cx w0 fp0 S0 w0 [Es (List (Int × Int × List Int × List Int)) g__1 g__1h, Es (List Int) g__2 g__2h, Es (List Int) g__3 g__3h] := Cx.start hI hS
  clear hI hS
  refine enterC (args := [_]) gok Try.func52 rfl _ rfl rfl rfl ?_
  refine box_ H ?_; clear H; intro b5 w4 hx H
  clear hx
  replace H : Cx w0 fp0 S0 w4 [Bx b5 [(.int .i64 g__0), (g__1h).v, (g__2h).v, (g__3h).v], Es (List (Int × Int × List Int × List Int)) g__1 g__1h, Es (List Int) g__2 g__2h, Es (List Int) g__3 g__3h] := H
  refine sq ?_
  obtain ⟨r26, hF28, hF27⟩ := bindS hF; clear hF
  refine cut (fun (q29 : Bool) => [(1, (.pointer (some ⟨b5, 0, none⟩))), (29, (.bool q29))]) (fun (q29 : Bool) w' => q29 = r26 ∧ Cx w0 fp0 S0 w' [Bx b5 [(.int .i64 g__0), (g__1h).v, (g__2h).v, (g__3h).v], Es (List (Int × Int × List Int × List Int)) g__1 g__1h, Es (List Int) g__2 g__2h, Es (List Int) g__3 g__3h]) ?_ ?_
  · skip
    refine fld gok rfl rfl rfl rfl ?_
    refine load1 (H.bx 0 rfl (j := 0) rfl) ?_
    obtain ⟨y30, e, hF31⟩ := bindS hF28; clear hF28
    have ey30 := e; clear e
    refine callF (impl_within_c g__0 0 100 y30 ey30) (Γi := []) H trivial ?_; clear H ey30
    rintro _ _ w32 ⟨rfl, rfl⟩ (H : Cx w0 fp0 S0 w32 [Bx b5 [(.int .i64 g__0), (g__1h).v, (g__2h).v, (g__3h).v], Es (List (Int × Int × List Int × List Int)) g__1 g__1h, Es (List Int) g__2 g__2h, Es (List Int) g__3 g__3h])
    obtain ⟨a33, e, hF34⟩ := bindS hF31; clear hF31
    refine boolO e ?_; clear e
    cases a33
    · have hF35 := condF hF34; clear hF34
      refine fld gok rfl rfl rfl rfl ?_
      refine load1 (H.bx 0 rfl (j := 1) rfl) ?_
      refine lenE (H.rs (α := List (Int × Int × List Int × List Int)) 1 rfl).len ?_
      obtain ⟨a36, e, hF37⟩ := bindS hF35; clear hF35
      refine boolO e ?_; clear e
      cases a36
      · have hF38 := condF hF37; clear hF37
        refine fld gok rfl rfl rfl rfl ?_
        refine load1 (H.bx 0 rfl (j := 2) rfl) ?_
        refine lenE (H.rs (α := List Int) 2 rfl).len ?_
        obtain ⟨a39, e, hF40⟩ := bindS hF38; clear hF38
        refine boolO e ?_; clear e
        cases a39
        · have hF41 := condF hF40; clear hF40
          refine fld gok rfl rfl rfl rfl ?_
          refine load1 (H.bx 0 rfl (j := 3) rfl) ?_
          refine lenE (H.rs (α := List Int) 3 rfl).len ?_
          obtain ⟨a42, e, hF43⟩ := bindS hF41; clear hF41
          refine boolO e ?_; clear e
          exact ⟨a42, ⟨rfl, rfl, trivial⟩, Option.some.inj hF43, H.sel [0, 1, 2, 3] rfl⟩
        · have hF44 := condT hF40; clear hF40
          exact ⟨true, ⟨rfl, rfl, trivial⟩, Option.some.inj hF44, H.sel [0, 1, 2, 3] rfl⟩
      · have hF45 := condT hF37; clear hF37
        exact ⟨true, ⟨rfl, rfl, trivial⟩, Option.some.inj hF45, H.sel [0, 1, 2, 3] rfl⟩
    · have hF46 := condT hF34; clear hF34
      exact ⟨true, ⟨rfl, rfl, trivial⟩, Option.some.inj hF46, H.sel [0, 1, 2, 3] rfl⟩
  · clear hF28 H
    rintro T48 s24 w47 ⟨hr, (H : Cx w0 fp0 S0 w47 [Bx b5 [(.int .i64 g__0), (g__1h).v, (g__2h).v, (g__3h).v], Es (List (Int × Int × List Int × List Int)) g__1 g__1h, Es (List Int) g__2 g__2h, Es (List Int) g__3 g__3h])⟩
    subst hr
    cases s24
    · have hF49 := condF hF27; clear hF27
      refine sq ?_
      refine fld gok rfl rfl rfl rfl ?_
      refine load1 (H.bx 0 rfl (j := 1) rfl) ?_
      refine lenE (H.rs (α := List (Int × Int × List Int × List Int)) 1 rfl).len ?_
      have hmx80 := (H.rs (α := List (Int × Int × List Int × List Int)) 1 rfl).max
      obtain ⟨r81, e, hF82⟩ := bindS hF49; clear hF49
      refine loopO _ g__1.length (fun (k50 : Nat) (_ : Unit) (_ : Unit) => [(1, (.pointer (some ⟨b5, 0, none⟩))), (31, (g__1h).v), (32, (.int .i64 ((g__1.length : Nat) : Int))), (33, (.int .i64 ((k50 : Nat) : Int)))]) (fun _ (_ : Unit) (_ : Unit) w' => Cx w0 fp0 S0 w' [Bx b5 [(.int .i64 g__0), (g__1h).v, (g__2h).v, (g__3h).v], Es (List (Int × Int × List Int × List Int)) g__1 g__1h, Es (List Int) g__2 g__2h, Es (List Int) g__3 g__3h]) () () e ⟨rfl, rfl, rfl, rfl, trivial⟩ (H.sel [0, 1, 2, 3] rfl) ?_ ?_
      · clear H e
        rintro T84 k50 _ _ w83 o85 hk (H : Cx w0 fp0 S0 w83 [Bx b5 [(.int .i64 g__0), (g__1h).v, (g__2h).v, (g__3h).v], Es (List (Int × Int × List Int × List Int)) g__1 g__1h, Es (List Int) g__2 g__2h, Es (List Int) g__3 g__3h]) hrt hF86
        refine boolE (z := true) (ltLen hk) ?_
        refine sq ?_
        refine sq ?_
        obtain ⟨a93, e, hF94⟩ := bindS hF86; clear hF86
        have HH := H; clear H; obtain ⟨p91, m92, g95, c87, c88, c89, c90, H⟩ := HH.el (α := Int × Int × List Int × List Int) 1 rfl e; clear HH
        clear e
        obtain ⟨a93_0, a93_1, a93_2, a93_3⟩ := a93
        obtain ⟨_, _, h97, h98⟩ := g95
        replace H := H.part (β := List Int) a93_2 (h97 : Hd) 0 rfl (fun S h => (And.left (And.right (And.right h))))
        replace H := H.part (β := List Int) a93_3 (h98 : Hd) 1 rfl (fun S h => (And.right (And.right (And.right h))))
        replace H := H.sel [0, 1, 3, 4, 5, 6] rfl
        refine idxE c87 c88 c89 ?_; clear c87 c88 c89
        refine loadN [(.int .i64 a93_0), (.int .i64 a93_1), (h97).v, (h98).v] rfl c90 ?_; clear c90
        refine alloc_ gok rfl H ?_; clear H; intro b102 w101 hx H
        clear hx
        replace H : Cx w0 fp0 S0 w101 [Bx b102 [(.int .i64 0), (.int .i64 0), (.slice none 0 0), (.slice none 0 0)], Es (List Int) a93_3 h98, Es (List Int) a93_2 h97, Bx b5 [(.int .i64 g__0), (g__1h).v, (g__2h).v, (g__3h).v], Es (List (Int × Int × List Int × List Int)) g__1 g__1h, Es (List Int) g__2 g__2h, Es (List Int) g__3 g__3h] := H
        refine stA gok [(.int .i64 a93_0), (.int .i64 a93_1), (h97).v, (h98).v] rfl H rfl rfl rfl ?_; clear H; intro w104 H
        replace H : Cx w0 fp0 S0 w104 [Bx b102 [(.int .i64 a93_0), (.int .i64 a93_1), (h97).v, (h98).v], Es (List Int) a93_3 h98, Es (List Int) a93_2 h97, Bx b5 [(.int .i64 g__0), (g__1h).v, (g__2h).v, (g__3h).v], Es (List (Int × Int × List Int × List Int)) g__1 g__1h, Es (List Int) g__2 g__2h, Es (List Int) g__3 g__3h] := H
        refine loadN [(.int .i64 a93_0), (.int .i64 a93_1), (h97).v, (h98).v] rfl (fun j u hj => H.bx 0 rfl hj) ?_
        obtain ⟨y105, e, hF106⟩ := bindS hF94; clear hF94
        have ey105 := e; clear e
        refine callF (impl_Edge_isEdge_c a93_0 a93_1 a93_2 h97 a93_3 h98 y105 ey105) (Γi := []) H ⟨Vw.sh 2 rfl, Vw.sh 1 rfl, trivial⟩ ?_; clear H ey105
        rintro _ _ w107 ⟨rfl, rfl⟩ (H : Cx w0 fp0 S0 w107 [Bx b102 [(.int .i64 a93_0), (.int .i64 a93_1), (h97).v, (h98).v], Es (List Int) a93_3 h98, Es (List Int) a93_2 h97, Bx b5 [(.int .i64 g__0), (g__1h).v, (g__2h).v, (g__3h).v], Es (List (Int × Int × List Int × List Int)) g__1 g__1h, Es (List Int) g__2 g__2h, Es (List Int) g__3 g__3h])
        obtain ⟨a108, e, hF109⟩ := bindS hF106; clear hF106
        refine boolO e ?_; clear e
        cases a108
        · have hF110 := condF hF109; clear hF109
          refine arK hk hmx80 ?_
          have hs := Option.some.inj hF110; subst hs; clear hF110
          exact ⟨(), (), rfl, ⟨rfl, rfl, rfl, rfl, trivial⟩, H.sel [3, 4, 5, 6] rfl⟩
        · have hF111 := condT hF109; clear hF109
          have hs := Option.some.inj hF111; subst hs; clear hF111
          have hr := hrt _ rfl; subst hr
          have hF112 : some _ = some _ := hF82
          cases hF112
          exact ⟨_, _, rfl, ⟨rfl, rfl⟩, (H.sel [] rfl).close trivial⟩
      · clear H e
        rintro T114 _ _ w113 hr (H : Cx w0 fp0 S0 w113 [Bx b5 [(.int .i64 g__0), (g__1h).v, (g__2h).v, (g__3h).v], Es (List (Int × Int × List Int × List Int)) g__1 g__1h, Es (List Int) g__2 g__2h, Es (List Int) g__3 g__3h])
        subst hr
        refine boolE (z := false) geLen ?_
        refine sq ?_
        refine fld gok rfl rfl rfl rfl ?_
        refine load1 (H.bx 0 rfl (j := 0) rfl) ?_
        obtain ⟨a117, e, hF118⟩ := bindS hF82; clear hF82
        refine make_ (α := Bool) gok rfl rfl rfl rfl (makeCO_of e) H ?_; clear e H; intro h120 w119 hx H
        clear hx
        refine alloc_ gok rfl H ?_; clear H; intro b123 w122 hx H
        clear hx
        replace H : Cx w0 fp0 S0 w122 [Bx b123 [(.slice none 0 0)], E (List Bool) a117 h120, Bx b5 [(.int .i64 g__0), (g__1h).v, (g__2h).v, (g__3h).v], Es (List (Int × Int × List Int × List Int)) g__1 g__1h, Es (List Int) g__2 g__2h, Es (List Int) g__3 g__3h] := H
        refine alloc_ gok rfl H ?_; clear H; intro b126 w125 hx H
        clear hx
        replace H : Cx w0 fp0 S0 w125 [Bx b126 [(.bool false)], Bx b123 [(.slice none 0 0)], E (List Bool) a117 h120, Bx b5 [(.int .i64 g__0), (g__1h).v, (g__2h).v, (g__3h).v], Es (List (Int × Int × List Int × List Int)) g__1 g__1h, Es (List Int) g__2 g__2h, Es (List Int) g__3 g__3h] := H
        refine alloc_ gok rfl H ?_; clear H; intro b129 w128 hx H
        clear hx
        replace H : Cx w0 fp0 S0 w128 [Bx b129 [(.int .i64 0)], Bx b126 [(.bool false)], Bx b123 [(.slice none 0 0)], E (List Bool) a117 h120, Bx b5 [(.int .i64 g__0), (g__1h).v, (g__2h).v, (g__3h).v], Es (List (Int × Int × List Int × List Int)) g__1 g__1h, Es (List Int) g__2 g__2h, Es (List Int) g__3 g__3h] := H
        replace H := H.sel [2, 0, 1, 3, 4, 5, 6, 7] rfl
        refine stB0 H rfl ?_; clear H; intro w131 H
        replace H : Cx w0 fp0 S0 w131 [Bx b123 [(h120).v], Bx b129 [(.int .i64 0)], Bx b126 [(.bool false)], E (List Bool) a117 h120, Bx b5 [(.int .i64 g__0), (g__1h).v, (g__2h).v, (g__3h).v], Es (List (Int × Int × List Int × List Int)) g__1 g__1h, Es (List Int) g__2 g__2h, Es (List Int) g__3 g__3h] := H
        replace H := H.sel [2, 0, 1, 3, 4, 5, 6, 7] rfl
        refine stB0 H rfl ?_; clear H; intro w132 H
        replace H : Cx w0 fp0 S0 w132 [Bx b126 [(.bool true)], Bx b123 [(h120).v], Bx b129 [(.int .i64 0)], E (List Bool) a117 h120, Bx b5 [(.int .i64 g__0), (g__1h).v, (g__2h).v, (g__3h).v], Es (List (Int × Int × List Int × List Int)) g__1 g__1h, Es (List Int) g__2 g__2h, Es (List Int) g__3 g__3h] := H
        replace H := H.sel [2, 0, 1, 3, 4, 5, 6, 7] rfl
        refine stB0 H rfl ?_; clear H; intro w133 H
        replace H : Cx w0 fp0 S0 w133 [Bx b129 [(.int .i64 0)], Bx b126 [(.bool true)], Bx b123 [(h120).v], E (List Bool) a117 h120, Bx b5 [(.int .i64 g__0), (g__1h).v, (g__2h).v, (g__3h).v], Es (List (Int × Int × List Int × List Int)) g__1 g__1h, Es (List Int) g__2 g__2h, Es (List Int) g__3 g__3h] := H
        refine loadN [(.int .i64 g__0), (g__1h).v, (g__2h).v, (g__3h).v] rfl (fun j u hj => H.bx 4 rfl hj) ?_
        obtain ⟨y134, e, hF135⟩ := bindS hF118; clear hF118
        obtain ⟨y134_0, y134_1, y134_2⟩ := y134
        have ey134 := e; clear e
        replace H := H.sel [4, 1, 2, 3, 0, 5, 6, 7] rfl
        refine callF (impl_Graph_lists_impl_Graph_isGraph_1_c g__0 g__1 g__1h g__2 g__2h g__3 g__3h b5 g__0 g__1 g__1h g__2 g__2h g__3 g__3h b126 true b123 a117 h120 b129 0 y134_0 y134_1 y134_2 ey134) (Γi := [Bx b5 [(.int .i64 g__0), (g__1h).v, (g__2h).v, (g__3h).v], Bx b126 [(.bool true)], Bx b123 [(h120).v], E (List Bool) a117 h120, Bx b129 [(.int .i64 0)]]) H ⟨Vw.sh 0 rfl, Vw.sh 1 rfl, Vw.sh 2 rfl, Vw.sh 0 rfl, Vw.sh 1 rfl, Vw.sh 2 rfl, trivial⟩ ?_; clear H ey134
        rintro _ _ w136 ⟨rfl, rfl⟩ (H : Cx w0 fp0 S0 w136 [Bx b5 [(.int .i64 g__0), (g__1h).v, (g__2h).v, (g__3h).v], Bx b126 [(.bool y134_0)], Bx b123 [(h120).v], E (List Bool) y134_1 h120, Bx b129 [(.int .i64 y134_2)], Es (List (Int × Int × List Int × List Int)) g__1 g__1h, Es (List Int) g__2 g__2h, Es (List Int) g__3 g__3h])
        obtain ⟨r143, hF145, hF144⟩ := bindS hF135; clear hF135
        refine cut (fun (q146 : Bool × Bool) => [(2, (.bool q146.2))]) (fun (q146 : Bool × Bool) w' => (q146.1, q146.2) = r143 ∧ Cx w0 fp0 S0 w' []) ?_ ?_
        · skip
          refine load1 (H.bx0 1 rfl) ?_
          cases y134_0
          · have hF147 := condF hF145; clear hF145
            exact ⟨(false, false), ⟨rfl, trivial⟩, Option.some.inj hF147, H.sel [] rfl⟩
          · have hF148 := condT hF145; clear hF145
            refine load1 (H.bx0 4 rfl) ?_
            refine fld gok rfl rfl rfl rfl ?_
            refine load1 (H.bx 0 rfl (j := 0) rfl) ?_
            obtain ⟨a149, e, hF150⟩ := bindS hF148; clear hF148
            refine boolO e ?_; clear e
            exact ⟨(true, a149), ⟨rfl, trivial⟩, Option.some.inj hF150, H.sel [] rfl⟩
        · clear hF145 H
          rintro T152 ⟨s141_0, s141_1⟩ w151 ⟨hr, (H : Cx w0 fp0 S0 w151 [])⟩
          subst hr
          cases hF144
          exact ⟨_, _, rfl, ⟨rfl, rfl⟩, (H.sel [] rfl).close trivial⟩
    · have hF153 := condT hF27; clear hF27
      cases hF153
      exact ⟨_, _, rfl, ⟨rfl, rfl⟩, (H.sel [] rfl).close trivial⟩

theorem impl_graphOf_c (t__0 : List (Int × Int × ByteArray)) (t__0h : Hd) (y0_0 : Int) (y0_1 : List (Int × Int × List Int × List Int)) (y0_2 : List Int) (y0_3 : List Int) (y1 : Bool) (hF : F_impl_graphOf t__0 = some ((y0_0, y0_1, y0_2, y0_3), y1)) :
    ConF Try.prog 30 #[(.agg #[(t__0h).v])] [Es (List (Int × Int × ByteArray)) t__0 t__0h] [] (fun v Γ' => ∃ z0 z1 z2 : Hd, v = (.tuple #[(.agg #[(.int .i64 y0_0), (z0).v, (z1).v, (z2).v]), (.bool y1)]) ∧ Γ' = [E (List (Int × Int × List Int × List Int)) y0_1 z0, E (List Int) y0_2 z1, E (List Int) y0_3 z2]) := by
  intro w0 S0 fp0 hI hS
  have H : Cx w0 fp0 S0 w0 [Es (List (Int × Int × ByteArray)) t__0 t__0h] := Cx.start hI hS
  clear hI hS
  refine enterC (args := [_]) gok Try.func30 rfl _ rfl rfl rfl ?_
  refine box_ H ?_; clear H; intro b3 w2 hx H
  clear hx
  replace H : Cx w0 fp0 S0 w2 [Bx b3 [(t__0h).v], Es (List (Int × Int × ByteArray)) t__0 t__0h] := H
  refine alloc_ gok rfl H ?_; clear H; intro b6 w5 hx H
  clear hx
  replace H : Cx w0 fp0 S0 w5 [Bx b6 [(.int .i64 0), (.slice none 0 0), (.slice none 0 0), (.slice none 0 0)], Bx b3 [(t__0h).v], Es (List (Int × Int × ByteArray)) t__0 t__0h] := H
  refine lit0 (α := Int × (List (Int × Int × List Int × List Int)) × List Int × List Int) gok rfl rfl H ?_; clear H; intro h9 w8 hx H
  clear hx
  refine sq ?_
  refine fld gok rfl rfl rfl rfl ?_
  refine load1 (H.bx 2 rfl (j := 0) rfl) ?_
  refine lenE (H.rs (α := List (Int × Int × ByteArray)) 3 rfl).len ?_
  have hmx386 := (H.rs (α := List (Int × Int × ByteArray)) 3 rfl).max
  obtain ⟨r387, e, hF388⟩ := bindS hF; clear hF
  refine loopO _ t__0.length (fun (k11 : Nat) (s383 : List (Int × (List (Int × Int × List Int × List Int)) × List Int × List Int)) (g384 : Hd) => [(2, (.pointer (some ⟨b6, 0, none⟩))), (4, (g384).v), (11, (t__0h).v), (12, (.int .i64 ((t__0.length : Nat) : Int))), (13, (.int .i64 ((k11 : Nat) : Int)))]) (fun _ (s383 : List (Int × (List (Int × Int × List Int × List Int)) × List Int × List Int)) (g384 : Hd) w' => Cx w0 fp0 S0 w' [Bx b6 [(.int .i64 0), (.slice none 0 0), (.slice none 0 0), (.slice none 0 0)], E (List (Int × (List (Int × Int × List Int × List Int)) × List Int × List Int)) s383 g384, Es (List (Int × Int × ByteArray)) t__0 t__0h]) ([] : List (Int × (List (Int × Int × List Int × List Int)) × List Int × List Int)) h9 e ⟨rfl, rfl, rfl, rfl, rfl, trivial⟩ (H.sel [1, 0, 3] rfl) ?_ ?_
  · clear H e
    rintro T390 k11 s383 g384 w389 o391 hk (H : Cx w0 fp0 S0 w389 [Bx b6 [(.int .i64 0), (.slice none 0 0), (.slice none 0 0), (.slice none 0 0)], E (List (Int × (List (Int × Int × List Int × List Int)) × List Int × List Int)) s383 g384, Es (List (Int × Int × ByteArray)) t__0 t__0h]) hrt hF392
    refine boolE (z := true) (ltLen hk) ?_
    refine sq ?_
    refine sq ?_
    obtain ⟨a399, e, hF400⟩ := bindS hF392; clear hF392
    have HH := H; clear H; obtain ⟨p397, m398, g401, c393, c394, c395, c396, H⟩ := HH.el (α := Int × Int × ByteArray) 2 rfl e; clear HH
    clear e
    obtain ⟨a399_0, a399_1, a399_2⟩ := a399
    obtain ⟨_, _, _⟩ := g401
    replace H := H.sel [1, 2, 3] rfl
    refine idxE c393 c394 c395 ?_; clear c393 c394 c395
    refine loadN [(.int .i64 a399_0), (.int .i64 a399_1), (.string a399_2)] rfl c396 ?_; clear c396
    refine alloc_ gok rfl H ?_; clear H; intro b404 w403 hx H
    clear hx
    replace H : Cx w0 fp0 S0 w403 [Bx b404 [(.int .i64 0), (.int .i64 0), (.string .empty)], Bx b6 [(.int .i64 0), (.slice none 0 0), (.slice none 0 0), (.slice none 0 0)], E (List (Int × (List (Int × Int × List Int × List Int)) × List Int × List Int)) s383 g384, Es (List (Int × Int × ByteArray)) t__0 t__0h] := H
    refine stA gok [(.int .i64 a399_0), (.int .i64 a399_1), (.string a399_2)] rfl H rfl rfl rfl ?_; clear H; intro w406 H
    replace H : Cx w0 fp0 S0 w406 [Bx b404 [(.int .i64 a399_0), (.int .i64 a399_1), (.string a399_2)], Bx b6 [(.int .i64 0), (.slice none 0 0), (.slice none 0 0), (.slice none 0 0)], E (List (Int × (List (Int × Int × List Int × List Int)) × List Int × List Int)) s383 g384, Es (List (Int × Int × ByteArray)) t__0 t__0h] := H
    refine lenE (H.ro (α := List (Int × (List (Int × Int × List Int × List Int)) × List Int × List Int)) 2 rfl).len ?_
    obtain ⟨a407, e, hF408⟩ := bindS hF400; clear hF400
    refine arO e ?_; clear e
    refine alloc_ gok rfl H ?_; clear H; intro b410 w409 hx H
    clear hx
    replace H : Cx w0 fp0 S0 w409 [Bx b410 [(.int .i64 0), (.slice none 0 0), (.slice none 0 0), (.slice none 0 0)], Bx b404 [(.int .i64 a399_0), (.int .i64 a399_1), (.string a399_2)], Bx b6 [(.int .i64 0), (.slice none 0 0), (.slice none 0 0), (.slice none 0 0)], E (List (Int × (List (Int × Int × List Int × List Int)) × List Int × List Int)) s383 g384, Es (List (Int × Int × ByteArray)) t__0 t__0h] := H
    refine sq ?_
    refine fld gok rfl rfl rfl rfl ?_
    refine load1 (H.bx 1 rfl (j := 0) rfl) ?_
    obtain ⟨a412, e, hF413⟩ := bindS hF408; clear hF408
    refine boolO e ?_; clear e
    cases a412
    · have hF414 := condF hF413; clear hF413
      obtain ⟨a415, e, hF416⟩ := bindS hF414; clear hF414
      refine boolO e ?_; clear e
      cases a415
      · have hF417 := condF hF416; clear hF416
        refine loadN [(.int .i64 a399_0), (.int .i64 a399_1), (.string a399_2)] rfl (fun j u hj => H.bx 1 rfl hj) ?_
        obtain ⟨y418, e, hF419⟩ := bindS hF417; clear hF417
        obtain ⟨y418_0, y418_1, y418_2, y418_3⟩ := y418
        have ey418 := e; clear e
        refine callF (impl_leafGraph_c a399_0 a399_1 a399_2 y418_0 y418_1 y418_2 y418_3 ey418) (Γi := []) H trivial ?_; clear H ey418
        rintro _ _ w420 ⟨h421, h423, h425, rfl, rfl⟩ (H : Cx w0 fp0 S0 w420 [E (List (Int × Int × List Int × List Int)) y418_1 h421, E (List Int) y418_2 h423, E (List Int) y418_3 h425, Bx b410 [(.int .i64 0), (.slice none 0 0), (.slice none 0 0), (.slice none 0 0)], Bx b404 [(.int .i64 a399_0), (.int .i64 a399_1), (.string a399_2)], Bx b6 [(.int .i64 0), (.slice none 0 0), (.slice none 0 0), (.slice none 0 0)], E (List (Int × (List (Int × Int × List Int × List Int)) × List Int × List Int)) s383 g384, Es (List (Int × Int × ByteArray)) t__0 t__0h])
        replace H := H.sel [3, 0, 1, 2, 4, 5, 6, 7] rfl
        refine stA gok [(.int .i64 y418_0), (h421).v, (h423).v, (h425).v] rfl H rfl rfl rfl ?_; clear H; intro w427 H
        replace H : Cx w0 fp0 S0 w427 [Bx b410 [(.int .i64 y418_0), (h421).v, (h423).v, (h425).v], E (List (Int × Int × List Int × List Int)) y418_1 h421, E (List Int) y418_2 h423, E (List Int) y418_3 h425, Bx b404 [(.int .i64 a399_0), (.int .i64 a399_1), (.string a399_2)], Bx b6 [(.int .i64 0), (.slice none 0 0), (.slice none 0 0), (.slice none 0 0)], E (List (Int × (List (Int × Int × List Int × List Int)) × List Int × List Int)) s383 g384, Es (List (Int × Int × ByteArray)) t__0 t__0h] := H
        refine sq ?_
        refine loadN [(.int .i64 y418_0), (h421).v, (h423).v, (h425).v] rfl (fun j u hj => H.bx 0 rfl hj) ?_
        obtain ⟨y428, e, hF429⟩ := bindS hF419; clear hF419
        have ey428 := e; clear e
        refine callF (impl_Graph_isGraph_c y418_0 y418_1 h421 y418_2 h423 y418_3 h425 y428 ey428) (Γi := []) H ⟨Vw.own 1 rfl, Vw.own 2 rfl, Vw.own 3 rfl, trivial⟩ ?_; clear H ey428
        rintro _ _ w430 ⟨rfl, rfl⟩ (H : Cx w0 fp0 S0 w430 [Bx b410 [(.int .i64 y418_0), (h421).v, (h423).v, (h425).v], E (List (Int × Int × List Int × List Int)) y418_1 h421, E (List Int) y418_2 h423, E (List Int) y418_3 h425, Bx b404 [(.int .i64 a399_0), (.int .i64 a399_1), (.string a399_2)], Bx b6 [(.int .i64 0), (.slice none 0 0), (.slice none 0 0), (.slice none 0 0)], E (List (Int × (List (Int × Int × List Int × List Int)) × List Int × List Int)) s383 g384, Es (List (Int × Int × ByteArray)) t__0 t__0h])
        obtain ⟨a431, e, hF432⟩ := bindS hF429; clear hF429
        refine boolO e ?_; clear e
        cases a431
        · have hF433 := condF hF432; clear hF432
          refine loadN [(.int .i64 y418_0), (h421).v, (h423).v, (h425).v] rfl (fun j u hj => H.bx 0 rfl hj) ?_
          replace H := H.sel [1, 2, 3, 0, 4, 5, 6, 7] rfl
          replace H := H.sel [1, 2, 0, 3, 4, 5, 6, 7] rfl
          replace H := H.join (α := List Int) (β := List Int)
          replace H := H.sel [1, 0, 2, 3, 4, 5, 6] rfl
          replace H := H.join (α := List (Int × Int × List Int × List Int)) (β := List Int × List Int)
          replace H := H.sc (α := Int) y418_0
          replace H := H.join (α := Int) (β := (List (Int × Int × List Int × List Int)) × List Int × List Int)
          refine lit1 (α := Int × (List (Int × Int × List Int × List Int)) × List Int × List Int) (g := ((), h421, h423, h425)) gok rfl rfl rfl rfl rfl H ?_; clear H; intro h435 w434 hx H
          clear hx
          obtain ⟨a441, e, hF442⟩ := bindS hF433; clear hF433
          replace H := H.sel [4, 0, 1, 2, 3, 5] rfl
          refine append_ (α := Int × (List (Int × Int × List Int × List Int)) × List Int × List Int) gok rfl rfl rfl rfl H e ?_; clear e H; intro h444 w443 H
          refine arK hk hmx386 ?_
          have hs := Option.some.inj hF442; subst hs; clear hF442
          exact ⟨a441, h444, rfl, ⟨rfl, rfl, rfl, rfl, rfl, trivial⟩, H.sel [3, 0, 4] rfl⟩
        · have hF446 := condT hF432; clear hF432
          refine build_ (cs := #[(.int .i64 0), (.slice none 0 0), (.slice none 0 0), (.slice none 0 0)]) gok rfl rfl rfl ?_
          replace H := H.sel [5, 0, 1, 2, 3, 4, 6, 7] rfl
          refine stA gok [(.int .i64 0), (.slice none 0 0), (.slice none 0 0), (.slice none 0 0)] rfl H rfl rfl rfl ?_; clear H; intro w447 H
          replace H : Cx w0 fp0 S0 w447 [Bx b6 [(.int .i64 0), (.slice none 0 0), (.slice none 0 0), (.slice none 0 0)], Bx b410 [(.int .i64 y418_0), (h421).v, (h423).v, (h425).v], E (List (Int × Int × List Int × List Int)) y418_1 h421, E (List Int) y418_2 h423, E (List Int) y418_3 h425, Bx b404 [(.int .i64 a399_0), (.int .i64 a399_1), (.string a399_2)], E (List (Int × (List (Int × Int × List Int × List Int)) × List Int × List Int)) s383 g384, Es (List (Int × Int × ByteArray)) t__0 t__0h] := H
          have hs := Option.some.inj hF446; subst hs; clear hF446
          have hr := hrt _ rfl; subst hr
          have hF448 : some _ = some _ := hF388
          refine loadN [(.int .i64 0), (.slice none 0 0), (.slice none 0 0), (.slice none 0 0)] rfl (fun j u hj => H.bx 0 rfl hj) ?_
          replace H := H.nil (α := Int × Int × List Int × List Int)
          replace H := H.nil (α := Int)
          replace H := H.nil (α := Int)
          cases hF448
          exact ⟨_, _, rfl, ⟨nilH, nilH, nilH, rfl, rfl⟩, (H.sel [2, 1, 0] rfl).close ⟨cloE, cloE, cloE, trivial⟩⟩
      · have hF452 := condT hF416; clear hF416
        refine heldX H [10] (.fst 0 (.fst 1 (.fst 2 (.fst 3 (.fst 5 (.fst 6 (.fst 7 (.fst 4 (.fst 8 (.act 9 (.act 10 .done))))))))))) mixed [] trivial (by kernel_rfl) ?_
        clear H; intro w453 H
        have hX : Ext w453 w453 := Upd.refl _ _
        have H0 := H
        obtain ⟨a454, e, hF455⟩ := bindS hF452; clear hF452
        refine arO e ?_; clear e
        obtain ⟨a462, e, hF463⟩ := bindS hF455; clear hF455
        replace H := H.sel [3, 0, 1, 2, 4] rfl
        replace H := H.toEH (α := Int × (List (Int × Int × List Int × List Int)) × List Int × List Int)
        have HH := H; clear H; obtain ⟨p460, m461, g464, c456, c457, c458, c459, H⟩ := HH.peek e; clear HH
        clear e
        obtain ⟨a462_0, a462_1, a462_2, a462_3⟩ := a462
        obtain ⟨_, h465, h466, h467⟩ := g464
        refine idxE c456 c457 c458 ?_
        obtain ⟨a474, e, hF475⟩ := bindS hF463; clear hF463
        have HH := H; clear H; obtain ⟨p472, m473, g476, c468, c469, c470, c471, H⟩ := HH.peek e; clear HH
        clear e
        obtain ⟨a474_0, a474_1, a474_2, a474_3⟩ := a474
        obtain ⟨_, h477, h478, h479⟩ := g476
        refine idxE c468 c469 c470 ?_
        refine loadNX [(.int .i64 a462_0), (h465).v, (h466).v, (h467).v] rfl c459 ?_; clear c459
        refine loadNX [(.int .i64 a474_0), (h477).v, (h478).v, (h479).v] rfl c471 ?_; clear c471
        obtain ⟨y480, e, hF481⟩ := bindS hF475; clear hF475
        obtain ⟨y480_0, y480_1, y480_2, y480_3⟩ := y480
        have ey480 := e; clear e
        refine callFx (impl_parGraphs_c a462_0 a462_1 h465 a462_2 h466 a462_3 h467 a474_0 a474_1 h477 a474_2 h478 a474_3 h479 y480_0 y480_1 y480_2 y480_3 ey480) H ⟨Vw.part (β := List (Int × Int × List Int × List Int)) (Vw.eh (α := Int × (List (Int × Int × List Int × List Int)) × List Int × List Int) (k := ⟨m461, (a462_0, a462_1, a462_2, a462_3), ((), h465, h466, h467)⟩) 0 rfl 1 rfl) a462_1 (h465 : Hd) (fun S h => (And.left (And.right h))), Vw.part (β := List Int) (Vw.eh (α := Int × (List (Int × Int × List Int × List Int)) × List Int × List Int) (k := ⟨m461, (a462_0, a462_1, a462_2, a462_3), ((), h465, h466, h467)⟩) 0 rfl 1 rfl) a462_2 (h466 : Hd) (fun S h => (And.left (And.right (And.right h)))), Vw.part (β := List Int) (Vw.eh (α := Int × (List (Int × Int × List Int × List Int)) × List Int × List Int) (k := ⟨m461, (a462_0, a462_1, a462_2, a462_3), ((), h465, h466, h467)⟩) 0 rfl 1 rfl) a462_3 (h467 : Hd) (fun S h => (And.right (And.right (And.right h)))), Vw.part (β := List (Int × Int × List Int × List Int)) (Vw.eh (α := Int × (List (Int × Int × List Int × List Int)) × List Int × List Int) (k := ⟨m473, (a474_0, a474_1, a474_2, a474_3), ((), h477, h478, h479)⟩) 0 rfl 0 rfl) a474_1 (h477 : Hd) (fun S h => (And.left (And.right h))), Vw.part (β := List Int) (Vw.eh (α := Int × (List (Int × Int × List Int × List Int)) × List Int × List Int) (k := ⟨m473, (a474_0, a474_1, a474_2, a474_3), ((), h477, h478, h479)⟩) 0 rfl 0 rfl) a474_2 (h478 : Hd) (fun S h => (And.left (And.right (And.right h)))), Vw.part (β := List Int) (Vw.eh (α := Int × (List (Int × Int × List Int × List Int)) × List Int × List Int) (k := ⟨m473, (a474_0, a474_1, a474_2, a474_3), ((), h477, h478, h479)⟩) 0 rfl 0 rfl) a474_3 (h479 : Hd) (fun S h => (And.right (And.right (And.right h)))), trivial⟩ ?_; clear H ey480
        rintro _ _ w482 ⟨h483, h485, h487, rfl, rfl⟩ hx (H : Cx w0 fp0 S0 w482 [E (List (Int × Int × List Int × List Int)) y480_1 h483, E (List Int) y480_2 h485, E (List Int) y480_3 h487, EH (Int × (List (Int × Int × List Int × List Int)) × List Int × List Int) s383 g384 [⟨m473, (a474_0, a474_1, a474_2, a474_3), ((), h477, h478, h479)⟩, ⟨m461, (a462_0, a462_1, a462_2, a462_3), ((), h465, h466, h467)⟩], Bx b410 [(.int .i64 0), (.slice none 0 0), (.slice none 0 0), (.slice none 0 0)], Bx b404 [(.int .i64 a399_0), (.int .i64 a399_1), (.string a399_2)], Bx b6 [(.int .i64 0), (.slice none 0 0), (.slice none 0 0), (.slice none 0 0)], Es (List (Int × Int × ByteArray)) t__0 t__0h])
        replace hX := hX.trans0 hx; clear hx
        refine hold hX ?_
        replace H := H.sel [4, 0, 1, 2, 3, 5, 6, 7] rfl
        refine stA gok [(.int .i64 y480_0), (h483).v, (h485).v, (h487).v] rfl H rfl rfl rfl ?_; clear H; intro w489 H
        replace H : Cx w0 fp0 S0 w489 [Bx b410 [(.int .i64 y480_0), (h483).v, (h485).v, (h487).v], E (List (Int × Int × List Int × List Int)) y480_1 h483, E (List Int) y480_2 h485, E (List Int) y480_3 h487, EH (Int × (List (Int × Int × List Int × List Int)) × List Int × List Int) s383 g384 [⟨m473, (a474_0, a474_1, a474_2, a474_3), ((), h477, h478, h479)⟩, ⟨m461, (a462_0, a462_1, a462_2, a462_3), ((), h465, h466, h467)⟩], Bx b404 [(.int .i64 a399_0), (.int .i64 a399_1), (.string a399_2)], Bx b6 [(.int .i64 0), (.slice none 0 0), (.slice none 0 0), (.slice none 0 0)], Es (List (Int × Int × ByteArray)) t__0 t__0h] := H
        refine hold trivial ?_
        replace H := H.sel [4, 0, 1, 2, 3, 5, 6, 7] rfl
        replace H := H.ofEH
        obtain ⟨a490, e, hF491⟩ := bindS hF481; clear hF481
        refine arO e ?_; clear e
        obtain ⟨a492, e, hF493⟩ := bindS hF491; clear hF491
        refine slO (α := Int × (List (Int × Int × List Int × List Int)) × List Int × List Int) gok rfl rfl H e rfl rfl ?_; clear e H; intro h494 H
        refine sq ?_
        refine loadN [(.int .i64 y480_0), (h483).v, (h485).v, (h487).v] rfl (fun j u hj => H.bx 1 rfl hj) ?_
        obtain ⟨y496, e, hF497⟩ := bindS hF493; clear hF493
        have ey496 := e; clear e
        refine callF (impl_Graph_isGraph_c y480_0 y480_1 h483 y480_2 h485 y480_3 h487 y496 ey496) (Γi := []) H ⟨Vw.own 2 rfl, Vw.own 3 rfl, Vw.own 4 rfl, trivial⟩ ?_; clear H ey496
        rintro _ _ w498 ⟨rfl, rfl⟩ (H : Cx w0 fp0 S0 w498 [E (List (Int × (List (Int × Int × List Int × List Int)) × List Int × List Int)) a492 h494, Bx b410 [(.int .i64 y480_0), (h483).v, (h485).v, (h487).v], E (List (Int × Int × List Int × List Int)) y480_1 h483, E (List Int) y480_2 h485, E (List Int) y480_3 h487, Bx b404 [(.int .i64 a399_0), (.int .i64 a399_1), (.string a399_2)], Bx b6 [(.int .i64 0), (.slice none 0 0), (.slice none 0 0), (.slice none 0 0)], Es (List (Int × Int × ByteArray)) t__0 t__0h])
        obtain ⟨a499, e, hF500⟩ := bindS hF497; clear hF497
        refine boolO e ?_; clear e
        cases a499
        · have hF501 := condF hF500; clear hF500
          refine loadN [(.int .i64 y480_0), (h483).v, (h485).v, (h487).v] rfl (fun j u hj => H.bx 1 rfl hj) ?_
          replace H := H.sel [2, 3, 4, 0, 1, 5, 6, 7] rfl
          replace H := H.sel [1, 2, 0, 3, 4, 5, 6, 7] rfl
          replace H := H.join (α := List Int) (β := List Int)
          replace H := H.sel [1, 0, 2, 3, 4, 5, 6] rfl
          replace H := H.join (α := List (Int × Int × List Int × List Int)) (β := List Int × List Int)
          replace H := H.sc (α := Int) y480_0
          replace H := H.join (α := Int) (β := (List (Int × Int × List Int × List Int)) × List Int × List Int)
          refine lit1 (α := Int × (List (Int × Int × List Int × List Int)) × List Int × List Int) (g := ((), h483, h485, h487)) gok rfl rfl rfl rfl rfl H ?_; clear H; intro h503 w502 hx H
          clear hx
          obtain ⟨a509, e, hF510⟩ := bindS hF501; clear hF501
          replace H := H.sel [1, 0, 2, 3, 4, 5] rfl
          refine append_ (α := Int × (List (Int × Int × List Int × List Int)) × List Int × List Int) gok rfl rfl rfl rfl H e ?_; clear e H; intro h512 w511 H
          refine arK hk hmx386 ?_
          have hs := Option.some.inj hF510; subst hs; clear hF510
          exact ⟨a509, h512, rfl, ⟨rfl, rfl, rfl, rfl, rfl, trivial⟩, H.sel [3, 0, 4] rfl⟩
        · have hF514 := condT hF500; clear hF500
          refine build_ (cs := #[(.int .i64 0), (.slice none 0 0), (.slice none 0 0), (.slice none 0 0)]) gok rfl rfl rfl ?_
          replace H := H.sel [6, 0, 1, 2, 3, 4, 5, 7] rfl
          refine stA gok [(.int .i64 0), (.slice none 0 0), (.slice none 0 0), (.slice none 0 0)] rfl H rfl rfl rfl ?_; clear H; intro w515 H
          replace H : Cx w0 fp0 S0 w515 [Bx b6 [(.int .i64 0), (.slice none 0 0), (.slice none 0 0), (.slice none 0 0)], E (List (Int × (List (Int × Int × List Int × List Int)) × List Int × List Int)) a492 h494, Bx b410 [(.int .i64 y480_0), (h483).v, (h485).v, (h487).v], E (List (Int × Int × List Int × List Int)) y480_1 h483, E (List Int) y480_2 h485, E (List Int) y480_3 h487, Bx b404 [(.int .i64 a399_0), (.int .i64 a399_1), (.string a399_2)], Es (List (Int × Int × ByteArray)) t__0 t__0h] := H
          have hs := Option.some.inj hF514; subst hs; clear hF514
          have hr := hrt _ rfl; subst hr
          have hF516 : some _ = some _ := hF388
          refine loadN [(.int .i64 0), (.slice none 0 0), (.slice none 0 0), (.slice none 0 0)] rfl (fun j u hj => H.bx 0 rfl hj) ?_
          replace H := H.nil (α := Int × Int × List Int × List Int)
          replace H := H.nil (α := Int)
          replace H := H.nil (α := Int)
          cases hF516
          exact ⟨_, _, rfl, ⟨nilH, nilH, nilH, rfl, rfl⟩, (H.sel [2, 1, 0] rfl).close ⟨cloE, cloE, cloE, trivial⟩⟩
    · have hF520 := condT hF413; clear hF413
      refine heldX H [10] (.fst 0 (.fst 1 (.fst 2 (.fst 3 (.fst 5 (.fst 6 (.fst 7 (.fst 4 (.fst 8 (.act 9 (.act 10 .done))))))))))) mixed [] trivial (by kernel_rfl) ?_
      clear H; intro w521 H
      have hX : Ext w521 w521 := Upd.refl _ _
      have H0 := H
      obtain ⟨a522, e, hF523⟩ := bindS hF520; clear hF520
      refine arO e ?_; clear e
      obtain ⟨a530, e, hF531⟩ := bindS hF523; clear hF523
      replace H := H.sel [3, 0, 1, 2, 4] rfl
      replace H := H.toEH (α := Int × (List (Int × Int × List Int × List Int)) × List Int × List Int)
      have HH := H; clear H; obtain ⟨p528, m529, g532, c524, c525, c526, c527, H⟩ := HH.peek e; clear HH
      clear e
      obtain ⟨a530_0, a530_1, a530_2, a530_3⟩ := a530
      obtain ⟨_, h533, h534, h535⟩ := g532
      refine idxE c524 c525 c526 ?_
      obtain ⟨a542, e, hF543⟩ := bindS hF531; clear hF531
      have HH := H; clear H; obtain ⟨p540, m541, g544, c536, c537, c538, c539, H⟩ := HH.peek e; clear HH
      clear e
      obtain ⟨a542_0, a542_1, a542_2, a542_3⟩ := a542
      obtain ⟨_, h545, h546, h547⟩ := g544
      refine idxE c536 c537 c538 ?_
      refine loadNX [(.int .i64 a530_0), (h533).v, (h534).v, (h535).v] rfl c527 ?_; clear c527
      refine loadNX [(.int .i64 a542_0), (h545).v, (h546).v, (h547).v] rfl c539 ?_; clear c539
      obtain ⟨y548, e, hF549⟩ := bindS hF543; clear hF543
      obtain ⟨y548_0, y548_1, y548_2, y548_3⟩ := y548
      have ey548 := e; clear e
      refine callFx (impl_seqGraphs_c a530_0 a530_1 h533 a530_2 h534 a530_3 h535 a542_0 a542_1 h545 a542_2 h546 a542_3 h547 y548_0 y548_1 y548_2 y548_3 ey548) H ⟨Vw.part (β := List (Int × Int × List Int × List Int)) (Vw.eh (α := Int × (List (Int × Int × List Int × List Int)) × List Int × List Int) (k := ⟨m529, (a530_0, a530_1, a530_2, a530_3), ((), h533, h534, h535)⟩) 0 rfl 1 rfl) a530_1 (h533 : Hd) (fun S h => (And.left (And.right h))), Vw.part (β := List Int) (Vw.eh (α := Int × (List (Int × Int × List Int × List Int)) × List Int × List Int) (k := ⟨m529, (a530_0, a530_1, a530_2, a530_3), ((), h533, h534, h535)⟩) 0 rfl 1 rfl) a530_2 (h534 : Hd) (fun S h => (And.left (And.right (And.right h)))), Vw.part (β := List Int) (Vw.eh (α := Int × (List (Int × Int × List Int × List Int)) × List Int × List Int) (k := ⟨m529, (a530_0, a530_1, a530_2, a530_3), ((), h533, h534, h535)⟩) 0 rfl 1 rfl) a530_3 (h535 : Hd) (fun S h => (And.right (And.right (And.right h)))), Vw.part (β := List (Int × Int × List Int × List Int)) (Vw.eh (α := Int × (List (Int × Int × List Int × List Int)) × List Int × List Int) (k := ⟨m541, (a542_0, a542_1, a542_2, a542_3), ((), h545, h546, h547)⟩) 0 rfl 0 rfl) a542_1 (h545 : Hd) (fun S h => (And.left (And.right h))), Vw.part (β := List Int) (Vw.eh (α := Int × (List (Int × Int × List Int × List Int)) × List Int × List Int) (k := ⟨m541, (a542_0, a542_1, a542_2, a542_3), ((), h545, h546, h547)⟩) 0 rfl 0 rfl) a542_2 (h546 : Hd) (fun S h => (And.left (And.right (And.right h)))), Vw.part (β := List Int) (Vw.eh (α := Int × (List (Int × Int × List Int × List Int)) × List Int × List Int) (k := ⟨m541, (a542_0, a542_1, a542_2, a542_3), ((), h545, h546, h547)⟩) 0 rfl 0 rfl) a542_3 (h547 : Hd) (fun S h => (And.right (And.right (And.right h)))), trivial⟩ ?_; clear H ey548
      rintro _ _ w550 ⟨h551, h553, h555, rfl, rfl⟩ hx (H : Cx w0 fp0 S0 w550 [E (List (Int × Int × List Int × List Int)) y548_1 h551, E (List Int) y548_2 h553, E (List Int) y548_3 h555, EH (Int × (List (Int × Int × List Int × List Int)) × List Int × List Int) s383 g384 [⟨m541, (a542_0, a542_1, a542_2, a542_3), ((), h545, h546, h547)⟩, ⟨m529, (a530_0, a530_1, a530_2, a530_3), ((), h533, h534, h535)⟩], Bx b410 [(.int .i64 0), (.slice none 0 0), (.slice none 0 0), (.slice none 0 0)], Bx b404 [(.int .i64 a399_0), (.int .i64 a399_1), (.string a399_2)], Bx b6 [(.int .i64 0), (.slice none 0 0), (.slice none 0 0), (.slice none 0 0)], Es (List (Int × Int × ByteArray)) t__0 t__0h])
      replace hX := hX.trans0 hx; clear hx
      refine hold hX ?_
      replace H := H.sel [4, 0, 1, 2, 3, 5, 6, 7] rfl
      refine stA gok [(.int .i64 y548_0), (h551).v, (h553).v, (h555).v] rfl H rfl rfl rfl ?_; clear H; intro w557 H
      replace H : Cx w0 fp0 S0 w557 [Bx b410 [(.int .i64 y548_0), (h551).v, (h553).v, (h555).v], E (List (Int × Int × List Int × List Int)) y548_1 h551, E (List Int) y548_2 h553, E (List Int) y548_3 h555, EH (Int × (List (Int × Int × List Int × List Int)) × List Int × List Int) s383 g384 [⟨m541, (a542_0, a542_1, a542_2, a542_3), ((), h545, h546, h547)⟩, ⟨m529, (a530_0, a530_1, a530_2, a530_3), ((), h533, h534, h535)⟩], Bx b404 [(.int .i64 a399_0), (.int .i64 a399_1), (.string a399_2)], Bx b6 [(.int .i64 0), (.slice none 0 0), (.slice none 0 0), (.slice none 0 0)], Es (List (Int × Int × ByteArray)) t__0 t__0h] := H
      refine hold trivial ?_
      replace H := H.sel [4, 0, 1, 2, 3, 5, 6, 7] rfl
      replace H := H.ofEH
      obtain ⟨a558, e, hF559⟩ := bindS hF549; clear hF549
      refine arO e ?_; clear e
      obtain ⟨a560, e, hF561⟩ := bindS hF559; clear hF559
      refine slO (α := Int × (List (Int × Int × List Int × List Int)) × List Int × List Int) gok rfl rfl H e rfl rfl ?_; clear e H; intro h562 H
      refine sq ?_
      refine loadN [(.int .i64 y548_0), (h551).v, (h553).v, (h555).v] rfl (fun j u hj => H.bx 1 rfl hj) ?_
      obtain ⟨y564, e, hF565⟩ := bindS hF561; clear hF561
      have ey564 := e; clear e
      refine callF (impl_Graph_isGraph_c y548_0 y548_1 h551 y548_2 h553 y548_3 h555 y564 ey564) (Γi := []) H ⟨Vw.own 2 rfl, Vw.own 3 rfl, Vw.own 4 rfl, trivial⟩ ?_; clear H ey564
      rintro _ _ w566 ⟨rfl, rfl⟩ (H : Cx w0 fp0 S0 w566 [E (List (Int × (List (Int × Int × List Int × List Int)) × List Int × List Int)) a560 h562, Bx b410 [(.int .i64 y548_0), (h551).v, (h553).v, (h555).v], E (List (Int × Int × List Int × List Int)) y548_1 h551, E (List Int) y548_2 h553, E (List Int) y548_3 h555, Bx b404 [(.int .i64 a399_0), (.int .i64 a399_1), (.string a399_2)], Bx b6 [(.int .i64 0), (.slice none 0 0), (.slice none 0 0), (.slice none 0 0)], Es (List (Int × Int × ByteArray)) t__0 t__0h])
      obtain ⟨a567, e, hF568⟩ := bindS hF565; clear hF565
      refine boolO e ?_; clear e
      cases a567
      · have hF569 := condF hF568; clear hF568
        refine loadN [(.int .i64 y548_0), (h551).v, (h553).v, (h555).v] rfl (fun j u hj => H.bx 1 rfl hj) ?_
        replace H := H.sel [2, 3, 4, 0, 1, 5, 6, 7] rfl
        replace H := H.sel [1, 2, 0, 3, 4, 5, 6, 7] rfl
        replace H := H.join (α := List Int) (β := List Int)
        replace H := H.sel [1, 0, 2, 3, 4, 5, 6] rfl
        replace H := H.join (α := List (Int × Int × List Int × List Int)) (β := List Int × List Int)
        replace H := H.sc (α := Int) y548_0
        replace H := H.join (α := Int) (β := (List (Int × Int × List Int × List Int)) × List Int × List Int)
        refine lit1 (α := Int × (List (Int × Int × List Int × List Int)) × List Int × List Int) (g := ((), h551, h553, h555)) gok rfl rfl rfl rfl rfl H ?_; clear H; intro h571 w570 hx H
        clear hx
        obtain ⟨a577, e, hF578⟩ := bindS hF569; clear hF569
        replace H := H.sel [1, 0, 2, 3, 4, 5] rfl
        refine append_ (α := Int × (List (Int × Int × List Int × List Int)) × List Int × List Int) gok rfl rfl rfl rfl H e ?_; clear e H; intro h580 w579 H
        refine arK hk hmx386 ?_
        have hs := Option.some.inj hF578; subst hs; clear hF578
        exact ⟨a577, h580, rfl, ⟨rfl, rfl, rfl, rfl, rfl, trivial⟩, H.sel [3, 0, 4] rfl⟩
      · have hF582 := condT hF568; clear hF568
        refine build_ (cs := #[(.int .i64 0), (.slice none 0 0), (.slice none 0 0), (.slice none 0 0)]) gok rfl rfl rfl ?_
        replace H := H.sel [6, 0, 1, 2, 3, 4, 5, 7] rfl
        refine stA gok [(.int .i64 0), (.slice none 0 0), (.slice none 0 0), (.slice none 0 0)] rfl H rfl rfl rfl ?_; clear H; intro w583 H
        replace H : Cx w0 fp0 S0 w583 [Bx b6 [(.int .i64 0), (.slice none 0 0), (.slice none 0 0), (.slice none 0 0)], E (List (Int × (List (Int × Int × List Int × List Int)) × List Int × List Int)) a560 h562, Bx b410 [(.int .i64 y548_0), (h551).v, (h553).v, (h555).v], E (List (Int × Int × List Int × List Int)) y548_1 h551, E (List Int) y548_2 h553, E (List Int) y548_3 h555, Bx b404 [(.int .i64 a399_0), (.int .i64 a399_1), (.string a399_2)], Es (List (Int × Int × ByteArray)) t__0 t__0h] := H
        have hs := Option.some.inj hF582; subst hs; clear hF582
        have hr := hrt _ rfl; subst hr
        have hF584 : some _ = some _ := hF388
        refine loadN [(.int .i64 0), (.slice none 0 0), (.slice none 0 0), (.slice none 0 0)] rfl (fun j u hj => H.bx 0 rfl hj) ?_
        replace H := H.nil (α := Int × Int × List Int × List Int)
        replace H := H.nil (α := Int)
        replace H := H.nil (α := Int)
        cases hF584
        exact ⟨_, _, rfl, ⟨nilH, nilH, nilH, rfl, rfl⟩, (H.sel [2, 1, 0] rfl).close ⟨cloE, cloE, cloE, trivial⟩⟩
  · clear H e
    rintro T589 s590 g591 w588 hr (H : Cx w0 fp0 S0 w588 [Bx b6 [(.int .i64 0), (.slice none 0 0), (.slice none 0 0), (.slice none 0 0)], E (List (Int × (List (Int × Int × List Int × List Int)) × List Int × List Int)) s590 g591, Es (List (Int × Int × ByteArray)) t__0 t__0h])
    subst hr
    refine boolE (z := false) geLen ?_
    refine sq ?_
    obtain ⟨a599, e, hF600⟩ := bindS hF388; clear hF388
    replace H := H.sel [1, 0, 2] rfl
    replace H := H.toEH (α := Int × (List (Int × Int × List Int × List Int)) × List Int × List Int)
    have HH := H; clear H; obtain ⟨p597, m598, g601, c593, c594, c595, c596, H⟩ := HH.peek e; clear HH
    clear e
    obtain ⟨a599_0, a599_1, a599_2, a599_3⟩ := a599
    obtain ⟨_, h602, h603, h604⟩ := g601
    refine idxE c593 c594 c595 ?_
    replace H := H.takeK 0 rfl
    replace H := H.sel [0, 2, 3] rfl
    replace H := H.split
    replace H := H.sel [1, 2, 3] rfl
    replace H := H.split
    replace H := H.sel [1, 0, 2, 3] rfl
    replace H := H.split
    refine loadN [(.int .i64 a599_0), (h602).v, (h603).v, (h604).v] rfl c596 ?_; clear c596
    replace H := H.sel [3, 0, 1, 2, 4] rfl
    refine stA gok [(.int .i64 a599_0), (h602).v, (h603).v, (h604).v] rfl H rfl rfl rfl ?_; clear H; intro w612 H
    replace H : Cx w0 fp0 S0 w612 [Bx b6 [(.int .i64 a599_0), (h602).v, (h603).v, (h604).v], E (List Int) a599_2 h603, E (List Int) a599_3 h604, E (List (Int × Int × List Int × List Int)) a599_1 h602, Es (List (Int × Int × ByteArray)) t__0 t__0h] := H
    refine loadN [(.int .i64 a599_0), (h602).v, (h603).v, (h604).v] rfl (fun j u hj => H.bx 0 rfl hj) ?_
    cases hF600
    exact ⟨_, _, rfl, ⟨h602, h603, h604, rfl, rfl⟩, (H.sel [3, 1, 2] rfl).close ⟨cloE, cloE, cloE, trivial⟩⟩

theorem impl_isRule_c (r__0 : ByteArray) (r__1_0 : List (Int × Int × ByteArray)) (r__1_0h : Hd) (r__2_0 : List (Int × Int × ByteArray)) (r__2_0h : Hd) (y : Bool) (hF : F_impl_isRule (r__0, r__1_0, r__2_0) = some y) :
    ConF Try.prog 19 #[(.agg #[(.string r__0), (r__1_0h).v, (r__2_0h).v])] [Es (List (Int × Int × ByteArray)) r__1_0 r__1_0h, Es (List (Int × Int × ByteArray)) r__2_0 r__2_0h] [] (fun v Γ' => v = (.bool y) ∧ Γ' = []) := by
  intro w0 S0 fp0 hI hS
  have H : Cx w0 fp0 S0 w0 [Es (List (Int × Int × ByteArray)) r__1_0 r__1_0h, Es (List (Int × Int × ByteArray)) r__2_0 r__2_0h] := Cx.start hI hS
  clear hI hS
  refine enterC (args := [_]) gok Try.func19 rfl _ rfl rfl rfl ?_
  refine box_ H ?_; clear H; intro b4 w3 hx H
  clear hx
  replace H : Cx w0 fp0 S0 w3 [Bx b4 [(.string r__0), (r__1_0h).v, (r__2_0h).v], Es (List (Int × Int × ByteArray)) r__1_0 r__1_0h, Es (List (Int × Int × ByteArray)) r__2_0 r__2_0h] := H
  refine fld gok rfl rfl rfl rfl ?_
  refine loadN [(r__1_0h).v] rfl (H.bxs 0 rfl 1 rfl) ?_
  obtain ⟨y6, e, hF7⟩ := bindS hF; clear hF
  obtain ⟨⟨y6_0_0, y6_0_1⟩, y6_1⟩ := y6
  have ey6 := e; clear e
  refine callF (impl_Term_wires_c r__1_0 r__1_0h y6_0_0 y6_0_1 y6_1 ey6) (Γi := []) H ⟨Vw.sh 1 rfl, trivial⟩ ?_; clear H ey6
  rintro _ _ w8 ⟨rfl, rfl⟩ (H : Cx w0 fp0 S0 w8 [Bx b4 [(.string r__0), (r__1_0h).v, (r__2_0h).v], Es (List (Int × Int × ByteArray)) r__1_0 r__1_0h, Es (List (Int × Int × ByteArray)) r__2_0 r__2_0h])
  refine alloc_ gok rfl H ?_; clear H; intro b10 w9 hx H
  clear hx
  replace H : Cx w0 fp0 S0 w9 [Bx b10 [(.int .i64 0), (.int .i64 0)], Bx b4 [(.string r__0), (r__1_0h).v, (r__2_0h).v], Es (List (Int × Int × ByteArray)) r__1_0 r__1_0h, Es (List (Int × Int × ByteArray)) r__2_0 r__2_0h] := H
  refine stA gok [(.int .i64 y6_0_0), (.int .i64 y6_0_1)] rfl H rfl rfl rfl ?_; clear H; intro w12 H
  replace H : Cx w0 fp0 S0 w12 [Bx b10 [(.int .i64 y6_0_0), (.int .i64 y6_0_1)], Bx b4 [(.string r__0), (r__1_0h).v, (r__2_0h).v], Es (List (Int × Int × ByteArray)) r__1_0 r__1_0h, Es (List (Int × Int × ByteArray)) r__2_0 r__2_0h] := H
  refine fld gok rfl rfl rfl rfl ?_
  refine loadN [(r__2_0h).v] rfl (H.bxs 1 rfl 2 rfl) ?_
  obtain ⟨y13, e, hF14⟩ := bindS hF7; clear hF7
  obtain ⟨⟨y13_0_0, y13_0_1⟩, y13_1⟩ := y13
  have ey13 := e; clear e
  refine callF (impl_Term_wires_c r__2_0 r__2_0h y13_0_0 y13_0_1 y13_1 ey13) (Γi := []) H ⟨Vw.sh 3 rfl, trivial⟩ ?_; clear H ey13
  rintro _ _ w15 ⟨rfl, rfl⟩ (H : Cx w0 fp0 S0 w15 [Bx b10 [(.int .i64 y6_0_0), (.int .i64 y6_0_1)], Bx b4 [(.string r__0), (r__1_0h).v, (r__2_0h).v], Es (List (Int × Int × ByteArray)) r__1_0 r__1_0h, Es (List (Int × Int × ByteArray)) r__2_0 r__2_0h])
  refine alloc_ gok rfl H ?_; clear H; intro b17 w16 hx H
  clear hx
  replace H : Cx w0 fp0 S0 w16 [Bx b17 [(.int .i64 0), (.int .i64 0)], Bx b10 [(.int .i64 y6_0_0), (.int .i64 y6_0_1)], Bx b4 [(.string r__0), (r__1_0h).v, (r__2_0h).v], Es (List (Int × Int × ByteArray)) r__1_0 r__1_0h, Es (List (Int × Int × ByteArray)) r__2_0 r__2_0h] := H
  refine stA gok [(.int .i64 y13_0_0), (.int .i64 y13_0_1)] rfl H rfl rfl rfl ?_; clear H; intro w19 H
  replace H : Cx w0 fp0 S0 w19 [Bx b17 [(.int .i64 y13_0_0), (.int .i64 y13_0_1)], Bx b10 [(.int .i64 y6_0_0), (.int .i64 y6_0_1)], Bx b4 [(.string r__0), (r__1_0h).v, (r__2_0h).v], Es (List (Int × Int × ByteArray)) r__1_0 r__1_0h, Es (List (Int × Int × ByteArray)) r__2_0 r__2_0h] := H
  refine sq ?_
  obtain ⟨r39, hF41, hF40⟩ := bindS hF14; clear hF14
  refine cut (fun (q42 : Bool) => [(1, (.pointer (some ⟨b4, 0, none⟩))), (35, (.bool q42))]) (fun (q42 : Bool) w' => q42 = r39 ∧ Cx w0 fp0 S0 w' [Bx b4 [(.string r__0), (r__1_0h).v, (r__2_0h).v], Es (List (Int × Int × ByteArray)) r__1_0 r__1_0h, Es (List (Int × Int × ByteArray)) r__2_0 r__2_0h]) ?_ ?_
  · skip
    obtain ⟨a43, e, hF44⟩ := bindS hF41; clear hF41
    refine boolO e ?_; clear e
    cases a43
    · have hF45 := condF hF44; clear hF44
      obtain ⟨a46, e, hF47⟩ := bindS hF45; clear hF45
      refine boolO e ?_; clear e
      cases a46
      · have hF48 := condF hF47; clear hF47
        refine loadN [(.int .i64 y6_0_0), (.int .i64 y6_0_1)] rfl (fun j u hj => H.bx 1 rfl hj) ?_
        refine loadN [(.int .i64 y13_0_0), (.int .i64 y13_0_1)] rfl (fun j u hj => H.bx 0 rfl hj) ?_
        obtain ⟨a49, e, hF50⟩ := bindS hF48; clear hF48
        refine neqA gok rfl Try.underlying63 (by kernel_rfl) (by kernel_rfl) (by kernel_rfl) (by refine ⟨rfl, ⟨_, _, rfl⟩, rfl, ⟨_, _, rfl⟩, trivial⟩) (ls := [y6_0_0, y6_0_1]) (bs := [y13_0_0, y13_0_1]) rfl rfl rfl rfl e ?_; clear e
        cases a49
        · have hF51 := condF hF50; clear hF50
          refine fld gok rfl rfl rfl rfl ?_
          refine load1 (H.bx 2 rfl (j := 0) rfl) ?_
          obtain ⟨y52, e, hF53⟩ := bindS hF51; clear hF51
          have ey52 := e; clear e
          refine callF (impl_isName_c r__0 y52 ey52) (Γi := []) H trivial ?_; clear H ey52
          rintro _ _ w54 ⟨rfl, rfl⟩ (H : Cx w0 fp0 S0 w54 [Bx b17 [(.int .i64 y13_0_0), (.int .i64 y13_0_1)], Bx b10 [(.int .i64 y6_0_0), (.int .i64 y6_0_1)], Bx b4 [(.string r__0), (r__1_0h).v, (r__2_0h).v], Es (List (Int × Int × ByteArray)) r__1_0 r__1_0h, Es (List (Int × Int × ByteArray)) r__2_0 r__2_0h])
          obtain ⟨a55, e, hF56⟩ := bindS hF53; clear hF53
          refine boolO e ?_; clear e
          exact ⟨a55, ⟨rfl, rfl, trivial⟩, Option.some.inj hF56, H.sel [2, 3, 4] rfl⟩
        · have hF57 := condT hF50; clear hF50
          exact ⟨true, ⟨rfl, rfl, trivial⟩, Option.some.inj hF57, H.sel [2, 3, 4] rfl⟩
      · have hF58 := condT hF47; clear hF47
        exact ⟨true, ⟨rfl, rfl, trivial⟩, Option.some.inj hF58, H.sel [2, 3, 4] rfl⟩
    · have hF59 := condT hF44; clear hF44
      exact ⟨true, ⟨rfl, rfl, trivial⟩, Option.some.inj hF59, H.sel [2, 3, 4] rfl⟩
  · clear hF41 H
    rintro T61 s37 w60 ⟨hr, (H : Cx w0 fp0 S0 w60 [Bx b4 [(.string r__0), (r__1_0h).v, (r__2_0h).v], Es (List (Int × Int × ByteArray)) r__1_0 r__1_0h, Es (List (Int × Int × ByteArray)) r__2_0 r__2_0h])⟩
    subst hr
    cases s37
    · have hF62 := condF hF40; clear hF40
      refine fld gok rfl rfl rfl rfl ?_
      refine loadN [(r__1_0h).v] rfl (H.bxs 0 rfl 1 rfl) ?_
      obtain ⟨y63, e, hF64⟩ := bindS hF62; clear hF62
      obtain ⟨⟨y63_0_0, y63_0_1, y63_0_2, y63_0_3⟩, y63_1⟩ := y63
      have ey63 := e; clear e
      refine callF (impl_graphOf_c r__1_0 r__1_0h y63_0_0 y63_0_1 y63_0_2 y63_0_3 y63_1 ey63) (Γi := []) H ⟨Vw.sh 1 rfl, trivial⟩ ?_; clear H ey63
      rintro _ _ w65 ⟨h66, h68, h70, rfl, rfl⟩ (H : Cx w0 fp0 S0 w65 [E (List (Int × Int × List Int × List Int)) y63_0_1 h66, E (List Int) y63_0_2 h68, E (List Int) y63_0_3 h70, Bx b4 [(.string r__0), (r__1_0h).v, (r__2_0h).v], Es (List (Int × Int × ByteArray)) r__1_0 r__1_0h, Es (List (Int × Int × ByteArray)) r__2_0 r__2_0h])
      refine fld gok rfl rfl rfl rfl ?_
      refine loadN [(r__2_0h).v] rfl (H.bxs 3 rfl 2 rfl) ?_
      obtain ⟨y72, e, hF73⟩ := bindS hF64; clear hF64
      obtain ⟨⟨y72_0_0, y72_0_1, y72_0_2, y72_0_3⟩, y72_1⟩ := y72
      have ey72 := e; clear e
      refine callF (impl_graphOf_c r__2_0 r__2_0h y72_0_0 y72_0_1 y72_0_2 y72_0_3 y72_1 ey72) (Γi := []) H ⟨Vw.sh 5 rfl, trivial⟩ ?_; clear H ey72
      rintro _ _ w74 ⟨h75, h77, h79, rfl, rfl⟩ (H : Cx w0 fp0 S0 w74 [E (List (Int × Int × List Int × List Int)) y72_0_1 h75, E (List Int) y72_0_2 h77, E (List Int) y72_0_3 h79, E (List (Int × Int × List Int × List Int)) y63_0_1 h66, E (List Int) y63_0_2 h68, E (List Int) y63_0_3 h70, Bx b4 [(.string r__0), (r__1_0h).v, (r__2_0h).v], Es (List (Int × Int × ByteArray)) r__1_0 r__1_0h, Es (List (Int × Int × ByteArray)) r__2_0 r__2_0h])
      obtain ⟨r85, hF87, hF86⟩ := bindS hF73; clear hF73
      refine cut (fun (q88 : Bool) => [(2, (.bool q88))]) (fun (q88 : Bool) w' => q88 = r85 ∧ Cx w0 fp0 S0 w' []) ?_ ?_
      · skip
        cases y63_1
        · have hF89 := condF hF87; clear hF87
          exact ⟨false, ⟨rfl, trivial⟩, Option.some.inj hF89, H.sel [] rfl⟩
        · have hF90 := condT hF87; clear hF87
          exact ⟨y72_1, ⟨rfl, trivial⟩, Option.some.inj hF90, H.sel [] rfl⟩
      · clear hF87 H
        rintro T92 s83 w91 ⟨hr, (H : Cx w0 fp0 S0 w91 [])⟩
        subst hr
        cases hF86
        exact ⟨_, _, rfl, ⟨rfl, rfl⟩, (H.sel [] rfl).close trivial⟩
    · have hF93 := condT hF40; clear hF40
      cases hF93
      exact ⟨_, _, rfl, ⟨rfl, rfl⟩, (H.sel [] rfl).close trivial⟩

theorem impl_Rule_pattern_c (r__0 : ByteArray) (r__1_0 : List (Int × Int × ByteArray)) (r__1_0h : Hd) (r__2_0 : List (Int × Int × ByteArray)) (r__2_0h : Hd) (y_0 : Int) (y_1 : List (Int × Int × List Int × List Int)) (y_2 : List Int) (y_3 : List Int) (hF : F_impl_Rule_pattern (r__0, r__1_0, r__2_0) = some (y_0, y_1, y_2, y_3)) :
    ConF Try.prog 20 #[(.agg #[(.string r__0), (r__1_0h).v, (r__2_0h).v])] [Es (List (Int × Int × ByteArray)) r__1_0 r__1_0h, Es (List (Int × Int × ByteArray)) r__2_0 r__2_0h] [] (fun v Γ' => ∃ z0 z1 z2 : Hd, v = (.agg #[(.int .i64 y_0), (z0).v, (z1).v, (z2).v]) ∧ Γ' = [E (List (Int × Int × List Int × List Int)) y_1 z0, E (List Int) y_2 z1, E (List Int) y_3 z2]) := by
  intro w0 S0 fp0 hI hS
  have H : Cx w0 fp0 S0 w0 [Es (List (Int × Int × ByteArray)) r__1_0 r__1_0h, Es (List (Int × Int × ByteArray)) r__2_0 r__2_0h] := Cx.start hI hS
  clear hI hS
  refine enterC (args := [_]) gok Try.func20 rfl _ rfl rfl rfl ?_
  refine box_ H ?_; clear H; intro b4 w3 hx H
  clear hx
  replace H : Cx w0 fp0 S0 w3 [Bx b4 [(.string r__0), (r__1_0h).v, (r__2_0h).v], Es (List (Int × Int × ByteArray)) r__1_0 r__1_0h, Es (List (Int × Int × ByteArray)) r__2_0 r__2_0h] := H
  refine alloc_ gok rfl H ?_; clear H; intro b7 w6 hx H
  clear hx
  replace H : Cx w0 fp0 S0 w6 [Bx b7 [(.int .i64 0), (.slice none 0 0), (.slice none 0 0), (.slice none 0 0)], Bx b4 [(.string r__0), (r__1_0h).v, (r__2_0h).v], Es (List (Int × Int × ByteArray)) r__1_0 r__1_0h, Es (List (Int × Int × ByteArray)) r__2_0 r__2_0h] := H
  refine fld gok rfl rfl rfl rfl ?_
  refine loadN [(r__1_0h).v] rfl (H.bxs 1 rfl 1 rfl) ?_
  obtain ⟨y9, e, hF10⟩ := bindS hF; clear hF
  obtain ⟨⟨y9_0_0, y9_0_1, y9_0_2, y9_0_3⟩, y9_1⟩ := y9
  have ey9 := e; clear e
  refine callF (impl_graphOf_c r__1_0 r__1_0h y9_0_0 y9_0_1 y9_0_2 y9_0_3 y9_1 ey9) (Γi := []) H ⟨Vw.sh 2 rfl, trivial⟩ ?_; clear H ey9
  rintro _ _ w11 ⟨h12, h14, h16, rfl, rfl⟩ (H : Cx w0 fp0 S0 w11 [E (List (Int × Int × List Int × List Int)) y9_0_1 h12, E (List Int) y9_0_2 h14, E (List Int) y9_0_3 h16, Bx b7 [(.int .i64 0), (.slice none 0 0), (.slice none 0 0), (.slice none 0 0)], Bx b4 [(.string r__0), (r__1_0h).v, (r__2_0h).v], Es (List (Int × Int × ByteArray)) r__1_0 r__1_0h, Es (List (Int × Int × ByteArray)) r__2_0 r__2_0h])
  refine alloc_ gok rfl H ?_; clear H; intro b19 w18 hx H
  clear hx
  replace H : Cx w0 fp0 S0 w18 [Bx b19 [(.int .i64 0), (.slice none 0 0), (.slice none 0 0), (.slice none 0 0)], E (List (Int × Int × List Int × List Int)) y9_0_1 h12, E (List Int) y9_0_2 h14, E (List Int) y9_0_3 h16, Bx b7 [(.int .i64 0), (.slice none 0 0), (.slice none 0 0), (.slice none 0 0)], Bx b4 [(.string r__0), (r__1_0h).v, (r__2_0h).v], Es (List (Int × Int × ByteArray)) r__1_0 r__1_0h, Es (List (Int × Int × ByteArray)) r__2_0 r__2_0h] := H
  refine stA gok [(.int .i64 y9_0_0), (h12).v, (h14).v, (h16).v] rfl H rfl rfl rfl ?_; clear H; intro w21 H
  replace H : Cx w0 fp0 S0 w21 [Bx b19 [(.int .i64 y9_0_0), (h12).v, (h14).v, (h16).v], E (List (Int × Int × List Int × List Int)) y9_0_1 h12, E (List Int) y9_0_2 h14, E (List Int) y9_0_3 h16, Bx b7 [(.int .i64 0), (.slice none 0 0), (.slice none 0 0), (.slice none 0 0)], Bx b4 [(.string r__0), (r__1_0h).v, (r__2_0h).v], Es (List (Int × Int × ByteArray)) r__1_0 r__1_0h, Es (List (Int × Int × ByteArray)) r__2_0 r__2_0h] := H
  refine loadN [(.int .i64 y9_0_0), (h12).v, (h14).v, (h16).v] rfl (fun j u hj => H.bx 0 rfl hj) ?_
  replace H := H.sel [4, 0, 1, 2, 3, 5, 6, 7] rfl
  refine stA gok [(.int .i64 y9_0_0), (h12).v, (h14).v, (h16).v] rfl H rfl rfl rfl ?_; clear H; intro w22 H
  replace H : Cx w0 fp0 S0 w22 [Bx b7 [(.int .i64 y9_0_0), (h12).v, (h14).v, (h16).v], Bx b19 [(.int .i64 y9_0_0), (h12).v, (h14).v, (h16).v], E (List (Int × Int × List Int × List Int)) y9_0_1 h12, E (List Int) y9_0_2 h14, E (List Int) y9_0_3 h16, Bx b4 [(.string r__0), (r__1_0h).v, (r__2_0h).v], Es (List (Int × Int × ByteArray)) r__1_0 r__1_0h, Es (List (Int × Int × ByteArray)) r__2_0 r__2_0h] := H
  refine loadN [(.int .i64 y9_0_0), (h12).v, (h14).v, (h16).v] rfl (fun j u hj => H.bx 0 rfl hj) ?_
  cases hF10
  exact ⟨_, _, rfl, ⟨h12, h14, h16, rfl, rfl⟩, (H.sel [2, 3, 4] rfl).close ⟨cloE, cloE, cloE, trivial⟩⟩

theorem impl_Rule_replacement_c (r__0 : ByteArray) (r__1_0 : List (Int × Int × ByteArray)) (r__1_0h : Hd) (r__2_0 : List (Int × Int × ByteArray)) (r__2_0h : Hd) (y_0 : Int) (y_1 : List (Int × Int × List Int × List Int)) (y_2 : List Int) (y_3 : List Int) (hF : F_impl_Rule_replacement (r__0, r__1_0, r__2_0) = some (y_0, y_1, y_2, y_3)) :
    ConF Try.prog 21 #[(.agg #[(.string r__0), (r__1_0h).v, (r__2_0h).v])] [Es (List (Int × Int × ByteArray)) r__1_0 r__1_0h, Es (List (Int × Int × ByteArray)) r__2_0 r__2_0h] [] (fun v Γ' => ∃ z0 z1 z2 : Hd, v = (.agg #[(.int .i64 y_0), (z0).v, (z1).v, (z2).v]) ∧ Γ' = [E (List (Int × Int × List Int × List Int)) y_1 z0, E (List Int) y_2 z1, E (List Int) y_3 z2]) := by
  intro w0 S0 fp0 hI hS
  have H : Cx w0 fp0 S0 w0 [Es (List (Int × Int × ByteArray)) r__1_0 r__1_0h, Es (List (Int × Int × ByteArray)) r__2_0 r__2_0h] := Cx.start hI hS
  clear hI hS
  refine enterC (args := [_]) gok Try.func21 rfl _ rfl rfl rfl ?_
  refine box_ H ?_; clear H; intro b4 w3 hx H
  clear hx
  replace H : Cx w0 fp0 S0 w3 [Bx b4 [(.string r__0), (r__1_0h).v, (r__2_0h).v], Es (List (Int × Int × ByteArray)) r__1_0 r__1_0h, Es (List (Int × Int × ByteArray)) r__2_0 r__2_0h] := H
  refine alloc_ gok rfl H ?_; clear H; intro b7 w6 hx H
  clear hx
  replace H : Cx w0 fp0 S0 w6 [Bx b7 [(.int .i64 0), (.slice none 0 0), (.slice none 0 0), (.slice none 0 0)], Bx b4 [(.string r__0), (r__1_0h).v, (r__2_0h).v], Es (List (Int × Int × ByteArray)) r__1_0 r__1_0h, Es (List (Int × Int × ByteArray)) r__2_0 r__2_0h] := H
  refine fld gok rfl rfl rfl rfl ?_
  refine loadN [(r__2_0h).v] rfl (H.bxs 1 rfl 2 rfl) ?_
  obtain ⟨y9, e, hF10⟩ := bindS hF; clear hF
  obtain ⟨⟨y9_0_0, y9_0_1, y9_0_2, y9_0_3⟩, y9_1⟩ := y9
  have ey9 := e; clear e
  refine callF (impl_graphOf_c r__2_0 r__2_0h y9_0_0 y9_0_1 y9_0_2 y9_0_3 y9_1 ey9) (Γi := []) H ⟨Vw.sh 3 rfl, trivial⟩ ?_; clear H ey9
  rintro _ _ w11 ⟨h12, h14, h16, rfl, rfl⟩ (H : Cx w0 fp0 S0 w11 [E (List (Int × Int × List Int × List Int)) y9_0_1 h12, E (List Int) y9_0_2 h14, E (List Int) y9_0_3 h16, Bx b7 [(.int .i64 0), (.slice none 0 0), (.slice none 0 0), (.slice none 0 0)], Bx b4 [(.string r__0), (r__1_0h).v, (r__2_0h).v], Es (List (Int × Int × ByteArray)) r__1_0 r__1_0h, Es (List (Int × Int × ByteArray)) r__2_0 r__2_0h])
  refine alloc_ gok rfl H ?_; clear H; intro b19 w18 hx H
  clear hx
  replace H : Cx w0 fp0 S0 w18 [Bx b19 [(.int .i64 0), (.slice none 0 0), (.slice none 0 0), (.slice none 0 0)], E (List (Int × Int × List Int × List Int)) y9_0_1 h12, E (List Int) y9_0_2 h14, E (List Int) y9_0_3 h16, Bx b7 [(.int .i64 0), (.slice none 0 0), (.slice none 0 0), (.slice none 0 0)], Bx b4 [(.string r__0), (r__1_0h).v, (r__2_0h).v], Es (List (Int × Int × ByteArray)) r__1_0 r__1_0h, Es (List (Int × Int × ByteArray)) r__2_0 r__2_0h] := H
  refine stA gok [(.int .i64 y9_0_0), (h12).v, (h14).v, (h16).v] rfl H rfl rfl rfl ?_; clear H; intro w21 H
  replace H : Cx w0 fp0 S0 w21 [Bx b19 [(.int .i64 y9_0_0), (h12).v, (h14).v, (h16).v], E (List (Int × Int × List Int × List Int)) y9_0_1 h12, E (List Int) y9_0_2 h14, E (List Int) y9_0_3 h16, Bx b7 [(.int .i64 0), (.slice none 0 0), (.slice none 0 0), (.slice none 0 0)], Bx b4 [(.string r__0), (r__1_0h).v, (r__2_0h).v], Es (List (Int × Int × ByteArray)) r__1_0 r__1_0h, Es (List (Int × Int × ByteArray)) r__2_0 r__2_0h] := H
  refine loadN [(.int .i64 y9_0_0), (h12).v, (h14).v, (h16).v] rfl (fun j u hj => H.bx 0 rfl hj) ?_
  replace H := H.sel [4, 0, 1, 2, 3, 5, 6, 7] rfl
  refine stA gok [(.int .i64 y9_0_0), (h12).v, (h14).v, (h16).v] rfl H rfl rfl rfl ?_; clear H; intro w22 H
  replace H : Cx w0 fp0 S0 w22 [Bx b7 [(.int .i64 y9_0_0), (h12).v, (h14).v, (h16).v], Bx b19 [(.int .i64 y9_0_0), (h12).v, (h14).v, (h16).v], E (List (Int × Int × List Int × List Int)) y9_0_1 h12, E (List Int) y9_0_2 h14, E (List Int) y9_0_3 h16, Bx b4 [(.string r__0), (r__1_0h).v, (r__2_0h).v], Es (List (Int × Int × ByteArray)) r__1_0 r__1_0h, Es (List (Int × Int × ByteArray)) r__2_0 r__2_0h] := H
  refine loadN [(.int .i64 y9_0_0), (h12).v, (h14).v, (h16).v] rfl (fun j u hj => H.bx 0 rfl hj) ?_
  cases hF10
  exact ⟨_, _, rfl, ⟨h12, h14, h16, rfl, rfl⟩, (H.sel [2, 3, 4] rfl).close ⟨cloE, cloE, cloE, trivial⟩⟩

theorem impl_areRules_c (rules_ : List (ByteArray × (List (Int × Int × ByteArray)) × (List (Int × Int × ByteArray)))) (rules_h : Hd) (y : Bool) (hF : F_impl_areRules rules_ = some y) :
    ConF Try.prog 12 #[(rules_h).v] [Es (List (ByteArray × (List (Int × Int × ByteArray)) × (List (Int × Int × ByteArray)))) rules_ rules_h] [] (fun v Γ' => v = (.bool y) ∧ Γ' = []) := by
  intro w0 S0 fp0 hI hS
  have H : Cx w0 fp0 S0 w0 [Es (List (ByteArray × (List (Int × Int × ByteArray)) × (List (Int × Int × ByteArray)))) rules_ rules_h] := Cx.start hI hS
  clear hI hS
  refine enterC (args := [_]) gok Try.func12 rfl _ rfl rfl rfl ?_
  refine sq ?_
  refine lenE (H.rs (α := List (ByteArray × (List (Int × Int × ByteArray)) × (List (Int × Int × ByteArray)))) 0 rfl).len ?_
  obtain ⟨y2, e, hF3⟩ := bindS hF; clear hF
  have ey2 := e; clear e
  refine callF (impl_within_c ((rules_.length : Nat) : Int) 1 20 y2 ey2) (Γi := []) H trivial ?_; clear H ey2
  rintro _ _ w4 ⟨rfl, rfl⟩ (H : Cx w0 fp0 S0 w4 [Es (List (ByteArray × (List (Int × Int × ByteArray)) × (List (Int × Int × ByteArray)))) rules_ rules_h])
  obtain ⟨a5, e, hF6⟩ := bindS hF3; clear hF3
  refine boolO e ?_; clear e
  cases a5
  · have hF7 := condF hF6; clear hF6
    refine makeMap_ H ?_; clear H; intro b9 w8 hx H
    clear hx
    replace H : Cx w0 fp0 S0 w8 [Mp b9 ([] : List ByteArray), Es (List (ByteArray × (List (Int × Int × ByteArray)) × (List (Int × Int × ByteArray)))) rules_ rules_h] := H
    refine sq ?_
    refine lenE (H.rs (α := List (ByteArray × (List (Int × Int × ByteArray)) × (List (Int × Int × ByteArray)))) 1 rfl).len ?_
    have hmx220 := (H.rs (α := List (ByteArray × (List (Int × Int × ByteArray)) × (List (Int × Int × ByteArray)))) 1 rfl).max
    obtain ⟨r221, e, hF222⟩ := bindS hF7; clear hF7
    refine loopO _ rules_.length (fun (k11 : Nat) (s218 : List ByteArray) (_ : Unit) => [(3, (.map (some b9))), (11, (rules_h).v), (12, (.int .i64 ((rules_.length : Nat) : Int))), (13, (.int .i64 ((k11 : Nat) : Int)))]) (fun _ (s218 : List ByteArray) (_ : Unit) w' => Cx w0 fp0 S0 w' [Mp b9 s218, Es (List (ByteArray × (List (Int × Int × ByteArray)) × (List (Int × Int × ByteArray)))) rules_ rules_h]) ([] : List ByteArray) () e ⟨rfl, rfl, rfl, rfl, trivial⟩ (H.sel [0, 1] rfl) ?_ ?_
    · clear H e
      rintro T224 k11 s218 _ w223 o225 hk (H : Cx w0 fp0 S0 w223 [Mp b9 s218, Es (List (ByteArray × (List (Int × Int × ByteArray)) × (List (Int × Int × ByteArray)))) rules_ rules_h]) hrt hF226
      refine boolE (z := true) (ltLen hk) ?_
      refine sq ?_
      refine sq ?_
      obtain ⟨a233, e, hF234⟩ := bindS hF226; clear hF226
      have HH := H; clear H; obtain ⟨p231, m232, g235, c227, c228, c229, c230, H⟩ := HH.el (α := ByteArray × (List (Int × Int × ByteArray)) × (List (Int × Int × ByteArray))) 1 rfl e; clear HH
      clear e
      obtain ⟨a233_0, a233_1_0, a233_2_0⟩ := a233
      obtain ⟨_, h237, h238⟩ := g235
      replace H := H.part (β := List (Int × Int × ByteArray)) a233_1_0 (h237 : Hd) 0 rfl (fun S h => (And.left (And.right h)))
      replace H := H.part (β := List (Int × Int × ByteArray)) a233_2_0 (h238 : Hd) 1 rfl (fun S h => (And.right (And.right h)))
      replace H := H.sel [0, 1, 3, 4] rfl
      refine idxE c227 c228 c229 ?_; clear c227 c228 c229
      refine loadN [(.string a233_0), (h237).v, (h238).v] rfl c230 ?_; clear c230
      refine alloc_ gok rfl H ?_; clear H; intro b242 w241 hx H
      clear hx
      replace H : Cx w0 fp0 S0 w241 [Bx b242 [(.string .empty), (.slice none 0 0), (.slice none 0 0)], Es (List (Int × Int × ByteArray)) a233_2_0 h238, Es (List (Int × Int × ByteArray)) a233_1_0 h237, Mp b9 s218, Es (List (ByteArray × (List (Int × Int × ByteArray)) × (List (Int × Int × ByteArray)))) rules_ rules_h] := H
      refine stA gok [(.string a233_0), (h237).v, (h238).v] rfl H rfl rfl rfl ?_; clear H; intro w244 H
      replace H : Cx w0 fp0 S0 w244 [Bx b242 [(.string a233_0), (h237).v, (h238).v], Es (List (Int × Int × ByteArray)) a233_2_0 h238, Es (List (Int × Int × ByteArray)) a233_1_0 h237, Mp b9 s218, Es (List (ByteArray × (List (Int × Int × ByteArray)) × (List (Int × Int × ByteArray)))) rules_ rules_h] := H
      refine sq ?_
      obtain ⟨r282, hF284, hF283⟩ := bindS hF234; clear hF234
      refine cut (fun (q285 : Bool) => [(3, (.map (some b9))), (5, (.pointer (some ⟨b242, 0, none⟩))), (11, (rules_h).v), (12, (.int .i64 ((rules_.length : Nat) : Int))), (13, (.int .i64 ((k11 : Nat) : Int))), (39, (.bool q285))]) (fun (q285 : Bool) w' => q285 = r282 ∧ Cx w0 fp0 S0 w' [Mp b9 s218, Bx b242 [(.string a233_0), (h237).v, (h238).v], Es (List (Int × Int × ByteArray)) a233_1_0 h237, Es (List (Int × Int × ByteArray)) a233_2_0 h238, Es (List (ByteArray × (List (Int × Int × ByteArray)) × (List (Int × Int × ByteArray)))) rules_ rules_h]) ?_ ?_
      · skip
        refine loadN [(.string a233_0), (h237).v, (h238).v] rfl (fun j u hj => H.bx 0 rfl hj) ?_
        obtain ⟨y286, e, hF287⟩ := bindS hF284; clear hF284
        have ey286 := e; clear e
        refine callF (impl_isRule_c a233_0 a233_1_0 h237 a233_2_0 h238 y286 ey286) (Γi := []) H ⟨Vw.sh 2 rfl, Vw.sh 1 rfl, trivial⟩ ?_; clear H ey286
        rintro _ _ w288 ⟨rfl, rfl⟩ (H : Cx w0 fp0 S0 w288 [Bx b242 [(.string a233_0), (h237).v, (h238).v], Es (List (Int × Int × ByteArray)) a233_2_0 h238, Es (List (Int × Int × ByteArray)) a233_1_0 h237, Mp b9 s218, Es (List (ByteArray × (List (Int × Int × ByteArray)) × (List (Int × Int × ByteArray)))) rules_ rules_h])
        obtain ⟨a289, e, hF290⟩ := bindS hF287; clear hF287
        refine boolO e ?_; clear e
        cases a289
        · have hF291 := condF hF290; clear hF290
          refine fld gok rfl rfl rfl rfl ?_
          refine load1 (H.bx 0 rfl (j := 0) rfl) ?_
          obtain ⟨a292, e, hF293⟩ := bindS hF291; clear hF291
          refine look_ gok Try.underlying51 Try.underlying9 rfl H 3 rfl e ?_; clear e
          cases a292
          · have hF294 := condF hF293; clear hF293
            refine loadN [(.string a233_0), (h237).v, (h238).v] rfl (fun j u hj => H.bx 0 rfl hj) ?_
            obtain ⟨y295, e, hF296⟩ := bindS hF294; clear hF294
            obtain ⟨y295_0, y295_1, y295_2, y295_3⟩ := y295
            have ey295 := e; clear e
            refine callF (impl_Rule_pattern_c a233_0 a233_1_0 h237 a233_2_0 h238 y295_0 y295_1 y295_2 y295_3 ey295) (Γi := []) H ⟨Vw.sh 2 rfl, Vw.sh 1 rfl, trivial⟩ ?_; clear H ey295
            rintro _ _ w297 ⟨h298, h300, h302, rfl, rfl⟩ (H : Cx w0 fp0 S0 w297 [E (List (Int × Int × List Int × List Int)) y295_1 h298, E (List Int) y295_2 h300, E (List Int) y295_3 h302, Bx b242 [(.string a233_0), (h237).v, (h238).v], Es (List (Int × Int × ByteArray)) a233_2_0 h238, Es (List (Int × Int × ByteArray)) a233_1_0 h237, Mp b9 s218, Es (List (ByteArray × (List (Int × Int × ByteArray)) × (List (Int × Int × ByteArray)))) rules_ rules_h])
            refine lenE (H.ro (α := List (Int × Int × List Int × List Int)) 0 rfl).len ?_
            obtain ⟨a304, e, hF305⟩ := bindS hF296; clear hF296
            refine boolO e ?_; clear e
            cases a304
            · have hF306 := condF hF305; clear hF305
              refine loadN [(.string a233_0), (h237).v, (h238).v] rfl (fun j u hj => H.bx 3 rfl hj) ?_
              obtain ⟨y307, e, hF308⟩ := bindS hF306; clear hF306
              obtain ⟨y307_0, y307_1, y307_2, y307_3⟩ := y307
              have ey307 := e; clear e
              refine callF (impl_Rule_replacement_c a233_0 a233_1_0 h237 a233_2_0 h238 y307_0 y307_1 y307_2 y307_3 ey307) (Γi := []) H ⟨Vw.sh 5 rfl, Vw.sh 4 rfl, trivial⟩ ?_; clear H ey307
              rintro _ _ w309 ⟨h310, h312, h314, rfl, rfl⟩ (H : Cx w0 fp0 S0 w309 [E (List (Int × Int × List Int × List Int)) y307_1 h310, E (List Int) y307_2 h312, E (List Int) y307_3 h314, E (List (Int × Int × List Int × List Int)) y295_1 h298, E (List Int) y295_2 h300, E (List Int) y295_3 h302, Bx b242 [(.string a233_0), (h237).v, (h238).v], Es (List (Int × Int × ByteArray)) a233_2_0 h238, Es (List (Int × Int × ByteArray)) a233_1_0 h237, Mp b9 s218, Es (List (ByteArray × (List (Int × Int × ByteArray)) × (List (Int × Int × ByteArray)))) rules_ rules_h])
              refine lenE (H.ro (α := List (Int × Int × List Int × List Int)) 0 rfl).len ?_
              obtain ⟨a316, e, hF317⟩ := bindS hF308; clear hF308
              refine boolO e ?_; clear e
              exact ⟨a316, ⟨rfl, rfl, rfl, rfl, rfl, rfl, trivial⟩, Option.some.inj hF317, H.sel [9, 6, 8, 7, 10] rfl⟩
            · have hF318 := condT hF305; clear hF305
              exact ⟨true, ⟨rfl, rfl, rfl, rfl, rfl, rfl, trivial⟩, Option.some.inj hF318, H.sel [6, 3, 5, 4, 7] rfl⟩
          · have hF319 := condT hF293; clear hF293
            exact ⟨true, ⟨rfl, rfl, rfl, rfl, rfl, rfl, trivial⟩, Option.some.inj hF319, H.sel [3, 0, 2, 1, 4] rfl⟩
        · have hF320 := condT hF290; clear hF290
          exact ⟨true, ⟨rfl, rfl, rfl, rfl, rfl, rfl, trivial⟩, Option.some.inj hF320, H.sel [3, 0, 2, 1, 4] rfl⟩
      · clear hF284 H
        rintro T322 s280 w321 ⟨hr, (H : Cx w0 fp0 S0 w321 [Mp b9 s218, Bx b242 [(.string a233_0), (h237).v, (h238).v], Es (List (Int × Int × ByteArray)) a233_1_0 h237, Es (List (Int × Int × ByteArray)) a233_2_0 h238, Es (List (ByteArray × (List (Int × Int × ByteArray)) × (List (Int × Int × ByteArray)))) rules_ rules_h])⟩
        subst hr
        cases s280
        · have hF323 := condF hF283; clear hF283
          refine fld gok rfl rfl rfl rfl ?_
          refine load1 (H.bx 1 rfl (j := 0) rfl) ?_
          obtain ⟨a324, e, hF325⟩ := bindS hF323; clear hF323
          refine put_ Try.underlying51 Try.underlying9 H e ?_; clear e H; intro w326 H
          replace H : Cx w0 fp0 S0 w326 [Mp b9 a324, Bx b242 [(.string a233_0), (h237).v, (h238).v], Es (List (Int × Int × ByteArray)) a233_1_0 h237, Es (List (Int × Int × ByteArray)) a233_2_0 h238, Es (List (ByteArray × (List (Int × Int × ByteArray)) × (List (Int × Int × ByteArray)))) rules_ rules_h] := H
          refine arK hk hmx220 ?_
          have hs := Option.some.inj hF325; subst hs; clear hF325
          exact ⟨a324, (), rfl, ⟨rfl, rfl, rfl, rfl, trivial⟩, H.sel [0, 4] rfl⟩
        · have hF327 := condT hF283; clear hF283
          have hs := Option.some.inj hF327; subst hs; clear hF327
          have hr := hrt _ rfl; subst hr
          have hF328 : some _ = some _ := hF222
          cases hF328
          exact ⟨_, _, rfl, ⟨rfl, rfl⟩, (H.sel [] rfl).close trivial⟩
    · clear H e
      rintro T330 s331 _ w329 hr (H : Cx w0 fp0 S0 w329 [Mp b9 s331, Es (List (ByteArray × (List (Int × Int × ByteArray)) × (List (Int × Int × ByteArray)))) rules_ rules_h])
      subst hr
      refine boolE (z := false) geLen ?_
      refine sq ?_
      cases hF222
      exact ⟨_, _, rfl, ⟨rfl, rfl⟩, (H.sel [] rfl).close trivial⟩
  · have hF333 := condT hF6; clear hF6
    cases hF333
    exact ⟨_, _, rfl, ⟨rfl, rfl⟩, (H.sel [] rfl).close trivial⟩

theorem impl_AreRules_c (rules_ : List (ByteArray × (List (Int × Int × ByteArray)) × (List (Int × Int × ByteArray)))) (rules_h : Hd) (y : Bool) (hF : F_impl_AreRules rules_ = some y) :
    ConF Try.prog 7 #[(rules_h).v] [Es (List (ByteArray × (List (Int × Int × ByteArray)) × (List (Int × Int × ByteArray)))) rules_ rules_h] [] (fun v Γ' => v = (.bool y) ∧ Γ' = []) := by
  intro w0 S0 fp0 hI hS
  have H : Cx w0 fp0 S0 w0 [Es (List (ByteArray × (List (Int × Int × ByteArray)) × (List (Int × Int × ByteArray)))) rules_ rules_h] := Cx.start hI hS
  clear hI hS
  refine enterC (args := [_]) gok Try.func7 rfl _ rfl rfl rfl ?_
  obtain ⟨y2, e, hF3⟩ := bindS hF; clear hF
  have ey2 := e; clear e
  refine callF (impl_areRules_c rules_ rules_h y2 ey2) (Γi := []) H ⟨Vw.sh 0 rfl, trivial⟩ ?_; clear H ey2
  rintro _ _ w4 ⟨rfl, rfl⟩ (H : Cx w0 fp0 S0 w4 [Es (List (ByteArray × (List (Int × Int × ByteArray)) × (List (Int × Int × ByteArray)))) rules_ rules_h])
  cases hF3
  exact ⟨_, _, rfl, ⟨rfl, rfl⟩, (H.sel [] rfl).close trivial⟩

theorem laws_eqNode_c (a__0 : Int) (a__1 : Int) (a__2 : ByteArray) (b__0 : Int) (b__1 : Int) (b__2 : ByteArray) (y : Bool) (hF : F_laws_eqNode (a__0, a__1, a__2) (b__0, b__1, b__2) = some y) :
    ConF Try.prog 53 #[(.agg #[(.int .i64 a__0), (.int .i64 a__1), (.string a__2)]), (.agg #[(.int .i64 b__0), (.int .i64 b__1), (.string b__2)])] [] [] (fun v Γ' => v = (.bool y) ∧ Γ' = []) := by
  intro w0 S0 fp0 hI hS
  have H : Cx w0 fp0 S0 w0 [] := Cx.start hI hS
  clear hI hS
  refine enterC (args := [_, _]) gok Try.func53 rfl _ rfl rfl rfl ?_
  refine box_ H ?_; clear H; intro b2 w1 hx H
  clear hx
  replace H : Cx w0 fp0 S0 w1 [Bx b2 [(.int .i64 a__0), (.int .i64 a__1), (.string a__2)]] := H
  refine box_ H ?_; clear H; intro b5 w4 hx H
  clear hx
  replace H : Cx w0 fp0 S0 w4 [Bx b5 [(.int .i64 b__0), (.int .i64 b__1), (.string b__2)], Bx b2 [(.int .i64 a__0), (.int .i64 a__1), (.string a__2)]] := H
  refine sq ?_
  refine fld gok rfl rfl rfl rfl ?_
  refine load1 (H.bx 1 rfl (j := 0) rfl) ?_
  refine fld gok rfl rfl rfl rfl ?_
  refine load1 (H.bx 0 rfl (j := 0) rfl) ?_
  obtain ⟨a7, e, hF8⟩ := bindS hF; clear hF
  refine boolO e ?_; clear e
  cases a7
  · have hF9 := condF hF8; clear hF8
    refine sq ?_
    refine fld gok rfl rfl rfl rfl ?_
    refine load1 (H.bx 1 rfl (j := 1) rfl) ?_
    refine fld gok rfl rfl rfl rfl ?_
    refine load1 (H.bx 0 rfl (j := 1) rfl) ?_
    obtain ⟨a10, e, hF11⟩ := bindS hF9; clear hF9
    refine boolO e ?_; clear e
    cases a10
    · have hF12 := condF hF11; clear hF11
      refine sq ?_
      refine fld gok rfl rfl rfl rfl ?_
      refine load1 (H.bx 1 rfl (j := 2) rfl) ?_
      refine fld gok rfl rfl rfl rfl ?_
      refine load1 (H.bx 0 rfl (j := 2) rfl) ?_
      obtain ⟨a13, e, hF14⟩ := bindS hF12; clear hF12
      refine neqZ e ?_; clear e
      cases a13
      · have hF15 := condF hF14; clear hF14
        cases hF15
        exact ⟨_, _, rfl, ⟨rfl, rfl⟩, (H.sel [] rfl).close trivial⟩
      · have hF16 := condT hF14; clear hF14
        cases hF16
        exact ⟨_, _, rfl, ⟨rfl, rfl⟩, (H.sel [] rfl).close trivial⟩
    · have hF17 := condT hF11; clear hF11
      cases hF17
      exact ⟨_, _, rfl, ⟨rfl, rfl⟩, (H.sel [] rfl).close trivial⟩
  · have hF18 := condT hF8; clear hF8
    cases hF18
    exact ⟨_, _, rfl, ⟨rfl, rfl⟩, (H.sel [] rfl).close trivial⟩

theorem laws_eqNodeS_c (a_ : List (Int × Int × ByteArray)) (a_h : Hd) (b_ : List (Int × Int × ByteArray)) (b_h : Hd) (y : Bool) (hF : F_laws_eqNodeS a_ b_ = some y) :
    ConF Try.prog 31 #[(a_h).v, (b_h).v] [Es (List (Int × Int × ByteArray)) a_ a_h, Es (List (Int × Int × ByteArray)) b_ b_h] [] (fun v Γ' => v = (.bool y) ∧ Γ' = []) := by
  intro w0 S0 fp0 hI hS
  have H : Cx w0 fp0 S0 w0 [Es (List (Int × Int × ByteArray)) a_ a_h, Es (List (Int × Int × ByteArray)) b_ b_h] := Cx.start hI hS
  clear hI hS
  refine enterC (args := [_, _]) gok Try.func31 rfl _ rfl rfl rfl ?_
  refine sq ?_
  refine lenE (H.rs (α := List (Int × Int × ByteArray)) 0 rfl).len ?_
  refine lenE (H.rs (α := List (Int × Int × ByteArray)) 1 rfl).len ?_
  obtain ⟨a3, e, hF4⟩ := bindS hF; clear hF
  refine boolO e ?_; clear e
  cases a3
  · have hF5 := condF hF4; clear hF4
    obtain ⟨r125, hF127, hF126⟩ := bindS hF5; clear hF5
    refine cut (fun (q128 : Unit) => []) (fun (q128 : Unit) w' => .inl () = r125 ∧ Cx w0 fp0 S0 w' []) ?_ ?_
    · skip
      refine loopW _ (fun (s201 : Int) (_ : Unit) => [(0, (a_h).v), (1, (b_h).v), (5, (.int .i64 s201))]) (fun (s201 : Int) (_ : Unit) w' => Cx w0 fp0 S0 w' [Es (List (Int × Int × ByteArray)) a_ a_h, Es (List (Int × Int × ByteArray)) b_ b_h]) 0 () hF127 ⟨rfl, rfl, rfl, trivial⟩ (H.sel [0, 1] rfl) ?_
      · clear H
        rintro T207 s201 _ w206 o208 (H : Cx w0 fp0 S0 w206 [Es (List (Int × Int × ByteArray)) a_ a_h, Es (List (Int × Int × ByteArray)) b_ b_h]) hrt hF209
        refine sq ?_
        refine lenE (H.rs (α := List (Int × Int × ByteArray)) 0 rfl).len ?_
        obtain ⟨a210, e, hF211⟩ := bindS hF209; clear hF209
        refine boolO e ?_; clear e
        cases a210
        · have hF212 := condF hF211; clear hF211
          have hs := Option.some.inj hF212; subst hs; clear hF212
          have hF213 : some _ = some _ := congrArg some (hrt _ rfl).symm
          exact ⟨(), trivial, Option.some.inj hF213, H.sel [] rfl⟩
        · have hF214 := condT hF211; clear hF211
          refine sq ?_
          refine heldX H [] (.fst 0 (.fst 1 (.fst 2 (.fst 4 (.fst 5 (.fst 6 (.fst 3 (.fst 7 (.act 8 (.fst 9 .done)))))))))) mixed [] trivial (by kernel_rfl) ?_
          clear H; intro w215 H
          have hX : Ext w215 w215 := Upd.refl _ _
          have H0 := H
          obtain ⟨a222, e, hF223⟩ := bindS hF214; clear hF214
          have HH := H; clear H; obtain ⟨p220, m221, g224, c216, c217, c218, c219, H⟩ := HH.el (α := Int × Int × ByteArray) 0 rfl e; clear HH
          clear e
          obtain ⟨a222_0, a222_1, a222_2⟩ := a222
          obtain ⟨_, _, _⟩ := g224
          replace H := H.sel [1, 2] rfl
          refine idxE c216 c217 c218 ?_; clear c216 c217 c218
          obtain ⟨a232, e, hF233⟩ := bindS hF223; clear hF223
          have HH := H; clear H; obtain ⟨p230, m231, g234, c226, c227, c228, c229, H⟩ := HH.el (α := Int × Int × ByteArray) 1 rfl e; clear HH
          clear e
          obtain ⟨a232_0, a232_1, a232_2⟩ := a232
          obtain ⟨_, _, _⟩ := g234
          replace H := H.sel [1, 2] rfl
          refine idxE c226 c227 c228 ?_; clear c226 c227 c228
          refine loadNX [(.int .i64 a222_0), (.int .i64 a222_1), (.string a222_2)] rfl c219 ?_; clear c219
          refine loadNX [(.int .i64 a232_0), (.int .i64 a232_1), (.string a232_2)] rfl c229 ?_; clear c229
          obtain ⟨y236, e, hF237⟩ := bindS hF233; clear hF233
          have ey236 := e; clear e
          refine callFx (laws_eqNode_c a222_0 a222_1 a222_2 a232_0 a232_1 a232_2 y236 ey236) H trivial ?_; clear H ey236
          rintro _ _ w238 ⟨rfl, rfl⟩ hx (H : Cx w0 fp0 S0 w238 [Es (List (Int × Int × ByteArray)) a_ a_h, Es (List (Int × Int × ByteArray)) b_ b_h])
          replace hX := hX.trans0 hx; clear hx
          refine hold hX ?_
          obtain ⟨a239, e, hF240⟩ := bindS hF237; clear hF237
          refine boolO e ?_; clear e
          cases a239
          · have hF241 := condF hF240; clear hF240
            obtain ⟨a242, e, hF243⟩ := bindS hF241; clear hF241
            refine arO e ?_; clear e
            have hs := Option.some.inj hF243; subst hs; clear hF243
            exact ⟨a242, (), rfl, ⟨rfl, rfl, rfl, trivial⟩, H.sel [0, 1] rfl⟩
          · have hF244 := condT hF240; clear hF240
            have hs := Option.some.inj hF244; subst hs; clear hF244
            have hF245 : some _ = some _ := congrArg some (hrt _ rfl).symm
            have hs := Option.some.inj hF245; subst hs; clear hF245
            have hF246 : some _ = some _ := hF126; clear hF126
            cases hF246
            exact ⟨_, _, rfl, ⟨rfl, rfl⟩, (H.sel [] rfl).close trivial⟩
    · clear hF127 H
      rintro T248 _ w247 ⟨hr, (H : Cx w0 fp0 S0 w247 [])⟩
      subst hr
      cases hF126
      exact ⟨_, _, rfl, ⟨rfl, rfl⟩, (H.sel [] rfl).close trivial⟩
  · have hF249 := condT hF4; clear hF4
    cases hF249
    exact ⟨_, _, rfl, ⟨rfl, rfl⟩, (H.sel [] rfl).close trivial⟩

theorem laws_eqTerm_c (a__0 : List (Int × Int × ByteArray)) (a__0h : Hd) (b__0 : List (Int × Int × ByteArray)) (b__0h : Hd) (y : Bool) (hF : F_laws_eqTerm a__0 b__0 = some y) :
    ConF Try.prog 22 #[(.agg #[(a__0h).v]), (.agg #[(b__0h).v])] [Es (List (Int × Int × ByteArray)) a__0 a__0h, Es (List (Int × Int × ByteArray)) b__0 b__0h] [] (fun v Γ' => v = (.bool y) ∧ Γ' = []) := by
  intro w0 S0 fp0 hI hS
  have H : Cx w0 fp0 S0 w0 [Es (List (Int × Int × ByteArray)) a__0 a__0h, Es (List (Int × Int × ByteArray)) b__0 b__0h] := Cx.start hI hS
  clear hI hS
  refine enterC (args := [_, _]) gok Try.func22 rfl _ rfl rfl rfl ?_
  refine box_ H ?_; clear H; intro b4 w3 hx H
  clear hx
  replace H : Cx w0 fp0 S0 w3 [Bx b4 [(a__0h).v], Es (List (Int × Int × ByteArray)) a__0 a__0h, Es (List (Int × Int × ByteArray)) b__0 b__0h] := H
  refine box_ H ?_; clear H; intro b7 w6 hx H
  clear hx
  replace H : Cx w0 fp0 S0 w6 [Bx b7 [(b__0h).v], Bx b4 [(a__0h).v], Es (List (Int × Int × ByteArray)) a__0 a__0h, Es (List (Int × Int × ByteArray)) b__0 b__0h] := H
  refine sq ?_
  refine fld gok rfl rfl rfl rfl ?_
  refine load1 (H.bx 1 rfl (j := 0) rfl) ?_
  refine fld gok rfl rfl rfl rfl ?_
  refine load1 (H.bx 0 rfl (j := 0) rfl) ?_
  obtain ⟨y9, e, hF10⟩ := bindS hF; clear hF
  have ey9 := e; clear e
  refine callF (laws_eqNodeS_c a__0 a__0h b__0 b__0h y9 ey9) (Γi := []) H ⟨Vw.sh 2 rfl, Vw.sh 3 rfl, trivial⟩ ?_; clear H ey9
  rintro _ _ w11 ⟨rfl, rfl⟩ (H : Cx w0 fp0 S0 w11 [Bx b7 [(b__0h).v], Bx b4 [(a__0h).v], Es (List (Int × Int × ByteArray)) a__0 a__0h, Es (List (Int × Int × ByteArray)) b__0 b__0h])
  obtain ⟨a12, e, hF13⟩ := bindS hF10; clear hF10
  refine boolO e ?_; clear e
  cases a12
  · have hF14 := condF hF13; clear hF13
    cases hF14
    exact ⟨_, _, rfl, ⟨rfl, rfl⟩, (H.sel [] rfl).close trivial⟩
  · have hF15 := condT hF13; clear hF13
    cases hF15
    exact ⟨_, _, rfl, ⟨rfl, rfl⟩, (H.sel [] rfl).close trivial⟩

theorem laws_eqRule_c (a__0 : ByteArray) (a__1_0 : List (Int × Int × ByteArray)) (a__1_0h : Hd) (a__2_0 : List (Int × Int × ByteArray)) (a__2_0h : Hd) (b__0 : ByteArray) (b__1_0 : List (Int × Int × ByteArray)) (b__1_0h : Hd) (b__2_0 : List (Int × Int × ByteArray)) (b__2_0h : Hd) (y : Bool) (hF : F_laws_eqRule (a__0, a__1_0, a__2_0) (b__0, b__1_0, b__2_0) = some y) :
    ConF Try.prog 13 #[(.agg #[(.string a__0), (a__1_0h).v, (a__2_0h).v]), (.agg #[(.string b__0), (b__1_0h).v, (b__2_0h).v])] [Es (List (Int × Int × ByteArray)) a__1_0 a__1_0h, Es (List (Int × Int × ByteArray)) a__2_0 a__2_0h, Es (List (Int × Int × ByteArray)) b__1_0 b__1_0h, Es (List (Int × Int × ByteArray)) b__2_0 b__2_0h] [] (fun v Γ' => v = (.bool y) ∧ Γ' = []) := by
  intro w0 S0 fp0 hI hS
  have H : Cx w0 fp0 S0 w0 [Es (List (Int × Int × ByteArray)) a__1_0 a__1_0h, Es (List (Int × Int × ByteArray)) a__2_0 a__2_0h, Es (List (Int × Int × ByteArray)) b__1_0 b__1_0h, Es (List (Int × Int × ByteArray)) b__2_0 b__2_0h] := Cx.start hI hS
  clear hI hS
  refine enterC (args := [_, _]) gok Try.func13 rfl _ rfl rfl rfl ?_
  refine box_ H ?_; clear H; intro b6 w5 hx H
  clear hx
  replace H : Cx w0 fp0 S0 w5 [Bx b6 [(.string a__0), (a__1_0h).v, (a__2_0h).v], Es (List (Int × Int × ByteArray)) a__1_0 a__1_0h, Es (List (Int × Int × ByteArray)) a__2_0 a__2_0h, Es (List (Int × Int × ByteArray)) b__1_0 b__1_0h, Es (List (Int × Int × ByteArray)) b__2_0 b__2_0h] := H
  refine box_ H ?_; clear H; intro b9 w8 hx H
  clear hx
  replace H : Cx w0 fp0 S0 w8 [Bx b9 [(.string b__0), (b__1_0h).v, (b__2_0h).v], Bx b6 [(.string a__0), (a__1_0h).v, (a__2_0h).v], Es (List (Int × Int × ByteArray)) a__1_0 a__1_0h, Es (List (Int × Int × ByteArray)) a__2_0 a__2_0h, Es (List (Int × Int × ByteArray)) b__1_0 b__1_0h, Es (List (Int × Int × ByteArray)) b__2_0 b__2_0h] := H
  refine sq ?_
  refine fld gok rfl rfl rfl rfl ?_
  refine load1 (H.bx 1 rfl (j := 0) rfl) ?_
  refine fld gok rfl rfl rfl rfl ?_
  refine load1 (H.bx 0 rfl (j := 0) rfl) ?_
  obtain ⟨a11, e, hF12⟩ := bindS hF; clear hF
  refine neqZ e ?_; clear e
  cases a11
  · have hF13 := condF hF12; clear hF12
    refine sq ?_
    refine fld gok rfl rfl rfl rfl ?_
    refine loadN [(a__1_0h).v] rfl (H.bxs 1 rfl 1 rfl) ?_
    refine fld gok rfl rfl rfl rfl ?_
    refine loadN [(b__1_0h).v] rfl (H.bxs 0 rfl 1 rfl) ?_
    obtain ⟨y14, e, hF15⟩ := bindS hF13; clear hF13
    have ey14 := e; clear e
    refine callF (laws_eqTerm_c a__1_0 a__1_0h b__1_0 b__1_0h y14 ey14) (Γi := []) H ⟨Vw.sh 2 rfl, Vw.sh 4 rfl, trivial⟩ ?_; clear H ey14
    rintro _ _ w16 ⟨rfl, rfl⟩ (H : Cx w0 fp0 S0 w16 [Bx b9 [(.string b__0), (b__1_0h).v, (b__2_0h).v], Bx b6 [(.string a__0), (a__1_0h).v, (a__2_0h).v], Es (List (Int × Int × ByteArray)) a__1_0 a__1_0h, Es (List (Int × Int × ByteArray)) a__2_0 a__2_0h, Es (List (Int × Int × ByteArray)) b__1_0 b__1_0h, Es (List (Int × Int × ByteArray)) b__2_0 b__2_0h])
    obtain ⟨a17, e, hF18⟩ := bindS hF15; clear hF15
    refine boolO e ?_; clear e
    cases a17
    · have hF19 := condF hF18; clear hF18
      refine sq ?_
      refine fld gok rfl rfl rfl rfl ?_
      refine loadN [(a__2_0h).v] rfl (H.bxs 1 rfl 2 rfl) ?_
      refine fld gok rfl rfl rfl rfl ?_
      refine loadN [(b__2_0h).v] rfl (H.bxs 0 rfl 2 rfl) ?_
      obtain ⟨y20, e, hF21⟩ := bindS hF19; clear hF19
      have ey20 := e; clear e
      refine callF (laws_eqTerm_c a__2_0 a__2_0h b__2_0 b__2_0h y20 ey20) (Γi := []) H ⟨Vw.sh 3 rfl, Vw.sh 5 rfl, trivial⟩ ?_; clear H ey20
      rintro _ _ w22 ⟨rfl, rfl⟩ (H : Cx w0 fp0 S0 w22 [Bx b9 [(.string b__0), (b__1_0h).v, (b__2_0h).v], Bx b6 [(.string a__0), (a__1_0h).v, (a__2_0h).v], Es (List (Int × Int × ByteArray)) a__1_0 a__1_0h, Es (List (Int × Int × ByteArray)) a__2_0 a__2_0h, Es (List (Int × Int × ByteArray)) b__1_0 b__1_0h, Es (List (Int × Int × ByteArray)) b__2_0 b__2_0h])
      obtain ⟨a23, e, hF24⟩ := bindS hF21; clear hF21
      refine boolO e ?_; clear e
      cases a23
      · have hF25 := condF hF24; clear hF24
        cases hF25
        exact ⟨_, _, rfl, ⟨rfl, rfl⟩, (H.sel [] rfl).close trivial⟩
      · have hF26 := condT hF24; clear hF24
        cases hF26
        exact ⟨_, _, rfl, ⟨rfl, rfl⟩, (H.sel [] rfl).close trivial⟩
    · have hF27 := condT hF18; clear hF18
      cases hF27
      exact ⟨_, _, rfl, ⟨rfl, rfl⟩, (H.sel [] rfl).close trivial⟩
  · have hF28 := condT hF12; clear hF12
    cases hF28
    exact ⟨_, _, rfl, ⟨rfl, rfl⟩, (H.sel [] rfl).close trivial⟩

theorem laws_eqRuleS_c (a_ : List (ByteArray × (List (Int × Int × ByteArray)) × (List (Int × Int × ByteArray)))) (a_h : Hd) (b_ : List (ByteArray × (List (Int × Int × ByteArray)) × (List (Int × Int × ByteArray)))) (b_h : Hd) (y : Bool) (hF : F_laws_eqRuleS a_ b_ = some y) :
    ConF Try.prog 8 #[(a_h).v, (b_h).v] [Es (List (ByteArray × (List (Int × Int × ByteArray)) × (List (Int × Int × ByteArray)))) a_ a_h, Es (List (ByteArray × (List (Int × Int × ByteArray)) × (List (Int × Int × ByteArray)))) b_ b_h] [] (fun v Γ' => v = (.bool y) ∧ Γ' = []) := by
  intro w0 S0 fp0 hI hS
  have H : Cx w0 fp0 S0 w0 [Es (List (ByteArray × (List (Int × Int × ByteArray)) × (List (Int × Int × ByteArray)))) a_ a_h, Es (List (ByteArray × (List (Int × Int × ByteArray)) × (List (Int × Int × ByteArray)))) b_ b_h] := Cx.start hI hS
  clear hI hS
  refine enterC (args := [_, _]) gok Try.func8 rfl _ rfl rfl rfl ?_
  refine sq ?_
  refine lenE (H.rs (α := List (ByteArray × (List (Int × Int × ByteArray)) × (List (Int × Int × ByteArray)))) 0 rfl).len ?_
  refine lenE (H.rs (α := List (ByteArray × (List (Int × Int × ByteArray)) × (List (Int × Int × ByteArray)))) 1 rfl).len ?_
  obtain ⟨a3, e, hF4⟩ := bindS hF; clear hF
  refine boolO e ?_; clear e
  cases a3
  · have hF5 := condF hF4; clear hF4
    obtain ⟨r149, hF151, hF150⟩ := bindS hF5; clear hF5
    refine cut (fun (q152 : Unit) => []) (fun (q152 : Unit) w' => .inl () = r149 ∧ Cx w0 fp0 S0 w' []) ?_ ?_
    · skip
      refine loopW _ (fun (s241 : Int) (_ : Unit) => [(0, (a_h).v), (1, (b_h).v), (5, (.int .i64 s241))]) (fun (s241 : Int) (_ : Unit) w' => Cx w0 fp0 S0 w' [Es (List (ByteArray × (List (Int × Int × ByteArray)) × (List (Int × Int × ByteArray)))) a_ a_h, Es (List (ByteArray × (List (Int × Int × ByteArray)) × (List (Int × Int × ByteArray)))) b_ b_h]) 0 () hF151 ⟨rfl, rfl, rfl, trivial⟩ (H.sel [0, 1] rfl) ?_
      · clear H
        rintro T247 s241 _ w246 o248 (H : Cx w0 fp0 S0 w246 [Es (List (ByteArray × (List (Int × Int × ByteArray)) × (List (Int × Int × ByteArray)))) a_ a_h, Es (List (ByteArray × (List (Int × Int × ByteArray)) × (List (Int × Int × ByteArray)))) b_ b_h]) hrt hF249
        refine sq ?_
        refine lenE (H.rs (α := List (ByteArray × (List (Int × Int × ByteArray)) × (List (Int × Int × ByteArray)))) 0 rfl).len ?_
        obtain ⟨a250, e, hF251⟩ := bindS hF249; clear hF249
        refine boolO e ?_; clear e
        cases a250
        · have hF252 := condF hF251; clear hF251
          have hs := Option.some.inj hF252; subst hs; clear hF252
          have hF253 : some _ = some _ := congrArg some (hrt _ rfl).symm
          exact ⟨(), trivial, Option.some.inj hF253, H.sel [] rfl⟩
        · have hF254 := condT hF251; clear hF251
          refine sq ?_
          refine heldX H [] (.fst 0 (.fst 1 (.fst 2 (.fst 4 (.fst 5 (.fst 6 (.fst 3 (.fst 7 (.act 8 (.fst 9 .done)))))))))) mixed [] trivial (by kernel_rfl) ?_
          clear H; intro w255 H
          have hX : Ext w255 w255 := Upd.refl _ _
          have H0 := H
          obtain ⟨a262, e, hF263⟩ := bindS hF254; clear hF254
          have HH := H; clear H; obtain ⟨p260, m261, g264, c256, c257, c258, c259, H⟩ := HH.el (α := ByteArray × (List (Int × Int × ByteArray)) × (List (Int × Int × ByteArray))) 0 rfl e; clear HH
          clear e
          obtain ⟨a262_0, a262_1_0, a262_2_0⟩ := a262
          obtain ⟨_, h266, h267⟩ := g264
          replace H := H.part (β := List (Int × Int × ByteArray)) a262_1_0 (h266 : Hd) 0 rfl (fun S h => (And.left (And.right h)))
          replace H := H.part (β := List (Int × Int × ByteArray)) a262_2_0 (h267 : Hd) 1 rfl (fun S h => (And.right (And.right h)))
          replace H := H.sel [0, 1, 3, 4] rfl
          refine idxE c256 c257 c258 ?_; clear c256 c257 c258
          obtain ⟨a276, e, hF277⟩ := bindS hF263; clear hF263
          have HH := H; clear H; obtain ⟨p274, m275, g278, c270, c271, c272, c273, H⟩ := HH.el (α := ByteArray × (List (Int × Int × ByteArray)) × (List (Int × Int × ByteArray))) 3 rfl e; clear HH
          clear e
          obtain ⟨a276_0, a276_1_0, a276_2_0⟩ := a276
          obtain ⟨_, h280, h281⟩ := g278
          replace H := H.part (β := List (Int × Int × ByteArray)) a276_1_0 (h280 : Hd) 0 rfl (fun S h => (And.left (And.right h)))
          replace H := H.part (β := List (Int × Int × ByteArray)) a276_2_0 (h281 : Hd) 1 rfl (fun S h => (And.right (And.right h)))
          replace H := H.sel [0, 1, 3, 4, 5, 6] rfl
          refine idxE c270 c271 c272 ?_; clear c270 c271 c272
          refine loadNX [(.string a262_0), (h266).v, (h267).v] rfl c259 ?_; clear c259
          refine loadNX [(.string a276_0), (h280).v, (h281).v] rfl c273 ?_; clear c273
          obtain ⟨y284, e, hF285⟩ := bindS hF277; clear hF277
          have ey284 := e; clear e
          refine callFx (laws_eqRule_c a262_0 a262_1_0 h266 a262_2_0 h267 a276_0 a276_1_0 h280 a276_2_0 h281 y284 ey284) H ⟨Vw.sh 3 rfl, Vw.sh 2 rfl, Vw.sh 1 rfl, Vw.sh 0 rfl, trivial⟩ ?_; clear H ey284
          rintro _ _ w286 ⟨rfl, rfl⟩ hx (H : Cx w0 fp0 S0 w286 [Es (List (Int × Int × ByteArray)) a276_2_0 h281, Es (List (Int × Int × ByteArray)) a276_1_0 h280, Es (List (Int × Int × ByteArray)) a262_2_0 h267, Es (List (Int × Int × ByteArray)) a262_1_0 h266, Es (List (ByteArray × (List (Int × Int × ByteArray)) × (List (Int × Int × ByteArray)))) a_ a_h, Es (List (ByteArray × (List (Int × Int × ByteArray)) × (List (Int × Int × ByteArray)))) b_ b_h])
          replace hX := hX.trans0 hx; clear hx
          refine hold hX ?_
          obtain ⟨a287, e, hF288⟩ := bindS hF285; clear hF285
          refine boolO e ?_; clear e
          cases a287
          · have hF289 := condF hF288; clear hF288
            obtain ⟨a290, e, hF291⟩ := bindS hF289; clear hF289
            refine arO e ?_; clear e
            have hs := Option.some.inj hF291; subst hs; clear hF291
            exact ⟨a290, (), rfl, ⟨rfl, rfl, rfl, trivial⟩, H.sel [4, 5] rfl⟩
          · have hF292 := condT hF288; clear hF288
            have hs := Option.some.inj hF292; subst hs; clear hF292
            have hF293 : some _ = some _ := congrArg some (hrt _ rfl).symm
            have hs := Option.some.inj hF293; subst hs; clear hF293
            have hF294 : some _ = some _ := hF150; clear hF150
            cases hF294
            exact ⟨_, _, rfl, ⟨rfl, rfl⟩, (H.sel [] rfl).close trivial⟩
    · clear hF151 H
      rintro T296 _ w295 ⟨hr, (H : Cx w0 fp0 S0 w295 [])⟩
      subst hr
      cases hF150
      exact ⟨_, _, rfl, ⟨rfl, rfl⟩, (H.sel [] rfl).close trivial⟩
  · have hF297 := condT hF4; clear hF4
    cases hF297
    exact ⟨_, _, rfl, ⟨rfl, rfl⟩, (H.sel [] rfl).close trivial⟩
end Go.Proofs.Ytaiddnddgmkfnaa
