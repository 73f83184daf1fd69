/-
  Contracts, printed by a program (wip/y/gen.py): each function of Go computes its partial function. Condition of each: its partial function yields a value.
-/
import Derived.Test.YtgfnophfoccamaaZCall
namespace Go.Proofs.Ytgfnophfoccamaa
open Go Go.Proofs.Ytgfnophfoccamaa.RW
set_option maxRecDepth 100000
set_option linter.unusedVariables false

theorem impl_Graph_moved_c (g__0 : Int) (g__1 : List (Int × Int × List Int × List Int)) (g__1h : Hd) (g__2 : List Int) (g__2h : Hd) (g__3 : List Int) (g__3h : Hd) (count_ : Int) (to_ : List Int) (to_h : Hd) (y_0 : Int) (y_1 : List (Int × Int × List Int × List Int)) (y_2 : List Int) (y_3 : List Int) (hF : F_impl_Graph_moved (g__0, g__1, g__2, g__3) count_ to_ = some (y_0, y_1, y_2, y_3)) :
    ConF Try.prog 127 #[(.agg #[(.int .i64 g__0), (g__1h).v, (g__2h).v, (g__3h).v]), (.int .i64 count_), (to_h).v] [Es (List (Int × Int × List Int × List Int)) g__1 g__1h, Es (List Int) g__2 g__2h, Es (List Int) g__3 g__3h, Es (List Int) to_ to_h] [] (fun v Γ' => ∃ z0 z1 z2 : Hd, v = (.agg #[(.int .i64 y_0), (z0).v, (z1).v, (z2).v]) ∧ Γ' = [E (List (Int × Int × List Int × List Int)) y_1 z0, E (List Int) y_2 z1, E (List Int) y_3 z2]) := by
  intro w0 S0 fp0 hI hS
  have H : Cx w0 fp0 S0 w0 [Es (List (Int × Int × List Int × List Int)) g__1 g__1h, Es (List Int) g__2 g__2h, Es (List Int) g__3 g__3h, Es (List Int) to_ to_h] := Cx.start hI hS
  clear hI hS
  refine enterC (args := [_, _, _]) gok Try.func127 rfl _ rfl rfl rfl ?_
  refine box_ H ?_; clear H; intro b6 w5 hx H
  clear hx
  replace H : Cx w0 fp0 S0 w5 [Bx b6 [(.int .i64 g__0), (g__1h).v, (g__2h).v, (g__3h).v], Es (List (Int × Int × List Int × List Int)) g__1 g__1h, Es (List Int) g__2 g__2h, Es (List Int) g__3 g__3h, Es (List Int) to_ to_h] := H
  refine alloc_ gok rfl H ?_; clear H; intro b9 w8 hx H
  clear hx
  replace H : Cx w0 fp0 S0 w8 [Bx b9 [(.int .i64 0), (.slice none 0 0), (.slice none 0 0), (.slice none 0 0)], Bx b6 [(.int .i64 g__0), (g__1h).v, (g__2h).v, (g__3h).v], Es (List (Int × Int × List Int × List Int)) g__1 g__1h, Es (List Int) g__2 g__2h, Es (List Int) g__3 g__3h, Es (List Int) to_ to_h] := H
  obtain ⟨r80, hF82, hF81⟩ := bindS hF; clear hF
  refine heldJ H [11] (.fst 0 (.fst 1 (.fst 3 (.fst 5 (.fst 7 (.fst 2 (.fst 6 (.alts (.alt 4 (.alts (.alt 8 (.fst 9 (.act 10 (.act 11 .done))) (.alt 10 (.act 8 (.fst 9 (.act 11 .done))) .no))) (.alt 10 (.act 4 (.act 8 (.fst 9 (.act 11 .done)))) .no)))))))))) mixed [] trivial (by kernel_rfl) (fun (q83 : (Int × List Int × List Int) × (Hd × Hd × Nat)) => [(2, (to_h).v), (3, (.pointer (some ⟨b6, 0, none⟩))), (6, (.pointer (some ⟨b9, 0, none⟩))), (7, (.pointer (some ⟨q83.2.2.2, 0, none⟩)))]) (fun (q83 : (Int × List Int × List Int) × (Hd × Hd × Nat)) w' => (q83.1.1, q83.1.2.1, q83.1.2.2) = r80 ∧ Cx w0 fp0 S0 w' [Es (List Int) to_ to_h, Bx b6 [(.int .i64 g__0), (g__1h).v, (g__2h).v, (g__3h).v], Es (List (Int × Int × List Int × List Int)) g__1 g__1h, Es (List Int) g__2 g__2h, Es (List Int) g__3 g__3h, Bx b9 [(.int .i64 0), (.slice none 0 0), (.slice none 0 0), (.slice none 0 0)], Bx q83.2.2.2 [(.int .i64 q83.1.1), (.slice none 0 0), (q83.2.1).v, (q83.2.2.1).v], E (List Int) q83.1.2.1 q83.2.1, E (List Int) q83.1.2.2 q83.2.2.1]) ?_ ?_
  · skip
    clear H; intro w84 H
    have hX : Ext w84 w84 := Upd.refl _ _
    have H0 := H
    refine anyH (fun _ => fld gok rfl rfl rfl rfl ⟨rfl, rfl⟩) ?_
    refine anyH (fun _ => fld gok rfl rfl rfl rfl ⟨rfl, rfl⟩) ?_
    refine load1X (H.bx 1 rfl (j := 2) rfl) ?_
    refine load1X (H.bx 1 rfl (j := 3) rfl) ?_
    refine both ?_ ?_
    · skip
      obtain ⟨y99, e, hF100⟩ := bindS hF82; clear hF82
      have ey99 := e; clear e
      refine callFx (impl_mapped_c g__2 g__2h to_ to_h y99 ey99) H ⟨Vw.sh 3 rfl, Vw.sh 5 rfl, trivial⟩ ?_; clear H ey99
      rintro _ _ w101 ⟨h102, rfl, rfl⟩ hx (H : Cx w0 fp0 S0 w101 [E (List Int) y99 h102, Bx b9 [(.int .i64 0), (.slice none 0 0), (.slice none 0 0), (.slice none 0 0)], Bx b6 [(.int .i64 g__0), (g__1h).v, (g__2h).v, (g__3h).v], Es (List (Int × Int × List Int × List Int)) g__1 g__1h, Es (List Int) g__2 g__2h, Es (List Int) g__3 g__3h, Es (List Int) to_ to_h])
      replace hX := hX.trans0 hx; clear hx
      refine hold hX ?_
      refine both ?_ ?_
      · skip
        obtain ⟨y113, e, hF114⟩ := bindS hF100; clear hF100
        have ey113 := e; clear e
        refine callFx (impl_mapped_c g__3 g__3h to_ to_h y113 ey113) H ⟨Vw.sh 5 rfl, Vw.sh 6 rfl, trivial⟩ ?_; clear H ey113
        rintro _ _ w115 ⟨h116, rfl, rfl⟩ hx (H : Cx w0 fp0 S0 w115 [E (List Int) y113 h116, E (List Int) y99 h102, Bx b9 [(.int .i64 0), (.slice none 0 0), (.slice none 0 0), (.slice none 0 0)], Bx b6 [(.int .i64 g__0), (g__1h).v, (g__2h).v, (g__3h).v], Es (List (Int × Int × List Int × List Int)) g__1 g__1h, Es (List Int) g__2 g__2h, Es (List Int) g__3 g__3h, Es (List Int) to_ to_h])
        replace hX := hX.trans0 hx; clear hx
        refine hold hX ?_
        refine anyH (fun _ => build_ (cs := #[(.int .i64 count_), (.slice none 0 0), (h102).v, (h116).v]) gok rfl rfl rfl ⟨rfl, rfl⟩) ?_
        refine alloc_ gok rfl H ?_; clear H; intro b119 w118 hx H
        replace hX := hX.trans0 hx; clear hx
        replace H : Cx w0 fp0 S0 w118 [Bx b119 [(.int .i64 0), (.slice none 0 0), (.slice none 0 0), (.slice none 0 0)], E (List Int) y113 h116, E (List Int) y99 h102, Bx b9 [(.int .i64 0), (.slice none 0 0), (.slice none 0 0), (.slice none 0 0)], Bx b6 [(.int .i64 g__0), (g__1h).v, (g__2h).v, (g__3h).v], Es (List (Int × Int × List Int × List Int)) g__1 g__1h, Es (List Int) g__2 g__2h, Es (List Int) g__3 g__3h, Es (List Int) to_ to_h] := H
        refine hold hX ?_
        refine stA gok [(.int .i64 count_), (.slice none 0 0), (h102).v, (h116).v] rfl H rfl rfl rfl ?_; clear H; intro w121 H
        replace H : Cx w0 fp0 S0 w121 [Bx b119 [(.int .i64 count_), (.slice none 0 0), (h102).v, (h116).v], E (List Int) y113 h116, E (List Int) y99 h102, Bx b9 [(.int .i64 0), (.slice none 0 0), (.slice none 0 0), (.slice none 0 0)], Bx b6 [(.int .i64 g__0), (g__1h).v, (g__2h).v, (g__3h).v], Es (List (Int × Int × List Int × List Int)) g__1 g__1h, Es (List Int) g__2 g__2h, Es (List Int) g__3 g__3h, Es (List Int) to_ to_h] := H
        refine hold trivial ?_
        exact ⟨((count_, y99, y113), (h102, h116, b119)), ⟨rfl, rfl, rfl, rfl, trivial⟩, Option.some.inj hF114, H.sel [8, 4, 5, 6, 7, 3, 0, 2, 1] rfl⟩
      · skip
        refine both ?_ ?_
        · skip
          obtain ⟨a122, eq123, hF124⟩ := bindS hF100; clear hF100
          refine alloc_ gok rfl H ?_; clear H; intro b126 w125 hx H
          replace hX := hX.trans0 hx; clear hx
          replace H : Cx w0 fp0 S0 w125 [Bx b126 [(.int .i64 0), (.slice none 0 0), (.slice none 0 0), (.slice none 0 0)], E (List Int) y99 h102, Bx b9 [(.int .i64 0), (.slice none 0 0), (.slice none 0 0), (.slice none 0 0)], Bx b6 [(.int .i64 g__0), (g__1h).v, (g__2h).v, (g__3h).v], Es (List (Int × Int × List Int × List Int)) g__1 g__1h, Es (List Int) g__2 g__2h, Es (List Int) g__3 g__3h, Es (List Int) to_ to_h] := H
          refine hold hX ?_
          have e := eq123; clear eq123
          have ea122 := e; clear e
          refine callFx (impl_mapped_c g__3 g__3h to_ to_h a122 ea122) H ⟨Vw.sh 6 rfl, Vw.sh 7 rfl, trivial⟩ ?_; clear H ea122
          rintro _ _ w128 ⟨h129, rfl, rfl⟩ hx (H : Cx w0 fp0 S0 w128 [E (List Int) a122 h129, Bx b126 [(.int .i64 0), (.slice none 0 0), (.slice none 0 0), (.slice none 0 0)], E (List Int) y99 h102, Bx b9 [(.int .i64 0), (.slice none 0 0), (.slice none 0 0), (.slice none 0 0)], Bx b6 [(.int .i64 g__0), (g__1h).v, (g__2h).v, (g__3h).v], Es (List (Int × Int × List Int × List Int)) g__1 g__1h, Es (List Int) g__2 g__2h, Es (List Int) g__3 g__3h, Es (List Int) to_ to_h])
          replace hX := hX.trans0 hx; clear hx
          refine hold hX ?_
          refine anyH (fun _ => build_ (cs := #[(.int .i64 count_), (.slice none 0 0), (h102).v, (h129).v]) gok rfl rfl rfl ⟨rfl, rfl⟩) ?_
          replace H := H.sel [1, 0, 2, 3, 4, 5, 6, 7, 8] rfl
          refine stA gok [(.int .i64 count_), (.slice none 0 0), (h102).v, (h129).v] rfl H rfl rfl rfl ?_; clear H; intro w131 H
          replace H : Cx w0 fp0 S0 w131 [Bx b126 [(.int .i64 count_), (.slice none 0 0), (h102).v, (h129).v], E (List Int) a122 h129, E (List Int) y99 h102, Bx b9 [(.int .i64 0), (.slice none 0 0), (.slice none 0 0), (.slice none 0 0)], Bx b6 [(.int .i64 g__0), (g__1h).v, (g__2h).v, (g__3h).v], Es (List (Int × Int × List Int × List Int)) g__1 g__1h, Es (List Int) g__2 g__2h, Es (List Int) g__3 g__3h, Es (List Int) to_ to_h] := H
          refine hold trivial ?_
          exact ⟨((count_, y99, a122), (h102, h129, b126)), ⟨rfl, rfl, rfl, rfl, trivial⟩, Option.some.inj hF124, H.sel [8, 4, 5, 6, 7, 3, 0, 2, 1] rfl⟩
        · skip
          exact trivial
    · skip
      refine both ?_ ?_
      · skip
        obtain ⟨a132, eq133, hF134⟩ := bindS hF82; clear hF82
        obtain ⟨a135, eq136, hF137⟩ := bindS hF134; clear hF134
        refine alloc_ gok rfl H ?_; clear H; intro b139 w138 hx H
        replace hX := hX.trans0 hx; clear hx
        replace H : Cx w0 fp0 S0 w138 [Bx b139 [(.int .i64 0), (.slice none 0 0), (.slice none 0 0), (.slice none 0 0)], Bx b9 [(.int .i64 0), (.slice none 0 0), (.slice none 0 0), (.slice none 0 0)], Bx b6 [(.int .i64 g__0), (g__1h).v, (g__2h).v, (g__3h).v], Es (List (Int × Int × List Int × List Int)) g__1 g__1h, Es (List Int) g__2 g__2h, Es (List Int) g__3 g__3h, Es (List Int) to_ to_h] := H
        refine hold hX ?_
        have e := eq133; clear eq133
        have ea132 := e; clear e
        refine callFx (impl_mapped_c g__2 g__2h to_ to_h a132 ea132) H ⟨Vw.sh 4 rfl, Vw.sh 6 rfl, trivial⟩ ?_; clear H ea132
        rintro _ _ w141 ⟨h142, rfl, rfl⟩ hx (H : Cx w0 fp0 S0 w141 [E (List Int) a132 h142, Bx b139 [(.int .i64 0), (.slice none 0 0), (.slice none 0 0), (.slice none 0 0)], Bx b9 [(.int .i64 0), (.slice none 0 0), (.slice none 0 0), (.slice none 0 0)], Bx b6 [(.int .i64 g__0), (g__1h).v, (g__2h).v, (g__3h).v], Es (List (Int × Int × List Int × List Int)) g__1 g__1h, Es (List Int) g__2 g__2h, Es (List Int) g__3 g__3h, Es (List Int) to_ to_h])
        replace hX := hX.trans0 hx; clear hx
        refine hold hX ?_
        have e := eq136; clear eq136
        have ea135 := e; clear e
        refine callFx (impl_mapped_c g__3 g__3h to_ to_h a135 ea135) H ⟨Vw.sh 6 rfl, Vw.sh 7 rfl, trivial⟩ ?_; clear H ea135
        rintro _ _ w144 ⟨h145, rfl, rfl⟩ hx (H : Cx w0 fp0 S0 w144 [E (List Int) a135 h145, E (List Int) a132 h142, Bx b139 [(.int .i64 0), (.slice none 0 0), (.slice none 0 0), (.slice none 0 0)], Bx b9 [(.int .i64 0), (.slice none 0 0), (.slice none 0 0), (.slice none 0 0)], Bx b6 [(.int .i64 g__0), (g__1h).v, (g__2h).v, (g__3h).v], Es (List (Int × Int × List Int × List Int)) g__1 g__1h, Es (List Int) g__2 g__2h, Es (List Int) g__3 g__3h, Es (List Int) to_ to_h])
        replace hX := hX.trans0 hx; clear hx
        refine hold hX ?_
        refine anyH (fun _ => build_ (cs := #[(.int .i64 count_), (.slice none 0 0), (h142).v, (h145).v]) gok rfl rfl rfl ⟨rfl, rfl⟩) ?_
        replace H := H.sel [2, 0, 1, 3, 4, 5, 6, 7, 8] rfl
        refine stA gok [(.int .i64 count_), (.slice none 0 0), (h142).v, (h145).v] rfl H rfl rfl rfl ?_; clear H; intro w147 H
        replace H : Cx w0 fp0 S0 w147 [Bx b139 [(.int .i64 count_), (.slice none 0 0), (h142).v, (h145).v], E (List Int) a135 h145, E (List Int) a132 h142, Bx b9 [(.int .i64 0), (.slice none 0 0), (.slice none 0 0), (.slice none 0 0)], Bx b6 [(.int .i64 g__0), (g__1h).v, (g__2h).v, (g__3h).v], Es (List (Int × Int × List Int × List Int)) g__1 g__1h, Es (List Int) g__2 g__2h, Es (List Int) g__3 g__3h, Es (List Int) to_ to_h] := H
        refine hold trivial ?_
        exact ⟨((count_, a132, a135), (h142, h145, b139)), ⟨rfl, rfl, rfl, rfl, trivial⟩, Option.some.inj hF137, H.sel [8, 4, 5, 6, 7, 3, 0, 2, 1] rfl⟩
      · skip
        exact trivial
  · clear hF82 H
    rintro T149 ⟨⟨s75_0, s75_1, s75_2⟩, ⟨g76_0, g76_1, g76_2⟩⟩ w148 ⟨hr, (H : Cx w0 fp0 S0 w148 [Es (List Int) to_ to_h, Bx b6 [(.int .i64 g__0), (g__1h).v, (g__2h).v, (g__3h).v], Es (List (Int × Int × List Int × List Int)) g__1 g__1h, Es (List Int) g__2 g__2h, Es (List Int) g__3 g__3h, Bx b9 [(.int .i64 0), (.slice none 0 0), (.slice none 0 0), (.slice none 0 0)], Bx g76_2 [(.int .i64 s75_0), (.slice none 0 0), (g76_0).v, (g76_1).v], E (List Int) s75_1 g76_0, E (List Int) s75_2 g76_1])⟩
    subst hr
    refine sq ?_
    refine fld gok rfl rfl rfl rfl ?_
    refine load1 (H.bx 1 rfl (j := 1) rfl) ?_
    refine lenE (H.rs (α := List (Int × Int × List Int × List Int)) 2 rfl).len ?_
    have hmx246 := (H.rs (α := List (Int × Int × List Int × List Int)) 2 rfl).max
    obtain ⟨r247, e, hF248⟩ := bindS hF81; clear hF81
    replace H := H.nil (α := Int × Int × List Int × List Int)
    refine loopS _ g__1.length (fun (k150 : Nat) (s243 : List (Int × Int × List Int × List Int)) (g244 : Hd) => [(2, (to_h).v), (6, (.pointer (some ⟨b9, 0, none⟩))), (7, (.pointer (some ⟨g76_2, 0, none⟩))), (21, (g__1h).v), (22, (.int .i64 ((g__1.length : Nat) : Int))), (23, (.int .i64 ((k150 : Nat) : Int)))]) (fun _ (s243 : List (Int × Int × List Int × List Int)) (g244 : Hd) w' => Cx w0 fp0 S0 w' [Es (List Int) to_ to_h, Bx b9 [(.int .i64 0), (.slice none 0 0), (.slice none 0 0), (.slice none 0 0)], Bx g76_2 [(.int .i64 s75_0), (g244).v, (g76_0).v, (g76_1).v], E (List (Int × Int × List Int × List Int)) s243 g244, E (List Int) s75_1 g76_0, E (List Int) s75_2 g76_1, Es (List (Int × Int × List Int × List Int)) g__1 g__1h]) [] nilH e ⟨rfl, rfl, rfl, rfl, rfl, rfl, trivial⟩ (H.sel [1, 6, 7, 0, 8, 9, 3] rfl) ?_ ?_
    · clear H e
      rintro T251 k150 s243 g244 w250 o252 hk (H : Cx w0 fp0 S0 w250 [Es (List Int) to_ to_h, Bx b9 [(.int .i64 0), (.slice none 0 0), (.slice none 0 0), (.slice none 0 0)], Bx g76_2 [(.int .i64 s75_0), (g244).v, (g76_0).v, (g76_1).v], E (List (Int × Int × List Int × List Int)) s243 g244, E (List Int) s75_1 g76_0, E (List Int) s75_2 g76_1, Es (List (Int × Int × List Int × List Int)) g__1 g__1h]) hF253
      refine boolE (z := true) (ltLen hk) ?_
      refine sq ?_
      refine sq ?_
      obtain ⟨a260, e, hF261⟩ := bindS hF253; clear hF253
      have HH := H; clear H; obtain ⟨p258, m259, g262, c254, c255, c256, c257, H⟩ := HH.el (α := Int × Int × List Int × List Int) 6 rfl e; clear HH
      clear e
      obtain ⟨a260_0, a260_1, a260_2, a260_3⟩ := a260
      obtain ⟨_, _, h264, h265⟩ := g262
      replace H := H.part (β := List Int) a260_2 (h264 : Hd) 0 rfl (fun S h => (And.left (And.right (And.right h))))
      replace H := H.part (β := List Int) a260_3 (h265 : Hd) 1 rfl (fun S h => (And.right (And.right (And.right h))))
      replace H := H.sel [0, 1, 3, 4, 5, 6, 7, 8, 9] rfl
      refine idxE c254 c255 c256 ?_; clear c254 c255 c256
      refine loadN [(.int .i64 a260_0), (.int .i64 a260_1), (h264).v, (h265).v] rfl c257 ?_; clear c257
      refine alloc_ gok rfl H ?_; clear H; intro b269 w268 hx H
      clear hx
      replace H : Cx w0 fp0 S0 w268 [Bx b269 [(.int .i64 0), (.int .i64 0), (.slice none 0 0), (.slice none 0 0)], Es (List Int) a260_3 h265, Es (List Int) a260_2 h264, Es (List Int) to_ to_h, Bx b9 [(.int .i64 0), (.slice none 0 0), (.slice none 0 0), (.slice none 0 0)], Bx g76_2 [(.int .i64 s75_0), (g244).v, (g76_0).v, (g76_1).v], E (List (Int × Int × List Int × List Int)) s243 g244, E (List Int) s75_1 g76_0, E (List Int) s75_2 g76_1, Es (List (Int × Int × List Int × List Int)) g__1 g__1h] := H
      refine stA gok [(.int .i64 a260_0), (.int .i64 a260_1), (h264).v, (h265).v] rfl H rfl rfl rfl ?_; clear H; intro w271 H
      replace H : Cx w0 fp0 S0 w271 [Bx b269 [(.int .i64 a260_0), (.int .i64 a260_1), (h264).v, (h265).v], Es (List Int) a260_3 h265, Es (List Int) a260_2 h264, Es (List Int) to_ to_h, Bx b9 [(.int .i64 0), (.slice none 0 0), (.slice none 0 0), (.slice none 0 0)], Bx g76_2 [(.int .i64 s75_0), (g244).v, (g76_0).v, (g76_1).v], E (List (Int × Int × List Int × List Int)) s243 g244, E (List Int) s75_1 g76_0, E (List Int) s75_2 g76_1, Es (List (Int × Int × List Int × List Int)) g__1 g__1h] := H
      refine heldX H [16, 18, 17] (.fst 0 (.fst 2 (.fst 4 (.fst 6 (.fst 8 (.fst 10 (.fst 12 (.fst 1 (.fst 3 (.fst 5 (.fst 7 (.fst 11 (.act 9 (.act 13 (.fst 14 (.act 15 (.act 16 (.act 17 (.act 18 .done))))))))))))))))))) mixed [] trivial (by kernel_rfl) ?_
      clear H; intro w272 H
      have hX : Ext w272 w272 := Upd.refl _ _
      have H0 := H
      refine anyH (fun _ => fld gok rfl rfl rfl rfl ⟨rfl, rfl⟩) ?_
      refine anyH (fun _ => fld gok rfl rfl rfl rfl ⟨rfl, rfl⟩) ?_
      refine anyH (fun _ => fld gok rfl rfl rfl rfl ⟨rfl, rfl⟩) ?_
      refine anyH (fun _ => fld gok rfl rfl rfl rfl ⟨rfl, rfl⟩) ?_
      refine anyH (fun _ => fld gok rfl rfl rfl rfl ⟨rfl, rfl⟩) ?_
      refine load1X (H.bx 5 rfl (j := 1) rfl) ?_
      refine load1X (H.bx 0 rfl (j := 0) rfl) ?_
      refine load1X (H.bx 0 rfl (j := 1) rfl) ?_
      refine load1X (H.bx 0 rfl (j := 2) rfl) ?_
      refine load1X (H.bx 0 rfl (j := 3) rfl) ?_
      obtain ⟨y273, e, hF274⟩ := bindS hF261; clear hF261
      have ey273 := e; clear e
      refine callFx (impl_mapped_c a260_2 h264 to_ to_h y273 ey273) H ⟨Vw.sh 2 rfl, Vw.sh 3 rfl, trivial⟩ ?_; clear H ey273
      rintro _ _ w275 ⟨h276, rfl, rfl⟩ hx (H : Cx w0 fp0 S0 w275 [E (List Int) y273 h276, Bx b269 [(.int .i64 a260_0), (.int .i64 a260_1), (h264).v, (h265).v], Es (List Int) a260_3 h265, Es (List Int) a260_2 h264, Es (List Int) to_ to_h, Bx b9 [(.int .i64 0), (.slice none 0 0), (.slice none 0 0), (.slice none 0 0)], Bx g76_2 [(.int .i64 s75_0), (g244).v, (g76_0).v, (g76_1).v], E (List (Int × Int × List Int × List Int)) s243 g244, E (List Int) s75_1 g76_0, E (List Int) s75_2 g76_1, Es (List (Int × Int × List Int × List Int)) g__1 g__1h])
      replace hX := hX.trans0 hx; clear hx
      refine hold hX ?_
      obtain ⟨y278, e, hF279⟩ := bindS hF274; clear hF274
      have ey278 := e; clear e
      refine callFx (impl_mapped_c a260_3 h265 to_ to_h y278 ey278) H ⟨Vw.sh 2 rfl, Vw.sh 4 rfl, trivial⟩ ?_; clear H ey278
      rintro _ _ w280 ⟨h281, rfl, rfl⟩ hx (H : Cx w0 fp0 S0 w280 [E (List Int) y278 h281, E (List Int) y273 h276, Bx b269 [(.int .i64 a260_0), (.int .i64 a260_1), (h264).v, (h265).v], Es (List Int) a260_3 h265, Es (List Int) a260_2 h264, Es (List Int) to_ to_h, Bx b9 [(.int .i64 0), (.slice none 0 0), (.slice none 0 0), (.slice none 0 0)], Bx g76_2 [(.int .i64 s75_0), (g244).v, (g76_0).v, (g76_1).v], E (List (Int × Int × List Int × List Int)) s243 g244, E (List Int) s75_1 g76_0, E (List Int) s75_2 g76_1, Es (List (Int × Int × List Int × List Int)) g__1 g__1h])
      replace hX := hX.trans0 hx; clear hx
      refine hold hX ?_
      refine anyH (fun _ => build_ (cs := #[(.int .i64 a260_0), (.int .i64 a260_1), (h276).v, (h281).v]) gok rfl rfl rfl ⟨rfl, rfl⟩) ?_
      replace H := H.sel [1, 0, 2, 3, 4, 5, 6, 7, 8, 9, 10, 11] rfl
      replace H := H.join (α := List Int) (β := List Int)
      replace H := H.sc (α := Int) a260_1
      replace H := H.join (α := Int) (β := List Int × List Int)
      replace H := H.sc (α := Int) a260_0
      replace H := H.join (α := Int) (β := Int × List Int × List Int)
      refine lit1 (α := Int × Int × List Int × List Int) (g := ((), (), h276, h281)) gok rfl rfl rfl rfl rfl H ?_; clear H; intro h284 w283 hx H
      replace hX := hX.trans0 hx; clear hx
      refine hold hX ?_
      obtain ⟨a291, e, hF292⟩ := bindS hF279; clear hF279
      replace H := H.sel [7, 0, 1, 2, 3, 4, 5, 6, 8, 9, 10] rfl
      refine append_ (α := Int × Int × List Int × List Int) gok rfl rfl rfl rfl H e ?_; clear e H; intro h294 w293 H
      refine hold trivial ?_
      refine fld gok rfl rfl rfl rfl ?_
      refine hold trivial ?_
      replace H := H.sel [6, 0, 1, 2, 3, 4, 5, 7, 8, 9] rfl
      refine stB (j := 1) H rfl rfl ?_; clear H; intro w296 H
      replace H : Cx w0 fp0 S0 w296 [Bx g76_2 [(.int .i64 s75_0), (h294).v, (g76_0).v, (g76_1).v], E (List (Int × Int × List Int × List Int)) a291 h294, Bx b269 [(.int .i64 a260_0), (.int .i64 a260_1), (h264).v, (h265).v], Es (List Int) a260_3 h265, Es (List Int) a260_2 h264, Es (List Int) to_ to_h, Bx b9 [(.int .i64 0), (.slice none 0 0), (.slice none 0 0), (.slice none 0 0)], E (List Int) s75_1 g76_0, E (List Int) s75_2 g76_1, Es (List (Int × Int × List Int × List Int)) g__1 g__1h] := H
      refine hold trivial ?_
      refine arK hk hmx246 ?_
      have hs := Option.some.inj hF292; subst hs; clear hF292
      exact ⟨h294, ⟨rfl, rfl, rfl, rfl, rfl, rfl, trivial⟩, H.sel [5, 6, 0, 1, 7, 8, 9] rfl⟩
    · clear H e
      rintro T298 g300 w297 (H : Cx w0 fp0 S0 w297 [Es (List Int) to_ to_h, Bx b9 [(.int .i64 0), (.slice none 0 0), (.slice none 0 0), (.slice none 0 0)], Bx g76_2 [(.int .i64 s75_0), (g300).v, (g76_0).v, (g76_1).v], E (List (Int × Int × List Int × List Int)) r247 g300, E (List Int) s75_1 g76_0, E (List Int) s75_2 g76_1, Es (List (Int × Int × List Int × List Int)) g__1 g__1h])
      refine boolE (z := false) geLen ?_
      refine sq ?_
      refine loadN [(.int .i64 s75_0), (g300).v, (g76_0).v, (g76_1).v] rfl (fun j u hj => H.bx 2 rfl hj) ?_
      replace H := H.sel [1, 0, 2, 3, 4, 5, 6] rfl
      refine stA gok [(.int .i64 s75_0), (g300).v, (g76_0).v, (g76_1).v] rfl H rfl rfl rfl ?_; clear H; intro w302 H
      replace H : Cx w0 fp0 S0 w302 [Bx b9 [(.int .i64 s75_0), (g300).v, (g76_0).v, (g76_1).v], Es (List Int) to_ to_h, Bx g76_2 [(.int .i64 s75_0), (g300).v, (g76_0).v, (g76_1).v], E (List (Int × Int × List Int × List Int)) r247 g300, E (List Int) s75_1 g76_0, E (List Int) s75_2 g76_1, Es (List (Int × Int × List Int × List Int)) g__1 g__1h] := H
      refine loadN [(.int .i64 s75_0), (g300).v, (g76_0).v, (g76_1).v] rfl (fun j u hj => H.bx 0 rfl hj) ?_
      cases hF248
      exact ⟨_, _, rfl, ⟨g300, g76_0, g76_1, rfl, rfl⟩, (H.sel [3, 4, 5] rfl).close ⟨cloE, cloE, cloE, trivial⟩⟩

theorem impl_from_c (first_ : Int) (n_ : Int) (y : List Int) (hF : F_impl_from first_ n_ = some y) :
    ConF Try.prog 94 #[(.int .i64 first_), (.int .i64 n_)] [] [] (fun v Γ' => ∃ z0 : Hd, v = (z0).v ∧ Γ' = [E (List Int) y z0]) := by
  intro w0 S0 fp0 hI hS
  have H : Cx w0 fp0 S0 w0 [] := Cx.start hI hS
  clear hI hS
  refine enterC (args := [_, _]) gok Try.func94 rfl _ rfl rfl rfl ?_
  obtain ⟨y1, e, hF2⟩ := bindS hF; clear hF
  have ey1 := e; clear e
  refine callF (impl_upTo_c n_ y1 ey1) (Γi := []) H trivial ?_; clear H ey1
  rintro _ _ w3 ⟨h4, rfl, rfl⟩ (H : Cx w0 fp0 S0 w3 [E (List Int) y1 h4])
  refine sq ?_
  refine lenE (H.ro (α := List Int) 0 rfl).len ?_
  have hmx51 := (H.ro (α := List Int) 0 rfl).max
  obtain ⟨r52, e, hF53⟩ := bindS hF2; clear hF2
  refine loopS _ y1.length (fun (k6 : Nat) (s49 : List Int) (_ : Unit) => [(0, (.int .i64 first_)), (5, (h4).v), (10, (.int .i64 ((y1.length : Nat) : Int))), (11, (.int .i64 ((k6 : Nat) : Int)))]) (fun _ (s49 : List Int) (_ : Unit) w' => Cx w0 fp0 S0 w' [E (List Int) s49 h4]) y1 () e ⟨rfl, rfl, rfl, rfl, trivial⟩ (H.sel [0] rfl) ?_ ?_
  · clear H e
    rintro T55 k6 s49 _ w54 o56 hk (H : Cx w0 fp0 S0 w54 [E (List Int) s49 h4]) hF57
    refine boolE (z := true) (ltLen hk) ?_
    refine sq ?_
    refine sq ?_
    obtain ⟨a64, e, hF65⟩ := bindS hF57; clear hF57
    obtain ⟨p62, m63, c58, c59, c60, c61⟩ := (H.ro (α := List Int) 0 rfl).at1 e; clear e
    refine idxE c58 c59 c60 ?_; clear c58 c59 c60
    refine load1 c61 ?_; clear c61
    obtain ⟨a66, e, hF67⟩ := bindS hF65; clear hF65
    refine arO e ?_; clear e
    obtain ⟨a74, e, hF75⟩ := bindS hF67; clear hF67
    have ea74 := e; clear e
    obtain ⟨p72, m73, c68, c69, c70⟩ := (H.ro (α := List Int) 0 rfl).setp ea74
    refine idxE c68 c69 c70 ?_
    refine setS (α := Int) H c68 c69 ea74 ?_; clear H c68 c69 c70 ea74; intro w76 H
    refine arK hk hmx51 ?_
    have hs := Option.some.inj hF75; subst hs; clear hF75
    exact ⟨(), ⟨rfl, rfl, rfl, rfl, trivial⟩, H.sel [0] rfl⟩
  · clear H e
    rintro T78 _ w77 (H : Cx w0 fp0 S0 w77 [E (List Int) r52 h4])
    refine boolE (z := false) geLen ?_
    refine sq ?_
    cases hF53
    exact ⟨_, _, rfl, ⟨h4, rfl, rfl⟩, (H.sel [0] rfl).close ⟨cloE, trivial⟩⟩

theorem impl_Graph_beside_c (g__0 : Int) (g__1 : List (Int × Int × List Int × List Int)) (g__1h : Hd) (g__2 : List Int) (g__2h : Hd) (g__3 : List Int) (g__3h : Hd) (h__0 : Int) (h__1 : List (Int × Int × List Int × List Int)) (h__1h : Hd) (h__2 : List Int) (h__2h : Hd) (h__3 : List Int) (h__3h : Hd) (y_0 : Int) (y_1 : List (Int × Int × List Int × List Int)) (y_2 : List Int) (y_3 : List Int) (hF : F_impl_Graph_beside (g__0, g__1, g__2, g__3) (h__0, h__1, h__2, h__3) = some (y_0, y_1, y_2, y_3)) :
    ConF Try.prog 93 #[(.agg #[(.int .i64 g__0), (g__1h).v, (g__2h).v, (g__3h).v]), (.agg #[(.int .i64 h__0), (h__1h).v, (h__2h).v, (h__3h).v])] [Es (List (Int × Int × List Int × List Int)) g__1 g__1h, Es (List Int) g__2 g__2h, Es (List Int) g__3 g__3h, Es (List (Int × Int × List Int × List Int)) h__1 h__1h, Es (List Int) h__2 h__2h, Es (List Int) h__3 h__3h] [] (fun v Γ' => ∃ z0 z1 z2 : Hd, v = (.agg #[(.int .i64 y_0), (z0).v, (z1).v, (z2).v]) ∧ Γ' = [E (List (Int × Int × List Int × List Int)) y_1 z0, E (List Int) y_2 z1, E (List Int) y_3 z2]) := by
  intro w0 S0 fp0 hI hS
  have H : Cx w0 fp0 S0 w0 [Es (List (Int × Int × List Int × List Int)) g__1 g__1h, Es (List Int) g__2 g__2h, Es (List Int) g__3 g__3h, Es (List (Int × Int × List Int × List Int)) h__1 h__1h, Es (List Int) h__2 h__2h, Es (List Int) h__3 h__3h] := Cx.start hI hS
  clear hI hS
  refine enterC (args := [_, _]) gok Try.func93 rfl _ rfl rfl rfl ?_
  refine box_ H ?_; clear H; intro b8 w7 hx H
  clear hx
  replace H : Cx w0 fp0 S0 w7 [Bx b8 [(.int .i64 g__0), (g__1h).v, (g__2h).v, (g__3h).v], Es (List (Int × Int × List Int × List Int)) g__1 g__1h, Es (List Int) g__2 g__2h, Es (List Int) g__3 g__3h, Es (List (Int × Int × List Int × List Int)) h__1 h__1h, Es (List Int) h__2 h__2h, Es (List Int) h__3 h__3h] := H
  refine box_ H ?_; clear H; intro b11 w10 hx H
  clear hx
  replace H : Cx w0 fp0 S0 w10 [Bx b11 [(.int .i64 h__0), (h__1h).v, (h__2h).v, (h__3h).v], Bx b8 [(.int .i64 g__0), (g__1h).v, (g__2h).v, (g__3h).v], Es (List (Int × Int × List Int × List Int)) g__1 g__1h, Es (List Int) g__2 g__2h, Es (List Int) g__3 g__3h, Es (List (Int × Int × List Int × List Int)) h__1 h__1h, Es (List Int) h__2 h__2h, Es (List Int) h__3 h__3h] := H
  refine alloc_ gok rfl H ?_; clear H; intro b14 w13 hx H
  clear hx
  replace H : Cx w0 fp0 S0 w13 [Bx b14 [(.int .i64 0), (.slice none 0 0), (.slice none 0 0), (.slice none 0 0)], Bx b11 [(.int .i64 h__0), (h__1h).v, (h__2h).v, (h__3h).v], Bx b8 [(.int .i64 g__0), (g__1h).v, (g__2h).v, (g__3h).v], Es (List (Int × Int × List Int × List Int)) g__1 g__1h, Es (List Int) g__2 g__2h, Es (List Int) g__3 g__3h, Es (List (Int × Int × List Int × List Int)) h__1 h__1h, Es (List Int) h__2 h__2h, Es (List Int) h__3 h__3h] := H
  refine fld gok rfl rfl rfl rfl ?_
  refine load1 (H.bx 2 rfl (j := 0) rfl) ?_
  refine fld gok rfl rfl rfl rfl ?_
  refine load1 (H.bx 1 rfl (j := 0) rfl) ?_
  obtain ⟨a16, e, hF17⟩ := bindS hF; clear hF
  refine arO e ?_; clear e
  refine build_ (cs := #[(.int .i64 a16), (.slice none 0 0), (.slice none 0 0), (.slice none 0 0)]) gok rfl rfl rfl ?_
  refine alloc_ gok rfl H ?_; clear H; intro b19 w18 hx H
  clear hx
  replace H : Cx w0 fp0 S0 w18 [Bx b19 [(.int .i64 0), (.slice none 0 0), (.slice none 0 0), (.slice none 0 0)], Bx b14 [(.int .i64 0), (.slice none 0 0), (.slice none 0 0), (.slice none 0 0)], Bx b11 [(.int .i64 h__0), (h__1h).v, (h__2h).v, (h__3h).v], Bx b8 [(.int .i64 g__0), (g__1h).v, (g__2h).v, (g__3h).v], Es (List (Int × Int × List Int × List Int)) g__1 g__1h, Es (List Int) g__2 g__2h, Es (List Int) g__3 g__3h, Es (List (Int × Int × List Int × List Int)) h__1 h__1h, Es (List Int) h__2 h__2h, Es (List Int) h__3 h__3h] := H
  refine stA gok [(.int .i64 a16), (.slice none 0 0), (.slice none 0 0), (.slice none 0 0)] rfl H rfl rfl rfl ?_; clear H; intro w21 H
  replace H : Cx w0 fp0 S0 w21 [Bx b19 [(.int .i64 a16), (.slice none 0 0), (.slice none 0 0), (.slice none 0 0)], Bx b14 [(.int .i64 0), (.slice none 0 0), (.slice none 0 0), (.slice none 0 0)], Bx b11 [(.int .i64 h__0), (h__1h).v, (h__2h).v, (h__3h).v], Bx b8 [(.int .i64 g__0), (g__1h).v, (g__2h).v, (g__3h).v], Es (List (Int × Int × List Int × List Int)) g__1 g__1h, Es (List Int) g__2 g__2h, Es (List Int) g__3 g__3h, Es (List (Int × Int × List Int × List Int)) h__1 h__1h, Es (List Int) h__2 h__2h, Es (List Int) h__3 h__3h] := H
  obtain ⟨r112, hF114, hF113⟩ := bindS hF17; clear hF17
  refine heldJ H [8] (.fst 1 (.fst 3 (.fst 0 (.fst 2 (.fst 4 (.alts (.alt 5 (.alts (.alt 6 (.act 7 (.act 8 .done)) (.alt 7 (.act 6 (.act 8 .done)) .no))) (.alt 7 (.act 5 (.act 6 (.act 8 .done))) .no)))))))) mixed [] trivial (by kernel_rfl) (fun (q115 : (Int × (List (Int × Int × List Int × List Int)) × List Int × List Int) × (Hd × Hd × Hd × Nat)) => [(2, (.pointer (some ⟨b8, 0, none⟩))), (3, (.pointer (some ⟨b11, 0, none⟩))), (4, (.pointer (some ⟨b14, 0, none⟩))), (5, (.pointer (some ⟨b19, 0, none⟩))), (6, (.pointer (some ⟨q115.2.2.2.2, 0, none⟩)))]) (fun (q115 : (Int × (List (Int × Int × List Int × List Int)) × List Int × List Int) × (Hd × Hd × Hd × Nat)) w' => (q115.1.1, q115.1.2.1, q115.1.2.2.1, q115.1.2.2.2) = r112 ∧ Cx w0 fp0 S0 w' [Bx b8 [(.int .i64 g__0), (g__1h).v, (g__2h).v, (g__3h).v], Es (List (Int × Int × List Int × List Int)) g__1 g__1h, Es (List Int) g__2 g__2h, Es (List Int) g__3 g__3h, Bx b11 [(.int .i64 h__0), (h__1h).v, (h__2h).v, (h__3h).v], Es (List (Int × Int × List Int × List Int)) h__1 h__1h, Es (List Int) h__2 h__2h, Es (List Int) h__3 h__3h, Bx b14 [(.int .i64 0), (.slice none 0 0), (.slice none 0 0), (.slice none 0 0)], Bx b19 [(.int .i64 a16), (.slice none 0 0), (.slice none 0 0), (.slice none 0 0)], Bx q115.2.2.2.2 [(.int .i64 q115.1.1), (q115.2.1).v, (q115.2.2.1).v, (q115.2.2.2.1).v], E (List (Int × Int × List Int × List Int)) q115.1.2.1 q115.2.1, E (List Int) q115.1.2.2.1 q115.2.2.1, E (List Int) q115.1.2.2.2 q115.2.2.2.1]) ?_ ?_
  · skip
    clear H; intro w116 H
    have hX : Ext w116 w116 := Upd.refl _ _
    have H0 := H
    refine anyH (fun _ => fld gok rfl rfl rfl rfl ⟨rfl, rfl⟩) ?_
    refine anyH (fun _ => fld gok rfl rfl rfl rfl ⟨rfl, rfl⟩) ?_
    refine loadNX [(.int .i64 g__0), (g__1h).v, (g__2h).v, (g__3h).v] rfl (fun j u hj => H.bx 3 rfl hj) ?_
    refine load1X (H.bx 3 rfl (j := 0) rfl) ?_
    refine load1X (H.bx 3 rfl (j := 0) rfl) ?_
    refine both ?_ ?_
    · skip
      obtain ⟨y135, e, hF136⟩ := bindS hF114; clear hF114
      have ey135 := e; clear e
      refine callFx (impl_upTo_c g__0 y135 ey135) H trivial ?_; clear H ey135
      rintro _ _ w137 ⟨h138, rfl, rfl⟩ hx (H : Cx w0 fp0 S0 w137 [E (List Int) y135 h138, Bx b19 [(.int .i64 a16), (.slice none 0 0), (.slice none 0 0), (.slice none 0 0)], Bx b14 [(.int .i64 0), (.slice none 0 0), (.slice none 0 0), (.slice none 0 0)], Bx b11 [(.int .i64 h__0), (h__1h).v, (h__2h).v, (h__3h).v], Bx b8 [(.int .i64 g__0), (g__1h).v, (g__2h).v, (g__3h).v], Es (List (Int × Int × List Int × List Int)) g__1 g__1h, Es (List Int) g__2 g__2h, Es (List Int) g__3 g__3h, Es (List (Int × Int × List Int × List Int)) h__1 h__1h, Es (List Int) h__2 h__2h, Es (List Int) h__3 h__3h])
      replace hX := hX.trans0 hx; clear hx
      refine hold hX ?_
      refine both ?_ ?_
      · skip
        obtain ⟨y153, e, hF154⟩ := bindS hF136; clear hF136
        obtain ⟨y153_0, y153_1, y153_2, y153_3⟩ := y153
        have ey153 := e; clear e
        refine callFx (impl_Graph_moved_c g__0 g__1 g__1h g__2 g__2h g__3 g__3h g__0 y135 h138 y153_0 y153_1 y153_2 y153_3 ey153) H ⟨Vw.sh 5 rfl, Vw.sh 6 rfl, Vw.sh 7 rfl, Vw.own 0 rfl, trivial⟩ ?_; clear H ey153
        rintro _ _ w155 ⟨h156, h158, h160, rfl, rfl⟩ hx (H : Cx w0 fp0 S0 w155 [E (List (Int × Int × List Int × List Int)) y153_1 h156, E (List Int) y153_2 h158, E (List Int) y153_3 h160, E (List Int) y135 h138, Bx b19 [(.int .i64 a16), (.slice none 0 0), (.slice none 0 0), (.slice none 0 0)], Bx b14 [(.int .i64 0), (.slice none 0 0), (.slice none 0 0), (.slice none 0 0)], Bx b11 [(.int .i64 h__0), (h__1h).v, (h__2h).v, (h__3h).v], Bx b8 [(.int .i64 g__0), (g__1h).v, (g__2h).v, (g__3h).v], Es (List (Int × Int × List Int × List Int)) g__1 g__1h, Es (List Int) g__2 g__2h, Es (List Int) g__3 g__3h, Es (List (Int × Int × List Int × List Int)) h__1 h__1h, Es (List Int) h__2 h__2h, Es (List Int) h__3 h__3h])
        replace hX := hX.trans0 hx; clear hx
        refine hold hX ?_
        refine alloc_ gok rfl H ?_; clear H; intro b163 w162 hx H
        replace hX := hX.trans0 hx; clear hx
        replace H : Cx w0 fp0 S0 w162 [Bx b163 [(.int .i64 0), (.slice none 0 0), (.slice none 0 0), (.slice none 0 0)], E (List (Int × Int × List Int × List Int)) y153_1 h156, E (List Int) y153_2 h158, E (List Int) y153_3 h160, E (List Int) y135 h138, Bx b19 [(.int .i64 a16), (.slice none 0 0), (.slice none 0 0), (.slice none 0 0)], Bx b14 [(.int .i64 0), (.slice none 0 0), (.slice none 0 0), (.slice none 0 0)], Bx b11 [(.int .i64 h__0), (h__1h).v, (h__2h).v, (h__3h).v], Bx b8 [(.int .i64 g__0), (g__1h).v, (g__2h).v, (g__3h).v], Es (List (Int × Int × List Int × List Int)) g__1 g__1h, Es (List Int) g__2 g__2h, Es (List Int) g__3 g__3h, Es (List (Int × Int × List Int × List Int)) h__1 h__1h, Es (List Int) h__2 h__2h, Es (List Int) h__3 h__3h] := H
        refine hold hX ?_
        refine stA gok [(.int .i64 y153_0), (h156).v, (h158).v, (h160).v] rfl H rfl rfl rfl ?_; clear H; intro w165 H
        replace H : Cx w0 fp0 S0 w165 [Bx b163 [(.int .i64 y153_0), (h156).v, (h158).v, (h160).v], E (List (Int × Int × List Int × List Int)) y153_1 h156, E (List Int) y153_2 h158, E (List Int) y153_3 h160, E (List Int) y135 h138, Bx b19 [(.int .i64 a16), (.slice none 0 0), (.slice none 0 0), (.slice none 0 0)], Bx b14 [(.int .i64 0), (.slice none 0 0), (.slice none 0 0), (.slice none 0 0)], Bx b11 [(.int .i64 h__0), (h__1h).v, (h__2h).v, (h__3h).v], Bx b8 [(.int .i64 g__0), (g__1h).v, (g__2h).v, (g__3h).v], Es (List (Int × Int × List Int × List Int)) g__1 g__1h, Es (List Int) g__2 g__2h, Es (List Int) g__3 g__3h, Es (List (Int × Int × List Int × List Int)) h__1 h__1h, Es (List Int) h__2 h__2h, Es (List Int) h__3 h__3h] := H
        refine hold trivial ?_
        exact ⟨((y153_0, y153_1, y153_2, y153_3), (h156, h158, h160, b163)), ⟨rfl, rfl, rfl, rfl, rfl, trivial⟩, Option.some.inj hF154, H.sel [8, 9, 10, 11, 7, 12, 13, 14, 6, 5, 0, 1, 2, 3] rfl⟩
      · skip
        refine both ?_ ?_
        · skip
          obtain ⟨a166, eq167, hF168⟩ := bindS hF136; clear hF136
          refine alloc_ gok rfl H ?_; clear H; intro b170 w169 hx H
          replace hX := hX.trans0 hx; clear hx
          replace H : Cx w0 fp0 S0 w169 [Bx b170 [(.int .i64 0), (.slice none 0 0), (.slice none 0 0), (.slice none 0 0)], E (List Int) y135 h138, Bx b19 [(.int .i64 a16), (.slice none 0 0), (.slice none 0 0), (.slice none 0 0)], Bx b14 [(.int .i64 0), (.slice none 0 0), (.slice none 0 0), (.slice none 0 0)], Bx b11 [(.int .i64 h__0), (h__1h).v, (h__2h).v, (h__3h).v], Bx b8 [(.int .i64 g__0), (g__1h).v, (g__2h).v, (g__3h).v], Es (List (Int × Int × List Int × List Int)) g__1 g__1h, Es (List Int) g__2 g__2h, Es (List Int) g__3 g__3h, Es (List (Int × Int × List Int × List Int)) h__1 h__1h, Es (List Int) h__2 h__2h, Es (List Int) h__3 h__3h] := H
          refine hold hX ?_
          have e := eq167; clear eq167
          obtain ⟨a166_0, a166_1, a166_2, a166_3⟩ := a166
          have ea166 := e; clear e
          refine callFx (impl_Graph_moved_c g__0 g__1 g__1h g__2 g__2h g__3 g__3h g__0 y135 h138 a166_0 a166_1 a166_2 a166_3 ea166) H ⟨Vw.sh 6 rfl, Vw.sh 7 rfl, Vw.sh 8 rfl, Vw.own 1 rfl, trivial⟩ ?_; clear H ea166
          rintro _ _ w172 ⟨h173, h175, h177, rfl, rfl⟩ hx (H : Cx w0 fp0 S0 w172 [E (List (Int × Int × List Int × List Int)) a166_1 h173, E (List Int) a166_2 h175, E (List Int) a166_3 h177, Bx b170 [(.int .i64 0), (.slice none 0 0), (.slice none 0 0), (.slice none 0 0)], E (List Int) y135 h138, Bx b19 [(.int .i64 a16), (.slice none 0 0), (.slice none 0 0), (.slice none 0 0)], Bx b14 [(.int .i64 0), (.slice none 0 0), (.slice none 0 0), (.slice none 0 0)], Bx b11 [(.int .i64 h__0), (h__1h).v, (h__2h).v, (h__3h).v], Bx b8 [(.int .i64 g__0), (g__1h).v, (g__2h).v, (g__3h).v], Es (List (Int × Int × List Int × List Int)) g__1 g__1h, Es (List Int) g__2 g__2h, Es (List Int) g__3 g__3h, Es (List (Int × Int × List Int × List Int)) h__1 h__1h, Es (List Int) h__2 h__2h, Es (List Int) h__3 h__3h])
          replace hX := hX.trans0 hx; clear hx
          refine hold hX ?_
          replace H := H.sel [3, 0, 1, 2, 4, 5, 6, 7, 8, 9, 10, 11, 12, 13, 14] rfl
          refine stA gok [(.int .i64 a166_0), (h173).v, (h175).v, (h177).v] rfl H rfl rfl rfl ?_; clear H; intro w179 H
          replace H : Cx w0 fp0 S0 w179 [Bx b170 [(.int .i64 a166_0), (h173).v, (h175).v, (h177).v], E (List (Int × Int × List Int × List Int)) a166_1 h173, E (List Int) a166_2 h175, E (List Int) a166_3 h177, E (List Int) y135 h138, Bx b19 [(.int .i64 a16), (.slice none 0 0), (.slice none 0 0), (.slice none 0 0)], Bx b14 [(.int .i64 0), (.slice none 0 0), (.slice none 0 0), (.slice none 0 0)], Bx b11 [(.int .i64 h__0), (h__1h).v, (h__2h).v, (h__3h).v], Bx b8 [(.int .i64 g__0), (g__1h).v, (g__2h).v, (g__3h).v], Es (List (Int × Int × List Int × List Int)) g__1 g__1h, Es (List Int) g__2 g__2h, Es (List Int) g__3 g__3h, Es (List (Int × Int × List Int × List Int)) h__1 h__1h, Es (List Int) h__2 h__2h, Es (List Int) h__3 h__3h] := H
          refine hold trivial ?_
          exact ⟨((a166_0, a166_1, a166_2, a166_3), (h173, h175, h177, b170)), ⟨rfl, rfl, rfl, rfl, rfl, trivial⟩, Option.some.inj hF168, H.sel [8, 9, 10, 11, 7, 12, 13, 14, 6, 5, 0, 1, 2, 3] rfl⟩
        · skip
          exact trivial
    · skip
      refine both ?_ ?_
      · skip
        obtain ⟨a180, eq181, hF182⟩ := bindS hF114; clear hF114
        obtain ⟨a183, eq184, hF185⟩ := bindS hF182; clear hF182
        refine alloc_ gok rfl H ?_; clear H; intro b187 w186 hx H
        replace hX := hX.trans0 hx; clear hx
        replace H : Cx w0 fp0 S0 w186 [Bx b187 [(.int .i64 0), (.slice none 0 0), (.slice none 0 0), (.slice none 0 0)], Bx b19 [(.int .i64 a16), (.slice none 0 0), (.slice none 0 0), (.slice none 0 0)], Bx b14 [(.int .i64 0), (.slice none 0 0), (.slice none 0 0), (.slice none 0 0)], Bx b11 [(.int .i64 h__0), (h__1h).v, (h__2h).v, (h__3h).v], Bx b8 [(.int .i64 g__0), (g__1h).v, (g__2h).v, (g__3h).v], Es (List (Int × Int × List Int × List Int)) g__1 g__1h, Es (List Int) g__2 g__2h, Es (List Int) g__3 g__3h, Es (List (Int × Int × List Int × List Int)) h__1 h__1h, Es (List Int) h__2 h__2h, Es (List Int) h__3 h__3h] := H
        refine hold hX ?_
        have e := eq181; clear eq181
        have ea180 := e; clear e
        refine callFx (impl_upTo_c g__0 a180 ea180) H trivial ?_; clear H ea180
        rintro _ _ w189 ⟨h190, rfl, rfl⟩ hx (H : Cx w0 fp0 S0 w189 [E (List Int) a180 h190, Bx b187 [(.int .i64 0), (.slice none 0 0), (.slice none 0 0), (.slice none 0 0)], Bx b19 [(.int .i64 a16), (.slice none 0 0), (.slice none 0 0), (.slice none 0 0)], Bx b14 [(.int .i64 0), (.slice none 0 0), (.slice none 0 0), (.slice none 0 0)], Bx b11 [(.int .i64 h__0), (h__1h).v, (h__2h).v, (h__3h).v], Bx b8 [(.int .i64 g__0), (g__1h).v, (g__2h).v, (g__3h).v], Es (List (Int × Int × List Int × List Int)) g__1 g__1h, Es (List Int) g__2 g__2h, Es (List Int) g__3 g__3h, Es (List (Int × Int × List Int × List Int)) h__1 h__1h, Es (List Int) h__2 h__2h, Es (List Int) h__3 h__3h])
        replace hX := hX.trans0 hx; clear hx
        refine hold hX ?_
        have e := eq184; clear eq184
        obtain ⟨a183_0, a183_1, a183_2, a183_3⟩ := a183
        have ea183 := e; clear e
        refine callFx (impl_Graph_moved_c g__0 g__1 g__1h g__2 g__2h g__3 g__3h g__0 a180 h190 a183_0 a183_1 a183_2 a183_3 ea183) H ⟨Vw.sh 6 rfl, Vw.sh 7 rfl, Vw.sh 8 rfl, Vw.own 0 rfl, trivial⟩ ?_; clear H ea183
        rintro _ _ w192 ⟨h193, h195, h197, rfl, rfl⟩ hx (H : Cx w0 fp0 S0 w192 [E (List (Int × Int × List Int × List Int)) a183_1 h193, E (List Int) a183_2 h195, E (List Int) a183_3 h197, E (List Int) a180 h190, Bx b187 [(.int .i64 0), (.slice none 0 0), (.slice none 0 0), (.slice none 0 0)], Bx b19 [(.int .i64 a16), (.slice none 0 0), (.slice none 0 0), (.slice none 0 0)], Bx b14 [(.int .i64 0), (.slice none 0 0), (.slice none 0 0), (.slice none 0 0)], Bx b11 [(.int .i64 h__0), (h__1h).v, (h__2h).v, (h__3h).v], Bx b8 [(.int .i64 g__0), (g__1h).v, (g__2h).v, (g__3h).v], Es (List (Int × Int × List Int × List Int)) g__1 g__1h, Es (List Int) g__2 g__2h, Es (List Int) g__3 g__3h, Es (List (Int × Int × List Int × List Int)) h__1 h__1h, Es (List Int) h__2 h__2h, Es (List Int) h__3 h__3h])
        replace hX := hX.trans0 hx; clear hx
        refine hold hX ?_
        replace H := H.sel [4, 0, 1, 2, 3, 5, 6, 7, 8, 9, 10, 11, 12, 13, 14] rfl
        refine stA gok [(.int .i64 a183_0), (h193).v, (h195).v, (h197).v] rfl H rfl rfl rfl ?_; clear H; intro w199 H
        replace H : Cx w0 fp0 S0 w199 [Bx b187 [(.int .i64 a183_0), (h193).v, (h195).v, (h197).v], E (List (Int × Int × List Int × List Int)) a183_1 h193, E (List Int) a183_2 h195, E (List Int) a183_3 h197, E (List Int) a180 h190, Bx b19 [(.int .i64 a16), (.slice none 0 0), (.slice none 0 0), (.slice none 0 0)], Bx b14 [(.int .i64 0), (.slice none 0 0), (.slice none 0 0), (.slice none 0 0)], Bx b11 [(.int .i64 h__0), (h__1h).v, (h__2h).v, (h__3h).v], Bx b8 [(.int .i64 g__0), (g__1h).v, (g__2h).v, (g__3h).v], Es (List (Int × Int × List Int × List Int)) g__1 g__1h, Es (List Int) g__2 g__2h, Es (List Int) g__3 g__3h, Es (List (Int × Int × List Int × List Int)) h__1 h__1h, Es (List Int) h__2 h__2h, Es (List Int) h__3 h__3h] := H
        refine hold trivial ?_
        exact ⟨((a183_0, a183_1, a183_2, a183_3), (h193, h195, h197, b187)), ⟨rfl, rfl, rfl, rfl, rfl, trivial⟩, Option.some.inj hF185, H.sel [8, 9, 10, 11, 7, 12, 13, 14, 6, 5, 0, 1, 2, 3] rfl⟩
      · skip
        exact trivial
  · clear hF114 H
    rintro T201 ⟨⟨s106_0, s106_1, s106_2, s106_3⟩, ⟨g107_0, g107_1, g107_2, g107_3⟩⟩ w200 ⟨hr, (H : Cx w0 fp0 S0 w200 [Bx b8 [(.int .i64 g__0), (g__1h).v, (g__2h).v, (g__3h).v], Es (List (Int × Int × List Int × List Int)) g__1 g__1h, Es (List Int) g__2 g__2h, Es (List Int) g__3 g__3h, Bx b11 [(.int .i64 h__0), (h__1h).v, (h__2h).v, (h__3h).v], Es (List (Int × Int × List Int × List Int)) h__1 h__1h, Es (List Int) h__2 h__2h, Es (List Int) h__3 h__3h, Bx b14 [(.int .i64 0), (.slice none 0 0), (.slice none 0 0), (.slice none 0 0)], Bx b19 [(.int .i64 a16), (.slice none 0 0), (.slice none 0 0), (.slice none 0 0)], Bx g107_3 [(.int .i64 s106_0), (g107_0).v, (g107_1).v, (g107_2).v], E (List (Int × Int × List Int × List Int)) s106_1 g107_0, E (List Int) s106_2 g107_1, E (List Int) s106_3 g107_2])⟩
    subst hr
    obtain ⟨r292, hF294, hF293⟩ := bindS hF113; clear hF113
    refine heldJ H [10] (.fst 1 (.fst 3 (.fst 5 (.fst 0 (.fst 2 (.fst 4 (.fst 6 (.alts (.alt 7 (.alts (.alt 8 (.act 9 (.act 10 .done)) (.alt 9 (.act 8 (.act 10 .done)) .no))) (.alt 9 (.act 7 (.act 8 (.act 10 .done))) .no)))))))))) mixed [] trivial (by kernel_rfl) (fun (q295 : (Int × (List (Int × Int × List Int × List Int)) × List Int × List Int) × (Hd × Hd × Hd × Nat)) => [(4, (.pointer (some ⟨b14, 0, none⟩))), (5, (.pointer (some ⟨b19, 0, none⟩))), (6, (.pointer (some ⟨g107_3, 0, none⟩))), (7, (.pointer (some ⟨q295.2.2.2.2, 0, none⟩)))]) (fun (q295 : (Int × (List (Int × Int × List Int × List Int)) × List Int × List Int) × (Hd × Hd × Hd × Nat)) w' => (q295.1.1, q295.1.2.1, q295.1.2.2.1, q295.1.2.2.2) = r292 ∧ Cx w0 fp0 S0 w' [Bx b14 [(.int .i64 0), (.slice none 0 0), (.slice none 0 0), (.slice none 0 0)], Bx b19 [(.int .i64 a16), (.slice none 0 0), (.slice none 0 0), (.slice none 0 0)], Bx g107_3 [(.int .i64 s106_0), (g107_0).v, (g107_1).v, (g107_2).v], E (List (Int × Int × List Int × List Int)) s106_1 g107_0, E (List Int) s106_2 g107_1, E (List Int) s106_3 g107_2, Bx q295.2.2.2.2 [(.int .i64 q295.1.1), (q295.2.1).v, (q295.2.2.1).v, (q295.2.2.2.1).v], E (List (Int × Int × List Int × List Int)) q295.1.2.1 q295.2.1, E (List Int) q295.1.2.2.1 q295.2.2.1, E (List Int) q295.1.2.2.2 q295.2.2.2.1]) ?_ ?_
    · skip
      clear H; intro w296 H
      have hX : Ext w296 w296 := Upd.refl _ _
      have H0 := H
      refine anyH (fun _ => fld gok rfl rfl rfl rfl ⟨rfl, rfl⟩) ?_
      refine anyH (fun _ => fld gok rfl rfl rfl rfl ⟨rfl, rfl⟩) ?_
      refine anyH (fun _ => fld gok rfl rfl rfl rfl ⟨rfl, rfl⟩) ?_
      refine loadNX [(.int .i64 h__0), (h__1h).v, (h__2h).v, (h__3h).v] rfl (fun j u hj => H.bx 4 rfl hj) ?_
      refine load1X (H.bx 4 rfl (j := 0) rfl) ?_
      refine load1X (H.bx 0 rfl (j := 0) rfl) ?_
      refine load1X (H.bx 4 rfl (j := 0) rfl) ?_
      refine both ?_ ?_
      · skip
        obtain ⟨y315, e, hF316⟩ := bindS hF294; clear hF294
        have ey315 := e; clear e
        refine callFx (impl_from_c g__0 h__0 y315 ey315) H trivial ?_; clear H ey315
        rintro _ _ w317 ⟨h318, rfl, rfl⟩ hx (H : Cx w0 fp0 S0 w317 [E (List Int) y315 h318, Bx b8 [(.int .i64 g__0), (g__1h).v, (g__2h).v, (g__3h).v], Es (List (Int × Int × List Int × List Int)) g__1 g__1h, Es (List Int) g__2 g__2h, Es (List Int) g__3 g__3h, Bx b11 [(.int .i64 h__0), (h__1h).v, (h__2h).v, (h__3h).v], Es (List (Int × Int × List Int × List Int)) h__1 h__1h, Es (List Int) h__2 h__2h, Es (List Int) h__3 h__3h, Bx b14 [(.int .i64 0), (.slice none 0 0), (.slice none 0 0), (.slice none 0 0)], Bx b19 [(.int .i64 a16), (.slice none 0 0), (.slice none 0 0), (.slice none 0 0)], Bx g107_3 [(.int .i64 s106_0), (g107_0).v, (g107_1).v, (g107_2).v], E (List (Int × Int × List Int × List Int)) s106_1 g107_0, E (List Int) s106_2 g107_1, E (List Int) s106_3 g107_2])
        replace hX := hX.trans0 hx; clear hx
        refine hold hX ?_
        refine both ?_ ?_
        · skip
          obtain ⟨y333, e, hF334⟩ := bindS hF316; clear hF316
          obtain ⟨y333_0, y333_1, y333_2, y333_3⟩ := y333
          have ey333 := e; clear e
          refine callFx (impl_Graph_moved_c h__0 h__1 h__1h h__2 h__2h h__3 h__3h h__0 y315 h318 y333_0 y333_1 y333_2 y333_3 ey333) H ⟨Vw.sh 6 rfl, Vw.sh 7 rfl, Vw.sh 8 rfl, Vw.own 0 rfl, trivial⟩ ?_; clear H ey333
          rintro _ _ w335 ⟨h336, h338, h340, rfl, rfl⟩ hx (H : Cx w0 fp0 S0 w335 [E (List (Int × Int × List Int × List Int)) y333_1 h336, E (List Int) y333_2 h338, E (List Int) y333_3 h340, E (List Int) y315 h318, Bx b8 [(.int .i64 g__0), (g__1h).v, (g__2h).v, (g__3h).v], Es (List (Int × Int × List Int × List Int)) g__1 g__1h, Es (List Int) g__2 g__2h, Es (List Int) g__3 g__3h, Bx b11 [(.int .i64 h__0), (h__1h).v, (h__2h).v, (h__3h).v], Es (List (Int × Int × List Int × List Int)) h__1 h__1h, Es (List Int) h__2 h__2h, Es (List Int) h__3 h__3h, Bx b14 [(.int .i64 0), (.slice none 0 0), (.slice none 0 0), (.slice none 0 0)], Bx b19 [(.int .i64 a16), (.slice none 0 0), (.slice none 0 0), (.slice none 0 0)], Bx g107_3 [(.int .i64 s106_0), (g107_0).v, (g107_1).v, (g107_2).v], E (List (Int × Int × List Int × List Int)) s106_1 g107_0, E (List Int) s106_2 g107_1, E (List Int) s106_3 g107_2])
          replace hX := hX.trans0 hx; clear hx
          refine hold hX ?_
          refine alloc_ gok rfl H ?_; clear H; intro b343 w342 hx H
          replace hX := hX.trans0 hx; clear hx
          replace H : Cx w0 fp0 S0 w342 [Bx b343 [(.int .i64 0), (.slice none 0 0), (.slice none 0 0), (.slice none 0 0)], E (List (Int × Int × List Int × List Int)) y333_1 h336, E (List Int) y333_2 h338, E (List Int) y333_3 h340, E (List Int) y315 h318, Bx b8 [(.int .i64 g__0), (g__1h).v, (g__2h).v, (g__3h).v], Es (List (Int × Int × List Int × List Int)) g__1 g__1h, Es (List Int) g__2 g__2h, Es (List Int) g__3 g__3h, Bx b11 [(.int .i64 h__0), (h__1h).v, (h__2h).v, (h__3h).v], Es (List (Int × Int × List Int × List Int)) h__1 h__1h, Es (List Int) h__2 h__2h, Es (List Int) h__3 h__3h, Bx b14 [(.int .i64 0), (.slice none 0 0), (.slice none 0 0), (.slice none 0 0)], Bx b19 [(.int .i64 a16), (.slice none 0 0), (.slice none 0 0), (.slice none 0 0)], Bx g107_3 [(.int .i64 s106_0), (g107_0).v, (g107_1).v, (g107_2).v], E (List (Int × Int × List Int × List Int)) s106_1 g107_0, E (List Int) s106_2 g107_1, E (List Int) s106_3 g107_2] := H
          refine hold hX ?_
          refine stA gok [(.int .i64 y333_0), (h336).v, (h338).v, (h340).v] rfl H rfl rfl rfl ?_; clear H; intro w345 H
          replace H : Cx w0 fp0 S0 w345 [Bx b343 [(.int .i64 y333_0), (h336).v, (h338).v, (h340).v], E (List (Int × Int × List Int × List Int)) y333_1 h336, E (List Int) y333_2 h338, E (List Int) y333_3 h340, E (List Int) y315 h318, Bx b8 [(.int .i64 g__0), (g__1h).v, (g__2h).v, (g__3h).v], Es (List (Int × Int × List Int × List Int)) g__1 g__1h, Es (List Int) g__2 g__2h, Es (List Int) g__3 g__3h, Bx b11 [(.int .i64 h__0), (h__1h).v, (h__2h).v, (h__3h).v], Es (List (Int × Int × List Int × List Int)) h__1 h__1h, Es (List Int) h__2 h__2h, Es (List Int) h__3 h__3h, Bx b14 [(.int .i64 0), (.slice none 0 0), (.slice none 0 0), (.slice none 0 0)], Bx b19 [(.int .i64 a16), (.slice none 0 0), (.slice none 0 0), (.slice none 0 0)], Bx g107_3 [(.int .i64 s106_0), (g107_0).v, (g107_1).v, (g107_2).v], E (List (Int × Int × List Int × List Int)) s106_1 g107_0, E (List Int) s106_2 g107_1, E (List Int) s106_3 g107_2] := H
          refine hold trivial ?_
          exact ⟨((y333_0, y333_1, y333_2, y333_3), (h336, h338, h340, b343)), ⟨rfl, rfl, rfl, rfl, trivial⟩, Option.some.inj hF334, H.sel [13, 14, 15, 16, 17, 18, 0, 1, 2, 3] rfl⟩
        · skip
          refine both ?_ ?_
          · skip
            obtain ⟨a346, eq347, hF348⟩ := bindS hF316; clear hF316
            refine alloc_ gok rfl H ?_; clear H; intro b350 w349 hx H
            replace hX := hX.trans0 hx; clear hx
            replace H : Cx w0 fp0 S0 w349 [Bx b350 [(.int .i64 0), (.slice none 0 0), (.slice none 0 0), (.slice none 0 0)], E (List Int) y315 h318, Bx b8 [(.int .i64 g__0), (g__1h).v, (g__2h).v, (g__3h).v], Es (List (Int × Int × List Int × List Int)) g__1 g__1h, Es (List Int) g__2 g__2h, Es (List Int) g__3 g__3h, Bx b11 [(.int .i64 h__0), (h__1h).v, (h__2h).v, (h__3h).v], Es (List (Int × Int × List Int × List Int)) h__1 h__1h, Es (List Int) h__2 h__2h, Es (List Int) h__3 h__3h, Bx b14 [(.int .i64 0), (.slice none 0 0), (.slice none 0 0), (.slice none 0 0)], Bx b19 [(.int .i64 a16), (.slice none 0 0), (.slice none 0 0), (.slice none 0 0)], Bx g107_3 [(.int .i64 s106_0), (g107_0).v, (g107_1).v, (g107_2).v], E (List (Int × Int × List Int × List Int)) s106_1 g107_0, E (List Int) s106_2 g107_1, E (List Int) s106_3 g107_2] := H
            refine hold hX ?_
            have e := eq347; clear eq347
            obtain ⟨a346_0, a346_1, a346_2, a346_3⟩ := a346
            have ea346 := e; clear e
            refine callFx (impl_Graph_moved_c h__0 h__1 h__1h h__2 h__2h h__3 h__3h h__0 y315 h318 a346_0 a346_1 a346_2 a346_3 ea346) H ⟨Vw.sh 7 rfl, Vw.sh 8 rfl, Vw.sh 9 rfl, Vw.own 1 rfl, trivial⟩ ?_; clear H ea346
            rintro _ _ w352 ⟨h353, h355, h357, rfl, rfl⟩ hx (H : Cx w0 fp0 S0 w352 [E (List (Int × Int × List Int × List Int)) a346_1 h353, E (List Int) a346_2 h355, E (List Int) a346_3 h357, Bx b350 [(.int .i64 0), (.slice none 0 0), (.slice none 0 0), (.slice none 0 0)], E (List Int) y315 h318, Bx b8 [(.int .i64 g__0), (g__1h).v, (g__2h).v, (g__3h).v], Es (List (Int × Int × List Int × List Int)) g__1 g__1h, Es (List Int) g__2 g__2h, Es (List Int) g__3 g__3h, Bx b11 [(.int .i64 h__0), (h__1h).v, (h__2h).v, (h__3h).v], Es (List (Int × Int × List Int × List Int)) h__1 h__1h, Es (List Int) h__2 h__2h, Es (List Int) h__3 h__3h, Bx b14 [(.int .i64 0), (.slice none 0 0), (.slice none 0 0), (.slice none 0 0)], Bx b19 [(.int .i64 a16), (.slice none 0 0), (.slice none 0 0), (.slice none 0 0)], Bx g107_3 [(.int .i64 s106_0), (g107_0).v, (g107_1).v, (g107_2).v], E (List (Int × Int × List Int × List Int)) s106_1 g107_0, E (List Int) s106_2 g107_1, E (List Int) s106_3 g107_2])
            replace hX := hX.trans0 hx; clear hx
            refine hold hX ?_
            replace H := H.sel [3, 0, 1, 2, 4, 5, 6, 7, 8, 9, 10, 11, 12, 13, 14, 15, 16, 17, 18] rfl
            refine stA gok [(.int .i64 a346_0), (h353).v, (h355).v, (h357).v] rfl H rfl rfl rfl ?_; clear H; intro w359 H
            replace H : Cx w0 fp0 S0 w359 [Bx b350 [(.int .i64 a346_0), (h353).v, (h355).v, (h357).v], E (List (Int × Int × List Int × List Int)) a346_1 h353, E (List Int) a346_2 h355, E (List Int) a346_3 h357, E (List Int) y315 h318, Bx b8 [(.int .i64 g__0), (g__1h).v, (g__2h).v, (g__3h).v], Es (List (Int × Int × List Int × List Int)) g__1 g__1h, Es (List Int) g__2 g__2h, Es (List Int) g__3 g__3h, Bx b11 [(.int .i64 h__0), (h__1h).v, (h__2h).v, (h__3h).v], Es (List (Int × Int × List Int × List Int)) h__1 h__1h, Es (List Int) h__2 h__2h, Es (List Int) h__3 h__3h, Bx b14 [(.int .i64 0), (.slice none 0 0), (.slice none 0 0), (.slice none 0 0)], Bx b19 [(.int .i64 a16), (.slice none 0 0), (.slice none 0 0), (.slice none 0 0)], Bx g107_3 [(.int .i64 s106_0), (g107_0).v, (g107_1).v, (g107_2).v], E (List (Int × Int × List Int × List Int)) s106_1 g107_0, E (List Int) s106_2 g107_1, E (List Int) s106_3 g107_2] := H
            refine hold trivial ?_
            exact ⟨((a346_0, a346_1, a346_2, a346_3), (h353, h355, h357, b350)), ⟨rfl, rfl, rfl, rfl, trivial⟩, Option.some.inj hF348, H.sel [13, 14, 15, 16, 17, 18, 0, 1, 2, 3] rfl⟩
          · skip
            exact trivial
      · skip
        refine both ?_ ?_
        · skip
          obtain ⟨a360, eq361, hF362⟩ := bindS hF294; clear hF294
          obtain ⟨a363, eq364, hF365⟩ := bindS hF362; clear hF362
          refine alloc_ gok rfl H ?_; clear H; intro b367 w366 hx H
          replace hX := hX.trans0 hx; clear hx
          replace H : Cx w0 fp0 S0 w366 [Bx b367 [(.int .i64 0), (.slice none 0 0), (.slice none 0 0), (.slice none 0 0)], Bx b8 [(.int .i64 g__0), (g__1h).v, (g__2h).v, (g__3h).v], Es (List (Int × Int × List Int × List Int)) g__1 g__1h, Es (List Int) g__2 g__2h, Es (List Int) g__3 g__3h, Bx b11 [(.int .i64 h__0), (h__1h).v, (h__2h).v, (h__3h).v], Es (List (Int × Int × List Int × List Int)) h__1 h__1h, Es (List Int) h__2 h__2h, Es (List Int) h__3 h__3h, Bx b14 [(.int .i64 0), (.slice none 0 0), (.slice none 0 0), (.slice none 0 0)], Bx b19 [(.int .i64 a16), (.slice none 0 0), (.slice none 0 0), (.slice none 0 0)], Bx g107_3 [(.int .i64 s106_0), (g107_0).v, (g107_1).v, (g107_2).v], E (List (Int × Int × List Int × List Int)) s106_1 g107_0, E (List Int) s106_2 g107_1, E (List Int) s106_3 g107_2] := H
          refine hold hX ?_
          have e := eq361; clear eq361
          have ea360 := e; clear e
          refine callFx (impl_from_c g__0 h__0 a360 ea360) H trivial ?_; clear H ea360
          rintro _ _ w369 ⟨h370, rfl, rfl⟩ hx (H : Cx w0 fp0 S0 w369 [E (List Int) a360 h370, Bx b367 [(.int .i64 0), (.slice none 0 0), (.slice none 0 0), (.slice none 0 0)], Bx b8 [(.int .i64 g__0), (g__1h).v, (g__2h).v, (g__3h).v], Es (List (Int × Int × List Int × List Int)) g__1 g__1h, Es (List Int) g__2 g__2h, Es (List Int) g__3 g__3h, Bx b11 [(.int .i64 h__0), (h__1h).v, (h__2h).v, (h__3h).v], Es (List (Int × Int × List Int × List Int)) h__1 h__1h, Es (List Int) h__2 h__2h, Es (List Int) h__3 h__3h, Bx b14 [(.int .i64 0), (.slice none 0 0), (.slice none 0 0), (.slice none 0 0)], Bx b19 [(.int .i64 a16), (.slice none 0 0), (.slice none 0 0), (.slice none 0 0)], Bx g107_3 [(.int .i64 s106_0), (g107_0).v, (g107_1).v, (g107_2).v], E (List (Int × Int × List Int × List Int)) s106_1 g107_0, E (List Int) s106_2 g107_1, E (List Int) s106_3 g107_2])
          replace hX := hX.trans0 hx; clear hx
          refine hold hX ?_
          have e := eq364; clear eq364
          obtain ⟨a363_0, a363_1, a363_2, a363_3⟩ := a363
          have ea363 := e; clear e
          refine callFx (impl_Graph_moved_c h__0 h__1 h__1h h__2 h__2h h__3 h__3h h__0 a360 h370 a363_0 a363_1 a363_2 a363_3 ea363) H ⟨Vw.sh 7 rfl, Vw.sh 8 rfl, Vw.sh 9 rfl, Vw.own 0 rfl, trivial⟩ ?_; clear H ea363
          rintro _ _ w372 ⟨h373, h375, h377, rfl, rfl⟩ hx (H : Cx w0 fp0 S0 w372 [E (List (Int × Int × List Int × List Int)) a363_1 h373, E (List Int) a363_2 h375, E (List Int) a363_3 h377, E (List Int) a360 h370, Bx b367 [(.int .i64 0), (.slice none 0 0), (.slice none 0 0), (.slice none 0 0)], Bx b8 [(.int .i64 g__0), (g__1h).v, (g__2h).v, (g__3h).v], Es (List (Int × Int × List Int × List Int)) g__1 g__1h, Es (List Int) g__2 g__2h, Es (List Int) g__3 g__3h, Bx b11 [(.int .i64 h__0), (h__1h).v, (h__2h).v, (h__3h).v], Es (List (Int × Int × List Int × List Int)) h__1 h__1h, Es (List Int) h__2 h__2h, Es (List Int) h__3 h__3h, Bx b14 [(.int .i64 0), (.slice none 0 0), (.slice none 0 0), (.slice none 0 0)], Bx b19 [(.int .i64 a16), (.slice none 0 0), (.slice none 0 0), (.slice none 0 0)], Bx g107_3 [(.int .i64 s106_0), (g107_0).v, (g107_1).v, (g107_2).v], E (List (Int × Int × List Int × List Int)) s106_1 g107_0, E (List Int) s106_2 g107_1, E (List Int) s106_3 g107_2])
          replace hX := hX.trans0 hx; clear hx
          refine hold hX ?_
          replace H := H.sel [4, 0, 1, 2, 3, 5, 6, 7, 8, 9, 10, 11, 12, 13, 14, 15, 16, 17, 18] rfl
          refine stA gok [(.int .i64 a363_0), (h373).v, (h375).v, (h377).v] rfl H rfl rfl rfl ?_; clear H; intro w379 H
          replace H : Cx w0 fp0 S0 w379 [Bx b367 [(.int .i64 a363_0), (h373).v, (h375).v, (h377).v], E (List (Int × Int × List Int × List Int)) a363_1 h373, E (List Int) a363_2 h375, E (List Int) a363_3 h377, E (List Int) a360 h370, Bx b8 [(.int .i64 g__0), (g__1h).v, (g__2h).v, (g__3h).v], Es (List (Int × Int × List Int × List Int)) g__1 g__1h, Es (List Int) g__2 g__2h, Es (List Int) g__3 g__3h, Bx b11 [(.int .i64 h__0), (h__1h).v, (h__2h).v, (h__3h).v], Es (List (Int × Int × List Int × List Int)) h__1 h__1h, Es (List Int) h__2 h__2h, Es (List Int) h__3 h__3h, Bx b14 [(.int .i64 0), (.slice none 0 0), (.slice none 0 0), (.slice none 0 0)], Bx b19 [(.int .i64 a16), (.slice none 0 0), (.slice none 0 0), (.slice none 0 0)], Bx g107_3 [(.int .i64 s106_0), (g107_0).v, (g107_1).v, (g107_2).v], E (List (Int × Int × List Int × List Int)) s106_1 g107_0, E (List Int) s106_2 g107_1, E (List Int) s106_3 g107_2] := H
          refine hold trivial ?_
          exact ⟨((a363_0, a363_1, a363_2, a363_3), (h373, h375, h377, b367)), ⟨rfl, rfl, rfl, rfl, trivial⟩, Option.some.inj hF365, H.sel [13, 14, 15, 16, 17, 18, 0, 1, 2, 3] rfl⟩
        · skip
          exact trivial
    · clear hF294 H
      rintro T381 ⟨⟨s286_0, s286_1, s286_2, s286_3⟩, ⟨g287_0, g287_1, g287_2, g287_3⟩⟩ w380 ⟨hr, (H : Cx w0 fp0 S0 w380 [Bx b14 [(.int .i64 0), (.slice none 0 0), (.slice none 0 0), (.slice none 0 0)], Bx b19 [(.int .i64 a16), (.slice none 0 0), (.slice none 0 0), (.slice none 0 0)], Bx g107_3 [(.int .i64 s106_0), (g107_0).v, (g107_1).v, (g107_2).v], E (List (Int × Int × List Int × List Int)) s106_1 g107_0, E (List Int) s106_2 g107_1, E (List Int) s106_3 g107_2, Bx g287_3 [(.int .i64 s286_0), (g287_0).v, (g287_1).v, (g287_2).v], E (List (Int × Int × List Int × List Int)) s286_1 g287_0, E (List Int) s286_2 g287_1, E (List Int) s286_3 g287_2])⟩
      subst hr
      refine fld gok rfl rfl rfl rfl ?_
      refine load1 (H.bx 2 rfl (j := 1) rfl) ?_
      refine fld gok rfl rfl rfl rfl ?_
      refine load1 (H.bx 6 rfl (j := 1) rfl) ?_
      obtain ⟨a382, e, hF383⟩ := bindS hF293; clear hF293
      replace H := H.sel [3, 7, 0, 1, 2, 4, 5, 6, 8, 9] rfl
      refine append_ (α := Int × Int × List Int × List Int) gok rfl rfl rfl rfl H e ?_; clear e H; intro h385 w384 H
      refine fld gok rfl rfl rfl rfl ?_
      replace H := H.sel [2, 0, 1, 3, 4, 5, 6, 7, 8] rfl
      refine stB (j := 1) H rfl rfl ?_; clear H; intro w387 H
      replace H : Cx w0 fp0 S0 w387 [Bx b19 [(.int .i64 a16), (h385).v, (.slice none 0 0), (.slice none 0 0)], E (List (Int × Int × List Int × List Int)) a382 h385, Bx b14 [(.int .i64 0), (.slice none 0 0), (.slice none 0 0), (.slice none 0 0)], Bx g107_3 [(.int .i64 s106_0), (g107_0).v, (g107_1).v, (g107_2).v], E (List Int) s106_2 g107_1, E (List Int) s106_3 g107_2, Bx g287_3 [(.int .i64 s286_0), (g287_0).v, (g287_1).v, (g287_2).v], E (List Int) s286_2 g287_1, E (List Int) s286_3 g287_2] := H
      refine loadN [(.int .i64 a16), (h385).v, (.slice none 0 0), (.slice none 0 0)] rfl (fun j u hj => H.bx 0 rfl hj) ?_
      replace H := H.sel [2, 0, 1, 3, 4, 5, 6, 7, 8] rfl
      refine stA gok [(.int .i64 a16), (h385).v, (.slice none 0 0), (.slice none 0 0)] rfl H rfl rfl rfl ?_; clear H; intro w388 H
      replace H : Cx w0 fp0 S0 w388 [Bx b14 [(.int .i64 a16), (h385).v, (.slice none 0 0), (.slice none 0 0)], Bx b19 [(.int .i64 a16), (h385).v, (.slice none 0 0), (.slice none 0 0)], E (List (Int × Int × List Int × List Int)) a382 h385, Bx g107_3 [(.int .i64 s106_0), (g107_0).v, (g107_1).v, (g107_2).v], E (List Int) s106_2 g107_1, E (List Int) s106_3 g107_2, Bx g287_3 [(.int .i64 s286_0), (g287_0).v, (g287_1).v, (g287_2).v], E (List Int) s286_2 g287_1, E (List Int) s286_3 g287_2] := H
      refine loadN [(.int .i64 a16), (h385).v, (.slice none 0 0), (.slice none 0 0)] rfl (fun j u hj => H.bx 0 rfl hj) ?_
      replace H := H.nil (α := Int)
      replace H := H.nil (α := Int)
      cases hF383
      exact ⟨_, _, rfl, ⟨h385, nilH, nilH, rfl, rfl⟩, (H.sel [4, 1, 0] rfl).close ⟨cloE, cloE, cloE, trivial⟩⟩

theorem impl_clone_c (list_ : List Int) (list_h : Hd) (y : List Int) (hF : F_impl_clone list_ = some y) :
    ConF Try.prog 84 #[(list_h).v] [Es (List Int) list_ list_h] [] (fun v Γ' => ∃ z0 : Hd, v = (z0).v ∧ Γ' = [E (List Int) y z0]) := by
  intro w0 S0 fp0 hI hS
  have H : Cx w0 fp0 S0 w0 [Es (List Int) list_ list_h] := Cx.start hI hS
  clear hI hS
  refine enterC (args := [_]) gok Try.func84 rfl _ rfl rfl rfl ?_
  refine lit0 (α := Int) gok rfl rfl H ?_; clear H; intro h3 w2 hx H
  clear hx
  obtain ⟨a5, e, hF6⟩ := bindS hF; clear hF
  refine appendS (α := Int) gok rfl rfl rfl rfl H (Vw.sh 0 rfl) e ?_; clear e H; intro h8 w7 H
  cases hF6
  exact ⟨_, _, rfl, ⟨h8, rfl, rfl⟩, (H.sel [0] rfl).close ⟨cloE, trivial⟩⟩

theorem impl_classes_root_c (c_ : List Int) (c_h : Hd) (w_ : Int) (y : Int) (hF : F_impl_classes_root c_ w_ = some y) :
    ConF Try.prog 133 #[(c_h).v, (.int .i64 w_)] [Es (List Int) c_ c_h] [] (fun v Γ' => v = (.int .i64 y) ∧ Γ' = []) := by
  intro w0 S0 fp0 hI hS
  have H : Cx w0 fp0 S0 w0 [Es (List Int) c_ c_h] := Cx.start hI hS
  clear hI hS
  refine enterC (args := [_, _]) gok Try.func133 rfl _ rfl rfl rfl ?_
  obtain ⟨r78, hF80, hF79⟩ := bindS hF; clear hF
  refine cut (fun (q81 : Int) => [(1, (.int .i64 q81))]) (fun (q81 : Int) w' => q81 = r78 ∧ Cx w0 fp0 S0 w' []) ?_ ?_
  · skip
    refine loopW _ (fun (s126 : Int) (_ : Unit) => [(0, (c_h).v), (1, (.int .i64 s126))]) (fun (s126 : Int) (_ : Unit) w' => Cx w0 fp0 S0 w' [Es (List Int) c_ c_h]) w_ () hF80 ⟨rfl, rfl, trivial⟩ (H.sel [0] rfl) ?_
    · clear H
      rintro T132 s126 _ w131 o133 (H : Cx w0 fp0 S0 w131 [Es (List Int) c_ c_h]) hrt hF134
      refine sq ?_
      obtain ⟨a141, e, hF142⟩ := bindS hF134; clear hF134
      obtain ⟨p139, m140, c135, c136, c137, c138⟩ := (H.rs (α := List Int) 0 rfl).at1 e; clear e
      refine idxE c135 c136 c137 ?_; clear c135 c136 c137
      refine load1 c138 ?_; clear c138
      obtain ⟨a143, e, hF144⟩ := bindS hF142; clear hF142
      refine boolO e ?_; clear e
      cases a143
      · have hF145 := condF hF144; clear hF144
        have hs := Option.some.inj hF145; subst hs; clear hF145
        have hF146 : some _ = some _ := congrArg some (hrt _ rfl).symm
        exact ⟨s126, ⟨rfl, trivial⟩, Option.some.inj hF146, H.sel [] rfl⟩
      · have hF147 := condT hF144; clear hF144
        obtain ⟨a154, e, hF155⟩ := bindS hF147; clear hF147
        obtain ⟨p152, m153, c148, c149, c150, c151⟩ := (H.rs (α := List Int) 0 rfl).at1 e; clear e
        refine idxE c148 c149 c150 ?_; clear c148 c149 c150
        refine load1 c151 ?_; clear c151
        have hs := Option.some.inj hF155; subst hs; clear hF155
        exact ⟨a154, (), rfl, ⟨rfl, rfl, trivial⟩, H.sel [0] rfl⟩
  · clear hF80 H
    rintro T157 s76 w156 ⟨hr, (H : Cx w0 fp0 S0 w156 [])⟩
    subst hr
    cases hF79
    exact ⟨_, _, rfl, ⟨rfl, rfl⟩, (H.sel [] rfl).close trivial⟩

theorem impl_classes_join_c (c_ : List Int) (c_h : Hd) (v_ : Int) (w_ : Int) (y : List Int) (hF : F_impl_classes_join c_ v_ w_ = some y) :
    ConF Try.prog 131 #[(c_h).v, (.int .i64 v_), (.int .i64 w_)] [] [E (List Int) c_ c_h] (fun v Γ' => v = (.tuple #[]) ∧ Γ' = [E (List Int) y c_h]) := by
  intro w0 S0 fp0 hI hS
  have H : Cx w0 fp0 S0 w0 [E (List Int) c_ c_h] := Cx.start hI hS
  clear hI hS
  refine enterC (args := [_, _, _]) gok Try.func131 rfl _ rfl rfl rfl ?_
  obtain ⟨y2, e, hF3⟩ := bindS hF; clear hF
  have ey2 := e; clear e
  refine callF (impl_classes_root_c c_ c_h v_ y2 ey2) (Γi := []) H ⟨Vw.own 0 rfl, trivial⟩ ?_; clear H ey2
  rintro _ _ w4 ⟨rfl, rfl⟩ (H : Cx w0 fp0 S0 w4 [E (List Int) c_ c_h])
  obtain ⟨y5, e, hF6⟩ := bindS hF3; clear hF3
  have ey5 := e; clear e
  refine callF (impl_classes_root_c c_ c_h w_ y5 ey5) (Γi := []) H ⟨Vw.own 0 rfl, trivial⟩ ?_; clear H ey5
  rintro _ _ w7 ⟨rfl, rfl⟩ (H : Cx w0 fp0 S0 w7 [E (List Int) c_ c_h])
  obtain ⟨a8, e, hF9⟩ := bindS hF6; clear hF6
  refine max_ e ?_; clear e
  obtain ⟨a10, e, hF11⟩ := bindS hF9; clear hF9
  refine min_ e ?_; clear e
  obtain ⟨a18, e, hF19⟩ := bindS hF11; clear hF11
  have ea18 := e; clear e
  obtain ⟨p16, m17, c12, c13, c14⟩ := (H.ro (α := List Int) 0 rfl).setp ea18
  refine idxE c12 c13 c14 ?_
  refine setS (α := Int) H c12 c13 ea18 ?_; clear H c12 c13 c14 ea18; intro w20 H
  cases hF19
  exact ⟨_, _, rfl, ⟨rfl, rfl⟩, (H.sel [0] rfl).close ⟨cloE, trivial⟩⟩

theorem impl_Graph_glue_1_c (list_ : List Int) (list_h : Hd) (c0_b : Nat) (c0_ : List Bool) (c0_h : Hd) (c1_b : Nat) (c1_ : List Int) (c1_h : Hd) (y : List Bool) (hF : F_impl_Graph_glue_1 list_ c0_ c1_ = some y) :
    ConF Try.prog 132 #[(list_h).v, (.pointer (some ⟨c0_b, 0, none⟩)), (.pointer (some ⟨c1_b, 0, none⟩))] [Es (List Int) list_ list_h, Es (List Int) c1_ c1_h] [Bx c0_b [(c0_h).v], E (List Bool) c0_ c0_h, Bx c1_b [(c1_h).v]] (fun v Γ' => v = (.tuple #[]) ∧ Γ' = [Bx c0_b [(c0_h).v], E (List Bool) y c0_h, Bx c1_b [(c1_h).v]]) := by
  intro w0 S0 fp0 hI hS
  have H : Cx w0 fp0 S0 w0 [Es (List Int) list_ list_h, Es (List Int) c1_ c1_h, Bx c0_b [(c0_h).v], E (List Bool) c0_ c0_h, Bx c1_b [(c1_h).v]] := Cx.start hI hS
  clear hI hS
  refine enterC (args := [_, _, _]) gok Try.func132 rfl _ rfl rfl rfl ?_
  refine lenE (H.rs (α := List Int) 0 rfl).len ?_
  have hmx55 := (H.rs (α := List Int) 0 rfl).max
  obtain ⟨r56, e, hF57⟩ := bindS hF; clear hF
  refine loopS _ list_.length (fun (k6 : Nat) (s53 : List Bool) (_ : Unit) => [(1, (.pointer (some ⟨c0_b, 0, none⟩))), (2, (.pointer (some ⟨c1_b, 0, none⟩))), (6, (list_h).v), (7, (.int .i64 ((list_.length : Nat) : Int))), (8, (.int .i64 ((k6 : Nat) : Int)))]) (fun _ (s53 : List Bool) (_ : Unit) w' => Cx w0 fp0 S0 w' [Bx c0_b [(c0_h).v], E (List Bool) s53 c0_h, Bx c1_b [(c1_h).v], Es (List Int) c1_ c1_h, Es (List Int) list_ list_h]) c0_ () e ⟨rfl, rfl, rfl, rfl, rfl, trivial⟩ (H.sel [2, 3, 4, 1, 0] rfl) ?_ ?_
  · clear H e
    rintro T59 k6 s53 _ w58 o60 hk (H : Cx w0 fp0 S0 w58 [Bx c0_b [(c0_h).v], E (List Bool) s53 c0_h, Bx c1_b [(c1_h).v], Es (List Int) c1_ c1_h, Es (List Int) list_ list_h]) hF61
    refine boolE (z := true) (ltLen hk) ?_
    refine sq ?_
    refine sq ?_
    obtain ⟨a68, e, hF69⟩ := bindS hF61; clear hF61
    obtain ⟨p66, m67, c62, c63, c64, c65⟩ := (H.rs (α := List Int) 4 rfl).at1 e; clear e
    refine idxE c62 c63 c64 ?_; clear c62 c63 c64
    refine load1 c65 ?_; clear c65
    refine heldX H [5] (.fst 2 (.fst 0 (.fst 1 (.act 3 (.fst 4 (.act 5 .done)))))) mixed [] trivial (by kernel_rfl) ?_
    clear H; intro w70 H
    have hX : Ext w70 w70 := Upd.refl _ _
    have H0 := H
    refine load1X (H.bx0 0 rfl) ?_
    refine load1X (H.bx0 2 rfl) ?_
    obtain ⟨y71, e, hF72⟩ := bindS hF69; clear hF69
    have ey71 := e; clear e
    refine callFx (impl_classes_root_c c1_ c1_h a68 y71 ey71) H ⟨Vw.sh 3 rfl, trivial⟩ ?_; clear H ey71
    rintro _ _ w73 ⟨rfl, rfl⟩ hx (H : Cx w0 fp0 S0 w73 [Bx c0_b [(c0_h).v], E (List Bool) s53 c0_h, Bx c1_b [(c1_h).v], Es (List Int) c1_ c1_h, Es (List Int) list_ list_h])
    replace hX := hX.trans0 hx; clear hx
    refine hold hX ?_
    obtain ⟨a80, e, hF81⟩ := bindS hF72; clear hF72
    have ea80 := e; clear e
    obtain ⟨p78, m79, c74, c75, c76⟩ := (H.ro (α := List Bool) 1 rfl).setp ea80
    refine idxE c74 c75 c76 ?_
    replace H := H.sel [1, 0, 2, 3, 4] rfl
    refine setS (α := Bool) H c74 c75 ea80 ?_; clear H c74 c75 c76 ea80; intro w82 H
    refine hold trivial ?_
    refine arK hk hmx55 ?_
    have hs := Option.some.inj hF81; subst hs; clear hF81
    exact ⟨(), ⟨rfl, rfl, rfl, rfl, rfl, trivial⟩, H.sel [1, 0, 2, 3, 4] rfl⟩
  · clear H e
    rintro T84 _ w83 (H : Cx w0 fp0 S0 w83 [Bx c0_b [(c0_h).v], E (List Bool) r56 c0_h, Bx c1_b [(c1_h).v], Es (List Int) c1_ c1_h, Es (List Int) list_ list_h])
    refine boolE (z := false) geLen ?_
    refine sq ?_
    cases hF57
    exact ⟨_, _, rfl, ⟨rfl, rfl⟩, (H.sel [0, 1, 2] rfl).close ⟨cloB, cloE, cloB, trivial⟩⟩

theorem impl_Graph_lists_impl_Graph_glue_1_c (g__0 : Int) (g__1 : List (Int × Int × List Int × List Int)) (g__1h : Hd) (g__2 : List Int) (g__2h : Hd) (g__3 : List Int) (g__3h : Hd) (d0_b : Nat) (d0_ : List Bool) (d0_h : Hd) (d1_b : Nat) (d1_ : List Int) (d1_h : Hd) (y : List Bool) (hF : F_impl_Graph_lists_impl_Graph_glue_1 (g__0, g__1, g__2, g__3) d0_ d1_ = some y) :
    ConF Try.prog 82 #[(.agg #[(.int .i64 g__0), (g__1h).v, (g__2h).v, (g__3h).v]), (.func (.func 132) #[] #[(.pointer (some ⟨d0_b, 0, none⟩)), (.pointer (some ⟨d1_b, 0, none⟩))])] [Es (List (Int × Int × List Int × List Int)) g__1 g__1h, Es (List Int) g__2 g__2h, Es (List Int) g__3 g__3h, Es (List Int) d1_ d1_h] [Bx d0_b [(d0_h).v], E (List Bool) d0_ d0_h, Bx d1_b [(d1_h).v]] (fun v Γ' => v = (.tuple #[]) ∧ Γ' = [Bx d0_b [(d0_h).v], E (List Bool) y d0_h, Bx d1_b [(d1_h).v]]) := by
  intro w0 S0 fp0 hI hS
  have H : Cx w0 fp0 S0 w0 [Es (List (Int × Int × List Int × List Int)) g__1 g__1h, Es (List Int) g__2 g__2h, Es (List Int) g__3 g__3h, Es (List Int) d1_ d1_h, Bx d0_b [(d0_h).v], E (List Bool) d0_ d0_h, Bx d1_b [(d1_h).v]] := Cx.start hI hS
  clear hI hS
  refine enterC (args := [_, _]) gok Try.func82 rfl _ rfl rfl rfl ?_
  refine box_ H ?_; clear H; intro b9 w8 hx H
  clear hx
  replace H : Cx w0 fp0 S0 w8 [Bx b9 [(.int .i64 g__0), (g__1h).v, (g__2h).v, (g__3h).v], Es (List (Int × Int × List Int × List Int)) g__1 g__1h, Es (List Int) g__2 g__2h, Es (List Int) g__3 g__3h, Es (List Int) d1_ d1_h, Bx d0_b [(d0_h).v], E (List Bool) d0_ d0_h, Bx d1_b [(d1_h).v]] := H
  refine fld gok rfl rfl rfl rfl ?_
  refine load1 (H.bx 0 rfl (j := 2) rfl) ?_
  obtain ⟨y11, e, hF12⟩ := bindS hF; clear hF
  have ey11 := e; clear e
  replace H := H.sel [5, 6, 7, 0, 1, 2, 3, 4] rfl
  refine callF (impl_Graph_glue_1_c g__2 g__2h d0_b d0_ d0_h d1_b d1_ d1_h y11 ey11) (Γi := [Bx d0_b [(d0_h).v], E (List Bool) d0_ d0_h, Bx d1_b [(d1_h).v]]) H ⟨Vw.sh 2 rfl, Vw.sh 4 rfl, trivial⟩ ?_; clear H ey11
  rintro _ _ w13 ⟨rfl, rfl⟩ (H : Cx w0 fp0 S0 w13 [Bx d0_b [(d0_h).v], E (List Bool) y11 d0_h, Bx d1_b [(d1_h).v], Bx b9 [(.int .i64 g__0), (g__1h).v, (g__2h).v, (g__3h).v], Es (List (Int × Int × List Int × List Int)) g__1 g__1h, Es (List Int) g__2 g__2h, Es (List Int) g__3 g__3h, Es (List Int) d1_ d1_h])
  refine fld gok rfl rfl rfl rfl ?_
  refine load1 (H.bx 3 rfl (j := 3) rfl) ?_
  obtain ⟨y14, e, hF15⟩ := bindS hF12; clear hF12
  have ey14 := e; clear e
  refine callF (impl_Graph_glue_1_c g__3 g__3h d0_b y11 d0_h d1_b d1_ d1_h y14 ey14) (Γi := [Bx d0_b [(d0_h).v], E (List Bool) y11 d0_h, Bx d1_b [(d1_h).v]]) H ⟨Vw.sh 3 rfl, Vw.sh 4 rfl, trivial⟩ ?_; clear H ey14
  rintro _ _ w16 ⟨rfl, rfl⟩ (H : Cx w0 fp0 S0 w16 [Bx d0_b [(d0_h).v], E (List Bool) y14 d0_h, Bx d1_b [(d1_h).v], Bx b9 [(.int .i64 g__0), (g__1h).v, (g__2h).v, (g__3h).v], Es (List (Int × Int × List Int × List Int)) g__1 g__1h, Es (List Int) g__2 g__2h, Es (List Int) g__3 g__3h, Es (List Int) d1_ d1_h])
  refine fld gok rfl rfl rfl rfl ?_
  refine load1 (H.bx 3 rfl (j := 1) rfl) ?_
  refine lenE (H.rs (α := List (Int × Int × List Int × List Int)) 4 rfl).len ?_
  have hmx72 := (H.rs (α := List (Int × Int × List Int × List Int)) 4 rfl).max
  obtain ⟨r73, e, hF74⟩ := bindS hF15; clear hF15
  refine loopS _ g__1.length (fun (k17 : Nat) (s70 : List Bool) (_ : Unit) => [(1, (.func (.func 132) #[] #[(.pointer (some ⟨d0_b, 0, none⟩)), (.pointer (some ⟨d1_b, 0, none⟩))])), (15, (g__1h).v), (16, (.int .i64 ((g__1.length : Nat) : Int))), (17, (.int .i64 ((k17 : Nat) : Int)))]) (fun _ (s70 : List Bool) (_ : Unit) w' => Cx w0 fp0 S0 w' [Bx d0_b [(d0_h).v], E (List Bool) s70 d0_h, Bx d1_b [(d1_h).v], Es (List Int) d1_ d1_h, Es (List (Int × Int × List Int × List Int)) g__1 g__1h]) y14 () e ⟨rfl, rfl, rfl, rfl, trivial⟩ (H.sel [0, 1, 2, 7, 4] rfl) ?_ ?_
  · clear H e
    rintro T76 k17 s70 _ w75 o77 hk (H : Cx w0 fp0 S0 w75 [Bx d0_b [(d0_h).v], E (List Bool) s70 d0_h, Bx d1_b [(d1_h).v], Es (List Int) d1_ d1_h, Es (List (Int × Int × List Int × List Int)) g__1 g__1h]) hF78
    refine boolE (z := true) (ltLen hk) ?_
    refine sq ?_
    refine sq ?_
    obtain ⟨a85, e, hF86⟩ := bindS hF78; clear hF78
    have HH := H; clear H; obtain ⟨p83, m84, g87, c79, c80, c81, c82, H⟩ := HH.el (α := Int × Int × List Int × List Int) 4 rfl e; clear HH
    clear e
    obtain ⟨a85_0, a85_1, a85_2, a85_3⟩ := a85
    obtain ⟨_, _, h89, h90⟩ := g87
    replace H := H.part (β := List Int) a85_2 (h89 : Hd) 0 rfl (fun S h => (And.left (And.right (And.right h))))
    replace H := H.part (β := List Int) a85_3 (h90 : Hd) 1 rfl (fun S h => (And.right (And.right (And.right h))))
    replace H := H.sel [0, 1, 3, 4, 5, 6, 7] rfl
    refine idxE c79 c80 c81 ?_; clear c79 c80 c81
    refine loadN [(.int .i64 a85_0), (.int .i64 a85_1), (h89).v, (h90).v] rfl c82 ?_; clear c82
    refine alloc_ gok rfl H ?_; clear H; intro b94 w93 hx H
    clear hx
    replace H : Cx w0 fp0 S0 w93 [Bx b94 [(.int .i64 0), (.int .i64 0), (.slice none 0 0), (.slice none 0 0)], Es (List Int) a85_3 h90, Es (List Int) a85_2 h89, Bx d0_b [(d0_h).v], E (List Bool) s70 d0_h, Bx d1_b [(d1_h).v], Es (List Int) d1_ d1_h, Es (List (Int × Int × List Int × List Int)) g__1 g__1h] := H
    refine stA gok [(.int .i64 a85_0), (.int .i64 a85_1), (h89).v, (h90).v] rfl H rfl rfl rfl ?_; clear H; intro w96 H
    replace H : Cx w0 fp0 S0 w96 [Bx b94 [(.int .i64 a85_0), (.int .i64 a85_1), (h89).v, (h90).v], Es (List Int) a85_3 h90, Es (List Int) a85_2 h89, Bx d0_b [(d0_h).v], E (List Bool) s70 d0_h, Bx d1_b [(d1_h).v], Es (List Int) d1_ d1_h, Es (List (Int × Int × List Int × List Int)) g__1 g__1h] := H
    refine fld gok rfl rfl rfl rfl ?_
    refine load1 (H.bx 0 rfl (j := 2) rfl) ?_
    obtain ⟨y97, e, hF98⟩ := bindS hF86; clear hF86
    have ey97 := e; clear e
    replace H := H.sel [3, 4, 5, 0, 1, 2, 6, 7] rfl
    refine callF (impl_Graph_glue_1_c a85_2 h89 d0_b s70 d0_h d1_b d1_ d1_h y97 ey97) (Γi := [Bx d0_b [(d0_h).v], E (List Bool) s70 d0_h, Bx d1_b [(d1_h).v]]) H ⟨Vw.sh 2 rfl, Vw.sh 3 rfl, trivial⟩ ?_; clear H ey97
    rintro _ _ w99 ⟨rfl, rfl⟩ (H : Cx w0 fp0 S0 w99 [Bx d0_b [(d0_h).v], E (List Bool) y97 d0_h, Bx d1_b [(d1_h).v], Bx b94 [(.int .i64 a85_0), (.int .i64 a85_1), (h89).v, (h90).v], Es (List Int) a85_3 h90, Es (List Int) a85_2 h89, Es (List Int) d1_ d1_h, Es (List (Int × Int × List Int × List Int)) g__1 g__1h])
    refine fld gok rfl rfl rfl rfl ?_
    refine load1 (H.bx 3 rfl (j := 3) rfl) ?_
    obtain ⟨y100, e, hF101⟩ := bindS hF98; clear hF98
    have ey100 := e; clear e
    refine callF (impl_Graph_glue_1_c a85_3 h90 d0_b y97 d0_h d1_b d1_ d1_h y100 ey100) (Γi := [Bx d0_b [(d0_h).v], E (List Bool) y97 d0_h, Bx d1_b [(d1_h).v]]) H ⟨Vw.sh 1 rfl, Vw.sh 3 rfl, trivial⟩ ?_; clear H ey100
    rintro _ _ w102 ⟨rfl, rfl⟩ (H : Cx w0 fp0 S0 w102 [Bx d0_b [(d0_h).v], E (List Bool) y100 d0_h, Bx d1_b [(d1_h).v], Bx b94 [(.int .i64 a85_0), (.int .i64 a85_1), (h89).v, (h90).v], Es (List Int) a85_3 h90, Es (List Int) a85_2 h89, Es (List Int) d1_ d1_h, Es (List (Int × Int × List Int × List Int)) g__1 g__1h])
    refine arK hk hmx72 ?_
    have hs := Option.some.inj hF101; subst hs; clear hF101
    exact ⟨(), ⟨rfl, rfl, rfl, rfl, trivial⟩, H.sel [0, 1, 2, 6, 7] rfl⟩
  · clear H e
    rintro T104 _ w103 (H : Cx w0 fp0 S0 w103 [Bx d0_b [(d0_h).v], E (List Bool) r73 d0_h, Bx d1_b [(d1_h).v], Es (List Int) d1_ d1_h, Es (List (Int × Int × List Int × List Int)) g__1 g__1h])
    refine boolE (z := false) geLen ?_
    refine sq ?_
    cases hF74
    exact ⟨_, _, rfl, ⟨rfl, rfl⟩, (H.sel [0, 1, 2] rfl).close ⟨cloB, cloE, cloB, trivial⟩⟩

theorem impl_Graph_glue_c (g__0 : Int) (g__1 : List (Int × Int × List Int × List Int)) (g__1h : Hd) (g__2 : List Int) (g__2h : Hd) (g__3 : List Int) (g__3h : Hd) (pairs_ : List (Int × Int)) (pairs_h : Hd) (y_0_0 : Int) (y_0_1 : List (Int × Int × List Int × List Int)) (y_0_2 : List Int) (y_0_3 : List Int) (y_1 : List Int) (hF : F_impl_Graph_glue (g__0, g__1, g__2, g__3) pairs_ = some ((y_0_0, y_0_1, y_0_2, y_0_3), y_1)) :
    ConF Try.prog 99 #[(.agg #[(.int .i64 g__0), (g__1h).v, (g__2h).v, (g__3h).v]), (pairs_h).v] [Es (List (Int × Int × List Int × List Int)) g__1 g__1h, Es (List Int) g__2 g__2h, Es (List Int) g__3 g__3h, Es (List (Int × Int)) pairs_ pairs_h] [] (fun v Γ' => ∃ z0 z1 z2 z3 : Hd, v = (.agg #[(.int .i64 y_0_0), (z0).v, (z1).v, (z2).v, (z3).v]) ∧ Γ' = [E (List (Int × Int × List Int × List Int)) y_0_1 z0, E (List Int) y_0_2 z1, E (List Int) y_0_3 z2, E (List Int) y_1 z3]) := by
  intro w0 S0 fp0 hI hS
  have H : Cx w0 fp0 S0 w0 [Es (List (Int × Int × List Int × List Int)) g__1 g__1h, Es (List Int) g__2 g__2h, Es (List Int) g__3 g__3h, Es (List (Int × Int)) pairs_ pairs_h] := Cx.start hI hS
  clear hI hS
  refine enterC (args := [_, _]) gok Try.func99 rfl _ rfl rfl rfl ?_
  refine box_ H ?_; clear H; intro b6 w5 hx H
  clear hx
  replace H : Cx w0 fp0 S0 w5 [Bx b6 [(.int .i64 g__0), (g__1h).v, (g__2h).v, (g__3h).v], Es (List (Int × Int × List Int × List Int)) g__1 g__1h, Es (List Int) g__2 g__2h, Es (List Int) g__3 g__3h, Es (List (Int × Int)) pairs_ pairs_h] := H
  refine alloc_ gok rfl H ?_; clear H; intro b9 w8 hx H
  clear hx
  replace H : Cx w0 fp0 S0 w8 [Bx b9 [(.int .i64 0), (.slice none 0 0), (.slice none 0 0), (.slice none 0 0), (.slice none 0 0)], Bx b6 [(.int .i64 g__0), (g__1h).v, (g__2h).v, (g__3h).v], Es (List (Int × Int × List Int × List Int)) g__1 g__1h, Es (List Int) g__2 g__2h, Es (List Int) g__3 g__3h, Es (List (Int × Int)) pairs_ pairs_h] := H
  refine fld gok rfl rfl rfl rfl ?_
  refine load1 (H.bx 1 rfl (j := 0) rfl) ?_
  obtain ⟨y11, e, hF12⟩ := bindS hF; clear hF
  have ey11 := e; clear e
  refine callF (impl_upTo_c g__0 y11 ey11) (Γi := []) H trivial ?_; clear H ey11
  rintro _ _ w13 ⟨h14, rfl, rfl⟩ (H : Cx w0 fp0 S0 w13 [E (List Int) y11 h14, Bx b9 [(.int .i64 0), (.slice none 0 0), (.slice none 0 0), (.slice none 0 0), (.slice none 0 0)], Bx b6 [(.int .i64 g__0), (g__1h).v, (g__2h).v, (g__3h).v], Es (List (Int × Int × List Int × List Int)) g__1 g__1h, Es (List Int) g__2 g__2h, Es (List Int) g__3 g__3h, Es (List (Int × Int)) pairs_ pairs_h])
  refine alloc_ gok rfl H ?_; clear H; intro b17 w16 hx H
  clear hx
  replace H : Cx w0 fp0 S0 w16 [Bx b17 [(.slice none 0 0)], E (List Int) y11 h14, Bx b9 [(.int .i64 0), (.slice none 0 0), (.slice none 0 0), (.slice none 0 0), (.slice none 0 0)], Bx b6 [(.int .i64 g__0), (g__1h).v, (g__2h).v, (g__3h).v], Es (List (Int × Int × List Int × List Int)) g__1 g__1h, Es (List Int) g__2 g__2h, Es (List Int) g__3 g__3h, Es (List (Int × Int)) pairs_ pairs_h] := H
  refine stB0 H rfl ?_; clear H; intro w19 H
  replace H : Cx w0 fp0 S0 w19 [Bx b17 [(h14).v], E (List Int) y11 h14, Bx b9 [(.int .i64 0), (.slice none 0 0), (.slice none 0 0), (.slice none 0 0), (.slice none 0 0)], Bx b6 [(.int .i64 g__0), (g__1h).v, (g__2h).v, (g__3h).v], Es (List (Int × Int × List Int × List Int)) g__1 g__1h, Es (List Int) g__2 g__2h, Es (List Int) g__3 g__3h, Es (List (Int × Int)) pairs_ pairs_h] := H
  refine sq ?_
  refine lenE (H.rs (α := List (Int × Int)) 7 rfl).len ?_
  have hmx61 := (H.rs (α := List (Int × Int)) 7 rfl).max
  obtain ⟨r62, e, hF63⟩ := bindS hF12; clear hF12
  refine loopS _ pairs_.length (fun (k20 : Nat) (s59 : List Int) (_ : Unit) => [(2, (.pointer (some ⟨b6, 0, none⟩))), (4, (.pointer (some ⟨b9, 0, none⟩))), (5, (.pointer (some ⟨b17, 0, none⟩))), (16, (pairs_h).v), (17, (.int .i64 ((pairs_.length : Nat) : Int))), (18, (.int .i64 ((k20 : Nat) : Int)))]) (fun _ (s59 : List Int) (_ : Unit) w' => Cx w0 fp0 S0 w' [Bx b6 [(.int .i64 g__0), (g__1h).v, (g__2h).v, (g__3h).v], Es (List (Int × Int × List Int × List Int)) g__1 g__1h, Es (List Int) g__2 g__2h, Es (List Int) g__3 g__3h, Bx b9 [(.int .i64 0), (.slice none 0 0), (.slice none 0 0), (.slice none 0 0), (.slice none 0 0)], Bx b17 [(h14).v], E (List Int) s59 h14, Es (List (Int × Int)) pairs_ pairs_h]) y11 () e ⟨rfl, rfl, rfl, rfl, rfl, rfl, trivial⟩ (H.sel [3, 4, 5, 6, 2, 0, 1, 7] rfl) ?_ ?_
  · clear H e
    rintro T65 k20 s59 _ w64 o66 hk (H : Cx w0 fp0 S0 w64 [Bx b6 [(.int .i64 g__0), (g__1h).v, (g__2h).v, (g__3h).v], Es (List (Int × Int × List Int × List Int)) g__1 g__1h, Es (List Int) g__2 g__2h, Es (List Int) g__3 g__3h, Bx b9 [(.int .i64 0), (.slice none 0 0), (.slice none 0 0), (.slice none 0 0), (.slice none 0 0)], Bx b17 [(h14).v], E (List Int) s59 h14, Es (List (Int × Int)) pairs_ pairs_h]) hF67
    refine boolE (z := true) (ltLen hk) ?_
    refine sq ?_
    refine sq ?_
    obtain ⟨a74, e, hF75⟩ := bindS hF67; clear hF67
    have HH := H; clear H; obtain ⟨p72, m73, g76, c68, c69, c70, c71, H⟩ := HH.el (α := Int × Int) 7 rfl e; clear HH
    clear e
    obtain ⟨a74_0, a74_1⟩ := a74
    obtain ⟨_, _⟩ := g76
    replace H := H.sel [1, 2, 3, 4, 5, 6, 7, 8] rfl
    refine idxE c68 c69 c70 ?_; clear c68 c69 c70
    refine loadN [(.int .i64 a74_0), (.int .i64 a74_1)] rfl c71 ?_; clear c71
    refine alloc_ gok rfl H ?_; clear H; intro b79 w78 hx H
    clear hx
    replace H : Cx w0 fp0 S0 w78 [Bx b79 [(.int .i64 0), (.int .i64 0)], Bx b6 [(.int .i64 g__0), (g__1h).v, (g__2h).v, (g__3h).v], Es (List (Int × Int × List Int × List Int)) g__1 g__1h, Es (List Int) g__2 g__2h, Es (List Int) g__3 g__3h, Bx b9 [(.int .i64 0), (.slice none 0 0), (.slice none 0 0), (.slice none 0 0), (.slice none 0 0)], Bx b17 [(h14).v], E (List Int) s59 h14, Es (List (Int × Int)) pairs_ pairs_h] := H
    refine stA gok [(.int .i64 a74_0), (.int .i64 a74_1)] rfl H rfl rfl rfl ?_; clear H; intro w81 H
    replace H : Cx w0 fp0 S0 w81 [Bx b79 [(.int .i64 a74_0), (.int .i64 a74_1)], Bx b6 [(.int .i64 g__0), (g__1h).v, (g__2h).v, (g__3h).v], Es (List (Int × Int × List Int × List Int)) g__1 g__1h, Es (List Int) g__2 g__2h, Es (List Int) g__3 g__3h, Bx b9 [(.int .i64 0), (.slice none 0 0), (.slice none 0 0), (.slice none 0 0), (.slice none 0 0)], Bx b17 [(h14).v], E (List Int) s59 h14, Es (List (Int × Int)) pairs_ pairs_h] := H
    refine load1 (H.bx0 6 rfl) ?_
    refine idxAr gok rfl rfl (m := 0) rfl rfl ?_
    refine load1 (H.bx 0 rfl (j := 0) rfl) ?_
    refine idxAr gok rfl rfl (m := 1) rfl rfl ?_
    refine load1 (H.bx 0 rfl (j := 1) rfl) ?_
    obtain ⟨y82, e, hF83⟩ := bindS hF75; clear hF75
    have ey82 := e; clear e
    replace H := H.sel [7, 0, 1, 2, 3, 4, 5, 6, 8] rfl
    refine callF (impl_classes_join_c s59 h14 a74_0 a74_1 y82 ey82) (Γi := [E (List Int) s59 h14]) H trivial ?_; clear H ey82
    rintro _ _ w84 ⟨rfl, rfl⟩ (H : Cx w0 fp0 S0 w84 [E (List Int) y82 h14, Bx b79 [(.int .i64 a74_0), (.int .i64 a74_1)], Bx b6 [(.int .i64 g__0), (g__1h).v, (g__2h).v, (g__3h).v], Es (List (Int × Int × List Int × List Int)) g__1 g__1h, Es (List Int) g__2 g__2h, Es (List Int) g__3 g__3h, Bx b9 [(.int .i64 0), (.slice none 0 0), (.slice none 0 0), (.slice none 0 0), (.slice none 0 0)], Bx b17 [(h14).v], Es (List (Int × Int)) pairs_ pairs_h])
    refine arK hk hmx61 ?_
    have hs := Option.some.inj hF83; subst hs; clear hF83
    exact ⟨(), ⟨rfl, rfl, rfl, rfl, rfl, rfl, trivial⟩, H.sel [2, 3, 4, 5, 6, 7, 0, 8] rfl⟩
  · clear H e
    rintro T86 _ w85 (H : Cx w0 fp0 S0 w85 [Bx b6 [(.int .i64 g__0), (g__1h).v, (g__2h).v, (g__3h).v], Es (List (Int × Int × List Int × List Int)) g__1 g__1h, Es (List Int) g__2 g__2h, Es (List Int) g__3 g__3h, Bx b9 [(.int .i64 0), (.slice none 0 0), (.slice none 0 0), (.slice none 0 0), (.slice none 0 0)], Bx b17 [(h14).v], E (List Int) r62 h14, Es (List (Int × Int)) pairs_ pairs_h])
    refine boolE (z := false) geLen ?_
    refine sq ?_
    refine fld gok rfl rfl rfl rfl ?_
    refine load1 (H.bx 0 rfl (j := 0) rfl) ?_
    obtain ⟨a89, e, hF90⟩ := bindS hF63; clear hF63
    refine make_ (α := Bool) gok rfl rfl rfl rfl (makeCO_of e) H ?_; clear e H; intro h92 w91 hx H
    clear hx
    refine alloc_ gok rfl H ?_; clear H; intro b95 w94 hx H
    clear hx
    replace H : Cx w0 fp0 S0 w94 [Bx b95 [(.slice none 0 0)], E (List Bool) a89 h92, Bx b6 [(.int .i64 g__0), (g__1h).v, (g__2h).v, (g__3h).v], Es (List (Int × Int × List Int × List Int)) g__1 g__1h, Es (List Int) g__2 g__2h, Es (List Int) g__3 g__3h, Bx b9 [(.int .i64 0), (.slice none 0 0), (.slice none 0 0), (.slice none 0 0), (.slice none 0 0)], Bx b17 [(h14).v], E (List Int) r62 h14, Es (List (Int × Int)) pairs_ pairs_h] := H
    refine stB0 H rfl ?_; clear H; intro w97 H
    replace H : Cx w0 fp0 S0 w97 [Bx b95 [(h92).v], E (List Bool) a89 h92, Bx b6 [(.int .i64 g__0), (g__1h).v, (g__2h).v, (g__3h).v], Es (List (Int × Int × List Int × List Int)) g__1 g__1h, Es (List Int) g__2 g__2h, Es (List Int) g__3 g__3h, Bx b9 [(.int .i64 0), (.slice none 0 0), (.slice none 0 0), (.slice none 0 0), (.slice none 0 0)], Bx b17 [(h14).v], E (List Int) r62 h14, Es (List (Int × Int)) pairs_ pairs_h] := H
    refine loadN [(.int .i64 g__0), (g__1h).v, (g__2h).v, (g__3h).v] rfl (fun j u hj => H.bx 2 rfl hj) ?_
    obtain ⟨y98, e, hF99⟩ := bindS hF90; clear hF90
    have ey98 := e; clear e
    replace H := H.sel [0, 1, 7, 2, 3, 4, 5, 6, 8, 9] rfl
    refine callF (impl_Graph_lists_impl_Graph_glue_1_c g__0 g__1 g__1h g__2 g__2h g__3 g__3h b95 a89 h92 b17 r62 h14 y98 ey98) (Γi := [Bx b95 [(h92).v], E (List Bool) a89 h92, Bx b17 [(h14).v]]) H ⟨Vw.sh 1 rfl, Vw.sh 2 rfl, Vw.sh 3 rfl, Vw.own 5 rfl, trivial⟩ ?_; clear H ey98
    rintro _ _ w100 ⟨rfl, rfl⟩ (H : Cx w0 fp0 S0 w100 [Bx b95 [(h92).v], E (List Bool) y98 h92, Bx b17 [(h14).v], Bx b6 [(.int .i64 g__0), (g__1h).v, (g__2h).v, (g__3h).v], Es (List (Int × Int × List Int × List Int)) g__1 g__1h, Es (List Int) g__2 g__2h, Es (List Int) g__3 g__3h, Bx b9 [(.int .i64 0), (.slice none 0 0), (.slice none 0 0), (.slice none 0 0), (.slice none 0 0)], E (List Int) r62 h14, Es (List (Int × Int)) pairs_ pairs_h])
    refine fld gok rfl rfl rfl rfl ?_
    refine load1 (H.bx 3 rfl (j := 0) rfl) ?_
    obtain ⟨y101, e, hF102⟩ := bindS hF99; clear hF99
    have ey101 := e; clear e
    refine callF (impl_zeros_c g__0 y101 ey101) (Γi := []) H trivial ?_; clear H ey101
    rintro _ _ w103 ⟨h104, rfl, rfl⟩ (H : Cx w0 fp0 S0 w103 [E (List Int) y101 h104, Bx b95 [(h92).v], E (List Bool) y98 h92, Bx b17 [(h14).v], Bx b6 [(.int .i64 g__0), (g__1h).v, (g__2h).v, (g__3h).v], Es (List (Int × Int × List Int × List Int)) g__1 g__1h, Es (List Int) g__2 g__2h, Es (List Int) g__3 g__3h, Bx b9 [(.int .i64 0), (.slice none 0 0), (.slice none 0 0), (.slice none 0 0), (.slice none 0 0)], E (List Int) r62 h14, Es (List (Int × Int)) pairs_ pairs_h])
    refine sq ?_
    refine lenE (H.ro (α := List Int) 0 rfl).len ?_
    have hmx225 := (H.ro (α := List Int) 0 rfl).max
    obtain ⟨r226, e, hF227⟩ := bindS hF102; clear hF102
    refine loopS _ y101.length (fun (k106 : Nat) (s223 : List Int × Int) (_ : Unit) => [(2, (.pointer (some ⟨b6, 0, none⟩))), (4, (.pointer (some ⟨b9, 0, none⟩))), (5, (.pointer (some ⟨b17, 0, none⟩))), (8, (.pointer (some ⟨b95, 0, none⟩))), (9, (h104).v), (10, (.int .i64 s223.2)), (39, (.int .i64 ((y101.length : Nat) : Int))), (40, (.int .i64 ((k106 : Nat) : Int)))]) (fun _ (s223 : List Int × Int) (_ : Unit) w' => Cx w0 fp0 S0 w' [Bx b6 [(.int .i64 g__0), (g__1h).v, (g__2h).v, (g__3h).v], Es (List (Int × Int × List Int × List Int)) g__1 g__1h, Es (List Int) g__2 g__2h, Es (List Int) g__3 g__3h, Bx b9 [(.int .i64 0), (.slice none 0 0), (.slice none 0 0), (.slice none 0 0), (.slice none 0 0)], Bx b17 [(h14).v], E (List Int) r62 h14, Bx b95 [(h92).v], E (List Bool) y98 h92, E (List Int) s223.1 h104]) (y101, 0) () e ⟨rfl, rfl, rfl, rfl, rfl, rfl, rfl, rfl, trivial⟩ (H.sel [4, 5, 6, 7, 8, 3, 9, 1, 2, 0] rfl) ?_ ?_
    · clear H e
      rintro T229 k106 ⟨s223_0, s223_1⟩ _ w228 o230 hk (H : Cx w0 fp0 S0 w228 [Bx b6 [(.int .i64 g__0), (g__1h).v, (g__2h).v, (g__3h).v], Es (List (Int × Int × List Int × List Int)) g__1 g__1h, Es (List Int) g__2 g__2h, Es (List Int) g__3 g__3h, Bx b9 [(.int .i64 0), (.slice none 0 0), (.slice none 0 0), (.slice none 0 0), (.slice none 0 0)], Bx b17 [(h14).v], E (List Int) r62 h14, Bx b95 [(h92).v], E (List Bool) y98 h92, E (List Int) s223_0 h104]) hF231
      refine boolE (z := true) (ltLen hk) ?_
      refine sq ?_
      refine sq ?_
      refine load1 (H.bx0 5 rfl) ?_
      obtain ⟨y232, e, hF233⟩ := bindS hF231; clear hF231
      have ey232 := e; clear e
      refine callF (impl_classes_root_c r62 h14 ((k106 : Nat) : Int) y232 ey232) (Γi := []) H ⟨Vw.own 6 rfl, trivial⟩ ?_; clear H ey232
      rintro _ _ w234 ⟨rfl, rfl⟩ (H : Cx w0 fp0 S0 w234 [Bx b6 [(.int .i64 g__0), (g__1h).v, (g__2h).v, (g__3h).v], Es (List (Int × Int × List Int × List Int)) g__1 g__1h, Es (List Int) g__2 g__2h, Es (List Int) g__3 g__3h, Bx b9 [(.int .i64 0), (.slice none 0 0), (.slice none 0 0), (.slice none 0 0), (.slice none 0 0)], Bx b17 [(h14).v], E (List Int) r62 h14, Bx b95 [(h92).v], E (List Bool) y98 h92, E (List Int) s223_0 h104])
      refine load1 (H.bx0 7 rfl) ?_
      obtain ⟨a241, e, hF242⟩ := bindS hF233; clear hF233
      obtain ⟨p239, m240, c235, c236, c237, c238⟩ := (H.ro (α := List Bool) 8 rfl).at1 e; clear e
      refine idxE c235 c236 c237 ?_; clear c235 c236 c237
      refine load1 c238 ?_; clear c238
      obtain ⟨a243, e, hF244⟩ := bindS hF242; clear hF242
      refine boolO e ?_; clear e
      cases a243
      · have hF245 := condF hF244; clear hF244
        obtain ⟨a246, e, hF247⟩ := bindS hF245; clear hF245
        refine boolO e ?_; clear e
        cases a246
        · have hF248 := condF hF247; clear hF247
          obtain ⟨a255, e, hF256⟩ := bindS hF248; clear hF248
          have ea255 := e; clear e
          obtain ⟨p253, m254, c249, c250, c251⟩ := (H.ro (α := List Int) 9 rfl).setp ea255
          refine idxE c249 c250 c251 ?_
          replace H := H.sel [9, 0, 1, 2, 3, 4, 5, 6, 7, 8] rfl
          refine setS (α := Int) H c249 c250 ea255 ?_; clear H c249 c250 c251 ea255; intro w257 H
          obtain ⟨a258, e, hF259⟩ := bindS hF256; clear hF256
          refine arO e ?_; clear e
          refine arK hk hmx225 ?_
          have hs := Option.some.inj hF259; subst hs; clear hF259
          exact ⟨(), ⟨rfl, rfl, rfl, rfl, rfl, rfl, rfl, rfl, trivial⟩, H.sel [1, 2, 3, 4, 5, 6, 7, 8, 9, 0] rfl⟩
        · have hF260 := condT hF247; clear hF247
          obtain ⟨a267, e, hF268⟩ := bindS hF260; clear hF260
          obtain ⟨p265, m266, c261, c262, c263, c264⟩ := (H.ro (α := List Int) 9 rfl).at1 e; clear e
          refine idxE c261 c262 c263 ?_; clear c261 c262 c263
          refine load1 c264 ?_; clear c264
          obtain ⟨a275, e, hF276⟩ := bindS hF268; clear hF268
          have ea275 := e; clear e
          obtain ⟨p273, m274, c269, c270, c271⟩ := (H.ro (α := List Int) 9 rfl).setp ea275
          refine idxE c269 c270 c271 ?_
          replace H := H.sel [9, 0, 1, 2, 3, 4, 5, 6, 7, 8] rfl
          refine setS (α := Int) H c269 c270 ea275 ?_; clear H c269 c270 c271 ea275; intro w277 H
          refine arK hk hmx225 ?_
          have hs := Option.some.inj hF276; subst hs; clear hF276
          exact ⟨(), ⟨rfl, rfl, rfl, rfl, rfl, rfl, rfl, rfl, trivial⟩, H.sel [1, 2, 3, 4, 5, 6, 7, 8, 9, 0] rfl⟩
      · have hF278 := condT hF244; clear hF244
        obtain ⟨a285, e, hF286⟩ := bindS hF278; clear hF278
        have ea285 := e; clear e
        obtain ⟨p283, m284, c279, c280, c281⟩ := (H.ro (α := List Int) 9 rfl).setp ea285
        refine idxE c279 c280 c281 ?_
        replace H := H.sel [9, 0, 1, 2, 3, 4, 5, 6, 7, 8] rfl
        refine setS (α := Int) H c279 c280 ea285 ?_; clear H c279 c280 c281 ea285; intro w287 H
        refine arK hk hmx225 ?_
        have hs := Option.some.inj hF286; subst hs; clear hF286
        exact ⟨(), ⟨rfl, rfl, rfl, rfl, rfl, rfl, rfl, rfl, trivial⟩, H.sel [1, 2, 3, 4, 5, 6, 7, 8, 9, 0] rfl⟩
    · clear H e
      obtain ⟨s290_0, s290_1⟩ := r226
      rintro T289 _ w288 (H : Cx w0 fp0 S0 w288 [Bx b6 [(.int .i64 g__0), (g__1h).v, (g__2h).v, (g__3h).v], Es (List (Int × Int × List Int × List Int)) g__1 g__1h, Es (List Int) g__2 g__2h, Es (List Int) g__3 g__3h, Bx b9 [(.int .i64 0), (.slice none 0 0), (.slice none 0 0), (.slice none 0 0), (.slice none 0 0)], Bx b17 [(h14).v], E (List Int) r62 h14, Bx b95 [(h92).v], E (List Bool) y98 h92, E (List Int) s290_0 h104])
      refine boolE (z := false) geLen ?_
      refine sq ?_
      refine loadN [(.int .i64 g__0), (g__1h).v, (g__2h).v, (g__3h).v] rfl (fun j u hj => H.bx 0 rfl hj) ?_
      obtain ⟨y292, e, hF293⟩ := bindS hF227; clear hF227
      obtain ⟨y292_0, y292_1, y292_2, y292_3⟩ := y292
      have ey292 := e; clear e
      refine callF (impl_Graph_moved_c g__0 g__1 g__1h g__2 g__2h g__3 g__3h s290_1 s290_0 h104 y292_0 y292_1 y292_2 y292_3 ey292) (Γi := []) H ⟨Vw.sh 1 rfl, Vw.sh 2 rfl, Vw.sh 3 rfl, Vw.own 9 rfl, trivial⟩ ?_; clear H ey292
      rintro _ _ w294 ⟨h295, h297, h299, rfl, rfl⟩ (H : Cx w0 fp0 S0 w294 [E (List (Int × Int × List Int × List Int)) y292_1 h295, E (List Int) y292_2 h297, E (List Int) y292_3 h299, Bx b6 [(.int .i64 g__0), (g__1h).v, (g__2h).v, (g__3h).v], Es (List (Int × Int × List Int × List Int)) g__1 g__1h, Es (List Int) g__2 g__2h, Es (List Int) g__3 g__3h, Bx b9 [(.int .i64 0), (.slice none 0 0), (.slice none 0 0), (.slice none 0 0), (.slice none 0 0)], Bx b17 [(h14).v], E (List Int) r62 h14, Bx b95 [(h92).v], E (List Bool) y98 h92, E (List Int) s290_0 h104])
      refine build_ (cs := #[(.int .i64 y292_0), (h295).v, (h297).v, (h299).v, (h104).v]) gok rfl rfl rfl ?_
      replace H := H.sel [7, 0, 1, 2, 3, 4, 5, 6, 8, 9, 10, 11, 12] rfl
      refine stA gok [(.int .i64 y292_0), (h295).v, (h297).v, (h299).v, (h104).v] rfl H rfl rfl rfl ?_; clear H; intro w301 H
      replace H : Cx w0 fp0 S0 w301 [Bx b9 [(.int .i64 y292_0), (h295).v, (h297).v, (h299).v, (h104).v], E (List (Int × Int × List Int × List Int)) y292_1 h295, E (List Int) y292_2 h297, E (List Int) y292_3 h299, Bx b6 [(.int .i64 g__0), (g__1h).v, (g__2h).v, (g__3h).v], Es (List (Int × Int × List Int × List Int)) g__1 g__1h, Es (List Int) g__2 g__2h, Es (List Int) g__3 g__3h, Bx b17 [(h14).v], E (List Int) r62 h14, Bx b95 [(h92).v], E (List Bool) y98 h92, E (List Int) s290_0 h104] := H
      refine loadN [(.int .i64 y292_0), (h295).v, (h297).v, (h299).v, (h104).v] rfl (fun j u hj => H.bx 0 rfl hj) ?_
      cases hF293
      exact ⟨_, _, rfl, ⟨h295, h297, h299, h104, rfl, rfl⟩, (H.sel [1, 2, 3, 12] rfl).close ⟨cloE, cloE, cloE, cloE, trivial⟩⟩

theorem impl_seqGraphs_c (a__0 : Int) (a__1 : List (Int × Int × List Int × List Int)) (a__1h : Hd) (a__2 : List Int) (a__2h : Hd) (a__3 : List Int) (a__3h : Hd) (b__0 : Int) (b__1 : List (Int × Int × List Int × List Int)) (b__1h : Hd) (b__2 : List Int) (b__2h : Hd) (b__3 : List Int) (b__3h : Hd) (y_0 : Int) (y_1 : List (Int × Int × List Int × List Int)) (y_2 : List Int) (y_3 : List Int) (hF : F_impl_seqGraphs (a__0, a__1, a__2, a__3) (b__0, b__1, b__2, b__3) = some (y_0, y_1, y_2, y_3)) :
    ConF Try.prog 61 #[(.agg #[(.int .i64 a__0), (a__1h).v, (a__2h).v, (a__3h).v]), (.agg #[(.int .i64 b__0), (b__1h).v, (b__2h).v, (b__3h).v])] [Es (List (Int × Int × List Int × List Int)) a__1 a__1h, Es (List Int) a__2 a__2h, Es (List Int) a__3 a__3h, Es (List (Int × Int × List Int × List Int)) b__1 b__1h, Es (List Int) b__2 b__2h, Es (List Int) b__3 b__3h] [] (fun v Γ' => ∃ z0 z1 z2 : Hd, v = (.agg #[(.int .i64 y_0), (z0).v, (z1).v, (z2).v]) ∧ Γ' = [E (List (Int × Int × List Int × List Int)) y_1 z0, E (List Int) y_2 z1, E (List Int) y_3 z2]) := by
  intro w0 S0 fp0 hI hS
  have H : Cx w0 fp0 S0 w0 [Es (List (Int × Int × List Int × List Int)) a__1 a__1h, Es (List Int) a__2 a__2h, Es (List Int) a__3 a__3h, Es (List (Int × Int × List Int × List Int)) b__1 b__1h, Es (List Int) b__2 b__2h, Es (List Int) b__3 b__3h] := Cx.start hI hS
  clear hI hS
  refine enterC (args := [_, _]) gok Try.func61 rfl _ rfl rfl rfl ?_
  refine box_ H ?_; clear H; intro b8 w7 hx H
  clear hx
  replace H : Cx w0 fp0 S0 w7 [Bx b8 [(.int .i64 a__0), (a__1h).v, (a__2h).v, (a__3h).v], Es (List (Int × Int × List Int × List Int)) a__1 a__1h, Es (List Int) a__2 a__2h, Es (List Int) a__3 a__3h, Es (List (Int × Int × List Int × List Int)) b__1 b__1h, Es (List Int) b__2 b__2h, Es (List Int) b__3 b__3h] := H
  refine box_ H ?_; clear H; intro b11 w10 hx H
  clear hx
  replace H : Cx w0 fp0 S0 w10 [Bx b11 [(.int .i64 b__0), (b__1h).v, (b__2h).v, (b__3h).v], Bx b8 [(.int .i64 a__0), (a__1h).v, (a__2h).v, (a__3h).v], Es (List (Int × Int × List Int × List Int)) a__1 a__1h, Es (List Int) a__2 a__2h, Es (List Int) a__3 a__3h, Es (List (Int × Int × List Int × List Int)) b__1 b__1h, Es (List Int) b__2 b__2h, Es (List Int) b__3 b__3h] := H
  refine alloc_ gok rfl H ?_; clear H; intro b14 w13 hx H
  clear hx
  replace H : Cx w0 fp0 S0 w13 [Bx b14 [(.int .i64 0), (.slice none 0 0), (.slice none 0 0), (.slice none 0 0)], Bx b11 [(.int .i64 b__0), (b__1h).v, (b__2h).v, (b__3h).v], Bx b8 [(.int .i64 a__0), (a__1h).v, (a__2h).v, (a__3h).v], Es (List (Int × Int × List Int × List Int)) a__1 a__1h, Es (List Int) a__2 a__2h, Es (List Int) a__3 a__3h, Es (List (Int × Int × List Int × List Int)) b__1 b__1h, Es (List Int) b__2 b__2h, Es (List Int) b__3 b__3h] := H
  refine loadN [(.int .i64 a__0), (a__1h).v, (a__2h).v, (a__3h).v] rfl (fun j u hj => H.bx 2 rfl hj) ?_
  refine loadN [(.int .i64 b__0), (b__1h).v, (b__2h).v, (b__3h).v] rfl (fun j u hj => H.bx 1 rfl hj) ?_
  obtain ⟨y16, e, hF17⟩ := bindS hF; clear hF
  obtain ⟨y16_0, y16_1, y16_2, y16_3⟩ := y16
  have ey16 := e; clear e
  refine callF (impl_Graph_beside_c a__0 a__1 a__1h a__2 a__2h a__3 a__3h b__0 b__1 b__1h b__2 b__2h b__3 b__3h y16_0 y16_1 y16_2 y16_3 ey16) (Γi := []) H ⟨Vw.sh 3 rfl, Vw.sh 4 rfl, Vw.sh 5 rfl, Vw.sh 6 rfl, Vw.sh 7 rfl, Vw.sh 8 rfl, trivial⟩ ?_; clear H ey16
  rintro _ _ w18 ⟨h19, h21, h23, rfl, rfl⟩ (H : Cx w0 fp0 S0 w18 [E (List (Int × Int × List Int × List Int)) y16_1 h19, E (List Int) y16_2 h21, E (List Int) y16_3 h23, Bx b14 [(.int .i64 0), (.slice none 0 0), (.slice none 0 0), (.slice none 0 0)], Bx b11 [(.int .i64 b__0), (b__1h).v, (b__2h).v, (b__3h).v], Bx b8 [(.int .i64 a__0), (a__1h).v, (a__2h).v, (a__3h).v], Es (List (Int × Int × List Int × List Int)) a__1 a__1h, Es (List Int) a__2 a__2h, Es (List Int) a__3 a__3h, Es (List (Int × Int × List Int × List Int)) b__1 b__1h, Es (List Int) b__2 b__2h, Es (List Int) b__3 b__3h])
  refine alloc_ gok rfl H ?_; clear H; intro b26 w25 hx H
  clear hx
  replace H : Cx w0 fp0 S0 w25 [Bx b26 [(.int .i64 0), (.slice none 0 0), (.slice none 0 0), (.slice none 0 0)], E (List (Int × Int × List Int × List Int)) y16_1 h19, E (List Int) y16_2 h21, E (List Int) y16_3 h23, Bx b14 [(.int .i64 0), (.slice none 0 0), (.slice none 0 0), (.slice none 0 0)], Bx b11 [(.int .i64 b__0), (b__1h).v, (b__2h).v, (b__3h).v], Bx b8 [(.int .i64 a__0), (a__1h).v, (a__2h).v, (a__3h).v], Es (List (Int × Int × List Int × List Int)) a__1 a__1h, Es (List Int) a__2 a__2h, Es (List Int) a__3 a__3h, Es (List (Int × Int × List Int × List Int)) b__1 b__1h, Es (List Int) b__2 b__2h, Es (List Int) b__3 b__3h] := H
  refine stA gok [(.int .i64 y16_0), (h19).v, (h21).v, (h23).v] rfl H rfl rfl rfl ?_; clear H; intro w28 H
  replace H : Cx w0 fp0 S0 w28 [Bx b26 [(.int .i64 y16_0), (h19).v, (h21).v, (h23).v], E (List (Int × Int × List Int × List Int)) y16_1 h19, E (List Int) y16_2 h21, E (List Int) y16_3 h23, Bx b14 [(.int .i64 0), (.slice none 0 0), (.slice none 0 0), (.slice none 0 0)], Bx b11 [(.int .i64 b__0), (b__1h).v, (b__2h).v, (b__3h).v], Bx b8 [(.int .i64 a__0), (a__1h).v, (a__2h).v, (a__3h).v], Es (List (Int × Int × List Int × List Int)) a__1 a__1h, Es (List Int) a__2 a__2h, Es (List Int) a__3 a__3h, Es (List (Int × Int × List Int × List Int)) b__1 b__1h, Es (List Int) b__2 b__2h, Es (List Int) b__3 b__3h] := H
  refine lit0 (α := Int × Int) gok rfl rfl H ?_; clear H; intro h30 w29 hx H
  clear hx
  refine sq ?_
  refine fld gok rfl rfl rfl rfl ?_
  refine load1 (H.bx 7 rfl (j := 3) rfl) ?_
  refine lenE (H.rs (α := List Int) 10 rfl).len ?_
  have hmx101 := (H.rs (α := List Int) 10 rfl).max
  obtain ⟨r102, e, hF103⟩ := bindS hF17; clear hF17
  refine loopS _ a__3.length (fun (k32 : Nat) (s98 : List (Int × Int)) (g99 : Hd) => [(2, (.pointer (some ⟨b8, 0, none⟩))), (3, (.pointer (some ⟨b11, 0, none⟩))), (4, (.pointer (some ⟨b14, 0, none⟩))), (5, (.pointer (some ⟨b26, 0, none⟩))), (6, (g99).v), (14, (a__3h).v), (15, (.int .i64 ((a__3.length : Nat) : Int))), (16, (.int .i64 ((k32 : Nat) : Int)))]) (fun _ (s98 : List (Int × Int)) (g99 : Hd) w' => Cx w0 fp0 S0 w' [Bx b8 [(.int .i64 a__0), (a__1h).v, (a__2h).v, (a__3h).v], Es (List (Int × Int × List Int × List Int)) a__1 a__1h, Es (List Int) a__2 a__2h, Es (List Int) a__3 a__3h, Bx b11 [(.int .i64 b__0), (b__1h).v, (b__2h).v, (b__3h).v], Es (List (Int × Int × List Int × List Int)) b__1 b__1h, Es (List Int) b__2 b__2h, Es (List Int) b__3 b__3h, Bx b14 [(.int .i64 0), (.slice none 0 0), (.slice none 0 0), (.slice none 0 0)], Bx b26 [(.int .i64 y16_0), (h19).v, (h21).v, (h23).v], E (List (Int × Int × List Int × List Int)) y16_1 h19, E (List Int) y16_2 h21, E (List Int) y16_3 h23, E (List (Int × Int)) s98 g99]) ([] : List (Int × Int)) h30 e ⟨rfl, rfl, rfl, rfl, rfl, rfl, rfl, rfl, trivial⟩ (H.sel [7, 8, 9, 10, 6, 11, 12, 13, 5, 1, 2, 3, 4, 0] rfl) ?_ ?_
  · clear H e
    rintro T105 k32 s98 g99 w104 o106 hk (H : Cx w0 fp0 S0 w104 [Bx b8 [(.int .i64 a__0), (a__1h).v, (a__2h).v, (a__3h).v], Es (List (Int × Int × List Int × List Int)) a__1 a__1h, Es (List Int) a__2 a__2h, Es (List Int) a__3 a__3h, Bx b11 [(.int .i64 b__0), (b__1h).v, (b__2h).v, (b__3h).v], Es (List (Int × Int × List Int × List Int)) b__1 b__1h, Es (List Int) b__2 b__2h, Es (List Int) b__3 b__3h, Bx b14 [(.int .i64 0), (.slice none 0 0), (.slice none 0 0), (.slice none 0 0)], Bx b26 [(.int .i64 y16_0), (h19).v, (h21).v, (h23).v], E (List (Int × Int × List Int × List Int)) y16_1 h19, E (List Int) y16_2 h21, E (List Int) y16_3 h23, E (List (Int × Int)) s98 g99]) hF107
    refine boolE (z := true) (ltLen hk) ?_
    refine sq ?_
    refine sq ?_
    obtain ⟨a114, e, hF115⟩ := bindS hF107; clear hF107
    obtain ⟨p112, m113, c108, c109, c110, c111⟩ := (H.rs (α := List Int) 3 rfl).at1 e; clear e
    refine idxE c108 c109 c110 ?_; clear c108 c109 c110
    refine load1 c111 ?_; clear c111
    refine heldX H [12, 13] (.fst 0 (.fst 1 (.fst 2 (.fst 4 (.fst 6 (.fst 3 (.fst 5 (.fst 7 (.fst 8 (.fst 9 (.fst 10 (.act 11 (.act 12 (.act 13 .done)))))))))))))) mixed [] trivial (by kernel_rfl) ?_
    clear H; intro w116 H
    have hX : Ext w116 w116 := Upd.refl _ _
    have H0 := H
    refine anyH (fun _ => fld gok rfl rfl rfl rfl ⟨rfl, rfl⟩) ?_
    refine anyH (fun _ => fld gok rfl rfl rfl rfl ⟨rfl, rfl⟩) ?_
    refine load1X (H.bx 0 rfl (j := 0) rfl) ?_
    refine load1X (H.bx 4 rfl (j := 2) rfl) ?_
    obtain ⟨a123, e, hF124⟩ := bindS hF115; clear hF115
    obtain ⟨p121, m122, c117, c118, c119, c120⟩ := (H.rs (α := List Int) 6 rfl).at1 e; clear e
    refine idxE c117 c118 c119 ?_; clear c117 c118 c119
    refine load1X c120 ?_; clear c120
    obtain ⟨a125, e, hF126⟩ := bindS hF124; clear hF124
    refine arO e ?_; clear e
    refine anyH (fun _ => buildAr (cs := #[(.int .i64 a114), (.int .i64 a125)]) gok rfl rfl rfl ⟨rfl, rfl⟩) ?_
    replace H := H.sc (α := Int) a125
    replace H := H.sc (α := Int) a114
    replace H := H.join (α := Int) (β := Int)
    refine lit1 (α := Int × Int) (g := ((), ())) gok rfl rfl rfl rfl rfl H ?_; clear H; intro h128 w127 hx H
    replace hX := hX.trans0 hx; clear hx
    refine hold hX ?_
    obtain ⟨a133, e, hF134⟩ := bindS hF126; clear hF126
    replace H := H.sel [14, 0, 1, 2, 3, 4, 5, 6, 7, 8, 9, 10, 11, 12, 13] rfl
    refine append_ (α := Int × Int) gok rfl rfl rfl rfl H e ?_; clear e H; intro h136 w135 H
    refine hold trivial ?_
    refine hold trivial ?_
    refine arK hk hmx101 ?_
    have hs := Option.some.inj hF134; subst hs; clear hF134
    exact ⟨h136, ⟨rfl, rfl, rfl, rfl, rfl, rfl, rfl, rfl, trivial⟩, H.sel [1, 2, 3, 4, 5, 6, 7, 8, 9, 10, 11, 12, 13, 0] rfl⟩
  · clear H e
    rintro T139 g141 w138 (H : Cx w0 fp0 S0 w138 [Bx b8 [(.int .i64 a__0), (a__1h).v, (a__2h).v, (a__3h).v], Es (List (Int × Int × List Int × List Int)) a__1 a__1h, Es (List Int) a__2 a__2h, Es (List Int) a__3 a__3h, Bx b11 [(.int .i64 b__0), (b__1h).v, (b__2h).v, (b__3h).v], Es (List (Int × Int × List Int × List Int)) b__1 b__1h, Es (List Int) b__2 b__2h, Es (List Int) b__3 b__3h, Bx b14 [(.int .i64 0), (.slice none 0 0), (.slice none 0 0), (.slice none 0 0)], Bx b26 [(.int .i64 y16_0), (h19).v, (h21).v, (h23).v], E (List (Int × Int × List Int × List Int)) y16_1 h19, E (List Int) y16_2 h21, E (List Int) y16_3 h23, E (List (Int × Int)) r102 g141])
    refine boolE (z := false) geLen ?_
    refine sq ?_
    refine heldX H [12, 14, 13] (.fst 0 (.fst 3 (.fst 5 (.fst 7 (.fst 1 (.fst 4 (.fst 6 (.fst 8 (.act 2 (.fst 11 (.act 9 (.act 10 (.act 12 (.act 13 (.act 14 .done))))))))))))))) mixed [] trivial (by kernel_rfl) ?_
    clear H; intro w143 H
    have hX : Ext w143 w143 := Upd.refl _ _
    have H0 := H
    refine anyH (fun _ => fld gok rfl rfl rfl rfl ⟨rfl, rfl⟩) ?_
    refine anyH (fun _ => fld gok rfl rfl rfl rfl ⟨rfl, rfl⟩) ?_
    refine anyH (fun _ => fld gok rfl rfl rfl rfl ⟨rfl, rfl⟩) ?_
    refine anyH (fun _ => fld gok rfl rfl rfl rfl ⟨rfl, rfl⟩) ?_
    refine load1X (H.bx 0 rfl (j := 2) rfl) ?_
    refine load1X (H.bx 4 rfl (j := 3) rfl) ?_
    refine load1X (H.bx 0 rfl (j := 0) rfl) ?_
    refine load1X (H.bx 4 rfl (j := 0) rfl) ?_
    obtain ⟨y144, e, hF145⟩ := bindS hF103; clear hF103
    have ey144 := e; clear e
    refine callFx (impl_clone_c a__2 a__2h y144 ey144) H ⟨Vw.sh 2 rfl, trivial⟩ ?_; clear H ey144
    rintro _ _ w146 ⟨h147, rfl, rfl⟩ hx (H : Cx w0 fp0 S0 w146 [E (List Int) y144 h147, Bx b8 [(.int .i64 a__0), (a__1h).v, (a__2h).v, (a__3h).v], Es (List (Int × Int × List Int × List Int)) a__1 a__1h, Es (List Int) a__2 a__2h, Es (List Int) a__3 a__3h, Bx b11 [(.int .i64 b__0), (b__1h).v, (b__2h).v, (b__3h).v], Es (List (Int × Int × List Int × List Int)) b__1 b__1h, Es (List Int) b__2 b__2h, Es (List Int) b__3 b__3h, Bx b14 [(.int .i64 0), (.slice none 0 0), (.slice none 0 0), (.slice none 0 0)], Bx b26 [(.int .i64 y16_0), (h19).v, (h21).v, (h23).v], E (List (Int × Int × List Int × List Int)) y16_1 h19, E (List Int) y16_2 h21, E (List Int) y16_3 h23, E (List (Int × Int)) r102 g141])
    replace hX := hX.trans0 hx; clear hx
    refine hold hX ?_
    refine anyH (fun _ => fld gok rfl rfl rfl rfl ⟨rfl, rfl⟩) ?_
    obtain ⟨y149, e, hF150⟩ := bindS hF145; clear hF145
    have ey149 := e; clear e
    refine callFx (impl_from_c a__0 b__0 y149 ey149) H trivial ?_; clear H ey149
    rintro _ _ w151 ⟨h152, rfl, rfl⟩ hx (H : Cx w0 fp0 S0 w151 [E (List Int) y149 h152, E (List Int) y144 h147, Bx b8 [(.int .i64 a__0), (a__1h).v, (a__2h).v, (a__3h).v], Es (List (Int × Int × List Int × List Int)) a__1 a__1h, Es (List Int) a__2 a__2h, Es (List Int) a__3 a__3h, Bx b11 [(.int .i64 b__0), (b__1h).v, (b__2h).v, (b__3h).v], Es (List (Int × Int × List Int × List Int)) b__1 b__1h, Es (List Int) b__2 b__2h, Es (List Int) b__3 b__3h, Bx b14 [(.int .i64 0), (.slice none 0 0), (.slice none 0 0), (.slice none 0 0)], Bx b26 [(.int .i64 y16_0), (h19).v, (h21).v, (h23).v], E (List (Int × Int × List Int × List Int)) y16_1 h19, E (List Int) y16_2 h21, E (List Int) y16_3 h23, E (List (Int × Int)) r102 g141])
    replace hX := hX.trans0 hx; clear hx
    refine hold hX ?_
    obtain ⟨y154, e, hF155⟩ := bindS hF150; clear hF150
    have ey154 := e; clear e
    refine callFx (impl_mapped_c b__3 b__3h y149 h152 y154 ey154) H ⟨Vw.sh 9 rfl, Vw.own 0 rfl, trivial⟩ ?_; clear H ey154
    rintro _ _ w156 ⟨h157, rfl, rfl⟩ hx (H : Cx w0 fp0 S0 w156 [E (List Int) y154 h157, E (List Int) y149 h152, E (List Int) y144 h147, Bx b8 [(.int .i64 a__0), (a__1h).v, (a__2h).v, (a__3h).v], Es (List (Int × Int × List Int × List Int)) a__1 a__1h, Es (List Int) a__2 a__2h, Es (List Int) a__3 a__3h, Bx b11 [(.int .i64 b__0), (b__1h).v, (b__2h).v, (b__3h).v], Es (List (Int × Int × List Int × List Int)) b__1 b__1h, Es (List Int) b__2 b__2h, Es (List Int) b__3 b__3h, Bx b14 [(.int .i64 0), (.slice none 0 0), (.slice none 0 0), (.slice none 0 0)], Bx b26 [(.int .i64 y16_0), (h19).v, (h21).v, (h23).v], E (List (Int × Int × List Int × List Int)) y16_1 h19, E (List Int) y16_2 h21, E (List Int) y16_3 h23, E (List (Int × Int)) r102 g141])
    replace hX := hX.trans0 hx; clear hx
    refine hold hX ?_
    replace H := H.sel [12, 0, 1, 2, 3, 4, 5, 6, 7, 8, 9, 10, 11, 13, 14, 15, 16] rfl
    refine stB (j := 2) H rfl rfl ?_; clear H; intro w159 H
    replace H : Cx w0 fp0 S0 w159 [Bx b26 [(.int .i64 y16_0), (h19).v, (h147).v, (h23).v], E (List Int) y154 h157, E (List Int) y149 h152, E (List Int) y144 h147, Bx b8 [(.int .i64 a__0), (a__1h).v, (a__2h).v, (a__3h).v], Es (List (Int × Int × List Int × List Int)) a__1 a__1h, Es (List Int) a__2 a__2h, Es (List Int) a__3 a__3h, Bx b11 [(.int .i64 b__0), (b__1h).v, (b__2h).v, (b__3h).v], Es (List (Int × Int × List Int × List Int)) b__1 b__1h, Es (List Int) b__2 b__2h, Es (List Int) b__3 b__3h, Bx b14 [(.int .i64 0), (.slice none 0 0), (.slice none 0 0), (.slice none 0 0)], E (List (Int × Int × List Int × List Int)) y16_1 h19, E (List Int) y16_2 h21, E (List Int) y16_3 h23, E (List (Int × Int)) r102 g141] := H
    refine hold trivial ?_
    refine fld gok rfl rfl rfl rfl ?_
    refine hold trivial ?_
    refine stB (j := 3) H rfl rfl ?_; clear H; intro w160 H
    replace H : Cx w0 fp0 S0 w160 [Bx b26 [(.int .i64 y16_0), (h19).v, (h147).v, (h157).v], E (List Int) y154 h157, E (List Int) y149 h152, E (List Int) y144 h147, Bx b8 [(.int .i64 a__0), (a__1h).v, (a__2h).v, (a__3h).v], Es (List (Int × Int × List Int × List Int)) a__1 a__1h, Es (List Int) a__2 a__2h, Es (List Int) a__3 a__3h, Bx b11 [(.int .i64 b__0), (b__1h).v, (b__2h).v, (b__3h).v], Es (List (Int × Int × List Int × List Int)) b__1 b__1h, Es (List Int) b__2 b__2h, Es (List Int) b__3 b__3h, Bx b14 [(.int .i64 0), (.slice none 0 0), (.slice none 0 0), (.slice none 0 0)], E (List (Int × Int × List Int × List Int)) y16_1 h19, E (List Int) y16_2 h21, E (List Int) y16_3 h23, E (List (Int × Int)) r102 g141] := H
    refine hold trivial ?_
    refine loadN [(.int .i64 y16_0), (h19).v, (h147).v, (h157).v] rfl (fun j u hj => H.bx 0 rfl hj) ?_
    obtain ⟨y161, e, hF162⟩ := bindS hF155; clear hF155
    obtain ⟨⟨y161_0_0, y161_0_1, y161_0_2, y161_0_3⟩, y161_1⟩ := y161
    have ey161 := e; clear e
    refine callF (impl_Graph_glue_c y16_0 y16_1 h19 y144 h147 y154 h157 r102 g141 y161_0_0 y161_0_1 y161_0_2 y161_0_3 y161_1 ey161) (Γi := []) H ⟨Vw.own 13 rfl, Vw.own 3 rfl, Vw.own 1 rfl, Vw.own 16 rfl, trivial⟩ ?_; clear H ey161
    rintro _ _ w163 ⟨h164, h166, h168, h170, rfl, rfl⟩ (H : Cx w0 fp0 S0 w163 [E (List (Int × Int × List Int × List Int)) y161_0_1 h164, E (List Int) y161_0_2 h166, E (List Int) y161_0_3 h168, E (List Int) y161_1 h170, Bx b26 [(.int .i64 y16_0), (h19).v, (h147).v, (h157).v], E (List Int) y154 h157, E (List Int) y149 h152, E (List Int) y144 h147, Bx b8 [(.int .i64 a__0), (a__1h).v, (a__2h).v, (a__3h).v], Es (List (Int × Int × List Int × List Int)) a__1 a__1h, Es (List Int) a__2 a__2h, Es (List Int) a__3 a__3h, Bx b11 [(.int .i64 b__0), (b__1h).v, (b__2h).v, (b__3h).v], Es (List (Int × Int × List Int × List Int)) b__1 b__1h, Es (List Int) b__2 b__2h, Es (List Int) b__3 b__3h, Bx b14 [(.int .i64 0), (.slice none 0 0), (.slice none 0 0), (.slice none 0 0)], E (List (Int × Int × List Int × List Int)) y16_1 h19, E (List Int) y16_2 h21, E (List Int) y16_3 h23, E (List (Int × Int)) r102 g141])
    replace H := H.sel [16, 0, 1, 2, 3, 4, 5, 6, 7, 8, 9, 10, 11, 12, 13, 14, 15, 17, 18, 19, 20] rfl
    refine stA gok [(.int .i64 y161_0_0), (h164).v, (h166).v, (h168).v] rfl H rfl rfl rfl ?_; clear H; intro w172 H
    replace H : Cx w0 fp0 S0 w172 [Bx b14 [(.int .i64 y161_0_0), (h164).v, (h166).v, (h168).v], E (List (Int × Int × List Int × List Int)) y161_0_1 h164, E (List Int) y161_0_2 h166, E (List Int) y161_0_3 h168, E (List Int) y161_1 h170, Bx b26 [(.int .i64 y16_0), (h19).v, (h147).v, (h157).v], E (List Int) y154 h157, E (List Int) y149 h152, E (List Int) y144 h147, Bx b8 [(.int .i64 a__0), (a__1h).v, (a__2h).v, (a__3h).v], Es (List (Int × Int × List Int × List Int)) a__1 a__1h, Es (List Int) a__2 a__2h, Es (List Int) a__3 a__3h, Bx b11 [(.int .i64 b__0), (b__1h).v, (b__2h).v, (b__3h).v], Es (List (Int × Int × List Int × List Int)) b__1 b__1h, Es (List Int) b__2 b__2h, Es (List Int) b__3 b__3h, E (List (Int × Int × List Int × List Int)) y16_1 h19, E (List Int) y16_2 h21, E (List Int) y16_3 h23, E (List (Int × Int)) r102 g141] := H
    refine loadN [(.int .i64 y161_0_0), (h164).v, (h166).v, (h168).v] rfl (fun j u hj => H.bx 0 rfl hj) ?_
    cases hF162
    exact ⟨_, _, rfl, ⟨h164, h166, h168, rfl, rfl⟩, (H.sel [1, 2, 3] rfl).close ⟨cloE, cloE, cloE, trivial⟩⟩

theorem impl_validGraph_c (g__0 : Int) (g__1 : List (Int × Int × List Int × List Int)) (g__1h : Hd) (g__2 : List Int) (g__2h : Hd) (g__3 : List Int) (g__3h : Hd) (y0_0 : Int) (y0_1 : List (Int × Int × List Int × List Int)) (y0_2 : List Int) (y0_3 : List Int) (y1 : Bool) (hF : F_impl_validGraph (g__0, g__1, g__2, g__3) = some ((y0_0, y0_1, y0_2, y0_3), y1)) :
    ConF Try.prog 57 #[(.agg #[(.int .i64 g__0), (g__1h).v, (g__2h).v, (g__3h).v])] [] [E (List (Int × Int × List Int × List Int)) g__1 g__1h, E (List Int) g__2 g__2h, E (List Int) g__3 g__3h] (fun v Γ' => ∃ z0 z1 z2 : Hd, v = (.tuple #[(.agg #[(.int .i64 y0_0), (z0).v, (z1).v, (z2).v]), (.bool y1)]) ∧ Γ' = [E (List (Int × Int × List Int × List Int)) y0_1 z0, E (List Int) y0_2 z1, E (List Int) y0_3 z2]) := by
  intro w0 S0 fp0 hI hS
  have H : Cx w0 fp0 S0 w0 [E (List (Int × Int × List Int × List Int)) g__1 g__1h, E (List Int) g__2 g__2h, E (List Int) g__3 g__3h] := Cx.start hI hS
  clear hI hS
  refine enterC (args := [_]) gok Try.func57 rfl _ rfl rfl rfl ?_
  refine box_ H ?_; clear H; intro b5 w4 hx H
  clear hx
  replace H : Cx w0 fp0 S0 w4 [Bx b5 [(.int .i64 g__0), (g__1h).v, (g__2h).v, (g__3h).v], E (List (Int × Int × List Int × List Int)) g__1 g__1h, E (List Int) g__2 g__2h, E (List Int) g__3 g__3h] := H
  refine alloc_ gok rfl H ?_; clear H; intro b8 w7 hx H
  clear hx
  replace H : Cx w0 fp0 S0 w7 [Bx b8 [(.int .i64 0), (.slice none 0 0), (.slice none 0 0), (.slice none 0 0)], Bx b5 [(.int .i64 g__0), (g__1h).v, (g__2h).v, (g__3h).v], E (List (Int × Int × List Int × List Int)) g__1 g__1h, E (List Int) g__2 g__2h, E (List Int) g__3 g__3h] := H
  refine sq ?_
  refine loadN [(.int .i64 g__0), (g__1h).v, (g__2h).v, (g__3h).v] rfl (fun j u hj => H.bx 1 rfl hj) ?_
  obtain ⟨y10, e, hF11⟩ := bindS hF; clear hF
  have ey10 := e; clear e
  refine callF (impl_Graph_isGraph_c g__0 g__1 g__1h g__2 g__2h g__3 g__3h y10 ey10) (Γi := []) H ⟨Vw.own 2 rfl, Vw.own 3 rfl, Vw.own 4 rfl, trivial⟩ ?_; clear H ey10
  rintro _ _ w12 ⟨rfl, rfl⟩ (H : Cx w0 fp0 S0 w12 [Bx b8 [(.int .i64 0), (.slice none 0 0), (.slice none 0 0), (.slice none 0 0)], Bx b5 [(.int .i64 g__0), (g__1h).v, (g__2h).v, (g__3h).v], E (List (Int × Int × List Int × List Int)) g__1 g__1h, E (List Int) g__2 g__2h, E (List Int) g__3 g__3h])
  obtain ⟨a13, e, hF14⟩ := bindS hF11; clear hF11
  refine boolO e ?_; clear e
  cases a13
  · have hF15 := condF hF14; clear hF14
    refine loadN [(.int .i64 g__0), (g__1h).v, (g__2h).v, (g__3h).v] rfl (fun j u hj => H.bx 1 rfl hj) ?_
    refine stA gok [(.int .i64 g__0), (g__1h).v, (g__2h).v, (g__3h).v] rfl H rfl rfl rfl ?_; clear H; intro w16 H
    replace H : Cx w0 fp0 S0 w16 [Bx b8 [(.int .i64 g__0), (g__1h).v, (g__2h).v, (g__3h).v], Bx b5 [(.int .i64 g__0), (g__1h).v, (g__2h).v, (g__3h).v], E (List (Int × Int × List Int × List Int)) g__1 g__1h, E (List Int) g__2 g__2h, E (List Int) g__3 g__3h] := H
    refine loadN [(.int .i64 g__0), (g__1h).v, (g__2h).v, (g__3h).v] rfl (fun j u hj => H.bx 0 rfl hj) ?_
    cases hF15
    exact ⟨_, _, rfl, ⟨g__1h, g__2h, g__3h, rfl, rfl⟩, (H.sel [2, 3, 4] rfl).close ⟨cloE, cloE, cloE, trivial⟩⟩
  · have hF17 := condT hF14; clear hF14
    refine build_ (cs := #[(.int .i64 0), (.slice none 0 0), (.slice none 0 0), (.slice none 0 0)]) gok rfl rfl rfl ?_
    refine stA gok [(.int .i64 0), (.slice none 0 0), (.slice none 0 0), (.slice none 0 0)] rfl H rfl rfl rfl ?_; clear H; intro w18 H
    replace H : Cx w0 fp0 S0 w18 [Bx b8 [(.int .i64 0), (.slice none 0 0), (.slice none 0 0), (.slice none 0 0)], Bx b5 [(.int .i64 g__0), (g__1h).v, (g__2h).v, (g__3h).v], E (List (Int × Int × List Int × List Int)) g__1 g__1h, E (List Int) g__2 g__2h, E (List Int) g__3 g__3h] := H
    refine loadN [(.int .i64 0), (.slice none 0 0), (.slice none 0 0), (.slice none 0 0)] rfl (fun j u hj => H.bx 0 rfl hj) ?_
    replace H := H.nil (α := Int × Int × List Int × List Int)
    replace H := H.nil (α := Int)
    replace H := H.nil (α := Int)
    cases hF17
    exact ⟨_, _, rfl, ⟨nilH, nilH, nilH, rfl, rfl⟩, (H.sel [2, 1, 0] rfl).close ⟨cloE, cloE, cloE, trivial⟩⟩

theorem impl_SeqGraphs_c (a__0 : Int) (a__1 : List (Int × Int × List Int × List Int)) (a__1h : Hd) (a__2 : List Int) (a__2h : Hd) (a__3 : List Int) (a__3h : Hd) (b__0 : Int) (b__1 : List (Int × Int × List Int × List Int)) (b__1h : Hd) (b__2 : List Int) (b__2h : Hd) (b__3 : List Int) (b__3h : Hd) (y0_0 : Int) (y0_1 : List (Int × Int × List Int × List Int)) (y0_2 : List Int) (y0_3 : List Int) (y1 : Bool) (hF : F_impl_SeqGraphs (a__0, a__1, a__2, a__3) (b__0, b__1, b__2, b__3) = some ((y0_0, y0_1, y0_2, y0_3), y1)) :
    ConF Try.prog 27 #[(.agg #[(.int .i64 a__0), (a__1h).v, (a__2h).v, (a__3h).v]), (.agg #[(.int .i64 b__0), (b__1h).v, (b__2h).v, (b__3h).v])] [Es (List (Int × Int × List Int × List Int)) a__1 a__1h, Es (List Int) a__2 a__2h, Es (List Int) a__3 a__3h, Es (List (Int × Int × List Int × List Int)) b__1 b__1h, Es (List Int) b__2 b__2h, Es (List Int) b__3 b__3h] [] (fun v Γ' => ∃ z0 z1 z2 : Hd, v = (.tuple #[(.agg #[(.int .i64 y0_0), (z0).v, (z1).v, (z2).v]), (.bool y1)]) ∧ Γ' = [E (List (Int × Int × List Int × List Int)) y0_1 z0, E (List Int) y0_2 z1, E (List Int) y0_3 z2]) := by
  intro w0 S0 fp0 hI hS
  have H : Cx w0 fp0 S0 w0 [Es (List (Int × Int × List Int × List Int)) a__1 a__1h, Es (List Int) a__2 a__2h, Es (List Int) a__3 a__3h, Es (List (Int × Int × List Int × List Int)) b__1 b__1h, Es (List Int) b__2 b__2h, Es (List Int) b__3 b__3h] := Cx.start hI hS
  clear hI hS
  refine enterC (args := [_, _]) gok Try.func27 rfl _ rfl rfl rfl ?_
  refine box_ H ?_; clear H; intro b8 w7 hx H
  clear hx
  replace H : Cx w0 fp0 S0 w7 [Bx b8 [(.int .i64 a__0), (a__1h).v, (a__2h).v, (a__3h).v], Es (List (Int × Int × List Int × List Int)) a__1 a__1h, Es (List Int) a__2 a__2h, Es (List Int) a__3 a__3h, Es (List (Int × Int × List Int × List Int)) b__1 b__1h, Es (List Int) b__2 b__2h, Es (List Int) b__3 b__3h] := H
  refine box_ H ?_; clear H; intro b11 w10 hx H
  clear hx
  replace H : Cx w0 fp0 S0 w10 [Bx b11 [(.int .i64 b__0), (b__1h).v, (b__2h).v, (b__3h).v], Bx b8 [(.int .i64 a__0), (a__1h).v, (a__2h).v, (a__3h).v], Es (List (Int × Int × List Int × List Int)) a__1 a__1h, Es (List Int) a__2 a__2h, Es (List Int) a__3 a__3h, Es (List (Int × Int × List Int × List Int)) b__1 b__1h, Es (List Int) b__2 b__2h, Es (List Int) b__3 b__3h] := H
  refine alloc_ gok rfl H ?_; clear H; intro b14 w13 hx H
  clear hx
  replace H : Cx w0 fp0 S0 w13 [Bx b14 [(.int .i64 0), (.slice none 0 0), (.slice none 0 0), (.slice none 0 0)], Bx b11 [(.int .i64 b__0), (b__1h).v, (b__2h).v, (b__3h).v], Bx b8 [(.int .i64 a__0), (a__1h).v, (a__2h).v, (a__3h).v], Es (List (Int × Int × List Int × List Int)) a__1 a__1h, Es (List Int) a__2 a__2h, Es (List Int) a__3 a__3h, Es (List (Int × Int × List Int × List Int)) b__1 b__1h, Es (List Int) b__2 b__2h, Es (List Int) b__3 b__3h] := H
  refine sq ?_
  obtain ⟨r34, hF36, hF35⟩ := bindS hF; clear hF
  refine cut (fun (q37 : Bool) => [(2, (.pointer (some ⟨b8, 0, none⟩))), (3, (.pointer (some ⟨b11, 0, none⟩))), (4, (.pointer (some ⟨b14, 0, none⟩))), (22, (.bool q37))]) (fun (q37 : Bool) w' => q37 = r34 ∧ Cx w0 fp0 S0 w' [Bx b8 [(.int .i64 a__0), (a__1h).v, (a__2h).v, (a__3h).v], Es (List (Int × Int × List Int × List Int)) a__1 a__1h, Es (List Int) a__2 a__2h, Es (List Int) a__3 a__3h, Bx b11 [(.int .i64 b__0), (b__1h).v, (b__2h).v, (b__3h).v], Es (List (Int × Int × List Int × List Int)) b__1 b__1h, Es (List Int) b__2 b__2h, Es (List Int) b__3 b__3h, Bx b14 [(.int .i64 0), (.slice none 0 0), (.slice none 0 0), (.slice none 0 0)]]) ?_ ?_
  · skip
    refine loadN [(.int .i64 a__0), (a__1h).v, (a__2h).v, (a__3h).v] rfl (fun j u hj => H.bx 2 rfl hj) ?_
    obtain ⟨y38, e, hF39⟩ := bindS hF36; clear hF36
    have ey38 := e; clear e
    refine callF (impl_Graph_isGraph_c a__0 a__1 a__1h a__2 a__2h a__3 a__3h y38 ey38) (Γi := []) H ⟨Vw.sh 3 rfl, Vw.sh 4 rfl, Vw.sh 5 rfl, trivial⟩ ?_; clear H ey38
    rintro _ _ w40 ⟨rfl, rfl⟩ (H : Cx w0 fp0 S0 w40 [Bx b14 [(.int .i64 0), (.slice none 0 0), (.slice none 0 0), (.slice none 0 0)], Bx b11 [(.int .i64 b__0), (b__1h).v, (b__2h).v, (b__3h).v], Bx b8 [(.int .i64 a__0), (a__1h).v, (a__2h).v, (a__3h).v], Es (List (Int × Int × List Int × List Int)) a__1 a__1h, Es (List Int) a__2 a__2h, Es (List Int) a__3 a__3h, Es (List (Int × Int × List Int × List Int)) b__1 b__1h, Es (List Int) b__2 b__2h, Es (List Int) b__3 b__3h])
    obtain ⟨a41, e, hF42⟩ := bindS hF39; clear hF39
    refine boolO e ?_; clear e
    cases a41
    · have hF43 := condF hF42; clear hF42
      refine loadN [(.int .i64 b__0), (b__1h).v, (b__2h).v, (b__3h).v] rfl (fun j u hj => H.bx 1 rfl hj) ?_
      obtain ⟨y44, e, hF45⟩ := bindS hF43; clear hF43
      have ey44 := e; clear e
      refine callF (impl_Graph_isGraph_c b__0 b__1 b__1h b__2 b__2h b__3 b__3h y44 ey44) (Γi := []) H ⟨Vw.sh 6 rfl, Vw.sh 7 rfl, Vw.sh 8 rfl, trivial⟩ ?_; clear H ey44
      rintro _ _ w46 ⟨rfl, rfl⟩ (H : Cx w0 fp0 S0 w46 [Bx b14 [(.int .i64 0), (.slice none 0 0), (.slice none 0 0), (.slice none 0 0)], Bx b11 [(.int .i64 b__0), (b__1h).v, (b__2h).v, (b__3h).v], Bx b8 [(.int .i64 a__0), (a__1h).v, (a__2h).v, (a__3h).v], Es (List (Int × Int × List Int × List Int)) a__1 a__1h, Es (List Int) a__2 a__2h, Es (List Int) a__3 a__3h, Es (List (Int × Int × List Int × List Int)) b__1 b__1h, Es (List Int) b__2 b__2h, Es (List Int) b__3 b__3h])
      obtain ⟨a47, e, hF48⟩ := bindS hF45; clear hF45
      refine boolO e ?_; clear e
      cases a47
      · have hF49 := condF hF48; clear hF48
        refine fld gok rfl rfl rfl rfl ?_
        refine load1 (H.bx 2 rfl (j := 3) rfl) ?_
        refine lenE (H.rs (α := List Int) 5 rfl).len ?_
        refine fld gok rfl rfl rfl rfl ?_
        refine load1 (H.bx 1 rfl (j := 2) rfl) ?_
        refine lenE (H.rs (α := List Int) 7 rfl).len ?_
        obtain ⟨a50, e, hF51⟩ := bindS hF49; clear hF49
        refine boolO e ?_; clear e
        exact ⟨a50, ⟨rfl, rfl, rfl, rfl, trivial⟩, Option.some.inj hF51, H.sel [2, 3, 4, 5, 1, 6, 7, 8, 0] rfl⟩
      · have hF52 := condT hF48; clear hF48
        exact ⟨true, ⟨rfl, rfl, rfl, rfl, trivial⟩, Option.some.inj hF52, H.sel [2, 3, 4, 5, 1, 6, 7, 8, 0] rfl⟩
    · have hF53 := condT hF42; clear hF42
      exact ⟨true, ⟨rfl, rfl, rfl, rfl, trivial⟩, Option.some.inj hF53, H.sel [2, 3, 4, 5, 1, 6, 7, 8, 0] rfl⟩
  · clear hF36 H
    rintro T55 s32 w54 ⟨hr, (H : Cx w0 fp0 S0 w54 [Bx b8 [(.int .i64 a__0), (a__1h).v, (a__2h).v, (a__3h).v], Es (List (Int × Int × List Int × List Int)) a__1 a__1h, Es (List Int) a__2 a__2h, Es (List Int) a__3 a__3h, Bx b11 [(.int .i64 b__0), (b__1h).v, (b__2h).v, (b__3h).v], Es (List (Int × Int × List Int × List Int)) b__1 b__1h, Es (List Int) b__2 b__2h, Es (List Int) b__3 b__3h, Bx b14 [(.int .i64 0), (.slice none 0 0), (.slice none 0 0), (.slice none 0 0)]])⟩
    subst hr
    cases s32
    · have hF56 := condF hF35; clear hF35
      refine loadN [(.int .i64 a__0), (a__1h).v, (a__2h).v, (a__3h).v] rfl (fun j u hj => H.bx 0 rfl hj) ?_
      refine loadN [(.int .i64 b__0), (b__1h).v, (b__2h).v, (b__3h).v] rfl (fun j u hj => H.bx 4 rfl hj) ?_
      obtain ⟨y57, e, hF58⟩ := bindS hF56; clear hF56
      obtain ⟨y57_0, y57_1, y57_2, y57_3⟩ := y57
      have ey57 := e; clear e
      refine callF (impl_seqGraphs_c a__0 a__1 a__1h a__2 a__2h a__3 a__3h b__0 b__1 b__1h b__2 b__2h b__3 b__3h y57_0 y57_1 y57_2 y57_3 ey57) (Γi := []) H ⟨Vw.sh 1 rfl, Vw.sh 2 rfl, Vw.sh 3 rfl, Vw.sh 5 rfl, Vw.sh 6 rfl, Vw.sh 7 rfl, trivial⟩ ?_; clear H ey57
      rintro _ _ w59 ⟨h60, h62, h64, rfl, rfl⟩ (H : Cx w0 fp0 S0 w59 [E (List (Int × Int × List Int × List Int)) y57_1 h60, E (List Int) y57_2 h62, E (List Int) y57_3 h64, Bx b8 [(.int .i64 a__0), (a__1h).v, (a__2h).v, (a__3h).v], Es (List (Int × Int × List Int × List Int)) a__1 a__1h, Es (List Int) a__2 a__2h, Es (List Int) a__3 a__3h, Bx b11 [(.int .i64 b__0), (b__1h).v, (b__2h).v, (b__3h).v], Es (List (Int × Int × List Int × List Int)) b__1 b__1h, Es (List Int) b__2 b__2h, Es (List Int) b__3 b__3h, Bx b14 [(.int .i64 0), (.slice none 0 0), (.slice none 0 0), (.slice none 0 0)]])
      obtain ⟨y66, e, hF67⟩ := bindS hF58; clear hF58
      obtain ⟨⟨y66_0_0, y66_0_1, y66_0_2, y66_0_3⟩, y66_1⟩ := y66
      have ey66 := e; clear e
      refine callF (impl_validGraph_c y57_0 y57_1 h60 y57_2 h62 y57_3 h64 y66_0_0 y66_0_1 y66_0_2 y66_0_3 y66_1 ey66) (Γi := [E (List (Int × Int × List Int × List Int)) y57_1 h60, E (List Int) y57_2 h62, E (List Int) y57_3 h64]) H trivial ?_; clear H ey66
      rintro _ _ w68 ⟨h69, h71, h73, rfl, rfl⟩ (H : Cx w0 fp0 S0 w68 [E (List (Int × Int × List Int × List Int)) y66_0_1 h69, E (List Int) y66_0_2 h71, E (List Int) y66_0_3 h73, Bx b8 [(.int .i64 a__0), (a__1h).v, (a__2h).v, (a__3h).v], Es (List (Int × Int × List Int × List Int)) a__1 a__1h, Es (List Int) a__2 a__2h, Es (List Int) a__3 a__3h, Bx b11 [(.int .i64 b__0), (b__1h).v, (b__2h).v, (b__3h).v], Es (List (Int × Int × List Int × List Int)) b__1 b__1h, Es (List Int) b__2 b__2h, Es (List Int) b__3 b__3h, Bx b14 [(.int .i64 0), (.slice none 0 0), (.slice none 0 0), (.slice none 0 0)]])
      replace H := H.sel [11, 0, 1, 2, 3, 4, 5, 6, 7, 8, 9, 10] rfl
      refine stA gok [(.int .i64 y66_0_0), (h69).v, (h71).v, (h73).v] rfl H rfl rfl rfl ?_; clear H; intro w75 H
      replace H : Cx w0 fp0 S0 w75 [Bx b14 [(.int .i64 y66_0_0), (h69).v, (h71).v, (h73).v], E (List (Int × Int × List Int × List Int)) y66_0_1 h69, E (List Int) y66_0_2 h71, E (List Int) y66_0_3 h73, Bx b8 [(.int .i64 a__0), (a__1h).v, (a__2h).v, (a__3h).v], Es (List (Int × Int × List Int × List Int)) a__1 a__1h, Es (List Int) a__2 a__2h, Es (List Int) a__3 a__3h, Bx b11 [(.int .i64 b__0), (b__1h).v, (b__2h).v, (b__3h).v], Es (List (Int × Int × List Int × List Int)) b__1 b__1h, Es (List Int) b__2 b__2h, Es (List Int) b__3 b__3h] := H
      refine loadN [(.int .i64 y66_0_0), (h69).v, (h71).v, (h73).v] rfl (fun j u hj => H.bx 0 rfl hj) ?_
      cases hF67
      exact ⟨_, _, rfl, ⟨h69, h71, h73, rfl, rfl⟩, (H.sel [1, 2, 3] rfl).close ⟨cloE, cloE, cloE, trivial⟩⟩
    · have hF76 := condT hF35; clear hF35
      refine build_ (cs := #[(.int .i64 0), (.slice none 0 0), (.slice none 0 0), (.slice none 0 0)]) gok rfl rfl rfl ?_
      replace H := H.sel [8, 0, 1, 2, 3, 4, 5, 6, 7] rfl
      refine stA gok [(.int .i64 0), (.slice none 0 0), (.slice none 0 0), (.slice none 0 0)] rfl H rfl rfl rfl ?_; clear H; intro w77 H
      replace H : Cx w0 fp0 S0 w77 [Bx b14 [(.int .i64 0), (.slice none 0 0), (.slice none 0 0), (.slice none 0 0)], Bx b8 [(.int .i64 a__0), (a__1h).v, (a__2h).v, (a__3h).v], Es (List (Int × Int × List Int × List Int)) a__1 a__1h, Es (List Int) a__2 a__2h, Es (List Int) a__3 a__3h, Bx b11 [(.int .i64 b__0), (b__1h).v, (b__2h).v, (b__3h).v], Es (List (Int × Int × List Int × List Int)) b__1 b__1h, Es (List Int) b__2 b__2h, Es (List Int) b__3 b__3h] := H
      refine loadN [(.int .i64 0), (.slice none 0 0), (.slice none 0 0), (.slice none 0 0)] rfl (fun j u hj => H.bx 0 rfl hj) ?_
      replace H := H.nil (α := Int × Int × List Int × List Int)
      replace H := H.nil (α := Int)
      replace H := H.nil (α := Int)
      cases hF76
      exact ⟨_, _, rfl, ⟨nilH, nilH, nilH, rfl, rfl⟩, (H.sel [2, 1, 0] rfl).close ⟨cloE, cloE, cloE, trivial⟩⟩

theorem laws_eqIntS_c (a_ : List Int) (a_h : Hd) (b_ : List Int) (b_h : Hd) (y : Bool) (hF : F_laws_eqIntS a_ b_ = some y) :
    ConF Try.prog 20 #[(a_h).v, (b_h).v] [Es (List Int) a_ a_h, Es (List Int) b_ b_h] [] (fun v Γ' => v = (.bool y) ∧ Γ' = []) := by
  intro w0 S0 fp0 hI hS
  have H : Cx w0 fp0 S0 w0 [Es (List Int) a_ a_h, Es (List Int) b_ b_h] := Cx.start hI hS
  clear hI hS
  refine enterC (args := [_, _]) gok Try.func20 rfl _ rfl rfl rfl ?_
  refine sq ?_
  refine lenE (H.rs (α := List Int) 0 rfl).len ?_
  refine lenE (H.rs (α := List Int) 1 rfl).len ?_
  obtain ⟨a3, e, hF4⟩ := bindS hF; clear hF
  refine boolO e ?_; clear e
  cases a3
  · have hF5 := condF hF4; clear hF4
    obtain ⟨r104, hF106, hF105⟩ := bindS hF5; clear hF5
    refine cut (fun (q107 : Unit) => []) (fun (q107 : Unit) w' => .inl () = r104 ∧ Cx w0 fp0 S0 w' []) ?_ ?_
    · skip
      refine loopW _ (fun (s166 : Int) (_ : Unit) => [(0, (a_h).v), (1, (b_h).v), (5, (.int .i64 s166))]) (fun (s166 : Int) (_ : Unit) w' => Cx w0 fp0 S0 w' [Es (List Int) a_ a_h, Es (List Int) b_ b_h]) 0 () hF106 ⟨rfl, rfl, rfl, trivial⟩ (H.sel [0, 1] rfl) ?_
      · clear H
        rintro T172 s166 _ w171 o173 (H : Cx w0 fp0 S0 w171 [Es (List Int) a_ a_h, Es (List Int) b_ b_h]) hrt hF174
        refine sq ?_
        refine lenE (H.rs (α := List Int) 0 rfl).len ?_
        obtain ⟨a175, e, hF176⟩ := bindS hF174; clear hF174
        refine boolO e ?_; clear e
        cases a175
        · have hF177 := condF hF176; clear hF176
          have hs := Option.some.inj hF177; subst hs; clear hF177
          have hF178 : some _ = some _ := congrArg some (hrt _ rfl).symm
          exact ⟨(), trivial, Option.some.inj hF178, H.sel [] rfl⟩
        · have hF179 := condT hF176; clear hF176
          refine sq ?_
          refine heldX H [] (.fst 0 (.fst 1 (.fst 2 (.fst 4 (.fst 5 (.fst 6 (.fst 3 (.fst 7 (.fst 8 .done))))))))) mixed [] trivial (by kernel_rfl) ?_
          clear H; intro w180 H
          have hX : Ext w180 w180 := Upd.refl _ _
          have H0 := H
          obtain ⟨a187, e, hF188⟩ := bindS hF179; clear hF179
          obtain ⟨p185, m186, c181, c182, c183, c184⟩ := (H.rs (α := List Int) 0 rfl).at1 e; clear e
          refine idxE c181 c182 c183 ?_; clear c181 c182 c183
          obtain ⟨a195, e, hF196⟩ := bindS hF188; clear hF188
          obtain ⟨p193, m194, c189, c190, c191, c192⟩ := (H.rs (α := List Int) 1 rfl).at1 e; clear e
          refine idxE c189 c190 c191 ?_; clear c189 c190 c191
          refine load1X c184 ?_; clear c184
          refine load1X c192 ?_; clear c192
          obtain ⟨a197, e, hF198⟩ := bindS hF196; clear hF196
          refine boolO e ?_; clear e
          cases a197
          · have hF199 := condF hF198; clear hF198
            obtain ⟨a200, e, hF201⟩ := bindS hF199; clear hF199
            refine arO e ?_; clear e
            have hs := Option.some.inj hF201; subst hs; clear hF201
            exact ⟨a200, (), rfl, ⟨rfl, rfl, rfl, trivial⟩, H.sel [0, 1] rfl⟩
          · have hF202 := condT hF198; clear hF198
            have hs := Option.some.inj hF202; subst hs; clear hF202
            have hF203 : some _ = some _ := congrArg some (hrt _ rfl).symm
            have hs := Option.some.inj hF203; subst hs; clear hF203
            have hF204 : some _ = some _ := hF105; clear hF105
            cases hF204
            exact ⟨_, _, rfl, ⟨rfl, rfl⟩, (H.sel [] rfl).close trivial⟩
    · clear hF106 H
      rintro T206 _ w205 ⟨hr, (H : Cx w0 fp0 S0 w205 [])⟩
      subst hr
      cases hF105
      exact ⟨_, _, rfl, ⟨rfl, rfl⟩, (H.sel [] rfl).close trivial⟩
  · have hF207 := condT hF4; clear hF4
    cases hF207
    exact ⟨_, _, rfl, ⟨rfl, rfl⟩, (H.sel [] rfl).close trivial⟩

theorem laws_eqEdge_c (a__0 : Int) (a__1 : Int) (a__2 : List Int) (a__2h : Hd) (a__3 : List Int) (a__3h : Hd) (b__0 : Int) (b__1 : Int) (b__2 : List Int) (b__2h : Hd) (b__3 : List Int) (b__3h : Hd) (y : Bool) (hF : F_laws_eqEdge (a__0, a__1, a__2, a__3) (b__0, b__1, b__2, b__3) = some y) :
    ConF Try.prog 86 #[(.agg #[(.int .i64 a__0), (.int .i64 a__1), (a__2h).v, (a__3h).v]), (.agg #[(.int .i64 b__0), (.int .i64 b__1), (b__2h).v, (b__3h).v])] [Es (List Int) a__2 a__2h, Es (List Int) a__3 a__3h, Es (List Int) b__2 b__2h, Es (List Int) b__3 b__3h] [] (fun v Γ' => v = (.bool y) ∧ Γ' = []) := by
  intro w0 S0 fp0 hI hS
  have H : Cx w0 fp0 S0 w0 [Es (List Int) a__2 a__2h, Es (List Int) a__3 a__3h, Es (List Int) b__2 b__2h, Es (List Int) b__3 b__3h] := Cx.start hI hS
  clear hI hS
  refine enterC (args := [_, _]) gok Try.func86 rfl _ rfl rfl rfl ?_
  refine box_ H ?_; clear H; intro b6 w5 hx H
  clear hx
  replace H : Cx w0 fp0 S0 w5 [Bx b6 [(.int .i64 a__0), (.int .i64 a__1), (a__2h).v, (a__3h).v], Es (List Int) a__2 a__2h, Es (List Int) a__3 a__3h, Es (List Int) b__2 b__2h, Es (List Int) b__3 b__3h] := H
  refine box_ H ?_; clear H; intro b9 w8 hx H
  clear hx
  replace H : Cx w0 fp0 S0 w8 [Bx b9 [(.int .i64 b__0), (.int .i64 b__1), (b__2h).v, (b__3h).v], Bx b6 [(.int .i64 a__0), (.int .i64 a__1), (a__2h).v, (a__3h).v], Es (List Int) a__2 a__2h, Es (List Int) a__3 a__3h, Es (List Int) b__2 b__2h, Es (List Int) b__3 b__3h] := H
  refine sq ?_
  refine fld gok rfl rfl rfl rfl ?_
  refine load1 (H.bx 1 rfl (j := 0) rfl) ?_
  refine fld gok rfl rfl rfl rfl ?_
  refine load1 (H.bx 0 rfl (j := 0) rfl) ?_
  obtain ⟨a11, e, hF12⟩ := bindS hF; clear hF
  refine boolO e ?_; clear e
  cases a11
  · have hF13 := condF hF12; clear hF12
    refine sq ?_
    refine fld gok rfl rfl rfl rfl ?_
    refine load1 (H.bx 1 rfl (j := 1) rfl) ?_
    refine fld gok rfl rfl rfl rfl ?_
    refine load1 (H.bx 0 rfl (j := 1) rfl) ?_
    obtain ⟨a14, e, hF15⟩ := bindS hF13; clear hF13
    refine boolO e ?_; clear e
    cases a14
    · have hF16 := condF hF15; clear hF15
      refine sq ?_
      refine fld gok rfl rfl rfl rfl ?_
      refine load1 (H.bx 1 rfl (j := 2) rfl) ?_
      refine fld gok rfl rfl rfl rfl ?_
      refine load1 (H.bx 0 rfl (j := 2) rfl) ?_
      obtain ⟨y17, e, hF18⟩ := bindS hF16; clear hF16
      have ey17 := e; clear e
      refine callF (laws_eqIntS_c a__2 a__2h b__2 b__2h y17 ey17) (Γi := []) H ⟨Vw.sh 2 rfl, Vw.sh 4 rfl, trivial⟩ ?_; clear H ey17
      rintro _ _ w19 ⟨rfl, rfl⟩ (H : Cx w0 fp0 S0 w19 [Bx b9 [(.int .i64 b__0), (.int .i64 b__1), (b__2h).v, (b__3h).v], Bx b6 [(.int .i64 a__0), (.int .i64 a__1), (a__2h).v, (a__3h).v], Es (List Int) a__2 a__2h, Es (List Int) a__3 a__3h, Es (List Int) b__2 b__2h, Es (List Int) b__3 b__3h])
      obtain ⟨a20, e, hF21⟩ := bindS hF18; clear hF18
      refine boolO e ?_; clear e
      cases a20
      · have hF22 := condF hF21; clear hF21
        refine sq ?_
        refine fld gok rfl rfl rfl rfl ?_
        refine load1 (H.bx 1 rfl (j := 3) rfl) ?_
        refine fld gok rfl rfl rfl rfl ?_
        refine load1 (H.bx 0 rfl (j := 3) rfl) ?_
        obtain ⟨y23, e, hF24⟩ := bindS hF22; clear hF22
        have ey23 := e; clear e
        refine callF (laws_eqIntS_c a__3 a__3h b__3 b__3h y23 ey23) (Γi := []) H ⟨Vw.sh 3 rfl, Vw.sh 5 rfl, trivial⟩ ?_; clear H ey23
        rintro _ _ w25 ⟨rfl, rfl⟩ (H : Cx w0 fp0 S0 w25 [Bx b9 [(.int .i64 b__0), (.int .i64 b__1), (b__2h).v, (b__3h).v], Bx b6 [(.int .i64 a__0), (.int .i64 a__1), (a__2h).v, (a__3h).v], Es (List Int) a__2 a__2h, Es (List Int) a__3 a__3h, Es (List Int) b__2 b__2h, Es (List Int) b__3 b__3h])
        obtain ⟨a26, e, hF27⟩ := bindS hF24; clear hF24
        refine boolO e ?_; clear e
        cases a26
        · have hF28 := condF hF27; clear hF27
          cases hF28
          exact ⟨_, _, rfl, ⟨rfl, rfl⟩, (H.sel [] rfl).close trivial⟩
        · have hF29 := condT hF27; clear hF27
          cases hF29
          exact ⟨_, _, rfl, ⟨rfl, rfl⟩, (H.sel [] rfl).close trivial⟩
      · have hF30 := condT hF21; clear hF21
        cases hF30
        exact ⟨_, _, rfl, ⟨rfl, rfl⟩, (H.sel [] rfl).close trivial⟩
    · have hF31 := condT hF15; clear hF15
      cases hF31
      exact ⟨_, _, rfl, ⟨rfl, rfl⟩, (H.sel [] rfl).close trivial⟩
  · have hF32 := condT hF12; clear hF12
    cases hF32
    exact ⟨_, _, rfl, ⟨rfl, rfl⟩, (H.sel [] rfl).close trivial⟩

theorem laws_eqEdgeS_c (a_ : List (Int × Int × List Int × List Int)) (a_h : Hd) (b_ : List (Int × Int × List Int × List Int)) (b_h : Hd) (y : Bool) (hF : F_laws_eqEdgeS a_ b_ = some y) :
    ConF Try.prog 47 #[(a_h).v, (b_h).v] [Es (List (Int × Int × List Int × List Int)) a_ a_h, Es (List (Int × Int × List Int × List Int)) b_ b_h] [] (fun v Γ' => v = (.bool y) ∧ Γ' = []) := by
  intro w0 S0 fp0 hI hS
  have H : Cx w0 fp0 S0 w0 [Es (List (Int × Int × List Int × List Int)) a_ a_h, Es (List (Int × Int × List Int × List Int)) b_ b_h] := Cx.start hI hS
  clear hI hS
  refine enterC (args := [_, _]) gok Try.func47 rfl _ rfl rfl rfl ?_
  refine sq ?_
  refine lenE (H.rs (α := List (Int × Int × List Int × List Int)) 0 rfl).len ?_
  refine lenE (H.rs (α := List (Int × Int × List Int × List Int)) 1 rfl).len ?_
  obtain ⟨a3, e, hF4⟩ := bindS hF; clear hF
  refine boolO e ?_; clear e
  cases a3
  · have hF5 := condF hF4; clear hF4
    obtain ⟨r149, hF151, hF150⟩ := bindS hF5; clear hF5
    refine cut (fun (q152 : Unit) => []) (fun (q152 : Unit) w' => .inl () = r149 ∧ Cx w0 fp0 S0 w' []) ?_ ?_
    · skip
      refine loopW _ (fun (s241 : Int) (_ : Unit) => [(0, (a_h).v), (1, (b_h).v), (5, (.int .i64 s241))]) (fun (s241 : Int) (_ : Unit) w' => Cx w0 fp0 S0 w' [Es (List (Int × Int × List Int × List Int)) a_ a_h, Es (List (Int × Int × List Int × List Int)) b_ b_h]) 0 () hF151 ⟨rfl, rfl, rfl, trivial⟩ (H.sel [0, 1] rfl) ?_
      · clear H
        rintro T247 s241 _ w246 o248 (H : Cx w0 fp0 S0 w246 [Es (List (Int × Int × List Int × List Int)) a_ a_h, Es (List (Int × Int × List Int × List Int)) b_ b_h]) hrt hF249
        refine sq ?_
        refine lenE (H.rs (α := List (Int × Int × List Int × List Int)) 0 rfl).len ?_
        obtain ⟨a250, e, hF251⟩ := bindS hF249; clear hF249
        refine boolO e ?_; clear e
        cases a250
        · have hF252 := condF hF251; clear hF251
          have hs := Option.some.inj hF252; subst hs; clear hF252
          have hF253 : some _ = some _ := congrArg some (hrt _ rfl).symm
          exact ⟨(), trivial, Option.some.inj hF253, H.sel [] rfl⟩
        · have hF254 := condT hF251; clear hF251
          refine sq ?_
          refine heldX H [] (.fst 0 (.fst 1 (.fst 2 (.fst 4 (.fst 5 (.fst 6 (.fst 3 (.fst 7 (.act 8 (.fst 9 .done)))))))))) mixed [] trivial (by kernel_rfl) ?_
          clear H; intro w255 H
          have hX : Ext w255 w255 := Upd.refl _ _
          have H0 := H
          obtain ⟨a262, e, hF263⟩ := bindS hF254; clear hF254
          have HH := H; clear H; obtain ⟨p260, m261, g264, c256, c257, c258, c259, H⟩ := HH.el (α := Int × Int × List Int × List Int) 0 rfl e; clear HH
          clear e
          obtain ⟨a262_0, a262_1, a262_2, a262_3⟩ := a262
          obtain ⟨_, _, h266, h267⟩ := g264
          replace H := H.part (β := List Int) a262_2 (h266 : Hd) 0 rfl (fun S h => (And.left (And.right (And.right h))))
          replace H := H.part (β := List Int) a262_3 (h267 : Hd) 1 rfl (fun S h => (And.right (And.right (And.right h))))
          replace H := H.sel [0, 1, 3, 4] rfl
          refine idxE c256 c257 c258 ?_; clear c256 c257 c258
          obtain ⟨a276, e, hF277⟩ := bindS hF263; clear hF263
          have HH := H; clear H; obtain ⟨p274, m275, g278, c270, c271, c272, c273, H⟩ := HH.el (α := Int × Int × List Int × List Int) 3 rfl e; clear HH
          clear e
          obtain ⟨a276_0, a276_1, a276_2, a276_3⟩ := a276
          obtain ⟨_, _, h280, h281⟩ := g278
          replace H := H.part (β := List Int) a276_2 (h280 : Hd) 0 rfl (fun S h => (And.left (And.right (And.right h))))
          replace H := H.part (β := List Int) a276_3 (h281 : Hd) 1 rfl (fun S h => (And.right (And.right (And.right h))))
          replace H := H.sel [0, 1, 3, 4, 5, 6] rfl
          refine idxE c270 c271 c272 ?_; clear c270 c271 c272
          refine loadNX [(.int .i64 a262_0), (.int .i64 a262_1), (h266).v, (h267).v] rfl c259 ?_; clear c259
          refine loadNX [(.int .i64 a276_0), (.int .i64 a276_1), (h280).v, (h281).v] rfl c273 ?_; clear c273
          obtain ⟨y284, e, hF285⟩ := bindS hF277; clear hF277
          have ey284 := e; clear e
          refine callFx (laws_eqEdge_c a262_0 a262_1 a262_2 h266 a262_3 h267 a276_0 a276_1 a276_2 h280 a276_3 h281 y284 ey284) H ⟨Vw.sh 3 rfl, Vw.sh 2 rfl, Vw.sh 1 rfl, Vw.sh 0 rfl, trivial⟩ ?_; clear H ey284
          rintro _ _ w286 ⟨rfl, rfl⟩ hx (H : Cx w0 fp0 S0 w286 [Es (List Int) a276_3 h281, Es (List Int) a276_2 h280, Es (List Int) a262_3 h267, Es (List Int) a262_2 h266, Es (List (Int × Int × List Int × List Int)) a_ a_h, Es (List (Int × Int × List Int × List Int)) b_ b_h])
          replace hX := hX.trans0 hx; clear hx
          refine hold hX ?_
          obtain ⟨a287, e, hF288⟩ := bindS hF285; clear hF285
          refine boolO e ?_; clear e
          cases a287
          · have hF289 := condF hF288; clear hF288
            obtain ⟨a290, e, hF291⟩ := bindS hF289; clear hF289
            refine arO e ?_; clear e
            have hs := Option.some.inj hF291; subst hs; clear hF291
            exact ⟨a290, (), rfl, ⟨rfl, rfl, rfl, trivial⟩, H.sel [4, 5] rfl⟩
          · have hF292 := condT hF288; clear hF288
            have hs := Option.some.inj hF292; subst hs; clear hF292
            have hF293 : some _ = some _ := congrArg some (hrt _ rfl).symm
            have hs := Option.some.inj hF293; subst hs; clear hF293
            have hF294 : some _ = some _ := hF150; clear hF150
            cases hF294
            exact ⟨_, _, rfl, ⟨rfl, rfl⟩, (H.sel [] rfl).close trivial⟩
    · clear hF151 H
      rintro T296 _ w295 ⟨hr, (H : Cx w0 fp0 S0 w295 [])⟩
      subst hr
      cases hF150
      exact ⟨_, _, rfl, ⟨rfl, rfl⟩, (H.sel [] rfl).close trivial⟩
  · have hF297 := condT hF4; clear hF4
    cases hF297
    exact ⟨_, _, rfl, ⟨rfl, rfl⟩, (H.sel [] rfl).close trivial⟩

theorem laws_eqGraph_c (a__0 : Int) (a__1 : List (Int × Int × List Int × List Int)) (a__1h : Hd) (a__2 : List Int) (a__2h : Hd) (a__3 : List Int) (a__3h : Hd) (b__0 : Int) (b__1 : List (Int × Int × List Int × List Int)) (b__1h : Hd) (b__2 : List Int) (b__2h : Hd) (b__3 : List Int) (b__3h : Hd) (y : Bool) (hF : F_laws_eqGraph (a__0, a__1, a__2, a__3) (b__0, b__1, b__2, b__3) = some y) :
    ConF Try.prog 14 #[(.agg #[(.int .i64 a__0), (a__1h).v, (a__2h).v, (a__3h).v]), (.agg #[(.int .i64 b__0), (b__1h).v, (b__2h).v, (b__3h).v])] [Es (List (Int × Int × List Int × List Int)) a__1 a__1h, Es (List Int) a__2 a__2h, Es (List Int) a__3 a__3h, Es (List (Int × Int × List Int × List Int)) b__1 b__1h, Es (List Int) b__2 b__2h, Es (List Int) b__3 b__3h] [] (fun v Γ' => v = (.bool y) ∧ Γ' = []) := by
  intro w0 S0 fp0 hI hS
  have H : Cx w0 fp0 S0 w0 [Es (List (Int × Int × List Int × List Int)) a__1 a__1h, Es (List Int) a__2 a__2h, Es (List Int) a__3 a__3h, Es (List (Int × Int × List Int × List Int)) b__1 b__1h, Es (List Int) b__2 b__2h, Es (List Int) b__3 b__3h] := Cx.start hI hS
  clear hI hS
  refine enterC (args := [_, _]) gok Try.func14 rfl _ rfl rfl rfl ?_
  refine box_ H ?_; clear H; intro b8 w7 hx H
  clear hx
  replace H : Cx w0 fp0 S0 w7 [Bx b8 [(.int .i64 a__0), (a__1h).v, (a__2h).v, (a__3h).v], Es (List (Int × Int × List Int × List Int)) a__1 a__1h, Es (List Int) a__2 a__2h, Es (List Int) a__3 a__3h, Es (List (Int × Int × List Int × List Int)) b__1 b__1h, Es (List Int) b__2 b__2h, Es (List Int) b__3 b__3h] := H
  refine box_ H ?_; clear H; intro b11 w10 hx H
  clear hx
  replace H : Cx w0 fp0 S0 w10 [Bx b11 [(.int .i64 b__0), (b__1h).v, (b__2h).v, (b__3h).v], Bx b8 [(.int .i64 a__0), (a__1h).v, (a__2h).v, (a__3h).v], Es (List (Int × Int × List Int × List Int)) a__1 a__1h, Es (List Int) a__2 a__2h, Es (List Int) a__3 a__3h, Es (List (Int × Int × List Int × List Int)) b__1 b__1h, Es (List Int) b__2 b__2h, Es (List Int) b__3 b__3h] := H
  refine sq ?_
  refine fld gok rfl rfl rfl rfl ?_
  refine load1 (H.bx 1 rfl (j := 0) rfl) ?_
  refine fld gok rfl rfl rfl rfl ?_
  refine load1 (H.bx 0 rfl (j := 0) rfl) ?_
  obtain ⟨a13, e, hF14⟩ := bindS hF; clear hF
  refine boolO e ?_; clear e
  cases a13
  · have hF15 := condF hF14; clear hF14
    refine sq ?_
    refine fld gok rfl rfl rfl rfl ?_
    refine load1 (H.bx 1 rfl (j := 1) rfl) ?_
    refine fld gok rfl rfl rfl rfl ?_
    refine load1 (H.bx 0 rfl (j := 1) rfl) ?_
    obtain ⟨y16, e, hF17⟩ := bindS hF15; clear hF15
    have ey16 := e; clear e
    refine callF (laws_eqEdgeS_c a__1 a__1h b__1 b__1h y16 ey16) (Γi := []) H ⟨Vw.sh 2 rfl, Vw.sh 5 rfl, trivial⟩ ?_; clear H ey16
    rintro _ _ w18 ⟨rfl, rfl⟩ (H : Cx w0 fp0 S0 w18 [Bx b11 [(.int .i64 b__0), (b__1h).v, (b__2h).v, (b__3h).v], Bx b8 [(.int .i64 a__0), (a__1h).v, (a__2h).v, (a__3h).v], Es (List (Int × Int × List Int × List Int)) a__1 a__1h, Es (List Int) a__2 a__2h, Es (List Int) a__3 a__3h, Es (List (Int × Int × List Int × List Int)) b__1 b__1h, Es (List Int) b__2 b__2h, Es (List Int) b__3 b__3h])
    obtain ⟨a19, e, hF20⟩ := bindS hF17; clear hF17
    refine boolO e ?_; clear e
    cases a19
    · have hF21 := condF hF20; clear hF20
      refine sq ?_
      refine fld gok rfl rfl rfl rfl ?_
      refine load1 (H.bx 1 rfl (j := 2) rfl) ?_
      refine fld gok rfl rfl rfl rfl ?_
      refine load1 (H.bx 0 rfl (j := 2) rfl) ?_
      obtain ⟨y22, e, hF23⟩ := bindS hF21; clear hF21
      have ey22 := e; clear e
      refine callF (laws_eqIntS_c a__2 a__2h b__2 b__2h y22 ey22) (Γi := []) H ⟨Vw.sh 3 rfl, Vw.sh 6 rfl, trivial⟩ ?_; clear H ey22
      rintro _ _ w24 ⟨rfl, rfl⟩ (H : Cx w0 fp0 S0 w24 [Bx b11 [(.int .i64 b__0), (b__1h).v, (b__2h).v, (b__3h).v], Bx b8 [(.int .i64 a__0), (a__1h).v, (a__2h).v, (a__3h).v], Es (List (Int × Int × List Int × List Int)) a__1 a__1h, Es (List Int) a__2 a__2h, Es (List Int) a__3 a__3h, Es (List (Int × Int × List Int × List Int)) b__1 b__1h, Es (List Int) b__2 b__2h, Es (List Int) b__3 b__3h])
      obtain ⟨a25, e, hF26⟩ := bindS hF23; clear hF23
      refine boolO e ?_; clear e
      cases a25
      · have hF27 := condF hF26; clear hF26
        refine sq ?_
        refine fld gok rfl rfl rfl rfl ?_
        refine load1 (H.bx 1 rfl (j := 3) rfl) ?_
        refine fld gok rfl rfl rfl rfl ?_
        refine load1 (H.bx 0 rfl (j := 3) rfl) ?_
        obtain ⟨y28, e, hF29⟩ := bindS hF27; clear hF27
        have ey28 := e; clear e
        refine callF (laws_eqIntS_c a__3 a__3h b__3 b__3h y28 ey28) (Γi := []) H ⟨Vw.sh 4 rfl, Vw.sh 7 rfl, trivial⟩ ?_; clear H ey28
        rintro _ _ w30 ⟨rfl, rfl⟩ (H : Cx w0 fp0 S0 w30 [Bx b11 [(.int .i64 b__0), (b__1h).v, (b__2h).v, (b__3h).v], Bx b8 [(.int .i64 a__0), (a__1h).v, (a__2h).v, (a__3h).v], Es (List (Int × Int × List Int × List Int)) a__1 a__1h, Es (List Int) a__2 a__2h, Es (List Int) a__3 a__3h, Es (List (Int × Int × List Int × List Int)) b__1 b__1h, Es (List Int) b__2 b__2h, Es (List Int) b__3 b__3h])
        obtain ⟨a31, e, hF32⟩ := bindS hF29; clear hF29
        refine boolO e ?_; clear e
        cases a31
        · have hF33 := condF hF32; clear hF32
          cases hF33
          exact ⟨_, _, rfl, ⟨rfl, rfl⟩, (H.sel [] rfl).close trivial⟩
        · have hF34 := condT hF32; clear hF32
          cases hF34
          exact ⟨_, _, rfl, ⟨rfl, rfl⟩, (H.sel [] rfl).close trivial⟩
      · have hF35 := condT hF26; clear hF26
        cases hF35
        exact ⟨_, _, rfl, ⟨rfl, rfl⟩, (H.sel [] rfl).close trivial⟩
    · have hF36 := condT hF20; clear hF20
      cases hF36
      exact ⟨_, _, rfl, ⟨rfl, rfl⟩, (H.sel [] rfl).close trivial⟩
  · have hF37 := condT hF14; clear hF14
    cases hF37
    exact ⟨_, _, rfl, ⟨rfl, rfl⟩, (H.sel [] rfl).close trivial⟩

theorem laws_markIntS_c (a_ : List Int) (a_h : Hd) (k_ : Int) (y0 : List Int) (y1 : Int) (hF : F_laws_markIntS a_ k_ = some (y0, y1)) :
    ConF Try.prog 21 #[(a_h).v, (.int .i64 k_)] [] [E (List Int) a_ a_h] (fun v Γ' => v = (.int .i64 y1) ∧ Γ' = [E (List Int) y0 a_h]) := by
  intro w0 S0 fp0 hI hS
  have H : Cx w0 fp0 S0 w0 [E (List Int) a_ a_h] := Cx.start hI hS
  clear hI hS
  refine enterC (args := [_, _]) gok Try.func21 rfl _ rfl rfl rfl ?_
  obtain ⟨r69, hF71, hF70⟩ := bindS hF; clear hF
  refine cut (fun (q72 : List Int × Int) => [(1, (.int .i64 q72.2))]) (fun (q72 : List Int × Int) w' => (q72.1, q72.2) = r69 ∧ Cx w0 fp0 S0 w' [E (List Int) q72.1 a_h]) ?_ ?_
  · skip
    refine loopW _ (fun (s111 : List Int × Int × Int) (_ : Unit) => [(0, (a_h).v), (1, (.int .i64 s111.2.1)), (5, (.int .i64 s111.2.2))]) (fun (s111 : List Int × Int × Int) (_ : Unit) w' => Cx w0 fp0 S0 w' [E (List Int) s111.1 a_h]) (a_, k_, 0) () hF71 ⟨rfl, rfl, rfl, trivial⟩ (H.sel [0] rfl) ?_
    · clear H
      rintro T117 ⟨s111_0, s111_1, s111_2⟩ _ w116 o118 (H : Cx w0 fp0 S0 w116 [E (List Int) s111_0 a_h]) hrt hF119
      refine sq ?_
      refine lenE (H.ro (α := List Int) 0 rfl).len ?_
      obtain ⟨a120, e, hF121⟩ := bindS hF119; clear hF119
      refine boolO e ?_; clear e
      cases a120
      · have hF122 := condF hF121; clear hF121
        have hs := Option.some.inj hF122; subst hs; clear hF122
        have hF123 : some _ = some _ := congrArg some (hrt _ rfl).symm
        exact ⟨(s111_0, s111_1), ⟨rfl, trivial⟩, Option.some.inj hF123, H.sel [0] rfl⟩
      · have hF124 := condT hF121; clear hF121
        refine sq ?_
        obtain ⟨a131, e, hF132⟩ := bindS hF124; clear hF124
        have ea131 := e; clear e
        obtain ⟨p129, m130, c125, c126, c127⟩ := (H.ro (α := List Int) 0 rfl).setp ea131
        refine idxE c125 c126 c127 ?_
        refine setS (α := Int) H c125 c126 ea131 ?_; clear H c125 c126 c127 ea131; intro w133 H
        obtain ⟨a134, e, hF135⟩ := bindS hF132; clear hF132
        refine arO e ?_; clear e
        obtain ⟨a136, e, hF137⟩ := bindS hF135; clear hF135
        refine arO e ?_; clear e
        have hs := Option.some.inj hF137; subst hs; clear hF137
        exact ⟨(a131, a134, a136), (), rfl, ⟨rfl, rfl, rfl, trivial⟩, H.sel [0] rfl⟩
  · clear hF71 H
    rintro T139 ⟨s67_0, s67_1⟩ w138 ⟨hr, (H : Cx w0 fp0 S0 w138 [E (List Int) s67_0 a_h])⟩
    subst hr
    cases hF70
    exact ⟨_, _, rfl, ⟨rfl, rfl⟩, (H.sel [0] rfl).close ⟨cloE, trivial⟩⟩

theorem laws_markEdgeS_c (a_ : List (Int × Int × List Int × List Int)) (a_h : Hd) (k_ : Int) (y0 : List (Int × Int × List Int × List Int)) (y1 : Int) (hF : F_laws_markEdgeS a_ k_ = some (y0, y1)) :
    ConF Try.prog 48 #[(a_h).v, (.int .i64 k_)] [] [E (List (Int × Int × List Int × List Int)) a_ a_h] (fun v Γ' => v = (.int .i64 y1) ∧ Γ' = [E (List (Int × Int × List Int × List Int)) y0 a_h]) := by
  intro w0 S0 fp0 hI hS
  have H : Cx w0 fp0 S0 w0 [E (List (Int × Int × List Int × List Int)) a_ a_h] := Cx.start hI hS
  clear hI hS
  refine enterC (args := [_, _]) gok Try.func48 rfl _ rfl rfl rfl ?_
  obtain ⟨r372, hF374, hF373⟩ := bindS hF; clear hF
  refine cut (fun (q375 : (List (Int × Int × List Int × List Int)) × Int) => [(1, (.int .i64 q375.2))]) (fun (q375 : (List (Int × Int × List Int × List Int)) × Int) w' => (q375.1, q375.2) = r372 ∧ Cx w0 fp0 S0 w' [E (List (Int × Int × List Int × List Int)) q375.1 a_h]) ?_ ?_
  · skip
    refine loopW _ (fun (s616 : (List (Int × Int × List Int × List Int)) × Int × Int) (_ : Unit) => [(0, (a_h).v), (1, (.int .i64 s616.2.1)), (5, (.int .i64 s616.2.2))]) (fun (s616 : (List (Int × Int × List Int × List Int)) × Int × Int) (_ : Unit) w' => Cx w0 fp0 S0 w' [E (List (Int × Int × List Int × List Int)) s616.1 a_h]) (a_, k_, 0) () hF374 ⟨rfl, rfl, rfl, trivial⟩ (H.sel [0] rfl) ?_
    · clear H
      rintro T622 ⟨s616_0, s616_1, s616_2⟩ _ w621 o623 (H : Cx w0 fp0 S0 w621 [E (List (Int × Int × List Int × List Int)) s616_0 a_h]) hrt hF624
      refine sq ?_
      refine lenE (H.ro (α := List (Int × Int × List Int × List Int)) 0 rfl).len ?_
      obtain ⟨a625, e, hF626⟩ := bindS hF624; clear hF624
      refine boolO e ?_; clear e
      cases a625
      · have hF627 := condF hF626; clear hF626
        have hs := Option.some.inj hF627; subst hs; clear hF627
        have hF628 : some _ = some _ := congrArg some (hrt _ rfl).symm
        exact ⟨(s616_0, s616_1), ⟨rfl, trivial⟩, Option.some.inj hF628, H.sel [0] rfl⟩
      · have hF629 := condT hF626; clear hF626
        refine sq ?_
        obtain ⟨a636, e, hF637⟩ := bindS hF629; clear hF629
        replace H := H.toEH (α := Int × Int × List Int × List Int)
        have HH := H; clear H; obtain ⟨p634, m635, g638, c630, c631, c632, c633, H⟩ := HH.peek e; clear HH
        clear e
        obtain ⟨a636_0, a636_1, a636_2, a636_3⟩ := a636
        obtain ⟨_, _, h639, h640⟩ := g638
        refine idxE c630 c631 c632 ?_
        refine fld gok rfl rfl rfl rfl ?_
        replace H := H.takeK 0 rfl
        replace H := H.sel [1, 0] rfl
        refine stX (α := Int × Int × List Int × List Int) (j := 0) H c630 rfl rfl ?_; clear H; intro w642 H
        replace H := H.sel [1, 0] rfl
        replace H := H.split
        replace H := H.sel [1, 2] rfl
        replace H := H.split
        replace H := H.sel [1, 2] rfl
        replace H := H.split
        replace H := H.join (α := List Int) (β := List Int)
        replace H := H.sc (α := Int) a636_1
        replace H := H.join (α := Int) (β := List Int × List Int)
        replace H := H.sc (α := Int) s616_1
        replace H := H.join (α := Int) (β := Int × List Int × List Int)
        obtain ⟨a654, e, hF655⟩ := bindS hF637; clear hF637
        replace H := H.put c631 e; clear e
        obtain ⟨a656, e, hF657⟩ := bindS hF655; clear hF655
        refine arO e ?_; clear e
        obtain ⟨a664, e, hF665⟩ := bindS hF657; clear hF657
        replace H := H.toEH (α := Int × Int × List Int × List Int)
        have HH := H; clear H; obtain ⟨p662, m663, g666, c658, c659, c660, c661, H⟩ := HH.peek e; clear HH
        clear e
        obtain ⟨a664_0, a664_1, a664_2, a664_3⟩ := a664
        obtain ⟨_, _, h667, h668⟩ := g666
        refine idxE c658 c659 c660 ?_
        refine fld gok rfl rfl rfl rfl ?_
        replace H := H.takeK 0 rfl
        replace H := H.sel [1, 0] rfl
        refine stX (α := Int × Int × List Int × List Int) (j := 1) H c658 rfl rfl ?_; clear H; intro w670 H
        replace H := H.sel [1, 0] rfl
        replace H := H.split
        replace H := H.sel [1, 2] rfl
        replace H := H.split
        replace H := H.sel [1, 2] rfl
        replace H := H.split
        replace H := H.join (α := List Int) (β := List Int)
        replace H := H.sc (α := Int) a656
        replace H := H.join (α := Int) (β := List Int × List Int)
        replace H := H.sc (α := Int) a664_0
        replace H := H.join (α := Int) (β := Int × List Int × List Int)
        obtain ⟨a682, e, hF683⟩ := bindS hF665; clear hF665
        replace H := H.put c659 e; clear e
        obtain ⟨a684, e, hF685⟩ := bindS hF683; clear hF683
        refine arO e ?_; clear e
        obtain ⟨a692, e, hF693⟩ := bindS hF685; clear hF685
        replace H := H.toEH (α := Int × Int × List Int × List Int)
        have HH := H; clear H; obtain ⟨p690, m691, g694, c686, c687, c688, c689, H⟩ := HH.peek e; clear HH
        clear e
        obtain ⟨a692_0, a692_1, a692_2, a692_3⟩ := a692
        obtain ⟨_, _, h695, h696⟩ := g694
        refine idxE c686 c687 c688 ?_
        refine fld gok rfl rfl rfl rfl ?_
        refine load1 (c689 2 _ rfl) ?_
        obtain ⟨y697, e, hF698⟩ := bindS hF693; clear hF693
        obtain ⟨y697_0, y697_1⟩ := y697
        have ey697 := e; clear e
        replace H := H.takeK 0 rfl
        replace H := H.split
        replace H := H.sel [1, 2] rfl
        replace H := H.split
        replace H := H.sel [1, 2] rfl
        replace H := H.split
        refine callF (laws_markIntS_c a692_2 h695 a684 y697_0 y697_1 ey697) (Γi := [E (List Int) a692_2 h695]) H trivial ?_; clear H ey697
        rintro _ _ w706 ⟨rfl, rfl⟩ (H : Cx w0 fp0 S0 w706 [E (List Int) y697_0 h695, E (List Int) a692_3 h696, EX (Int × Int × List Int × List Int) m691 [(.int .i64 a692_0), (.int .i64 a692_1), (h695).v, (h696).v] a682 a_h])
        replace H := H.join (α := List Int) (β := List Int)
        replace H := H.sc (α := Int) a692_1
        replace H := H.join (α := Int) (β := List Int × List Int)
        replace H := H.sc (α := Int) a692_0
        replace H := H.join (α := Int) (β := Int × List Int × List Int)
        obtain ⟨a712, e, hF713⟩ := bindS hF698; clear hF698
        replace H := H.put c687 e; clear e
        obtain ⟨a720, e, hF721⟩ := bindS hF713; clear hF713
        replace H := H.toEH (α := Int × Int × List Int × List Int)
        have HH := H; clear H; obtain ⟨p718, m719, g722, c714, c715, c716, c717, H⟩ := HH.peek e; clear HH
        clear e
        obtain ⟨a720_0, a720_1, a720_2, a720_3⟩ := a720
        obtain ⟨_, _, h723, h724⟩ := g722
        refine idxE c714 c715 c716 ?_
        refine fld gok rfl rfl rfl rfl ?_
        refine load1 (c717 3 _ rfl) ?_
        obtain ⟨y725, e, hF726⟩ := bindS hF721; clear hF721
        obtain ⟨y725_0, y725_1⟩ := y725
        have ey725 := e; clear e
        replace H := H.takeK 0 rfl
        replace H := H.split
        replace H := H.sel [1, 2] rfl
        replace H := H.split
        replace H := H.sel [1, 2] rfl
        replace H := H.split
        replace H := H.sel [1, 0, 2] rfl
        refine callF (laws_markIntS_c a720_3 h724 y697_1 y725_0 y725_1 ey725) (Γi := [E (List Int) a720_3 h724]) H trivial ?_; clear H ey725
        rintro _ _ w734 ⟨rfl, rfl⟩ (H : Cx w0 fp0 S0 w734 [E (List Int) y725_0 h724, E (List Int) a720_2 h723, EX (Int × Int × List Int × List Int) m719 [(.int .i64 a720_0), (.int .i64 a720_1), (h723).v, (h724).v] a712 a_h])
        replace H := H.sel [1, 0, 2] rfl
        replace H := H.join (α := List Int) (β := List Int)
        replace H := H.sc (α := Int) a720_1
        replace H := H.join (α := Int) (β := List Int × List Int)
        replace H := H.sc (α := Int) a720_0
        replace H := H.join (α := Int) (β := Int × List Int × List Int)
        obtain ⟨a740, e, hF741⟩ := bindS hF726; clear hF726
        replace H := H.put c715 e; clear e
        obtain ⟨a742, e, hF743⟩ := bindS hF741; clear hF741
        refine arO e ?_; clear e
        have hs := Option.some.inj hF743; subst hs; clear hF743
        exact ⟨(a740, y725_1, a742), (), rfl, ⟨rfl, rfl, rfl, trivial⟩, H.sel [0] rfl⟩
  · clear hF374 H
    rintro T745 ⟨s370_0, s370_1⟩ w744 ⟨hr, (H : Cx w0 fp0 S0 w744 [E (List (Int × Int × List Int × List Int)) s370_0 a_h])⟩
    subst hr
    cases hF373
    exact ⟨_, _, rfl, ⟨rfl, rfl⟩, (H.sel [0] rfl).close ⟨cloE, trivial⟩⟩

theorem laws_markGraph_c (a__0 : Int) (a__1 : List (Int × Int × List Int × List Int)) (a__1h : Hd) (a__2 : List Int) (a__2h : Hd) (a__3 : List Int) (a__3h : Hd) (k_ : Int) (y0_0 : Int) (y0_1 : List (Int × Int × List Int × List Int)) (y0_2 : List Int) (y0_3 : List Int) (y1 : Int) (hF : F_laws_markGraph (a__0, a__1, a__2, a__3) k_ = some ((y0_0, y0_1, y0_2, y0_3), y1)) :
    ConF Try.prog 15 #[(.agg #[(.int .i64 a__0), (a__1h).v, (a__2h).v, (a__3h).v]), (.int .i64 k_)] [] [E (List (Int × Int × List Int × List Int)) a__1 a__1h, E (List Int) a__2 a__2h, E (List Int) a__3 a__3h] (fun v Γ' => v = (.int .i64 y1) ∧ Γ' = [E (List (Int × Int × List Int × List Int)) y0_1 a__1h, E (List Int) y0_2 a__2h, E (List Int) y0_3 a__3h]) := by
  intro w0 S0 fp0 hI hS
  have H : Cx w0 fp0 S0 w0 [E (List (Int × Int × List Int × List Int)) a__1 a__1h, E (List Int) a__2 a__2h, E (List Int) a__3 a__3h] := Cx.start hI hS
  clear hI hS
  refine enterC (args := [_, _]) gok Try.func15 rfl _ rfl rfl rfl ?_
  refine box_ H ?_; clear H; intro b5 w4 hx H
  clear hx
  replace H : Cx w0 fp0 S0 w4 [Bx b5 [(.int .i64 a__0), (a__1h).v, (a__2h).v, (a__3h).v], E (List (Int × Int × List Int × List Int)) a__1 a__1h, E (List Int) a__2 a__2h, E (List Int) a__3 a__3h] := H
  refine fld gok rfl rfl rfl rfl ?_
  refine load1 (H.bx 0 rfl (j := 1) rfl) ?_
  obtain ⟨y7, e, hF8⟩ := bindS hF; clear hF
  obtain ⟨y7_0, y7_1⟩ := y7
  have ey7 := e; clear e
  replace H := H.sel [1, 0, 2, 3] rfl
  refine callF (laws_markEdgeS_c a__1 a__1h k_ y7_0 y7_1 ey7) (Γi := [E (List (Int × Int × List Int × List Int)) a__1 a__1h]) H trivial ?_; clear H ey7
  rintro _ _ w9 ⟨rfl, rfl⟩ (H : Cx w0 fp0 S0 w9 [E (List (Int × Int × List Int × List Int)) y7_0 a__1h, Bx b5 [(.int .i64 a__0), (a__1h).v, (a__2h).v, (a__3h).v], E (List Int) a__2 a__2h, E (List Int) a__3 a__3h])
  refine fld gok rfl rfl rfl rfl ?_
  refine load1 (H.bx 1 rfl (j := 2) rfl) ?_
  obtain ⟨y10, e, hF11⟩ := bindS hF8; clear hF8
  obtain ⟨y10_0, y10_1⟩ := y10
  have ey10 := e; clear e
  replace H := H.sel [2, 0, 1, 3] rfl
  refine callF (laws_markIntS_c a__2 a__2h y7_1 y10_0 y10_1 ey10) (Γi := [E (List Int) a__2 a__2h]) H trivial ?_; clear H ey10
  rintro _ _ w12 ⟨rfl, rfl⟩ (H : Cx w0 fp0 S0 w12 [E (List Int) y10_0 a__2h, E (List (Int × Int × List Int × List Int)) y7_0 a__1h, Bx b5 [(.int .i64 a__0), (a__1h).v, (a__2h).v, (a__3h).v], E (List Int) a__3 a__3h])
  refine fld gok rfl rfl rfl rfl ?_
  refine load1 (H.bx 2 rfl (j := 3) rfl) ?_
  obtain ⟨y13, e, hF14⟩ := bindS hF11; clear hF11
  obtain ⟨y13_0, y13_1⟩ := y13
  have ey13 := e; clear e
  replace H := H.sel [3, 0, 1, 2] rfl
  refine callF (laws_markIntS_c a__3 a__3h y10_1 y13_0 y13_1 ey13) (Γi := [E (List Int) a__3 a__3h]) H trivial ?_; clear H ey13
  rintro _ _ w15 ⟨rfl, rfl⟩ (H : Cx w0 fp0 S0 w15 [E (List Int) y13_0 a__3h, E (List Int) y10_0 a__2h, E (List (Int × Int × List Int × List Int)) y7_0 a__1h, Bx b5 [(.int .i64 a__0), (a__1h).v, (a__2h).v, (a__3h).v]])
  cases hF14
  exact ⟨_, _, rfl, ⟨rfl, rfl⟩, (H.sel [2, 1, 0] rfl).close ⟨cloE, cloE, cloE, trivial⟩⟩

theorem laws_heldIntS_c (a_ : List Int) (a_h : Hd) (k_ : Int) (y : Int) (hF : F_laws_heldIntS a_ k_ = some y) :
    ConF Try.prog 22 #[(a_h).v, (.int .i64 k_)] [Es (List Int) a_ a_h] [] (fun v Γ' => v = (.int .i64 y) ∧ Γ' = []) := by
  intro w0 S0 fp0 hI hS
  have H : Cx w0 fp0 S0 w0 [Es (List Int) a_ a_h] := Cx.start hI hS
  clear hI hS
  refine enterC (args := [_, _]) gok Try.func22 rfl _ rfl rfl rfl ?_
  obtain ⟨r79, hF81, hF80⟩ := bindS hF; clear hF
  refine cut (fun (q82 : Int) => [(1, (.int .i64 q82))]) (fun (q82 : Int) w' => .inl q82 = r79 ∧ Cx w0 fp0 S0 w' []) ?_ ?_
  · skip
    refine loopW _ (fun (s127 : Int × Int) (_ : Unit) => [(0, (a_h).v), (1, (.int .i64 s127.1)), (5, (.int .i64 s127.2))]) (fun (s127 : Int × Int) (_ : Unit) w' => Cx w0 fp0 S0 w' [Es (List Int) a_ a_h]) (k_, 0) () hF81 ⟨rfl, rfl, rfl, trivial⟩ (H.sel [0] rfl) ?_
    · clear H
      rintro T133 ⟨s127_0, s127_1⟩ _ w132 o134 (H : Cx w0 fp0 S0 w132 [Es (List Int) a_ a_h]) hrt hF135
      refine sq ?_
      refine lenE (H.rs (α := List Int) 0 rfl).len ?_
      obtain ⟨a136, e, hF137⟩ := bindS hF135; clear hF135
      refine boolO e ?_; clear e
      cases a136
      · have hF138 := condF hF137; clear hF137
        have hs := Option.some.inj hF138; subst hs; clear hF138
        have hF139 : some _ = some _ := congrArg some (hrt _ rfl).symm
        exact ⟨s127_0, ⟨rfl, trivial⟩, Option.some.inj hF139, H.sel [] rfl⟩
      · have hF140 := condT hF137; clear hF137
        refine sq ?_
        refine sq ?_
        obtain ⟨a147, e, hF148⟩ := bindS hF140; clear hF140
        obtain ⟨p145, m146, c141, c142, c143, c144⟩ := (H.rs (α := List Int) 0 rfl).at1 e; clear e
        refine idxE c141 c142 c143 ?_; clear c141 c142 c143
        refine load1 c144 ?_; clear c144
        obtain ⟨a149, e, hF150⟩ := bindS hF148; clear hF148
        refine boolO e ?_; clear e
        cases a149
        · have hF151 := condF hF150; clear hF150
          obtain ⟨a152, e, hF153⟩ := bindS hF151; clear hF151
          refine arO e ?_; clear e
          obtain ⟨a154, e, hF155⟩ := bindS hF153; clear hF153
          refine arO e ?_; clear e
          have hs := Option.some.inj hF155; subst hs; clear hF155
          exact ⟨(a152, a154), (), rfl, ⟨rfl, rfl, rfl, trivial⟩, H.sel [0] rfl⟩
        · have hF156 := condT hF150; clear hF150
          have hs := Option.some.inj hF156; subst hs; clear hF156
          have hF157 : some _ = some _ := congrArg some (hrt _ rfl).symm
          have hs := Option.some.inj hF157; subst hs; clear hF157
          have hF158 : some _ = some _ := hF80; clear hF80
          cases hF158
          exact ⟨_, _, rfl, ⟨rfl, rfl⟩, (H.sel [] rfl).close trivial⟩
  · clear hF81 H
    rintro T160 s77 w159 ⟨hr, (H : Cx w0 fp0 S0 w159 [])⟩
    subst hr
    cases hF80
    exact ⟨_, _, rfl, ⟨rfl, rfl⟩, (H.sel [] rfl).close trivial⟩

theorem laws_heldEdgeS_c (a_ : List (Int × Int × List Int × List Int)) (a_h : Hd) (k_ : Int) (y : Int) (hF : F_laws_heldEdgeS a_ k_ = some y) :
    ConF Try.prog 59 #[(a_h).v, (.int .i64 k_)] [Es (List (Int × Int × List Int × List Int)) a_ a_h] [] (fun v Γ' => v = (.int .i64 y) ∧ Γ' = []) := by
  intro w0 S0 fp0 hI hS
  have H : Cx w0 fp0 S0 w0 [Es (List (Int × Int × List Int × List Int)) a_ a_h] := Cx.start hI hS
  clear hI hS
  refine enterC (args := [_, _]) gok Try.func59 rfl _ rfl rfl rfl ?_
  obtain ⟨r286, hF288, hF287⟩ := bindS hF; clear hF
  refine cut (fun (q289 : Int) => [(1, (.int .i64 q289))]) (fun (q289 : Int) w' => .inl q289 = r286 ∧ Cx w0 fp0 S0 w' []) ?_ ?_
  · skip
    refine loopW _ (fun (s470 : Int × Int) (_ : Unit) => [(0, (a_h).v), (1, (.int .i64 s470.1)), (5, (.int .i64 s470.2))]) (fun (s470 : Int × Int) (_ : Unit) w' => Cx w0 fp0 S0 w' [Es (List (Int × Int × List Int × List Int)) a_ a_h]) (k_, 0) () hF288 ⟨rfl, rfl, rfl, trivial⟩ (H.sel [0] rfl) ?_
    · clear H
      rintro T476 ⟨s470_0, s470_1⟩ _ w475 o477 (H : Cx w0 fp0 S0 w475 [Es (List (Int × Int × List Int × List Int)) a_ a_h]) hrt hF478
      refine sq ?_
      refine lenE (H.rs (α := List (Int × Int × List Int × List Int)) 0 rfl).len ?_
      obtain ⟨a479, e, hF480⟩ := bindS hF478; clear hF478
      refine boolO e ?_; clear e
      cases a479
      · have hF481 := condF hF480; clear hF480
        have hs := Option.some.inj hF481; subst hs; clear hF481
        have hF482 : some _ = some _ := congrArg some (hrt _ rfl).symm
        exact ⟨s470_0, ⟨rfl, trivial⟩, Option.some.inj hF482, H.sel [] rfl⟩
      · have hF483 := condT hF480; clear hF480
        refine sq ?_
        refine sq ?_
        obtain ⟨a490, e, hF491⟩ := bindS hF483; clear hF483
        have HH := H; clear H; obtain ⟨p488, m489, g492, c484, c485, c486, c487, H⟩ := HH.el (α := Int × Int × List Int × List Int) 0 rfl e; clear HH
        clear e
        obtain ⟨a490_0, a490_1, a490_2, a490_3⟩ := a490
        obtain ⟨_, _, h494, h495⟩ := g492
        replace H := H.part (β := List Int) a490_2 (h494 : Hd) 0 rfl (fun S h => (And.left (And.right (And.right h))))
        replace H := H.part (β := List Int) a490_3 (h495 : Hd) 1 rfl (fun S h => (And.right (And.right (And.right h))))
        replace H := H.sel [0, 1, 3] rfl
        refine idxE c484 c485 c486 ?_; clear c484 c485 c486
        refine fld gok rfl rfl rfl rfl ?_
        refine load1 (c487 0 _ rfl) ?_
        obtain ⟨a498, e, hF499⟩ := bindS hF491; clear hF491
        refine boolO e ?_; clear e
        cases a498
        · have hF500 := condF hF499; clear hF499
          obtain ⟨a501, e, hF502⟩ := bindS hF500; clear hF500
          refine arO e ?_; clear e
          refine sq ?_
          obtain ⟨a509, e, hF510⟩ := bindS hF502; clear hF502
          have HH := H; clear H; obtain ⟨p507, m508, g511, c503, c504, c505, c506, H⟩ := HH.el (α := Int × Int × List Int × List Int) 2 rfl e; clear HH
          clear e
          obtain ⟨a509_0, a509_1, a509_2, a509_3⟩ := a509
          obtain ⟨_, _, h513, h514⟩ := g511
          replace H := H.part (β := List Int) a509_2 (h513 : Hd) 0 rfl (fun S h => (And.left (And.right (And.right h))))
          replace H := H.part (β := List Int) a509_3 (h514 : Hd) 1 rfl (fun S h => (And.right (And.right (And.right h))))
          replace H := H.sel [0, 1, 3, 4, 5] rfl
          refine idxE c503 c504 c505 ?_; clear c503 c504 c505
          refine fld gok rfl rfl rfl rfl ?_
          refine load1 (c506 1 _ rfl) ?_
          obtain ⟨a517, e, hF518⟩ := bindS hF510; clear hF510
          refine boolO e ?_; clear e
          cases a517
          · have hF519 := condF hF518; clear hF518
            obtain ⟨a520, e, hF521⟩ := bindS hF519; clear hF519
            refine arO e ?_; clear e
            obtain ⟨a528, e, hF529⟩ := bindS hF521; clear hF521
            have HH := H; clear H; obtain ⟨p526, m527, g530, c522, c523, c524, c525, H⟩ := HH.el (α := Int × Int × List Int × List Int) 4 rfl e; clear HH
            clear e
            obtain ⟨a528_0, a528_1, a528_2, a528_3⟩ := a528
            obtain ⟨_, _, h532, h533⟩ := g530
            replace H := H.part (β := List Int) a528_2 (h532 : Hd) 0 rfl (fun S h => (And.left (And.right (And.right h))))
            replace H := H.part (β := List Int) a528_3 (h533 : Hd) 1 rfl (fun S h => (And.right (And.right (And.right h))))
            replace H := H.sel [0, 1, 3, 4, 5, 6, 7] rfl
            refine idxE c522 c523 c524 ?_; clear c522 c523 c524
            refine fld gok rfl rfl rfl rfl ?_
            refine load1 (c525 2 _ rfl) ?_
            obtain ⟨y536, e, hF537⟩ := bindS hF529; clear hF529
            have ey536 := e; clear e
            refine callF (laws_heldIntS_c a528_2 h532 a520 y536 ey536) (Γi := []) H ⟨Vw.sh 1 rfl, trivial⟩ ?_; clear H ey536
            rintro _ _ w538 ⟨rfl, rfl⟩ (H : Cx w0 fp0 S0 w538 [Es (List Int) a528_3 h533, Es (List Int) a528_2 h532, Es (List Int) a509_3 h514, Es (List Int) a509_2 h513, Es (List Int) a490_3 h495, Es (List Int) a490_2 h494, Es (List (Int × Int × List Int × List Int)) a_ a_h])
            refine sq ?_
            obtain ⟨a539, e, hF540⟩ := bindS hF537; clear hF537
            refine boolO e ?_; clear e
            cases a539
            · have hF541 := condF hF540; clear hF540
              obtain ⟨a548, e, hF549⟩ := bindS hF541; clear hF541
              have HH := H; clear H; obtain ⟨p546, m547, g550, c542, c543, c544, c545, H⟩ := HH.el (α := Int × Int × List Int × List Int) 6 rfl e; clear HH
              clear e
              obtain ⟨a548_0, a548_1, a548_2, a548_3⟩ := a548
              obtain ⟨_, _, h552, h553⟩ := g550
              replace H := H.part (β := List Int) a548_2 (h552 : Hd) 0 rfl (fun S h => (And.left (And.right (And.right h))))
              replace H := H.part (β := List Int) a548_3 (h553 : Hd) 1 rfl (fun S h => (And.right (And.right (And.right h))))
              replace H := H.sel [0, 1, 3, 4, 5, 6, 7, 8, 9] rfl
              refine idxE c542 c543 c544 ?_; clear c542 c543 c544
              refine fld gok rfl rfl rfl rfl ?_
              refine load1 (c545 3 _ rfl) ?_
              obtain ⟨y556, e, hF557⟩ := bindS hF549; clear hF549
              have ey556 := e; clear e
              refine callF (laws_heldIntS_c a548_3 h553 y536 y556 ey556) (Γi := []) H ⟨Vw.sh 0 rfl, trivial⟩ ?_; clear H ey556
              rintro _ _ w558 ⟨rfl, rfl⟩ (H : Cx w0 fp0 S0 w558 [Es (List Int) a548_3 h553, Es (List Int) a548_2 h552, Es (List Int) a528_3 h533, Es (List Int) a528_2 h532, Es (List Int) a509_3 h514, Es (List Int) a509_2 h513, Es (List Int) a490_3 h495, Es (List Int) a490_2 h494, Es (List (Int × Int × List Int × List Int)) a_ a_h])
              obtain ⟨a559, e, hF560⟩ := bindS hF557; clear hF557
              refine boolO e ?_; clear e
              cases a559
              · have hF561 := condF hF560; clear hF560
                obtain ⟨a562, e, hF563⟩ := bindS hF561; clear hF561
                refine arO e ?_; clear e
                have hs := Option.some.inj hF563; subst hs; clear hF563
                exact ⟨(y556, a562), (), rfl, ⟨rfl, rfl, rfl, trivial⟩, H.sel [8] rfl⟩
              · have hF564 := condT hF560; clear hF560
                have hs := Option.some.inj hF564; subst hs; clear hF564
                have hF565 : some _ = some _ := congrArg some (hrt _ rfl).symm
                have hs := Option.some.inj hF565; subst hs; clear hF565
                have hF566 : some _ = some _ := hF287; clear hF287
                cases hF566
                exact ⟨_, _, rfl, ⟨rfl, rfl⟩, (H.sel [] rfl).close trivial⟩
            · have hF567 := condT hF540; clear hF540
              have hs := Option.some.inj hF567; subst hs; clear hF567
              have hF568 : some _ = some _ := congrArg some (hrt _ rfl).symm
              have hs := Option.some.inj hF568; subst hs; clear hF568
              have hF569 : some _ = some _ := hF287; clear hF287
              cases hF569
              exact ⟨_, _, rfl, ⟨rfl, rfl⟩, (H.sel [] rfl).close trivial⟩
          · have hF570 := condT hF518; clear hF518
            have hs := Option.some.inj hF570; subst hs; clear hF570
            have hF571 : some _ = some _ := congrArg some (hrt _ rfl).symm
            have hs := Option.some.inj hF571; subst hs; clear hF571
            have hF572 : some _ = some _ := hF287; clear hF287
            cases hF572
            exact ⟨_, _, rfl, ⟨rfl, rfl⟩, (H.sel [] rfl).close trivial⟩
        · have hF573 := condT hF499; clear hF499
          have hs := Option.some.inj hF573; subst hs; clear hF573
          have hF574 : some _ = some _ := congrArg some (hrt _ rfl).symm
          have hs := Option.some.inj hF574; subst hs; clear hF574
          have hF575 : some _ = some _ := hF287; clear hF287
          cases hF575
          exact ⟨_, _, rfl, ⟨rfl, rfl⟩, (H.sel [] rfl).close trivial⟩
  · clear hF288 H
    rintro T577 s284 w576 ⟨hr, (H : Cx w0 fp0 S0 w576 [])⟩
    subst hr
    cases hF287
    exact ⟨_, _, rfl, ⟨rfl, rfl⟩, (H.sel [] rfl).close trivial⟩

theorem laws_heldGraph_c (a__0 : Int) (a__1 : List (Int × Int × List Int × List Int)) (a__1h : Hd) (a__2 : List Int) (a__2h : Hd) (a__3 : List Int) (a__3h : Hd) (k_ : Int) (y : Int) (hF : F_laws_heldGraph (a__0, a__1, a__2, a__3) k_ = some y) :
    ConF Try.prog 25 #[(.agg #[(.int .i64 a__0), (a__1h).v, (a__2h).v, (a__3h).v]), (.int .i64 k_)] [Es (List (Int × Int × List Int × List Int)) a__1 a__1h, Es (List Int) a__2 a__2h, Es (List Int) a__3 a__3h] [] (fun v Γ' => v = (.int .i64 y) ∧ Γ' = []) := by
  intro w0 S0 fp0 hI hS
  have H : Cx w0 fp0 S0 w0 [Es (List (Int × Int × List Int × List Int)) a__1 a__1h, Es (List Int) a__2 a__2h, Es (List Int) a__3 a__3h] := Cx.start hI hS
  clear hI hS
  refine enterC (args := [_, _]) gok Try.func25 rfl _ rfl rfl rfl ?_
  refine box_ H ?_; clear H; intro b5 w4 hx H
  clear hx
  replace H : Cx w0 fp0 S0 w4 [Bx b5 [(.int .i64 a__0), (a__1h).v, (a__2h).v, (a__3h).v], Es (List (Int × Int × List Int × List Int)) a__1 a__1h, Es (List Int) a__2 a__2h, Es (List Int) a__3 a__3h] := H
  refine fld gok rfl rfl rfl rfl ?_
  refine load1 (H.bx 0 rfl (j := 1) rfl) ?_
  obtain ⟨y7, e, hF8⟩ := bindS hF; clear hF
  have ey7 := e; clear e
  refine callF (laws_heldEdgeS_c a__1 a__1h k_ y7 ey7) (Γi := []) H ⟨Vw.sh 1 rfl, trivial⟩ ?_; clear H ey7
  rintro _ _ w9 ⟨rfl, rfl⟩ (H : Cx w0 fp0 S0 w9 [Bx b5 [(.int .i64 a__0), (a__1h).v, (a__2h).v, (a__3h).v], Es (List (Int × Int × List Int × List Int)) a__1 a__1h, Es (List Int) a__2 a__2h, Es (List Int) a__3 a__3h])
  refine sq ?_
  obtain ⟨a10, e, hF11⟩ := bindS hF8; clear hF8
  refine boolO e ?_; clear e
  cases a10
  · have hF12 := condF hF11; clear hF11
    refine fld gok rfl rfl rfl rfl ?_
    refine load1 (H.bx 0 rfl (j := 2) rfl) ?_
    obtain ⟨y13, e, hF14⟩ := bindS hF12; clear hF12
    have ey13 := e; clear e
    refine callF (laws_heldIntS_c a__2 a__2h y7 y13 ey13) (Γi := []) H ⟨Vw.sh 2 rfl, trivial⟩ ?_; clear H ey13
    rintro _ _ w15 ⟨rfl, rfl⟩ (H : Cx w0 fp0 S0 w15 [Bx b5 [(.int .i64 a__0), (a__1h).v, (a__2h).v, (a__3h).v], Es (List (Int × Int × List Int × List Int)) a__1 a__1h, Es (List Int) a__2 a__2h, Es (List Int) a__3 a__3h])
    refine sq ?_
    obtain ⟨a16, e, hF17⟩ := bindS hF14; clear hF14
    refine boolO e ?_; clear e
    cases a16
    · have hF18 := condF hF17; clear hF17
      refine fld gok rfl rfl rfl rfl ?_
      refine load1 (H.bx 0 rfl (j := 3) rfl) ?_
      obtain ⟨y19, e, hF20⟩ := bindS hF18; clear hF18
      have ey19 := e; clear e
      refine callF (laws_heldIntS_c a__3 a__3h y13 y19 ey19) (Γi := []) H ⟨Vw.sh 3 rfl, trivial⟩ ?_; clear H ey19
      rintro _ _ w21 ⟨rfl, rfl⟩ (H : Cx w0 fp0 S0 w21 [Bx b5 [(.int .i64 a__0), (a__1h).v, (a__2h).v, (a__3h).v], Es (List (Int × Int × List Int × List Int)) a__1 a__1h, Es (List Int) a__2 a__2h, Es (List Int) a__3 a__3h])
      refine sq ?_
      obtain ⟨a22, e, hF23⟩ := bindS hF20; clear hF20
      refine boolO e ?_; clear e
      cases a22
      · have hF24 := condF hF23; clear hF23
        cases hF24
        exact ⟨_, _, rfl, ⟨rfl, rfl⟩, (H.sel [] rfl).close trivial⟩
      · have hF25 := condT hF23; clear hF23
        cases hF25
        exact ⟨_, _, rfl, ⟨rfl, rfl⟩, (H.sel [] rfl).close trivial⟩
    · have hF26 := condT hF17; clear hF17
      cases hF26
      exact ⟨_, _, rfl, ⟨rfl, rfl⟩, (H.sel [] rfl).close trivial⟩
  · have hF27 := condT hF11; clear hF11
    cases hF27
    exact ⟨_, _, rfl, ⟨rfl, rfl⟩, (H.sel [] rfl).close trivial⟩
end Go.Proofs.Ytgfnophfoccamaa
