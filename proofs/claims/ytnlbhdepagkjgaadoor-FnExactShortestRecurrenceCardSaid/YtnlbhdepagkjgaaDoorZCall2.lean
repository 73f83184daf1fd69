/-
  Contracts, printed by a program (wip/y/gen.py): each function of Go computes its partial function. Condition of each: its partial function yields a value.
-/
import Derived.Test.YtnlbhdepagkjgaaDoorZCall
namespace Go.Proofs.YtnlbhdepagkjgaaDoor
open Go Go.Proofs.YtnlbhdepagkjgaaDoor.RW
set_option maxRecDepth 100000
set_option linter.unusedVariables false

theorem impl_reduction_c (p_ : Int) (rows_ : List (List Int)) (rows_h : Hd) (n_ : Int) (also_ : List (List Int)) (also_h : Hd) (y0 : List (List Int)) (y1 : List (List Int)) (y2 : Int) (hF : F_impl_reduction p_ rows_ n_ also_ = some (y0, y1, y2)) :
    ConF Tryd.prog 111 #[(.int .i64 p_), (rows_h).v, (.int .i64 n_), (also_h).v] [] [E (List (List Int)) rows_ rows_h, E (List (List Int)) also_ also_h] (fun v Γ' => v = (.int .i64 y2) ∧ Γ' = [E (List (List Int)) y0 rows_h, E (List (List Int)) y1 also_h]) := by
  intro w0 S0 fp0 hI hS
  have H : Cx w0 fp0 S0 w0 [E (List (List Int)) rows_ rows_h, E (List (List Int)) also_ also_h] := Cx.start hI hS
  clear hI hS
  refine enterC (args := [_, _, _, _]) gok Tryd.func111 rfl _ rfl rfl rfl ?_
  refine box_ H ?_; clear H; intro b4 w3 hx H
  clear hx
  replace H : Cx w0 fp0 S0 w3 [Bx b4 [(.int .i64 p_)], E (List (List Int)) rows_ rows_h, E (List (List Int)) also_ also_h] := H
  refine box_ H ?_; clear H; intro b7 w6 hx H
  clear hx
  replace H : Cx w0 fp0 S0 w6 [Bx b7 [(rows_h).v], Bx b4 [(.int .i64 p_)], E (List (List Int)) rows_ rows_h, E (List (List Int)) also_ also_h] := H
  refine box_ H ?_; clear H; intro b10 w9 hx H
  clear hx
  replace H : Cx w0 fp0 S0 w9 [Bx b10 [(also_h).v], Bx b7 [(rows_h).v], Bx b4 [(.int .i64 p_)], E (List (List Int)) rows_ rows_h, E (List (List Int)) also_ also_h] := H
  obtain ⟨r4078, hF4080, hF4079⟩ := bindS hF; clear hF
  refine cut (fun (q4081 : List (List Int) × List (List Int) × Int) => [(9, (.int .i64 q4081.2.2))]) (fun (q4081 : List (List Int) × List (List Int) × Int) w' => (q4081.1, q4081.2.1, q4081.2.2) = r4078 ∧ Cx w0 fp0 S0 w' [E (List (List Int)) q4081.1 rows_h, E (List (List Int)) q4081.2.1 also_h]) ?_ ?_
  · skip
    refine loopW _ (fun (s6786 : List (List Int) × List (List Int) × Int × Int) (_ : Unit) => [(2, (.int .i64 n_)), (5, (.pointer (some ⟨b7, 0, none⟩))), (9, (.int .i64 s6786.2.2.2)), (10, (.func (.func 147) #[] #[(.pointer (some ⟨b4, 0, none⟩)), (.pointer (some ⟨b7, 0, none⟩)), (.pointer (some ⟨b10, 0, none⟩))])), (11, (.int .i64 s6786.2.2.1))]) (fun (s6786 : List (List Int) × List (List Int) × Int × Int) (_ : Unit) w' => Cx w0 fp0 S0 w' [Bx b7 [(rows_h).v], E (List (List Int)) s6786.1 rows_h, Bx b4 [(.int .i64 p_)], Bx b10 [(also_h).v], E (List (List Int)) s6786.2.1 also_h]) (rows_, also_, 0, 0) () hF4080 ⟨rfl, rfl, rfl, rfl, rfl, trivial⟩ (H.sel [1, 3, 2, 0, 4] rfl) ?_
    · clear H
      rintro T6792 ⟨s6786_0, s6786_1, s6786_2, s6786_3⟩ _ w6791 o6793 (H : Cx w0 fp0 S0 w6791 [Bx b7 [(rows_h).v], E (List (List Int)) s6786_0 rows_h, Bx b4 [(.int .i64 p_)], Bx b10 [(also_h).v], E (List (List Int)) s6786_1 also_h]) hrt hF6794
      refine sq ?_
      obtain ⟨r6803, hF6805, hF6804⟩ := bindS hF6794; clear hF6794
      refine cut (fun (q6806 : Bool) => [(2, (.int .i64 n_)), (5, (.pointer (some ⟨b7, 0, none⟩))), (9, (.int .i64 s6786_3)), (10, (.func (.func 147) #[] #[(.pointer (some ⟨b4, 0, none⟩)), (.pointer (some ⟨b7, 0, none⟩)), (.pointer (some ⟨b10, 0, none⟩))])), (11, (.int .i64 s6786_2)), (23, (.bool q6806))]) (fun (q6806 : Bool) w' => q6806 = r6803 ∧ Cx w0 fp0 S0 w' [Bx b7 [(rows_h).v], E (List (List Int)) s6786_0 rows_h, Bx b4 [(.int .i64 p_)], Bx b10 [(also_h).v], E (List (List Int)) s6786_1 also_h]) ?_ ?_
      · skip
        obtain ⟨a6807, e, hF6808⟩ := bindS hF6805; clear hF6805
        refine boolO e ?_; clear e
        cases a6807
        · have hF6809 := condF hF6808; clear hF6808
          exact ⟨false, ⟨rfl, rfl, rfl, rfl, rfl, rfl, trivial⟩, Option.some.inj hF6809, H.sel [0, 1, 2, 3, 4] rfl⟩
        · have hF6810 := condT hF6808; clear hF6808
          refine load1 (H.bx0 0 rfl) ?_
          refine lenE (H.ro (α := List (List Int)) 1 rfl).len ?_
          obtain ⟨a6811, e, hF6812⟩ := bindS hF6810; clear hF6810
          refine boolO e ?_; clear e
          exact ⟨a6811, ⟨rfl, rfl, rfl, rfl, rfl, rfl, trivial⟩, Option.some.inj hF6812, H.sel [0, 1, 2, 3, 4] rfl⟩
      · clear hF6805 H
        rintro T6814 s6801 w6813 ⟨hr, (H : Cx w0 fp0 S0 w6813 [Bx b7 [(rows_h).v], E (List (List Int)) s6786_0 rows_h, Bx b4 [(.int .i64 p_)], Bx b10 [(also_h).v], E (List (List Int)) s6786_1 also_h])⟩
        subst hr
        cases s6801
        · have hF6815 := condF hF6804; clear hF6804
          have hs := Option.some.inj hF6815; subst hs; clear hF6815
          have hF6816 : some _ = some _ := congrArg some (hrt _ rfl).symm
          exact ⟨(s6786_0, s6786_1, s6786_3), ⟨rfl, trivial⟩, Option.some.inj hF6816, H.sel [1, 4] rfl⟩
        · have hF6817 := condT hF6804; clear hF6804
          obtain ⟨r7479, hF7481, hF7480⟩ := bindS hF6817; clear hF6817
          refine cut (fun (q7482 : List (List Int) × List (List Int) × Int) => [(2, (.int .i64 n_)), (5, (.pointer (some ⟨b7, 0, none⟩))), (9, (.int .i64 q7482.2.2)), (10, (.func (.func 147) #[] #[(.pointer (some ⟨b4, 0, none⟩)), (.pointer (some ⟨b7, 0, none⟩)), (.pointer (some ⟨b10, 0, none⟩))])), (11, (.int .i64 s6786_2))]) (fun (q7482 : List (List Int) × List (List Int) × Int) w' => (q7482.1, q7482.2.1, q7482.2.2) = r7479 ∧ Cx w0 fp0 S0 w' [Bx b7 [(rows_h).v], E (List (List Int)) q7482.1 rows_h, Bx b4 [(.int .i64 p_)], Bx b10 [(also_h).v], E (List (List Int)) q7482.2.1 also_h]) ?_ ?_
          · skip
            obtain ⟨r7673, hF7675, hF7674⟩ := bindS hF7481; clear hF7481
            refine cut (fun (q7676 : Int) => [(2, (.int .i64 n_)), (5, (.pointer (some ⟨b7, 0, none⟩))), (9, (.int .i64 s6786_3)), (10, (.func (.func 147) #[] #[(.pointer (some ⟨b4, 0, none⟩)), (.pointer (some ⟨b7, 0, none⟩)), (.pointer (some ⟨b10, 0, none⟩))])), (11, (.int .i64 s6786_2)), (12, (.int .i64 q7676))]) (fun (q7676 : Int) w' => q7676 = r7673 ∧ Cx w0 fp0 S0 w' [Bx b7 [(rows_h).v], E (List (List Int)) s6786_0 rows_h, Bx b4 [(.int .i64 p_)], Bx b10 [(also_h).v], E (List (List Int)) s6786_1 also_h]) ?_ ?_
            · skip
              refine loopW _ (fun (s7797 : Int) (_ : Unit) => [(2, (.int .i64 n_)), (5, (.pointer (some ⟨b7, 0, none⟩))), (9, (.int .i64 s6786_3)), (10, (.func (.func 147) #[] #[(.pointer (some ⟨b4, 0, none⟩)), (.pointer (some ⟨b7, 0, none⟩)), (.pointer (some ⟨b10, 0, none⟩))])), (11, (.int .i64 s6786_2)), (12, (.int .i64 s7797))]) (fun (s7797 : Int) (_ : Unit) w' => Cx w0 fp0 S0 w' [Bx b7 [(rows_h).v], E (List (List Int)) s6786_0 rows_h, Bx b4 [(.int .i64 p_)], Bx b10 [(also_h).v], E (List (List Int)) s6786_1 also_h]) s6786_3 () hF7675 ⟨rfl, rfl, rfl, rfl, rfl, rfl, trivial⟩ (H.sel [0, 1, 2, 3, 4] rfl) ?_
              · clear H
                rintro T7803 s7797 _ w7802 o7804 (H : Cx w0 fp0 S0 w7802 [Bx b7 [(rows_h).v], E (List (List Int)) s6786_0 rows_h, Bx b4 [(.int .i64 p_)], Bx b10 [(also_h).v], E (List (List Int)) s6786_1 also_h]) hrt hF7805
                refine sq ?_
                obtain ⟨r7831, hF7833, hF7832⟩ := bindS hF7805; clear hF7805
                refine cut (fun (q7834 : Bool) => [(2, (.int .i64 n_)), (5, (.pointer (some ⟨b7, 0, none⟩))), (9, (.int .i64 s6786_3)), (10, (.func (.func 147) #[] #[(.pointer (some ⟨b4, 0, none⟩)), (.pointer (some ⟨b7, 0, none⟩)), (.pointer (some ⟨b10, 0, none⟩))])), (11, (.int .i64 s6786_2)), (12, (.int .i64 s7797)), (40, (.bool q7834))]) (fun (q7834 : Bool) w' => q7834 = r7831 ∧ Cx w0 fp0 S0 w' [Bx b7 [(rows_h).v], E (List (List Int)) s6786_0 rows_h, Bx b4 [(.int .i64 p_)], Bx b10 [(also_h).v], E (List (List Int)) s6786_1 also_h]) ?_ ?_
                · skip
                  refine load1 (H.bx0 0 rfl) ?_
                  refine lenE (H.ro (α := List (List Int)) 1 rfl).len ?_
                  obtain ⟨a7835, e, hF7836⟩ := bindS hF7833; clear hF7833
                  refine boolO e ?_; clear e
                  cases a7835
                  · have hF7837 := condF hF7836; clear hF7836
                    exact ⟨false, ⟨rfl, rfl, rfl, rfl, rfl, rfl, rfl, trivial⟩, Option.some.inj hF7837, H.sel [0, 1, 2, 3, 4] rfl⟩
                  · have hF7838 := condT hF7836; clear hF7836
                    refine load1 (H.bx0 0 rfl) ?_
                    obtain ⟨a7845, e, hF7846⟩ := bindS hF7838; clear hF7838
                    replace H := H.sel [1, 0, 2, 3, 4] rfl
                    replace H := H.toEH (α := List Int)
                    have HH := H; clear H; obtain ⟨p7843, m7844, h7847, c7839, c7840, c7841, c7842, H⟩ := HH.peekL e; clear HH
                    clear e
                    refine idxE c7839 c7840 c7841 ?_
                    refine load1 c7842 ?_; clear c7842
                    obtain ⟨a7854, e, hF7855⟩ := bindS hF7846; clear hF7846
                    obtain ⟨p7852, m7853, c7848, c7849, c7850, c7851⟩ := (H.rh (α := List Int) 0 rfl 0 rfl).at1 e; clear e
                    refine idxE c7848 c7849 c7850 ?_; clear c7848 c7849 c7850
                    refine load1 c7851 ?_; clear c7851
                    obtain ⟨a7856, e, hF7857⟩ := bindS hF7855; clear hF7855
                    refine boolO e ?_; clear e
                    replace H := H.ofEH
                    exact ⟨a7856, ⟨rfl, rfl, rfl, rfl, rfl, rfl, rfl, trivial⟩, Option.some.inj hF7857, H.sel [1, 0, 2, 3, 4] rfl⟩
                · clear hF7833 H
                  rintro T7859 s7829 w7858 ⟨hr, (H : Cx w0 fp0 S0 w7858 [Bx b7 [(rows_h).v], E (List (List Int)) s6786_0 rows_h, Bx b4 [(.int .i64 p_)], Bx b10 [(also_h).v], E (List (List Int)) s6786_1 also_h])⟩
                  subst hr
                  cases s7829
                  · have hF7860 := condF hF7832; clear hF7832
                    have hs := Option.some.inj hF7860; subst hs; clear hF7860
                    have hF7861 : some _ = some _ := congrArg some (hrt _ rfl).symm
                    exact ⟨s7797, ⟨rfl, rfl, rfl, rfl, rfl, rfl, trivial⟩, Option.some.inj hF7861, H.sel [0, 1, 2, 3, 4] rfl⟩
                  · have hF7862 := condT hF7832; clear hF7832
                    obtain ⟨a7863, e, hF7864⟩ := bindS hF7862; clear hF7862
                    refine arO e ?_; clear e
                    have hs := Option.some.inj hF7864; subst hs; clear hF7864
                    exact ⟨a7863, (), rfl, ⟨rfl, rfl, rfl, rfl, rfl, rfl, trivial⟩, H.sel [0, 1, 2, 3, 4] rfl⟩
            · clear hF7675 H
              rintro T7866 s7671 w7865 ⟨hr, (H : Cx w0 fp0 S0 w7865 [Bx b7 [(rows_h).v], E (List (List Int)) s6786_0 rows_h, Bx b4 [(.int .i64 p_)], Bx b10 [(also_h).v], E (List (List Int)) s6786_1 also_h])⟩
              subst hr
              refine sq ?_
              refine load1 (H.bx0 0 rfl) ?_
              refine lenE (H.ro (α := List (List Int)) 1 rfl).len ?_
              obtain ⟨a7867, e, hF7868⟩ := bindS hF7674; clear hF7674
              refine boolO e ?_; clear e
              cases a7867
              · have hF7869 := condF hF7868; clear hF7868
                refine build_ (cs := #[(.int .i64 0), (.int .i64 s6786_3), (.int .i64 s7671), (.int .i64 0)]) gok rfl rfl rfl ?_
                obtain ⟨y7870, e, hF7871⟩ := bindS hF7869; clear hF7869
                obtain ⟨y7870_0, y7870_1⟩ := y7870
                have ey7870 := e; clear e
                replace H := H.sel [2, 0, 1, 3, 4] rfl
                refine callF (impl_reduction_1_c 0 s6786_3 s7671 0 b4 p_ b7 s6786_0 rows_h b10 s6786_1 also_h y7870_0 y7870_1 ey7870) (Γi := [Bx b4 [(.int .i64 p_)], Bx b7 [(rows_h).v], E (List (List Int)) s6786_0 rows_h, Bx b10 [(also_h).v], E (List (List Int)) s6786_1 also_h]) H trivial ?_; clear H ey7870
                rintro _ _ w7872 ⟨rfl, rfl⟩ (H : Cx w0 fp0 S0 w7872 [Bx b4 [(.int .i64 p_)], Bx b7 [(rows_h).v], E (List (List Int)) y7870_0 rows_h, Bx b10 [(also_h).v], E (List (List Int)) y7870_1 also_h])
                refine load1 (H.bx0 1 rfl) ?_
                obtain ⟨a7879, e, hF7880⟩ := bindS hF7871; clear hF7871
                replace H := H.sel [2, 0, 1, 3, 4] rfl
                replace H := H.toEH (α := List Int)
                have HH := H; clear H; obtain ⟨p7877, m7878, h7881, c7873, c7874, c7875, c7876, H⟩ := HH.peekL e; clear HH
                clear e
                refine idxE c7873 c7874 c7875 ?_
                refine load1 c7876 ?_; clear c7876
                obtain ⟨a7888, e, hF7889⟩ := bindS hF7880; clear hF7880
                obtain ⟨p7886, m7887, c7882, c7883, c7884, c7885⟩ := (H.rh (α := List Int) 0 rfl 0 rfl).at1 e; clear e
                refine idxE c7882 c7883 c7884 ?_; clear c7882 c7883 c7884
                refine load1 c7885 ?_; clear c7885
                refine build_ (cs := #[(.int .i64 1), (.int .i64 s6786_3), (.int .i64 0), (.int .i64 a7888)]) gok rfl rfl rfl ?_
                replace H := H.ofEH
                obtain ⟨y7890, e, hF7891⟩ := bindS hF7889; clear hF7889
                obtain ⟨y7890_0, y7890_1⟩ := y7890
                have ey7890 := e; clear e
                replace H := H.sel [1, 2, 0, 3, 4] rfl
                refine callF (impl_reduction_1_c 1 s6786_3 0 a7888 b4 p_ b7 y7870_0 rows_h b10 y7870_1 also_h y7890_0 y7890_1 ey7890) (Γi := [Bx b4 [(.int .i64 p_)], Bx b7 [(rows_h).v], E (List (List Int)) y7870_0 rows_h, Bx b10 [(also_h).v], E (List (List Int)) y7870_1 also_h]) H trivial ?_; clear H ey7890
                rintro _ _ w7892 ⟨rfl, rfl⟩ (H : Cx w0 fp0 S0 w7892 [Bx b4 [(.int .i64 p_)], Bx b7 [(rows_h).v], E (List (List Int)) y7890_0 rows_h, Bx b10 [(also_h).v], E (List (List Int)) y7890_1 also_h])
                refine sq ?_
                refine load1 (H.bx0 1 rfl) ?_
                refine lenE (H.ro (α := List (List Int)) 2 rfl).len ?_
                have hmx8052 := (H.ro (α := List (List Int)) 2 rfl).max
                obtain ⟨r8053, e, hF8054⟩ := bindS hF7891; clear hF7891
                refine loopS _ y7890_0.length (fun (k7893 : Nat) (s8050 : List (List Int) × List (List Int)) (_ : Unit) => [(2, (.int .i64 n_)), (5, (.pointer (some ⟨b7, 0, none⟩))), (9, (.int .i64 s6786_3)), (10, (.func (.func 147) #[] #[(.pointer (some ⟨b4, 0, none⟩)), (.pointer (some ⟨b7, 0, none⟩)), (.pointer (some ⟨b10, 0, none⟩))])), (11, (.int .i64 s6786_2)), (64, (.int .i64 ((y7890_0.length : Nat) : Int))), (65, (.int .i64 ((k7893 : Nat) : Int)))]) (fun _ (s8050 : List (List Int) × List (List Int)) (_ : Unit) w' => Cx w0 fp0 S0 w' [Bx b7 [(rows_h).v], E (List (List Int)) s8050.1 rows_h, Bx b4 [(.int .i64 p_)], Bx b10 [(also_h).v], E (List (List Int)) s8050.2 also_h]) (y7890_0, y7890_1) () e ⟨rfl, rfl, rfl, rfl, rfl, rfl, rfl, trivial⟩ (H.sel [1, 2, 0, 3, 4] rfl) ?_ ?_
                · clear H e
                  rintro T8056 k7893 ⟨s8050_0, s8050_1⟩ _ w8055 o8057 hk (H : Cx w0 fp0 S0 w8055 [Bx b7 [(rows_h).v], E (List (List Int)) s8050_0 rows_h, Bx b4 [(.int .i64 p_)], Bx b10 [(also_h).v], E (List (List Int)) s8050_1 also_h]) hF8058
                  refine boolE (z := true) (ltLen hk) ?_
                  refine sq ?_
                  refine sq ?_
                  obtain ⟨r8084, hF8086, hF8085⟩ := bindS hF8058; clear hF8058
                  refine cut (fun (q8087 : Bool) => [(2, (.int .i64 n_)), (5, (.pointer (some ⟨b7, 0, none⟩))), (9, (.int .i64 s6786_3)), (10, (.func (.func 147) #[] #[(.pointer (some ⟨b4, 0, none⟩)), (.pointer (some ⟨b7, 0, none⟩)), (.pointer (some ⟨b10, 0, none⟩))])), (11, (.int .i64 s6786_2)), (13, (.int .i64 ((k7893 : Nat) : Int))), (64, (.int .i64 ((y7890_0.length : Nat) : Int))), (65, (.int .i64 ((k7893 : Nat) : Int))), (80, (.bool q8087))]) (fun (q8087 : Bool) w' => q8087 = r8084 ∧ Cx w0 fp0 S0 w' [Bx b7 [(rows_h).v], E (List (List Int)) s8050_0 rows_h, Bx b4 [(.int .i64 p_)], Bx b10 [(also_h).v], E (List (List Int)) s8050_1 also_h]) ?_ ?_
                  · skip
                    obtain ⟨a8088, e, hF8089⟩ := bindS hF8086; clear hF8086
                    refine boolO e ?_; clear e
                    cases a8088
                    · have hF8090 := condF hF8089; clear hF8089
                      exact ⟨false, ⟨rfl, rfl, rfl, rfl, rfl, rfl, rfl, rfl, rfl, trivial⟩, Option.some.inj hF8090, H.sel [0, 1, 2, 3, 4] rfl⟩
                    · have hF8091 := condT hF8089; clear hF8089
                      refine load1 (H.bx0 0 rfl) ?_
                      obtain ⟨a8098, e, hF8099⟩ := bindS hF8091; clear hF8091
                      replace H := H.sel [1, 0, 2, 3, 4] rfl
                      replace H := H.toEH (α := List Int)
                      have HH := H; clear H; obtain ⟨p8096, m8097, h8100, c8092, c8093, c8094, c8095, H⟩ := HH.peekL e; clear HH
                      clear e
                      refine idxE c8092 c8093 c8094 ?_
                      refine load1 c8095 ?_; clear c8095
                      obtain ⟨a8107, e, hF8108⟩ := bindS hF8099; clear hF8099
                      obtain ⟨p8105, m8106, c8101, c8102, c8103, c8104⟩ := (H.rh (α := List Int) 0 rfl 0 rfl).at1 e; clear e
                      refine idxE c8101 c8102 c8103 ?_; clear c8101 c8102 c8103
                      refine load1 c8104 ?_; clear c8104
                      obtain ⟨a8109, e, hF8110⟩ := bindS hF8108; clear hF8108
                      refine boolO e ?_; clear e
                      replace H := H.ofEH
                      exact ⟨a8109, ⟨rfl, rfl, rfl, rfl, rfl, rfl, rfl, rfl, rfl, trivial⟩, Option.some.inj hF8110, H.sel [1, 0, 2, 3, 4] rfl⟩
                  · clear hF8086 H
                    rintro T8112 s8082 w8111 ⟨hr, (H : Cx w0 fp0 S0 w8111 [Bx b7 [(rows_h).v], E (List (List Int)) s8050_0 rows_h, Bx b4 [(.int .i64 p_)], Bx b10 [(also_h).v], E (List (List Int)) s8050_1 also_h])⟩
                    subst hr
                    cases s8082
                    · have hF8113 := condF hF8085; clear hF8085
                      refine arK hk hmx8052 ?_
                      have hs := Option.some.inj hF8113; subst hs; clear hF8113
                      exact ⟨(), ⟨rfl, rfl, rfl, rfl, rfl, rfl, rfl, trivial⟩, H.sel [0, 1, 2, 3, 4] rfl⟩
                    · have hF8114 := condT hF8085; clear hF8085
                      refine load1 (H.bx0 0 rfl) ?_
                      obtain ⟨a8121, e, hF8122⟩ := bindS hF8114; clear hF8114
                      replace H := H.sel [1, 0, 2, 3, 4] rfl
                      replace H := H.toEH (α := List Int)
                      have HH := H; clear H; obtain ⟨p8119, m8120, h8123, c8115, c8116, c8117, c8118, H⟩ := HH.peekL e; clear HH
                      clear e
                      refine idxE c8115 c8116 c8117 ?_
                      refine load1 c8118 ?_; clear c8118
                      obtain ⟨a8130, e, hF8131⟩ := bindS hF8122; clear hF8122
                      obtain ⟨p8128, m8129, c8124, c8125, c8126, c8127⟩ := (H.rh (α := List Int) 0 rfl 0 rfl).at1 e; clear e
                      refine idxE c8124 c8125 c8126 ?_; clear c8124 c8125 c8126
                      refine load1 c8127 ?_; clear c8127
                      refine build_ (cs := #[(.int .i64 2), (.int .i64 ((k7893 : Nat) : Int)), (.int .i64 s6786_3), (.int .i64 a8130)]) gok rfl rfl rfl ?_
                      replace H := H.ofEH
                      obtain ⟨y8132, e, hF8133⟩ := bindS hF8131; clear hF8131
                      obtain ⟨y8132_0, y8132_1⟩ := y8132
                      have ey8132 := e; clear e
                      replace H := H.sel [2, 1, 0, 3, 4] rfl
                      refine callF (impl_reduction_1_c 2 ((k7893 : Nat) : Int) s6786_3 a8130 b4 p_ b7 s8050_0 rows_h b10 s8050_1 also_h y8132_0 y8132_1 ey8132) (Γi := [Bx b4 [(.int .i64 p_)], Bx b7 [(rows_h).v], E (List (List Int)) s8050_0 rows_h, Bx b10 [(also_h).v], E (List (List Int)) s8050_1 also_h]) H trivial ?_; clear H ey8132
                      rintro _ _ w8134 ⟨rfl, rfl⟩ (H : Cx w0 fp0 S0 w8134 [Bx b4 [(.int .i64 p_)], Bx b7 [(rows_h).v], E (List (List Int)) y8132_0 rows_h, Bx b10 [(also_h).v], E (List (List Int)) y8132_1 also_h])
                      refine arK hk hmx8052 ?_
                      have hs := Option.some.inj hF8133; subst hs; clear hF8133
                      exact ⟨(), ⟨rfl, rfl, rfl, rfl, rfl, rfl, rfl, trivial⟩, H.sel [1, 2, 0, 3, 4] rfl⟩
                · clear H e
                  obtain ⟨s8137_0, s8137_1⟩ := r8053
                  rintro T8136 _ w8135 (H : Cx w0 fp0 S0 w8135 [Bx b7 [(rows_h).v], E (List (List Int)) s8137_0 rows_h, Bx b4 [(.int .i64 p_)], Bx b10 [(also_h).v], E (List (List Int)) s8137_1 also_h])
                  refine boolE (z := false) geLen ?_
                  refine sq ?_
                  obtain ⟨a8139, e, hF8140⟩ := bindS hF8054; clear hF8054
                  refine arO e ?_; clear e
                  exact ⟨(s8137_0, s8137_1, a8139), ⟨rfl, rfl, rfl, rfl, rfl, trivial⟩, Option.some.inj hF8140, H.sel [0, 1, 2, 3, 4] rfl⟩
              · have hF8141 := condT hF7868; clear hF7868
                exact ⟨(s6786_0, s6786_1, s6786_3), ⟨rfl, rfl, rfl, rfl, rfl, trivial⟩, Option.some.inj hF8141, H.sel [0, 1, 2, 3, 4] rfl⟩
          · clear hF7481 H
            rintro T8143 ⟨s7477_0, s7477_1, s7477_2⟩ w8142 ⟨hr, (H : Cx w0 fp0 S0 w8142 [Bx b7 [(rows_h).v], E (List (List Int)) s7477_0 rows_h, Bx b4 [(.int .i64 p_)], Bx b10 [(also_h).v], E (List (List Int)) s7477_1 also_h])⟩
            subst hr
            obtain ⟨a8144, e, hF8145⟩ := bindS hF7480; clear hF7480
            refine arO e ?_; clear e
            have hs := Option.some.inj hF8145; subst hs; clear hF8145
            exact ⟨(s7477_0, s7477_1, a8144, s7477_2), (), rfl, ⟨rfl, rfl, rfl, rfl, rfl, trivial⟩, H.sel [0, 1, 2, 3, 4] rfl⟩
  · clear hF4080 H
    rintro T8147 ⟨s4076_0, s4076_1, s4076_2⟩ w8146 ⟨hr, (H : Cx w0 fp0 S0 w8146 [E (List (List Int)) s4076_0 rows_h, E (List (List Int)) s4076_1 also_h])⟩
    subst hr
    cases hF4079
    exact ⟨_, _, rfl, ⟨rfl, rfl⟩, (H.sel [0, 1] rfl).close ⟨cloE, cloE, trivial⟩⟩

theorem impl_reduced_c (p_ : Int) (rows_ : List (List Int)) (rows_h : Hd) (n_ : Int) (y : List (List Int)) (hF : F_impl_reduced p_ rows_ n_ = some y) :
    ConF Tryd.prog 72 #[(.int .i64 p_), (rows_h).v, (.int .i64 n_)] [Es (List (List Int)) rows_ rows_h] [] (fun v Γ' => ∃ z0 : Hd, v = (z0).v ∧ Γ' = [E (List (List Int)) y z0]) := by
  intro w0 S0 fp0 hI hS
  have H : Cx w0 fp0 S0 w0 [Es (List (List Int)) rows_ rows_h] := Cx.start hI hS
  clear hI hS
  refine enterC (args := [_, _, _]) gok Tryd.func72 rfl _ rfl rfl rfl ?_
  obtain ⟨y2, e, hF3⟩ := bindS hF; clear hF
  have ey2 := e; clear e
  refine callF (impl_clones_c rows_ rows_h y2 ey2) (Γi := []) H ⟨Vw.sh 0 rfl, trivial⟩ ?_; clear H ey2
  rintro _ _ w4 ⟨h5, rfl, rfl⟩ (H : Cx w0 fp0 S0 w4 [E (List (List Int)) y2 h5, Es (List (List Int)) rows_ rows_h])
  refine lenE (H.ro (α := List (List Int)) 0 rfl).len ?_
  obtain ⟨a7, e, hF8⟩ := bindS hF3; clear hF3
  refine make_ (α := List Int) gok rfl rfl rfl rfl (makeCO_of e) H ?_; clear e H; intro h10 w9 hx H
  clear hx
  obtain ⟨y12, e, hF13⟩ := bindS hF8; clear hF8
  obtain ⟨y12_0, y12_1, y12_2⟩ := y12
  have ey12 := e; clear e
  replace H := H.sel [1, 0, 2] rfl
  refine callF (impl_reduction_c p_ y2 h5 n_ a7 h10 y12_0 y12_1 y12_2 ey12) (Γi := [E (List (List Int)) y2 h5, E (List (List Int)) a7 h10]) H trivial ?_; clear H ey12
  rintro _ _ w14 ⟨rfl, rfl⟩ (H : Cx w0 fp0 S0 w14 [E (List (List Int)) y12_0 h5, E (List (List Int)) y12_1 h10, Es (List (List Int)) rows_ rows_h])
  obtain ⟨a15, e, hF16⟩ := bindS hF13; clear hF13
  refine slO3 (α := List Int) gok rfl rfl H e ?_; clear e H; intro h17 H
  cases hF16
  exact ⟨_, _, rfl, ⟨h17, rfl, rfl⟩, (H.sel [0] rfl).close ⟨cloE, trivial⟩⟩

theorem impl_lead_c (v_ : List Int) (v_h : Hd) (y : Int) (hF : F_impl_lead v_ = some y) :
    ConF Tryd.prog 90 #[(v_h).v] [Es (List Int) v_ v_h] [] (fun v Γ' => v = (.int .i64 y) ∧ Γ' = []) := by
  intro w0 S0 fp0 hI hS
  have H : Cx w0 fp0 S0 w0 [Es (List Int) v_ v_h] := Cx.start hI hS
  clear hI hS
  refine enterC (args := [_]) gok Tryd.func90 rfl _ rfl rfl rfl ?_
  refine sq ?_
  refine lenE (H.rs (α := List Int) 0 rfl).len ?_
  have hmx19 := (H.rs (α := List Int) 0 rfl).max
  obtain ⟨r20, e, hF21⟩ := bindS hF; clear hF
  refine loopO _ v_.length (fun (k2 : Nat) (_ : Unit) (_ : Unit) => [(0, (v_h).v), (5, (v_h).v), (6, (.int .i64 ((v_.length : Nat) : Int))), (7, (.int .i64 ((k2 : Nat) : Int)))]) (fun _ (_ : Unit) (_ : Unit) w' => Cx w0 fp0 S0 w' [Es (List Int) v_ v_h]) () () e ⟨rfl, rfl, rfl, rfl, trivial⟩ (H.sel [0] rfl) ?_ ?_
  · clear H e
    rintro T23 k2 _ _ w22 o24 hk (H : Cx w0 fp0 S0 w22 [Es (List Int) v_ v_h]) hrt hF25
    refine boolE (z := true) (ltLen hk) ?_
    refine sq ?_
    refine sq ?_
    obtain ⟨a32, e, hF33⟩ := bindS hF25; clear hF25
    obtain ⟨p30, m31, c26, c27, c28, c29⟩ := (H.rs (α := List Int) 0 rfl).at1 e; clear e
    refine idxE c26 c27 c28 ?_; clear c26 c27 c28
    refine load1 c29 ?_; clear c29
    obtain ⟨a34, e, hF35⟩ := bindS hF33; clear hF33
    refine boolO e ?_; clear e
    cases a34
    · have hF36 := condF hF35; clear hF35
      refine arK hk hmx19 ?_
      have hs := Option.some.inj hF36; subst hs; clear hF36
      exact ⟨(), (), rfl, ⟨rfl, rfl, rfl, rfl, trivial⟩, H.sel [0] rfl⟩
    · have hF37 := condT hF35; clear hF35
      have hs := Option.some.inj hF37; subst hs; clear hF37
      have hr := hrt _ rfl; subst hr
      have hF38 : some _ = some _ := hF21
      cases hF38
      exact ⟨_, _, rfl, ⟨rfl, rfl⟩, (H.sel [] rfl).close trivial⟩
  · clear H e
    rintro T40 _ _ w39 hr (H : Cx w0 fp0 S0 w39 [Es (List Int) v_ v_h])
    subst hr
    refine boolE (z := false) geLen ?_
    refine sq ?_
    refine lenE (H.rs (α := List Int) 0 rfl).len ?_
    cases hF21
    exact ⟨_, _, rfl, ⟨rfl, rfl⟩, (H.sel [] rfl).close trivial⟩

theorem impl_firstSolution_c (p_ : Int) (equations_ : List (List Int)) (equations_h : Hd) (n_ : Int) (y0 : List Int) (y1 : Bool) (hF : F_impl_firstSolution p_ equations_ n_ = some (y0, y1)) :
    ConF Tryd.prog 144 #[(.int .i64 p_), (equations_h).v, (.int .i64 n_)] [Es (List (List Int)) equations_ equations_h] [] (fun v Γ' => ∃ z0 : Hd, v = (.tuple #[(z0).v, (.bool y1)]) ∧ Γ' = [E (List Int) y0 z0]) := by
  intro w0 S0 fp0 hI hS
  have H : Cx w0 fp0 S0 w0 [Es (List (List Int)) equations_ equations_h] := Cx.start hI hS
  clear hI hS
  refine enterC (args := [_, _, _]) gok Tryd.func144 rfl _ rfl rfl rfl ?_
  refine lit0 (α := List Int) gok rfl rfl H ?_; clear H; intro h3 w2 hx H
  clear hx
  refine sq ?_
  refine lenE (H.rs (α := List (List Int)) 1 rfl).len ?_
  have hmx442 := (H.rs (α := List (List Int)) 1 rfl).max
  obtain ⟨r443, e, hF444⟩ := bindS hF; clear hF
  refine loopS _ equations_.length (fun (k5 : Nat) (s439 : List (List Int)) (g440 : Hd) => [(0, (.int .i64 p_)), (2, (.int .i64 n_)), (8, (g440).v), (18, (equations_h).v), (19, (.int .i64 ((equations_.length : Nat) : Int))), (20, (.int .i64 ((k5 : Nat) : Int)))]) (fun _ (s439 : List (List Int)) (g440 : Hd) w' => Cx w0 fp0 S0 w' [E (List (List Int)) s439 g440, Es (List (List Int)) equations_ equations_h]) ([] : List (List Int)) h3 e ⟨rfl, rfl, rfl, rfl, rfl, rfl, trivial⟩ (H.sel [0, 1] rfl) ?_ ?_
  · clear H e
    rintro T446 k5 s439 g440 w445 o447 hk (H : Cx w0 fp0 S0 w445 [E (List (List Int)) s439 g440, Es (List (List Int)) equations_ equations_h]) hF448
    refine boolE (z := true) (ltLen hk) ?_
    refine sq ?_
    refine sq ?_
    obtain ⟨a455, e, hF456⟩ := bindS hF448; clear hF448
    have HH := H; clear H; obtain ⟨p453, m454, h457, c449, c450, c451, c452, H⟩ := HH.elL 1 rfl e; clear HH
    clear e
    refine idxE c449 c450 c451 ?_; clear c449 c450 c451
    refine load1 c452 ?_; clear c452
    refine lit0 (α := Int) gok rfl rfl H ?_; clear H; intro h460 w459 hx H
    clear hx
    obtain ⟨r549, hF551, hF550⟩ := bindS hF456; clear hF456
    refine cut (fun (q552 : List Int × Hd) => [(0, (.int .i64 p_)), (2, (.int .i64 n_)), (8, (g440).v), (10, (h457).v), (11, (q552.2).v), (18, (equations_h).v), (19, (.int .i64 ((equations_.length : Nat) : Int))), (20, (.int .i64 ((k5 : Nat) : Int)))]) (fun (q552 : List Int × Hd) w' => q552.1 = r549 ∧ Cx w0 fp0 S0 w' [E (List (List Int)) s439 g440, Es (List Int) a455 h457, E (List Int) q552.1 q552.2, Es (List (List Int)) equations_ equations_h]) ?_ ?_
    · skip
      obtain ⟨a553, e, hF554⟩ := bindS hF551; clear hF551
      refine arO e ?_; clear e
      refine loopW _ (fun (s604 : List Int × Int) (g605 : Hd) => [(0, (.int .i64 p_)), (2, (.int .i64 n_)), (8, (g440).v), (10, (h457).v), (11, (g605).v), (12, (.int .i64 s604.2)), (18, (equations_h).v), (19, (.int .i64 ((equations_.length : Nat) : Int))), (20, (.int .i64 ((k5 : Nat) : Int)))]) (fun (s604 : List Int × Int) (g605 : Hd) w' => Cx w0 fp0 S0 w' [E (List (List Int)) s439 g440, Es (List Int) a455 h457, E (List Int) s604.1 g605, Es (List (List Int)) equations_ equations_h]) (([] : List Int), a553) h460 hF554 ⟨rfl, rfl, rfl, rfl, rfl, rfl, rfl, rfl, rfl, trivial⟩ (H.sel [2, 1, 0, 3] rfl) ?_
      · clear H
        rintro T611 ⟨s604_0, s604_1⟩ g605 w610 o612 (H : Cx w0 fp0 S0 w610 [E (List (List Int)) s439 g440, Es (List Int) a455 h457, E (List Int) s604_0 g605, Es (List (List Int)) equations_ equations_h]) hrt hF613
        refine sq ?_
        obtain ⟨a614, e, hF615⟩ := bindS hF613; clear hF613
        refine boolO e ?_; clear e
        cases a614
        · have hF616 := condF hF615; clear hF615
          have hs := Option.some.inj hF616; subst hs; clear hF616
          have hF617 : some _ = some _ := congrArg some (hrt _ rfl).symm
          exact ⟨(s604_0, g605), ⟨rfl, rfl, rfl, rfl, rfl, rfl, rfl, rfl, trivial⟩, Option.some.inj hF617, H.sel [0, 1, 2, 3] rfl⟩
        · have hF618 := condT hF615; clear hF615
          refine sq ?_
          obtain ⟨a625, e, hF626⟩ := bindS hF618; clear hF618
          obtain ⟨p623, m624, c619, c620, c621, c622⟩ := (H.rs (α := List Int) 1 rfl).at1 e; clear e
          refine idxE c619 c620 c621 ?_; clear c619 c620 c621
          refine load1 c622 ?_; clear c622
          refine lit1S (α := Int) gok rfl rfl rfl rfl H ?_; clear H; intro h628 w627 hx H
          clear hx
          obtain ⟨a630, e, hF631⟩ := bindS hF626; clear hF626
          replace H := H.sel [3, 0, 1, 2, 4] rfl
          refine append_ (α := Int) gok rfl rfl rfl rfl H e ?_; clear e H; intro h633 w632 H
          obtain ⟨a635, e, hF636⟩ := bindS hF631; clear hF631
          refine arO e ?_; clear e
          have hs := Option.some.inj hF636; subst hs; clear hF636
          exact ⟨(a630, a635), h633, rfl, ⟨rfl, rfl, rfl, rfl, rfl, rfl, rfl, rfl, rfl, trivial⟩, H.sel [1, 2, 0, 3] rfl⟩
    · clear hF551 H
      rintro T638 ⟨s546, g547⟩ w637 ⟨hr, (H : Cx w0 fp0 S0 w637 [E (List (List Int)) s439 g440, Es (List Int) a455 h457, E (List Int) s546 g547, Es (List (List Int)) equations_ equations_h])⟩
      subst hr
      obtain ⟨a645, e, hF646⟩ := bindS hF550; clear hF550
      obtain ⟨p643, m644, c639, c640, c641, c642⟩ := (H.rs (α := List Int) 1 rfl).at1 e; clear e
      refine idxE c639 c640 c641 ?_; clear c639 c640 c641
      refine load1 c642 ?_; clear c642
      refine lit1S (α := Int) gok rfl rfl rfl rfl H ?_; clear H; intro h648 w647 hx H
      clear hx
      obtain ⟨a650, e, hF651⟩ := bindS hF646; clear hF646
      replace H := H.sel [3, 0, 1, 2, 4] rfl
      refine append_ (α := Int) gok rfl rfl rfl rfl H e ?_; clear e H; intro h653 w652 H
      refine lit1 (α := List Int) (g := h653) gok rfl rfl rfl rfl rfl H ?_; clear H; intro h656 w655 hx H
      clear hx
      obtain ⟨a658, e, hF659⟩ := bindS hF651; clear hF651
      replace H := H.sel [1, 0, 2, 3] rfl
      refine append_ (α := List Int) gok rfl rfl rfl rfl H e ?_; clear e H; intro h661 w660 H
      refine arK hk hmx442 ?_
      have hs := Option.some.inj hF659; subst hs; clear hF659
      exact ⟨h661, ⟨rfl, rfl, rfl, rfl, rfl, rfl, trivial⟩, H.sel [0, 2] rfl⟩
  · clear H e
    rintro T664 g666 w663 (H : Cx w0 fp0 S0 w663 [E (List (List Int)) r443 g666, Es (List (List Int)) equations_ equations_h])
    refine boolE (z := false) geLen ?_
    refine sq ?_
    obtain ⟨y668, e, hF669⟩ := bindS hF444; clear hF444
    have ey668 := e; clear e
    refine callF (impl_zeros_c n_ y668 ey668) (Γi := []) H trivial ?_; clear H ey668
    rintro _ _ w670 ⟨h671, rfl, rfl⟩ (H : Cx w0 fp0 S0 w670 [E (List Int) y668 h671, E (List (List Int)) r443 g666, Es (List (List Int)) equations_ equations_h])
    refine sq ?_
    obtain ⟨a673, e, hF674⟩ := bindS hF669; clear hF669
    refine arO e ?_; clear e
    obtain ⟨y675, e, hF676⟩ := bindS hF674; clear hF674
    have ey675 := e; clear e
    refine callF (impl_reduced_c p_ r443 g666 a673 y675 ey675) (Γi := []) H ⟨Vw.own 1 rfl, trivial⟩ ?_; clear H ey675
    rintro _ _ w677 ⟨h678, rfl, rfl⟩ (H : Cx w0 fp0 S0 w677 [E (List (List Int)) y675 h678, E (List Int) y668 h671, E (List (List Int)) r443 g666, Es (List (List Int)) equations_ equations_h])
    refine lenE (H.ro (α := List (List Int)) 0 rfl).len ?_
    replace H := H.frz
    have hmx803 := (H.rs (α := List (List Int)) 0 rfl).max
    obtain ⟨r804, e, hF805⟩ := bindS hF676; clear hF676
    refine loopO _ y675.length (fun (k680 : Nat) (s801 : List Int) (_ : Unit) => [(2, (.int .i64 n_)), (13, (h671).v), (55, (h678).v), (56, (.int .i64 ((y675.length : Nat) : Int))), (57, (.int .i64 ((k680 : Nat) : Int)))]) (fun _ (s801 : List Int) (_ : Unit) w' => Cx w0 fp0 S0 w' [E (List Int) s801 h671, Es (List (List Int)) y675 h678]) y668 () e ⟨rfl, rfl, rfl, rfl, rfl, trivial⟩ (H.sel [1, 0] rfl) ?_ ?_
    · clear H e
      rintro T807 k680 s801 _ w806 o808 hk (H : Cx w0 fp0 S0 w806 [E (List Int) s801 h671, Es (List (List Int)) y675 h678]) hrt hF809
      refine boolE (z := true) (ltLen hk) ?_
      refine sq ?_
      refine sq ?_
      obtain ⟨a816, e, hF817⟩ := bindS hF809; clear hF809
      have HH := H; clear H; obtain ⟨p814, m815, h818, c810, c811, c812, c813, H⟩ := HH.elL 1 rfl e; clear HH
      clear e
      refine idxE c810 c811 c812 ?_; clear c810 c811 c812
      refine load1 c813 ?_; clear c813
      obtain ⟨y820, e, hF821⟩ := bindS hF817; clear hF817
      have ey820 := e; clear e
      refine callF (impl_lead_c a816 h818 y820 ey820) (Γi := []) H ⟨Vw.sh 0 rfl, trivial⟩ ?_; clear H ey820
      rintro _ _ w822 ⟨rfl, rfl⟩ (H : Cx w0 fp0 S0 w822 [Es (List Int) a816 h818, E (List Int) s801 h671, Es (List (List Int)) y675 h678])
      refine sq ?_
      obtain ⟨a823, e, hF824⟩ := bindS hF821; clear hF821
      refine boolO e ?_; clear e
      cases a823
      · have hF825 := condF hF824; clear hF824
        obtain ⟨a826, e, hF827⟩ := bindS hF825; clear hF825
        refine arO e ?_; clear e
        obtain ⟨a828, e, hF829⟩ := bindS hF827; clear hF827
        refine arO e ?_; clear e
        obtain ⟨a836, e, hF837⟩ := bindS hF829; clear hF829
        obtain ⟨p834, m835, c830, c831, c832, c833⟩ := (H.rs (α := List Int) 0 rfl).at1 e; clear e
        refine idxE c830 c831 c832 ?_; clear c830 c831 c832
        refine load1 c833 ?_; clear c833
        obtain ⟨a844, e, hF845⟩ := bindS hF837; clear hF837
        have ea844 := e; clear e
        obtain ⟨p842, m843, c838, c839, c840⟩ := (H.ro (α := List Int) 1 rfl).setp ea844
        refine idxE c838 c839 c840 ?_
        replace H := H.sel [1, 0, 2] rfl
        refine setS (α := Int) H c838 c839 ea844 ?_; clear H c838 c839 c840 ea844; intro w846 H
        refine arK hk hmx803 ?_
        have hs := Option.some.inj hF845; subst hs; clear hF845
        exact ⟨a844, (), rfl, ⟨rfl, rfl, rfl, rfl, rfl, trivial⟩, H.sel [0, 2] rfl⟩
      · have hF847 := condT hF824; clear hF824
        have hs := Option.some.inj hF847; subst hs; clear hF847
        have hr := hrt _ rfl; subst hr
        have hF848 : some _ = some _ := hF805
        replace H := H.nil (α := Int)
        cases hF848
        exact ⟨_, _, rfl, ⟨nilH, rfl, rfl⟩, (H.sel [0] rfl).close ⟨cloE, trivial⟩⟩
    · clear H e
      rintro T851 s852 _ w850 hr (H : Cx w0 fp0 S0 w850 [E (List Int) s852 h671, Es (List (List Int)) y675 h678])
      subst hr
      refine boolE (z := false) geLen ?_
      refine sq ?_
      cases hF805
      exact ⟨_, _, rfl, ⟨h671, rfl, rfl⟩, (H.sel [0] rfl).close ⟨cloE, trivial⟩⟩

theorem impl_recurrenceOfLength_c (p_ : Int) (s_ : List Int) (s_h : Hd) (m_ : Int) (y0 : List Int) (y1 : Bool) (hF : F_impl_recurrenceOfLength p_ s_ m_ = some (y0, y1)) :
    ConF Tryd.prog 105 #[(.int .i64 p_), (s_h).v, (.int .i64 m_)] [Es (List Int) s_ s_h] [] (fun v Γ' => ∃ z0 : Hd, v = (.tuple #[(z0).v, (.bool y1)]) ∧ Γ' = [E (List Int) y0 z0]) := by
  intro w0 S0 fp0 hI hS
  have H : Cx w0 fp0 S0 w0 [Es (List Int) s_ s_h] := Cx.start hI hS
  clear hI hS
  refine enterC (args := [_, _, _]) gok Tryd.func105 rfl _ rfl rfl rfl ?_
  refine lit0 (α := List Int) gok rfl rfl H ?_; clear H; intro h3 w2 hx H
  clear hx
  obtain ⟨r387, hF389, hF388⟩ := bindS hF; clear hF
  refine cut (fun (q390 : List (List Int) × Hd) => [(0, (.int .i64 p_)), (2, (.int .i64 m_)), (8, (q390.2).v)]) (fun (q390 : List (List Int) × Hd) w' => q390.1 = r387 ∧ Cx w0 fp0 S0 w' [E (List (List Int)) q390.1 q390.2]) ?_ ?_
  · skip
    refine loopW _ (fun (s638 : List (List Int) × Int) (g639 : Hd) => [(0, (.int .i64 p_)), (1, (s_h).v), (2, (.int .i64 m_)), (8, (g639).v), (9, (.int .i64 s638.2))]) (fun (s638 : List (List Int) × Int) (g639 : Hd) w' => Cx w0 fp0 S0 w' [Es (List Int) s_ s_h, E (List (List Int)) s638.1 g639]) (([] : List (List Int)), m_) h3 hF389 ⟨rfl, rfl, rfl, rfl, rfl, trivial⟩ (H.sel [1, 0] rfl) ?_
    · clear H
      rintro T645 ⟨s638_0, s638_1⟩ g639 w644 o646 (H : Cx w0 fp0 S0 w644 [Es (List Int) s_ s_h, E (List (List Int)) s638_0 g639]) hrt hF647
      refine sq ?_
      refine lenE (H.rs (α := List Int) 0 rfl).len ?_
      obtain ⟨a648, e, hF649⟩ := bindS hF647; clear hF647
      refine boolO e ?_; clear e
      cases a648
      · have hF650 := condF hF649; clear hF649
        have hs := Option.some.inj hF650; subst hs; clear hF650
        have hF651 : some _ = some _ := congrArg some (hrt _ rfl).symm
        exact ⟨(s638_0, g639), ⟨rfl, rfl, rfl, trivial⟩, Option.some.inj hF651, H.sel [1] rfl⟩
      · have hF652 := condT hF649; clear hF649
        refine sq ?_
        refine lit0 (α := Int) gok rfl rfl H ?_; clear H; intro h654 w653 hx H
        clear hx
        refine sq ?_
        obtain ⟨a705, hn, hF706⟩ := bindS hF652; clear hF652
        obtain ⟨r708, e, hF709⟩ := bindS hF706; clear hF706
        refine loopS _ m_.toNat (fun (k656 : Nat) (s702 : List Int) (g703 : Hd) => [(0, (.int .i64 p_)), (1, (s_h).v), (2, (.int .i64 m_)), (8, (g639).v), (9, (.int .i64 s638_1)), (10, (g703).v), (21, (.int .i64 m_)), (22, (.int .i64 ((k656 : Nat) : Int)))]) (fun _ (s702 : List Int) (g703 : Hd) w' => Cx w0 fp0 S0 w' [Es (List Int) s_ s_h, E (List (List Int)) s638_0 g639, E (List Int) s702 g703]) ([] : List Int) h654 e ⟨rfl, rfl, rfl, rfl, rfl, rfl, rfl, rfl, trivial⟩ (H.sel [1, 2, 0] rfl) ?_ ?_
        · clear H e
          rintro T711 k656 s702 g703 w710 o712 hk (H : Cx w0 fp0 S0 w710 [Es (List Int) s_ s_h, E (List (List Int)) s638_0 g639, E (List Int) s702 g703]) hF713
          refine boolE (z := true) (ltNat hk) ?_
          refine sq ?_
          refine sq ?_
          obtain ⟨a714, e, hF715⟩ := bindS hF713; clear hF713
          refine arO e ?_; clear e
          obtain ⟨a716, e, hF717⟩ := bindS hF715; clear hF715
          refine arO e ?_; clear e
          obtain ⟨a724, e, hF725⟩ := bindS hF717; clear hF717
          obtain ⟨p722, m723, c718, c719, c720, c721⟩ := (H.rs (α := List Int) 0 rfl).at1 e; clear e
          refine idxE c718 c719 c720 ?_; clear c718 c719 c720
          refine load1 c721 ?_; clear c721
          refine lit1S (α := Int) gok rfl rfl rfl rfl H ?_; clear H; intro h727 w726 hx H
          clear hx
          obtain ⟨a729, e, hF730⟩ := bindS hF725; clear hF725
          replace H := H.sel [3, 0, 1, 2] rfl
          refine append_ (α := Int) gok rfl rfl rfl rfl H e ?_; clear e H; intro h732 w731 H
          refine arK hk (maxI hn) ?_
          have hs := Option.some.inj hF730; subst hs; clear hF730
          exact ⟨h732, ⟨rfl, rfl, rfl, rfl, rfl, rfl, rfl, rfl, trivial⟩, H.sel [1, 2, 0] rfl⟩
        · clear H e
          rintro T735 g737 w734 (H : Cx w0 fp0 S0 w734 [Es (List Int) s_ s_h, E (List (List Int)) s638_0 g639, E (List Int) r708 g737])
          refine boolE (z := false) geNat ?_
          refine sq ?_
          obtain ⟨a745, e, hF746⟩ := bindS hF709; clear hF709
          obtain ⟨p743, m744, c739, c740, c741, c742⟩ := (H.rs (α := List Int) 0 rfl).at1 e; clear e
          refine idxE c739 c740 c741 ?_; clear c739 c740 c741
          refine load1 c742 ?_; clear c742
          obtain ⟨a747, e, hF748⟩ := bindS hF746; clear hF746
          refine arO e ?_; clear e
          obtain ⟨y749, e, hF750⟩ := bindS hF748; clear hF748
          have ey749 := e; clear e
          refine callF (impl_mod_c p_ a747 y749 ey749) (Γi := []) H trivial ?_; clear H ey749
          rintro _ _ w751 ⟨rfl, rfl⟩ (H : Cx w0 fp0 S0 w751 [Es (List Int) s_ s_h, E (List (List Int)) s638_0 g639, E (List Int) r708 g737])
          refine lit1S (α := Int) gok rfl rfl rfl rfl H ?_; clear H; intro h753 w752 hx H
          clear hx
          obtain ⟨a755, e, hF756⟩ := bindS hF750; clear hF750
          replace H := H.sel [3, 0, 1, 2] rfl
          refine append_ (α := Int) gok rfl rfl rfl rfl H e ?_; clear e H; intro h758 w757 H
          refine lit1 (α := List Int) (g := h758) gok rfl rfl rfl rfl rfl H ?_; clear H; intro h761 w760 hx H
          clear hx
          obtain ⟨a763, e, hF764⟩ := bindS hF756; clear hF756
          replace H := H.sel [2, 0, 1] rfl
          refine append_ (α := List Int) gok rfl rfl rfl rfl H e ?_; clear e H; intro h766 w765 H
          obtain ⟨a768, e, hF769⟩ := bindS hF764; clear hF764
          refine arO e ?_; clear e
          have hs := Option.some.inj hF769; subst hs; clear hF769
          exact ⟨(a763, a768), h766, rfl, ⟨rfl, rfl, rfl, rfl, rfl, trivial⟩, H.sel [1, 0] rfl⟩
  · clear hF389 H
    rintro T771 ⟨s384, g385⟩ w770 ⟨hr, (H : Cx w0 fp0 S0 w770 [E (List (List Int)) s384 g385])⟩
    subst hr
    obtain ⟨y772, e, hF773⟩ := bindS hF388; clear hF388
    obtain ⟨y772_0, y772_1⟩ := y772
    have ey772 := e; clear e
    refine callF (impl_firstSolution_c p_ s384 g385 m_ y772_0 y772_1 ey772) (Γi := []) H ⟨Vw.own 0 rfl, trivial⟩ ?_; clear H ey772
    rintro _ _ w774 ⟨h775, rfl, rfl⟩ (H : Cx w0 fp0 S0 w774 [E (List Int) y772_0 h775, E (List (List Int)) s384 g385])
    cases hF773
    exact ⟨_, _, rfl, ⟨h775, rfl, rfl⟩, (H.sel [0] rfl).close ⟨cloE, trivial⟩⟩

theorem impl_ShortestRecurrence_c (p_ : Int) (s_ : List Int) (s_h : Hd) (y0 : List Int) (y1 : Bool) (hF : F_impl_ShortestRecurrence p_ s_ = some (y0, y1)) :
    ConF Tryd.prog 54 #[(.int .i64 p_), (s_h).v] [Es (List Int) s_ s_h, Gl 0 [.int .i64 2, .int .i64 3, .int .i64 5, .int .i64 7]] [] (fun v Γ' => ∃ z0 : Hd, v = (.tuple #[(z0).v, (.bool y1)]) ∧ Γ' = [E (List Int) y0 z0]) := by
  intro w0 S0 fp0 hI hS
  have H : Cx w0 fp0 S0 w0 [Es (List Int) s_ s_h, Gl 0 [.int .i64 2, .int .i64 3, .int .i64 5, .int .i64 7]] := Cx.start hI hS
  clear hI hS
  refine enterC (args := [_, _]) gok Tryd.func54 rfl _ rfl rfl rfl ?_
  refine sq ?_
  obtain ⟨r21, hF23, hF22⟩ := bindS hF; clear hF
  refine cut (fun (q24 : Bool) => [(0, (.int .i64 p_)), (1, (s_h).v), (24, (.bool q24))]) (fun (q24 : Bool) w' => q24 = r21 ∧ Cx w0 fp0 S0 w' [Es (List Int) s_ s_h, Gl 0 [.int .i64 2, .int .i64 3, .int .i64 5, .int .i64 7]]) ?_ ?_
  · skip
    obtain ⟨y25, e, hF26⟩ := bindS hF23; clear hF23
    have ey25 := e; clear e
    refine callF (impl_isField_c p_ y25 ey25) (Γi := []) H ⟨Vw.gl 1 rfl, trivial⟩ ?_; clear H ey25
    rintro _ _ w27 ⟨rfl, rfl⟩ (H : Cx w0 fp0 S0 w27 [Es (List Int) s_ s_h, Gl 0 [.int .i64 2, .int .i64 3, .int .i64 5, .int .i64 7]])
    obtain ⟨a28, e, hF29⟩ := bindS hF26; clear hF26
    refine boolO e ?_; clear e
    cases a28
    · have hF30 := condF hF29; clear hF29
      refine lenE (H.rs (α := List Int) 0 rfl).len ?_
      obtain ⟨a31, e, hF32⟩ := bindS hF30; clear hF30
      refine boolO e ?_; clear e
      cases a31
      · have hF33 := condF hF32; clear hF32
        refine lenE (H.rs (α := List Int) 0 rfl).len ?_
        obtain ⟨y34, e, hF35⟩ := bindS hF33; clear hF33
        have ey34 := e; clear e
        refine callF (impl_isVector_c p_ s_ s_h ((s_.length : Nat) : Int) y34 ey34) (Γi := []) H ⟨Vw.sh 0 rfl, trivial⟩ ?_; clear H ey34
        rintro _ _ w36 ⟨rfl, rfl⟩ (H : Cx w0 fp0 S0 w36 [Es (List Int) s_ s_h, Gl 0 [.int .i64 2, .int .i64 3, .int .i64 5, .int .i64 7]])
        obtain ⟨a37, e, hF38⟩ := bindS hF35; clear hF35
        refine boolO e ?_; clear e
        exact ⟨a37, ⟨rfl, rfl, rfl, trivial⟩, Option.some.inj hF38, H.sel [0, 1] rfl⟩
      · have hF39 := condT hF32; clear hF32
        exact ⟨true, ⟨rfl, rfl, rfl, trivial⟩, Option.some.inj hF39, H.sel [0, 1] rfl⟩
    · have hF40 := condT hF29; clear hF29
      exact ⟨true, ⟨rfl, rfl, rfl, trivial⟩, Option.some.inj hF40, H.sel [0, 1] rfl⟩
  · clear hF23 H
    rintro T42 s19 w41 ⟨hr, (H : Cx w0 fp0 S0 w41 [Es (List Int) s_ s_h, Gl 0 [.int .i64 2, .int .i64 3, .int .i64 5, .int .i64 7]])⟩
    subst hr
    cases s19
    · have hF43 := condF hF22; clear hF22
      refine loopW _ (fun (s66 : Int) (_ : Unit) => [(0, (.int .i64 p_)), (1, (s_h).v), (6, (.int .i64 s66))]) (fun (s66 : Int) (_ : Unit) w' => Cx w0 fp0 S0 w' [Es (List Int) s_ s_h, Gl 0 [.int .i64 2, .int .i64 3, .int .i64 5, .int .i64 7]]) 0 () hF43 ⟨rfl, rfl, rfl, trivial⟩ (H.sel [0, 1] rfl) ?_
      · clear H
        rintro T72 s66 _ w71 o73 (H : Cx w0 fp0 S0 w71 [Es (List Int) s_ s_h, Gl 0 [.int .i64 2, .int .i64 3, .int .i64 5, .int .i64 7]]) hrt hF74
        refine sq ?_
        obtain ⟨y75, e, hF76⟩ := bindS hF74; clear hF74
        obtain ⟨y75_0, y75_1⟩ := y75
        have ey75 := e; clear e
        refine callF (impl_recurrenceOfLength_c p_ s_ s_h s66 y75_0 y75_1 ey75) (Γi := []) H ⟨Vw.sh 0 rfl, trivial⟩ ?_; clear H ey75
        rintro _ _ w77 ⟨h78, rfl, rfl⟩ (H : Cx w0 fp0 S0 w77 [E (List Int) y75_0 h78, Es (List Int) s_ s_h, Gl 0 [.int .i64 2, .int .i64 3, .int .i64 5, .int .i64 7]])
        cases y75_1
        · have hF80 := condF hF76; clear hF76
          obtain ⟨a81, e, hF82⟩ := bindS hF80; clear hF80
          refine arO e ?_; clear e
          have hs := Option.some.inj hF82; subst hs; clear hF82
          exact ⟨a81, (), rfl, ⟨rfl, rfl, rfl, trivial⟩, H.sel [1, 2] rfl⟩
        · have hF83 := condT hF76; clear hF76
          have hs := Option.some.inj hF83; subst hs; clear hF83
          have hF84 : some _ = some _ := congrArg some (hrt _ rfl).symm
          cases hF84
          exact ⟨_, _, rfl, ⟨h78, rfl, rfl⟩, (H.sel [0] rfl).close ⟨cloE, trivial⟩⟩
    · have hF85 := condT hF22; clear hF22
      replace H := H.nil (α := Int)
      cases hF85
      exact ⟨_, _, rfl, ⟨nilH, rfl, rfl⟩, (H.sel [0] rfl).close ⟨cloE, trivial⟩⟩

theorem laws_eqIntS_c (a_ : List Int) (a_h : Hd) (b_ : List Int) (b_h : Hd) (y : Bool) (hF : F_laws_eqIntS a_ b_ = some y) :
    ConF Tryd.prog 35 #[(a_h).v, (b_h).v] [Es (List Int) a_ a_h, Es (List Int) b_ b_h] [] (fun v Γ' => v = (.bool y) ∧ Γ' = []) := by
  intro w0 S0 fp0 hI hS
  have H : Cx w0 fp0 S0 w0 [Es (List Int) a_ a_h, Es (List Int) b_ b_h] := Cx.start hI hS
  clear hI hS
  refine enterC (args := [_, _]) gok Tryd.func35 rfl _ rfl rfl rfl ?_
  refine sq ?_
  refine lenE (H.rs (α := List Int) 0 rfl).len ?_
  refine lenE (H.rs (α := List Int) 1 rfl).len ?_
  obtain ⟨a3, e, hF4⟩ := bindS hF; clear hF
  refine boolO e ?_; clear e
  cases a3
  · have hF5 := condF hF4; clear hF4
    obtain ⟨r104, hF106, hF105⟩ := bindS hF5; clear hF5
    refine cut (fun (q107 : Unit) => []) (fun (q107 : Unit) w' => .inl () = r104 ∧ Cx w0 fp0 S0 w' []) ?_ ?_
    · skip
      refine loopW _ (fun (s166 : Int) (_ : Unit) => [(0, (a_h).v), (1, (b_h).v), (5, (.int .i64 s166))]) (fun (s166 : Int) (_ : Unit) w' => Cx w0 fp0 S0 w' [Es (List Int) a_ a_h, Es (List Int) b_ b_h]) 0 () hF106 ⟨rfl, rfl, rfl, trivial⟩ (H.sel [0, 1] rfl) ?_
      · clear H
        rintro T172 s166 _ w171 o173 (H : Cx w0 fp0 S0 w171 [Es (List Int) a_ a_h, Es (List Int) b_ b_h]) hrt hF174
        refine sq ?_
        refine lenE (H.rs (α := List Int) 0 rfl).len ?_
        obtain ⟨a175, e, hF176⟩ := bindS hF174; clear hF174
        refine boolO e ?_; clear e
        cases a175
        · have hF177 := condF hF176; clear hF176
          have hs := Option.some.inj hF177; subst hs; clear hF177
          have hF178 : some _ = some _ := congrArg some (hrt _ rfl).symm
          exact ⟨(), trivial, Option.some.inj hF178, H.sel [] rfl⟩
        · have hF179 := condT hF176; clear hF176
          refine sq ?_
          refine heldX H [] (.fst 0 (.fst 1 (.fst 2 (.fst 4 (.fst 5 (.fst 6 (.fst 3 (.fst 7 (.fst 8 .done))))))))) mixed [] trivial (by kernel_rfl) ?_
          clear H; intro w180 H
          have hX : Ext w180 w180 := Upd.refl _ _
          have H0 := H
          obtain ⟨a187, e, hF188⟩ := bindS hF179; clear hF179
          obtain ⟨p185, m186, c181, c182, c183, c184⟩ := (H.rs (α := List Int) 0 rfl).at1 e; clear e
          refine idxE c181 c182 c183 ?_; clear c181 c182 c183
          obtain ⟨a195, e, hF196⟩ := bindS hF188; clear hF188
          obtain ⟨p193, m194, c189, c190, c191, c192⟩ := (H.rs (α := List Int) 1 rfl).at1 e; clear e
          refine idxE c189 c190 c191 ?_; clear c189 c190 c191
          refine load1X c184 ?_; clear c184
          refine load1X c192 ?_; clear c192
          obtain ⟨a197, e, hF198⟩ := bindS hF196; clear hF196
          refine boolO e ?_; clear e
          cases a197
          · have hF199 := condF hF198; clear hF198
            obtain ⟨a200, e, hF201⟩ := bindS hF199; clear hF199
            refine arO e ?_; clear e
            have hs := Option.some.inj hF201; subst hs; clear hF201
            exact ⟨a200, (), rfl, ⟨rfl, rfl, rfl, trivial⟩, H.sel [0, 1] rfl⟩
          · have hF202 := condT hF198; clear hF198
            have hs := Option.some.inj hF202; subst hs; clear hF202
            have hF203 : some _ = some _ := congrArg some (hrt _ rfl).symm
            have hs := Option.some.inj hF203; subst hs; clear hF203
            have hF204 : some _ = some _ := hF105; clear hF105
            cases hF204
            exact ⟨_, _, rfl, ⟨rfl, rfl⟩, (H.sel [] rfl).close trivial⟩
    · clear hF106 H
      rintro T206 _ w205 ⟨hr, (H : Cx w0 fp0 S0 w205 [])⟩
      subst hr
      cases hF105
      exact ⟨_, _, rfl, ⟨rfl, rfl⟩, (H.sel [] rfl).close trivial⟩
  · have hF207 := condT hF4; clear hF4
    cases hF207
    exact ⟨_, _, rfl, ⟨rfl, rfl⟩, (H.sel [] rfl).close trivial⟩

theorem laws_markIntS_c (a_ : List Int) (a_h : Hd) (k_ : Int) (y0 : List Int) (y1 : Int) (hF : F_laws_markIntS a_ k_ = some (y0, y1)) :
    ConF Tryd.prog 42 #[(a_h).v, (.int .i64 k_)] [] [E (List Int) a_ a_h] (fun v Γ' => v = (.int .i64 y1) ∧ Γ' = [E (List Int) y0 a_h]) := by
  intro w0 S0 fp0 hI hS
  have H : Cx w0 fp0 S0 w0 [E (List Int) a_ a_h] := Cx.start hI hS
  clear hI hS
  refine enterC (args := [_, _]) gok Tryd.func42 rfl _ rfl rfl rfl ?_
  obtain ⟨r69, hF71, hF70⟩ := bindS hF; clear hF
  refine cut (fun (q72 : List Int × Int) => [(1, (.int .i64 q72.2))]) (fun (q72 : List Int × Int) w' => (q72.1, q72.2) = r69 ∧ Cx w0 fp0 S0 w' [E (List Int) q72.1 a_h]) ?_ ?_
  · skip
    refine loopW _ (fun (s111 : List Int × Int × Int) (_ : Unit) => [(0, (a_h).v), (1, (.int .i64 s111.2.1)), (5, (.int .i64 s111.2.2))]) (fun (s111 : List Int × Int × Int) (_ : Unit) w' => Cx w0 fp0 S0 w' [E (List Int) s111.1 a_h]) (a_, k_, 0) () hF71 ⟨rfl, rfl, rfl, trivial⟩ (H.sel [0] rfl) ?_
    · clear H
      rintro T117 ⟨s111_0, s111_1, s111_2⟩ _ w116 o118 (H : Cx w0 fp0 S0 w116 [E (List Int) s111_0 a_h]) hrt hF119
      refine sq ?_
      refine lenE (H.ro (α := List Int) 0 rfl).len ?_
      obtain ⟨a120, e, hF121⟩ := bindS hF119; clear hF119
      refine boolO e ?_; clear e
      cases a120
      · have hF122 := condF hF121; clear hF121
        have hs := Option.some.inj hF122; subst hs; clear hF122
        have hF123 : some _ = some _ := congrArg some (hrt _ rfl).symm
        exact ⟨(s111_0, s111_1), ⟨rfl, trivial⟩, Option.some.inj hF123, H.sel [0] rfl⟩
      · have hF124 := condT hF121; clear hF121
        refine sq ?_
        obtain ⟨a131, e, hF132⟩ := bindS hF124; clear hF124
        have ea131 := e; clear e
        obtain ⟨p129, m130, c125, c126, c127⟩ := (H.ro (α := List Int) 0 rfl).setp ea131
        refine idxE c125 c126 c127 ?_
        refine setS (α := Int) H c125 c126 ea131 ?_; clear H c125 c126 c127 ea131; intro w133 H
        obtain ⟨a134, e, hF135⟩ := bindS hF132; clear hF132
        refine arO e ?_; clear e
        obtain ⟨a136, e, hF137⟩ := bindS hF135; clear hF135
        refine arO e ?_; clear e
        have hs := Option.some.inj hF137; subst hs; clear hF137
        exact ⟨(a131, a134, a136), (), rfl, ⟨rfl, rfl, rfl, trivial⟩, H.sel [0] rfl⟩
  · clear hF71 H
    rintro T139 ⟨s67_0, s67_1⟩ w138 ⟨hr, (H : Cx w0 fp0 S0 w138 [E (List Int) s67_0 a_h])⟩
    subst hr
    cases hF70
    exact ⟨_, _, rfl, ⟨rfl, rfl⟩, (H.sel [0] rfl).close ⟨cloE, trivial⟩⟩

theorem laws_heldIntS_c (a_ : List Int) (a_h : Hd) (k_ : Int) (y : Int) (hF : F_laws_heldIntS a_ k_ = some y) :
    ConF Tryd.prog 43 #[(a_h).v, (.int .i64 k_)] [Es (List Int) a_ a_h] [] (fun v Γ' => v = (.int .i64 y) ∧ Γ' = []) := by
  intro w0 S0 fp0 hI hS
  have H : Cx w0 fp0 S0 w0 [Es (List Int) a_ a_h] := Cx.start hI hS
  clear hI hS
  refine enterC (args := [_, _]) gok Tryd.func43 rfl _ rfl rfl rfl ?_
  obtain ⟨r79, hF81, hF80⟩ := bindS hF; clear hF
  refine cut (fun (q82 : Int) => [(1, (.int .i64 q82))]) (fun (q82 : Int) w' => .inl q82 = r79 ∧ Cx w0 fp0 S0 w' []) ?_ ?_
  · skip
    refine loopW _ (fun (s127 : Int × Int) (_ : Unit) => [(0, (a_h).v), (1, (.int .i64 s127.1)), (5, (.int .i64 s127.2))]) (fun (s127 : Int × Int) (_ : Unit) w' => Cx w0 fp0 S0 w' [Es (List Int) a_ a_h]) (k_, 0) () hF81 ⟨rfl, rfl, rfl, trivial⟩ (H.sel [0] rfl) ?_
    · clear H
      rintro T133 ⟨s127_0, s127_1⟩ _ w132 o134 (H : Cx w0 fp0 S0 w132 [Es (List Int) a_ a_h]) hrt hF135
      refine sq ?_
      refine lenE (H.rs (α := List Int) 0 rfl).len ?_
      obtain ⟨a136, e, hF137⟩ := bindS hF135; clear hF135
      refine boolO e ?_; clear e
      cases a136
      · have hF138 := condF hF137; clear hF137
        have hs := Option.some.inj hF138; subst hs; clear hF138
        have hF139 : some _ = some _ := congrArg some (hrt _ rfl).symm
        exact ⟨s127_0, ⟨rfl, trivial⟩, Option.some.inj hF139, H.sel [] rfl⟩
      · have hF140 := condT hF137; clear hF137
        refine sq ?_
        refine sq ?_
        obtain ⟨a147, e, hF148⟩ := bindS hF140; clear hF140
        obtain ⟨p145, m146, c141, c142, c143, c144⟩ := (H.rs (α := List Int) 0 rfl).at1 e; clear e
        refine idxE c141 c142 c143 ?_; clear c141 c142 c143
        refine load1 c144 ?_; clear c144
        obtain ⟨a149, e, hF150⟩ := bindS hF148; clear hF148
        refine boolO e ?_; clear e
        cases a149
        · have hF151 := condF hF150; clear hF150
          obtain ⟨a152, e, hF153⟩ := bindS hF151; clear hF151
          refine arO e ?_; clear e
          obtain ⟨a154, e, hF155⟩ := bindS hF153; clear hF153
          refine arO e ?_; clear e
          have hs := Option.some.inj hF155; subst hs; clear hF155
          exact ⟨(a152, a154), (), rfl, ⟨rfl, rfl, rfl, trivial⟩, H.sel [0] rfl⟩
        · have hF156 := condT hF150; clear hF150
          have hs := Option.some.inj hF156; subst hs; clear hF156
          have hF157 : some _ = some _ := congrArg some (hrt _ rfl).symm
          have hs := Option.some.inj hF157; subst hs; clear hF157
          have hF158 : some _ = some _ := hF80; clear hF80
          cases hF158
          exact ⟨_, _, rfl, ⟨rfl, rfl⟩, (H.sel [] rfl).close trivial⟩
  · clear hF81 H
    rintro T160 s77 w159 ⟨hr, (H : Cx w0 fp0 S0 w159 [])⟩
    subst hr
    cases hF80
    exact ⟨_, _, rfl, ⟨rfl, rfl⟩, (H.sel [] rfl).close trivial⟩

theorem laws_FnExactShortestRecurrence_c (aP_ : Int) (aS_ : List Int) (aS_h : Hd) (y : Bool) (hF : F_laws_FnExactShortestRecurrence aP_ aS_ = some y) :
    ConF Tryd.prog 12 #[(.int .i64 aP_), (aS_h).v] [Es (List Int) aS_ aS_h, Gl 0 [.int .i64 2, .int .i64 3, .int .i64 5, .int .i64 7]] [] (fun v Γ' => v = (.bool y) ∧ Γ' = []) := by
  intro w0 S0 fp0 hI hS
  have H : Cx w0 fp0 S0 w0 [Es (List Int) aS_ aS_h, Gl 0 [.int .i64 2, .int .i64 3, .int .i64 5, .int .i64 7]] := Cx.start hI hS
  clear hI hS
  refine enterC (args := [_, _]) gok Tryd.func12 rfl _ rfl rfl rfl ?_
  refine sq ?_
  refine lenE (H.rs (α := List Int) 0 rfl).len ?_
  obtain ⟨a3, e, hF4⟩ := bindS hF; clear hF
  refine boolO e ?_; clear e
  cases a3
  · have hF5 := condF hF4; clear hF4
    obtain ⟨y6, e, hF7⟩ := bindS hF5; clear hF5
    have ey6 := e; clear e
    refine callF (laws_toIntS_c aS_ aS_h y6 ey6) (Γi := []) H ⟨Vw.sh 0 rfl, trivial⟩ ?_; clear H ey6
    rintro _ _ w8 ⟨h9, rfl, rfl⟩ (H : Cx w0 fp0 S0 w8 [E (List Int) y6 h9, Es (List Int) aS_ aS_h, Gl 0 [.int .i64 2, .int .i64 3, .int .i64 5, .int .i64 7]])
    obtain ⟨y11, e, hF12⟩ := bindS hF7; clear hF7
    obtain ⟨y11_0, y11_1⟩ := y11
    have ey11 := e; clear e
    refine callF (spec_ShortestRecurrence_c aP_ y6 h9 y11_0 y11_1 ey11) (Γi := []) H ⟨Vw.own 0 rfl, trivial⟩ ?_; clear H ey11
    rintro _ _ w13 ⟨h14, rfl, rfl⟩ (H : Cx w0 fp0 S0 w13 [E (List Int) y11_0 h14, E (List Int) y6 h9, Es (List Int) aS_ aS_h, Gl 0 [.int .i64 2, .int .i64 3, .int .i64 5, .int .i64 7]])
    obtain ⟨y16, e, hF17⟩ := bindS hF12; clear hF12
    have ey16 := e; clear e
    refine callF (laws_toIntS_c aS_ aS_h y16 ey16) (Γi := []) H ⟨Vw.sh 2 rfl, trivial⟩ ?_; clear H ey16
    rintro _ _ w18 ⟨h19, rfl, rfl⟩ (H : Cx w0 fp0 S0 w18 [E (List Int) y16 h19, E (List Int) y11_0 h14, E (List Int) y6 h9, Es (List Int) aS_ aS_h, Gl 0 [.int .i64 2, .int .i64 3, .int .i64 5, .int .i64 7]])
    obtain ⟨y21, e, hF22⟩ := bindS hF17; clear hF17
    obtain ⟨y21_0, y21_1⟩ := y21
    have ey21 := e; clear e
    refine callF (impl_ShortestRecurrence_c aP_ y16 h19 y21_0 y21_1 ey21) (Γi := []) H ⟨Vw.own 0 rfl, Vw.gl 4 rfl, trivial⟩ ?_; clear H ey21
    rintro _ _ w23 ⟨h24, rfl, rfl⟩ (H : Cx w0 fp0 S0 w23 [E (List Int) y21_0 h24, E (List Int) y16 h19, E (List Int) y11_0 h14, E (List Int) y6 h9, Es (List Int) aS_ aS_h, Gl 0 [.int .i64 2, .int .i64 3, .int .i64 5, .int .i64 7]])
    refine sq ?_
    obtain ⟨r37, hF39, hF38⟩ := bindS hF22; clear hF22
    refine cut (fun (q40 : Bool) => [(0, (.int .i64 aP_)), (1, (aS_h).v), (5, (h14).v), (6, (.bool y11_1)), (7, (h19).v), (8, (h24).v), (9, (.bool y21_1)), (41, (.bool q40))]) (fun (q40 : Bool) w' => q40 = r37 ∧ Cx w0 fp0 S0 w' [Es (List Int) aS_ aS_h, E (List Int) y11_0 h14, E (List Int) y16 h19, E (List Int) y21_0 h24, Gl 0 [.int .i64 2, .int .i64 3, .int .i64 5, .int .i64 7]]) ?_ ?_
    · skip
      obtain ⟨y41, e, hF42⟩ := bindS hF39; clear hF39
      have ey41 := e; clear e
      refine callF (laws_eqIntS_c y21_0 h24 y11_0 h14 y41 ey41) (Γi := []) H ⟨Vw.own 0 rfl, Vw.own 2 rfl, trivial⟩ ?_; clear H ey41
      rintro _ _ w43 ⟨rfl, rfl⟩ (H : Cx w0 fp0 S0 w43 [E (List Int) y21_0 h24, E (List Int) y16 h19, E (List Int) y11_0 h14, E (List Int) y6 h9, Es (List Int) aS_ aS_h, Gl 0 [.int .i64 2, .int .i64 3, .int .i64 5, .int .i64 7]])
      obtain ⟨a44, e, hF45⟩ := bindS hF42; clear hF42
      refine boolO e ?_; clear e
      cases a44
      · have hF46 := condF hF45; clear hF45
        obtain ⟨a47, e, hF48⟩ := bindS hF46; clear hF46
        refine boolO e ?_; clear e
        exact ⟨a47, ⟨rfl, rfl, rfl, rfl, rfl, rfl, rfl, rfl, trivial⟩, Option.some.inj hF48, H.sel [4, 2, 1, 0, 5] rfl⟩
      · have hF49 := condT hF45; clear hF45
        exact ⟨true, ⟨rfl, rfl, rfl, rfl, rfl, rfl, rfl, rfl, trivial⟩, Option.some.inj hF49, H.sel [4, 2, 1, 0, 5] rfl⟩
    · clear hF39 H
      rintro T51 s35 w50 ⟨hr, (H : Cx w0 fp0 S0 w50 [Es (List Int) aS_ aS_h, E (List Int) y11_0 h14, E (List Int) y16 h19, E (List Int) y21_0 h24, Gl 0 [.int .i64 2, .int .i64 3, .int .i64 5, .int .i64 7]])⟩
      subst hr
      cases s35
      · have hF52 := condF hF38; clear hF38
        refine sq ?_
        obtain ⟨y53, e, hF54⟩ := bindS hF52; clear hF52
        have ey53 := e; clear e
        refine callF (laws_toIntS_c aS_ aS_h y53 ey53) (Γi := []) H ⟨Vw.sh 0 rfl, trivial⟩ ?_; clear H ey53
        rintro _ _ w55 ⟨h56, rfl, rfl⟩ (H : Cx w0 fp0 S0 w55 [E (List Int) y53 h56, Es (List Int) aS_ aS_h, E (List Int) y11_0 h14, E (List Int) y16 h19, E (List Int) y21_0 h24, Gl 0 [.int .i64 2, .int .i64 3, .int .i64 5, .int .i64 7]])
        obtain ⟨y58, e, hF59⟩ := bindS hF54; clear hF54
        have ey58 := e; clear e
        refine callF (laws_eqIntS_c y16 h19 y53 h56 y58 ey58) (Γi := []) H ⟨Vw.own 3 rfl, Vw.own 0 rfl, trivial⟩ ?_; clear H ey58
        rintro _ _ w60 ⟨rfl, rfl⟩ (H : Cx w0 fp0 S0 w60 [E (List Int) y53 h56, Es (List Int) aS_ aS_h, E (List Int) y11_0 h14, E (List Int) y16 h19, E (List Int) y21_0 h24, Gl 0 [.int .i64 2, .int .i64 3, .int .i64 5, .int .i64 7]])
        obtain ⟨a61, e, hF62⟩ := bindS hF59; clear hF59
        refine boolO e ?_; clear e
        cases a61
        · have hF63 := condF hF62; clear hF62
          obtain ⟨y64, e, hF65⟩ := bindS hF63; clear hF63
          obtain ⟨y64_0, y64_1⟩ := y64
          have ey64 := e; clear e
          replace H := H.sel [3, 0, 1, 2, 4, 5] rfl
          refine callF (laws_markIntS_c y16 h19 1 y64_0 y64_1 ey64) (Γi := [E (List Int) y16 h19]) H trivial ?_; clear H ey64
          rintro _ _ w66 ⟨rfl, rfl⟩ (H : Cx w0 fp0 S0 w66 [E (List Int) y64_0 h19, E (List Int) y53 h56, Es (List Int) aS_ aS_h, E (List Int) y11_0 h14, E (List Int) y21_0 h24, Gl 0 [.int .i64 2, .int .i64 3, .int .i64 5, .int .i64 7]])
          refine sq ?_
          obtain ⟨r82, hF84, hF83⟩ := bindS hF65; clear hF65
          refine cut (fun (q85 : Bool) => [(0, (.int .i64 aP_)), (1, (aS_h).v), (5, (h14).v), (6, (.bool y11_1)), (8, (h24).v), (62, (.bool q85))]) (fun (q85 : Bool) w' => q85 = r82 ∧ Cx w0 fp0 S0 w' [Es (List Int) aS_ aS_h, E (List Int) y11_0 h14, E (List Int) y21_0 h24, Gl 0 [.int .i64 2, .int .i64 3, .int .i64 5, .int .i64 7]]) ?_ ?_
          · skip
            obtain ⟨a86, e, hF87⟩ := bindS hF84; clear hF84
            refine boolO e ?_; clear e
            cases a86
            · have hF88 := condF hF87; clear hF87
              obtain ⟨y89, e, hF90⟩ := bindS hF88; clear hF88
              have ey89 := e; clear e
              refine callF (laws_eqIntS_c y21_0 h24 y11_0 h14 y89 ey89) (Γi := []) H ⟨Vw.own 4 rfl, Vw.own 3 rfl, trivial⟩ ?_; clear H ey89
              rintro _ _ w91 ⟨rfl, rfl⟩ (H : Cx w0 fp0 S0 w91 [E (List Int) y64_0 h19, E (List Int) y53 h56, Es (List Int) aS_ aS_h, E (List Int) y11_0 h14, E (List Int) y21_0 h24, Gl 0 [.int .i64 2, .int .i64 3, .int .i64 5, .int .i64 7]])
              obtain ⟨a92, e, hF93⟩ := bindS hF90; clear hF90
              refine boolO e ?_; clear e
              cases a92
              · have hF94 := condF hF93; clear hF93
                obtain ⟨a95, e, hF96⟩ := bindS hF94; clear hF94
                refine boolO e ?_; clear e
                exact ⟨a95, ⟨rfl, rfl, rfl, rfl, rfl, rfl, trivial⟩, Option.some.inj hF96, H.sel [2, 3, 4, 5] rfl⟩
              · have hF97 := condT hF93; clear hF93
                exact ⟨true, ⟨rfl, rfl, rfl, rfl, rfl, rfl, trivial⟩, Option.some.inj hF97, H.sel [2, 3, 4, 5] rfl⟩
            · have hF98 := condT hF87; clear hF87
              exact ⟨true, ⟨rfl, rfl, rfl, rfl, rfl, rfl, trivial⟩, Option.some.inj hF98, H.sel [2, 3, 4, 5] rfl⟩
          · clear hF84 H
            rintro T100 s80 w99 ⟨hr, (H : Cx w0 fp0 S0 w99 [Es (List Int) aS_ aS_h, E (List Int) y11_0 h14, E (List Int) y21_0 h24, Gl 0 [.int .i64 2, .int .i64 3, .int .i64 5, .int .i64 7]])⟩
            subst hr
            cases s80
            · have hF101 := condF hF83; clear hF83
              obtain ⟨y102, e, hF103⟩ := bindS hF101; clear hF101
              obtain ⟨y102_0, y102_1⟩ := y102
              have ey102 := e; clear e
              replace H := H.sel [2, 0, 1, 3] rfl
              refine callF (laws_markIntS_c y21_0 h24 1 y102_0 y102_1 ey102) (Γi := [E (List Int) y21_0 h24]) H trivial ?_; clear H ey102
              rintro _ _ w104 ⟨rfl, rfl⟩ (H : Cx w0 fp0 S0 w104 [E (List Int) y102_0 h24, Es (List Int) aS_ aS_h, E (List Int) y11_0 h14, Gl 0 [.int .i64 2, .int .i64 3, .int .i64 5, .int .i64 7]])
              obtain ⟨y105, e, hF106⟩ := bindS hF103; clear hF103
              have ey105 := e; clear e
              refine callF (laws_heldIntS_c y102_0 h24 1 y105 ey105) (Γi := []) H ⟨Vw.own 0 rfl, trivial⟩ ?_; clear H ey105
              rintro _ _ w107 ⟨rfl, rfl⟩ (H : Cx w0 fp0 S0 w107 [E (List Int) y102_0 h24, Es (List Int) aS_ aS_h, E (List Int) y11_0 h14, Gl 0 [.int .i64 2, .int .i64 3, .int .i64 5, .int .i64 7]])
              refine sq ?_
              obtain ⟨a108, e, hF109⟩ := bindS hF106; clear hF106
              refine boolO e ?_; clear e
              cases a108
              · have hF110 := condF hF109; clear hF109
                refine sq ?_
                obtain ⟨a111, e, hF112⟩ := bindS hF110; clear hF110
                refine boolO e ?_; clear e
                cases a111
                · have hF113 := condF hF112; clear hF112
                  obtain ⟨y114, e, hF115⟩ := bindS hF113; clear hF113
                  have ey114 := e; clear e
                  refine callF (laws_toIntS_c aS_ aS_h y114 ey114) (Γi := []) H ⟨Vw.sh 1 rfl, trivial⟩ ?_; clear H ey114
                  rintro _ _ w116 ⟨h117, rfl, rfl⟩ (H : Cx w0 fp0 S0 w116 [E (List Int) y114 h117, E (List Int) y102_0 h24, Es (List Int) aS_ aS_h, E (List Int) y11_0 h14, Gl 0 [.int .i64 2, .int .i64 3, .int .i64 5, .int .i64 7]])
                  obtain ⟨y119, e, hF120⟩ := bindS hF115; clear hF115
                  obtain ⟨y119_0, y119_1⟩ := y119
                  have ey119 := e; clear e
                  refine callF (impl_ShortestRecurrence_c aP_ y114 h117 y119_0 y119_1 ey119) (Γi := []) H ⟨Vw.own 0 rfl, Vw.gl 4 rfl, trivial⟩ ?_; clear H ey119
                  rintro _ _ w121 ⟨h122, rfl, rfl⟩ (H : Cx w0 fp0 S0 w121 [E (List Int) y119_0 h122, E (List Int) y114 h117, E (List Int) y102_0 h24, Es (List Int) aS_ aS_h, E (List Int) y11_0 h14, Gl 0 [.int .i64 2, .int .i64 3, .int .i64 5, .int .i64 7]])
                  refine sq ?_
                  obtain ⟨r135, hF137, hF136⟩ := bindS hF120; clear hF120
                  refine cut (fun (q138 : Bool) => [(8, (h24).v), (11, (.int .i64 y102_1)), (89, (.bool q138))]) (fun (q138 : Bool) w' => q138 = r135 ∧ Cx w0 fp0 S0 w' [E (List Int) y102_0 h24, Gl 0 [.int .i64 2, .int .i64 3, .int .i64 5, .int .i64 7]]) ?_ ?_
                  · skip
                    obtain ⟨y139, e, hF140⟩ := bindS hF137; clear hF137
                    have ey139 := e; clear e
                    refine callF (laws_eqIntS_c y119_0 h122 y11_0 h14 y139 ey139) (Γi := []) H ⟨Vw.own 0 rfl, Vw.own 4 rfl, trivial⟩ ?_; clear H ey139
                    rintro _ _ w141 ⟨rfl, rfl⟩ (H : Cx w0 fp0 S0 w141 [E (List Int) y119_0 h122, E (List Int) y114 h117, E (List Int) y102_0 h24, Es (List Int) aS_ aS_h, E (List Int) y11_0 h14, Gl 0 [.int .i64 2, .int .i64 3, .int .i64 5, .int .i64 7]])
                    obtain ⟨a142, e, hF143⟩ := bindS hF140; clear hF140
                    refine boolO e ?_; clear e
                    cases a142
                    · have hF144 := condF hF143; clear hF143
                      obtain ⟨a145, e, hF146⟩ := bindS hF144; clear hF144
                      refine boolO e ?_; clear e
                      exact ⟨a145, ⟨rfl, rfl, rfl, trivial⟩, Option.some.inj hF146, H.sel [2, 5] rfl⟩
                    · have hF147 := condT hF143; clear hF143
                      exact ⟨true, ⟨rfl, rfl, rfl, trivial⟩, Option.some.inj hF147, H.sel [2, 5] rfl⟩
                  · clear hF137 H
                    rintro T149 s133 w148 ⟨hr, (H : Cx w0 fp0 S0 w148 [E (List Int) y102_0 h24, Gl 0 [.int .i64 2, .int .i64 3, .int .i64 5, .int .i64 7]])⟩
                    subst hr
                    cases s133
                    · have hF150 := condF hF136; clear hF136
                      obtain ⟨y151, e, hF152⟩ := bindS hF150; clear hF150
                      have ey151 := e; clear e
                      refine callF (laws_heldIntS_c y102_0 h24 1 y151 ey151) (Γi := []) H ⟨Vw.own 0 rfl, trivial⟩ ?_; clear H ey151
                      rintro _ _ w153 ⟨rfl, rfl⟩ (H : Cx w0 fp0 S0 w153 [E (List Int) y102_0 h24, Gl 0 [.int .i64 2, .int .i64 3, .int .i64 5, .int .i64 7]])
                      refine sq ?_
                      obtain ⟨a154, e, hF155⟩ := bindS hF152; clear hF152
                      refine boolO e ?_; clear e
                      cases a154
                      · have hF156 := condF hF155; clear hF155
                        refine sq ?_
                        obtain ⟨a157, e, hF158⟩ := bindS hF156; clear hF156
                        refine boolO e ?_; clear e
                        cases a157
                        · have hF159 := condF hF158; clear hF158
                          cases hF159
                          exact ⟨_, _, rfl, ⟨rfl, rfl⟩, (H.sel [] rfl).close trivial⟩
                        · have hF160 := condT hF158; clear hF158
                          cases hF160
                          exact ⟨_, _, rfl, ⟨rfl, rfl⟩, (H.sel [] rfl).close trivial⟩
                      · have hF161 := condT hF155; clear hF155
                        cases hF161
                        exact ⟨_, _, rfl, ⟨rfl, rfl⟩, (H.sel [] rfl).close trivial⟩
                    · have hF162 := condT hF136; clear hF136
                      cases hF162
                      exact ⟨_, _, rfl, ⟨rfl, rfl⟩, (H.sel [] rfl).close trivial⟩
                · have hF163 := condT hF112; clear hF112
                  cases hF163
                  exact ⟨_, _, rfl, ⟨rfl, rfl⟩, (H.sel [] rfl).close trivial⟩
              · have hF164 := condT hF109; clear hF109
                cases hF164
                exact ⟨_, _, rfl, ⟨rfl, rfl⟩, (H.sel [] rfl).close trivial⟩
            · have hF165 := condT hF83; clear hF83
              cases hF165
              exact ⟨_, _, rfl, ⟨rfl, rfl⟩, (H.sel [] rfl).close trivial⟩
        · have hF166 := condT hF62; clear hF62
          cases hF166
          exact ⟨_, _, rfl, ⟨rfl, rfl⟩, (H.sel [] rfl).close trivial⟩
      · have hF167 := condT hF38; clear hF38
        cases hF167
        exact ⟨_, _, rfl, ⟨rfl, rfl⟩, (H.sel [] rfl).close trivial⟩
  · have hF168 := condT hF4; clear hF4
    cases hF168
    exact ⟨_, _, rfl, ⟨rfl, rfl⟩, (H.sel [] rfl).close trivial⟩
end Go.Proofs.YtnlbhdepagkjgaaDoor
