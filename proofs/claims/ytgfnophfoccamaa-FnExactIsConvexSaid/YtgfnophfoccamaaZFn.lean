/-
  Partial functions, printed by a program (wip/y/gen.py): what each function of Go computes, over plain data. No program in sight. No condition.
-/
import Derived.Test.YtgfnophfoccamaaZF
namespace Go.Proofs.Ytgfnophfoccamaa
set_option linter.unusedVariables false

noncomputable def F_laws_szIntS (a_ : List Int) (left_ : Int) : Option Int :=
  (subO left_ ((a_.length : Nat) : Int)).bind fun a2 =>
  (some (decide (a2 < 0))).bind fun a4 =>
  cond a4
  (some (-1))
  (some a2)

noncomputable def F_laws_szEdge (a_ : Int × Int × List Int × List Int) (left_ : Int) : Option Int :=
  (F_laws_szIntS a_.2.2.1 left_).bind fun y6 =>
  (some (decide (y6 < 0))).bind fun a9 =>
  cond a9
  (some (-1))
  ((F_laws_szIntS a_.2.2.2 y6).bind fun y12 =>
    (some (decide (y12 < 0))).bind fun a15 =>
    cond a15
    (some (-1))
    (some y12))

noncomputable def F_laws_szEdgeS (a_ : List (Int × Int × List Int × List Int)) (left_ : Int) : Option Int :=
  (subO left_ ((a_.length : Nat) : Int)).bind fun a2 =>
  (some (decide (a2 < 0))).bind fun a4 =>
  cond a4
  (some (-1))
  (seqO (whileO (fun (s167 : Int × Int) =>
        (some (decide (s167.2 < ((a_.length : Nat) : Int)))).bind fun a176 =>
        cond a176
        ((idxO a_ s167.2).bind fun a187 =>
          (F_laws_szEdge (a187.1, a187.2.1, a187.2.2.1, a187.2.2.2) s167.1).bind fun y195 =>
          (some (decide (y195 < 0))).bind fun a198 =>
          cond a198
          (some (.inr (.inr (-1))))
          ((addO s167.2 1).bind fun a201 =>
            some (.inl (y195, a201))))
        (some (.inr (.inl s167.1)))) (a2, 0)) fun (s103 : Int) =>
    some s103)

noncomputable def F_laws_szGraph (a_ : Int × (List (Int × Int × List Int × List Int)) × List Int × List Int) (left_ : Int) : Option Int :=
  (F_laws_szEdgeS a_.2.1 left_).bind fun y7 =>
  (some (decide (y7 < 0))).bind fun a10 =>
  cond a10
  (some (-1))
  ((F_laws_szIntS a_.2.2.1 y7).bind fun y13 =>
    (some (decide (y13 < 0))).bind fun a16 =>
    cond a16
    (some (-1))
    ((F_laws_szIntS a_.2.2.2 y13).bind fun y19 =>
      (some (decide (y19 < 0))).bind fun a22 =>
      cond a22
      (some (-1))
      (some y19)))

noncomputable def F_laws_szMatch (a_ : List Int × List Int) (left_ : Int) : Option Int :=
  (F_laws_szIntS a_.1 left_).bind fun y6 =>
  (some (decide (y6 < 0))).bind fun a9 =>
  cond a9
  (some (-1))
  ((F_laws_szIntS a_.2 y6).bind fun y12 =>
    (some (decide (y12 < 0))).bind fun a15 =>
    cond a15
    (some (-1))
    (some y12))

noncomputable def F_laws_toIntS (a_ : List Int) : Option (List Int) :=
  (makeO ((a_.length : Nat) : Int) (0 : Int)).bind fun a2 =>
  (whileO (fun (s146 : List Int × Int) =>
      (some (decide (s146.2 < ((a_.length : Nat) : Int)))).bind fun a155 =>
      cond a155
      ((idxO a_ s146.2).bind fun a166 =>
        (setO s146.1 s146.2 a166).bind fun a174 =>
        (addO s146.2 1).bind fun a177 =>
        some (.inl (a174, a177)))
      (some (.inr s146.1))) (a2, 0)).bind fun (s90 : List Int) =>
  some s90

noncomputable def F_laws_toEdge (a_ : Int × Int × List Int × List Int) : Option (Int × Int × List Int × List Int) :=
  (F_laws_toIntS a_.2.2.1).bind fun y14 =>
  (F_laws_toIntS a_.2.2.2).bind fun y20 =>
  some (a_.1, a_.2.1, y14, y20)

noncomputable def F_laws_toEdgeS (a_ : List (Int × Int × List Int × List Int)) : Option (List (Int × Int × List Int × List Int)) :=
  (makeO ((a_.length : Nat) : Int) ((0, 0, [], []) : Int × Int × List Int × List Int)).bind fun a2 =>
  (whileO (fun (s236 : (List (Int × Int × List Int × List Int)) × Int) =>
      (some (decide (s236.2 < ((a_.length : Nat) : Int)))).bind fun a245 =>
      cond a245
      ((idxO a_ s236.2).bind fun a256 =>
        (F_laws_toEdge (a256.1, a256.2.1, a256.2.2.1, a256.2.2.2)).bind fun y264 =>
        (setO s236.1 s236.2 (y264.1, y264.2.1, y264.2.2.1, y264.2.2.2)).bind fun a282 =>
        (addO s236.2 1).bind fun a285 =>
        some (.inl (a282, a285)))
      (some (.inr s236.1))) (a2, 0)).bind fun (s144 : List (Int × Int × List Int × List Int)) =>
  some s144

noncomputable def F_laws_toGraph (a_ : Int × (List (Int × Int × List Int × List Int)) × List Int × List Int) : Option (Int × (List (Int × Int × List Int × List Int)) × List Int × List Int) :=
  (F_laws_toEdgeS a_.2.1).bind fun y14 =>
  (F_laws_toIntS a_.2.2.1).bind fun y20 =>
  (F_laws_toIntS a_.2.2.2).bind fun y26 =>
  some (a_.1, y14, y20, y26)

noncomputable def F_laws_toMatch (a_ : List Int × List Int) : Option (List Int × List Int) :=
  (F_laws_toIntS a_.1).bind fun y12 =>
  (F_laws_toIntS a_.2).bind fun y18 =>
  some (y12, y18)

noncomputable def F_spec_l1In (n_ : Int) (lo_ : Int) (hi_ : Int) : Option Bool :=
  ((some (decide (lo_ ≤ n_))).bind fun a13 =>
    cond a13
    ((some (decide (n_ ≤ hi_))).bind fun a17 =>
      some a17)
    (some false)).bind fun (s7 : Bool) =>
  some s7

noncomputable def F_spec_l1All (l_ : List Int) (lo_ : Int) (hi_ : Int) : Option Bool :=
  seqO (forO (fun (k2 : Nat) (_ : Unit) =>
      (idxO l_ ((k2 : Nat) : Int)).bind fun a35 =>
      (F_spec_l1In a35 lo_ hi_).bind fun y37 =>
      (some (!y37)).bind fun a40 =>
      cond a40
      (some (.inr false))
      (some (.inl ()))) l_.length 0 ()) fun (_ : Unit) =>
  some true

noncomputable def F_spec_tmLeaf (n_ : Int × Int × ByteArray) : Option Bool :=
  ((some (!decide ((n_.2.2 : ByteArray) = .empty))).bind fun a19 =>
    cond a19
    (some true)
    ((F_spec_l1In n_.1 1 14).bind fun y22 =>
      (some (!y22)).bind fun a25 =>
      some a25)).bind fun (s13 : Bool) =>
  cond s13
  (some false)
  ((some (decide (n_.1 = 1))).bind fun a31 =>
    cond a31
    ((F_spec_l1In n_.2.1 0 12).bind fun y62 =>
      some y62)
    (((some (decide (n_.1 = 7))).bind fun a46 =>
        cond a46
        (some true)
        ((some (decide (n_.1 = 13))).bind fun a49 =>
          some a49)).bind fun (s40 : Bool) =>
      cond s40
      ((F_spec_l1In n_.2.1 0 96).bind fun y58 =>
        some y58)
      ((some (decide (n_.2.1 = 0))).bind fun a55 =>
        some a55)))

noncomputable def F_spec_tmKind (kind_ : Int) : Option (Int × Int) :=
  (some (decide (kind_ = 2))).bind fun a1 =>
  cond a1
  (some (2, 2))
  (((some (decide (kind_ = 3))).bind fun a16 =>
      cond a16
      (some true)
      ((some (decide (kind_ = 11))).bind fun a19 =>
        some a19)).bind fun (s10 : Bool) =>
    cond s10
    (some (1, 2))
    (((some (decide (kind_ = 4))).bind fun a37 =>
        cond a37
        (some true)
        ((some (decide (kind_ = 12))).bind fun a40 =>
          some a40)).bind fun (s31 : Bool) =>
      cond s31
      (some (1, 0))
      (((some (decide (kind_ = 5))).bind fun a58 =>
          cond a58
          (some true)
          ((some (decide (kind_ = 9))).bind fun a61 =>
            some a61)).bind fun (s52 : Bool) =>
        cond s52
        (some (2, 1))
        (((some (decide (kind_ = 6))).bind fun a79 =>
            cond a79
            (some true)
            ((some (decide (kind_ = 10))).bind fun a82 =>
              some a82)).bind fun (s73 : Bool) =>
          cond s73
          (some (0, 1))
          (some (1, 1))))))

noncomputable def F_spec_hgEdge (e_ : Int × Int × List Int × List Int) (wires_ : Int) : Option Bool :=
  ((F_spec_l1In e_.1 3 14).bind fun y24 =>
    (some (!y24)).bind fun a27 =>
    cond a27
    (some true)
    ((F_spec_tmLeaf (e_.1, e_.2.1, .empty)).bind fun y30 =>
      (some (!y30)).bind fun a33 =>
      some a33)).bind fun (s18 : Bool) =>
  cond s18
  (some false)
  ((F_spec_tmKind e_.1).bind fun y39 =>
    ((some (decide (((e_.2.2.1.length : Nat) : Int) = y39.1))).bind fun a68 =>
      cond a68
      ((some (decide (((e_.2.2.2.length : Nat) : Int) = y39.2))).bind fun a72 =>
        cond a72
        ((subO wires_ 1).bind fun a76 =>
          (F_spec_l1All e_.2.2.1 0 a76).bind fun y78 =>
          cond y78
          ((subO wires_ 1).bind fun a83 =>
            (F_spec_l1All e_.2.2.2 0 a83).bind fun y85 =>
            some y85)
          (some false))
        (some false))
      (some false)).bind fun (s62 : Bool) =>
    some s62)

noncomputable def F_spec_hgCounts (g_ : Int × (List (Int × Int × List Int × List Int)) × List Int × List Int) : Option (List Int × List Int) :=
  (makeO g_.1 (0 : Int)).bind fun a7 =>
  (makeO g_.1 (0 : Int)).bind fun a12 =>
  (forS (fun (k17 : Nat) (s76 : List Int) =>
      (idxO g_.2.2.1 ((k17 : Nat) : Int)).bind fun a91 =>
      (idxO s76 a91).bind fun a99 =>
      (addO a99 1).bind fun a101 =>
      (setO s76 a91 a101).bind fun a109 =>
      some a109) g_.2.2.1.length 0 a7).bind fun (s114 : List Int) =>
  (forS (fun (k116 : Nat) (s175 : List Int) =>
      (idxO g_.2.2.2 ((k116 : Nat) : Int)).bind fun a190 =>
      (idxO s175 a190).bind fun a198 =>
      (addO a198 1).bind fun a200 =>
      (setO s175 a190 a200).bind fun a208 =>
      some a208) g_.2.2.2.length 0 a12).bind fun (s213 : List Int) =>
  (forS (fun (k215 : Nat) (s652 : List Int × List Int) =>
      (idxO g_.2.1 ((k215 : Nat) : Int)).bind fun a667 =>
      (forS (fun (k679 : Nat) (s738 : List Int) =>
          (idxO a667.2.2.2 ((k679 : Nat) : Int)).bind fun a753 =>
          (idxO s738 a753).bind fun a761 =>
          (addO a761 1).bind fun a763 =>
          (setO s738 a753 a763).bind fun a771 =>
          some a771) a667.2.2.2.length 0 s652.1).bind fun (s776 : List Int) =>
      (forS (fun (k778 : Nat) (s837 : List Int) =>
          (idxO a667.2.2.1 ((k778 : Nat) : Int)).bind fun a852 =>
          (idxO s837 a852).bind fun a860 =>
          (addO a860 1).bind fun a862 =>
          (setO s837 a852 a862).bind fun a870 =>
          some a870) a667.2.2.1.length 0 s652.2).bind fun (s875 : List Int) =>
      some (s776, s875)) g_.2.1.length 0 (s114, s213)).bind fun (s879 : List Int × List Int) =>
  some (s879.1, s879.2)

noncomputable def F_spec_hgValid (g_ : Int × (List (Int × Int × List Int × List Int)) × List Int × List Int) : Option Bool :=
  ((F_spec_l1In g_.1 0 100).bind fun y48 =>
    (some (!y48)).bind fun a51 =>
    cond a51
    (some true)
    ((some (decide ((60 : Int) < ((g_.2.1.length : Nat) : Int)))).bind fun a54 =>
      cond a54
      (some true)
      ((some (decide ((12 : Int) < ((g_.2.2.1.length : Nat) : Int)))).bind fun a57 =>
        cond a57
        (some true)
        ((some (decide ((12 : Int) < ((g_.2.2.2.length : Nat) : Int)))).bind fun a60 =>
          cond a60
          (some true)
          ((subO g_.1 1).bind fun a63 =>
            (F_spec_l1All g_.2.2.1 0 a63).bind fun y65 =>
            (some (!y65)).bind fun a68 =>
            cond a68
            (some true)
            ((subO g_.1 1).bind fun a71 =>
              (F_spec_l1All g_.2.2.2 0 a71).bind fun y73 =>
              (some (!y73)).bind fun a76 =>
              some a76)))))).bind fun (s42 : Bool) =>
  cond s42
  (some false)
  (seqO (forO (fun (k86 : Nat) (_ : Unit) =>
        (idxO g_.2.1 ((k86 : Nat) : Int)).bind fun a129 =>
        (F_spec_hgEdge (a129.1, a129.2.1, a129.2.2.1, a129.2.2.2) g_.1).bind fun y141 =>
        (some (!y141)).bind fun a144 =>
        cond a144
        (some (.inr false))
        (some (.inl ()))) g_.2.1.length 0 ()) fun (_ : Unit) =>
    (F_spec_hgCounts (g_.1, g_.2.1, g_.2.2.1, g_.2.2.2)).bind fun y153 =>
    seqO (forO (fun (k160 : Nat) (_ : Unit) =>
        (idxO y153.1 ((k160 : Nat) : Int)).bind fun a202 =>
        (idxO y153.2 ((k160 : Nat) : Int)).bind fun a210 =>
        (addO a202 a210).bind fun a212 =>
        (some (decide (a212 = 0))).bind fun a214 =>
        cond a214
        (some (.inr false))
        (some (.inl ()))) y153.1.length 0 ()) fun (_ : Unit) =>
    some true)

noncomputable def F_spec_hgMono (g_ : Int × (List (Int × Int × List Int × List Int)) × List Int × List Int) : Option Bool :=
  (F_spec_hgCounts (g_.1, g_.2.1, g_.2.2.1, g_.2.2.2)).bind fun y7 =>
  ((F_spec_l1All y7.1 1 1).bind fun y28 =>
    cond y28
    ((F_spec_l1All y7.2 1 1).bind fun y33 =>
      some y33)
    (some false)).bind fun (s22 : Bool) =>
  some s22

noncomputable def F_spec_IsMonogamous (g_ : Int × (List (Int × Int × List Int × List Int)) × List Int × List Int) : Option Bool :=
  ((F_spec_hgValid (g_.1, g_.2.1, g_.2.2.1, g_.2.2.2)).bind fun y21 =>
    cond y21
    ((F_spec_hgMono (g_.1, g_.2.1, g_.2.2.1, g_.2.2.2)).bind fun y26 =>
      some y26)
    (some false)).bind fun (s15 : Bool) =>
  some s15

noncomputable def F_spec_mtTwo (g_ : Int × (List (Int × Int × List Int × List Int)) × List Int × List Int) (left_ : Int × (List (Int × Int × List Int × List Int)) × List Int × List Int) : Option Bool :=
  ((F_spec_IsMonogamous (g_.1, g_.2.1, g_.2.2.1, g_.2.2.2)).bind fun y27 =>
    cond y27
    ((F_spec_IsMonogamous (left_.1, left_.2.1, left_.2.2.1, left_.2.2.2)).bind fun y32 =>
      some y32)
    (some false)).bind fun (s21 : Bool) =>
  some s21

noncomputable def F_spec_l1Has (l_ : List Int) (n_ : Int) : Option Bool :=
  seqO (forO (fun (k2 : Nat) (_ : Unit) =>
      (idxO l_ ((k2 : Nat) : Int)).bind fun a32 =>
      (some (decide (a32 = n_))).bind fun a34 =>
      cond a34
      (some (.inr true))
      (some (.inl ()))) l_.length 0 ()) fun (_ : Unit) =>
  some false

noncomputable def F_spec_mtDifferent (l_ : List Int) (n_ : Int) : Option Bool :=
  seqO (forO (fun (k2 : Nat) (_ : Unit) =>
      (idxO l_ ((k2 : Nat) : Int)).bind fun a70 =>
      ((subO n_ 1).bind fun a94 =>
        (F_spec_l1In a70 0 a94).bind fun y96 =>
        (some (!y96)).bind fun a99 =>
        cond a99
        (some true)
        ((sliceO l_ 0 ((k2 : Nat) : Int)).bind fun a102 =>
          (F_spec_l1Has a102 a70).bind fun y106 =>
          some y106)).bind fun (s88 : Bool) =>
      cond s88
      (some (.inr false))
      (some (.inl ()))) l_.length 0 ()) fun (_ : Unit) =>
  some true

noncomputable def F_spec_hgList (l_ : List Int) (to_ : List Int) : Option (List Int) :=
  (forS (fun (k3 : Nat) (s58 : List Int) =>
      (idxO l_ ((k3 : Nat) : Int)).bind fun a75 =>
      (idxO to_ a75).bind fun a83 =>
      (appO s58 [a83]).bind fun a88 =>
      some a88) l_.length 0 []).bind fun (s95 : List Int) =>
  some s95

noncomputable def F_spec_l1Same (a_ : List Int) (b_ : List Int) : Option Bool :=
  (some (!decide (((a_.length : Nat) : Int) = ((b_.length : Nat) : Int)))).bind fun a3 =>
  cond a3
  (some false)
  (seqO (forO (fun (k6 : Nat) (_ : Unit) =>
        (idxO a_ ((k6 : Nat) : Int)).bind fun a46 =>
        (idxO b_ ((k6 : Nat) : Int)).bind fun a54 =>
        (some (!decide (a46 = a54))).bind fun a56 =>
        cond a56
        (some (.inr false))
        (some (.inl ()))) a_.length 0 ()) fun (_ : Unit) =>
    some true)

noncomputable def F_spec_mtIs (g_ : Int × (List (Int × Int × List Int × List Int)) × List Int × List Int) (left_ : Int × (List (Int × Int × List Int × List Int)) × List Int × List Int) (m_ : List Int × List Int) : Option Bool :=
  ((some (!decide (((m_.1.length : Nat) : Int) = left_.1))).bind fun a44 =>
    cond a44
    (some true)
    ((some (!decide (((m_.2.length : Nat) : Int) = ((left_.2.1.length : Nat) : Int)))).bind fun a47 =>
      cond a47
      (some true)
      ((F_spec_mtDifferent m_.1 g_.1).bind fun y50 =>
        (some (!y50)).bind fun a53 =>
        cond a53
        (some true)
        ((F_spec_mtDifferent m_.2 ((g_.2.1.length : Nat) : Int)).bind fun y56 =>
          (some (!y56)).bind fun a59 =>
          some a59)))).bind fun (s38 : Bool) =>
  cond s38
  (some false)
  (seqO (forO (fun (k67 : Nat) (_ : Unit) =>
        (idxO left_.2.1 ((k67 : Nat) : Int)).bind fun a202 =>
        (idxO m_.2 ((k67 : Nat) : Int)).bind fun a221 =>
        (idxO g_.2.1 a221).bind fun a229 =>
        ((some (!decide (a202.1 = a229.1))).bind fun a279 =>
          cond a279
          (some true)
          ((some (!decide (a202.2.1 = a229.2.1))).bind fun a282 =>
            cond a282
            (some true)
            ((F_spec_hgList a202.2.2.1 m_.1).bind fun y285 =>
              (F_spec_l1Same y285 a229.2.2.1).bind fun y290 =>
              (some (!y290)).bind fun a293 =>
              cond a293
              (some true)
              ((F_spec_hgList a202.2.2.2 m_.1).bind fun y296 =>
                (F_spec_l1Same y296 a229.2.2.2).bind fun y301 =>
                (some (!y301)).bind fun a304 =>
                some a304)))).bind fun (s272 : Bool) =>
        cond s272
        (some (.inr false))
        (some (.inl ()))) left_.2.1.length 0 ()) fun (_ : Unit) =>
    some true)

noncomputable def F_spec_l1Put (l_ : List Int) (n_ : Int) : Option (List Int) :=
  (whileO (fun (s226 : Int) =>
      ((some (decide (s226 < ((l_.length : Nat) : Int)))).bind fun a255 =>
        cond a255
        ((idxO l_ s226).bind fun a265 =>
          (some (decide (a265 < n_))).bind fun a267 =>
          some a267)
        (some false)).bind fun (s249 : Bool) =>
      cond s249
      ((addO s226 1).bind fun a274 =>
        some (.inl a274))
      (some (.inr s226))) 0).bind fun (s136 : Int) =>
  ((some (decide (s136 < ((l_.length : Nat) : Int)))).bind fun a298 =>
    cond a298
    ((idxO l_ s136).bind fun a308 =>
      (some (decide (a308 = n_))).bind fun a310 =>
      some a310)
    (some false)).bind fun (s292 : Bool) =>
  cond s292
  (some l_)
  ((sliceO l_ 0 s136).bind fun a318 =>
    (appO ([] : List Int) a318).bind fun a322 =>
    (appO a322 [n_]).bind fun a330 =>
    (sliceO l_ s136 ((l_.length : Nat) : Int)).bind fun a335 =>
    (appO a330 a335).bind fun a339 =>
    some a339)

noncomputable def F_spec_hgMeets (a_ : List Int) (b_ : List Int) : Option Bool :=
  seqO (forO (fun (k3 : Nat) (_ : Unit) =>
      (idxO a_ ((k3 : Nat) : Int)).bind fun a34 =>
      (F_spec_l1Has b_ a34).bind fun y36 =>
      cond y36
      (some (.inr true))
      (some (.inl ()))) a_.length 0 ()) fun (_ : Unit) =>
  some false

noncomputable def F_spec_mtReach (g_ : Int × (List (Int × Int × List Int × List Int)) × List Int × List Int) (from_ : List Int) : Option (List Int) :=
  (forS (fun (k8 : Nat) (s41 : List Int) =>
      (idxO from_ ((k8 : Nat) : Int)).bind fun a58 =>
      (F_spec_l1Put s41 a58).bind fun y60 =>
      some y60) from_.length 0 []).bind fun (s67 : List Int) =>
  (whileO (fun (s4834 : List Int × Bool) =>
      cond s4834.2
      ((forS (fun (k4847 : Nat) (s5467 : List Int × Bool) =>
            ((idxO g_.2.1 ((k4847 : Nat) : Int)).bind fun a5641 =>
              (F_spec_hgMeets a5641.2.2.1 s5467.1).bind fun y5653 =>
              (some (!y5653)).bind fun a5656 =>
              cond a5656
              (some (s5467.1, s5467.2))
              ((forS (fun (k5659 : Nat) (s5735 : List Int × Bool) =>
                    (idxO a5641.2.2.2 ((k5659 : Nat) : Int)).bind fun a5751 =>
                    (cond s5735.2
                      (some true)
                      ((F_spec_l1Has s5735.1 a5751).bind fun y5767 =>
                        (some (!y5767)).bind fun a5770 =>
                        some a5770)).bind fun (s5760 : Bool) =>
                    (F_spec_l1Put s5735.1 a5751).bind fun y5775 =>
                    some (y5775, s5760)) a5641.2.2.2.length 0 (s5467.1, s5467.2)).bind fun (s5782 : List Int × Bool) =>
                some (s5782.1, s5782.2))).bind fun (s5628 : List Int × Bool) =>
            some (s5628.1, s5628.2)) g_.2.1.length 0 (s4834.1, false)).bind fun (s5790 : List Int × Bool) =>
        some (.inl (s5790.1, s5790.2)))
      (some (.inr s4834.1))) (s67, true)).bind fun (s2928 : List Int) =>
  some s2928

noncomputable def F_spec_l1Own (l_ : List Int) : Option (List Int) :=
  (appO ([] : List Int) l_).bind fun a5 =>
  some a5

noncomputable def F_spec_tmMirrorKind (kind_ : Int) : Option Int :=
  (F_spec_l1In kind_ 3 8).bind fun y1 =>
  cond y1
  ((addO kind_ 6).bind fun a13 =>
    some a13)
  ((F_spec_l1In kind_ 9 14).bind fun y5 =>
    cond y5
    ((subO kind_ 6).bind fun a10 =>
      some a10)
    (some kind_))

noncomputable def F_spec_hgMirror (g_ : Int × (List (Int × Int × List Int × List Int)) × List Int × List Int) : Option (Int × (List (Int × Int × List Int × List Int)) × List Int × List Int) :=
  ((F_spec_l1Own g_.2.2.2).bind fun y98 =>
    (F_spec_l1Own g_.2.2.1).bind fun y112 =>
    some (g_.1, y98, y112)).bind fun (s74 : Int × List Int × List Int) =>
  (forS (fun (k149 : Nat) (s248 : List (Int × Int × List Int × List Int)) =>
      (idxO g_.2.1 ((k149 : Nat) : Int)).bind fun a265 =>
      (F_spec_tmMirrorKind a265.1).bind fun y278 =>
      (F_spec_l1Own a265.2.2.2).bind fun y281 =>
      (F_spec_l1Own a265.2.2.1).bind fun y286 =>
      (appO s248 [(y278, a265.2.1, y281, y286)]).bind fun a299 =>
      some a299) g_.2.1.length 0 []).bind fun (s307 : List (Int × Int × List Int × List Int)) =>
  some (s74.1, s307, s74.2.1, s74.2.2)

noncomputable def F_spec_mtConvex (g_ : Int × (List (Int × Int × List Int × List Int)) × List Int × List Int) (left_ : Int × (List (Int × Int × List Int × List Int)) × List Int × List Int) (m_ : List Int × List Int) : Option Bool :=
  (F_spec_mtReach (g_.1, g_.2.1, g_.2.2.1, g_.2.2.2) m_.1).bind fun y18 =>
  (F_spec_hgMirror (g_.1, g_.2.1, g_.2.2.1, g_.2.2.2)).bind fun y24 =>
  (F_spec_mtReach (y24.1, y24.2.1, y24.2.2.1, y24.2.2.2) m_.1).bind fun y33 =>
  seqO (forO (fun (k38 : Nat) (_ : Unit) =>
      (idxO g_.2.1 ((k38 : Nat) : Int)).bind fun a114 =>
      ((F_spec_l1Has m_.2 ((k38 : Nat) : Int)).bind fun y147 =>
        (some (!y147)).bind fun a150 =>
        cond a150
        ((F_spec_hgMeets a114.2.2.1 y18).bind fun y154 =>
          cond y154
          ((F_spec_hgMeets a114.2.2.2 y33).bind fun y159 =>
            some y159)
          (some false))
        (some false)).bind fun (s141 : Bool) =>
      cond s141
      (some (.inr false))
      (some (.inl ()))) g_.2.1.length 0 ()) fun (_ : Unit) =>
  some true

noncomputable def F_spec_IsConvex (g_ : Int × (List (Int × Int × List Int × List Int)) × List Int × List Int) (pattern_ : Int × (List (Int × Int × List Int × List Int)) × List Int × List Int) (m_ : List Int × List Int) : Option (Bool × Bool) :=
  ((F_spec_mtTwo (g_.1, g_.2.1, g_.2.2.1, g_.2.2.2) (pattern_.1, pattern_.2.1, pattern_.2.2.1, pattern_.2.2.2)).bind fun y36 =>
    (some (!y36)).bind fun a39 =>
    cond a39
    (some true)
    ((F_spec_mtIs (g_.1, g_.2.1, g_.2.2.1, g_.2.2.2) (pattern_.1, pattern_.2.1, pattern_.2.2.1, pattern_.2.2.2) (m_.1, m_.2)).bind fun y42 =>
      (some (!y42)).bind fun a45 =>
      some a45)).bind fun (s30 : Bool) =>
  cond s30
  (some (false, false))
  ((F_spec_mtConvex (g_.1, g_.2.1, g_.2.2.1, g_.2.2.2) (pattern_.1, pattern_.2.1, pattern_.2.2.1, pattern_.2.2.2) (m_.1, m_.2)).bind fun y51 =>
    some (y51, true))

noncomputable def F_impl_within (n_ : Int) (low_ : Int) (high_ : Int) : Option Bool :=
  ((some (decide (low_ ≤ n_))).bind fun a13 =>
    cond a13
    ((some (decide (n_ ≤ high_))).bind fun a17 =>
      some a17)
    (some false)).bind fun (s7 : Bool) =>
  some s7

noncomputable def F_impl_isGenerator (kind_ : Int) : Option Bool :=
  (F_impl_within kind_ 3 14).bind fun y1 =>
  some y1

noncomputable def F_impl_hasValue (kind_ : Int) : Option Bool :=
  ((some (decide (kind_ = 7))).bind fun a13 =>
    cond a13
    (some true)
    ((some (decide (kind_ = 13))).bind fun a16 =>
      some a16)).bind fun (s7 : Bool) =>
  some s7

noncomputable def F_impl_isGeneratorValue (kind_ : Int) (value_ : Int) : Option Bool :=
  (F_impl_hasValue kind_).bind fun y1 =>
  cond y1
  ((F_impl_within value_ 0 96).bind fun y8 =>
    some y8)
  ((some (decide (value_ = 0))).bind fun a5 =>
    some a5)

noncomputable def F_impl_generatorWires (kind_ : Int) : Option (Int × Int) :=
  (some (decide (kind_ ≤ 8))).bind fun a8 =>
  cond a8
  ((subO kind_ 3).bind fun a25 =>
    (idxO ([(1, 2), (1, 0), (2, 1), (0, 1), (1, 1), (1, 1)] : List (Int × Int)) a25).bind fun a27 =>
    some (a27.1, a27.2))
  ((subO kind_ 9).bind fun a11 =>
    (idxO ([(1, 2), (1, 0), (2, 1), (0, 1), (1, 1), (1, 1)] : List (Int × Int)) a11).bind fun a13 =>
    some (a13.2, a13.1))

noncomputable def F_impl_Edge_isEdge (e_ : Int × Int × List Int × List Int) : Option Bool :=
  ((F_impl_isGenerator e_.1).bind fun y24 =>
    (some (!y24)).bind fun a27 =>
    cond a27
    (some true)
    ((F_impl_isGeneratorValue e_.1 e_.2.1).bind fun y30 =>
      (some (!y30)).bind fun a33 =>
      some a33)).bind fun (s18 : Bool) =>
  cond s18
  (some false)
  ((F_impl_generatorWires e_.1).bind fun y40 =>
    (some (decide (([y40.1, y40.2] : List Int) = [((e_.2.2.1.length : Nat) : Int), ((e_.2.2.2.length : Nat) : Int)]))).bind fun a43 =>
    some a43)

noncomputable def F_impl_Graph_isGraph_1 (list_ : List Int) (c0_ : Int × (List (Int × Int × List Int × List Int)) × List Int × List Int) (c1_ : Bool) (c2_ : List Bool) (c3_ : Int) : Option (Bool × List Bool × Int) :=
  (forS (fun (k10 : Nat) (s199 : Bool × Int × List Bool) =>
      ((idxO list_ ((k10 : Nat) : Int)).bind fun a262 =>
        (subO c0_.1 1).bind fun a264 =>
        (F_impl_within a262 0 a264).bind fun y266 =>
        (some (!y266)).bind fun a269 =>
        cond a269
        (some (false, s199.2.1, s199.2.2))
        ((idxO s199.2.2 a262).bind fun a278 =>
          (some (!a278)).bind fun a280 =>
          cond a280
          ((setO s199.2.2 a262 true).bind fun a290 =>
            (addO s199.2.1 1).bind fun a293 =>
            some (s199.1, a293, a290))
          (some (s199.1, s199.2.1, s199.2.2)))).bind fun (s250 : Bool × Int × List Bool) =>
      some (s250.1, s250.2.1, s250.2.2)) list_.length 0 (c1_, c3_, c2_)).bind fun (s302 : Bool × Int × List Bool) =>
  some (s302.1, s302.2.2, s302.2.1)

noncomputable def F_impl_Graph_lists_impl_Graph_isGraph_1 (g_ : Int × (List (Int × Int × List Int × List Int)) × List Int × List Int) (d0_ : Int × (List (Int × Int × List Int × List Int)) × List Int × List Int) (d1_ : Bool) (d2_ : List Bool) (d3_ : Int) : Option (Bool × List Bool × Int) :=
  (F_impl_Graph_isGraph_1 g_.2.2.1 (d0_.1, d0_.2.1, d0_.2.2.1, d0_.2.2.2) d1_ d2_ d3_).bind fun y15 =>
  (F_impl_Graph_isGraph_1 g_.2.2.2 (d0_.1, d0_.2.1, d0_.2.2.1, d0_.2.2.2) y15.1 y15.2.1 y15.2.2).bind fun y18 =>
  (forS (fun (k21 : Nat) (s74 : Int × Bool × List Bool) =>
      (idxO g_.2.1 ((k21 : Nat) : Int)).bind fun a89 =>
      (F_impl_Graph_isGraph_1 a89.2.2.1 (d0_.1, d0_.2.1, d0_.2.2.1, d0_.2.2.2) s74.2.1 s74.2.2 s74.1).bind fun y101 =>
      (F_impl_Graph_isGraph_1 a89.2.2.2 (d0_.1, d0_.2.1, d0_.2.2.1, d0_.2.2.2) y101.1 y101.2.1 y101.2.2).bind fun y104 =>
      some (y104.2.2, y104.1, y104.2.1)) g_.2.1.length 0 (y18.2.2, y18.1, y18.2.1)).bind fun (s109 : Int × Bool × List Bool) =>
  some (s109.2.1, s109.2.2, s109.1)

noncomputable def F_impl_Graph_isGraph (g_ : Int × (List (Int × Int × List Int × List Int)) × List Int × List Int) : Option Bool :=
  ((F_impl_within g_.1 0 100).bind fun y30 =>
    (some (!y30)).bind fun a33 =>
    cond a33
    (some true)
    ((some (decide ((60 : Int) < ((g_.2.1.length : Nat) : Int)))).bind fun a36 =>
      cond a36
      (some true)
      ((some (decide ((12 : Int) < ((g_.2.2.1.length : Nat) : Int)))).bind fun a39 =>
        cond a39
        (some true)
        ((some (decide ((12 : Int) < ((g_.2.2.2.length : Nat) : Int)))).bind fun a42 =>
          some a42)))).bind fun (s24 : Bool) =>
  cond s24
  (some false)
  (seqO (forO (fun (k50 : Nat) (_ : Unit) =>
        (idxO g_.2.1 ((k50 : Nat) : Int)).bind fun a93 =>
        (F_impl_Edge_isEdge (a93.1, a93.2.1, a93.2.2.1, a93.2.2.2)).bind fun y105 =>
        (some (!y105)).bind fun a108 =>
        cond a108
        (some (.inr false))
        (some (.inl ()))) g_.2.1.length 0 ()) fun (_ : Unit) =>
    (makeO g_.1 (false : Bool)).bind fun a117 =>
    (F_impl_Graph_lists_impl_Graph_isGraph_1 (g_.1, g_.2.1, g_.2.2.1, g_.2.2.2) (g_.1, g_.2.1, g_.2.2.1, g_.2.2.2) true a117 0).bind fun y134 =>
    (cond y134.1
      ((some (decide (y134.2.2 = g_.1))).bind fun a149 =>
        some (true, a149))
      (some (false, false))).bind fun (s141 : Bool × Bool) =>
    some s141.2)

noncomputable def F_impl_joined (lists_ : List (List Int)) : Option (List Int) :=
  (forS (fun (k5 : Nat) (s41 : List Int) =>
      (idxO lists_ ((k5 : Nat) : Int)).bind fun a57 =>
      (appO s41 a57).bind fun a61 =>
      some a61) lists_.length 0 ([] : List Int)).bind fun (s68 : List Int) =>
  some s68

noncomputable def F_impl_isPermutation (list_ : List Int) (n_ : Int) : Option Bool :=
  (some (!decide (((list_.length : Nat) : Int) = n_))).bind fun a2 =>
  cond a2
  (some false)
  ((makeO n_ (false : Bool)).bind fun a5 =>
    seqO (forO (fun (k10 : Nat) (s137 : List Bool) =>
        (idxO list_ ((k10 : Nat) : Int)).bind fun a152 =>
        ((subO n_ 1).bind fun a177 =>
          (F_impl_within a152 0 a177).bind fun y179 =>
          (some (!y179)).bind fun a182 =>
          cond a182
          (some true)
          ((idxO s137 a152).bind fun a191 =>
            some a191)).bind fun (s171 : Bool) =>
        cond s171
        (some (.inr false))
        ((setO s137 a152 true).bind fun a203 =>
          some (.inl a203))) list_.length 0 a5) fun (s210 : List Bool) =>
    some true)

noncomputable def F_impl_occursOnce (n_ : Int) (lists_ : List (List Int)) : Option Bool :=
  (F_impl_joined lists_).bind fun y2 =>
  (F_impl_isPermutation y2 n_).bind fun y7 =>
  some y7

noncomputable def F_impl_Graph_isMonogamous (g_ : Int × (List (Int × Int × List Int × List Int)) × List Int × List Int) : Option Bool :=
  (F_impl_Graph_isGraph (g_.1, g_.2.1, g_.2.2.1, g_.2.2.2)).bind fun y7 =>
  (some (!y7)).bind fun a10 =>
  cond a10
  (some false)
  ((some ([g_.2.2.1], [g_.2.2.2])).bind fun (s38 : List (List Int) × List (List Int)) =>
    (forS (fun (k73 : Nat) (s152 : List (List Int) × List (List Int)) =>
        (idxO g_.2.1 ((k73 : Nat) : Int)).bind fun a169 =>
        (appO s152.1 [a169.2.2.2]).bind fun a185 =>
        (appO s152.2 [a169.2.2.1]).bind fun a194 =>
        some (a185, a194)) g_.2.1.length 0 (s38.1, s38.2)).bind fun (s201 : List (List Int) × List (List Int)) =>
    ((F_impl_occursOnce g_.1 s201.1).bind fun y219 =>
      cond y219
      ((F_impl_occursOnce g_.1 s201.2).bind fun y224 =>
        some y224)
      (some false)).bind fun (s213 : Bool) =>
    some s213)

noncomputable def F_impl_areMonogamous (list_ : List (Int × (List (Int × Int × List Int × List Int)) × List Int × List Int)) : Option Bool :=
  seqO (forO (fun (k2 : Nat) (_ : Unit) =>
      (idxO list_ ((k2 : Nat) : Int)).bind fun a47 =>
      (F_impl_Graph_isMonogamous (a47.1, a47.2.1, a47.2.2.1, a47.2.2.2)).bind fun y61 =>
      (some (!y61)).bind fun a64 =>
      cond a64
      (some (.inr false))
      (some (.inl ()))) list_.length 0 ()) fun (_ : Unit) =>
  some true

noncomputable def F_impl_areDifferent (list_ : List Int) (n_ : Int) : Option Bool :=
  (makeO n_ (false : Bool)).bind fun a2 =>
  seqO (forO (fun (k7 : Nat) (s134 : List Bool) =>
      (idxO list_ ((k7 : Nat) : Int)).bind fun a149 =>
      ((subO n_ 1).bind fun a174 =>
        (F_impl_within a149 0 a174).bind fun y176 =>
        (some (!y176)).bind fun a179 =>
        cond a179
        (some true)
        ((idxO s134 a149).bind fun a188 =>
          some a188)).bind fun (s168 : Bool) =>
      cond s168
      (some (.inr false))
      ((setO s134 a149 true).bind fun a200 =>
        some (.inl a200))) list_.length 0 a2) fun (s207 : List Bool) =>
  some true

noncomputable def F_impl_chosen (v_ : List Int) (at_ : List Int) : Option (List Int) :=
  (makeCO 0 ((at_.length : Nat) : Int) (0 : Int)).bind fun a3 =>
  (forS (fun (k8 : Nat) (s62 : List Int) =>
      (idxO at_ ((k8 : Nat) : Int)).bind fun a78 =>
      (idxO v_ a78).bind fun a86 =>
      (appO s62 [a86]).bind fun a91 =>
      some a91) at_.length 0 a3).bind fun (s98 : List Int) =>
  some s98

noncomputable def F_impl_mapped (list_ : List Int) (to_ : List Int) : Option (List Int) :=
  (F_impl_chosen to_ list_).bind fun y3 =>
  some y3

noncomputable def F_slices_Equal_int_int (s1_ : List Int) (s2_ : List Int) : Option Bool :=
  (some (!decide (((s1_.length : Nat) : Int) = ((s2_.length : Nat) : Int)))).bind fun a3 =>
  cond a3
  (some false)
  (seqO (forO (fun (k6 : Nat) (_ : Unit) =>
        (idxO s1_ ((k6 : Nat) : Int)).bind fun a46 =>
        (idxO s2_ ((k6 : Nat) : Int)).bind fun a54 =>
        (some (!decide (a46 = a54))).bind fun a56 =>
        cond a56
        (some (.inr false))
        (some (.inl ()))) s1_.length 0 ()) fun (_ : Unit) =>
    some true)

noncomputable def F_impl_equalEdges (a_ : Int × Int × List Int × List Int) (b_ : Int × Int × List Int × List Int) : Option Bool :=
  ((some (decide (a_.1 = b_.1))).bind fun a33 =>
    cond a33
    ((some (decide (a_.2.1 = b_.2.1))).bind fun a37 =>
      cond a37
      ((F_slices_Equal_int_int a_.2.2.1 b_.2.2.1).bind fun y41 =>
        cond y41
        ((F_slices_Equal_int_int a_.2.2.2 b_.2.2.2).bind fun y46 =>
          some y46)
        (some false))
      (some false))
    (some false)).bind fun (s27 : Bool) =>
  some s27

noncomputable def F_impl_isMatch (g_ : Int × (List (Int × Int × List Int × List Int)) × List Int × List Int) (pattern_ : Int × (List (Int × Int × List Int × List Int)) × List Int × List Int) (m_ : List Int × List Int) : Option Bool :=
  ((some (!decide (((m_.1.length : Nat) : Int) = pattern_.1))).bind fun a44 =>
    cond a44
    (some true)
    ((some (!decide (((m_.2.length : Nat) : Int) = ((pattern_.2.1.length : Nat) : Int)))).bind fun a47 =>
      cond a47
      (some true)
      ((F_impl_areDifferent m_.1 g_.1).bind fun y50 =>
        (some (!y50)).bind fun a53 =>
        cond a53
        (some true)
        ((F_impl_areDifferent m_.2 ((g_.2.1.length : Nat) : Int)).bind fun y56 =>
          (some (!y56)).bind fun a59 =>
          some a59)))).bind fun (s38 : Bool) =>
  cond s38
  (some false)
  (seqO (forO (fun (k67 : Nat) (_ : Unit) =>
        (idxO pattern_.2.1 ((k67 : Nat) : Int)).bind fun a272 =>
        ((F_impl_mapped a272.2.2.1 m_.1).bind fun y372 =>
          (F_impl_mapped a272.2.2.2 m_.1).bind fun y386 =>
          some (a272.1, a272.2.1, y372, y386)).bind fun (s348 : Int × Int × List Int × List Int) =>
        (idxO m_.2 ((k67 : Nat) : Int)).bind fun a430 =>
        (idxO g_.2.1 a430).bind fun a438 =>
        (F_impl_equalEdges (s348.1, s348.2.1, s348.2.2.1, s348.2.2.2) (a438.1, a438.2.1, a438.2.2.1, a438.2.2.2)).bind fun y446 =>
        (some (!y446)).bind fun a449 =>
        cond a449
        (some (.inr false))
        (some (.inl ()))) pattern_.2.1.length 0 ()) fun (_ : Unit) =>
    some true)

noncomputable def F_impl_clone (list_ : List Int) : Option (List Int) :=
  (appO ([] : List Int) list_).bind fun a5 =>
  some a5

noncomputable def F_slices_Index_int_int (s_ : List Int) (v_ : Int) : Option Int :=
  seqO (forO (fun (k2 : Nat) (_ : Unit) =>
      (idxO s_ ((k2 : Nat) : Int)).bind fun a32 =>
      (some (decide (v_ = a32))).bind fun a34 =>
      cond a34
      (some (.inr ((k2 : Nat) : Int)))
      (some (.inl ()))) s_.length 0 ()) fun (_ : Unit) =>
  some (-1)

noncomputable def F_slices_Contains_int_int (s_ : List Int) (v_ : Int) : Option Bool :=
  (F_slices_Index_int_int s_ v_).bind fun y2 =>
  (some (decide ((0 : Int) ≤ y2))).bind fun a5 =>
  some a5

noncomputable def F_impl_Graph_reachable (g_ : Int × (List (Int × Int × List Int × List Int)) × List Int × List Int) (wires_ : List Int) : Option (List Bool) :=
  (makeO g_.1 (false : Bool)).bind fun a8 =>
  (F_impl_clone wires_).bind fun y13 =>
  (whileO (fun (s745 : List Bool × List Int) =>
      (some (decide ((0 : Int) < ((s745.2.length : Nat) : Int)))).bind fun a755 =>
      cond a755
      ((idxO s745.2 0).bind fun a766 =>
        (sliceO s745.2 1 ((s745.2.length : Nat) : Int)).bind fun a768 =>
        (idxO s745.1 a766).bind fun a778 =>
        cond a778
        (some (.inl (s745.1, a768)))
        ((setO s745.1 a766 true).bind fun a787 =>
          (forS (fun (k790 : Nat) (s852 : List Int) =>
              (idxO g_.2.1 ((k790 : Nat) : Int)).bind fun a868 =>
              (F_slices_Contains_int_int a868.2.2.1 a766).bind fun y880 =>
              cond y880
              ((appO s852 a868.2.2.2).bind fun a885 =>
                some a885)
              (some s852)) g_.2.1.length 0 a768).bind fun (s892 : List Int) =>
          some (.inl (a787, s892))))
      (some (.inr s745.1))) (a8, y13)).bind fun (s454 : List Bool) =>
  some s454

noncomputable def F_impl_isConvex_1 (w_ : Int) (c0_ : List Bool) : Option Bool :=
  (idxO c0_ w_).bind fun a9 =>
  some a9

noncomputable def F_slices_IndexFunc_int_int_impl_isConvex_1 (s_ : List Int) (d0_ : List Bool) : Option Int :=
  seqO (forO (fun (k4 : Nat) (_ : Unit) =>
      (idxO s_ ((k4 : Nat) : Int)).bind fun a35 =>
      (F_impl_isConvex_1 a35 d0_).bind fun y37 =>
      cond y37
      (some (.inr ((k4 : Nat) : Int)))
      (some (.inl ()))) s_.length 0 ()) fun (_ : Unit) =>
  some (-1)

noncomputable def F_slices_ContainsFunc_int_int_impl_isConvex_1 (s_ : List Int) (d0_ : List Bool) : Option Bool :=
  (F_slices_IndexFunc_int_int_impl_isConvex_1 s_ d0_).bind fun y4 =>
  (some (decide ((0 : Int) ≤ y4))).bind fun a7 =>
  some a7

noncomputable def F_impl_isConvex (g_ : Int × (List (Int × Int × List Int × List Int)) × List Int × List Int) (m_ : List Int × List Int) : Option Bool :=
  (F_impl_Graph_reachable (g_.1, g_.2.1, g_.2.2.1, g_.2.2.2) m_.1).bind fun y12 =>
  seqO (forO (fun (k21 : Nat) (_ : Unit) =>
      seqO ((idxO g_.2.1 ((k21 : Nat) : Int)).bind fun a432 =>
        ((F_slices_Contains_int_int m_.2 ((k21 : Nat) : Int)).bind fun y460 =>
          cond y460
          (some true)
          ((F_slices_ContainsFunc_int_int_impl_isConvex_1 a432.2.2.1 y12).bind fun y464 =>
            (some (!y464)).bind fun a467 =>
            some a467)).bind fun (s454 : Bool) =>
        cond s454
        (some (.inl ()))
        ((F_impl_Graph_reachable (g_.1, g_.2.1, g_.2.2.1, g_.2.2.2) a432.2.2.2).bind fun y473 =>
          seqO (forO (fun (k478 : Nat) (_ : Unit) =>
              (idxO y473 ((k478 : Nat) : Int)).bind fun a524 =>
              (cond a524
                ((F_slices_Contains_int_int m_.1 ((k478 : Nat) : Int)).bind fun y539 =>
                  some y539)
                (some false)).bind fun (s531 : Bool) =>
              cond s531
              (some (.inr (.inr (.inr false))))
              (some (.inl ()))) y473.length 0 ()) fun (_ : Unit) =>
          some (.inl ()))) fun (s420 : Unit) =>
      some (.inl ())) g_.2.1.length 0 ()) fun (_ : Unit) =>
  some true

noncomputable def F_impl_IsConvex (g_ : Int × (List (Int × Int × List Int × List Int)) × List Int × List Int) (pattern_ : Int × (List (Int × Int × List Int × List Int)) × List Int × List Int) (m_ : List Int × List Int) : Option (Bool × Bool) :=
  ((F_impl_areMonogamous [(g_.1, g_.2.1, g_.2.2.1, g_.2.2.2), (pattern_.1, pattern_.2.1, pattern_.2.2.1, pattern_.2.2.2)]).bind fun y70 =>
    (some (!y70)).bind fun a73 =>
    cond a73
    (some true)
    ((F_impl_isMatch (g_.1, g_.2.1, g_.2.2.1, g_.2.2.2) (pattern_.1, pattern_.2.1, pattern_.2.2.1, pattern_.2.2.2) (m_.1, m_.2)).bind fun y76 =>
      (some (!y76)).bind fun a79 =>
      some a79)).bind fun (s47 : Bool) =>
  cond s47
  (some (false, false))
  ((F_impl_isConvex (g_.1, g_.2.1, g_.2.2.1, g_.2.2.2) (m_.1, m_.2)).bind fun y85 =>
    some (y85, true))

noncomputable def F_laws_eqIntS (a_ : List Int) (b_ : List Int) : Option Bool :=
  (some (!decide (((a_.length : Nat) : Int) = ((b_.length : Nat) : Int)))).bind fun a3 =>
  cond a3
  (some false)
  (seqO (whileO (fun (s166 : Int) =>
        (some (decide (s166 < ((a_.length : Nat) : Int)))).bind fun a175 =>
        cond a175
        ((idxO a_ s166).bind fun a187 =>
          (idxO b_ s166).bind fun a195 =>
          (some (!decide (a187 = a195))).bind fun a197 =>
          cond a197
          (some (.inr (.inr false)))
          ((addO s166 1).bind fun a200 =>
            some (.inl a200)))
        (some (.inr (.inl ())))) 0) fun (s102 : Unit) =>
    some true)

noncomputable def F_laws_eqEdge (a_ : Int × Int × List Int × List Int) (b_ : Int × Int × List Int × List Int) : Option Bool :=
  (some (!decide (a_.1 = b_.1))).bind fun a11 =>
  cond a11
  (some false)
  ((some (!decide (a_.2.1 = b_.2.1))).bind fun a14 =>
    cond a14
    (some false)
    ((F_laws_eqIntS a_.2.2.1 b_.2.2.1).bind fun y17 =>
      (some (!y17)).bind fun a20 =>
      cond a20
      (some false)
      ((F_laws_eqIntS a_.2.2.2 b_.2.2.2).bind fun y23 =>
        (some (!y23)).bind fun a26 =>
        cond a26
        (some false)
        (some true))))

noncomputable def F_laws_eqEdgeS (a_ : List (Int × Int × List Int × List Int)) (b_ : List (Int × Int × List Int × List Int)) : Option Bool :=
  (some (!decide (((a_.length : Nat) : Int) = ((b_.length : Nat) : Int)))).bind fun a3 =>
  cond a3
  (some false)
  (seqO (whileO (fun (s241 : Int) =>
        (some (decide (s241 < ((a_.length : Nat) : Int)))).bind fun a250 =>
        cond a250
        ((idxO a_ s241).bind fun a262 =>
          (idxO b_ s241).bind fun a276 =>
          (F_laws_eqEdge (a262.1, a262.2.1, a262.2.2.1, a262.2.2.2) (a276.1, a276.2.1, a276.2.2.1, a276.2.2.2)).bind fun y284 =>
          (some (!y284)).bind fun a287 =>
          cond a287
          (some (.inr (.inr false)))
          ((addO s241 1).bind fun a290 =>
            some (.inl a290)))
        (some (.inr (.inl ())))) 0) fun (s147 : Unit) =>
    some true)

noncomputable def F_laws_eqGraph (a_ : Int × (List (Int × Int × List Int × List Int)) × List Int × List Int) (b_ : Int × (List (Int × Int × List Int × List Int)) × List Int × List Int) : Option Bool :=
  (some (!decide (a_.1 = b_.1))).bind fun a13 =>
  cond a13
  (some false)
  ((F_laws_eqEdgeS a_.2.1 b_.2.1).bind fun y16 =>
    (some (!y16)).bind fun a19 =>
    cond a19
    (some false)
    ((F_laws_eqIntS a_.2.2.1 b_.2.2.1).bind fun y22 =>
      (some (!y22)).bind fun a25 =>
      cond a25
      (some false)
      ((F_laws_eqIntS a_.2.2.2 b_.2.2.2).bind fun y28 =>
        (some (!y28)).bind fun a31 =>
        cond a31
        (some false)
        (some true))))

noncomputable def F_laws_eqMatch (a_ : List Int × List Int) (b_ : List Int × List Int) : Option Bool :=
  (F_laws_eqIntS a_.1 b_.1).bind fun y11 =>
  (some (!y11)).bind fun a14 =>
  cond a14
  (some false)
  ((F_laws_eqIntS a_.2 b_.2).bind fun y17 =>
    (some (!y17)).bind fun a20 =>
    cond a20
    (some false)
    (some true))

noncomputable def F_laws_FnExactIsConvex (aG_ : Int × (List (Int × Int × List Int × List Int)) × List Int × List Int) (aPattern_ : Int × (List (Int × Int × List Int × List Int)) × List Int × List Int) (aM_ : List Int × List Int) : Option Bool :=
  (F_laws_szGraph (aG_.1, aG_.2.1, aG_.2.2.1, aG_.2.2.2) 1048576).bind fun y18 =>
  (some (decide (y18 < 0))).bind fun a21 =>
  cond a21
  (some true)
  ((F_laws_szGraph (aPattern_.1, aPattern_.2.1, aPattern_.2.2.1, aPattern_.2.2.2) y18).bind fun y24 =>
    (some (decide (y24 < 0))).bind fun a27 =>
    cond a27
    (some true)
    ((F_laws_szMatch (aM_.1, aM_.2) y24).bind fun y30 =>
      (some (decide (y30 < 0))).bind fun a33 =>
      cond a33
      (some true)
      ((F_laws_toGraph (aG_.1, aG_.2.1, aG_.2.2.1, aG_.2.2.2)).bind fun y37 =>
        (F_laws_toGraph (aPattern_.1, aPattern_.2.1, aPattern_.2.2.1, aPattern_.2.2.2)).bind fun y46 =>
        (F_laws_toMatch (aM_.1, aM_.2)).bind fun y55 =>
        (F_spec_IsConvex (y37.1, y37.2.1, y37.2.2.1, y37.2.2.2) (y46.1, y46.2.1, y46.2.2.1, y46.2.2.2) (y55.1, y55.2)).bind fun y62 =>
        (F_laws_toGraph (aG_.1, aG_.2.1, aG_.2.2.1, aG_.2.2.2)).bind fun y65 =>
        (F_laws_toGraph (aPattern_.1, aPattern_.2.1, aPattern_.2.2.1, aPattern_.2.2.2)).bind fun y78 =>
        (F_laws_toMatch (aM_.1, aM_.2)).bind fun y91 =>
        (F_impl_IsConvex (y65.1, y65.2.1, y65.2.2.1, y65.2.2.2) (y78.1, y78.2.1, y78.2.2.1, y78.2.2.2) (y91.1, y91.2)).bind fun y102 =>
        ((some (!decide (y102.1 = y62.1))).bind fun a117 =>
          cond a117
          (some true)
          ((some (!decide (y102.2 = y62.2))).bind fun a120 =>
            some a120)).bind fun (s111 : Bool) =>
        cond s111
        (some false)
        ((F_laws_toGraph (aG_.1, aG_.2.1, aG_.2.2.1, aG_.2.2.2)).bind fun y127 =>
          (F_laws_eqGraph (y65.1, y65.2.1, y65.2.2.1, y65.2.2.2) (y127.1, y127.2.1, y127.2.2.1, y127.2.2.2)).bind fun y136 =>
          (some (!y136)).bind fun a139 =>
          cond a139
          (some false)
          ((F_laws_toGraph (aPattern_.1, aPattern_.2.1, aPattern_.2.2.1, aPattern_.2.2.2)).bind fun y143 =>
            (F_laws_eqGraph (y78.1, y78.2.1, y78.2.2.1, y78.2.2.2) (y143.1, y143.2.1, y143.2.2.1, y143.2.2.2)).bind fun y152 =>
            (some (!y152)).bind fun a155 =>
            cond a155
            (some false)
            ((F_laws_toMatch (aM_.1, aM_.2)).bind fun y159 =>
              (F_laws_eqMatch (y91.1, y91.2) (y159.1, y159.2)).bind fun y166 =>
              (some (!y166)).bind fun a169 =>
              cond a169
              (some false)
              (some true)))))))
end Go.Proofs.Ytgfnophfoccamaa
