/-
  Partial functions, printed by a program (wip/y/gen.py): what each function of Go computes, over plain data. No program in sight. No condition.
-/
import Derived.Test.YtgfnophfoccamaaZF
namespace Go.Proofs.Ytgfnophfoccamaa
set_option linter.unusedVariables false

noncomputable def F_laws_szIntS (a_ : List Int) (left_ : Int) : Option Int :=
  (subO left_ ((a_.length : Nat) : Int)).bind fun a2 =>
  (some (decide (a2 < 0))).bind fun a4 =>
  cond a4
  (some (-1))
  (some a2)

noncomputable def F_laws_szEdge (a_ : Int × Int × List Int × List Int) (left_ : Int) : Option Int :=
  (F_laws_szIntS a_.2.2.1 left_).bind fun y6 =>
  (some (decide (y6 < 0))).bind fun a9 =>
  cond a9
  (some (-1))
  ((F_laws_szIntS a_.2.2.2 y6).bind fun y12 =>
    (some (decide (y12 < 0))).bind fun a15 =>
    cond a15
    (some (-1))
    (some y12))

noncomputable def F_laws_szEdgeS (a_ : List (Int × Int × List Int × List Int)) (left_ : Int) : Option Int :=
  (subO left_ ((a_.length : Nat) : Int)).bind fun a2 =>
  (some (decide (a2 < 0))).bind fun a4 =>
  cond a4
  (some (-1))
  (seqO (whileO (fun (s167 : Int × Int) =>
        (some (decide (s167.2 < ((a_.length : Nat) : Int)))).bind fun a176 =>
        cond a176
        ((idxO a_ s167.2).bind fun a187 =>
          (F_laws_szEdge (a187.1, a187.2.1, a187.2.2.1, a187.2.2.2) s167.1).bind fun y195 =>
          (some (decide (y195 < 0))).bind fun a198 =>
          cond a198
          (some (.inr (.inr (-1))))
          ((addO s167.2 1).bind fun a201 =>
            some (.inl (y195, a201))))
        (some (.inr (.inl s167.1)))) (a2, 0)) fun (s103 : Int) =>
    some s103)

noncomputable def F_laws_szGraph (a_ : Int × (List (Int × Int × List Int × List Int)) × List Int × List Int) (left_ : Int) : Option Int :=
  (F_laws_szEdgeS a_.2.1 left_).bind fun y7 =>
  (some (decide (y7 < 0))).bind fun a10 =>
  cond a10
  (some (-1))
  ((F_laws_szIntS a_.2.2.1 y7).bind fun y13 =>
    (some (decide (y13 < 0))).bind fun a16 =>
    cond a16
    (some (-1))
    ((F_laws_szIntS a_.2.2.2 y13).bind fun y19 =>
      (some (decide (y19 < 0))).bind fun a22 =>
      cond a22
      (some (-1))
      (some y19)))

noncomputable def F_laws_toIntS (a_ : List Int) : Option (List Int) :=
  (makeO ((a_.length : Nat) : Int) (0 : Int)).bind fun a2 =>
  (whileO (fun (s146 : List Int × Int) =>
      (some (decide (s146.2 < ((a_.length : Nat) : Int)))).bind fun a155 =>
      cond a155
      ((idxO a_ s146.2).bind fun a166 =>
        (setO s146.1 s146.2 a166).bind fun a174 =>
        (addO s146.2 1).bind fun a177 =>
        some (.inl (a174, a177)))
      (some (.inr s146.1))) (a2, 0)).bind fun (s90 : List Int) =>
  some s90

noncomputable def F_laws_toEdge (a_ : Int × Int × List Int × List Int) : Option (Int × Int × List Int × List Int) :=
  (F_laws_toIntS a_.2.2.1).bind fun y14 =>
  (F_laws_toIntS a_.2.2.2).bind fun y20 =>
  some (a_.1, a_.2.1, y14, y20)

noncomputable def F_laws_toEdgeS (a_ : List (Int × Int × List Int × List Int)) : Option (List (Int × Int × List Int × List Int)) :=
  (makeO ((a_.length : Nat) : Int) ((0, 0, [], []) : Int × Int × List Int × List Int)).bind fun a2 =>
  (whileO (fun (s236 : (List (Int × Int × List Int × List Int)) × Int) =>
      (some (decide (s236.2 < ((a_.length : Nat) : Int)))).bind fun a245 =>
      cond a245
      ((idxO a_ s236.2).bind fun a256 =>
        (F_laws_toEdge (a256.1, a256.2.1, a256.2.2.1, a256.2.2.2)).bind fun y264 =>
        (setO s236.1 s236.2 (y264.1, y264.2.1, y264.2.2.1, y264.2.2.2)).bind fun a282 =>
        (addO s236.2 1).bind fun a285 =>
        some (.inl (a282, a285)))
      (some (.inr s236.1))) (a2, 0)).bind fun (s144 : List (Int × Int × List Int × List Int)) =>
  some s144

noncomputable def F_laws_toGraph (a_ : Int × (List (Int × Int × List Int × List Int)) × List Int × List Int) : Option (Int × (List (Int × Int × List Int × List Int)) × List Int × List Int) :=
  (F_laws_toEdgeS a_.2.1).bind fun y14 =>
  (F_laws_toIntS a_.2.2.1).bind fun y20 =>
  (F_laws_toIntS a_.2.2.2).bind fun y26 =>
  some (a_.1, y14, y20, y26)

noncomputable def F_spec_l1In (n_ : Int) (lo_ : Int) (hi_ : Int) : Option Bool :=
  ((some (decide (lo_ ≤ n_))).bind fun a13 =>
    cond a13
    ((some (decide (n_ ≤ hi_))).bind fun a17 =>
      some a17)
    (some false)).bind fun (s7 : Bool) =>
  some s7

noncomputable def F_spec_l1All (l_ : List Int) (lo_ : Int) (hi_ : Int) : Option Bool :=
  seqO (forO (fun (k2 : Nat) (_ : Unit) =>
      (idxO l_ ((k2 : Nat) : Int)).bind fun a35 =>
      (F_spec_l1In a35 lo_ hi_).bind fun y37 =>
      (some (!y37)).bind fun a40 =>
      cond a40
      (some (.inr false))
      (some (.inl ()))) l_.length 0 ()) fun (_ : Unit) =>
  some true

noncomputable def F_spec_tmLeaf (n_ : Int × Int × ByteArray) : Option Bool :=
  ((some (!decide ((n_.2.2 : ByteArray) = .empty))).bind fun a19 =>
    cond a19
    (some true)
    ((F_spec_l1In n_.1 1 14).bind fun y22 =>
      (some (!y22)).bind fun a25 =>
      some a25)).bind fun (s13 : Bool) =>
  cond s13
  (some false)
  ((some (decide (n_.1 = 1))).bind fun a31 =>
    cond a31
    ((F_spec_l1In n_.2.1 0 12).bind fun y62 =>
      some y62)
    (((some (decide (n_.1 = 7))).bind fun a46 =>
        cond a46
        (some true)
        ((some (decide (n_.1 = 13))).bind fun a49 =>
          some a49)).bind fun (s40 : Bool) =>
      cond s40
      ((F_spec_l1In n_.2.1 0 96).bind fun y58 =>
        some y58)
      ((some (decide (n_.2.1 = 0))).bind fun a55 =>
        some a55)))

noncomputable def F_spec_tmKind (kind_ : Int) : Option (Int × Int) :=
  (some (decide (kind_ = 2))).bind fun a1 =>
  cond a1
  (some (2, 2))
  (((some (decide (kind_ = 3))).bind fun a16 =>
      cond a16
      (some true)
      ((some (decide (kind_ = 11))).bind fun a19 =>
        some a19)).bind fun (s10 : Bool) =>
    cond s10
    (some (1, 2))
    (((some (decide (kind_ = 4))).bind fun a37 =>
        cond a37
        (some true)
        ((some (decide (kind_ = 12))).bind fun a40 =>
          some a40)).bind fun (s31 : Bool) =>
      cond s31
      (some (1, 0))
      (((some (decide (kind_ = 5))).bind fun a58 =>
          cond a58
          (some true)
          ((some (decide (kind_ = 9))).bind fun a61 =>
            some a61)).bind fun (s52 : Bool) =>
        cond s52
        (some (2, 1))
        (((some (decide (kind_ = 6))).bind fun a79 =>
            cond a79
            (some true)
            ((some (decide (kind_ = 10))).bind fun a82 =>
              some a82)).bind fun (s73 : Bool) =>
          cond s73
          (some (0, 1))
          (some (1, 1))))))

noncomputable def F_spec_hgEdge (e_ : Int × Int × List Int × List Int) (wires_ : Int) : Option Bool :=
  ((F_spec_l1In e_.1 3 14).bind fun y24 =>
    (some (!y24)).bind fun a27 =>
    cond a27
    (some true)
    ((F_spec_tmLeaf (e_.1, e_.2.1, .empty)).bind fun y30 =>
      (some (!y30)).bind fun a33 =>
      some a33)).bind fun (s18 : Bool) =>
  cond s18
  (some false)
  ((F_spec_tmKind e_.1).bind fun y39 =>
    ((some (decide (((e_.2.2.1.length : Nat) : Int) = y39.1))).bind fun a68 =>
      cond a68
      ((some (decide (((e_.2.2.2.length : Nat) : Int) = y39.2))).bind fun a72 =>
        cond a72
        ((subO wires_ 1).bind fun a76 =>
          (F_spec_l1All e_.2.2.1 0 a76).bind fun y78 =>
          cond y78
          ((subO wires_ 1).bind fun a83 =>
            (F_spec_l1All e_.2.2.2 0 a83).bind fun y85 =>
            some y85)
          (some false))
        (some false))
      (some false)).bind fun (s62 : Bool) =>
    some s62)

noncomputable def F_spec_hgCounts (g_ : Int × (List (Int × Int × List Int × List Int)) × List Int × List Int) : Option (List Int × List Int) :=
  (makeO g_.1 (0 : Int)).bind fun a7 =>
  (makeO g_.1 (0 : Int)).bind fun a12 =>
  (forS (fun (k17 : Nat) (s76 : List Int) =>
      (idxO g_.2.2.1 ((k17 : Nat) : Int)).bind fun a91 =>
      (idxO s76 a91).bind fun a99 =>
      (addO a99 1).bind fun a101 =>
      (setO s76 a91 a101).bind fun a109 =>
      some a109) g_.2.2.1.length 0 a7).bind fun (s114 : List Int) =>
  (forS (fun (k116 : Nat) (s175 : List Int) =>
      (idxO g_.2.2.2 ((k116 : Nat) : Int)).bind fun a190 =>
      (idxO s175 a190).bind fun a198 =>
      (addO a198 1).bind fun a200 =>
      (setO s175 a190 a200).bind fun a208 =>
      some a208) g_.2.2.2.length 0 a12).bind fun (s213 : List Int) =>
  (forS (fun (k215 : Nat) (s652 : List Int × List Int) =>
      (idxO g_.2.1 ((k215 : Nat) : Int)).bind fun a667 =>
      (forS (fun (k679 : Nat) (s738 : List Int) =>
          (idxO a667.2.2.2 ((k679 : Nat) : Int)).bind fun a753 =>
          (idxO s738 a753).bind fun a761 =>
          (addO a761 1).bind fun a763 =>
          (setO s738 a753 a763).bind fun a771 =>
          some a771) a667.2.2.2.length 0 s652.1).bind fun (s776 : List Int) =>
      (forS (fun (k778 : Nat) (s837 : List Int) =>
          (idxO a667.2.2.1 ((k778 : Nat) : Int)).bind fun a852 =>
          (idxO s837 a852).bind fun a860 =>
          (addO a860 1).bind fun a862 =>
          (setO s837 a852 a862).bind fun a870 =>
          some a870) a667.2.2.1.length 0 s652.2).bind fun (s875 : List Int) =>
      some (s776, s875)) g_.2.1.length 0 (s114, s213)).bind fun (s879 : List Int × List Int) =>
  some (s879.1, s879.2)

noncomputable def F_spec_hgValid (g_ : Int × (List (Int × Int × List Int × List Int)) × List Int × List Int) : Option Bool :=
  ((F_spec_l1In g_.1 0 100).bind fun y48 =>
    (some (!y48)).bind fun a51 =>
    cond a51
    (some true)
    ((some (decide ((60 : Int) < ((g_.2.1.length : Nat) : Int)))).bind fun a54 =>
      cond a54
      (some true)
      ((some (decide ((12 : Int) < ((g_.2.2.1.length : Nat) : Int)))).bind fun a57 =>
        cond a57
        (some true)
        ((some (decide ((12 : Int) < ((g_.2.2.2.length : Nat) : Int)))).bind fun a60 =>
          cond a60
          (some true)
          ((subO g_.1 1).bind fun a63 =>
            (F_spec_l1All g_.2.2.1 0 a63).bind fun y65 =>
            (some (!y65)).bind fun a68 =>
            cond a68
            (some true)
            ((subO g_.1 1).bind fun a71 =>
              (F_spec_l1All g_.2.2.2 0 a71).bind fun y73 =>
              (some (!y73)).bind fun a76 =>
              some a76)))))).bind fun (s42 : Bool) =>
  cond s42
  (some false)
  (seqO (forO (fun (k86 : Nat) (_ : Unit) =>
        (idxO g_.2.1 ((k86 : Nat) : Int)).bind fun a129 =>
        (F_spec_hgEdge (a129.1, a129.2.1, a129.2.2.1, a129.2.2.2) g_.1).bind fun y141 =>
        (some (!y141)).bind fun a144 =>
        cond a144
        (some (.inr false))
        (some (.inl ()))) g_.2.1.length 0 ()) fun (_ : Unit) =>
    (F_spec_hgCounts (g_.1, g_.2.1, g_.2.2.1, g_.2.2.2)).bind fun y153 =>
    seqO (forO (fun (k160 : Nat) (_ : Unit) =>
        (idxO y153.1 ((k160 : Nat) : Int)).bind fun a202 =>
        (idxO y153.2 ((k160 : Nat) : Int)).bind fun a210 =>
        (addO a202 a210).bind fun a212 =>
        (some (decide (a212 = 0))).bind fun a214 =>
        cond a214
        (some (.inr false))
        (some (.inl ()))) y153.1.length 0 ()) fun (_ : Unit) =>
    some true)

noncomputable def F_spec_hgList (l_ : List Int) (to_ : List Int) : Option (List Int) :=
  (forS (fun (k3 : Nat) (s58 : List Int) =>
      (idxO l_ ((k3 : Nat) : Int)).bind fun a75 =>
      (idxO to_ a75).bind fun a83 =>
      (appO s58 [a83]).bind fun a88 =>
      some a88) l_.length 0 []).bind fun (s95 : List Int) =>
  some s95

noncomputable def F_spec_hgMap (g_ : Int × (List (Int × Int × List Int × List Int)) × List Int × List Int) (to_ : List Int) (wires_ : Int) : Option (Int × (List (Int × Int × List Int × List Int)) × List Int × List Int) :=
  ((F_spec_hgList g_.2.2.1 to_).bind fun y99 =>
    (F_spec_hgList g_.2.2.2 to_).bind fun y113 =>
    some (wires_, y99, y113)).bind fun (s75 : Int × List Int × List Int) =>
  (forS (fun (k150 : Nat) (s243 : List (Int × Int × List Int × List Int)) =>
      (idxO g_.2.1 ((k150 : Nat) : Int)).bind fun a260 =>
      (F_spec_hgList a260.2.2.1 to_).bind fun y273 =>
      (F_spec_hgList a260.2.2.2 to_).bind fun y278 =>
      (appO s243 [(a260.1, a260.2.1, y273, y278)]).bind fun a291 =>
      some a291) g_.2.1.length 0 []).bind fun (s299 : List (Int × Int × List Int × List Int)) =>
  some (s75.1, s299, s75.2.1, s75.2.2)

noncomputable def F_spec_hgOwn (g_ : Int × (List (Int × Int × List Int × List Int)) × List Int × List Int) : Option (Int × (List (Int × Int × List Int × List Int)) × List Int × List Int) :=
  (makeO g_.1 (0 : Int)).bind fun a10 =>
  (forS (fun (k15 : Nat) (s38 : List Int) =>
      (setO s38 ((k15 : Nat) : Int) ((k15 : Nat) : Int)).bind fun a53 =>
      some a53) a10.length 0 a10).bind fun (s58 : List Int) =>
  (F_spec_hgMap (g_.1, g_.2.1, g_.2.2.1, g_.2.2.2) s58 g_.1).bind fun y60 =>
  some (y60.1, y60.2.1, y60.2.2.1, y60.2.2.2)

noncomputable def F_spec_hgBeside (a_ : Int × (List (Int × Int × List Int × List Int)) × List Int × List Int) (b_ : Int × (List (Int × Int × List Int × List Int)) × List Int × List Int) : Option (Int × (List (Int × Int × List Int × List Int)) × List Int × List Int) :=
  (makeO b_.1 (0 : Int)).bind fun a16 =>
  (forS (fun (k21 : Nat) (s48 : List Int) =>
      (addO ((k21 : Nat) : Int) a_.1).bind fun a57 =>
      (setO s48 ((k21 : Nat) : Int) a57).bind fun a65 =>
      some a65) a16.length 0 a16).bind fun (s70 : List Int) =>
  (F_spec_hgOwn (a_.1, a_.2.1, a_.2.2.1, a_.2.2.2)).bind fun y72 =>
  (F_spec_hgMap (b_.1, b_.2.1, b_.2.2.1, b_.2.2.2) s70 b_.1).bind fun y85 =>
  (addO y72.1 b_.1).bind fun a98 =>
  (appO y72.2.2.1 y85.2.2.1).bind fun a101 =>
  (appO y72.2.2.2 y85.2.2.2).bind fun a107 =>
  (appO y72.2.1 y85.2.1).bind fun a113 =>
  some (a98, a113, a101, a107)

noncomputable def F_spec_l1Own (l_ : List Int) : Option (List Int) :=
  (appO ([] : List Int) l_).bind fun a5 =>
  some a5

noncomputable def F_spec_l1Most (a_ : Int) (b_ : Int) : Option Int :=
  (some (decide (b_ < a_))).bind fun a1 =>
  cond a1
  (some a_)
  (some b_)

noncomputable def F_spec_l1Least (a_ : Int) (b_ : Int) : Option Int :=
  (some (decide (a_ < b_))).bind fun a1 =>
  cond a1
  (some a_)
  (some b_)

noncomputable def F_spec_hgGlued (g_ : Int × (List (Int × Int × List Int × List Int)) × List Int × List Int) (a_ : List Int) (b_ : List Int) : Option ((Int × (List (Int × Int × List Int × List Int)) × List Int × List Int) × List Int) :=
  (makeO g_.1 (0 : Int)).bind fun a12 =>
  (forS (fun (k17 : Nat) (s40 : List Int) =>
      (setO s40 ((k17 : Nat) : Int) ((k17 : Nat) : Int)).bind fun a55 =>
      some a55) a12.length 0 a12).bind fun (s60 : List Int) =>
  (forS (fun (k62 : Nat) (s337 : List Int) =>
      (idxO a_ ((k62 : Nat) : Int)).bind fun a353 =>
      (idxO b_ ((k62 : Nat) : Int)).bind fun a361 =>
      (idxO s337 a353).bind fun a369 =>
      (idxO s337 a361).bind fun a377 =>
      (forS (fun (k379 : Nat) (s440 : List Int) =>
          (idxO s440 ((k379 : Nat) : Int)).bind fun a456 =>
          (F_spec_l1Most a369 a377).bind fun y458 =>
          (some (decide (a456 = y458))).bind fun a461 =>
          cond a461
          ((F_spec_l1Least a369 a377).bind fun y465 =>
            (setO s440 ((k379 : Nat) : Int) y465).bind fun a474 =>
            some a474)
          (some s440)) s337.length 0 s337).bind fun (s479 : List Int) =>
      some s479) a_.length 0 s60).bind fun (s483 : List Int) =>
  (F_spec_hgCounts (g_.1, g_.2.1, g_.2.2.1, g_.2.2.2)).bind fun y485 =>
  (makeO g_.1 (false : Bool)).bind fun a492 =>
  (forS (fun (k497 : Nat) (s582 : List Bool) =>
      (idxO s483 ((k497 : Nat) : Int)).bind fun a597 =>
      (idxO y485.1 ((k497 : Nat) : Int)).bind fun a606 =>
      (idxO y485.2 ((k497 : Nat) : Int)).bind fun a614 =>
      (addO a606 a614).bind fun a616 =>
      (some (decide ((0 : Int) < a616))).bind fun a618 =>
      cond a618
      ((setO s582 a597 true).bind fun a628 =>
        some a628)
      (some s582)) s483.length 0 a492).bind fun (s633 : List Bool) =>
  (makeO g_.1 (0 : Int)).bind fun a635 =>
  (forS (fun (k640 : Nat) (s767 : List Int × Int) =>
      ((idxO s483 ((k640 : Nat) : Int)).bind fun a808 =>
        (some (decide (a808 = ((k640 : Nat) : Int)))).bind fun a810 =>
        cond a810
        ((idxO s633 ((k640 : Nat) : Int)).bind fun a820 =>
          some a820)
        (some false)).bind fun (s796 : Bool) =>
      cond s796
      ((setO s767.1 ((k640 : Nat) : Int) s767.2).bind fun a832 =>
        (addO s767.2 1).bind fun a835 =>
        some (a832, a835))
      (some (s767.1, s767.2))) a635.length 0 (a635, 0)).bind fun (s839 : List Int × Int) =>
  (forS (fun (k841 : Nat) (s954 : List Int) =>
      (idxO s483 ((k841 : Nat) : Int)).bind fun a969 =>
      (idxO s954 a969).bind fun a977 =>
      (setO s954 ((k841 : Nat) : Int) a977).bind fun a985 =>
      (idxO s483 ((k841 : Nat) : Int)).bind fun a994 =>
      (idxO s633 a994).bind fun a1002 =>
      (some (!a1002)).bind fun a1004 =>
      cond a1004
      ((setO a985 ((k841 : Nat) : Int) (-1)).bind fun a1014 =>
        some a1014)
      (some a985)) s839.1.length 0 s839.1).bind fun (s1019 : List Int) =>
  (F_spec_hgMap (g_.1, g_.2.1, g_.2.2.1, g_.2.2.2) s1019 s839.2).bind fun y1021 =>
  some ((y1021.1, y1021.2.1, y1021.2.2.1, y1021.2.2.2), s1019)

noncomputable def F_spec_hgGlue (g_ : Int × (List (Int × Int × List Int × List Int)) × List Int × List Int) (a_ : List Int) (b_ : List Int) : Option (Int × (List (Int × Int × List Int × List Int)) × List Int × List Int) :=
  (F_spec_hgGlued (g_.1, g_.2.1, g_.2.2.1, g_.2.2.2) a_ b_).bind fun y12 =>
  some (y12.1.1, y12.1.2.1, y12.1.2.2.1, y12.1.2.2.2)

noncomputable def F_spec_hgSeq (a_ : Int × (List (Int × Int × List Int × List Int)) × List Int × List Int) (b_ : Int × (List (Int × Int × List Int × List Int)) × List Int × List Int) : Option (Int × (List (Int × Int × List Int × List Int)) × List Int × List Int) :=
  (F_spec_hgBeside (a_.1, a_.2.1, a_.2.2.1, a_.2.2.2) (b_.1, b_.2.1, b_.2.2.1, b_.2.2.2)).bind fun y16 =>
  (sliceO y16.2.2.2 0 ((a_.2.2.2.length : Nat) : Int)).bind fun a31 =>
  (sliceO y16.2.2.1 ((a_.2.2.1.length : Nat) : Int) ((y16.2.2.1.length : Nat) : Int)).bind fun a35 =>
  (F_spec_l1Own a31).bind fun y39 =>
  (F_spec_l1Own a35).bind fun y44 =>
  (sliceO y16.2.2.1 0 ((a_.2.2.1.length : Nat) : Int)).bind fun a49 =>
  (sliceO y16.2.2.2 ((a_.2.2.2.length : Nat) : Int) ((y16.2.2.2.length : Nat) : Int)).bind fun a54 =>
  (F_spec_hgGlue (y16.1, y16.2.1, a49, a54) y39 y44).bind fun y59 =>
  some (y59.1, y59.2.1, y59.2.2.1, y59.2.2.2)

noncomputable def F_spec_hgIf (g_ : Int × (List (Int × Int × List Int × List Int)) × List Int × List Int) : Option ((Int × (List (Int × Int × List Int × List Int)) × List Int × List Int) × Bool) :=
  (F_spec_hgValid (g_.1, g_.2.1, g_.2.2.1, g_.2.2.2)).bind fun y10 =>
  (some (!y10)).bind fun a13 =>
  cond a13
  (some ((0, [], [], []), false))
  (some ((g_.1, g_.2.1, g_.2.2.1, g_.2.2.2), true))

noncomputable def F_spec_SeqGraphs (a_ : Int × (List (Int × Int × List Int × List Int)) × List Int × List Int) (b_ : Int × (List (Int × Int × List Int × List Int)) × List Int × List Int) : Option ((Int × (List (Int × Int × List Int × List Int)) × List Int × List Int) × Bool) :=
  ((F_spec_hgValid (a_.1, a_.2.1, a_.2.2.1, a_.2.2.2)).bind fun y38 =>
    (some (!y38)).bind fun a41 =>
    cond a41
    (some true)
    ((F_spec_hgValid (b_.1, b_.2.1, b_.2.2.1, b_.2.2.2)).bind fun y44 =>
      (some (!y44)).bind fun a47 =>
      cond a47
      (some true)
      ((some (!decide (((a_.2.2.2.length : Nat) : Int) = ((b_.2.2.1.length : Nat) : Int)))).bind fun a50 =>
        some a50))).bind fun (s32 : Bool) =>
  cond s32
  (some ((0, [], [], []), false))
  ((F_spec_hgSeq (a_.1, a_.2.1, a_.2.2.1, a_.2.2.2) (b_.1, b_.2.1, b_.2.2.1, b_.2.2.2)).bind fun y57 =>
    (F_spec_hgIf (y57.1, y57.2.1, y57.2.2.1, y57.2.2.2)).bind fun y66 =>
    some ((y66.1.1, y66.1.2.1, y66.1.2.2.1, y66.1.2.2.2), y66.2))

noncomputable def F_impl_within (n_ : Int) (low_ : Int) (high_ : Int) : Option Bool :=
  ((some (decide (low_ ≤ n_))).bind fun a13 =>
    cond a13
    ((some (decide (n_ ≤ high_))).bind fun a17 =>
      some a17)
    (some false)).bind fun (s7 : Bool) =>
  some s7

noncomputable def F_impl_isGenerator (kind_ : Int) : Option Bool :=
  (F_impl_within kind_ 3 14).bind fun y1 =>
  some y1

noncomputable def F_impl_hasValue (kind_ : Int) : Option Bool :=
  ((some (decide (kind_ = 7))).bind fun a13 =>
    cond a13
    (some true)
    ((some (decide (kind_ = 13))).bind fun a16 =>
      some a16)).bind fun (s7 : Bool) =>
  some s7

noncomputable def F_impl_isGeneratorValue (kind_ : Int) (value_ : Int) : Option Bool :=
  (F_impl_hasValue kind_).bind fun y1 =>
  cond y1
  ((F_impl_within value_ 0 96).bind fun y8 =>
    some y8)
  ((some (decide (value_ = 0))).bind fun a5 =>
    some a5)

noncomputable def F_impl_generatorWires (kind_ : Int) : Option (Int × Int) :=
  (some (decide (kind_ ≤ 8))).bind fun a8 =>
  cond a8
  ((subO kind_ 3).bind fun a25 =>
    (idxO ([(1, 2), (1, 0), (2, 1), (0, 1), (1, 1), (1, 1)] : List (Int × Int)) a25).bind fun a27 =>
    some (a27.1, a27.2))
  ((subO kind_ 9).bind fun a11 =>
    (idxO ([(1, 2), (1, 0), (2, 1), (0, 1), (1, 1), (1, 1)] : List (Int × Int)) a11).bind fun a13 =>
    some (a13.2, a13.1))

noncomputable def F_impl_Edge_isEdge (e_ : Int × Int × List Int × List Int) : Option Bool :=
  ((F_impl_isGenerator e_.1).bind fun y24 =>
    (some (!y24)).bind fun a27 =>
    cond a27
    (some true)
    ((F_impl_isGeneratorValue e_.1 e_.2.1).bind fun y30 =>
      (some (!y30)).bind fun a33 =>
      some a33)).bind fun (s18 : Bool) =>
  cond s18
  (some false)
  ((F_impl_generatorWires e_.1).bind fun y40 =>
    (some (decide (([y40.1, y40.2] : List Int) = [((e_.2.2.1.length : Nat) : Int), ((e_.2.2.2.length : Nat) : Int)]))).bind fun a43 =>
    some a43)

noncomputable def F_impl_Graph_isGraph_1 (list_ : List Int) (c0_ : Int × (List (Int × Int × List Int × List Int)) × List Int × List Int) (c1_ : Bool) (c2_ : List Bool) (c3_ : Int) : Option (Bool × List Bool × Int) :=
  (forS (fun (k10 : Nat) (s199 : Bool × Int × List Bool) =>
      ((idxO list_ ((k10 : Nat) : Int)).bind fun a262 =>
        (subO c0_.1 1).bind fun a264 =>
        (F_impl_within a262 0 a264).bind fun y266 =>
        (some (!y266)).bind fun a269 =>
        cond a269
        (some (false, s199.2.1, s199.2.2))
        ((idxO s199.2.2 a262).bind fun a278 =>
          (some (!a278)).bind fun a280 =>
          cond a280
          ((setO s199.2.2 a262 true).bind fun a290 =>
            (addO s199.2.1 1).bind fun a293 =>
            some (s199.1, a293, a290))
          (some (s199.1, s199.2.1, s199.2.2)))).bind fun (s250 : Bool × Int × List Bool) =>
      some (s250.1, s250.2.1, s250.2.2)) list_.length 0 (c1_, c3_, c2_)).bind fun (s302 : Bool × Int × List Bool) =>
  some (s302.1, s302.2.2, s302.2.1)

noncomputable def F_impl_Graph_lists_impl_Graph_isGraph_1 (g_ : Int × (List (Int × Int × List Int × List Int)) × List Int × List Int) (d0_ : Int × (List (Int × Int × List Int × List Int)) × List Int × List Int) (d1_ : Bool) (d2_ : List Bool) (d3_ : Int) : Option (Bool × List Bool × Int) :=
  (F_impl_Graph_isGraph_1 g_.2.2.1 (d0_.1, d0_.2.1, d0_.2.2.1, d0_.2.2.2) d1_ d2_ d3_).bind fun y15 =>
  (F_impl_Graph_isGraph_1 g_.2.2.2 (d0_.1, d0_.2.1, d0_.2.2.1, d0_.2.2.2) y15.1 y15.2.1 y15.2.2).bind fun y18 =>
  (forS (fun (k21 : Nat) (s74 : Int × Bool × List Bool) =>
      (idxO g_.2.1 ((k21 : Nat) : Int)).bind fun a89 =>
      (F_impl_Graph_isGraph_1 a89.2.2.1 (d0_.1, d0_.2.1, d0_.2.2.1, d0_.2.2.2) s74.2.1 s74.2.2 s74.1).bind fun y101 =>
      (F_impl_Graph_isGraph_1 a89.2.2.2 (d0_.1, d0_.2.1, d0_.2.2.1, d0_.2.2.2) y101.1 y101.2.1 y101.2.2).bind fun y104 =>
      some (y104.2.2, y104.1, y104.2.1)) g_.2.1.length 0 (y18.2.2, y18.1, y18.2.1)).bind fun (s109 : Int × Bool × List Bool) =>
  some (s109.2.1, s109.2.2, s109.1)

noncomputable def F_impl_Graph_isGraph (g_ : Int × (List (Int × Int × List Int × List Int)) × List Int × List Int) : Option Bool :=
  ((F_impl_within g_.1 0 100).bind fun y30 =>
    (some (!y30)).bind fun a33 =>
    cond a33
    (some true)
    ((some (decide ((60 : Int) < ((g_.2.1.length : Nat) : Int)))).bind fun a36 =>
      cond a36
      (some true)
      ((some (decide ((12 : Int) < ((g_.2.2.1.length : Nat) : Int)))).bind fun a39 =>
        cond a39
        (some true)
        ((some (decide ((12 : Int) < ((g_.2.2.2.length : Nat) : Int)))).bind fun a42 =>
          some a42)))).bind fun (s24 : Bool) =>
  cond s24
  (some false)
  (seqO (forO (fun (k50 : Nat) (_ : Unit) =>
        (idxO g_.2.1 ((k50 : Nat) : Int)).bind fun a93 =>
        (F_impl_Edge_isEdge (a93.1, a93.2.1, a93.2.2.1, a93.2.2.2)).bind fun y105 =>
        (some (!y105)).bind fun a108 =>
        cond a108
        (some (.inr false))
        (some (.inl ()))) g_.2.1.length 0 ()) fun (_ : Unit) =>
    (makeO g_.1 (false : Bool)).bind fun a117 =>
    (F_impl_Graph_lists_impl_Graph_isGraph_1 (g_.1, g_.2.1, g_.2.2.1, g_.2.2.2) (g_.1, g_.2.1, g_.2.2.1, g_.2.2.2) true a117 0).bind fun y134 =>
    (cond y134.1
      ((some (decide (y134.2.2 = g_.1))).bind fun a149 =>
        some (true, a149))
      (some (false, false))).bind fun (s141 : Bool × Bool) =>
    some s141.2)

noncomputable def F_impl_zeros (n_ : Int) : Option (List Int) :=
  (makeO n_ (0 : Int)).bind fun a1 =>
  some a1

noncomputable def F_impl_upTo (n_ : Int) : Option (List Int) :=
  (F_impl_zeros n_).bind fun y1 =>
  (forS (fun (k6 : Nat) (s29 : List Int) =>
      (setO s29 ((k6 : Nat) : Int) ((k6 : Nat) : Int)).bind fun a44 =>
      some a44) y1.length 0 y1).bind fun (s49 : List Int) =>
  some s49

noncomputable def F_impl_chosen (v_ : List Int) (at_ : List Int) : Option (List Int) :=
  (makeCO 0 ((at_.length : Nat) : Int) (0 : Int)).bind fun a3 =>
  (forS (fun (k8 : Nat) (s62 : List Int) =>
      (idxO at_ ((k8 : Nat) : Int)).bind fun a78 =>
      (idxO v_ a78).bind fun a86 =>
      (appO s62 [a86]).bind fun a91 =>
      some a91) at_.length 0 a3).bind fun (s98 : List Int) =>
  some s98

noncomputable def F_impl_mapped (list_ : List Int) (to_ : List Int) : Option (List Int) :=
  (F_impl_chosen to_ list_).bind fun y3 =>
  some y3

noncomputable def F_impl_Graph_moved (g_ : Int × (List (Int × Int × List Int × List Int)) × List Int × List Int) (count_ : Int) (to_ : List Int) : Option (Int × (List (Int × Int × List Int × List Int)) × List Int × List Int) :=
  ((F_impl_mapped g_.2.2.1 to_).bind fun y99 =>
    (F_impl_mapped g_.2.2.2 to_).bind fun y113 =>
    some (count_, y99, y113)).bind fun (s75 : Int × List Int × List Int) =>
  (forS (fun (k150 : Nat) (s243 : List (Int × Int × List Int × List Int)) =>
      (idxO g_.2.1 ((k150 : Nat) : Int)).bind fun a260 =>
      (F_impl_mapped a260.2.2.1 to_).bind fun y273 =>
      (F_impl_mapped a260.2.2.2 to_).bind fun y278 =>
      (appO s243 [(a260.1, a260.2.1, y273, y278)]).bind fun a291 =>
      some a291) g_.2.1.length 0 []).bind fun (s299 : List (Int × Int × List Int × List Int)) =>
  some (s75.1, s299, s75.2.1, s75.2.2)

noncomputable def F_impl_from (first_ : Int) (n_ : Int) : Option (List Int) :=
  (F_impl_upTo n_).bind fun y1 =>
  (forS (fun (k6 : Nat) (s49 : List Int) =>
      (idxO s49 ((k6 : Nat) : Int)).bind fun a64 =>
      (addO a64 first_).bind fun a66 =>
      (setO s49 ((k6 : Nat) : Int) a66).bind fun a74 =>
      some a74) y1.length 0 y1).bind fun (s79 : List Int) =>
  some s79

noncomputable def F_impl_Graph_beside (g_ : Int × (List (Int × Int × List Int × List Int)) × List Int × List Int) (h_ : Int × (List (Int × Int × List Int × List Int)) × List Int × List Int) : Option (Int × (List (Int × Int × List Int × List Int)) × List Int × List Int) :=
  (addO g_.1 h_.1).bind fun a16 =>
  ((F_impl_upTo g_.1).bind fun y135 =>
    (F_impl_Graph_moved (g_.1, g_.2.1, g_.2.2.1, g_.2.2.2) g_.1 y135).bind fun y153 =>
    some (y153.1, y153.2.1, y153.2.2.1, y153.2.2.2)).bind fun (s106 : Int × (List (Int × Int × List Int × List Int)) × List Int × List Int) =>
  ((F_impl_from g_.1 h_.1).bind fun y315 =>
    (F_impl_Graph_moved (h_.1, h_.2.1, h_.2.2.1, h_.2.2.2) h_.1 y315).bind fun y333 =>
    some (y333.1, y333.2.1, y333.2.2.1, y333.2.2.2)).bind fun (s286 : Int × (List (Int × Int × List Int × List Int)) × List Int × List Int) =>
  (appO s106.2.1 s286.2.1).bind fun a382 =>
  some (a16, a382, [], [])

noncomputable def F_impl_clone (list_ : List Int) : Option (List Int) :=
  (appO ([] : List Int) list_).bind fun a5 =>
  some a5

noncomputable def F_impl_classes_root (c_ : List Int) (w_ : Int) : Option Int :=
  (whileO (fun (s126 : Int) =>
      (idxO c_ s126).bind fun a141 =>
      (some (!decide (a141 = s126))).bind fun a143 =>
      cond a143
      ((idxO c_ s126).bind fun a154 =>
        some (.inl a154))
      (some (.inr s126))) w_).bind fun (s76 : Int) =>
  some s76

noncomputable def F_impl_classes_join (c_ : List Int) (v_ : Int) (w_ : Int) : Option (List Int) :=
  (F_impl_classes_root c_ v_).bind fun y2 =>
  (F_impl_classes_root c_ w_).bind fun y5 =>
  (some (maxI2 y2 y5)).bind fun a8 =>
  (some (minI2 y2 y5)).bind fun a10 =>
  (setO c_ a8 a10).bind fun a18 =>
  some a18

noncomputable def F_impl_Graph_glue_1 (list_ : List Int) (c0_ : List Bool) (c1_ : List Int) : Option (List Bool) :=
  (forS (fun (k6 : Nat) (s53 : List Bool) =>
      (idxO list_ ((k6 : Nat) : Int)).bind fun a68 =>
      (F_impl_classes_root c1_ a68).bind fun y71 =>
      (setO s53 y71 true).bind fun a80 =>
      some a80) list_.length 0 c0_).bind fun (s85 : List Bool) =>
  some s85

noncomputable def F_impl_Graph_lists_impl_Graph_glue_1 (g_ : Int × (List (Int × Int × List Int × List Int)) × List Int × List Int) (d0_ : List Bool) (d1_ : List Int) : Option (List Bool) :=
  (F_impl_Graph_glue_1 g_.2.2.1 d0_ d1_).bind fun y11 =>
  (F_impl_Graph_glue_1 g_.2.2.2 y11 d1_).bind fun y14 =>
  (forS (fun (k17 : Nat) (s70 : List Bool) =>
      (idxO g_.2.1 ((k17 : Nat) : Int)).bind fun a85 =>
      (F_impl_Graph_glue_1 a85.2.2.1 s70 d1_).bind fun y97 =>
      (F_impl_Graph_glue_1 a85.2.2.2 y97 d1_).bind fun y100 =>
      some y100) g_.2.1.length 0 y14).bind fun (s105 : List Bool) =>
  some s105

noncomputable def F_impl_Graph_glue (g_ : Int × (List (Int × Int × List Int × List Int)) × List Int × List Int) (pairs_ : List (Int × Int)) : Option ((Int × (List (Int × Int × List Int × List Int)) × List Int × List Int) × List Int) :=
  (F_impl_upTo g_.1).bind fun y11 =>
  (forS (fun (k20 : Nat) (s59 : List Int) =>
      (idxO pairs_ ((k20 : Nat) : Int)).bind fun a74 =>
      (F_impl_classes_join s59 a74.1 a74.2).bind fun y82 =>
      some y82) pairs_.length 0 y11).bind fun (s87 : List Int) =>
  (makeO g_.1 (false : Bool)).bind fun a89 =>
  (F_impl_Graph_lists_impl_Graph_glue_1 (g_.1, g_.2.1, g_.2.2.1, g_.2.2.2) a89 s87).bind fun y98 =>
  (F_impl_zeros g_.1).bind fun y101 =>
  (forS (fun (k106 : Nat) (s223 : List Int × Int) =>
      (F_impl_classes_root s87 ((k106 : Nat) : Int)).bind fun y232 =>
      (idxO y98 y232).bind fun a241 =>
      (some (!a241)).bind fun a243 =>
      cond a243
      ((setO s223.1 ((k106 : Nat) : Int) (-1)).bind fun a285 =>
        some (a285, s223.2))
      ((some (decide (y232 < ((k106 : Nat) : Int)))).bind fun a246 =>
        cond a246
        ((idxO s223.1 y232).bind fun a267 =>
          (setO s223.1 ((k106 : Nat) : Int) a267).bind fun a275 =>
          some (a275, s223.2))
        ((setO s223.1 ((k106 : Nat) : Int) s223.2).bind fun a255 =>
          (addO s223.2 1).bind fun a258 =>
          some (a255, a258)))) y101.length 0 (y101, 0)).bind fun (s290 : List Int × Int) =>
  (F_impl_Graph_moved (g_.1, g_.2.1, g_.2.2.1, g_.2.2.2) s290.2 s290.1).bind fun y292 =>
  some ((y292.1, y292.2.1, y292.2.2.1, y292.2.2.2), s290.1)

noncomputable def F_impl_seqGraphs (a_ : Int × (List (Int × Int × List Int × List Int)) × List Int × List Int) (b_ : Int × (List (Int × Int × List Int × List Int)) × List Int × List Int) : Option (Int × (List (Int × Int × List Int × List Int)) × List Int × List Int) :=
  (F_impl_Graph_beside (a_.1, a_.2.1, a_.2.2.1, a_.2.2.2) (b_.1, b_.2.1, b_.2.2.1, b_.2.2.2)).bind fun y16 =>
  (forS (fun (k32 : Nat) (s98 : List (Int × Int)) =>
      (idxO a_.2.2.2 ((k32 : Nat) : Int)).bind fun a114 =>
      (idxO b_.2.2.1 ((k32 : Nat) : Int)).bind fun a123 =>
      (addO a_.1 a123).bind fun a125 =>
      (appO s98 [(a114, a125)]).bind fun a133 =>
      some a133) a_.2.2.2.length 0 ([] : List (Int × Int))).bind fun (s140 : List (Int × Int)) =>
  (F_impl_clone a_.2.2.1).bind fun y144 =>
  (F_impl_from a_.1 b_.1).bind fun y149 =>
  (F_impl_mapped b_.2.2.2 y149).bind fun y154 =>
  (F_impl_Graph_glue (y16.1, y16.2.1, y144, y154) s140).bind fun y161 =>
  some (y161.1.1, y161.1.2.1, y161.1.2.2.1, y161.1.2.2.2)

noncomputable def F_impl_validGraph (g_ : Int × (List (Int × Int × List Int × List Int)) × List Int × List Int) : Option ((Int × (List (Int × Int × List Int × List Int)) × List Int × List Int) × Bool) :=
  (F_impl_Graph_isGraph (g_.1, g_.2.1, g_.2.2.1, g_.2.2.2)).bind fun y10 =>
  (some (!y10)).bind fun a13 =>
  cond a13
  (some ((0, [], [], []), false))
  (some ((g_.1, g_.2.1, g_.2.2.1, g_.2.2.2), true))

noncomputable def F_impl_SeqGraphs (a_ : Int × (List (Int × Int × List Int × List Int)) × List Int × List Int) (b_ : Int × (List (Int × Int × List Int × List Int)) × List Int × List Int) : Option ((Int × (List (Int × Int × List Int × List Int)) × List Int × List Int) × Bool) :=
  ((F_impl_Graph_isGraph (a_.1, a_.2.1, a_.2.2.1, a_.2.2.2)).bind fun y38 =>
    (some (!y38)).bind fun a41 =>
    cond a41
    (some true)
    ((F_impl_Graph_isGraph (b_.1, b_.2.1, b_.2.2.1, b_.2.2.2)).bind fun y44 =>
      (some (!y44)).bind fun a47 =>
      cond a47
      (some true)
      ((some (!decide (((a_.2.2.2.length : Nat) : Int) = ((b_.2.2.1.length : Nat) : Int)))).bind fun a50 =>
        some a50))).bind fun (s32 : Bool) =>
  cond s32
  (some ((0, [], [], []), false))
  ((F_impl_seqGraphs (a_.1, a_.2.1, a_.2.2.1, a_.2.2.2) (b_.1, b_.2.1, b_.2.2.1, b_.2.2.2)).bind fun y57 =>
    (F_impl_validGraph (y57.1, y57.2.1, y57.2.2.1, y57.2.2.2)).bind fun y66 =>
    some ((y66.1.1, y66.1.2.1, y66.1.2.2.1, y66.1.2.2.2), y66.2))

noncomputable def F_laws_eqIntS (a_ : List Int) (b_ : List Int) : Option Bool :=
  (some (!decide (((a_.length : Nat) : Int) = ((b_.length : Nat) : Int)))).bind fun a3 =>
  cond a3
  (some false)
  (seqO (whileO (fun (s166 : Int) =>
        (some (decide (s166 < ((a_.length : Nat) : Int)))).bind fun a175 =>
        cond a175
        ((idxO a_ s166).bind fun a187 =>
          (idxO b_ s166).bind fun a195 =>
          (some (!decide (a187 = a195))).bind fun a197 =>
          cond a197
          (some (.inr (.inr false)))
          ((addO s166 1).bind fun a200 =>
            some (.inl a200)))
        (some (.inr (.inl ())))) 0) fun (s102 : Unit) =>
    some true)

noncomputable def F_laws_eqEdge (a_ : Int × Int × List Int × List Int) (b_ : Int × Int × List Int × List Int) : Option Bool :=
  (some (!decide (a_.1 = b_.1))).bind fun a11 =>
  cond a11
  (some false)
  ((some (!decide (a_.2.1 = b_.2.1))).bind fun a14 =>
    cond a14
    (some false)
    ((F_laws_eqIntS a_.2.2.1 b_.2.2.1).bind fun y17 =>
      (some (!y17)).bind fun a20 =>
      cond a20
      (some false)
      ((F_laws_eqIntS a_.2.2.2 b_.2.2.2).bind fun y23 =>
        (some (!y23)).bind fun a26 =>
        cond a26
        (some false)
        (some true))))

noncomputable def F_laws_eqEdgeS (a_ : List (Int × Int × List Int × List Int)) (b_ : List (Int × Int × List Int × List Int)) : Option Bool :=
  (some (!decide (((a_.length : Nat) : Int) = ((b_.length : Nat) : Int)))).bind fun a3 =>
  cond a3
  (some false)
  (seqO (whileO (fun (s241 : Int) =>
        (some (decide (s241 < ((a_.length : Nat) : Int)))).bind fun a250 =>
        cond a250
        ((idxO a_ s241).bind fun a262 =>
          (idxO b_ s241).bind fun a276 =>
          (F_laws_eqEdge (a262.1, a262.2.1, a262.2.2.1, a262.2.2.2) (a276.1, a276.2.1, a276.2.2.1, a276.2.2.2)).bind fun y284 =>
          (some (!y284)).bind fun a287 =>
          cond a287
          (some (.inr (.inr false)))
          ((addO s241 1).bind fun a290 =>
            some (.inl a290)))
        (some (.inr (.inl ())))) 0) fun (s147 : Unit) =>
    some true)

noncomputable def F_laws_eqGraph (a_ : Int × (List (Int × Int × List Int × List Int)) × List Int × List Int) (b_ : Int × (List (Int × Int × List Int × List Int)) × List Int × List Int) : Option Bool :=
  (some (!decide (a_.1 = b_.1))).bind fun a13 =>
  cond a13
  (some false)
  ((F_laws_eqEdgeS a_.2.1 b_.2.1).bind fun y16 =>
    (some (!y16)).bind fun a19 =>
    cond a19
    (some false)
    ((F_laws_eqIntS a_.2.2.1 b_.2.2.1).bind fun y22 =>
      (some (!y22)).bind fun a25 =>
      cond a25
      (some false)
      ((F_laws_eqIntS a_.2.2.2 b_.2.2.2).bind fun y28 =>
        (some (!y28)).bind fun a31 =>
        cond a31
        (some false)
        (some true))))

noncomputable def F_laws_markIntS (a_ : List Int) (k_ : Int) : Option (List Int × Int) :=
  (whileO (fun (s111 : List Int × Int × Int) =>
      (some (decide (s111.2.2 < ((s111.1.length : Nat) : Int)))).bind fun a120 =>
      cond a120
      ((setO s111.1 s111.2.2 s111.2.1).bind fun a131 =>
        (addO s111.2.1 1).bind fun a134 =>
        (addO s111.2.2 1).bind fun a136 =>
        some (.inl (a131, a134, a136)))
      (some (.inr (s111.1, s111.2.1)))) (a_, k_, 0)).bind fun (s67 : List Int × Int) =>
  some (s67.1, s67.2)

noncomputable def F_laws_markEdgeS (a_ : List (Int × Int × List Int × List Int)) (k_ : Int) : Option ((List (Int × Int × List Int × List Int)) × Int) :=
  (whileO (fun (s616 : (List (Int × Int × List Int × List Int)) × Int × Int) =>
      (some (decide (s616.2.2 < ((s616.1.length : Nat) : Int)))).bind fun a625 =>
      cond a625
      ((idxO s616.1 s616.2.2).bind fun a636 =>
        (setO s616.1 s616.2.2 (s616.2.1, a636.2.1, a636.2.2.1, a636.2.2.2)).bind fun a654 =>
        (addO s616.2.1 1).bind fun a656 =>
        (idxO a654 s616.2.2).bind fun a664 =>
        (setO a654 s616.2.2 (a664.1, a656, a664.2.2.1, a664.2.2.2)).bind fun a682 =>
        (addO a656 1).bind fun a684 =>
        (idxO a682 s616.2.2).bind fun a692 =>
        (F_laws_markIntS a692.2.2.1 a684).bind fun y697 =>
        (setO a682 s616.2.2 (a692.1, a692.2.1, y697.1, a692.2.2.2)).bind fun a712 =>
        (idxO a712 s616.2.2).bind fun a720 =>
        (F_laws_markIntS a720.2.2.2 y697.2).bind fun y725 =>
        (setO a712 s616.2.2 (a720.1, a720.2.1, a720.2.2.1, y725.1)).bind fun a740 =>
        (addO s616.2.2 1).bind fun a742 =>
        some (.inl (a740, y725.2, a742)))
      (some (.inr (s616.1, s616.2.1)))) (a_, k_, 0)).bind fun (s370 : (List (Int × Int × List Int × List Int)) × Int) =>
  some (s370.1, s370.2)

noncomputable def F_laws_markGraph (a_ : Int × (List (Int × Int × List Int × List Int)) × List Int × List Int) (k_ : Int) : Option ((Int × (List (Int × Int × List Int × List Int)) × List Int × List Int) × Int) :=
  (F_laws_markEdgeS a_.2.1 k_).bind fun y7 =>
  (F_laws_markIntS a_.2.2.1 y7.2).bind fun y10 =>
  (F_laws_markIntS a_.2.2.2 y10.2).bind fun y13 =>
  some ((a_.1, y7.1, y10.1, y13.1), y13.2)

noncomputable def F_laws_heldIntS (a_ : List Int) (k_ : Int) : Option Int :=
  seqO (whileO (fun (s127 : Int × Int) =>
      (some (decide (s127.2 < ((a_.length : Nat) : Int)))).bind fun a136 =>
      cond a136
      ((idxO a_ s127.2).bind fun a147 =>
        (some (!decide (a147 = s127.1))).bind fun a149 =>
        cond a149
        (some (.inr (.inr (-1))))
        ((addO s127.1 1).bind fun a152 =>
          (addO s127.2 1).bind fun a154 =>
          some (.inl (a152, a154))))
      (some (.inr (.inl s127.1)))) (k_, 0)) fun (s77 : Int) =>
  some s77

noncomputable def F_laws_heldEdgeS (a_ : List (Int × Int × List Int × List Int)) (k_ : Int) : Option Int :=
  seqO (whileO (fun (s470 : Int × Int) =>
      (some (decide (s470.2 < ((a_.length : Nat) : Int)))).bind fun a479 =>
      cond a479
      ((idxO a_ s470.2).bind fun a490 =>
        (some (!decide (a490.1 = s470.1))).bind fun a498 =>
        cond a498
        (some (.inr (.inr (-1))))
        ((addO s470.1 1).bind fun a501 =>
          (idxO a_ s470.2).bind fun a509 =>
          (some (!decide (a509.2.1 = a501))).bind fun a517 =>
          cond a517
          (some (.inr (.inr (-1))))
          ((addO a501 1).bind fun a520 =>
            (idxO a_ s470.2).bind fun a528 =>
            (F_laws_heldIntS a528.2.2.1 a520).bind fun y536 =>
            (some (decide (y536 < 0))).bind fun a539 =>
            cond a539
            (some (.inr (.inr (-1))))
            ((idxO a_ s470.2).bind fun a548 =>
              (F_laws_heldIntS a548.2.2.2 y536).bind fun y556 =>
              (some (decide (y556 < 0))).bind fun a559 =>
              cond a559
              (some (.inr (.inr (-1))))
              ((addO s470.2 1).bind fun a562 =>
                some (.inl (y556, a562)))))))
      (some (.inr (.inl s470.1)))) (k_, 0)) fun (s284 : Int) =>
  some s284

noncomputable def F_laws_heldGraph (a_ : Int × (List (Int × Int × List Int × List Int)) × List Int × List Int) (k_ : Int) : Option Int :=
  (F_laws_heldEdgeS a_.2.1 k_).bind fun y7 =>
  (some (decide (y7 < 0))).bind fun a10 =>
  cond a10
  (some (-1))
  ((F_laws_heldIntS a_.2.2.1 y7).bind fun y13 =>
    (some (decide (y13 < 0))).bind fun a16 =>
    cond a16
    (some (-1))
    ((F_laws_heldIntS a_.2.2.2 y13).bind fun y19 =>
      (some (decide (y19 < 0))).bind fun a22 =>
      cond a22
      (some (-1))
      (some y19)))

noncomputable def F_laws_FnExactSeqGraphs (aA_ : Int × (List (Int × Int × List Int × List Int)) × List Int × List Int) (aB_ : Int × (List (Int × Int × List Int × List Int)) × List Int × List Int) : Option Bool :=
  (F_laws_szGraph (aA_.1, aA_.2.1, aA_.2.2.1, aA_.2.2.2) 1048576).bind fun y13 =>
  (some (decide (y13 < 0))).bind fun a16 =>
  cond a16
  (some true)
  ((F_laws_szGraph (aB_.1, aB_.2.1, aB_.2.2.1, aB_.2.2.2) y13).bind fun y19 =>
    (some (decide (y19 < 0))).bind fun a22 =>
    cond a22
    (some true)
    (((F_laws_toGraph (aA_.1, aA_.2.1, aA_.2.2.1, aA_.2.2.2)).bind fun y237 =>
        (F_laws_toGraph (aB_.1, aB_.2.1, aB_.2.2.1, aB_.2.2.2)).bind fun y268 =>
        (F_spec_SeqGraphs (y237.1, y237.2.1, y237.2.2.1, y237.2.2.2) (y268.1, y268.2.1, y268.2.2.1, y268.2.2.2)).bind fun y290 =>
        some (y290.1.1, y290.1.2.1, y290.1.2.2.1, y290.1.2.2.2, y290.2)).bind fun (s195 : Int × (List (Int × Int × List Int × List Int)) × List Int × List Int × Bool) =>
      (F_laws_toGraph (aA_.1, aA_.2.1, aA_.2.2.1, aA_.2.2.2)).bind fun y377 =>
      (F_laws_toGraph (aB_.1, aB_.2.1, aB_.2.2.1, aB_.2.2.2)).bind fun y390 =>
      (F_impl_SeqGraphs (y377.1, y377.2.1, y377.2.2.1, y377.2.2.2) (y390.1, y390.2.1, y390.2.2.1, y390.2.2.2)).bind fun y403 =>
      ((F_laws_eqGraph (y403.1.1, y403.1.2.1, y403.1.2.2.1, y403.1.2.2.2) (s195.1, s195.2.1, s195.2.2.1, s195.2.2.2.1)).bind fun y431 =>
        (some (!y431)).bind fun a434 =>
        cond a434
        (some true)
        ((some (!decide (y403.2 = s195.2.2.2.2))).bind fun a437 =>
          some a437)).bind fun (s425 : Bool) =>
      cond s425
      (some false)
      ((F_laws_toGraph (aA_.1, aA_.2.1, aA_.2.2.1, aA_.2.2.2)).bind fun y444 =>
        (F_laws_eqGraph (y377.1, y377.2.1, y377.2.2.1, y377.2.2.2) (y444.1, y444.2.1, y444.2.2.1, y444.2.2.2)).bind fun y453 =>
        (some (!y453)).bind fun a456 =>
        cond a456
        (some false)
        ((F_laws_toGraph (aB_.1, aB_.2.1, aB_.2.2.1, aB_.2.2.2)).bind fun y460 =>
          (F_laws_eqGraph (y390.1, y390.2.1, y390.2.2.1, y390.2.2.2) (y460.1, y460.2.1, y460.2.2.1, y460.2.2.2)).bind fun y469 =>
          (some (!y469)).bind fun a472 =>
          cond a472
          (some false)
          ((F_laws_markGraph (y377.1, y377.2.1, y377.2.2.1, y377.2.2.2) 1).bind fun y475 =>
            (F_laws_markGraph (y390.1, y390.2.1, y390.2.2.1, y390.2.2.2) y475.2).bind fun y478 =>
            ((some (decide (y478.2 < 0))).bind fun a500 =>
              cond a500
              (some true)
              ((F_laws_eqGraph (y403.1.1, y403.1.2.1, y403.1.2.2.1, y403.1.2.2.2) (s195.1, s195.2.1, s195.2.2.1, s195.2.2.2.1)).bind fun y503 =>
                (some (!y503)).bind fun a506 =>
                cond a506
                (some true)
                ((some (!decide (y403.2 = s195.2.2.2.2))).bind fun a509 =>
                  some a509))).bind fun (s494 : Bool) =>
            cond s494
            (some false)
            ((F_laws_markGraph (y403.1.1, y403.1.2.1, y403.1.2.2.1, y403.1.2.2.2) 1).bind fun y516 =>
              (F_laws_heldGraph (y403.1.1, y516.1.2.1, y516.1.2.2.1, y516.1.2.2.2) 1).bind fun y519 =>
              (some (decide (y519 < 0))).bind fun a522 =>
              cond a522
              (some false)
              ((some (!decide (y519 = y516.2))).bind fun a525 =>
                cond a525
                (some false)
                (((F_laws_toGraph (aA_.1, aA_.2.1, aA_.2.2.1, aA_.2.2.2)).bind fun y740 =>
                    (F_laws_toGraph (aB_.1, aB_.2.1, aB_.2.2.1, aB_.2.2.2)).bind fun y771 =>
                    (F_impl_SeqGraphs (y740.1, y740.2.1, y740.2.2.1, y740.2.2.2) (y771.1, y771.2.1, y771.2.2.1, y771.2.2.2)).bind fun y793 =>
                    some (y793.1.1, y793.1.2.1, y793.1.2.2.1, y793.1.2.2.2, y793.2)).bind fun (s698 : Int × (List (Int × Int × List Int × List Int)) × List Int × List Int × Bool) =>
                  ((F_laws_eqGraph (s698.1, s698.2.1, s698.2.2.1, s698.2.2.2.1) (s195.1, s195.2.1, s195.2.2.1, s195.2.2.2.1)).bind fun y895 =>
                    (some (!y895)).bind fun a898 =>
                    cond a898
                    (some true)
                    ((some (!decide (s698.2.2.2.2 = s195.2.2.2.2))).bind fun a901 =>
                      some a901)).bind fun (s889 : Bool) =>
                  cond s889
                  (some false)
                  ((F_laws_heldGraph (y403.1.1, y516.1.2.1, y516.1.2.2.1, y516.1.2.2.2) 1).bind fun y907 =>
                    (some (decide (y907 < 0))).bind fun a910 =>
                    cond a910
                    (some false)
                    ((some (!decide (y907 = y516.2))).bind fun a913 =>
                      cond a913
                      (some false)
                      (some true)))))))))))
end Go.Proofs.Ytgfnophfoccamaa
