/-
  Partial functions, printed by a program (wip/y/gen.py): what each function of Go computes, over plain data. No program in sight. No condition.
-/
import Derived.Test.YtaiddnddgmkfnaaZF
namespace Go.Proofs.Ytaiddnddgmkfnaa
set_option linter.unusedVariables false

noncomputable def F_laws_szNode (a_ : Int × Int × ByteArray) (left_ : Int) : Option Int :=
  (subO left_ ((a_.2.2.size : Nat) : Int)).bind fun a4 =>
  (some (decide (a4 < 0))).bind fun a6 =>
  cond a6
  (some (-1))
  (some a4)

noncomputable def F_laws_szNodeS (a_ : List (Int × Int × ByteArray)) (left_ : Int) : Option Int :=
  (subO left_ ((a_.length : Nat) : Int)).bind fun a2 =>
  (some (decide (a2 < 0))).bind fun a4 =>
  cond a4
  (some (-1))
  (seqO (whileO (fun (s147 : Int × Int) =>
        (some (decide (s147.2 < ((a_.length : Nat) : Int)))).bind fun a156 =>
        cond a156
        ((idxO a_ s147.2).bind fun a167 =>
          (F_laws_szNode (a167.1, a167.2.1, a167.2.2) s147.1).bind fun y171 =>
          (some (decide (y171 < 0))).bind fun a174 =>
          cond a174
          (some (.inr (.inr (-1))))
          ((addO s147.2 1).bind fun a177 =>
            some (.inl (y171, a177))))
        (some (.inr (.inl s147.1)))) (a2, 0)) fun (s91 : Int) =>
    some s91)

noncomputable def F_laws_szTerm (a_ : (List (Int × Int × ByteArray))) (left_ : Int) : Option Int :=
  (F_laws_szNodeS a_ left_).bind fun y5 =>
  (some (decide (y5 < 0))).bind fun a8 =>
  cond a8
  (some (-1))
  (some y5)

noncomputable def F_laws_szRule (a_ : ByteArray × (List (Int × Int × ByteArray)) × (List (Int × Int × ByteArray))) (left_ : Int) : Option Int :=
  (subO left_ ((a_.1.size : Nat) : Int)).bind fun a6 =>
  (some (decide (a6 < 0))).bind fun a8 =>
  cond a8
  (some (-1))
  ((F_laws_szTerm a_.2.1 a6).bind fun y11 =>
    (some (decide (y11 < 0))).bind fun a14 =>
    cond a14
    (some (-1))
    ((F_laws_szTerm a_.2.2 y11).bind fun y17 =>
      (some (decide (y17 < 0))).bind fun a20 =>
      cond a20
      (some (-1))
      (some y17)))

noncomputable def F_laws_szRuleS (a_ : List (ByteArray × (List (Int × Int × ByteArray)) × (List (Int × Int × ByteArray)))) (left_ : Int) : Option Int :=
  (subO left_ ((a_.length : Nat) : Int)).bind fun a2 =>
  (some (decide (a2 < 0))).bind fun a4 =>
  cond a4
  (some (-1))
  (seqO (whileO (fun (s167 : Int × Int) =>
        (some (decide (s167.2 < ((a_.length : Nat) : Int)))).bind fun a176 =>
        cond a176
        ((idxO a_ s167.2).bind fun a187 =>
          (F_laws_szRule (a187.1, a187.2.1, a187.2.2) s167.1).bind fun y195 =>
          (some (decide (y195 < 0))).bind fun a198 =>
          cond a198
          (some (.inr (.inr (-1))))
          ((addO s167.2 1).bind fun a201 =>
            some (.inl (y195, a201))))
        (some (.inr (.inl s167.1)))) (a2, 0)) fun (s103 : Int) =>
    some s103)

noncomputable def F_laws_toNode (a_ : Int × Int × ByteArray) : Option (Int × Int × ByteArray) :=
  some (a_.1, a_.2.1, a_.2.2)

noncomputable def F_laws_toNodeS (a_ : List (Int × Int × ByteArray)) : Option (List (Int × Int × ByteArray)) :=
  (makeO ((a_.length : Nat) : Int) ((0, 0, .empty) : Int × Int × ByteArray)).bind fun a2 =>
  (whileO (fun (s196 : (List (Int × Int × ByteArray)) × Int) =>
      (some (decide (s196.2 < ((a_.length : Nat) : Int)))).bind fun a205 =>
      cond a205
      ((idxO a_ s196.2).bind fun a216 =>
        (F_laws_toNode (a216.1, a216.2.1, a216.2.2)).bind fun y220 =>
        (setO s196.1 s196.2 (y220.1, y220.2.1, y220.2.2)).bind fun a234 =>
        (addO s196.2 1).bind fun a237 =>
        some (.inl (a234, a237)))
      (some (.inr s196.1))) (a2, 0)).bind fun (s120 : List (Int × Int × ByteArray)) =>
  some s120

noncomputable def F_laws_toTerm (a_ : (List (Int × Int × ByteArray))) : Option (List (Int × Int × ByteArray)) :=
  (F_laws_toNodeS a_).bind fun y11 =>
  some y11

noncomputable def F_laws_toRule (a_ : ByteArray × (List (Int × Int × ByteArray)) × (List (Int × Int × ByteArray))) : Option (ByteArray × (List (Int × Int × ByteArray)) × (List (Int × Int × ByteArray))) :=
  (F_laws_toTerm a_.2.1).bind fun y13 =>
  (F_laws_toTerm a_.2.2).bind fun y19 =>
  some (a_.1, y13, y19)

noncomputable def F_laws_toRuleS (a_ : List (ByteArray × (List (Int × Int × ByteArray)) × (List (Int × Int × ByteArray)))) : Option (List (ByteArray × (List (Int × Int × ByteArray)) × (List (Int × Int × ByteArray)))) :=
  (makeO ((a_.length : Nat) : Int) ((.empty, [], []) : ByteArray × (List (Int × Int × ByteArray)) × (List (Int × Int × ByteArray)))).bind fun a2 =>
  (whileO (fun (s226 : (List (ByteArray × (List (Int × Int × ByteArray)) × (List (Int × Int × ByteArray)))) × Int) =>
      (some (decide (s226.2 < ((a_.length : Nat) : Int)))).bind fun a235 =>
      cond a235
      ((idxO a_ s226.2).bind fun a246 =>
        (F_laws_toRule (a246.1, a246.2.1, a246.2.2)).bind fun y254 =>
        (setO s226.1 s226.2 (y254.1, y254.2.1, y254.2.2)).bind fun a270 =>
        (addO s226.2 1).bind fun a273 =>
        some (.inl (a270, a273)))
      (some (.inr s226.1))) (a2, 0)).bind fun (s138 : List (ByteArray × (List (Int × Int × ByteArray)) × (List (Int × Int × ByteArray)))) =>
  some s138

noncomputable def F_spec_l1In (n_ : Int) (lo_ : Int) (hi_ : Int) : Option Bool :=
  ((some (decide (lo_ ≤ n_))).bind fun a13 =>
    cond a13
    ((some (decide (n_ ≤ hi_))).bind fun a17 =>
      some a17)
    (some false)).bind fun (s7 : Bool) =>
  some s7

noncomputable def F_spec_tmLeaf (n_ : Int × Int × ByteArray) : Option Bool :=
  ((some (!decide ((n_.2.2 : ByteArray) = .empty))).bind fun a19 =>
    cond a19
    (some true)
    ((F_spec_l1In n_.1 1 14).bind fun y22 =>
      (some (!y22)).bind fun a25 =>
      some a25)).bind fun (s13 : Bool) =>
  cond s13
  (some false)
  ((some (decide (n_.1 = 1))).bind fun a31 =>
    cond a31
    ((F_spec_l1In n_.2.1 0 12).bind fun y62 =>
      some y62)
    (((some (decide (n_.1 = 7))).bind fun a46 =>
        cond a46
        (some true)
        ((some (decide (n_.1 = 13))).bind fun a49 =>
          some a49)).bind fun (s40 : Bool) =>
      cond s40
      ((F_spec_l1In n_.2.1 0 96).bind fun y58 =>
        some y58)
      ((some (decide (n_.2.1 = 0))).bind fun a55 =>
        some a55)))

noncomputable def F_spec_tmKind (kind_ : Int) : Option (Int × Int) :=
  (some (decide (kind_ = 2))).bind fun a1 =>
  cond a1
  (some (2, 2))
  (((some (decide (kind_ = 3))).bind fun a16 =>
      cond a16
      (some true)
      ((some (decide (kind_ = 11))).bind fun a19 =>
        some a19)).bind fun (s10 : Bool) =>
    cond s10
    (some (1, 2))
    (((some (decide (kind_ = 4))).bind fun a37 =>
        cond a37
        (some true)
        ((some (decide (kind_ = 12))).bind fun a40 =>
          some a40)).bind fun (s31 : Bool) =>
      cond s31
      (some (1, 0))
      (((some (decide (kind_ = 5))).bind fun a58 =>
          cond a58
          (some true)
          ((some (decide (kind_ = 9))).bind fun a61 =>
            some a61)).bind fun (s52 : Bool) =>
        cond s52
        (some (2, 1))
        (((some (decide (kind_ = 6))).bind fun a79 =>
            cond a79
            (some true)
            ((some (decide (kind_ = 10))).bind fun a82 =>
              some a82)).bind fun (s73 : Bool) =>
          cond s73
          (some (0, 1))
          (some (1, 1))))))

noncomputable def F_spec_tmArity (n_ : Int × Int × ByteArray) : Option (Int × Int) :=
  (some (decide (n_.1 = 1))).bind fun a4 =>
  cond a4
  (some (n_.2.1, n_.2.1))
  ((F_spec_tmKind n_.1).bind fun y7 =>
    some (y7.1, y7.2))

noncomputable def F_spec_lbFind (lib_ : List (ByteArray × Int × Int × (List (Int × Int × ByteArray)))) (name_ : ByteArray) : Option Int :=
  seqO (forO (fun (k2 : Nat) (_ : Unit) =>
      (idxO lib_ ((k2 : Nat) : Int)).bind fun a40 =>
      (some (decide ((a40.1 : ByteArray) = name_))).bind fun a50 =>
      cond a50
      (some (.inr ((k2 : Nat) : Int)))
      (some (.inl ()))) lib_.length 0 ()) fun (_ : Unit) =>
  some (-1)

noncomputable def F_spec_lbScan (lib_ : List (ByteArray × Int × Int × (List (Int × Int × ByteArray)))) (t_ : (List (Int × Int × ByteArray))) : Option ((List Int × List Int × List Int) × Bool) :=
  (F_spec_l1In ((t_.length : Nat) : Int) 1 400).bind fun y12 =>
  (some (!y12)).bind fun a15 =>
  cond a15
  (some (([], [], []), false))
  (seqO (forO (fun (k18 : Nat) (s2156 : List Int × List Int × List Int) =>
        seqO ((idxO t_ ((k18 : Nat) : Int)).bind fun a2699 =>
          ((F_spec_tmLeaf (a2699.1, a2699.2.1, a2699.2.2)).bind fun y2720 =>
            cond y2720
            (some true)
            ((some (decide (a2699.1 = 17))).bind fun a2724 =>
              some a2724)).bind fun (s2714 : Bool) =>
          cond s2714
          ((F_spec_tmArity (a2699.1, a2699.2.1, a2699.2.2)).bind fun y3063 =>
            seqO ((some (decide (a2699.1 = 17))).bind fun a3127 =>
              cond a3127
              ((F_spec_lbFind lib_ a2699.2.2).bind fun y3131 =>
                ((some (decide (y3131 < 0))).bind fun a3146 =>
                  cond a3146
                  (some true)
                  ((some (!decide (a2699.2.1 = 0))).bind fun a3149 =>
                    some a3149)).bind fun (s3140 : Bool) =>
                cond s3140
                (some (.inr (.inr (.inr ((s2156.1, s2156.2.1, s2156.2.2), false)))))
                ((idxO lib_ y3131).bind fun a3162 =>
                  (idxO lib_ y3131).bind fun a3174 =>
                  some (.inl (a3174.2.2.1, a3162.2.1))))
              (some (.inl (y3063.2, y3063.1)))) fun (s3121 : Int × Int) =>
            (appO s2156.1 [((k18 : Nat) : Int)]).bind fun a3190 =>
            (appO s2156.2.1 [s3121.2]).bind fun a3199 =>
            (appO s2156.2.2 [s3121.1]).bind fun a3208 =>
            some (.inl (a3190, a3199, a3208)))
          (((some (!decide (a2699.1 = 15))).bind fun a2792 =>
              cond a2792
              ((some (!decide (a2699.1 = 16))).bind fun a2820 =>
                cond a2820
                (some true)
                ((some (!decide ((a2699.2.2 : ByteArray) = .empty))).bind fun a2823 =>
                  cond a2823
                  (some true)
                  ((some (!decide (a2699.2.1 = 0))).bind fun a2826 =>
                    cond a2826
                    (some true)
                    ((some (decide (((k18 : Nat) : Int) < 2))).bind fun a2829 =>
                      cond a2829
                      (some true)
                      ((subO ((k18 : Nat) : Int) 1).bind fun a2832 =>
                        (idxO s2156.1 a2832).bind fun a2840 =>
                        (some (decide (a2840 < 1))).bind fun a2842 =>
                        some a2842)))))
              ((some (!decide ((a2699.2.2 : ByteArray) = .empty))).bind fun a2795 =>
                cond a2795
                (some true)
                ((some (!decide (a2699.2.1 = 0))).bind fun a2798 =>
                  cond a2798
                  (some true)
                  ((some (decide (((k18 : Nat) : Int) < 2))).bind fun a2801 =>
                    cond a2801
                    (some true)
                    ((subO ((k18 : Nat) : Int) 1).bind fun a2804 =>
                      (idxO s2156.1 a2804).bind fun a2812 =>
                      (some (decide (a2812 < 1))).bind fun a2814 =>
                      some a2814))))).bind fun (s2786 : Bool) =>
            cond s2786
            (some (.inr (.inr ((s2156.1, s2156.2.1, s2156.2.2), false))))
            ((subO ((k18 : Nat) : Int) 1).bind fun a2851 =>
              (idxO s2156.1 a2851).bind fun a2859 =>
              (subO a2859 1).bind fun a2861 =>
              (idxO s2156.2.1 a2861).bind fun a2870 =>
              (idxO s2156.2.1 a2851).bind fun a2878 =>
              (addO a2870 a2878).bind fun a2880 =>
              (idxO s2156.2.2 a2861).bind fun a2888 =>
              (idxO s2156.2.2 a2851).bind fun a2896 =>
              (addO a2888 a2896).bind fun a2898 =>
              seqO ((some (decide (a2699.1 = 15))).bind fun a2949 =>
                cond a2949
                ((idxO s2156.2.2 a2861).bind fun a2960 =>
                  (idxO s2156.2.1 a2851).bind fun a2968 =>
                  (some (!decide (a2960 = a2968))).bind fun a2970 =>
                  cond a2970
                  (some (.inr (.inr (.inr ((s2156.1, s2156.2.1, s2156.2.2), false)))))
                  ((idxO s2156.2.1 a2861).bind fun a2980 =>
                    (idxO s2156.2.2 a2851).bind fun a2988 =>
                    some (.inl (a2980, a2988))))
                (some (.inl (a2880, a2898)))) fun (s2943 : Int × Int) =>
              ((some (decide ((12 : Int) < s2943.1))).bind fun a3009 =>
                cond a3009
                (some true)
                ((some (decide ((12 : Int) < s2943.2))).bind fun a3012 =>
                  some a3012)).bind fun (s3003 : Bool) =>
              cond s3003
              (some (.inr (.inr ((s2156.1, s2156.2.1, s2156.2.2), false))))
              ((idxO s2156.1 a2861).bind fun a3025 =>
                (appO s2156.1 [a3025]).bind fun a3030 =>
                (appO s2156.2.1 [s2943.1]).bind fun a3039 =>
                (appO s2156.2.2 [s2943.2]).bind fun a3048 =>
                some (.inl (a3030, a3039, a3048)))))) fun (s2684 : List Int × List Int × List Int) =>
        some (.inl (s2684.1, s2684.2.1, s2684.2.2))) t_.length 0 ([], [], [])) fun (s3218 : List Int × List Int × List Int) =>
    (subO ((t_.length : Nat) : Int) 1).bind fun a3224 =>
    (idxO s3218.1 a3224).bind fun a3244 =>
    (some (decide (a3244 = 0))).bind fun a3250 =>
    some ((s3218.1, s3218.2.1, s3218.2.2), a3250))

noncomputable def F_spec_tmScan (t_ : (List (Int × Int × ByteArray))) : Option ((List Int × List Int × List Int) × Bool) :=
  (F_spec_lbScan [] t_).bind fun y9 =>
  some ((y9.1.1, y9.1.2.1, y9.1.2.2), y9.2)

noncomputable def F_spec_tmType (t_ : (List (Int × Int × ByteArray))) : Option (Int × Int × Bool) :=
  (F_spec_tmScan t_).bind fun y5 =>
  (some (!y5.2)).bind fun a18 =>
  cond a18
  (some (0, 0, false))
  ((subO ((t_.length : Nat) : Int) 1).bind fun a21 =>
    (idxO y5.1.2.1 a21).bind fun a30 =>
    (idxO y5.1.2.2 a21).bind fun a38 =>
    some (a30, a38, true))

noncomputable def F_spec_lbWord (s_ : ByteArray) : Option Bool :=
  ((F_spec_l1In ((s_.size : Nat) : Int) 1 8).bind fun y24 =>
    (some (!y24)).bind fun a27 =>
    cond a27
    (some true)
    ((strO s_ 0).bind fun a30 =>
      (some (decide ((a30 : Int) < 97))).bind fun a32 =>
      cond a32
      (some true)
      ((strO s_ 0).bind fun a35 =>
        (some (decide ((122 : Int) < a35))).bind fun a37 =>
        some a37))).bind fun (s18 : Bool) =>
  cond s18
  (some false)
  (seqO (whileO (fun (s469 : Int) =>
        (some (decide (s469 < ((s_.size : Nat) : Int)))).bind fun a478 =>
        cond a478
        (((strO s_ s469).bind fun a521 =>
            (some (decide ((a521 : Int) < 97))).bind fun a523 =>
            cond a523
            ((strO s_ s469).bind fun a543 =>
              (some (decide ((a543 : Int) < 48))).bind fun a545 =>
              cond a545
              (some true)
              ((strO s_ s469).bind fun a548 =>
                (some (decide ((57 : Int) < a548))).bind fun a550 =>
                some a550))
            ((strO s_ s469).bind fun a526 =>
              (some (decide ((122 : Int) < a526))).bind fun a528 =>
              cond a528
              ((strO s_ s469).bind fun a532 =>
                (some (decide ((a532 : Int) < 48))).bind fun a534 =>
                cond a534
                (some true)
                ((strO s_ s469).bind fun a537 =>
                  (some (decide ((57 : Int) < a537))).bind fun a539 =>
                  some a539))
              (some false))).bind fun (s515 : Bool) =>
          cond s515
          (some (.inr (.inr false)))
          ((addO s469 1).bind fun a556 =>
            some (.inl a556)))
        (some (.inr (.inl ())))) 1) fun (s299 : Unit) =>
    some true)

noncomputable def F_spec_lbReserved  : Option (List ByteArray) :=
  some [⟨#[105, 100]⟩, ⟨#[115, 119, 97, 112]⟩, ⟨#[99, 111, 112, 121]⟩, ⟨#[100, 105, 115, 99, 97, 114, 100]⟩, ⟨#[97, 100, 100]⟩, ⟨#[122, 101, 114, 111]⟩, ⟨#[115, 99, 97, 108, 101]⟩, ⟨#[100, 101, 108, 97, 121]⟩, ⟨#[99, 111, 99, 111, 112, 121]⟩, ⟨#[99, 111, 100, 105, 115, 99, 97, 114, 100]⟩, ⟨#[99, 111, 97, 100, 100]⟩, ⟨#[99, 111, 122, 101, 114, 111]⟩, ⟨#[99, 111, 115, 99, 97, 108, 101]⟩, ⟨#[99, 111, 100, 101, 108, 97, 121]⟩]

noncomputable def F_spec_l1HasS (l_ : List ByteArray) (s_ : ByteArray) : Option Bool :=
  seqO (forO (fun (k2 : Nat) (_ : Unit) =>
      (idxO l_ ((k2 : Nat) : Int)).bind fun a32 =>
      (some (decide ((a32 : ByteArray) = s_))).bind fun a34 =>
      cond a34
      (some (.inr true))
      (some (.inl ()))) l_.length 0 ()) fun (_ : Unit) =>
  some false

noncomputable def F_spec_lbName (s_ : ByteArray) : Option Bool :=
  ((F_spec_lbWord s_).bind fun y22 =>
    cond y22
    ((F_spec_lbReserved).bind fun y27 =>
      (F_spec_l1HasS y27 s_).bind fun y32 =>
      (some (!y32)).bind fun a35 =>
      some a35)
    (some false)).bind fun (s16 : Bool) =>
  some s16

noncomputable def F_spec_tmTop (t_ : (List (Int × Int × ByteArray))) : Option Int :=
  (subO ((t_.length : Nat) : Int) 1).bind fun a5 =>
  (idxO t_ a5).bind fun a13 =>
  some a13.1

noncomputable def F_spec_hgId (n_ : Int) : Option (Int × (List (Int × Int × List Int × List Int)) × List Int × List Int) :=
  (whileO (fun (s166 : List Int × List Int × Int) =>
      (some (decide (s166.2.2 < n_))).bind fun a179 =>
      cond a179
      ((appO s166.1 [s166.2.2]).bind fun a187 =>
        (appO s166.2.1 [s166.2.2]).bind fun a196 =>
        (addO s166.2.2 1).bind fun a202 =>
        some (.inl (a187, a196, a202)))
      (some (.inr (s166.1, s166.2.1)))) ([], [], 0)).bind fun (s102 : List Int × List Int) =>
  some (n_, [], s102.1, s102.2)

noncomputable def F_spec_hgLeaf (x_ : Int × Int × ByteArray) : Option (Int × (List (Int × Int × List Int × List Int)) × List Int × List Int) :=
  (some (decide (x_.1 = 1))).bind fun a7 =>
  cond a7
  ((F_spec_hgId x_.2.1).bind fun y418 =>
    some (y418.1, y418.2.1, y418.2.2.1, y418.2.2.2))
  ((some (decide (x_.1 = 2))).bind fun a10 =>
    cond a10
    (some (2, [], [0, 1], [1, 0]))
    ((F_spec_tmKind x_.1).bind fun y13 =>
      (addO y13.1 y13.2).bind fun a16 =>
      (whileO (fun (s328 : List Int × List Int × List Int × List Int × Int) =>
          (addO y13.1 y13.2).bind fun a345 =>
          (some (decide (s328.2.2.2.2 < a345))).bind fun a347 =>
          cond a347
          ((some (decide (s328.2.2.2.2 < y13.1))).bind fun a352 =>
            cond a352
            ((appO s328.1 [s328.2.2.2.2]).bind fun a379 =>
              (appO s328.2.2.1 [s328.2.2.2.2]).bind fun a388 =>
              (addO s328.2.2.2.2 1).bind fun a394 =>
              some (.inl (a379, s328.2.1, a388, s328.2.2.2.1, a394)))
            ((appO s328.2.1 [s328.2.2.2.2]).bind fun a358 =>
              (appO s328.2.2.2.1 [s328.2.2.2.2]).bind fun a367 =>
              (addO s328.2.2.2.2 1).bind fun a373 =>
              some (.inl (s328.1, a358, s328.2.2.1, a367, a373))))
          (some (.inr (s328.1, s328.2.1, s328.2.2.1, s328.2.2.2.1)))) ([], [], [], [], 0)).bind fun (s206 : List Int × List Int × List Int × List Int) =>
      some (a16, [(x_.1, x_.2.1, s206.2.2.1, s206.2.2.2)], s206.1, s206.2.1)))

noncomputable def F_spec_tmOwn (nodes_ : List (Int × Int × ByteArray)) : Option (List (Int × Int × ByteArray)) :=
  (appO ([] : List (Int × Int × ByteArray)) nodes_).bind fun a8 =>
  some a8

noncomputable def F_spec_tmParts (t_ : (List (Int × Int × ByteArray))) : Option ((List (Int × Int × ByteArray)) × (List (Int × Int × ByteArray))) :=
  (F_spec_tmScan t_).bind fun y11 =>
  (subO ((t_.length : Nat) : Int) 1).bind fun a24 =>
  (subO a24 1).bind fun a26 =>
  (idxO y11.1.1 a26).bind fun a34 =>
  (sliceO t_ 0 a34).bind fun a37 =>
  (sliceO t_ a34 a24).bind fun a41 =>
  (F_spec_tmOwn a37).bind fun y45 =>
  (F_spec_tmOwn a41).bind fun y50 =>
  some (y45, y50)

noncomputable def F_spec_hgList (l_ : List Int) (to_ : List Int) : Option (List Int) :=
  (forS (fun (k3 : Nat) (s58 : List Int) =>
      (idxO l_ ((k3 : Nat) : Int)).bind fun a75 =>
      (idxO to_ a75).bind fun a83 =>
      (appO s58 [a83]).bind fun a88 =>
      some a88) l_.length 0 []).bind fun (s95 : List Int) =>
  some s95

noncomputable def F_spec_hgMap (g_ : Int × (List (Int × Int × List Int × List Int)) × List Int × List Int) (to_ : List Int) (wires_ : Int) : Option (Int × (List (Int × Int × List Int × List Int)) × List Int × List Int) :=
  ((F_spec_hgList g_.2.2.1 to_).bind fun y99 =>
    (F_spec_hgList g_.2.2.2 to_).bind fun y113 =>
    some (wires_, y99, y113)).bind fun (s75 : Int × List Int × List Int) =>
  (forS (fun (k150 : Nat) (s243 : List (Int × Int × List Int × List Int)) =>
      (idxO g_.2.1 ((k150 : Nat) : Int)).bind fun a260 =>
      (F_spec_hgList a260.2.2.1 to_).bind fun y273 =>
      (F_spec_hgList a260.2.2.2 to_).bind fun y278 =>
      (appO s243 [(a260.1, a260.2.1, y273, y278)]).bind fun a291 =>
      some a291) g_.2.1.length 0 []).bind fun (s299 : List (Int × Int × List Int × List Int)) =>
  some (s75.1, s299, s75.2.1, s75.2.2)

noncomputable def F_spec_hgOwn (g_ : Int × (List (Int × Int × List Int × List Int)) × List Int × List Int) : Option (Int × (List (Int × Int × List Int × List Int)) × List Int × List Int) :=
  (makeO g_.1 (0 : Int)).bind fun a10 =>
  (forS (fun (k15 : Nat) (s38 : List Int) =>
      (setO s38 ((k15 : Nat) : Int) ((k15 : Nat) : Int)).bind fun a53 =>
      some a53) a10.length 0 a10).bind fun (s58 : List Int) =>
  (F_spec_hgMap (g_.1, g_.2.1, g_.2.2.1, g_.2.2.2) s58 g_.1).bind fun y60 =>
  some (y60.1, y60.2.1, y60.2.2.1, y60.2.2.2)

noncomputable def F_spec_hgBeside (a_ : Int × (List (Int × Int × List Int × List Int)) × List Int × List Int) (b_ : Int × (List (Int × Int × List Int × List Int)) × List Int × List Int) : Option (Int × (List (Int × Int × List Int × List Int)) × List Int × List Int) :=
  (makeO b_.1 (0 : Int)).bind fun a16 =>
  (forS (fun (k21 : Nat) (s48 : List Int) =>
      (addO ((k21 : Nat) : Int) a_.1).bind fun a57 =>
      (setO s48 ((k21 : Nat) : Int) a57).bind fun a65 =>
      some a65) a16.length 0 a16).bind fun (s70 : List Int) =>
  (F_spec_hgOwn (a_.1, a_.2.1, a_.2.2.1, a_.2.2.2)).bind fun y72 =>
  (F_spec_hgMap (b_.1, b_.2.1, b_.2.2.1, b_.2.2.2) s70 b_.1).bind fun y85 =>
  (addO y72.1 b_.1).bind fun a98 =>
  (appO y72.2.2.1 y85.2.2.1).bind fun a101 =>
  (appO y72.2.2.2 y85.2.2.2).bind fun a107 =>
  (appO y72.2.1 y85.2.1).bind fun a113 =>
  some (a98, a113, a101, a107)

noncomputable def F_spec_l1Own (l_ : List Int) : Option (List Int) :=
  (appO ([] : List Int) l_).bind fun a5 =>
  some a5

noncomputable def F_spec_l1Most (a_ : Int) (b_ : Int) : Option Int :=
  (some (decide (b_ < a_))).bind fun a1 =>
  cond a1
  (some a_)
  (some b_)

noncomputable def F_spec_l1Least (a_ : Int) (b_ : Int) : Option Int :=
  (some (decide (a_ < b_))).bind fun a1 =>
  cond a1
  (some a_)
  (some b_)

noncomputable def F_spec_hgCounts (g_ : Int × (List (Int × Int × List Int × List Int)) × List Int × List Int) : Option (List Int × List Int) :=
  (makeO g_.1 (0 : Int)).bind fun a7 =>
  (makeO g_.1 (0 : Int)).bind fun a12 =>
  (forS (fun (k17 : Nat) (s76 : List Int) =>
      (idxO g_.2.2.1 ((k17 : Nat) : Int)).bind fun a91 =>
      (idxO s76 a91).bind fun a99 =>
      (addO a99 1).bind fun a101 =>
      (setO s76 a91 a101).bind fun a109 =>
      some a109) g_.2.2.1.length 0 a7).bind fun (s114 : List Int) =>
  (forS (fun (k116 : Nat) (s175 : List Int) =>
      (idxO g_.2.2.2 ((k116 : Nat) : Int)).bind fun a190 =>
      (idxO s175 a190).bind fun a198 =>
      (addO a198 1).bind fun a200 =>
      (setO s175 a190 a200).bind fun a208 =>
      some a208) g_.2.2.2.length 0 a12).bind fun (s213 : List Int) =>
  (forS (fun (k215 : Nat) (s652 : List Int × List Int) =>
      (idxO g_.2.1 ((k215 : Nat) : Int)).bind fun a667 =>
      (forS (fun (k679 : Nat) (s738 : List Int) =>
          (idxO a667.2.2.2 ((k679 : Nat) : Int)).bind fun a753 =>
          (idxO s738 a753).bind fun a761 =>
          (addO a761 1).bind fun a763 =>
          (setO s738 a753 a763).bind fun a771 =>
          some a771) a667.2.2.2.length 0 s652.1).bind fun (s776 : List Int) =>
      (forS (fun (k778 : Nat) (s837 : List Int) =>
          (idxO a667.2.2.1 ((k778 : Nat) : Int)).bind fun a852 =>
          (idxO s837 a852).bind fun a860 =>
          (addO a860 1).bind fun a862 =>
          (setO s837 a852 a862).bind fun a870 =>
          some a870) a667.2.2.1.length 0 s652.2).bind fun (s875 : List Int) =>
      some (s776, s875)) g_.2.1.length 0 (s114, s213)).bind fun (s879 : List Int × List Int) =>
  some (s879.1, s879.2)

noncomputable def F_spec_hgGlued (g_ : Int × (List (Int × Int × List Int × List Int)) × List Int × List Int) (a_ : List Int) (b_ : List Int) : Option ((Int × (List (Int × Int × List Int × List Int)) × List Int × List Int) × List Int) :=
  (makeO g_.1 (0 : Int)).bind fun a12 =>
  (forS (fun (k17 : Nat) (s40 : List Int) =>
      (setO s40 ((k17 : Nat) : Int) ((k17 : Nat) : Int)).bind fun a55 =>
      some a55) a12.length 0 a12).bind fun (s60 : List Int) =>
  (forS (fun (k62 : Nat) (s337 : List Int) =>
      (idxO a_ ((k62 : Nat) : Int)).bind fun a353 =>
      (idxO b_ ((k62 : Nat) : Int)).bind fun a361 =>
      (idxO s337 a353).bind fun a369 =>
      (idxO s337 a361).bind fun a377 =>
      (forS (fun (k379 : Nat) (s440 : List Int) =>
          (idxO s440 ((k379 : Nat) : Int)).bind fun a456 =>
          (F_spec_l1Most a369 a377).bind fun y458 =>
          (some (decide (a456 = y458))).bind fun a461 =>
          cond a461
          ((F_spec_l1Least a369 a377).bind fun y465 =>
            (setO s440 ((k379 : Nat) : Int) y465).bind fun a474 =>
            some a474)
          (some s440)) s337.length 0 s337).bind fun (s479 : List Int) =>
      some s479) a_.length 0 s60).bind fun (s483 : List Int) =>
  (F_spec_hgCounts (g_.1, g_.2.1, g_.2.2.1, g_.2.2.2)).bind fun y485 =>
  (makeO g_.1 (false : Bool)).bind fun a492 =>
  (forS (fun (k497 : Nat) (s582 : List Bool) =>
      (idxO s483 ((k497 : Nat) : Int)).bind fun a597 =>
      (idxO y485.1 ((k497 : Nat) : Int)).bind fun a606 =>
      (idxO y485.2 ((k497 : Nat) : Int)).bind fun a614 =>
      (addO a606 a614).bind fun a616 =>
      (some (decide ((0 : Int) < a616))).bind fun a618 =>
      cond a618
      ((setO s582 a597 true).bind fun a628 =>
        some a628)
      (some s582)) s483.length 0 a492).bind fun (s633 : List Bool) =>
  (makeO g_.1 (0 : Int)).bind fun a635 =>
  (forS (fun (k640 : Nat) (s767 : List Int × Int) =>
      ((idxO s483 ((k640 : Nat) : Int)).bind fun a808 =>
        (some (decide (a808 = ((k640 : Nat) : Int)))).bind fun a810 =>
        cond a810
        ((idxO s633 ((k640 : Nat) : Int)).bind fun a820 =>
          some a820)
        (some false)).bind fun (s796 : Bool) =>
      cond s796
      ((setO s767.1 ((k640 : Nat) : Int) s767.2).bind fun a832 =>
        (addO s767.2 1).bind fun a835 =>
        some (a832, a835))
      (some (s767.1, s767.2))) a635.length 0 (a635, 0)).bind fun (s839 : List Int × Int) =>
  (forS (fun (k841 : Nat) (s954 : List Int) =>
      (idxO s483 ((k841 : Nat) : Int)).bind fun a969 =>
      (idxO s954 a969).bind fun a977 =>
      (setO s954 ((k841 : Nat) : Int) a977).bind fun a985 =>
      (idxO s483 ((k841 : Nat) : Int)).bind fun a994 =>
      (idxO s633 a994).bind fun a1002 =>
      (some (!a1002)).bind fun a1004 =>
      cond a1004
      ((setO a985 ((k841 : Nat) : Int) (-1)).bind fun a1014 =>
        some a1014)
      (some a985)) s839.1.length 0 s839.1).bind fun (s1019 : List Int) =>
  (F_spec_hgMap (g_.1, g_.2.1, g_.2.2.1, g_.2.2.2) s1019 s839.2).bind fun y1021 =>
  some ((y1021.1, y1021.2.1, y1021.2.2.1, y1021.2.2.2), s1019)

noncomputable def F_spec_hgGlue (g_ : Int × (List (Int × Int × List Int × List Int)) × List Int × List Int) (a_ : List Int) (b_ : List Int) : Option (Int × (List (Int × Int × List Int × List Int)) × List Int × List Int) :=
  (F_spec_hgGlued (g_.1, g_.2.1, g_.2.2.1, g_.2.2.2) a_ b_).bind fun y12 =>
  some (y12.1.1, y12.1.2.1, y12.1.2.2.1, y12.1.2.2.2)

noncomputable def F_spec_hgSeq (a_ : Int × (List (Int × Int × List Int × List Int)) × List Int × List Int) (b_ : Int × (List (Int × Int × List Int × List Int)) × List Int × List Int) : Option (Int × (List (Int × Int × List Int × List Int)) × List Int × List Int) :=
  (F_spec_hgBeside (a_.1, a_.2.1, a_.2.2.1, a_.2.2.2) (b_.1, b_.2.1, b_.2.2.1, b_.2.2.2)).bind fun y16 =>
  (sliceO y16.2.2.2 0 ((a_.2.2.2.length : Nat) : Int)).bind fun a31 =>
  (sliceO y16.2.2.1 ((a_.2.2.1.length : Nat) : Int) ((y16.2.2.1.length : Nat) : Int)).bind fun a35 =>
  (F_spec_l1Own a31).bind fun y39 =>
  (F_spec_l1Own a35).bind fun y44 =>
  (sliceO y16.2.2.1 0 ((a_.2.2.1.length : Nat) : Int)).bind fun a49 =>
  (sliceO y16.2.2.2 ((a_.2.2.2.length : Nat) : Int) ((y16.2.2.2.length : Nat) : Int)).bind fun a54 =>
  (F_spec_hgGlue (y16.1, y16.2.1, a49, a54) y39 y44).bind fun y59 =>
  some (y59.1, y59.2.1, y59.2.2.1, y59.2.2.2)

noncomputable def F_spec_l1All (l_ : List Int) (lo_ : Int) (hi_ : Int) : Option Bool :=
  seqO (forO (fun (k2 : Nat) (_ : Unit) =>
      (idxO l_ ((k2 : Nat) : Int)).bind fun a35 =>
      (F_spec_l1In a35 lo_ hi_).bind fun y37 =>
      (some (!y37)).bind fun a40 =>
      cond a40
      (some (.inr false))
      (some (.inl ()))) l_.length 0 ()) fun (_ : Unit) =>
  some true

noncomputable def F_spec_hgEdge (e_ : Int × Int × List Int × List Int) (wires_ : Int) : Option Bool :=
  ((F_spec_l1In e_.1 3 14).bind fun y24 =>
    (some (!y24)).bind fun a27 =>
    cond a27
    (some true)
    ((F_spec_tmLeaf (e_.1, e_.2.1, .empty)).bind fun y30 =>
      (some (!y30)).bind fun a33 =>
      some a33)).bind fun (s18 : Bool) =>
  cond s18
  (some false)
  ((F_spec_tmKind e_.1).bind fun y39 =>
    ((some (decide (((e_.2.2.1.length : Nat) : Int) = y39.1))).bind fun a68 =>
      cond a68
      ((some (decide (((e_.2.2.2.length : Nat) : Int) = y39.2))).bind fun a72 =>
        cond a72
        ((subO wires_ 1).bind fun a76 =>
          (F_spec_l1All e_.2.2.1 0 a76).bind fun y78 =>
          cond y78
          ((subO wires_ 1).bind fun a83 =>
            (F_spec_l1All e_.2.2.2 0 a83).bind fun y85 =>
            some y85)
          (some false))
        (some false))
      (some false)).bind fun (s62 : Bool) =>
    some s62)

noncomputable def F_spec_hgValid (g_ : Int × (List (Int × Int × List Int × List Int)) × List Int × List Int) : Option Bool :=
  ((F_spec_l1In g_.1 0 100).bind fun y48 =>
    (some (!y48)).bind fun a51 =>
    cond a51
    (some true)
    ((some (decide ((60 : Int) < ((g_.2.1.length : Nat) : Int)))).bind fun a54 =>
      cond a54
      (some true)
      ((some (decide ((12 : Int) < ((g_.2.2.1.length : Nat) : Int)))).bind fun a57 =>
        cond a57
        (some true)
        ((some (decide ((12 : Int) < ((g_.2.2.2.length : Nat) : Int)))).bind fun a60 =>
          cond a60
          (some true)
          ((subO g_.1 1).bind fun a63 =>
            (F_spec_l1All g_.2.2.1 0 a63).bind fun y65 =>
            (some (!y65)).bind fun a68 =>
            cond a68
            (some true)
            ((subO g_.1 1).bind fun a71 =>
              (F_spec_l1All g_.2.2.2 0 a71).bind fun y73 =>
              (some (!y73)).bind fun a76 =>
              some a76)))))).bind fun (s42 : Bool) =>
  cond s42
  (some false)
  (seqO (forO (fun (k86 : Nat) (_ : Unit) =>
        (idxO g_.2.1 ((k86 : Nat) : Int)).bind fun a129 =>
        (F_spec_hgEdge (a129.1, a129.2.1, a129.2.2.1, a129.2.2.2) g_.1).bind fun y141 =>
        (some (!y141)).bind fun a144 =>
        cond a144
        (some (.inr false))
        (some (.inl ()))) g_.2.1.length 0 ()) fun (_ : Unit) =>
    (F_spec_hgCounts (g_.1, g_.2.1, g_.2.2.1, g_.2.2.2)).bind fun y153 =>
    seqO (forO (fun (k160 : Nat) (_ : Unit) =>
        (idxO y153.1 ((k160 : Nat) : Int)).bind fun a202 =>
        (idxO y153.2 ((k160 : Nat) : Int)).bind fun a210 =>
        (addO a202 a210).bind fun a212 =>
        (some (decide (a212 = 0))).bind fun a214 =>
        cond a214
        (some (.inr false))
        (some (.inl ()))) y153.1.length 0 ()) fun (_ : Unit) =>
    some true)

noncomputable def F_spec_hgIf (g_ : Int × (List (Int × Int × List Int × List Int)) × List Int × List Int) : Option ((Int × (List (Int × Int × List Int × List Int)) × List Int × List Int) × Bool) :=
  (F_spec_hgValid (g_.1, g_.2.1, g_.2.2.1, g_.2.2.2)).bind fun y10 =>
  (some (!y10)).bind fun a13 =>
  cond a13
  (some ((0, [], [], []), false))
  (some ((g_.1, g_.2.1, g_.2.2.1, g_.2.2.2), true))

noncomputable def F_spec_hgPar (a_ : Int × (List (Int × Int × List Int × List Int)) × List Int × List Int) (b_ : Int × (List (Int × Int × List Int × List Int)) × List Int × List Int) : Option (Int × (List (Int × Int × List Int × List Int)) × List Int × List Int) :=
  (F_spec_hgBeside (a_.1, a_.2.1, a_.2.2.1, a_.2.2.2) (b_.1, b_.2.1, b_.2.2.1, b_.2.2.2)).bind fun y16 =>
  some (y16.1, y16.2.1, y16.2.2.1, y16.2.2.2)

noncomputable def F_spec_hgMade_n : Nat → (List (Int × Int × ByteArray)) → Option ((Int × (List (Int × Int × List Int × List Int)) × List Int × List Int) × Bool)
  | 0, _ => none
  | fuel + 1, t_ =>
    (F_spec_tmTop t_).bind fun y8 =>
    (some (decide (y8 < 15))).bind fun a11 =>
    cond a11
    ((idxO t_ 0).bind fun a130 =>
        (F_spec_hgLeaf (a130.1, a130.2.1, a130.2.2)).bind fun y134 =>
        some ((y134.1, y134.2.1, y134.2.2.1, y134.2.2.2), true))
    ((F_spec_tmParts t_).bind fun y14 =>
        (F_spec_hgMade_n fuel y14.1).bind fun y29 =>
        (F_spec_hgMade_n fuel y14.2).bind fun y42 =>
        ((some (!y29.2)).bind fun a67 =>
            cond a67
            (some true)
            ((some (!y42.2)).bind fun a70 =>
                some a70)).bind fun (s61 : Bool) =>
        cond s61
        (some ((0, [], [], []), false))
        ((some (decide (y8 = 15))).bind fun a76 =>
            cond a76
            ((F_spec_hgSeq (y29.1.1, y29.1.2.1, y29.1.2.2.1, y29.1.2.2.2) (y42.1.1, y42.1.2.1, y42.1.2.2.1, y42.1.2.2.2)).bind fun y99 =>
                (F_spec_hgIf (y99.1, y99.2.1, y99.2.2.1, y99.2.2.2)).bind fun y108 =>
                some ((y108.1.1, y108.1.2.1, y108.1.2.2.1, y108.1.2.2.2), y108.2))
            ((F_spec_hgPar (y29.1.1, y29.1.2.1, y29.1.2.2.1, y29.1.2.2.2) (y42.1.1, y42.1.2.1, y42.1.2.2.1, y42.1.2.2.2)).bind fun y79 =>
                (F_spec_hgIf (y79.1, y79.2.1, y79.2.2.1, y79.2.2.2)).bind fun y88 =>
                some ((y88.1.1, y88.1.2.1, y88.1.2.2.1, y88.1.2.2.2), y88.2))))
noncomputable def F_spec_hgMade (t_ : (List (Int × Int × ByteArray))) : Option ((Int × (List (Int × Int × List Int × List Int)) × List Int × List Int) × Bool) := F_spec_hgMade_n 1000000 t_

noncomputable def F_spec_rwSides (r_ : ByteArray × (List (Int × Int × ByteArray)) × (List (Int × Int × ByteArray))) : Option ((Int × (List (Int × Int × List Int × List Int)) × List Int × List Int) × (Int × (List (Int × Int × List Int × List Int)) × List Int × List Int) × Bool) :=
  (F_spec_tmType r_.2.1).bind fun y12 =>
  (F_spec_tmType r_.2.2).bind fun y15 =>
  ((F_spec_lbName r_.1).bind fun y45 =>
    (some (!y45)).bind fun a48 =>
    cond a48
    (some true)
    ((some (!y12.2.2)).bind fun a51 =>
      cond a51
      (some true)
      ((some (!y15.2.2)).bind fun a54 =>
        cond a54
        (some true)
        ((some (!decide (y12.1 = y15.1))).bind fun a57 =>
          cond a57
          (some true)
          ((some (!decide (y12.2.1 = y15.2.1))).bind fun a60 =>
            some a60))))).bind fun (s39 : Bool) =>
  cond s39
  (some ((0, [], [], []), (0, [], [], []), false))
  ((F_spec_hgMade r_.2.1).bind fun y69 =>
    (F_spec_hgMade r_.2.2).bind fun y82 =>
    (cond y69.2
      (some (y82.1.1, y82.1.2.1, y82.1.2.2.1, y82.1.2.2.2, y69.1.1, y69.1.2.1, y69.1.2.2.1, y69.1.2.2.2, y82.2))
      (some (y82.1.1, y82.1.2.1, y82.1.2.2.1, y82.1.2.2.2, y69.1.1, y69.1.2.1, y69.1.2.2.1, y69.1.2.2.2, false))).bind fun (s102 : Int × (List (Int × Int × List Int × List Int)) × List Int × List Int × Int × (List (Int × Int × List Int × List Int)) × List Int × List Int × Bool) =>
    some ((s102.2.2.2.2.1, s102.2.2.2.2.2.1, s102.2.2.2.2.2.2.1, s102.2.2.2.2.2.2.2.1), (s102.1, s102.2.1, s102.2.2.1, s102.2.2.2.1), s102.2.2.2.2.2.2.2.2))

noncomputable def F_spec_dvRules (rules_ : List (ByteArray × (List (Int × Int × ByteArray)) × (List (Int × Int × ByteArray)))) : Option Bool :=
  seqO (forO (fun (k2 : Nat) (_ : Unit) =>
      (idxO rules_ ((k2 : Nat) : Int)).bind fun a156 =>
      (F_spec_rwSides (a156.1, a156.2.1, a156.2.2)).bind fun y168 =>
      ((some (!y168.2.2)).bind fun a207 =>
        cond a207
        (some true)
        ((some (decide ((12 : Int) < ((y168.1.2.1.length : Nat) : Int)))).bind fun a210 =>
          cond a210
          (some true)
          ((some (decide ((12 : Int) < ((y168.2.1.2.1.length : Nat) : Int)))).bind fun a213 =>
            some a213))).bind fun (s201 : Bool) =>
      cond s201
      (some (.inr false))
      ((sliceO rules_ 0 ((k2 : Nat) : Int)).bind fun a220 =>
        seqO (forO (fun (k224 : Nat) (_ : Unit) =>
            (idxO a220 ((k224 : Nat) : Int)).bind fun a264 =>
            (some (decide ((a264.1 : ByteArray) = a156.1))).bind fun a276 =>
            cond a276
            (some (.inr (.inr false)))
            (some (.inl ()))) a220.length 0 ()) fun (_ : Unit) =>
        some (.inl ()))) rules_.length 0 ()) fun (_ : Unit) =>
  (F_spec_l1In ((rules_.length : Nat) : Int) 1 20).bind fun y292 =>
  some y292

noncomputable def F_spec_AreRules (rules_ : List (ByteArray × (List (Int × Int × ByteArray)) × (List (Int × Int × ByteArray)))) : Option Bool :=
  (F_spec_dvRules rules_).bind fun y2 =>
  some y2

noncomputable def F_impl_within (n_ : Int) (low_ : Int) (high_ : Int) : Option Bool :=
  ((some (decide (low_ ≤ n_))).bind fun a13 =>
    cond a13
    ((some (decide (n_ ≤ high_))).bind fun a17 =>
      some a17)
    (some false)).bind fun (s7 : Bool) =>
  some s7

noncomputable def F_impl_wires_fit (w_ : Int × Int) : Option Bool :=
  ((some (decide (w_.1 ≤ 12))).bind fun a16 =>
    cond a16
    ((some (decide (w_.2 ≤ 12))).bind fun a20 =>
      some a20)
    (some false)).bind fun (s10 : Bool) =>
  some s10

noncomputable def F_impl_joinWires (kind_ : Int) (a_ : Int × Int) (b_ : Int × Int) : Option ((Int × Int) × Bool) :=
  (some (decide (kind_ = 15))).bind fun a10 =>
  cond a10
  ((some (decide (a_.2 = b_.1))).bind fun a28 =>
    some ((a_.1, b_.2), a28))
  ((addO a_.1 b_.1).bind fun a13 =>
    (addO a_.2 b_.2).bind fun a15 =>
    (F_impl_wires_fit (a13, a15)).bind fun y22 =>
    some ((a13, a15), y22))

noncomputable def F_impl_isGenerator (kind_ : Int) : Option Bool :=
  (F_impl_within kind_ 3 14).bind fun y1 =>
  some y1

noncomputable def F_impl_generatorWires (kind_ : Int) : Option (Int × Int) :=
  (some (decide (kind_ ≤ 8))).bind fun a8 =>
  cond a8
  ((subO kind_ 3).bind fun a25 =>
    (idxO ([(1, 2), (1, 0), (2, 1), (0, 1), (1, 1), (1, 1)] : List (Int × Int)) a25).bind fun a27 =>
    some (a27.1, a27.2))
  ((subO kind_ 9).bind fun a11 =>
    (idxO ([(1, 2), (1, 0), (2, 1), (0, 1), (1, 1), (1, 1)] : List (Int × Int)) a11).bind fun a13 =>
    some (a13.2, a13.1))

noncomputable def F_impl_hasValue (kind_ : Int) : Option Bool :=
  ((some (decide (kind_ = 7))).bind fun a13 =>
    cond a13
    (some true)
    ((some (decide (kind_ = 13))).bind fun a16 =>
      some a16)).bind fun (s7 : Bool) =>
  some s7

noncomputable def F_impl_isGeneratorValue (kind_ : Int) (value_ : Int) : Option Bool :=
  (F_impl_hasValue kind_).bind fun y1 =>
  cond y1
  ((F_impl_within value_ 0 96).bind fun y8 =>
    some y8)
  ((some (decide (value_ = 0))).bind fun a5 =>
    some a5)

noncomputable def F_impl_leafWires (n_ : Int × Int × ByteArray) : Option ((Int × Int) × Bool) :=
  (some (!decide ((n_.2.2 : ByteArray) = .empty))).bind fun a7 =>
  cond a7
  (some ((0, 0), false))
  ((some (decide (n_.1 = 1))).bind fun a10 =>
    cond a10
    ((F_impl_within n_.2.1 0 12).bind fun y37 =>
      some ((n_.2.1, n_.2.1), y37))
    ((some (decide (n_.1 = 2))).bind fun a13 =>
      cond a13
      ((some (decide (n_.2.1 = 0))).bind fun a32 =>
        some ((2, 2), a32))
      ((F_impl_isGenerator n_.1).bind fun y16 =>
        cond y16
        ((F_impl_generatorWires n_.1).bind fun y23 =>
          (F_impl_isGeneratorValue n_.1 n_.2.1).bind fun y26 =>
          some ((y23.1, y23.2), y26))
        (some ((0, 0), false)))))

noncomputable def F_impl_typed_impl_leafWires (nodes_ : List (Int × Int × ByteArray)) : Option ((Int × Int) × Bool) :=
  (F_impl_within ((nodes_.length : Nat) : Int) 1 400).bind fun y5 =>
  (some (!y5)).bind fun a8 =>
  cond a8
  (some ((0, 0), false))
  (seqO (forO (fun (k14 : Nat) (s884 : List (Int × Int)) =>
        seqO ((idxO nodes_ ((k14 : Nat) : Int)).bind fun a1117 =>
          ((some (!decide (a1117.1 = 15))).bind fun a1137 =>
            cond a1137
            ((some (!decide (a1117.1 = 16))).bind fun a1141 =>
              some a1141)
            (some false)).bind fun (s1131 : Bool) =>
          cond s1131
          ((F_impl_leafWires (a1117.1, a1117.2.1, a1117.2.2)).bind fun y1302 =>
            (some (!y1302.2)).bind fun a1309 =>
            cond a1309
            (some (.inr (.inr ((0, 0), false))))
            ((appO s884 [(y1302.1.1, y1302.1.2)]).bind fun a1318 =>
              some (.inl a1318)))
          (((some (!decide (a1117.2.1 = 0))).bind fun a1162 =>
              cond a1162
              (some true)
              ((some (!decide ((a1117.2.2 : ByteArray) = .empty))).bind fun a1165 =>
                cond a1165
                (some true)
                ((some (decide (((s884.length : Nat) : Int) < 2))).bind fun a1168 =>
                  some a1168))).bind fun (s1156 : Bool) =>
            cond s1156
            (some (.inr (.inr ((0, 0), false))))
            ((subO ((s884.length : Nat) : Int) 1).bind fun a1175 =>
              ((subO a1175 1).bind fun a1228 =>
                (idxO s884 a1228).bind fun a1236 =>
                (idxO s884 a1175).bind fun a1245 =>
                (F_impl_joinWires a1117.1 (a1236.1, a1236.2) (a1245.1, a1245.2)).bind fun y1255 =>
                some (y1255.1.1, y1255.1.2, y1255.2)).bind fun (s1220 : Int × Int × Bool) =>
              (some (!s1220.2.2)).bind fun a1272 =>
              cond a1272
              (some (.inr (.inr ((0, 0), false))))
              ((subO a1175 1).bind fun a1276 =>
                (sliceO s884 0 a1276).bind fun a1278 =>
                (appO a1278 [(s1220.1, s1220.2.1)]).bind fun a1288 =>
                some (.inl a1288))))) fun (s1104 : List (Int × Int)) =>
        some (.inl s1104)) nodes_.length 0 ([] : List (Int × Int))) fun (s1331 : List (Int × Int)) =>
    (idxO s1331 0).bind fun a1340 =>
    (some (decide (((s1331.length : Nat) : Int) = 1))).bind fun a1343 =>
    some ((a1340.1, a1340.2), a1343))

noncomputable def F_impl_Term_wires (t_ : (List (Int × Int × ByteArray))) : Option ((Int × Int) × Bool) :=
  (F_impl_typed_impl_leafWires t_).bind fun y8 =>
  some ((y8.1.1, y8.1.2), y8.2)

noncomputable def F_impl_isLower (b_ : Int) : Option Bool :=
  ((some (decide ((97 : Int) ≤ b_))).bind fun a13 =>
    cond a13
    ((some (decide ((b_ : Int) ≤ 122))).bind fun a17 =>
      some a17)
    (some false)).bind fun (s7 : Bool) =>
  some s7

noncomputable def F_impl_kindWords  : Option (List ByteArray) :=
  some [.empty, ⟨#[105, 100]⟩, ⟨#[115, 119, 97, 112]⟩, ⟨#[99, 111, 112, 121]⟩, ⟨#[100, 105, 115, 99, 97, 114, 100]⟩, ⟨#[97, 100, 100]⟩, ⟨#[122, 101, 114, 111]⟩, ⟨#[115, 99, 97, 108, 101]⟩, ⟨#[100, 101, 108, 97, 121]⟩, ⟨#[99, 111, 99, 111, 112, 121]⟩, ⟨#[99, 111, 100, 105, 115, 99, 97, 114, 100]⟩, ⟨#[99, 111, 97, 100, 100]⟩, ⟨#[99, 111, 122, 101, 114, 111]⟩, ⟨#[99, 111, 115, 99, 97, 108, 101]⟩, ⟨#[99, 111, 100, 101, 108, 97, 121]⟩]

noncomputable def F_impl_kindOf (word_ : ByteArray) : Option Int :=
  (F_impl_kindWords).bind fun y1 =>
  seqO (forO (fun (k6 : Nat) (_ : Unit) =>
      (idxO y1 ((k6 : Nat) : Int)).bind fun a36 =>
      (some (decide ((a36 : ByteArray) = word_))).bind fun a38 =>
      cond a38
      (some (.inr ((k6 : Nat) : Int)))
      (some (.inl ()))) y1.length 0 ()) fun (_ : Unit) =>
  some 17

noncomputable def F_impl_isDigit (b_ : Int) : Option Bool :=
  ((some (decide ((48 : Int) ≤ b_))).bind fun a13 =>
    cond a13
    ((some (decide ((b_ : Int) ≤ 57))).bind fun a17 =>
      some a17)
    (some false)).bind fun (s7 : Bool) =>
  some s7

noncomputable def F_impl_isName (s_ : ByteArray) : Option Bool :=
  ((F_impl_within ((s_.size : Nat) : Int) 1 8).bind fun y28 =>
    (some (!y28)).bind fun a31 =>
    cond a31
    (some true)
    ((strO s_ 0).bind fun a34 =>
      (F_impl_isLower a34).bind fun y36 =>
      (some (!y36)).bind fun a39 =>
      cond a39
      (some true)
      ((F_impl_kindOf s_).bind fun y42 =>
        (some (!decide (y42 = 17))).bind fun a45 =>
        some a45))).bind fun (s22 : Bool) =>
  cond s22
  (some false)
  ((cI ((s_.size : Nat) : Int)).bind fun _ =>
    seqO (forO (fun (k52 : Nat) (_ : Unit) =>
        ((strO s_ ((k52 : Nat) : Int)).bind fun a130 =>
          (F_impl_isLower a130).bind fun y132 =>
          (some (!y132)).bind fun a135 =>
          cond a135
          ((strO s_ ((k52 : Nat) : Int)).bind fun a139 =>
            (F_impl_isDigit a139).bind fun y141 =>
            (some (!y141)).bind fun a144 =>
            some a144)
          (some false)).bind fun (s124 : Bool) =>
        cond s124
        (some (.inr false))
        (some (.inl ()))) (((s_.size : Nat) : Int).toNat) 0 ()) fun (_ : Unit) =>
    some true)

noncomputable def F_impl_zeros (n_ : Int) : Option (List Int) :=
  (makeO n_ (0 : Int)).bind fun a1 =>
  some a1

noncomputable def F_impl_upTo (n_ : Int) : Option (List Int) :=
  (F_impl_zeros n_).bind fun y1 =>
  (forS (fun (k6 : Nat) (s29 : List Int) =>
      (setO s29 ((k6 : Nat) : Int) ((k6 : Nat) : Int)).bind fun a44 =>
      some a44) y1.length 0 y1).bind fun (s49 : List Int) =>
  some s49

noncomputable def F_impl_chosen (v_ : List Int) (at_ : List Int) : Option (List Int) :=
  (makeCO 0 ((at_.length : Nat) : Int) (0 : Int)).bind fun a3 =>
  (forS (fun (k8 : Nat) (s62 : List Int) =>
      (idxO at_ ((k8 : Nat) : Int)).bind fun a78 =>
      (idxO v_ a78).bind fun a86 =>
      (appO s62 [a86]).bind fun a91 =>
      some a91) at_.length 0 a3).bind fun (s98 : List Int) =>
  some s98

noncomputable def F_impl_mapped (list_ : List Int) (to_ : List Int) : Option (List Int) :=
  (F_impl_chosen to_ list_).bind fun y3 =>
  some y3

noncomputable def F_impl_Graph_moved (g_ : Int × (List (Int × Int × List Int × List Int)) × List Int × List Int) (count_ : Int) (to_ : List Int) : Option (Int × (List (Int × Int × List Int × List Int)) × List Int × List Int) :=
  ((F_impl_mapped g_.2.2.1 to_).bind fun y99 =>
    (F_impl_mapped g_.2.2.2 to_).bind fun y113 =>
    some (count_, y99, y113)).bind fun (s75 : Int × List Int × List Int) =>
  (forS (fun (k150 : Nat) (s243 : List (Int × Int × List Int × List Int)) =>
      (idxO g_.2.1 ((k150 : Nat) : Int)).bind fun a260 =>
      (F_impl_mapped a260.2.2.1 to_).bind fun y273 =>
      (F_impl_mapped a260.2.2.2 to_).bind fun y278 =>
      (appO s243 [(a260.1, a260.2.1, y273, y278)]).bind fun a291 =>
      some a291) g_.2.1.length 0 []).bind fun (s299 : List (Int × Int × List Int × List Int)) =>
  some (s75.1, s299, s75.2.1, s75.2.2)

noncomputable def F_impl_from (first_ : Int) (n_ : Int) : Option (List Int) :=
  (F_impl_upTo n_).bind fun y1 =>
  (forS (fun (k6 : Nat) (s49 : List Int) =>
      (idxO s49 ((k6 : Nat) : Int)).bind fun a64 =>
      (addO a64 first_).bind fun a66 =>
      (setO s49 ((k6 : Nat) : Int) a66).bind fun a74 =>
      some a74) y1.length 0 y1).bind fun (s79 : List Int) =>
  some s79

noncomputable def F_impl_Graph_beside (g_ : Int × (List (Int × Int × List Int × List Int)) × List Int × List Int) (h_ : Int × (List (Int × Int × List Int × List Int)) × List Int × List Int) : Option (Int × (List (Int × Int × List Int × List Int)) × List Int × List Int) :=
  (addO g_.1 h_.1).bind fun a16 =>
  ((F_impl_upTo g_.1).bind fun y135 =>
    (F_impl_Graph_moved (g_.1, g_.2.1, g_.2.2.1, g_.2.2.2) g_.1 y135).bind fun y153 =>
    some (y153.1, y153.2.1, y153.2.2.1, y153.2.2.2)).bind fun (s106 : Int × (List (Int × Int × List Int × List Int)) × List Int × List Int) =>
  ((F_impl_from g_.1 h_.1).bind fun y315 =>
    (F_impl_Graph_moved (h_.1, h_.2.1, h_.2.2.1, h_.2.2.2) h_.1 y315).bind fun y333 =>
    some (y333.1, y333.2.1, y333.2.2.1, y333.2.2.2)).bind fun (s286 : Int × (List (Int × Int × List Int × List Int)) × List Int × List Int) =>
  (appO s106.2.1 s286.2.1).bind fun a382 =>
  some (a16, a382, [], [])

noncomputable def F_impl_clone (list_ : List Int) : Option (List Int) :=
  (appO ([] : List Int) list_).bind fun a5 =>
  some a5

noncomputable def F_impl_classes_root (c_ : List Int) (w_ : Int) : Option Int :=
  (whileO (fun (s126 : Int) =>
      (idxO c_ s126).bind fun a141 =>
      (some (!decide (a141 = s126))).bind fun a143 =>
      cond a143
      ((idxO c_ s126).bind fun a154 =>
        some (.inl a154))
      (some (.inr s126))) w_).bind fun (s76 : Int) =>
  some s76

noncomputable def F_impl_classes_join (c_ : List Int) (v_ : Int) (w_ : Int) : Option (List Int) :=
  (F_impl_classes_root c_ v_).bind fun y2 =>
  (F_impl_classes_root c_ w_).bind fun y5 =>
  (some (maxI2 y2 y5)).bind fun a8 =>
  (some (minI2 y2 y5)).bind fun a10 =>
  (setO c_ a8 a10).bind fun a18 =>
  some a18

noncomputable def F_impl_Graph_glue_1 (list_ : List Int) (c0_ : List Bool) (c1_ : List Int) : Option (List Bool) :=
  (forS (fun (k6 : Nat) (s53 : List Bool) =>
      (idxO list_ ((k6 : Nat) : Int)).bind fun a68 =>
      (F_impl_classes_root c1_ a68).bind fun y71 =>
      (setO s53 y71 true).bind fun a80 =>
      some a80) list_.length 0 c0_).bind fun (s85 : List Bool) =>
  some s85

noncomputable def F_impl_Graph_lists_impl_Graph_glue_1 (g_ : Int × (List (Int × Int × List Int × List Int)) × List Int × List Int) (d0_ : List Bool) (d1_ : List Int) : Option (List Bool) :=
  (F_impl_Graph_glue_1 g_.2.2.1 d0_ d1_).bind fun y11 =>
  (F_impl_Graph_glue_1 g_.2.2.2 y11 d1_).bind fun y14 =>
  (forS (fun (k17 : Nat) (s70 : List Bool) =>
      (idxO g_.2.1 ((k17 : Nat) : Int)).bind fun a85 =>
      (F_impl_Graph_glue_1 a85.2.2.1 s70 d1_).bind fun y97 =>
      (F_impl_Graph_glue_1 a85.2.2.2 y97 d1_).bind fun y100 =>
      some y100) g_.2.1.length 0 y14).bind fun (s105 : List Bool) =>
  some s105

noncomputable def F_impl_Graph_glue (g_ : Int × (List (Int × Int × List Int × List Int)) × List Int × List Int) (pairs_ : List (Int × Int)) : Option ((Int × (List (Int × Int × List Int × List Int)) × List Int × List Int) × List Int) :=
  (F_impl_upTo g_.1).bind fun y11 =>
  (forS (fun (k20 : Nat) (s59 : List Int) =>
      (idxO pairs_ ((k20 : Nat) : Int)).bind fun a74 =>
      (F_impl_classes_join s59 a74.1 a74.2).bind fun y82 =>
      some y82) pairs_.length 0 y11).bind fun (s87 : List Int) =>
  (makeO g_.1 (false : Bool)).bind fun a89 =>
  (F_impl_Graph_lists_impl_Graph_glue_1 (g_.1, g_.2.1, g_.2.2.1, g_.2.2.2) a89 s87).bind fun y98 =>
  (F_impl_zeros g_.1).bind fun y101 =>
  (forS (fun (k106 : Nat) (s223 : List Int × Int) =>
      (F_impl_classes_root s87 ((k106 : Nat) : Int)).bind fun y232 =>
      (idxO y98 y232).bind fun a241 =>
      (some (!a241)).bind fun a243 =>
      cond a243
      ((setO s223.1 ((k106 : Nat) : Int) (-1)).bind fun a285 =>
        some (a285, s223.2))
      ((some (decide (y232 < ((k106 : Nat) : Int)))).bind fun a246 =>
        cond a246
        ((idxO s223.1 y232).bind fun a267 =>
          (setO s223.1 ((k106 : Nat) : Int) a267).bind fun a275 =>
          some (a275, s223.2))
        ((setO s223.1 ((k106 : Nat) : Int) s223.2).bind fun a255 =>
          (addO s223.2 1).bind fun a258 =>
          some (a255, a258)))) y101.length 0 (y101, 0)).bind fun (s290 : List Int × Int) =>
  (F_impl_Graph_moved (g_.1, g_.2.1, g_.2.2.1, g_.2.2.2) s290.2 s290.1).bind fun y292 =>
  some ((y292.1, y292.2.1, y292.2.2.1, y292.2.2.2), s290.1)

noncomputable def F_impl_seqGraphs (a_ : Int × (List (Int × Int × List Int × List Int)) × List Int × List Int) (b_ : Int × (List (Int × Int × List Int × List Int)) × List Int × List Int) : Option (Int × (List (Int × Int × List Int × List Int)) × List Int × List Int) :=
  (F_impl_Graph_beside (a_.1, a_.2.1, a_.2.2.1, a_.2.2.2) (b_.1, b_.2.1, b_.2.2.1, b_.2.2.2)).bind fun y16 =>
  (forS (fun (k32 : Nat) (s98 : List (Int × Int)) =>
      (idxO a_.2.2.2 ((k32 : Nat) : Int)).bind fun a114 =>
      (idxO b_.2.2.1 ((k32 : Nat) : Int)).bind fun a123 =>
      (addO a_.1 a123).bind fun a125 =>
      (appO s98 [(a114, a125)]).bind fun a133 =>
      some a133) a_.2.2.2.length 0 ([] : List (Int × Int))).bind fun (s140 : List (Int × Int)) =>
  (F_impl_clone a_.2.2.1).bind fun y144 =>
  (F_impl_from a_.1 b_.1).bind fun y149 =>
  (F_impl_mapped b_.2.2.2 y149).bind fun y154 =>
  (F_impl_Graph_glue (y16.1, y16.2.1, y144, y154) s140).bind fun y161 =>
  some (y161.1.1, y161.1.2.1, y161.1.2.2.1, y161.1.2.2.2)

noncomputable def F_impl_joined (lists_ : List (List Int)) : Option (List Int) :=
  (forS (fun (k5 : Nat) (s41 : List Int) =>
      (idxO lists_ ((k5 : Nat) : Int)).bind fun a57 =>
      (appO s41 a57).bind fun a61 =>
      some a61) lists_.length 0 ([] : List Int)).bind fun (s68 : List Int) =>
  some s68

noncomputable def F_impl_parGraphs (a_ : Int × (List (Int × Int × List Int × List Int)) × List Int × List Int) (b_ : Int × (List (Int × Int × List Int × List Int)) × List Int × List Int) : Option (Int × (List (Int × Int × List Int × List Int)) × List Int × List Int) :=
  (F_impl_Graph_beside (a_.1, a_.2.1, a_.2.2.1, a_.2.2.2) (b_.1, b_.2.1, b_.2.2.1, b_.2.2.2)).bind fun y16 =>
  (F_impl_from a_.1 b_.1).bind fun y29 =>
  (F_impl_mapped b_.2.2.1 y29).bind fun y35 =>
  (F_impl_joined [a_.2.2.1, y35]).bind fun y45 =>
  (F_impl_mapped b_.2.2.2 y29).bind fun y50 =>
  (F_impl_joined [a_.2.2.2, y50]).bind fun y60 =>
  some (y16.1, y16.2.1, y45, y60)

noncomputable def F_impl_identityGraph (n_ : Int) : Option (Int × (List (Int × Int × List Int × List Int)) × List Int × List Int) :=
  (F_impl_upTo n_).bind fun y4 =>
  (F_impl_upTo n_).bind fun y9 =>
  some (n_, [], y4, y9)

noncomputable def F_impl_leafGraph (n_ : Int × Int × ByteArray) : Option (Int × (List (Int × Int × List Int × List Int)) × List Int × List Int) :=
  (some (decide (n_.1 = 1))).bind fun a7 =>
  cond a7
  ((F_impl_identityGraph n_.2.1).bind fun y200 =>
    some (y200.1, y200.2.1, y200.2.2.1, y200.2.2.2))
  ((some (decide (n_.1 = 2))).bind fun a10 =>
    cond a10
    (some (2, [], [0, 1], [1, 0]))
    ((F_impl_generatorWires n_.1).bind fun y13 =>
      (F_impl_upTo y13.1).bind fun y21 =>
      (F_impl_from y13.1 y13.2).bind fun y26 =>
      ((addO y13.1 y13.2).bind fun a115 =>
        (F_impl_clone y21).bind fun y144 =>
        (F_impl_clone y26).bind fun y149 =>
        some (a115, [(n_.1, n_.2.1, y21, y26)], y144, y149)).bind fun (s105 : Int × (List (Int × Int × List Int × List Int)) × List Int × List Int) =>
      some (s105.1, s105.2.1, s105.2.2.1, s105.2.2.2)))

noncomputable def F_impl_Edge_isEdge (e_ : Int × Int × List Int × List Int) : Option Bool :=
  ((F_impl_isGenerator e_.1).bind fun y24 =>
    (some (!y24)).bind fun a27 =>
    cond a27
    (some true)
    ((F_impl_isGeneratorValue e_.1 e_.2.1).bind fun y30 =>
      (some (!y30)).bind fun a33 =>
      some a33)).bind fun (s18 : Bool) =>
  cond s18
  (some false)
  ((F_impl_generatorWires e_.1).bind fun y40 =>
    (some (decide (([y40.1, y40.2] : List Int) = [((e_.2.2.1.length : Nat) : Int), ((e_.2.2.2.length : Nat) : Int)]))).bind fun a43 =>
    some a43)

noncomputable def F_impl_Graph_isGraph_1 (list_ : List Int) (c0_ : Int × (List (Int × Int × List Int × List Int)) × List Int × List Int) (c1_ : Bool) (c2_ : List Bool) (c3_ : Int) : Option (Bool × List Bool × Int) :=
  (forS (fun (k10 : Nat) (s199 : Bool × Int × List Bool) =>
      ((idxO list_ ((k10 : Nat) : Int)).bind fun a262 =>
        (subO c0_.1 1).bind fun a264 =>
        (F_impl_within a262 0 a264).bind fun y266 =>
        (some (!y266)).bind fun a269 =>
        cond a269
        (some (false, s199.2.1, s199.2.2))
        ((idxO s199.2.2 a262).bind fun a278 =>
          (some (!a278)).bind fun a280 =>
          cond a280
          ((setO s199.2.2 a262 true).bind fun a290 =>
            (addO s199.2.1 1).bind fun a293 =>
            some (s199.1, a293, a290))
          (some (s199.1, s199.2.1, s199.2.2)))).bind fun (s250 : Bool × Int × List Bool) =>
      some (s250.1, s250.2.1, s250.2.2)) list_.length 0 (c1_, c3_, c2_)).bind fun (s302 : Bool × Int × List Bool) =>
  some (s302.1, s302.2.2, s302.2.1)

noncomputable def F_impl_Graph_lists_impl_Graph_isGraph_1 (g_ : Int × (List (Int × Int × List Int × List Int)) × List Int × List Int) (d0_ : Int × (List (Int × Int × List Int × List Int)) × List Int × List Int) (d1_ : Bool) (d2_ : List Bool) (d3_ : Int) : Option (Bool × List Bool × Int) :=
  (F_impl_Graph_isGraph_1 g_.2.2.1 (d0_.1, d0_.2.1, d0_.2.2.1, d0_.2.2.2) d1_ d2_ d3_).bind fun y15 =>
  (F_impl_Graph_isGraph_1 g_.2.2.2 (d0_.1, d0_.2.1, d0_.2.2.1, d0_.2.2.2) y15.1 y15.2.1 y15.2.2).bind fun y18 =>
  (forS (fun (k21 : Nat) (s74 : Int × Bool × List Bool) =>
      (idxO g_.2.1 ((k21 : Nat) : Int)).bind fun a89 =>
      (F_impl_Graph_isGraph_1 a89.2.2.1 (d0_.1, d0_.2.1, d0_.2.2.1, d0_.2.2.2) s74.2.1 s74.2.2 s74.1).bind fun y101 =>
      (F_impl_Graph_isGraph_1 a89.2.2.2 (d0_.1, d0_.2.1, d0_.2.2.1, d0_.2.2.2) y101.1 y101.2.1 y101.2.2).bind fun y104 =>
      some (y104.2.2, y104.1, y104.2.1)) g_.2.1.length 0 (y18.2.2, y18.1, y18.2.1)).bind fun (s109 : Int × Bool × List Bool) =>
  some (s109.2.1, s109.2.2, s109.1)

noncomputable def F_impl_Graph_isGraph (g_ : Int × (List (Int × Int × List Int × List Int)) × List Int × List Int) : Option Bool :=
  ((F_impl_within g_.1 0 100).bind fun y30 =>
    (some (!y30)).bind fun a33 =>
    cond a33
    (some true)
    ((some (decide ((60 : Int) < ((g_.2.1.length : Nat) : Int)))).bind fun a36 =>
      cond a36
      (some true)
      ((some (decide ((12 : Int) < ((g_.2.2.1.length : Nat) : Int)))).bind fun a39 =>
        cond a39
        (some true)
        ((some (decide ((12 : Int) < ((g_.2.2.2.length : Nat) : Int)))).bind fun a42 =>
          some a42)))).bind fun (s24 : Bool) =>
  cond s24
  (some false)
  (seqO (forO (fun (k50 : Nat) (_ : Unit) =>
        (idxO g_.2.1 ((k50 : Nat) : Int)).bind fun a93 =>
        (F_impl_Edge_isEdge (a93.1, a93.2.1, a93.2.2.1, a93.2.2.2)).bind fun y105 =>
        (some (!y105)).bind fun a108 =>
        cond a108
        (some (.inr false))
        (some (.inl ()))) g_.2.1.length 0 ()) fun (_ : Unit) =>
    (makeO g_.1 (false : Bool)).bind fun a117 =>
    (F_impl_Graph_lists_impl_Graph_isGraph_1 (g_.1, g_.2.1, g_.2.2.1, g_.2.2.2) (g_.1, g_.2.1, g_.2.2.1, g_.2.2.2) true a117 0).bind fun y134 =>
    (cond y134.1
      ((some (decide (y134.2.2 = g_.1))).bind fun a149 =>
        some (true, a149))
      (some (false, false))).bind fun (s141 : Bool × Bool) =>
    some s141.2)

noncomputable def F_impl_graphOf (t_ : (List (Int × Int × ByteArray))) : Option ((Int × (List (Int × Int × List Int × List Int)) × List Int × List Int) × Bool) :=
  seqO (forO (fun (k11 : Nat) (s383 : List (Int × (List (Int × Int × List Int × List Int)) × List Int × List Int)) =>
      (idxO t_ ((k11 : Nat) : Int)).bind fun a399 =>
      (subO ((s383.length : Nat) : Int) 1).bind fun a407 =>
      (some (decide (a399.1 = 15))).bind fun a412 =>
      cond a412
      ((subO a407 1).bind fun a522 =>
        (idxO s383 a522).bind fun a530 =>
        (idxO s383 a407).bind fun a542 =>
        (F_impl_seqGraphs (a530.1, a530.2.1, a530.2.2.1, a530.2.2.2) (a542.1, a542.2.1, a542.2.2.1, a542.2.2.2)).bind fun y548 =>
        (subO a407 1).bind fun a558 =>
        (sliceO s383 0 a558).bind fun a560 =>
        (F_impl_Graph_isGraph (y548.1, y548.2.1, y548.2.2.1, y548.2.2.2)).bind fun y564 =>
        (some (!y564)).bind fun a567 =>
        cond a567
        (some (.inr ((0, [], [], []), false)))
        ((appO a560 [(y548.1, y548.2.1, y548.2.2.1, y548.2.2.2)]).bind fun a577 =>
          some (.inl a577)))
      ((some (decide (a399.1 = 16))).bind fun a415 =>
        cond a415
        ((subO a407 1).bind fun a454 =>
          (idxO s383 a454).bind fun a462 =>
          (idxO s383 a407).bind fun a474 =>
          (F_impl_parGraphs (a462.1, a462.2.1, a462.2.2.1, a462.2.2.2) (a474.1, a474.2.1, a474.2.2.1, a474.2.2.2)).bind fun y480 =>
          (subO a407 1).bind fun a490 =>
          (sliceO s383 0 a490).bind fun a492 =>
          (F_impl_Graph_isGraph (y480.1, y480.2.1, y480.2.2.1, y480.2.2.2)).bind fun y496 =>
          (some (!y496)).bind fun a499 =>
          cond a499
          (some (.inr ((0, [], [], []), false)))
          ((appO a492 [(y480.1, y480.2.1, y480.2.2.1, y480.2.2.2)]).bind fun a509 =>
            some (.inl a509)))
        ((F_impl_leafGraph (a399.1, a399.2.1, a399.2.2)).bind fun y418 =>
          (F_impl_Graph_isGraph (y418.1, y418.2.1, y418.2.2.1, y418.2.2.2)).bind fun y428 =>
          (some (!y428)).bind fun a431 =>
          cond a431
          (some (.inr ((0, [], [], []), false)))
          ((appO s383 [(y418.1, y418.2.1, y418.2.2.1, y418.2.2.2)]).bind fun a441 =>
            some (.inl a441))))) t_.length 0 ([] : List (Int × (List (Int × Int × List Int × List Int)) × List Int × List Int))) fun (s590 : List (Int × (List (Int × Int × List Int × List Int)) × List Int × List Int)) =>
  (idxO s590 0).bind fun a599 =>
  some ((a599.1, a599.2.1, a599.2.2.1, a599.2.2.2), true)

noncomputable def F_impl_isRule (r_ : ByteArray × (List (Int × Int × ByteArray)) × (List (Int × Int × ByteArray))) : Option Bool :=
  (F_impl_Term_wires r_.2.1).bind fun y6 =>
  (F_impl_Term_wires r_.2.2).bind fun y13 =>
  ((some (!y6.2)).bind fun a43 =>
    cond a43
    (some true)
    ((some (!y13.2)).bind fun a46 =>
      cond a46
      (some true)
      ((some (!decide (([y6.1.1, y6.1.2] : List Int) = [y13.1.1, y13.1.2]))).bind fun a49 =>
        cond a49
        (some true)
        ((F_impl_isName r_.1).bind fun y52 =>
          (some (!y52)).bind fun a55 =>
          some a55)))).bind fun (s37 : Bool) =>
  cond s37
  (some false)
  ((F_impl_graphOf r_.2.1).bind fun y63 =>
    (F_impl_graphOf r_.2.2).bind fun y72 =>
    (cond y63.2
      (some y72.2)
      (some false)).bind fun (s83 : Bool) =>
    some s83)

noncomputable def F_impl_Rule_pattern (r_ : ByteArray × (List (Int × Int × ByteArray)) × (List (Int × Int × ByteArray))) : Option (Int × (List (Int × Int × List Int × List Int)) × List Int × List Int) :=
  (F_impl_graphOf r_.2.1).bind fun y9 =>
  some (y9.1.1, y9.1.2.1, y9.1.2.2.1, y9.1.2.2.2)

noncomputable def F_impl_Rule_replacement (r_ : ByteArray × (List (Int × Int × ByteArray)) × (List (Int × Int × ByteArray))) : Option (Int × (List (Int × Int × List Int × List Int)) × List Int × List Int) :=
  (F_impl_graphOf r_.2.2).bind fun y9 =>
  some (y9.1.1, y9.1.2.1, y9.1.2.2.1, y9.1.2.2.2)

noncomputable def F_impl_areRules (rules_ : List (ByteArray × (List (Int × Int × ByteArray)) × (List (Int × Int × ByteArray)))) : Option Bool :=
  (F_impl_within ((rules_.length : Nat) : Int) 1 20).bind fun y2 =>
  (some (!y2)).bind fun a5 =>
  cond a5
  (some false)
  (seqO (forO (fun (k11 : Nat) (s218 : List ByteArray) =>
        (idxO rules_ ((k11 : Nat) : Int)).bind fun a233 =>
        ((F_impl_isRule (a233.1, a233.2.1, a233.2.2)).bind fun y286 =>
          (some (!y286)).bind fun a289 =>
          cond a289
          (some true)
          ((some (inS s218 a233.1)).bind fun a292 =>
            cond a292
            (some true)
            ((F_impl_Rule_pattern (a233.1, a233.2.1, a233.2.2)).bind fun y295 =>
              (some (decide ((12 : Int) < ((y295.2.1.length : Nat) : Int)))).bind fun a304 =>
              cond a304
              (some true)
              ((F_impl_Rule_replacement (a233.1, a233.2.1, a233.2.2)).bind fun y307 =>
                (some (decide ((12 : Int) < ((y307.2.1.length : Nat) : Int)))).bind fun a316 =>
                some a316)))).bind fun (s280 : Bool) =>
        cond s280
        (some (.inr false))
        ((putS s218 a233.1).bind fun a324 =>
          some (.inl a324))) rules_.length 0 ([] : List ByteArray)) fun (s331 : List ByteArray) =>
    some true)

noncomputable def F_impl_AreRules (rules_ : List (ByteArray × (List (Int × Int × ByteArray)) × (List (Int × Int × ByteArray)))) : Option Bool :=
  (F_impl_areRules rules_).bind fun y2 =>
  some y2

noncomputable def F_laws_eqNode (a_ : Int × Int × ByteArray) (b_ : Int × Int × ByteArray) : Option Bool :=
  (some (!decide (a_.1 = b_.1))).bind fun a7 =>
  cond a7
  (some false)
  ((some (!decide (a_.2.1 = b_.2.1))).bind fun a10 =>
    cond a10
    (some false)
    ((some (!decide ((a_.2.2 : ByteArray) = b_.2.2))).bind fun a13 =>
      cond a13
      (some false)
      (some true)))

noncomputable def F_laws_eqNodeS (a_ : List (Int × Int × ByteArray)) (b_ : List (Int × Int × ByteArray)) : Option Bool :=
  (some (!decide (((a_.length : Nat) : Int) = ((b_.length : Nat) : Int)))).bind fun a3 =>
  cond a3
  (some false)
  (seqO (whileO (fun (s201 : Int) =>
        (some (decide (s201 < ((a_.length : Nat) : Int)))).bind fun a210 =>
        cond a210
        ((idxO a_ s201).bind fun a222 =>
          (idxO b_ s201).bind fun a232 =>
          (F_laws_eqNode (a222.1, a222.2.1, a222.2.2) (a232.1, a232.2.1, a232.2.2)).bind fun y236 =>
          (some (!y236)).bind fun a239 =>
          cond a239
          (some (.inr (.inr false)))
          ((addO s201 1).bind fun a242 =>
            some (.inl a242)))
        (some (.inr (.inl ())))) 0) fun (s123 : Unit) =>
    some true)

noncomputable def F_laws_eqTerm (a_ : (List (Int × Int × ByteArray))) (b_ : (List (Int × Int × ByteArray))) : Option Bool :=
  (F_laws_eqNodeS a_ b_).bind fun y9 =>
  (some (!y9)).bind fun a12 =>
  cond a12
  (some false)
  (some true)

noncomputable def F_laws_eqRule (a_ : ByteArray × (List (Int × Int × ByteArray)) × (List (Int × Int × ByteArray))) (b_ : ByteArray × (List (Int × Int × ByteArray)) × (List (Int × Int × ByteArray))) : Option Bool :=
  (some (!decide ((a_.1 : ByteArray) = b_.1))).bind fun a11 =>
  cond a11
  (some false)
  ((F_laws_eqTerm a_.2.1 b_.2.1).bind fun y14 =>
    (some (!y14)).bind fun a17 =>
    cond a17
    (some false)
    ((F_laws_eqTerm a_.2.2 b_.2.2).bind fun y20 =>
      (some (!y20)).bind fun a23 =>
      cond a23
      (some false)
      (some true)))

noncomputable def F_laws_eqRuleS (a_ : List (ByteArray × (List (Int × Int × ByteArray)) × (List (Int × Int × ByteArray)))) (b_ : List (ByteArray × (List (Int × Int × ByteArray)) × (List (Int × Int × ByteArray)))) : Option Bool :=
  (some (!decide (((a_.length : Nat) : Int) = ((b_.length : Nat) : Int)))).bind fun a3 =>
  cond a3
  (some false)
  (seqO (whileO (fun (s241 : Int) =>
        (some (decide (s241 < ((a_.length : Nat) : Int)))).bind fun a250 =>
        cond a250
        ((idxO a_ s241).bind fun a262 =>
          (idxO b_ s241).bind fun a276 =>
          (F_laws_eqRule (a262.1, a262.2.1, a262.2.2) (a276.1, a276.2.1, a276.2.2)).bind fun y284 =>
          (some (!y284)).bind fun a287 =>
          cond a287
          (some (.inr (.inr false)))
          ((addO s241 1).bind fun a290 =>
            some (.inl a290)))
        (some (.inr (.inl ())))) 0) fun (s147 : Unit) =>
    some true)

noncomputable def F_laws_FnExactAreRules (aRules_ : List (ByteArray × (List (Int × Int × ByteArray)) × (List (Int × Int × ByteArray)))) : Option Bool :=
  (F_laws_szRuleS aRules_ 1048576).bind fun y2 =>
  (some (decide (y2 < 0))).bind fun a5 =>
  cond a5
  (some true)
  ((F_laws_toRuleS aRules_).bind fun y8 =>
    (F_spec_AreRules y8).bind fun y13 =>
    (F_laws_toRuleS aRules_).bind fun y16 =>
    (F_impl_AreRules y16).bind fun y21 =>
    (some (!decide (y21 = y13))).bind fun a24 =>
    cond a24
    (some false)
    ((F_laws_toRuleS aRules_).bind fun y27 =>
      (F_laws_eqRuleS y16 y27).bind fun y32 =>
      (some (!y32)).bind fun a35 =>
      cond a35
      (some false)
      (some true)))
end Go.Proofs.Ytaiddnddgmkfnaa
