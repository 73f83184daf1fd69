/-
  Partial functions, printed by a program (wip/y/gen.py): what each function of Go computes, over plain data. No program in sight. No condition.
-/
import Derived.Test.YteikcdofblclhaaDoorZF
namespace Go.Proofs.YteikcdofblclhaaDoor
set_option linter.unusedVariables false

noncomputable def F_laws_szIntS (a_ : List Int) (left_ : Int) : Option Int :=
  (subO left_ ((a_.length : Nat) : Int)).bind fun a2 =>
  (some (decide (a2 < 0))).bind fun a4 =>
  cond a4
  (some (-1))
  (some a2)

noncomputable def F_laws_szIntSS (a_ : List (List Int)) (left_ : Int) : Option Int :=
  (subO left_ ((a_.length : Nat) : Int)).bind fun a2 =>
  (some (decide (a2 < 0))).bind fun a4 =>
  cond a4
  (some (-1))
  (seqO (whileO (fun (s147 : Int × Int) =>
        (some (decide (s147.2 < ((a_.length : Nat) : Int)))).bind fun a156 =>
        cond a156
        ((idxO a_ s147.2).bind fun a167 =>
          (F_laws_szIntS a167 s147.1).bind fun y171 =>
          (some (decide (y171 < 0))).bind fun a174 =>
          cond a174
          (some (.inr (.inr (-1))))
          ((addO s147.2 1).bind fun a177 =>
            some (.inl (y171, a177))))
        (some (.inr (.inl s147.1)))) (a2, 0)) fun (s91 : Int) =>
    some s91)

noncomputable def F_laws_szMatrix (a_ : Int × List (List Int)) (left_ : Int) : Option Int :=
  (F_laws_szIntSS a_.2 left_).bind fun y5 =>
  (some (decide (y5 < 0))).bind fun a8 =>
  cond a8
  (some (-1))
  (some y5)

noncomputable def F_laws_toIntS (a_ : List Int) : Option (List Int) :=
  (makeO ((a_.length : Nat) : Int) (0 : Int)).bind fun a2 =>
  (whileO (fun (s146 : List Int × Int) =>
      (some (decide (s146.2 < ((a_.length : Nat) : Int)))).bind fun a155 =>
      cond a155
      ((idxO a_ s146.2).bind fun a166 =>
        (setO s146.1 s146.2 a166).bind fun a174 =>
        (addO s146.2 1).bind fun a177 =>
        some (.inl (a174, a177)))
      (some (.inr s146.1))) (a2, 0)).bind fun (s90 : List Int) =>
  some s90

noncomputable def F_laws_toIntSS (a_ : List (List Int)) : Option (List (List Int)) :=
  (makeO ((a_.length : Nat) : Int) ([] : List Int)).bind fun a2 =>
  (whileO (fun (s181 : List (List Int) × Int) =>
      (some (decide (s181.2 < ((a_.length : Nat) : Int)))).bind fun a190 =>
      cond a190
      ((idxO a_ s181.2).bind fun a201 =>
        (F_laws_toIntS a201).bind fun y205 =>
        (setO s181.1 s181.2 y205).bind fun a216 =>
        (addO s181.2 1).bind fun a219 =>
        some (.inl (a216, a219)))
      (some (.inr s181.1))) (a2, 0)).bind fun (s111 : List (List Int)) =>
  some s111

noncomputable def F_laws_toMatrix (a_ : Int × List (List Int)) : Option (Int × List (List Int)) :=
  (F_laws_toIntSS a_.2).bind fun y12 =>
  some (a_.1, y12)

noncomputable def F_spec_l1In (n_ : Int) (lo_ : Int) (hi_ : Int) : Option Bool :=
  ((some (decide (lo_ ≤ n_))).bind fun a13 =>
    cond a13
    ((some (decide (n_ ≤ hi_))).bind fun a17 =>
      some a17)
    (some false)).bind fun (s7 : Bool) =>
  some s7

noncomputable def F_spec_fdGood (p_ : Int) : Option Bool :=
  (F_spec_l1In p_ 2 97).bind fun y1 =>
  (some (!y1)).bind fun a4 =>
  cond a4
  (some false)
  (seqO (whileO (fun (s102 : Int) =>
        (mulO s102 s102).bind fun a111 =>
        (some (decide (a111 ≤ p_))).bind fun a113 =>
        cond a113
        ((remO p_ s102).bind fun a118 =>
          (some (decide (a118 = 0))).bind fun a120 =>
          cond a120
          (some (.inr (.inr false)))
          ((addO s102 1).bind fun a123 =>
            some (.inl a123)))
        (some (.inr (.inl ())))) 2) fun (s64 : Unit) =>
    some true)

noncomputable def F_spec_l1All (l_ : List Int) (lo_ : Int) (hi_ : Int) : Option Bool :=
  seqO (forO (fun (k2 : Nat) (_ : Unit) =>
      (idxO l_ ((k2 : Nat) : Int)).bind fun a35 =>
      (F_spec_l1In a35 lo_ hi_).bind fun y37 =>
      (some (!y37)).bind fun a40 =>
      cond a40
      (some (.inr false))
      (some (.inl ()))) l_.length 0 ()) fun (_ : Unit) =>
  some true

noncomputable def F_spec_fdIn (p_ : Int) (l_ : List Int) : Option Bool :=
  (subO p_ 1).bind fun a2 =>
  (F_spec_l1All l_ 0 a2).bind fun y4 =>
  some y4

noncomputable def F_spec_mxGood (p_ : Int) (m_ : Int × List (List Int)) : Option Bool :=
  ((F_spec_fdGood p_).bind fun y27 =>
    (some (!y27)).bind fun a30 =>
    cond a30
    (some true)
    ((F_spec_l1In m_.1 0 24).bind fun y33 =>
      (some (!y33)).bind fun a36 =>
      cond a36
      (some true)
      ((some (decide ((24 : Int) < ((m_.2.length : Nat) : Int)))).bind fun a39 =>
        some a39))).bind fun (s21 : Bool) =>
  cond s21
  (some false)
  (seqO (forO (fun (k46 : Nat) (_ : Unit) =>
        (idxO m_.2 ((k46 : Nat) : Int)).bind fun a102 =>
        ((some (!decide (((a102.length : Nat) : Int) = m_.1))).bind fun a121 =>
          cond a121
          (some true)
          ((F_spec_fdIn p_ a102).bind fun y124 =>
            (some (!y124)).bind fun a127 =>
            some a127)).bind fun (s115 : Bool) =>
        cond s115
        (some (.inr false))
        (some (.inl ()))) m_.2.length 0 ()) fun (_ : Unit) =>
    some true)

noncomputable def F_spec_l1Rising (l_ : List Int) (lo_ : Int) (hi_ : Int) : Option Bool :=
  seqO (forO (fun (k2 : Nat) (_ : Unit) =>
      (idxO l_ ((k2 : Nat) : Int)).bind fun a84 =>
      ((F_spec_l1In a84 lo_ hi_).bind fun y115 =>
        (some (!y115)).bind fun a118 =>
        cond a118
        (some true)
        ((some (decide ((0 : Int) < ((k2 : Nat) : Int)))).bind fun a121 =>
          cond a121
          ((subO ((k2 : Nat) : Int) 1).bind fun a125 =>
            (idxO l_ a125).bind fun a133 =>
            (some (decide (a84 ≤ a133))).bind fun a135 =>
            some a135)
          (some false))).bind fun (s109 : Bool) =>
      cond s109
      (some (.inr false))
      (some (.inl ()))) l_.length 0 ()) fun (_ : Unit) =>
  some true

noncomputable def F_spec_riPorts (ports_ : List Int) (n_ : Int) : Option Bool :=
  (subO n_ 1).bind fun a2 =>
  (F_spec_l1Rising ports_ 0 a2).bind fun y4 =>
  some y4

noncomputable def F_spec_l1Has (l_ : List Int) (n_ : Int) : Option Bool :=
  seqO (forO (fun (k2 : Nat) (_ : Unit) =>
      (idxO l_ ((k2 : Nat) : Int)).bind fun a32 =>
      (some (decide (a32 = n_))).bind fun a34 =>
      cond a34
      (some (.inr true))
      (some (.inl ()))) l_.length 0 ()) fun (_ : Unit) =>
  some false

noncomputable def F_spec_riRest (ports_ : List Int) (n_ : Int) : Option (List Int) :=
  (whileO (fun (s148 : List Int × Int) =>
      (some (decide (s148.2 < n_))).bind fun a159 =>
      cond a159
      ((F_spec_l1Has ports_ s148.2).bind fun y164 =>
        (some (!y164)).bind fun a167 =>
        cond a167
        ((appO s148.1 [s148.2]).bind fun a176 =>
          (addO s148.2 1).bind fun a181 =>
          some (.inl (a176, a181)))
        ((addO s148.2 1).bind fun a170 =>
          some (.inl (s148.1, a170))))
      (some (.inr s148.1))) ([], 0)).bind fun (s89 : List Int) =>
  some s89

noncomputable def F_spec_l1Own (l_ : List Int) : Option (List Int) :=
  (appO ([] : List Int) l_).bind fun a5 =>
  some a5

noncomputable def F_spec_fdInv (p_ : Int) (a_ : Int) : Option Int :=
  seqO (whileO (fun (s96 : Int) =>
      (some (decide (s96 < p_))).bind fun a105 =>
      cond a105
      ((mulO a_ s96).bind fun a110 =>
        (remO a110 p_).bind fun a112 =>
        (some (decide (a112 = 1))).bind fun a114 =>
        cond a114
        (some (.inr (.inr s96)))
        ((addO s96 1).bind fun a117 =>
          some (.inl a117)))
      (some (.inr (.inl ())))) 1) fun (s58 : Unit) =>
  some 0

noncomputable def F_spec_fdMul (p_ : Int) (a_ : Int) (b_ : Int) : Option Int :=
  (mulO a_ b_).bind fun a1 =>
  (remO a1 p_).bind fun a3 =>
  some a3

noncomputable def F_spec_fdSub (p_ : Int) (a_ : Int) (b_ : Int) : Option Int :=
  (addO a_ p_).bind fun a1 =>
  (subO a1 b_).bind fun a3 =>
  (remO a3 p_).bind fun a5 =>
  some a5

noncomputable def F_spec_spReduce (p_ : Int) (size_ : Int) (rows_ : List (List Int)) : Option (List (List Int)) :=
  (forS (fun (k2 : Nat) (s55 : List (List Int)) =>
      (idxO rows_ ((k2 : Nat) : Int)).bind fun a72 =>
      (F_spec_l1Own a72).bind fun y76 =>
      (appO s55 [y76]).bind fun a84 =>
      some a84) rows_.length 0 []).bind fun (s91 : List (List Int)) =>
  (whileO (fun (s23898 : List (List Int) × Int × Int) =>
      ((some (decide (s23898.2.2 < size_))).bind fun a23919 =>
        cond a23919
        ((some (decide (s23898.2.1 < ((s23898.1.length : Nat) : Int)))).bind fun a23923 =>
          some a23923)
        (some false)).bind fun (s23913 : Bool) =>
      cond s23913
      (((whileO (fun (s26612 : Int) =>
              ((some (decide (s26612 < ((s23898.1.length : Nat) : Int)))).bind fun a26650 =>
                cond a26650
                ((idxO s23898.1 s26612).bind fun a26660 =>
                  (idxO a26660 s23898.2.2).bind fun a26669 =>
                  (some (decide (a26669 = 0))).bind fun a26671 =>
                  some a26671)
                (some false)).bind fun (s26644 : Bool) =>
              cond s26644
              ((addO s26612 1).bind fun a26678 =>
                some (.inl a26678))
              (some (.inr s26612))) s23898.2.1).bind fun (s26486 : Int) =>
          (some (decide (s26486 = ((s23898.1.length : Nat) : Int)))).bind fun a26682 =>
          cond a26682
          (some (s23898.1, s23898.2.1))
          ((idxO s23898.1 s23898.2.1).bind fun a26691 =>
            (idxO s23898.1 s26486).bind fun a26700 =>
            (swapO s23898.1 s23898.2.1 s26486).bind fun a26717 =>
            (idxO a26717 s23898.2.1).bind fun a26725 =>
            (idxO a26725 s23898.2.2).bind fun a26734 =>
            (F_spec_fdInv p_ a26734).bind fun y26736 =>
            (idxO a26717 s23898.2.1).bind fun a26745 =>
            (forS (fun (k26749 : Nat) (s26838 : List (List Int)) =>
                (idxO s26838 s23898.2.1).bind fun a26854 =>
                (idxO s26838 s23898.2.1).bind fun a26863 =>
                (idxO a26863 ((k26749 : Nat) : Int)).bind fun a26872 =>
                (F_spec_fdMul p_ a26872 y26736).bind fun y26874 =>
                (setO a26854 ((k26749 : Nat) : Int) y26874).bind fun a26884 =>
                (setO s26838 s23898.2.1 a26884).bind fun a26887 =>
                some a26887) a26745.length 0 a26717).bind fun (s26891 : List (List Int)) =>
            (forS (fun (k26893 : Nat) (s28062 : List (List Int)) =>
                (((some (decide (((k26893 : Nat) : Int) = s23898.2.1))).bind fun a28393 =>
                    cond a28393
                    (some true)
                    ((idxO s28062 ((k26893 : Nat) : Int)).bind fun a28402 =>
                      (idxO a28402 s23898.2.2).bind fun a28411 =>
                      (some (decide (a28411 = 0))).bind fun a28413 =>
                      some a28413)).bind fun (s28387 : Bool) =>
                  cond s28387
                  (some s28062)
                  ((idxO s28062 ((k26893 : Nat) : Int)).bind fun a28425 =>
                    (idxO a28425 s23898.2.2).bind fun a28434 =>
                    (idxO s28062 ((k26893 : Nat) : Int)).bind fun a28442 =>
                    (forS (fun (k28446 : Nat) (s28575 : List (List Int)) =>
                        (idxO s28575 ((k26893 : Nat) : Int)).bind fun a28591 =>
                        (idxO s28575 ((k26893 : Nat) : Int)).bind fun a28600 =>
                        (idxO s28575 s23898.2.1).bind fun a28609 =>
                        (idxO a28600 ((k28446 : Nat) : Int)).bind fun a28618 =>
                        (idxO a28609 ((k28446 : Nat) : Int)).bind fun a28626 =>
                        (F_spec_fdMul p_ a28434 a28626).bind fun y28628 =>
                        (F_spec_fdSub p_ a28618 y28628).bind fun y28631 =>
                        (setO a28591 ((k28446 : Nat) : Int) y28631).bind fun a28641 =>
                        (setO s28575 ((k26893 : Nat) : Int) a28641).bind fun a28644 =>
                        some a28644) a28442.length 0 s28062).bind fun (s28648 : List (List Int)) =>
                    some s28648)).bind fun (s28358 : List (List Int)) =>
                some s28358) s26891.length 0 s26891).bind fun (s28655 : List (List Int)) =>
            (addO s23898.2.1 1).bind fun a28657 =>
            some (s28655, a28657))).bind fun (s26292 : List (List Int) × Int) =>
        (addO s23898.2.2 1).bind fun a28662 =>
        some (.inl (s26292.1, s26292.2, a28662)))
      (some (.inr (s23898.1, s23898.2.1)))) (s91, 0, 0)).bind fun (s14376 : List (List Int) × Int) =>
  (sliceO s14376.1 0 s14376.2).bind fun a28666 =>
  some a28666

noncomputable def F_spec_RelationOfFunction (p_ : Int) (left_ : Int) (right_ : Int) (ports_ : List Int) (m_ : Int × List (List Int)) : Option ((Int × Int × List (List Int)) × Bool) :=
  ((F_spec_l1In left_ 0 24).bind fun y57 =>
    (some (!y57)).bind fun a60 =>
    cond a60
    (some true)
    ((subO 24 left_).bind fun a63 =>
      (F_spec_l1In right_ 0 a63).bind fun y65 =>
      (some (!y65)).bind fun a68 =>
      cond a68
      (some true)
      ((F_spec_mxGood p_ (m_.1, m_.2)).bind fun y71 =>
        (some (!y71)).bind fun a74 =>
        cond a74
        (some true)
        ((addO left_ right_).bind fun a77 =>
          (F_spec_riPorts ports_ a77).bind fun y79 =>
          (some (!y79)).bind fun a82 =>
          cond a82
          (some true)
          ((some (!decide (((m_.2.length : Nat) : Int) = ((ports_.length : Nat) : Int)))).bind fun a85 =>
            cond a85
            (some true)
            ((addO left_ right_).bind fun a88 =>
              (subO a88 ((ports_.length : Nat) : Int)).bind fun a90 =>
              (some (!decide (m_.1 = a90))).bind fun a92 =>
              some a92)))))).bind fun (s51 : Bool) =>
  cond s51
  (some ((0, 0, []), false))
  ((addO left_ right_).bind fun a102 =>
    (F_spec_riRest ports_ a102).bind fun y104 =>
    (forS (fun (k109 : Nat) (s386 : List (List Int)) =>
        (idxO ports_ ((k109 : Nat) : Int)).bind fun a403 =>
        (addO left_ right_).bind fun a405 =>
        (makeO a405 (0 : Int)).bind fun a407 =>
        (setO a407 a403 1).bind fun a418 =>
        (idxO m_.2 ((k109 : Nat) : Int)).bind fun a427 =>
        (forS (fun (k431 : Nat) (s486 : List Int) =>
            (idxO a427 ((k431 : Nat) : Int)).bind fun a501 =>
            (idxO y104 ((k431 : Nat) : Int)).bind fun a509 =>
            (setO s486 a509 a501).bind fun a517 =>
            some a517) a427.length 0 a418).bind fun (s522 : List Int) =>
        (appO s386 [s522]).bind fun a527 =>
        some a527) ports_.length 0 []).bind fun (s534 : List (List Int)) =>
    (addO left_ right_).bind fun a537 =>
    (F_spec_spReduce p_ a537 s534).bind fun y539 =>
    some ((left_, right_, y539), true))

noncomputable def F_impl_isField (p_ : Int) : Option Bool :=
  ((some (decide (p_ < 2))).bind fun a14 =>
    cond a14
    (some true)
    ((some (decide ((97 : Int) < p_))).bind fun a17 =>
      some a17)).bind fun (s8 : Bool) =>
  cond s8
  (some false)
  ((cI 4).bind fun _ =>
    seqO (forO (fun (k23 : Nat) (_ : Unit) =>
        (idxO [2, 3, 5, 7] ((k23 : Nat) : Int)).bind fun a65 =>
        ((remO p_ a65).bind fun a81 =>
          (some (decide (a81 = 0))).bind fun a83 =>
          cond a83
          ((some (!decide (p_ = a65))).bind fun a87 =>
            some a87)
          (some false)).bind fun (s75 : Bool) =>
        cond s75
        (some (.inr false))
        (some (.inl ()))) ((4 : Int).toNat) 0 ()) fun (_ : Unit) =>
    some true)

noncomputable def F_impl_within (n_ : Int) (low_ : Int) (high_ : Int) : Option Bool :=
  ((some (decide (low_ ≤ n_))).bind fun a13 =>
    cond a13
    ((some (decide (n_ ≤ high_))).bind fun a17 =>
      some a17)
    (some false)).bind fun (s7 : Bool) =>
  some s7

noncomputable def F_impl_isElement (p_ : Int) (a_ : Int) : Option Bool :=
  ((some (decide ((0 : Int) ≤ a_))).bind fun a13 =>
    cond a13
    ((some (decide (a_ < p_))).bind fun a17 =>
      some a17)
    (some false)).bind fun (s7 : Bool) =>
  some s7

noncomputable def F_impl_isVector (p_ : Int) (v_ : List Int) (n_ : Int) : Option Bool :=
  (some (!decide (((v_.length : Nat) : Int) = n_))).bind fun a2 =>
  cond a2
  (some false)
  (seqO (forO (fun (k5 : Nat) (_ : Unit) =>
        (idxO v_ ((k5 : Nat) : Int)).bind fun a38 =>
        (F_impl_isElement p_ a38).bind fun y40 =>
        (some (!y40)).bind fun a43 =>
        cond a43
        (some (.inr false))
        (some (.inl ()))) v_.length 0 ()) fun (_ : Unit) =>
    some true)

noncomputable def F_impl_areVectors (p_ : Int) (rows_ : List (List Int)) (n_ : Int) : Option Bool :=
  seqO (forO (fun (k2 : Nat) (_ : Unit) =>
      (idxO rows_ ((k2 : Nat) : Int)).bind fun a37 =>
      (F_impl_isVector p_ a37 n_).bind fun y41 =>
      (some (!y41)).bind fun a44 =>
      cond a44
      (some (.inr false))
      (some (.inl ()))) rows_.length 0 ()) fun (_ : Unit) =>
  some true

noncomputable def F_impl_isMatrix (p_ : Int) (m_ : Int × List (List Int)) : Option Bool :=
  ((F_impl_isField p_).bind fun y29 =>
    cond y29
    ((F_impl_within m_.1 0 24).bind fun y34 =>
      cond y34
      ((some (decide (((m_.2.length : Nat) : Int) ≤ 24))).bind fun a39 =>
        cond a39
        ((F_impl_areVectors p_ m_.2 m_.1).bind fun y43 =>
          some y43)
        (some false))
      (some false))
    (some false)).bind fun (s23 : Bool) =>
  some s23

noncomputable def F_impl_fits (left_ : Int) (right_ : Int) : Option Bool :=
  ((F_impl_within left_ 0 24).bind fun y21 =>
    cond y21
    ((F_impl_within right_ 0 24).bind fun y26 =>
      cond y26
      ((addO left_ right_).bind fun a31 =>
        (some (decide (a31 ≤ 24))).bind fun a33 =>
        some a33)
      (some false))
    (some false)).bind fun (s15 : Bool) =>
  some s15

noncomputable def F_impl_isPortList (ports_ : List Int) (n_ : Int) : Option Bool :=
  seqO (forO (fun (k2 : Nat) (_ : Unit) =>
      (idxO ports_ ((k2 : Nat) : Int)).bind fun a88 =>
      ((subO n_ 1).bind fun a121 =>
        (F_impl_within a88 0 a121).bind fun y123 =>
        (some (!y123)).bind fun a126 =>
        cond a126
        (some true)
        ((some (decide ((0 : Int) < ((k2 : Nat) : Int)))).bind fun a129 =>
          cond a129
          ((subO ((k2 : Nat) : Int) 1).bind fun a133 =>
            (idxO ports_ a133).bind fun a141 =>
            (some (decide (a88 ≤ a141))).bind fun a143 =>
            some a143)
          (some false))).bind fun (s115 : Bool) =>
      cond s115
      (some (.inr false))
      (some (.inl ()))) ports_.length 0 ()) fun (_ : Unit) =>
  some true

noncomputable def F_impl_zeros (n_ : Int) : Option (List Int) :=
  (makeO n_ (0 : Int)).bind fun a1 =>
  some a1

noncomputable def F_impl_upTo (n_ : Int) : Option (List Int) :=
  (F_impl_zeros n_).bind fun y1 =>
  (forS (fun (k6 : Nat) (s29 : List Int) =>
      (setO s29 ((k6 : Nat) : Int) ((k6 : Nat) : Int)).bind fun a44 =>
      some a44) y1.length 0 y1).bind fun (s49 : List Int) =>
  some s49

noncomputable def F_slices_Index_int_int (s_ : List Int) (v_ : Int) : Option Int :=
  seqO (forO (fun (k2 : Nat) (_ : Unit) =>
      (idxO s_ ((k2 : Nat) : Int)).bind fun a32 =>
      (some (decide (v_ = a32))).bind fun a34 =>
      cond a34
      (some (.inr ((k2 : Nat) : Int)))
      (some (.inl ()))) s_.length 0 ()) fun (_ : Unit) =>
  some (-1)

noncomputable def F_slices_Contains_int_int (s_ : List Int) (v_ : Int) : Option Bool :=
  (F_slices_Index_int_int s_ v_).bind fun y2 =>
  (some (decide ((0 : Int) ≤ y2))).bind fun a5 =>
  some a5

noncomputable def F_impl_others (list_ : List Int) (without_ : List Int) : Option (List Int) :=
  (forS (fun (k6 : Nat) (s58 : List Int) =>
      (idxO list_ ((k6 : Nat) : Int)).bind fun a74 =>
      (F_slices_Contains_int_int without_ a74).bind fun y76 =>
      (some (!y76)).bind fun a79 =>
      cond a79
      ((appO s58 [a74]).bind fun a86 =>
        some a86)
      (some s58)) list_.length 0 ([] : List Int)).bind fun (s93 : List Int) =>
  some s93

noncomputable def F_impl_joined (lists_ : List (List Int)) : Option (List Int) :=
  (forS (fun (k5 : Nat) (s41 : List Int) =>
      (idxO lists_ ((k5 : Nat) : Int)).bind fun a57 =>
      (appO s41 a57).bind fun a61 =>
      some a61) lists_.length 0 ([] : List Int)).bind fun (s68 : List Int) =>
  some s68

noncomputable def F_impl_unit (n_ : Int) (at_ : Int) : Option (List Int) :=
  (F_impl_zeros n_).bind fun y1 =>
  (setO y1 at_ 1).bind fun a12 =>
  some a12

noncomputable def F_impl_placed (rows_ : List (List Int)) (n_ : Int) (at_ : List Int) : Option (List (List Int)) :=
  (forS (fun (k6 : Nat) (s244 : List (List Int)) =>
      (idxO rows_ ((k6 : Nat) : Int)).bind fun a260 =>
      (F_impl_zeros n_).bind fun y264 =>
      (forS (fun (k269 : Nat) (s324 : List Int) =>
          (idxO a260 ((k269 : Nat) : Int)).bind fun a339 =>
          (idxO at_ ((k269 : Nat) : Int)).bind fun a347 =>
          (setO s324 a347 a339).bind fun a355 =>
          some a355) a260.length 0 y264).bind fun (s360 : List Int) =>
      (appO s244 [s360]).bind fun a365 =>
      some a365) rows_.length 0 ([] : List (List Int))).bind fun (s372 : List (List Int)) =>
  some s372

noncomputable def F_impl_clone (list_ : List Int) : Option (List Int) :=
  (appO ([] : List Int) list_).bind fun a5 =>
  some a5

noncomputable def F_impl_clones (list_ : List (List Int)) : Option (List (List Int)) :=
  (makeCO 0 ((list_.length : Nat) : Int) ([] : List Int)).bind fun a2 =>
  (forS (fun (k7 : Nat) (s59 : List (List Int)) =>
      (idxO list_ ((k7 : Nat) : Int)).bind fun a75 =>
      (F_impl_clone a75).bind fun y79 =>
      (appO s59 [y79]).bind fun a87 =>
      some a87) list_.length 0 a2).bind fun (s94 : List (List Int)) =>
  some s94

noncomputable def F_impl_bit (yes_ : Bool) : Option Int :=
  cond yes_
  (some 1)
  (some 0)

noncomputable def F_impl_power (p_ : Int) (a_ : Int) (n_ : Int) : Option Int :=
  (remO 1 p_).bind fun a1 =>
  (whileO (fun (s217 : Int × Int × Int) =>
      (some (decide ((0 : Int) < s217.2.1))).bind fun a226 =>
      cond a226
      (((remO s217.2.1 2).bind fun a247 =>
          (some (decide (a247 = 1))).bind fun a249 =>
          cond a249
          ((mulO s217.2.2 s217.1).bind fun a253 =>
            (remO a253 p_).bind fun a255 =>
            some a255)
          (some s217.2.2)).bind fun (s241 : Int) =>
        (mulO s217.1 s217.1).bind fun a259 =>
        (remO a259 p_).bind fun a261 =>
        (quoO s217.2.1 2).bind fun a263 =>
        some (.inl (a261, a263, s241)))
      (some (.inr s217.2.2))) (a_, n_, a1)).bind fun (s131 : Int) =>
  some s131

noncomputable def F_impl_inverse (p_ : Int) (a_ : Int) : Option Int :=
  (subO p_ 2).bind fun a1 =>
  (some (decide (p_ = 2))).bind fun a3 =>
  (F_impl_bit a3).bind fun y5 =>
  (addO a1 y5).bind fun a8 =>
  (F_impl_power p_ a_ a8).bind fun y10 =>
  some y10

noncomputable def F_impl_mod (p_ : Int) (a_ : Int) : Option Int :=
  (remO a_ p_).bind fun a1 =>
  (some (decide (a1 < 0))).bind fun a3 =>
  cond a3
  ((addO a1 p_).bind fun a7 =>
    some a7)
  (some a1)

noncomputable def F_impl_addTimes (p_ : Int) (v_ : List Int) (by_ : Int) (w_ : List Int) : Option (List Int) :=
  (forS (fun (k3 : Nat) (s72 : List Int) =>
      (idxO w_ ((k3 : Nat) : Int)).bind fun a87 =>
      (idxO s72 ((k3 : Nat) : Int)).bind fun a95 =>
      (mulO by_ a87).bind fun a97 =>
      (addO a95 a97).bind fun a99 =>
      (F_impl_mod p_ a99).bind fun y101 =>
      (setO s72 ((k3 : Nat) : Int) y101).bind fun a110 =>
      some a110) w_.length 0 v_).bind fun (s115 : List Int) =>
  some s115

noncomputable def F_impl_rowOperation_apply (o_ : Int × Int × Int × Int) (p_ : Int) (rows_ : List (List Int)) : Option (List (List Int)) :=
  (some (decide (o_.1 = 0))).bind fun a5 =>
  cond a5
  ((idxO rows_ o_.2.2.1).bind fun a173 =>
    (idxO rows_ o_.2.1).bind fun a182 =>
    (swapO rows_ o_.2.1 o_.2.2.1).bind fun a199 =>
    some a199)
  ((some (decide (o_.1 = 1))).bind fun a8 =>
    cond a8
    ((F_impl_inverse p_ o_.2.2.2).bind fun y48 =>
      (idxO rows_ o_.2.1).bind fun a57 =>
      (forS (fun (k61 : Nat) (s122 : List Int) =>
          (idxO s122 ((k61 : Nat) : Int)).bind fun a137 =>
          (mulO a137 y48).bind fun a140 =>
          (remO a140 p_).bind fun a142 =>
          (setO s122 ((k61 : Nat) : Int) a142).bind fun a156 =>
          some a156) a57.length 0 a57).bind fun (s161 : List Int) =>
      (setO rows_ o_.2.1 s161).bind fun a163 =>
      some a163)
    ((some (decide (o_.1 = 2))).bind fun a11 =>
      cond a11
      ((idxO rows_ o_.2.1).bind fun a22 =>
        (negO o_.2.2.2).bind fun a25 =>
        (idxO rows_ o_.2.2.1).bind fun a33 =>
        (F_impl_addTimes p_ a22 a25 a33).bind fun y36 =>
        (neqO o_.2.1 o_.2.2.1).bind fun _ =>
        (setO rows_ o_.2.1 y36).bind fun a45 =>
        some a45)
      (some rows_)))

noncomputable def F_impl_reduction_1 (o_ : Int × Int × Int × Int) (c0_ : Int) (c1_ : List (List Int)) (c2_ : List (List Int)) : Option (List (List Int) × List (List Int)) :=
  (some (decide (([o_.1, o_.2.1, o_.2.2.1, o_.2.2.2] : List Int) = [0, o_.2.1, o_.2.1, 0]))).bind fun a9 =>
  cond a9
  (some (c1_, c2_))
  ((F_impl_rowOperation_apply (o_.1, o_.2.1, o_.2.2.1, o_.2.2.2) c0_ c1_).bind fun y12 =>
    (F_impl_rowOperation_apply (o_.1, o_.2.1, o_.2.2.1, o_.2.2.2) c0_ c2_).bind fun y15 =>
    some (y12, y15))

noncomputable def F_impl_reduction (p_ : Int) (rows_ : List (List Int)) (n_ : Int) (also_ : List (List Int)) : Option (List (List Int) × List (List Int) × Int) :=
  (whileO (fun (s6786 : List (List Int) × List (List Int) × Int × Int) =>
      ((some (decide (s6786.2.2.1 < n_))).bind fun a6807 =>
        cond a6807
        ((some (decide (s6786.2.2.2 < ((s6786.1.length : Nat) : Int)))).bind fun a6811 =>
          some a6811)
        (some false)).bind fun (s6801 : Bool) =>
      cond s6801
      (((whileO (fun (s7797 : Int) =>
              ((some (decide (s7797 < ((s6786.1.length : Nat) : Int)))).bind fun a7835 =>
                cond a7835
                ((idxO s6786.1 s7797).bind fun a7845 =>
                  (idxO a7845 s6786.2.2.1).bind fun a7854 =>
                  (some (decide (a7854 = 0))).bind fun a7856 =>
                  some a7856)
                (some false)).bind fun (s7829 : Bool) =>
              cond s7829
              ((addO s7797 1).bind fun a7863 =>
                some (.inl a7863))
              (some (.inr s7797))) s6786.2.2.2).bind fun (s7671 : Int) =>
          (some (decide (s7671 = ((s6786.1.length : Nat) : Int)))).bind fun a7867 =>
          cond a7867
          (some (s6786.1, s6786.2.1, s6786.2.2.2))
          ((F_impl_reduction_1 (0, s6786.2.2.2, s7671, 0) p_ s6786.1 s6786.2.1).bind fun y7870 =>
            (idxO y7870.1 s6786.2.2.2).bind fun a7879 =>
            (idxO a7879 s6786.2.2.1).bind fun a7888 =>
            (F_impl_reduction_1 (1, s6786.2.2.2, 0, a7888) p_ y7870.1 y7870.2).bind fun y7890 =>
            (forS (fun (k7893 : Nat) (s8050 : List (List Int) × List (List Int)) =>
                ((some (!decide (((k7893 : Nat) : Int) = s6786.2.2.2))).bind fun a8088 =>
                  cond a8088
                  ((idxO s8050.1 ((k7893 : Nat) : Int)).bind fun a8098 =>
                    (idxO a8098 s6786.2.2.1).bind fun a8107 =>
                    (some (!decide (a8107 = 0))).bind fun a8109 =>
                    some a8109)
                  (some false)).bind fun (s8082 : Bool) =>
                cond s8082
                ((idxO s8050.1 ((k7893 : Nat) : Int)).bind fun a8121 =>
                  (idxO a8121 s6786.2.2.1).bind fun a8130 =>
                  (F_impl_reduction_1 (2, ((k7893 : Nat) : Int), s6786.2.2.2, a8130) p_ s8050.1 s8050.2).bind fun y8132 =>
                  some (y8132.1, y8132.2))
                (some (s8050.1, s8050.2))) y7890.1.length 0 (y7890.1, y7890.2)).bind fun (s8137 : List (List Int) × List (List Int)) =>
            (addO s6786.2.2.2 1).bind fun a8139 =>
            some (s8137.1, s8137.2, a8139))).bind fun (s7477 : List (List Int) × List (List Int) × Int) =>
        (addO s6786.2.2.1 1).bind fun a8144 =>
        some (.inl (s7477.1, s7477.2.1, a8144, s7477.2.2)))
      (some (.inr (s6786.1, s6786.2.1, s6786.2.2.2)))) (rows_, also_, 0, 0)).bind fun (s4076 : List (List Int) × List (List Int) × Int) =>
  some (s4076.1, s4076.2.1, s4076.2.2)

noncomputable def F_impl_reduced (p_ : Int) (rows_ : List (List Int)) (n_ : Int) : Option (List (List Int)) :=
  (F_impl_clones rows_).bind fun y2 =>
  (makeO ((y2.length : Nat) : Int) ([] : List Int)).bind fun a7 =>
  (F_impl_reduction p_ y2 n_ a7).bind fun y12 =>
  (sliceO y12.1 0 y12.2.2).bind fun a15 =>
  some a15

noncomputable def F_impl_relation (p_ : Int) (left_ : Int) (right_ : Int) (rows_ : List (List Int)) : Option (Int × Int × List (List Int)) :=
  (addO left_ right_).bind fun a5 =>
  (F_impl_reduced p_ rows_ a5).bind fun y7 =>
  some (left_, right_, y7)

noncomputable def F_impl_RelationOfFunction (p_ : Int) (left_ : Int) (right_ : Int) (ports_ : List Int) (m_ : Int × List (List Int)) : Option ((Int × Int × List (List Int)) × Bool) :=
  (some (wrapI (left_ + right_))).bind fun a10 =>
  ((F_impl_isMatrix p_ (m_.1, m_.2)).bind fun y47 =>
    (some (!y47)).bind fun a50 =>
    cond a50
    (some true)
    ((F_impl_fits left_ right_).bind fun y53 =>
      (some (!y53)).bind fun a56 =>
      cond a56
      (some true)
      ((F_impl_isPortList ports_ a10).bind fun y59 =>
        (some (!y59)).bind fun a62 =>
        cond a62
        (some true)
        ((some (!decide (((m_.2.length : Nat) : Int) = ((ports_.length : Nat) : Int)))).bind fun a65 =>
          cond a65
          (some true)
          ((subO a10 ((ports_.length : Nat) : Int)).bind fun a68 =>
            (some (!decide (m_.1 = a68))).bind fun a70 =>
            some a70))))).bind fun (s41 : Bool) =>
  cond s41
  (some ((0, 0, []), false))
  ((F_impl_upTo a10).bind fun y79 =>
    (F_impl_others y79 ports_).bind fun y84 =>
    (F_impl_joined [ports_, y84]).bind fun y94 =>
    (forS (fun (k102 : Nat) (s174 : List (List Int)) =>
        (idxO m_.2 ((k102 : Nat) : Int)).bind fun a190 =>
        (F_impl_unit ((ports_.length : Nat) : Int) ((k102 : Nat) : Int)).bind fun y194 =>
        (F_impl_joined [y194, a190]).bind fun y204 =>
        (appO s174 [y204]).bind fun a212 =>
        some a212) m_.2.length 0 ([] : List (List Int))).bind fun (s219 : List (List Int)) =>
    (F_impl_placed s219 a10 y94).bind fun y222 =>
    (F_impl_relation p_ left_ right_ y222).bind fun y227 =>
    some ((y227.1, y227.2.1, y227.2.2), true))

noncomputable def F_laws_eqIntS (a_ : List Int) (b_ : List Int) : Option Bool :=
  (some (!decide (((a_.length : Nat) : Int) = ((b_.length : Nat) : Int)))).bind fun a3 =>
  cond a3
  (some false)
  (seqO (whileO (fun (s166 : Int) =>
        (some (decide (s166 < ((a_.length : Nat) : Int)))).bind fun a175 =>
        cond a175
        ((idxO a_ s166).bind fun a187 =>
          (idxO b_ s166).bind fun a195 =>
          (some (!decide (a187 = a195))).bind fun a197 =>
          cond a197
          (some (.inr (.inr false)))
          ((addO s166 1).bind fun a200 =>
            some (.inl a200)))
        (some (.inr (.inl ())))) 0) fun (s102 : Unit) =>
    some true)

noncomputable def F_laws_eqIntSS (a_ : List (List Int)) (b_ : List (List Int)) : Option Bool :=
  (some (!decide (((a_.length : Nat) : Int) = ((b_.length : Nat) : Int)))).bind fun a3 =>
  cond a3
  (some false)
  (seqO (whileO (fun (s201 : Int) =>
        (some (decide (s201 < ((a_.length : Nat) : Int)))).bind fun a210 =>
        cond a210
        ((idxO a_ s201).bind fun a222 =>
          (idxO b_ s201).bind fun a232 =>
          (F_laws_eqIntS a222 a232).bind fun y236 =>
          (some (!y236)).bind fun a239 =>
          cond a239
          (some (.inr (.inr false)))
          ((addO s201 1).bind fun a242 =>
            some (.inl a242)))
        (some (.inr (.inl ())))) 0) fun (s123 : Unit) =>
    some true)

noncomputable def F_laws_eqRelation (a_ : Int × Int × List (List Int)) (b_ : Int × Int × List (List Int)) : Option Bool :=
  (some (!decide (a_.1 = b_.1))).bind fun a9 =>
  cond a9
  (some false)
  ((some (!decide (a_.2.1 = b_.2.1))).bind fun a12 =>
    cond a12
    (some false)
    ((F_laws_eqIntSS a_.2.2 b_.2.2).bind fun y15 =>
      (some (!y15)).bind fun a18 =>
      cond a18
      (some false)
      (some true)))

noncomputable def F_laws_eqMatrix (a_ : Int × List (List Int)) (b_ : Int × List (List Int)) : Option Bool :=
  (some (!decide (a_.1 = b_.1))).bind fun a9 =>
  cond a9
  (some false)
  ((F_laws_eqIntSS a_.2 b_.2).bind fun y12 =>
    (some (!y12)).bind fun a15 =>
    cond a15
    (some false)
    (some true))

noncomputable def F_laws_markIntS (a_ : List Int) (k_ : Int) : Option (List Int × Int) :=
  (whileO (fun (s111 : List Int × Int × Int) =>
      (some (decide (s111.2.2 < ((s111.1.length : Nat) : Int)))).bind fun a120 =>
      cond a120
      ((setO s111.1 s111.2.2 s111.2.1).bind fun a131 =>
        (addO s111.2.1 1).bind fun a134 =>
        (addO s111.2.2 1).bind fun a136 =>
        some (.inl (a131, a134, a136)))
      (some (.inr (s111.1, s111.2.1)))) (a_, k_, 0)).bind fun (s67 : List Int × Int) =>
  some (s67.1, s67.2)

noncomputable def F_laws_markIntSS (a_ : List (List Int)) (k_ : Int) : Option (List (List Int) × Int) :=
  (whileO (fun (s131 : List (List Int) × Int × Int) =>
      (some (decide (s131.2.2 < ((s131.1.length : Nat) : Int)))).bind fun a140 =>
      cond a140
      ((idxO s131.1 s131.2.2).bind fun a151 =>
        (F_laws_markIntS a151 s131.2.1).bind fun y154 =>
        (setO s131.1 s131.2.2 y154.1).bind fun a158 =>
        (addO s131.2.2 1).bind fun a160 =>
        some (.inl (a158, y154.2, a160)))
      (some (.inr (s131.1, s131.2.1)))) (a_, k_, 0)).bind fun (s79 : List (List Int) × Int) =>
  some (s79.1, s79.2)

noncomputable def F_laws_markMatrix (a_ : Int × List (List Int)) (k_ : Int) : Option ((Int × List (List Int)) × Int) :=
  (F_laws_markIntSS a_.2 k_).bind fun y5 =>
  some ((a_.1, y5.1), y5.2)

noncomputable def F_laws_markRelation (a_ : Int × Int × List (List Int)) (k_ : Int) : Option ((Int × Int × List (List Int)) × Int) :=
  (F_laws_markIntSS a_.2.2 k_).bind fun y5 =>
  some ((a_.1, a_.2.1, y5.1), y5.2)

noncomputable def F_laws_heldIntS (a_ : List Int) (k_ : Int) : Option Int :=
  seqO (whileO (fun (s127 : Int × Int) =>
      (some (decide (s127.2 < ((a_.length : Nat) : Int)))).bind fun a136 =>
      cond a136
      ((idxO a_ s127.2).bind fun a147 =>
        (some (!decide (a147 = s127.1))).bind fun a149 =>
        cond a149
        (some (.inr (.inr (-1))))
        ((addO s127.1 1).bind fun a152 =>
          (addO s127.2 1).bind fun a154 =>
          some (.inl (a152, a154))))
      (some (.inr (.inl s127.1)))) (k_, 0)) fun (s77 : Int) =>
  some s77

noncomputable def F_laws_heldIntSS (a_ : List (List Int)) (k_ : Int) : Option Int :=
  seqO (whileO (fun (s142 : Int × Int) =>
      (some (decide (s142.2 < ((a_.length : Nat) : Int)))).bind fun a151 =>
      cond a151
      ((idxO a_ s142.2).bind fun a162 =>
        (F_laws_heldIntS a162 s142.1).bind fun y166 =>
        (some (decide (y166 < 0))).bind fun a169 =>
        cond a169
        (some (.inr (.inr (-1))))
        ((addO s142.2 1).bind fun a172 =>
          some (.inl (y166, a172))))
      (some (.inr (.inl s142.1)))) (k_, 0)) fun (s86 : Int) =>
  some s86

noncomputable def F_laws_heldRelation (a_ : Int × Int × List (List Int)) (k_ : Int) : Option Int :=
  (F_laws_heldIntSS a_.2.2 k_).bind fun y5 =>
  (some (decide (y5 < 0))).bind fun a8 =>
  cond a8
  (some (-1))
  (some y5)

noncomputable def F_laws_FnExactRelationOfFunction (aP_ : Int) (aLeft_ : Int) (aRight_ : Int) (aPorts_ : List Int) (aM_ : Int × List (List Int)) : Option Bool :=
  (some (decide ((1048576 : Int) < ((aPorts_.length : Nat) : Int)))).bind fun a7 =>
  cond a7
  (some true)
  ((F_laws_szMatrix (aM_.1, aM_.2) 1048576).bind fun y10 =>
    (some (decide (y10 < 0))).bind fun a13 =>
    cond a13
    (some true)
    (((F_laws_toIntS aPorts_).bind fun y154 =>
        (F_laws_toMatrix (aM_.1, aM_.2)).bind fun y173 =>
        (F_spec_RelationOfFunction aP_ aLeft_ aRight_ y154 (y173.1, y173.2)).bind fun y187 =>
        some (y187.1.1, y187.1.2.1, y187.1.2.2, y187.2)).bind fun (s126 : Int × Int × List (List Int) × Bool) =>
      (F_laws_toIntS aPorts_).bind fun y246 =>
      (F_laws_toMatrix (aM_.1, aM_.2)).bind fun y251 =>
      (F_impl_RelationOfFunction aP_ aLeft_ aRight_ y246 (y251.1, y251.2)).bind fun y260 =>
      ((F_laws_eqRelation (y260.1.1, y260.1.2.1, y260.1.2.2) (s126.1, s126.2.1, s126.2.2.1)).bind fun y284 =>
        (some (!y284)).bind fun a287 =>
        cond a287
        (some true)
        ((some (!decide (y260.2 = s126.2.2.2))).bind fun a290 =>
          some a290)).bind fun (s278 : Bool) =>
      cond s278
      (some false)
      ((F_laws_toIntS aPorts_).bind fun y296 =>
        (F_laws_eqIntS y246 y296).bind fun y301 =>
        (some (!y301)).bind fun a304 =>
        cond a304
        (some false)
        ((F_laws_toMatrix (aM_.1, aM_.2)).bind fun y308 =>
          (F_laws_eqMatrix (y251.1, y251.2) (y308.1, y308.2)).bind fun y313 =>
          (some (!y313)).bind fun a316 =>
          cond a316
          (some false)
          ((F_laws_markIntS y246 1).bind fun y319 =>
            (F_laws_markMatrix (y251.1, y251.2) y319.2).bind fun y322 =>
            ((some (decide (y322.2 < 0))).bind fun a344 =>
              cond a344
              (some true)
              ((F_laws_eqRelation (y260.1.1, y260.1.2.1, y260.1.2.2) (s126.1, s126.2.1, s126.2.2.1)).bind fun y347 =>
                (some (!y347)).bind fun a350 =>
                cond a350
                (some true)
                ((some (!decide (y260.2 = s126.2.2.2))).bind fun a353 =>
                  some a353))).bind fun (s338 : Bool) =>
            cond s338
            (some false)
            ((F_laws_markRelation (y260.1.1, y260.1.2.1, y260.1.2.2) 1).bind fun y360 =>
              (F_laws_heldRelation (y260.1.1, y260.1.2.1, y360.1.2.2) 1).bind fun y363 =>
              (some (decide (y363 < 0))).bind fun a366 =>
              cond a366
              (some false)
              ((some (!decide (y363 = y360.2))).bind fun a369 =>
                cond a369
                (some false)
                (((F_laws_toIntS aPorts_).bind fun y510 =>
                    (F_laws_toMatrix (aM_.1, aM_.2)).bind fun y529 =>
                    (F_impl_RelationOfFunction aP_ aLeft_ aRight_ y510 (y529.1, y529.2)).bind fun y543 =>
                    some (y543.1.1, y543.1.2.1, y543.1.2.2, y543.2)).bind fun (s482 : Int × Int × List (List Int) × Bool) =>
                  ((F_laws_eqRelation (s482.1, s482.2.1, s482.2.2.1) (s126.1, s126.2.1, s126.2.2.1)).bind fun y617 =>
                    (some (!y617)).bind fun a620 =>
                    cond a620
                    (some true)
                    ((some (!decide (s482.2.2.2 = s126.2.2.2))).bind fun a623 =>
                      some a623)).bind fun (s611 : Bool) =>
                  cond s611
                  (some false)
                  ((F_laws_heldRelation (y260.1.1, y260.1.2.1, y360.1.2.2) 1).bind fun y629 =>
                    (some (decide (y629 < 0))).bind fun a632 =>
                    cond a632
                    (some false)
                    ((some (!decide (y629 = y360.2))).bind fun a635 =>
                      cond a635
                      (some false)
                      (some true)))))))))))
end Go.Proofs.YteikcdofblclhaaDoor
