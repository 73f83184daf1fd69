/-
  Partial functions, printed by a program (wip/y/gen.py): what each function of Go computes, over plain data. No program in sight. No condition.
-/
import Derived.Test.YteikcdofblclhaaDoorZF
namespace Go.Proofs.YteikcdofblclhaaDoor
set_option linter.unusedVariables false

noncomputable def F_impl_pad (v_ : List Int) : Option (List Int) := padO 48 v_

noncomputable def F_laws_szIntS (a_ : List Int) (left_ : Int) : Option Int :=
  (subO left_ ((a_.length : Nat) : Int)).bind fun a2 =>
  (some (decide (a2 < 0))).bind fun a4 =>
  cond a4
  (some (-1))
  (some a2)

noncomputable def F_laws_szIntSS (a_ : List (List Int)) (left_ : Int) : Option Int :=
  (subO left_ ((a_.length : Nat) : Int)).bind fun a2 =>
  (some (decide (a2 < 0))).bind fun a4 =>
  cond a4
  (some (-1))
  (seqO (whileO (fun (s147 : Int × Int) =>
        (some (decide (s147.2 < ((a_.length : Nat) : Int)))).bind fun a156 =>
        cond a156
        ((idxO a_ s147.2).bind fun a167 =>
          (F_laws_szIntS a167 s147.1).bind fun y171 =>
          (some (decide (y171 < 0))).bind fun a174 =>
          cond a174
          (some (.inr (.inr (-1))))
          ((addO s147.2 1).bind fun a177 =>
            some (.inl (y171, a177))))
        (some (.inr (.inl s147.1)))) (a2, 0)) fun (s91 : Int) =>
    some s91)

noncomputable def F_laws_szRelation (a_ : Int × Int × List (List Int)) (left_ : Int) : Option Int :=
  (F_laws_szIntSS a_.2.2 left_).bind fun y5 =>
  (some (decide (y5 < 0))).bind fun a8 =>
  cond a8
  (some (-1))
  (some y5)

noncomputable def F_laws_toIntS (a_ : List Int) : Option (List Int) :=
  (makeO ((a_.length : Nat) : Int) (0 : Int)).bind fun a2 =>
  (whileO (fun (s146 : List Int × Int) =>
      (some (decide (s146.2 < ((a_.length : Nat) : Int)))).bind fun a155 =>
      cond a155
      ((idxO a_ s146.2).bind fun a166 =>
        (setO s146.1 s146.2 a166).bind fun a174 =>
        (addO s146.2 1).bind fun a177 =>
        some (.inl (a174, a177)))
      (some (.inr s146.1))) (a2, 0)).bind fun (s90 : List Int) =>
  some s90

noncomputable def F_laws_toIntSS (a_ : List (List Int)) : Option (List (List Int)) :=
  (makeO ((a_.length : Nat) : Int) ([] : List Int)).bind fun a2 =>
  (whileO (fun (s181 : List (List Int) × Int) =>
      (some (decide (s181.2 < ((a_.length : Nat) : Int)))).bind fun a190 =>
      cond a190
      ((idxO a_ s181.2).bind fun a201 =>
        (F_laws_toIntS a201).bind fun y205 =>
        (setO s181.1 s181.2 y205).bind fun a216 =>
        (addO s181.2 1).bind fun a219 =>
        some (.inl (a216, a219)))
      (some (.inr s181.1))) (a2, 0)).bind fun (s111 : List (List Int)) =>
  some s111

noncomputable def F_laws_toRelation (a_ : Int × Int × List (List Int)) : Option (Int × Int × List (List Int)) :=
  (F_laws_toIntSS a_.2.2).bind fun y13 =>
  some (a_.1, a_.2.1, y13)

noncomputable def F_spec_l1In (n_ : Int) (lo_ : Int) (hi_ : Int) : Option Bool :=
  ((some (decide (lo_ ≤ n_))).bind fun a13 =>
    cond a13
    ((some (decide (n_ ≤ hi_))).bind fun a17 =>
      some a17)
    (some false)).bind fun (s7 : Bool) =>
  some s7

noncomputable def F_spec_fdGood (p_ : Int) : Option Bool :=
  (F_spec_l1In p_ 2 97).bind fun y1 =>
  (some (!y1)).bind fun a4 =>
  cond a4
  (some false)
  (seqO (whileO (fun (s102 : Int) =>
        (mulO s102 s102).bind fun a111 =>
        (some (decide (a111 ≤ p_))).bind fun a113 =>
        cond a113
        ((remO p_ s102).bind fun a118 =>
          (some (decide (a118 = 0))).bind fun a120 =>
          cond a120
          (some (.inr (.inr false)))
          ((addO s102 1).bind fun a123 =>
            some (.inl a123)))
        (some (.inr (.inl ())))) 2) fun (s64 : Unit) =>
    some true)

noncomputable def F_spec_l1All (l_ : List Int) (lo_ : Int) (hi_ : Int) : Option Bool :=
  seqO (forO (fun (k2 : Nat) (_ : Unit) =>
      (idxO l_ ((k2 : Nat) : Int)).bind fun a35 =>
      (F_spec_l1In a35 lo_ hi_).bind fun y37 =>
      (some (!y37)).bind fun a40 =>
      cond a40
      (some (.inr false))
      (some (.inl ()))) l_.length 0 ()) fun (_ : Unit) =>
  some true

noncomputable def F_spec_fdIn (p_ : Int) (l_ : List Int) : Option Bool :=
  (subO p_ 1).bind fun a2 =>
  (F_spec_l1All l_ 0 a2).bind fun y4 =>
  some y4

noncomputable def F_spec_spRows (p_ : Int) (size_ : Int) (rows_ : List (List Int)) : Option Bool :=
  seqO (forO (fun (k2 : Nat) (_ : Unit) =>
      (idxO rows_ ((k2 : Nat) : Int)).bind fun a58 =>
      ((some (!decide (((a58.length : Nat) : Int) = size_))).bind fun a77 =>
        cond a77
        (some true)
        ((F_spec_fdIn p_ a58).bind fun y80 =>
          (some (!y80)).bind fun a83 =>
          some a83)).bind fun (s71 : Bool) =>
      cond s71
      (some (.inr false))
      (some (.inl ()))) rows_.length 0 ()) fun (_ : Unit) =>
  some true

noncomputable def F_spec_l1Own (l_ : List Int) : Option (List Int) :=
  (appO ([] : List Int) l_).bind fun a5 =>
  some a5

noncomputable def F_spec_fdInv (p_ : Int) (a_ : Int) : Option Int :=
  seqO (whileO (fun (s96 : Int) =>
      (some (decide (s96 < p_))).bind fun a105 =>
      cond a105
      ((mulO a_ s96).bind fun a110 =>
        (remO a110 p_).bind fun a112 =>
        (some (decide (a112 = 1))).bind fun a114 =>
        cond a114
        (some (.inr (.inr s96)))
        ((addO s96 1).bind fun a117 =>
          some (.inl a117)))
      (some (.inr (.inl ())))) 1) fun (s58 : Unit) =>
  some 0

noncomputable def F_spec_fdMul (p_ : Int) (a_ : Int) (b_ : Int) : Option Int :=
  (mulO a_ b_).bind fun a1 =>
  (remO a1 p_).bind fun a3 =>
  some a3

noncomputable def F_spec_fdSub (p_ : Int) (a_ : Int) (b_ : Int) : Option Int :=
  (addO a_ p_).bind fun a1 =>
  (subO a1 b_).bind fun a3 =>
  (remO a3 p_).bind fun a5 =>
  some a5

noncomputable def F_spec_spReduce (p_ : Int) (size_ : Int) (rows_ : List (List Int)) : Option (List (List Int)) :=
  (forS (fun (k2 : Nat) (s55 : List (List Int)) =>
      (idxO rows_ ((k2 : Nat) : Int)).bind fun a72 =>
      (F_spec_l1Own a72).bind fun y76 =>
      (appO s55 [y76]).bind fun a84 =>
      some a84) rows_.length 0 []).bind fun (s91 : List (List Int)) =>
  (whileO (fun (s23898 : List (List Int) × Int × Int) =>
      ((some (decide (s23898.2.2 < size_))).bind fun a23919 =>
        cond a23919
        ((some (decide (s23898.2.1 < ((s23898.1.length : Nat) : Int)))).bind fun a23923 =>
          some a23923)
        (some false)).bind fun (s23913 : Bool) =>
      cond s23913
      (((whileO (fun (s26612 : Int) =>
              ((some (decide (s26612 < ((s23898.1.length : Nat) : Int)))).bind fun a26650 =>
                cond a26650
                ((idxO s23898.1 s26612).bind fun a26660 =>
                  (idxO a26660 s23898.2.2).bind fun a26669 =>
                  (some (decide (a26669 = 0))).bind fun a26671 =>
                  some a26671)
                (some false)).bind fun (s26644 : Bool) =>
              cond s26644
              ((addO s26612 1).bind fun a26678 =>
                some (.inl a26678))
              (some (.inr s26612))) s23898.2.1).bind fun (s26486 : Int) =>
          (some (decide (s26486 = ((s23898.1.length : Nat) : Int)))).bind fun a26682 =>
          cond a26682
          (some (s23898.1, s23898.2.1))
          ((idxO s23898.1 s23898.2.1).bind fun a26691 =>
            (idxO s23898.1 s26486).bind fun a26700 =>
            (swapO s23898.1 s23898.2.1 s26486).bind fun a26717 =>
            (idxO a26717 s23898.2.1).bind fun a26725 =>
            (idxO a26725 s23898.2.2).bind fun a26734 =>
            (F_spec_fdInv p_ a26734).bind fun y26736 =>
            (idxO a26717 s23898.2.1).bind fun a26745 =>
            (forS (fun (k26749 : Nat) (s26838 : List (List Int)) =>
                (idxO s26838 s23898.2.1).bind fun a26854 =>
                (idxO s26838 s23898.2.1).bind fun a26863 =>
                (idxO a26863 ((k26749 : Nat) : Int)).bind fun a26872 =>
                (F_spec_fdMul p_ a26872 y26736).bind fun y26874 =>
                (setO a26854 ((k26749 : Nat) : Int) y26874).bind fun a26884 =>
                (setO s26838 s23898.2.1 a26884).bind fun a26887 =>
                some a26887) a26745.length 0 a26717).bind fun (s26891 : List (List Int)) =>
            (forS (fun (k26893 : Nat) (s28062 : List (List Int)) =>
                (((some (decide (((k26893 : Nat) : Int) = s23898.2.1))).bind fun a28393 =>
                    cond a28393
                    (some true)
                    ((idxO s28062 ((k26893 : Nat) : Int)).bind fun a28402 =>
                      (idxO a28402 s23898.2.2).bind fun a28411 =>
                      (some (decide (a28411 = 0))).bind fun a28413 =>
                      some a28413)).bind fun (s28387 : Bool) =>
                  cond s28387
                  (some s28062)
                  ((idxO s28062 ((k26893 : Nat) : Int)).bind fun a28425 =>
                    (idxO a28425 s23898.2.2).bind fun a28434 =>
                    (idxO s28062 ((k26893 : Nat) : Int)).bind fun a28442 =>
                    (forS (fun (k28446 : Nat) (s28575 : List (List Int)) =>
                        (idxO s28575 ((k26893 : Nat) : Int)).bind fun a28591 =>
                        (idxO s28575 ((k26893 : Nat) : Int)).bind fun a28600 =>
                        (idxO s28575 s23898.2.1).bind fun a28609 =>
                        (idxO a28600 ((k28446 : Nat) : Int)).bind fun a28618 =>
                        (idxO a28609 ((k28446 : Nat) : Int)).bind fun a28626 =>
                        (F_spec_fdMul p_ a28434 a28626).bind fun y28628 =>
                        (F_spec_fdSub p_ a28618 y28628).bind fun y28631 =>
                        (setO a28591 ((k28446 : Nat) : Int) y28631).bind fun a28641 =>
                        (setO s28575 ((k26893 : Nat) : Int) a28641).bind fun a28644 =>
                        some a28644) a28442.length 0 s28062).bind fun (s28648 : List (List Int)) =>
                    some s28648)).bind fun (s28358 : List (List Int)) =>
                some s28358) s26891.length 0 s26891).bind fun (s28655 : List (List Int)) =>
            (addO s23898.2.1 1).bind fun a28657 =>
            some (s28655, a28657))).bind fun (s26292 : List (List Int) × Int) =>
        (addO s23898.2.2 1).bind fun a28662 =>
        some (.inl (s26292.1, s26292.2, a28662)))
      (some (.inr (s23898.1, s23898.2.1)))) (s91, 0, 0)).bind fun (s14376 : List (List Int) × Int) =>
  (sliceO s14376.1 0 s14376.2).bind fun a28666 =>
  some a28666

noncomputable def F_spec_l1Same (a_ : List Int) (b_ : List Int) : Option Bool :=
  (some (!decide (((a_.length : Nat) : Int) = ((b_.length : Nat) : Int)))).bind fun a3 =>
  cond a3
  (some false)
  (seqO (forO (fun (k6 : Nat) (_ : Unit) =>
        (idxO a_ ((k6 : Nat) : Int)).bind fun a46 =>
        (idxO b_ ((k6 : Nat) : Int)).bind fun a54 =>
        (some (!decide (a46 = a54))).bind fun a56 =>
        cond a56
        (some (.inr false))
        (some (.inl ()))) a_.length 0 ()) fun (_ : Unit) =>
    some true)

noncomputable def F_spec_spSame (a_ : List (List Int)) (b_ : List (List Int)) : Option Bool :=
  (some (!decide (((a_.length : Nat) : Int) = ((b_.length : Nat) : Int)))).bind fun a3 =>
  cond a3
  (some false)
  (seqO (forO (fun (k6 : Nat) (_ : Unit) =>
        (idxO a_ ((k6 : Nat) : Int)).bind fun a53 =>
        (idxO b_ ((k6 : Nat) : Int)).bind fun a63 =>
        (F_spec_l1Same a53 a63).bind fun y67 =>
        (some (!y67)).bind fun a70 =>
        cond a70
        (some (.inr false))
        (some (.inl ()))) a_.length 0 ()) fun (_ : Unit) =>
    some true)

noncomputable def F_spec_spGood (p_ : Int) (s_ : Int × List (List Int)) : Option Bool :=
  ((F_spec_fdGood p_).bind fun y40 =>
    cond y40
    ((F_spec_l1In s_.1 0 24).bind fun y45 =>
      cond y45
      ((some (decide (((s_.2.length : Nat) : Int) ≤ s_.1))).bind fun a50 =>
        cond a50
        ((F_spec_spRows p_ s_.1 s_.2).bind fun y54 =>
          cond y54
          ((F_spec_spReduce p_ s_.1 s_.2).bind fun y59 =>
            (F_spec_spSame y59 s_.2).bind fun y64 =>
            some y64)
          (some false))
        (some false))
      (some false))
    (some false)).bind fun (s33 : Bool) =>
  some s33

noncomputable def F_spec_rlGood (p_ : Int) (r_ : Int × Int × List (List Int)) : Option Bool :=
  ((F_spec_l1In r_.1 0 24).bind fun y28 =>
    cond y28
    ((subO 24 r_.1).bind fun a33 =>
      (F_spec_l1In r_.2.1 0 a33).bind fun y35 =>
      cond y35
      ((addO r_.1 r_.2.1).bind fun a40 =>
        (F_spec_spGood p_ (a40, r_.2.2)).bind fun y42 =>
        some y42)
      (some false))
    (some false)).bind fun (s22 : Bool) =>
  some s22

noncomputable def F_spec_l1Rising (l_ : List Int) (lo_ : Int) (hi_ : Int) : Option Bool :=
  seqO (forO (fun (k2 : Nat) (_ : Unit) =>
      (idxO l_ ((k2 : Nat) : Int)).bind fun a84 =>
      ((F_spec_l1In a84 lo_ hi_).bind fun y115 =>
        (some (!y115)).bind fun a118 =>
        cond a118
        (some true)
        ((some (decide ((0 : Int) < ((k2 : Nat) : Int)))).bind fun a121 =>
          cond a121
          ((subO ((k2 : Nat) : Int) 1).bind fun a125 =>
            (idxO l_ a125).bind fun a133 =>
            (some (decide (a84 ≤ a133))).bind fun a135 =>
            some a135)
          (some false))).bind fun (s109 : Bool) =>
      cond s109
      (some (.inr false))
      (some (.inl ()))) l_.length 0 ()) fun (_ : Unit) =>
  some true

noncomputable def F_spec_riPorts (ports_ : List Int) (n_ : Int) : Option Bool :=
  (subO n_ 1).bind fun a2 =>
  (F_spec_l1Rising ports_ 0 a2).bind fun y4 =>
  some y4

noncomputable def F_spec_riAsked (p_ : Int) (r_ : Int × Int × List (List Int)) (ports_ : List Int) : Option Bool :=
  ((F_spec_rlGood p_ (r_.1, r_.2.1, r_.2.2)).bind fun y22 =>
    cond y22
    ((addO r_.1 r_.2.1).bind fun a27 =>
      (F_spec_riPorts ports_ a27).bind fun y29 =>
      some y29)
    (some false)).bind fun (s16 : Bool) =>
  some s16

noncomputable def F_spec_l1Has (l_ : List Int) (n_ : Int) : Option Bool :=
  seqO (forO (fun (k2 : Nat) (_ : Unit) =>
      (idxO l_ ((k2 : Nat) : Int)).bind fun a32 =>
      (some (decide (a32 = n_))).bind fun a34 =>
      cond a34
      (some (.inr true))
      (some (.inl ()))) l_.length 0 ()) fun (_ : Unit) =>
  some false

noncomputable def F_spec_riRest (ports_ : List Int) (n_ : Int) : Option (List Int) :=
  (whileO (fun (s148 : List Int × Int) =>
      (some (decide (s148.2 < n_))).bind fun a159 =>
      cond a159
      ((F_spec_l1Has ports_ s148.2).bind fun y164 =>
        (some (!y164)).bind fun a167 =>
        cond a167
        ((appO s148.1 [s148.2]).bind fun a176 =>
          (addO s148.2 1).bind fun a181 =>
          some (.inl (a176, a181)))
        ((addO s148.2 1).bind fun a170 =>
          some (.inl (s148.1, a170))))
      (some (.inr s148.1))) ([], 0)).bind fun (s89 : List Int) =>
  some s89

noncomputable def F_spec_spLead (v_ : List Int) : Option Int :=
  (whileO (fun (s226 : Int) =>
      ((some (decide (s226 < ((v_.length : Nat) : Int)))).bind fun a255 =>
        cond a255
        ((idxO v_ s226).bind fun a265 =>
          (some (decide (a265 = 0))).bind fun a267 =>
          some a267)
        (some false)).bind fun (s249 : Bool) =>
      cond s249
      ((addO s226 1).bind fun a274 =>
        some (.inl a274))
      (some (.inr s226))) 0).bind fun (s136 : Int) =>
  some s136

noncomputable def F_spec_riFunction (p_ : Int) (n_ : Int) (basis_ : List (List Int)) (ports_ : List Int) : Option ((Int × List (List Int)) × Bool) :=
  (some (!decide (((ports_.length : Nat) : Int) = ((basis_.length : Nat) : Int)))).bind fun a6 =>
  cond a6
  (some ((0, []), false))
  ((F_spec_riRest ports_ n_).bind fun y9 =>
    (forS (fun (k14 : Nat) (s267 : List (List Int)) =>
        (idxO basis_ ((k14 : Nat) : Int)).bind fun a284 =>
        (F_spec_l1Own ports_).bind fun y288 =>
        (appO y288 y9).bind fun a293 =>
        (forS (fun (k298 : Nat) (s353 : List Int) =>
            (idxO a293 ((k298 : Nat) : Int)).bind fun a370 =>
            (idxO a284 a370).bind fun a378 =>
            (appO s353 [a378]).bind fun a383 =>
            some a383) a293.length 0 []).bind fun (s390 : List Int) =>
        (appO s267 [s390]).bind fun a396 =>
        some a396) basis_.length 0 []).bind fun (s403 : List (List Int)) =>
    (F_spec_spReduce p_ n_ s403).bind fun y410 =>
    seqO (forO (fun (k415 : Nat) (s536 : List (List Int)) =>
        (idxO y410 ((k415 : Nat) : Int)).bind fun a553 =>
        (F_spec_spLead a553).bind fun y557 =>
        (some (!decide (y557 = ((k415 : Nat) : Int)))).bind fun a560 =>
        cond a560
        (some (.inr ((0, []), false)))
        ((sliceO a553 ((ports_.length : Nat) : Int) ((a553.length : Nat) : Int)).bind fun a564 =>
          (F_spec_l1Own a564).bind fun y568 =>
          (appO s536 [y568]).bind fun a576 =>
          some (.inl a576))) y410.length 0 []) fun (s588 : List (List Int)) =>
    some ((((y9.length : Nat) : Int), s588), true))

noncomputable def F_spec_ReplaceablePorts (p_ : Int) (r_ : Int × Int × List (List Int)) (ports_ : List Int) (q_ : Int) : Option (List Int × Bool) :=
  (some (wrapI (r_.1 + r_.2.1))).bind fun a6 =>
  ((F_spec_riAsked p_ (r_.1, r_.2.1, r_.2.2) ports_).bind fun y33 =>
    (some (!y33)).bind fun a36 =>
    cond a36
    (some true)
    ((subO a6 1).bind fun a39 =>
      (F_spec_l1In q_ 0 a39).bind fun y41 =>
      (some (!y41)).bind fun a44 =>
      cond a44
      (some true)
      ((F_spec_l1Has ports_ q_).bind fun y47 =>
        some y47))).bind fun (s27 : Bool) =>
  cond s27
  (some ([], false))
  ((F_spec_riFunction p_ a6 r_.2.2 ports_).bind fun y55 =>
    (some (!y55.2)).bind fun a64 =>
    cond a64
    (some ([], false))
    ((forS (fun (k67 : Nat) (s575 : List Int) =>
          (idxO ports_ ((k67 : Nat) : Int)).bind fun a592 =>
          (F_spec_riRest ports_ a6).bind fun y594 =>
          (forS (fun (k599 : Nat) (s749 : List Int) =>
              (idxO y594 ((k599 : Nat) : Int)).bind fun a765 =>
              ((some (decide (a765 = q_))).bind fun a796 =>
                cond a796
                ((idxO y55.1.2 ((k67 : Nat) : Int)).bind fun a806 =>
                  (idxO a806 ((k599 : Nat) : Int)).bind fun a815 =>
                  (some (!decide (a815 = 0))).bind fun a817 =>
                  some a817)
                (some false)).bind fun (s790 : Bool) =>
              cond s790
              ((appO s749 [a592]).bind fun a826 =>
                some a826)
              (some s749)) y594.length 0 s575).bind fun (s833 : List Int) =>
          some s833) ports_.length 0 []).bind fun (s838 : List Int) =>
      some (s838, true)))

noncomputable def F_impl_isField (p_ : Int) : Option Bool :=
  ((some (decide (p_ < 2))).bind fun a14 =>
    cond a14
    (some true)
    ((some (decide ((97 : Int) < p_))).bind fun a17 =>
      some a17)).bind fun (s8 : Bool) =>
  cond s8
  (some false)
  ((cI 4).bind fun _ =>
    seqO (forO (fun (k23 : Nat) (_ : Unit) =>
        (idxO [2, 3, 5, 7] ((k23 : Nat) : Int)).bind fun a65 =>
        ((remO p_ a65).bind fun a81 =>
          (some (decide (a81 = 0))).bind fun a83 =>
          cond a83
          ((some (!decide (p_ = a65))).bind fun a87 =>
            some a87)
          (some false)).bind fun (s75 : Bool) =>
        cond s75
        (some (.inr false))
        (some (.inl ()))) ((4 : Int).toNat) 0 ()) fun (_ : Unit) =>
    some true)

noncomputable def F_impl_within (n_ : Int) (low_ : Int) (high_ : Int) : Option Bool :=
  ((some (decide (low_ ≤ n_))).bind fun a13 =>
    cond a13
    ((some (decide (n_ ≤ high_))).bind fun a17 =>
      some a17)
    (some false)).bind fun (s7 : Bool) =>
  some s7

noncomputable def F_impl_fits (left_ : Int) (right_ : Int) : Option Bool :=
  ((F_impl_within left_ 0 24).bind fun y21 =>
    cond y21
    ((F_impl_within right_ 0 24).bind fun y26 =>
      cond y26
      ((addO left_ right_).bind fun a31 =>
        (some (decide (a31 ≤ 24))).bind fun a33 =>
        some a33)
      (some false))
    (some false)).bind fun (s15 : Bool) =>
  some s15

noncomputable def F_impl_isElement (p_ : Int) (a_ : Int) : Option Bool :=
  ((some (decide ((0 : Int) ≤ a_))).bind fun a13 =>
    cond a13
    ((some (decide (a_ < p_))).bind fun a17 =>
      some a17)
    (some false)).bind fun (s7 : Bool) =>
  some s7

noncomputable def F_impl_isVector (p_ : Int) (v_ : List Int) (n_ : Int) : Option Bool :=
  (some (!decide (((v_.length : Nat) : Int) = n_))).bind fun a2 =>
  cond a2
  (some false)
  (seqO (forO (fun (k5 : Nat) (_ : Unit) =>
        (idxO v_ ((k5 : Nat) : Int)).bind fun a38 =>
        (F_impl_isElement p_ a38).bind fun y40 =>
        (some (!y40)).bind fun a43 =>
        cond a43
        (some (.inr false))
        (some (.inl ()))) v_.length 0 ()) fun (_ : Unit) =>
    some true)

noncomputable def F_impl_areVectors (p_ : Int) (rows_ : List (List Int)) (n_ : Int) : Option Bool :=
  seqO (forO (fun (k2 : Nat) (_ : Unit) =>
      (idxO rows_ ((k2 : Nat) : Int)).bind fun a37 =>
      (F_impl_isVector p_ a37 n_).bind fun y41 =>
      (some (!y41)).bind fun a44 =>
      cond a44
      (some (.inr false))
      (some (.inl ()))) rows_.length 0 ()) fun (_ : Unit) =>
  some true

noncomputable def F_impl_clone (list_ : List Int) : Option (List Int) :=
  (appO ([] : List Int) list_).bind fun a5 =>
  some a5

noncomputable def F_impl_clones (list_ : List (List Int)) : Option (List (List Int)) :=
  (makeCO 0 ((list_.length : Nat) : Int) ([] : List Int)).bind fun a2 =>
  (forS (fun (k7 : Nat) (s59 : List (List Int)) =>
      (idxO list_ ((k7 : Nat) : Int)).bind fun a75 =>
      (F_impl_clone a75).bind fun y79 =>
      (appO s59 [y79]).bind fun a87 =>
      some a87) list_.length 0 a2).bind fun (s94 : List (List Int)) =>
  some s94

noncomputable def F_impl_bit (yes_ : Bool) : Option Int :=
  cond yes_
  (some 1)
  (some 0)

noncomputable def F_impl_power (p_ : Int) (a_ : Int) (n_ : Int) : Option Int :=
  (remO 1 p_).bind fun a1 =>
  (whileO (fun (s217 : Int × Int × Int) =>
      (some (decide ((0 : Int) < s217.2.1))).bind fun a226 =>
      cond a226
      (((remO s217.2.1 2).bind fun a247 =>
          (some (decide (a247 = 1))).bind fun a249 =>
          cond a249
          ((mulO s217.2.2 s217.1).bind fun a253 =>
            (remO a253 p_).bind fun a255 =>
            some a255)
          (some s217.2.2)).bind fun (s241 : Int) =>
        (mulO s217.1 s217.1).bind fun a259 =>
        (remO a259 p_).bind fun a261 =>
        (quoO s217.2.1 2).bind fun a263 =>
        some (.inl (a261, a263, s241)))
      (some (.inr s217.2.2))) (a_, n_, a1)).bind fun (s131 : Int) =>
  some s131

noncomputable def F_impl_inverse (p_ : Int) (a_ : Int) : Option Int :=
  (subO p_ 2).bind fun a1 =>
  (some (decide (p_ = 2))).bind fun a3 =>
  (F_impl_bit a3).bind fun y5 =>
  (addO a1 y5).bind fun a8 =>
  (F_impl_power p_ a_ a8).bind fun y10 =>
  some y10

noncomputable def F_impl_mod (p_ : Int) (a_ : Int) : Option Int :=
  (remO a_ p_).bind fun a1 =>
  (some (decide (a1 < 0))).bind fun a3 =>
  cond a3
  ((addO a1 p_).bind fun a7 =>
    some a7)
  (some a1)

noncomputable def F_impl_addTimes (p_ : Int) (v_ : List Int) (by_ : Int) (w_ : List Int) : Option (List Int) :=
  (forS (fun (k3 : Nat) (s72 : List Int) =>
      (idxO w_ ((k3 : Nat) : Int)).bind fun a87 =>
      (idxO s72 ((k3 : Nat) : Int)).bind fun a95 =>
      (mulO by_ a87).bind fun a97 =>
      (addO a95 a97).bind fun a99 =>
      (F_impl_mod p_ a99).bind fun y101 =>
      (setO s72 ((k3 : Nat) : Int) y101).bind fun a110 =>
      some a110) w_.length 0 v_).bind fun (s115 : List Int) =>
  some s115

noncomputable def F_impl_rowOperation_apply (o_ : Int × Int × Int × Int) (p_ : Int) (rows_ : List (List Int)) : Option (List (List Int)) :=
  (some (decide (o_.1 = 0))).bind fun a5 =>
  cond a5
  ((idxO rows_ o_.2.2.1).bind fun a173 =>
    (idxO rows_ o_.2.1).bind fun a182 =>
    (swapO rows_ o_.2.1 o_.2.2.1).bind fun a199 =>
    some a199)
  ((some (decide (o_.1 = 1))).bind fun a8 =>
    cond a8
    ((F_impl_inverse p_ o_.2.2.2).bind fun y48 =>
      (idxO rows_ o_.2.1).bind fun a57 =>
      (forS (fun (k61 : Nat) (s122 : List Int) =>
          (idxO s122 ((k61 : Nat) : Int)).bind fun a137 =>
          (mulO a137 y48).bind fun a140 =>
          (remO a140 p_).bind fun a142 =>
          (setO s122 ((k61 : Nat) : Int) a142).bind fun a156 =>
          some a156) a57.length 0 a57).bind fun (s161 : List Int) =>
      (setO rows_ o_.2.1 s161).bind fun a163 =>
      some a163)
    ((some (decide (o_.1 = 2))).bind fun a11 =>
      cond a11
      ((idxO rows_ o_.2.1).bind fun a22 =>
        (negO o_.2.2.2).bind fun a25 =>
        (idxO rows_ o_.2.2.1).bind fun a33 =>
        (F_impl_addTimes p_ a22 a25 a33).bind fun y36 =>
        (neqO o_.2.1 o_.2.2.1).bind fun _ =>
        (setO rows_ o_.2.1 y36).bind fun a45 =>
        some a45)
      (some rows_)))

noncomputable def F_impl_reduction_1 (o_ : Int × Int × Int × Int) (c0_ : Int) (c1_ : List (List Int)) (c2_ : List (List Int)) : Option (List (List Int) × List (List Int)) :=
  (some (decide (([o_.1, o_.2.1, o_.2.2.1, o_.2.2.2] : List Int) = [0, o_.2.1, o_.2.1, 0]))).bind fun a9 =>
  cond a9
  (some (c1_, c2_))
  ((F_impl_rowOperation_apply (o_.1, o_.2.1, o_.2.2.1, o_.2.2.2) c0_ c1_).bind fun y12 =>
    (F_impl_rowOperation_apply (o_.1, o_.2.1, o_.2.2.1, o_.2.2.2) c0_ c2_).bind fun y15 =>
    some (y12, y15))

noncomputable def F_impl_reduction (p_ : Int) (rows_ : List (List Int)) (n_ : Int) (also_ : List (List Int)) : Option (List (List Int) × List (List Int) × Int) :=
  (whileO (fun (s6786 : List (List Int) × List (List Int) × Int × Int) =>
      ((some (decide (s6786.2.2.1 < n_))).bind fun a6807 =>
        cond a6807
        ((some (decide (s6786.2.2.2 < ((s6786.1.length : Nat) : Int)))).bind fun a6811 =>
          some a6811)
        (some false)).bind fun (s6801 : Bool) =>
      cond s6801
      (((whileO (fun (s7797 : Int) =>
              ((some (decide (s7797 < ((s6786.1.length : Nat) : Int)))).bind fun a7835 =>
                cond a7835
                ((idxO s6786.1 s7797).bind fun a7845 =>
                  (idxO a7845 s6786.2.2.1).bind fun a7854 =>
                  (some (decide (a7854 = 0))).bind fun a7856 =>
                  some a7856)
                (some false)).bind fun (s7829 : Bool) =>
              cond s7829
              ((addO s7797 1).bind fun a7863 =>
                some (.inl a7863))
              (some (.inr s7797))) s6786.2.2.2).bind fun (s7671 : Int) =>
          (some (decide (s7671 = ((s6786.1.length : Nat) : Int)))).bind fun a7867 =>
          cond a7867
          (some (s6786.1, s6786.2.1, s6786.2.2.2))
          ((F_impl_reduction_1 (0, s6786.2.2.2, s7671, 0) p_ s6786.1 s6786.2.1).bind fun y7870 =>
            (idxO y7870.1 s6786.2.2.2).bind fun a7879 =>
            (idxO a7879 s6786.2.2.1).bind fun a7888 =>
            (F_impl_reduction_1 (1, s6786.2.2.2, 0, a7888) p_ y7870.1 y7870.2).bind fun y7890 =>
            (forS (fun (k7893 : Nat) (s8050 : List (List Int) × List (List Int)) =>
                ((some (!decide (((k7893 : Nat) : Int) = s6786.2.2.2))).bind fun a8088 =>
                  cond a8088
                  ((idxO s8050.1 ((k7893 : Nat) : Int)).bind fun a8098 =>
                    (idxO a8098 s6786.2.2.1).bind fun a8107 =>
                    (some (!decide (a8107 = 0))).bind fun a8109 =>
                    some a8109)
                  (some false)).bind fun (s8082 : Bool) =>
                cond s8082
                ((idxO s8050.1 ((k7893 : Nat) : Int)).bind fun a8121 =>
                  (idxO a8121 s6786.2.2.1).bind fun a8130 =>
                  (F_impl_reduction_1 (2, ((k7893 : Nat) : Int), s6786.2.2.2, a8130) p_ s8050.1 s8050.2).bind fun y8132 =>
                  some (y8132.1, y8132.2))
                (some (s8050.1, s8050.2))) y7890.1.length 0 (y7890.1, y7890.2)).bind fun (s8137 : List (List Int) × List (List Int)) =>
            (addO s6786.2.2.2 1).bind fun a8139 =>
            some (s8137.1, s8137.2, a8139))).bind fun (s7477 : List (List Int) × List (List Int) × Int) =>
        (addO s6786.2.2.1 1).bind fun a8144 =>
        some (.inl (s7477.1, s7477.2.1, a8144, s7477.2.2)))
      (some (.inr (s6786.1, s6786.2.1, s6786.2.2.2)))) (rows_, also_, 0, 0)).bind fun (s4076 : List (List Int) × List (List Int) × Int) =>
  some (s4076.1, s4076.2.1, s4076.2.2)

noncomputable def F_impl_reduced (p_ : Int) (rows_ : List (List Int)) (n_ : Int) : Option (List (List Int)) :=
  (F_impl_clones rows_).bind fun y2 =>
  (makeO ((y2.length : Nat) : Int) ([] : List Int)).bind fun a7 =>
  (F_impl_reduction p_ y2 n_ a7).bind fun y12 =>
  (sliceO y12.1 0 y12.2.2).bind fun a15 =>
  some a15

noncomputable def F_impl_isReduced (p_ : Int) (rows_ : List (List Int)) (n_ : Int) : Option Bool :=
  ((some (decide (n_ < ((rows_.length : Nat) : Int)))).bind fun a17 =>
    cond a17
    (some true)
    ((F_impl_areVectors p_ rows_ n_).bind fun y20 =>
      (some (!y20)).bind fun a23 =>
      some a23)).bind fun (s11 : Bool) =>
  cond s11
  (some false)
  ((F_impl_reduced p_ rows_ n_).bind fun y29 =>
    seqO (forO (fun (k34 : Nat) (_ : Unit) =>
        (idxO y29 ((k34 : Nat) : Int)).bind fun a116 =>
        (idxO rows_ ((k34 : Nat) : Int)).bind fun a127 =>
        (F_impl_pad a116).bind fun y131 =>
        (F_impl_pad a127).bind fun y134 =>
        (neqArO 48 y131 y134).bind fun a137 =>
        cond a137
        (some (.inr false))
        (some (.inl ()))) y29.length 0 ()) fun (_ : Unit) =>
    (F_impl_reduced p_ rows_ n_).bind fun y146 =>
    (some (decide (((y146.length : Nat) : Int) = ((rows_.length : Nat) : Int)))).bind fun a151 =>
    some a151)

noncomputable def F_impl_isRelation (p_ : Int) (r_ : Int × Int × List (List Int)) : Option Bool :=
  ((F_impl_isField p_).bind fun y27 =>
    cond y27
    ((F_impl_fits r_.1 r_.2.1).bind fun y32 =>
      cond y32
      ((addO r_.1 r_.2.1).bind fun a37 =>
        (F_impl_isReduced p_ r_.2.2 a37).bind fun y39 =>
        some y39)
      (some false))
    (some false)).bind fun (s21 : Bool) =>
  some s21

noncomputable def F_impl_Relation_size (r_ : Int × Int × List (List Int)) : Option Int :=
  (addO r_.1 r_.2.1).bind fun a5 =>
  some a5

noncomputable def F_impl_isPortList (ports_ : List Int) (n_ : Int) : Option Bool :=
  seqO (forO (fun (k2 : Nat) (_ : Unit) =>
      (idxO ports_ ((k2 : Nat) : Int)).bind fun a88 =>
      ((subO n_ 1).bind fun a121 =>
        (F_impl_within a88 0 a121).bind fun y123 =>
        (some (!y123)).bind fun a126 =>
        cond a126
        (some true)
        ((some (decide ((0 : Int) < ((k2 : Nat) : Int)))).bind fun a129 =>
          cond a129
          ((subO ((k2 : Nat) : Int) 1).bind fun a133 =>
            (idxO ports_ a133).bind fun a141 =>
            (some (decide (a88 ≤ a141))).bind fun a143 =>
            some a143)
          (some false))).bind fun (s115 : Bool) =>
      cond s115
      (some (.inr false))
      (some (.inl ()))) ports_.length 0 ()) fun (_ : Unit) =>
  some true

noncomputable def F_impl_isAsked (p_ : Int) (r_ : Int × Int × List (List Int)) (ports_ : List Int) : Option Bool :=
  ((F_impl_isRelation p_ (r_.1, r_.2.1, r_.2.2)).bind fun y24 =>
    cond y24
    ((F_impl_Relation_size (r_.1, r_.2.1, r_.2.2)).bind fun y29 =>
      (F_impl_isPortList ports_ y29).bind fun y32 =>
      some y32)
    (some false)).bind fun (s18 : Bool) =>
  some s18

noncomputable def F_impl_chosen (v_ : List Int) (at_ : List Int) : Option (List Int) :=
  (makeCO 0 ((at_.length : Nat) : Int) (0 : Int)).bind fun a3 =>
  (forS (fun (k8 : Nat) (s62 : List Int) =>
      (idxO at_ ((k8 : Nat) : Int)).bind fun a78 =>
      (idxO v_ a78).bind fun a86 =>
      (appO s62 [a86]).bind fun a91 =>
      some a91) at_.length 0 a3).bind fun (s98 : List Int) =>
  some s98

noncomputable def F_impl_chosenAll (rows_ : List (List Int)) (at_ : List Int) : Option (List (List Int)) :=
  (forS (fun (k6 : Nat) (s58 : List (List Int)) =>
      (idxO rows_ ((k6 : Nat) : Int)).bind fun a74 =>
      (F_impl_chosen a74 at_).bind fun y78 =>
      (appO s58 [y78]).bind fun a86 =>
      some a86) rows_.length 0 ([] : List (List Int))).bind fun (s93 : List (List Int)) =>
  some s93

noncomputable def F_impl_zeros (n_ : Int) : Option (List Int) :=
  (makeO n_ (0 : Int)).bind fun a1 =>
  some a1

noncomputable def F_impl_upTo (n_ : Int) : Option (List Int) :=
  (F_impl_zeros n_).bind fun y1 =>
  (forS (fun (k6 : Nat) (s29 : List Int) =>
      (setO s29 ((k6 : Nat) : Int) ((k6 : Nat) : Int)).bind fun a44 =>
      some a44) y1.length 0 y1).bind fun (s49 : List Int) =>
  some s49

noncomputable def F_slices_Index_int_int (s_ : List Int) (v_ : Int) : Option Int :=
  seqO (forO (fun (k2 : Nat) (_ : Unit) =>
      (idxO s_ ((k2 : Nat) : Int)).bind fun a32 =>
      (some (decide (v_ = a32))).bind fun a34 =>
      cond a34
      (some (.inr ((k2 : Nat) : Int)))
      (some (.inl ()))) s_.length 0 ()) fun (_ : Unit) =>
  some (-1)

noncomputable def F_slices_Contains_int_int (s_ : List Int) (v_ : Int) : Option Bool :=
  (F_slices_Index_int_int s_ v_).bind fun y2 =>
  (some (decide ((0 : Int) ≤ y2))).bind fun a5 =>
  some a5

noncomputable def F_impl_others (list_ : List Int) (without_ : List Int) : Option (List Int) :=
  (forS (fun (k6 : Nat) (s58 : List Int) =>
      (idxO list_ ((k6 : Nat) : Int)).bind fun a74 =>
      (F_slices_Contains_int_int without_ a74).bind fun y76 =>
      (some (!y76)).bind fun a79 =>
      cond a79
      ((appO s58 [a74]).bind fun a86 =>
        some a86)
      (some s58)) list_.length 0 ([] : List Int)).bind fun (s93 : List Int) =>
  some s93

noncomputable def F_impl_choiceFunction (p_ : Int) (basis_ : List (List Int)) (n_ : Int) (ports_ : List Int) : Option (List (List Int) × Bool) :=
  (some (!decide (((ports_.length : Nat) : Int) = ((basis_.length : Nat) : Int)))).bind fun a3 =>
  cond a3
  (some ([], false))
  ((F_impl_chosenAll basis_ ports_).bind fun y6 =>
    (F_impl_upTo n_).bind fun y11 =>
    (F_impl_others y11 ports_).bind fun y16 =>
    (F_impl_chosenAll basis_ y16).bind fun y21 =>
    (F_impl_reduction p_ y6 ((ports_.length : Nat) : Int) y21).bind fun y26 =>
    (some (decide (y26.2.2 < ((ports_.length : Nat) : Int)))).bind fun a29 =>
    cond a29
    (some ([], false))
    (some (y26.2.1, true)))

noncomputable def F_impl_ChoiceFunction (p_ : Int) (r_ : Int × Int × List (List Int)) (ports_ : List Int) : Option ((Int × List (List Int)) × Bool) :=
  (F_impl_isAsked p_ (r_.1, r_.2.1, r_.2.2) ports_).bind fun y10 =>
  (some (!y10)).bind fun a13 =>
  cond a13
  (some ((0, []), false))
  ((F_impl_Relation_size (r_.1, r_.2.1, r_.2.2)).bind fun y17 =>
    (F_impl_choiceFunction p_ r_.2.2 y17 ports_).bind fun y20 =>
    (some (!y20.2)).bind fun a25 =>
    cond a25
    (some ((0, []), false))
    ((F_impl_Relation_size (r_.1, r_.2.1, r_.2.2)).bind fun y28 =>
      (subO y28 ((ports_.length : Nat) : Int)).bind fun a31 =>
      some ((a31, y20.1), true)))

noncomputable def F_impl_ReplaceablePorts (p_ : Int) (r_ : Int × Int × List (List Int)) (ports_ : List Int) (q_ : Int) : Option (List Int × Bool) :=
  (F_impl_ChoiceFunction p_ (r_.1, r_.2.1, r_.2.2) ports_).bind fun y7 =>
  ((some (!y7.2)).bind fun a41 =>
    cond a41
    (some true)
    ((F_impl_Relation_size (r_.1, r_.2.1, r_.2.2)).bind fun y44 =>
      (subO y44 1).bind fun a47 =>
      (F_impl_within q_ 0 a47).bind fun y49 =>
      (some (!y49)).bind fun a52 =>
      cond a52
      (some true)
      ((F_slices_Contains_int_int ports_ q_).bind fun y55 =>
        some y55))).bind fun (s35 : Bool) =>
  cond s35
  (some ([], false))
  ((F_impl_Relation_size (r_.1, r_.2.1, r_.2.2)).bind fun y63 =>
    (F_impl_upTo y63).bind fun y66 =>
    (F_impl_others y66 ports_).bind fun y71 =>
    (F_slices_Index_int_int y71 q_).bind fun y76 =>
    (forS (fun (k82 : Nat) (s204 : List Int) =>
        (idxO y7.1.2 ((k82 : Nat) : Int)).bind fun a220 =>
        (idxO a220 y76).bind fun a230 =>
        (some (!decide (a230 = 0))).bind fun a232 =>
        cond a232
        ((idxO ports_ ((k82 : Nat) : Int)).bind fun a242 =>
          (appO s204 [a242]).bind fun a247 =>
          some a247)
        (some s204)) y7.1.2.length 0 ([] : List Int)).bind fun (s254 : List Int) =>
    some (s254, true))

noncomputable def F_laws_eqIntS (a_ : List Int) (b_ : List Int) : Option Bool :=
  (some (!decide (((a_.length : Nat) : Int) = ((b_.length : Nat) : Int)))).bind fun a3 =>
  cond a3
  (some false)
  (seqO (whileO (fun (s166 : Int) =>
        (some (decide (s166 < ((a_.length : Nat) : Int)))).bind fun a175 =>
        cond a175
        ((idxO a_ s166).bind fun a187 =>
          (idxO b_ s166).bind fun a195 =>
          (some (!decide (a187 = a195))).bind fun a197 =>
          cond a197
          (some (.inr (.inr false)))
          ((addO s166 1).bind fun a200 =>
            some (.inl a200)))
        (some (.inr (.inl ())))) 0) fun (s102 : Unit) =>
    some true)

noncomputable def F_laws_eqIntSS (a_ : List (List Int)) (b_ : List (List Int)) : Option Bool :=
  (some (!decide (((a_.length : Nat) : Int) = ((b_.length : Nat) : Int)))).bind fun a3 =>
  cond a3
  (some false)
  (seqO (whileO (fun (s201 : Int) =>
        (some (decide (s201 < ((a_.length : Nat) : Int)))).bind fun a210 =>
        cond a210
        ((idxO a_ s201).bind fun a222 =>
          (idxO b_ s201).bind fun a232 =>
          (F_laws_eqIntS a222 a232).bind fun y236 =>
          (some (!y236)).bind fun a239 =>
          cond a239
          (some (.inr (.inr false)))
          ((addO s201 1).bind fun a242 =>
            some (.inl a242)))
        (some (.inr (.inl ())))) 0) fun (s123 : Unit) =>
    some true)

noncomputable def F_laws_eqRelation (a_ : Int × Int × List (List Int)) (b_ : Int × Int × List (List Int)) : Option Bool :=
  (some (!decide (a_.1 = b_.1))).bind fun a9 =>
  cond a9
  (some false)
  ((some (!decide (a_.2.1 = b_.2.1))).bind fun a12 =>
    cond a12
    (some false)
    ((F_laws_eqIntSS a_.2.2 b_.2.2).bind fun y15 =>
      (some (!y15)).bind fun a18 =>
      cond a18
      (some false)
      (some true)))

noncomputable def F_laws_markIntS (a_ : List Int) (k_ : Int) : Option (List Int × Int) :=
  (whileO (fun (s111 : List Int × Int × Int) =>
      (some (decide (s111.2.2 < ((s111.1.length : Nat) : Int)))).bind fun a120 =>
      cond a120
      ((setO s111.1 s111.2.2 s111.2.1).bind fun a131 =>
        (addO s111.2.1 1).bind fun a134 =>
        (addO s111.2.2 1).bind fun a136 =>
        some (.inl (a131, a134, a136)))
      (some (.inr (s111.1, s111.2.1)))) (a_, k_, 0)).bind fun (s67 : List Int × Int) =>
  some (s67.1, s67.2)

noncomputable def F_laws_markIntSS (a_ : List (List Int)) (k_ : Int) : Option (List (List Int) × Int) :=
  (whileO (fun (s131 : List (List Int) × Int × Int) =>
      (some (decide (s131.2.2 < ((s131.1.length : Nat) : Int)))).bind fun a140 =>
      cond a140
      ((idxO s131.1 s131.2.2).bind fun a151 =>
        (F_laws_markIntS a151 s131.2.1).bind fun y154 =>
        (setO s131.1 s131.2.2 y154.1).bind fun a158 =>
        (addO s131.2.2 1).bind fun a160 =>
        some (.inl (a158, y154.2, a160)))
      (some (.inr (s131.1, s131.2.1)))) (a_, k_, 0)).bind fun (s79 : List (List Int) × Int) =>
  some (s79.1, s79.2)

noncomputable def F_laws_markRelation (a_ : Int × Int × List (List Int)) (k_ : Int) : Option ((Int × Int × List (List Int)) × Int) :=
  (F_laws_markIntSS a_.2.2 k_).bind fun y5 =>
  some ((a_.1, a_.2.1, y5.1), y5.2)

noncomputable def F_laws_heldIntS (a_ : List Int) (k_ : Int) : Option Int :=
  seqO (whileO (fun (s127 : Int × Int) =>
      (some (decide (s127.2 < ((a_.length : Nat) : Int)))).bind fun a136 =>
      cond a136
      ((idxO a_ s127.2).bind fun a147 =>
        (some (!decide (a147 = s127.1))).bind fun a149 =>
        cond a149
        (some (.inr (.inr (-1))))
        ((addO s127.1 1).bind fun a152 =>
          (addO s127.2 1).bind fun a154 =>
          some (.inl (a152, a154))))
      (some (.inr (.inl s127.1)))) (k_, 0)) fun (s77 : Int) =>
  some s77

noncomputable def F_laws_FnExactReplaceablePorts (aP_ : Int) (aR_ : Int × Int × List (List Int)) (aPorts_ : List Int) (aQ_ : Int) : Option Bool :=
  (some (decide ((1048576 : Int) < ((aPorts_.length : Nat) : Int)))).bind fun a7 =>
  cond a7
  (some true)
  ((F_laws_szRelation (aR_.1, aR_.2.1, aR_.2.2) 1048576).bind fun y10 =>
    (some (decide (y10 < 0))).bind fun a13 =>
    cond a13
    (some true)
    ((F_laws_toRelation (aR_.1, aR_.2.1, aR_.2.2)).bind fun y16 =>
      (F_laws_toIntS aPorts_).bind fun y21 =>
      (F_spec_ReplaceablePorts aP_ (y16.1, y16.2.1, y16.2.2) y21 aQ_).bind fun y26 =>
      (F_laws_toRelation (aR_.1, aR_.2.1, aR_.2.2)).bind fun y31 =>
      (F_laws_toIntS aPorts_).bind fun y40 =>
      (F_impl_ReplaceablePorts aP_ (y31.1, y31.2.1, y31.2.2) y40 aQ_).bind fun y45 =>
      ((F_laws_eqIntS y45.1 y26.1).bind fun y65 =>
        (some (!y65)).bind fun a68 =>
        cond a68
        (some true)
        ((some (!decide (y45.2 = y26.2))).bind fun a71 =>
          some a71)).bind fun (s59 : Bool) =>
      cond s59
      (some false)
      ((F_laws_toRelation (aR_.1, aR_.2.1, aR_.2.2)).bind fun y78 =>
        (F_laws_eqRelation (y31.1, y31.2.1, y31.2.2) (y78.1, y78.2.1, y78.2.2)).bind fun y83 =>
        (some (!y83)).bind fun a86 =>
        cond a86
        (some false)
        ((F_laws_toIntS aPorts_).bind fun y89 =>
          (F_laws_eqIntS y40 y89).bind fun y94 =>
          (some (!y94)).bind fun a97 =>
          cond a97
          (some false)
          ((F_laws_markRelation (y31.1, y31.2.1, y31.2.2) 1).bind fun y100 =>
            (F_laws_markIntS y40 y100.2).bind fun y103 =>
            ((some (decide (y103.2 < 0))).bind fun a125 =>
              cond a125
              (some true)
              ((F_laws_eqIntS y45.1 y26.1).bind fun y128 =>
                (some (!y128)).bind fun a131 =>
                cond a131
                (some true)
                ((some (!decide (y45.2 = y26.2))).bind fun a134 =>
                  some a134))).bind fun (s119 : Bool) =>
            cond s119
            (some false)
            ((F_laws_markIntS y45.1 1).bind fun y141 =>
              (F_laws_heldIntS y141.1 1).bind fun y144 =>
              (some (decide (y144 < 0))).bind fun a147 =>
              cond a147
              (some false)
              ((some (!decide (y144 = y141.2))).bind fun a150 =>
                cond a150
                (some false)
                ((F_laws_toRelation (aR_.1, aR_.2.1, aR_.2.2)).bind fun y153 =>
                  (F_laws_toIntS aPorts_).bind fun y158 =>
                  (F_impl_ReplaceablePorts aP_ (y153.1, y153.2.1, y153.2.2) y158 aQ_).bind fun y163 =>
                  ((F_laws_eqIntS y163.1 y26.1).bind fun y183 =>
                    (some (!y183)).bind fun a186 =>
                    cond a186
                    (some true)
                    ((some (!decide (y163.2 = y26.2))).bind fun a189 =>
                      some a189)).bind fun (s177 : Bool) =>
                  cond s177
                  (some false)
                  ((F_laws_heldIntS y141.1 1).bind fun y195 =>
                    (some (decide (y195 < 0))).bind fun a198 =>
                    cond a198
                    (some false)
                    ((some (!decide (y195 = y141.2))).bind fun a201 =>
                      cond a201
                      (some false)
                      (some true)))))))))))
end Go.Proofs.YteikcdofblclhaaDoor
