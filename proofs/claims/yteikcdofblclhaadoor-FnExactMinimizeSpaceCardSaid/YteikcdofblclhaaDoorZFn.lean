/-
  Partial functions, printed by a program (wip/y/gen.py): what each function of Go computes, over plain data. No program in sight. No condition.
-/
import Derived.Test.YteikcdofblclhaaDoorZF
namespace Go.Proofs.YteikcdofblclhaaDoor
set_option linter.unusedVariables false

noncomputable def F_laws_szIntS (a_ : List Int) (left_ : Int) : Option Int :=
  (subO left_ ((a_.length : Nat) : Int)).bind fun a2 =>
  (some (decide (a2 < 0))).bind fun a4 =>
  cond a4
  (some (-1))
  (some a2)

noncomputable def F_laws_szIntSS (a_ : List (List Int)) (left_ : Int) : Option Int :=
  (subO left_ ((a_.length : Nat) : Int)).bind fun a2 =>
  (some (decide (a2 < 0))).bind fun a4 =>
  cond a4
  (some (-1))
  (seqO (whileO (fun (s147 : Int × Int) =>
        (some (decide (s147.2 < ((a_.length : Nat) : Int)))).bind fun a156 =>
        cond a156
        ((idxO a_ s147.2).bind fun a167 =>
          (F_laws_szIntS a167 s147.1).bind fun y171 =>
          (some (decide (y171 < 0))).bind fun a174 =>
          cond a174
          (some (.inr (.inr (-1))))
          ((addO s147.2 1).bind fun a177 =>
            some (.inl (y171, a177))))
        (some (.inr (.inl s147.1)))) (a2, 0)) fun (s91 : Int) =>
    some s91)

noncomputable def F_laws_szStateSpace (a_ : Int × Int × Int × List (List Int) × List (List Int) × List (List Int) × List (List Int)) (left_ : Int) : Option Int :=
  (F_laws_szIntSS a_.2.2.2.1 left_).bind fun y8 =>
  (some (decide (y8 < 0))).bind fun a11 =>
  cond a11
  (some (-1))
  ((F_laws_szIntSS a_.2.2.2.2.1 y8).bind fun y14 =>
    (some (decide (y14 < 0))).bind fun a17 =>
    cond a17
    (some (-1))
    ((F_laws_szIntSS a_.2.2.2.2.2.1 y14).bind fun y20 =>
      (some (decide (y20 < 0))).bind fun a23 =>
      cond a23
      (some (-1))
      ((F_laws_szIntSS a_.2.2.2.2.2.2 y20).bind fun y26 =>
        (some (decide (y26 < 0))).bind fun a29 =>
        cond a29
        (some (-1))
        (some y26))))

noncomputable def F_laws_toIntS (a_ : List Int) : Option (List Int) :=
  (makeO ((a_.length : Nat) : Int) (0 : Int)).bind fun a2 =>
  (whileO (fun (s146 : List Int × Int) =>
      (some (decide (s146.2 < ((a_.length : Nat) : Int)))).bind fun a155 =>
      cond a155
      ((idxO a_ s146.2).bind fun a166 =>
        (setO s146.1 s146.2 a166).bind fun a174 =>
        (addO s146.2 1).bind fun a177 =>
        some (.inl (a174, a177)))
      (some (.inr s146.1))) (a2, 0)).bind fun (s90 : List Int) =>
  some s90

noncomputable def F_laws_toIntSS (a_ : List (List Int)) : Option (List (List Int)) :=
  (makeO ((a_.length : Nat) : Int) ([] : List Int)).bind fun a2 =>
  (whileO (fun (s181 : List (List Int) × Int) =>
      (some (decide (s181.2 < ((a_.length : Nat) : Int)))).bind fun a190 =>
      cond a190
      ((idxO a_ s181.2).bind fun a201 =>
        (F_laws_toIntS a201).bind fun y205 =>
        (setO s181.1 s181.2 y205).bind fun a216 =>
        (addO s181.2 1).bind fun a219 =>
        some (.inl (a216, a219)))
      (some (.inr s181.1))) (a2, 0)).bind fun (s111 : List (List Int)) =>
  some s111

noncomputable def F_laws_toStateSpace (a_ : Int × Int × Int × List (List Int) × List (List Int) × List (List Int) × List (List Int)) : Option (Int × Int × Int × List (List Int) × List (List Int) × List (List Int) × List (List Int)) :=
  (F_laws_toIntSS a_.2.2.2.1).bind fun y17 =>
  (F_laws_toIntSS a_.2.2.2.2.1).bind fun y23 =>
  (F_laws_toIntSS a_.2.2.2.2.2.1).bind fun y29 =>
  (F_laws_toIntSS a_.2.2.2.2.2.2).bind fun y35 =>
  some (a_.1, a_.2.1, a_.2.2.1, y17, y23, y29, y35)

noncomputable def F_spec_l1In (n_ : Int) (lo_ : Int) (hi_ : Int) : Option Bool :=
  ((some (decide (lo_ ≤ n_))).bind fun a13 =>
    cond a13
    ((some (decide (n_ ≤ hi_))).bind fun a17 =>
      some a17)
    (some false)).bind fun (s7 : Bool) =>
  some s7

noncomputable def F_spec_fdGood (p_ : Int) : Option Bool :=
  (F_spec_l1In p_ 2 97).bind fun y1 =>
  (some (!y1)).bind fun a4 =>
  cond a4
  (some false)
  (seqO (whileO (fun (s102 : Int) =>
        (mulO s102 s102).bind fun a111 =>
        (some (decide (a111 ≤ p_))).bind fun a113 =>
        cond a113
        ((remO p_ s102).bind fun a118 =>
          (some (decide (a118 = 0))).bind fun a120 =>
          cond a120
          (some (.inr (.inr false)))
          ((addO s102 1).bind fun a123 =>
            some (.inl a123)))
        (some (.inr (.inl ())))) 2) fun (s64 : Unit) =>
    some true)

noncomputable def F_spec_l1All (l_ : List Int) (lo_ : Int) (hi_ : Int) : Option Bool :=
  seqO (forO (fun (k2 : Nat) (_ : Unit) =>
      (idxO l_ ((k2 : Nat) : Int)).bind fun a35 =>
      (F_spec_l1In a35 lo_ hi_).bind fun y37 =>
      (some (!y37)).bind fun a40 =>
      cond a40
      (some (.inr false))
      (some (.inl ()))) l_.length 0 ()) fun (_ : Unit) =>
  some true

noncomputable def F_spec_fdIn (p_ : Int) (l_ : List Int) : Option Bool :=
  (subO p_ 1).bind fun a2 =>
  (F_spec_l1All l_ 0 a2).bind fun y4 =>
  some y4

noncomputable def F_spec_spRows (p_ : Int) (size_ : Int) (rows_ : List (List Int)) : Option Bool :=
  seqO (forO (fun (k2 : Nat) (_ : Unit) =>
      (idxO rows_ ((k2 : Nat) : Int)).bind fun a58 =>
      ((some (!decide (((a58.length : Nat) : Int) = size_))).bind fun a77 =>
        cond a77
        (some true)
        ((F_spec_fdIn p_ a58).bind fun y80 =>
          (some (!y80)).bind fun a83 =>
          some a83)).bind fun (s71 : Bool) =>
      cond s71
      (some (.inr false))
      (some (.inl ()))) rows_.length 0 ()) fun (_ : Unit) =>
  some true

noncomputable def F_spec_ssTable (p_ : Int) (rows_ : Int) (cols_ : Int) (m_ : List (List Int)) : Option Bool :=
  ((some (decide (((m_.length : Nat) : Int) = rows_))).bind fun a15 =>
    cond a15
    ((F_spec_spRows p_ cols_ m_).bind fun y19 =>
      some y19)
    (some false)).bind fun (s9 : Bool) =>
  some s9

noncomputable def F_spec_ssGood (p_ : Int) (s_ : Int × Int × Int × List (List Int) × List (List Int) × List (List Int) × List (List Int)) : Option Bool :=
  ((F_spec_fdGood p_).bind fun y52 =>
    cond y52
    ((F_spec_l1In s_.1 0 24).bind fun y57 =>
      cond y57
      ((F_spec_l1In s_.2.1 0 8).bind fun y62 =>
        cond y62
        ((F_spec_l1In s_.2.2.1 0 8).bind fun y67 =>
          cond y67
          ((F_spec_ssTable p_ s_.1 s_.1 s_.2.2.2.1).bind fun y72 =>
            cond y72
            ((F_spec_ssTable p_ s_.2.1 s_.1 s_.2.2.2.2.1).bind fun y77 =>
              cond y77
              ((F_spec_ssTable p_ s_.1 s_.2.2.1 s_.2.2.2.2.2.1).bind fun y82 =>
                cond y82
                ((F_spec_ssTable p_ s_.2.1 s_.2.2.1 s_.2.2.2.2.2.2).bind fun y87 =>
                  some y87)
                (some false))
              (some false))
            (some false))
          (some false))
        (some false))
      (some false))
    (some false)).bind fun (s46 : Bool) =>
  some s46

noncomputable def F_spec_l1Own (l_ : List Int) : Option (List Int) :=
  (appO ([] : List Int) l_).bind fun a5 =>
  some a5

noncomputable def F_spec_fdInv (p_ : Int) (a_ : Int) : Option Int :=
  seqO (whileO (fun (s96 : Int) =>
      (some (decide (s96 < p_))).bind fun a105 =>
      cond a105
      ((mulO a_ s96).bind fun a110 =>
        (remO a110 p_).bind fun a112 =>
        (some (decide (a112 = 1))).bind fun a114 =>
        cond a114
        (some (.inr (.inr s96)))
        ((addO s96 1).bind fun a117 =>
          some (.inl a117)))
      (some (.inr (.inl ())))) 1) fun (s58 : Unit) =>
  some 0

noncomputable def F_spec_fdMul (p_ : Int) (a_ : Int) (b_ : Int) : Option Int :=
  (mulO a_ b_).bind fun a1 =>
  (remO a1 p_).bind fun a3 =>
  some a3

noncomputable def F_spec_fdSub (p_ : Int) (a_ : Int) (b_ : Int) : Option Int :=
  (addO a_ p_).bind fun a1 =>
  (subO a1 b_).bind fun a3 =>
  (remO a3 p_).bind fun a5 =>
  some a5

noncomputable def F_spec_spReduce (p_ : Int) (size_ : Int) (rows_ : List (List Int)) : Option (List (List Int)) :=
  (forS (fun (k2 : Nat) (s55 : List (List Int)) =>
      (idxO rows_ ((k2 : Nat) : Int)).bind fun a72 =>
      (F_spec_l1Own a72).bind fun y76 =>
      (appO s55 [y76]).bind fun a84 =>
      some a84) rows_.length 0 []).bind fun (s91 : List (List Int)) =>
  (whileO (fun (s23898 : List (List Int) × Int × Int) =>
      ((some (decide (s23898.2.2 < size_))).bind fun a23919 =>
        cond a23919
        ((some (decide (s23898.2.1 < ((s23898.1.length : Nat) : Int)))).bind fun a23923 =>
          some a23923)
        (some false)).bind fun (s23913 : Bool) =>
      cond s23913
      (((whileO (fun (s26612 : Int) =>
              ((some (decide (s26612 < ((s23898.1.length : Nat) : Int)))).bind fun a26650 =>
                cond a26650
                ((idxO s23898.1 s26612).bind fun a26660 =>
                  (idxO a26660 s23898.2.2).bind fun a26669 =>
                  (some (decide (a26669 = 0))).bind fun a26671 =>
                  some a26671)
                (some false)).bind fun (s26644 : Bool) =>
              cond s26644
              ((addO s26612 1).bind fun a26678 =>
                some (.inl a26678))
              (some (.inr s26612))) s23898.2.1).bind fun (s26486 : Int) =>
          (some (decide (s26486 = ((s23898.1.length : Nat) : Int)))).bind fun a26682 =>
          cond a26682
          (some (s23898.1, s23898.2.1))
          ((idxO s23898.1 s23898.2.1).bind fun a26691 =>
            (idxO s23898.1 s26486).bind fun a26700 =>
            (swapO s23898.1 s23898.2.1 s26486).bind fun a26717 =>
            (idxO a26717 s23898.2.1).bind fun a26725 =>
            (idxO a26725 s23898.2.2).bind fun a26734 =>
            (F_spec_fdInv p_ a26734).bind fun y26736 =>
            (idxO a26717 s23898.2.1).bind fun a26745 =>
            (forS (fun (k26749 : Nat) (s26838 : List (List Int)) =>
                (idxO s26838 s23898.2.1).bind fun a26854 =>
                (idxO s26838 s23898.2.1).bind fun a26863 =>
                (idxO a26863 ((k26749 : Nat) : Int)).bind fun a26872 =>
                (F_spec_fdMul p_ a26872 y26736).bind fun y26874 =>
                (setO a26854 ((k26749 : Nat) : Int) y26874).bind fun a26884 =>
                (setO s26838 s23898.2.1 a26884).bind fun a26887 =>
                some a26887) a26745.length 0 a26717).bind fun (s26891 : List (List Int)) =>
            (forS (fun (k26893 : Nat) (s28062 : List (List Int)) =>
                (((some (decide (((k26893 : Nat) : Int) = s23898.2.1))).bind fun a28393 =>
                    cond a28393
                    (some true)
                    ((idxO s28062 ((k26893 : Nat) : Int)).bind fun a28402 =>
                      (idxO a28402 s23898.2.2).bind fun a28411 =>
                      (some (decide (a28411 = 0))).bind fun a28413 =>
                      some a28413)).bind fun (s28387 : Bool) =>
                  cond s28387
                  (some s28062)
                  ((idxO s28062 ((k26893 : Nat) : Int)).bind fun a28425 =>
                    (idxO a28425 s23898.2.2).bind fun a28434 =>
                    (idxO s28062 ((k26893 : Nat) : Int)).bind fun a28442 =>
                    (forS (fun (k28446 : Nat) (s28575 : List (List Int)) =>
                        (idxO s28575 ((k26893 : Nat) : Int)).bind fun a28591 =>
                        (idxO s28575 ((k26893 : Nat) : Int)).bind fun a28600 =>
                        (idxO s28575 s23898.2.1).bind fun a28609 =>
                        (idxO a28600 ((k28446 : Nat) : Int)).bind fun a28618 =>
                        (idxO a28609 ((k28446 : Nat) : Int)).bind fun a28626 =>
                        (F_spec_fdMul p_ a28434 a28626).bind fun y28628 =>
                        (F_spec_fdSub p_ a28618 y28628).bind fun y28631 =>
                        (setO a28591 ((k28446 : Nat) : Int) y28631).bind fun a28641 =>
                        (setO s28575 ((k26893 : Nat) : Int) a28641).bind fun a28644 =>
                        some a28644) a28442.length 0 s28062).bind fun (s28648 : List (List Int)) =>
                    some s28648)).bind fun (s28358 : List (List Int)) =>
                some s28358) s26891.length 0 s26891).bind fun (s28655 : List (List Int)) =>
            (addO s23898.2.1 1).bind fun a28657 =>
            some (s28655, a28657))).bind fun (s26292 : List (List Int) × Int) =>
        (addO s23898.2.2 1).bind fun a28662 =>
        some (.inl (s26292.1, s26292.2, a28662)))
      (some (.inr (s23898.1, s23898.2.1)))) (s91, 0, 0)).bind fun (s14376 : List (List Int) × Int) =>
  (sliceO s14376.1 0 s14376.2).bind fun a28666 =>
  some a28666

noncomputable def F_spec_spSum (p_ : Int) (size_ : Int) (rows_ : List (List Int)) (coefs_ : List Int) : Option (List Int) :=
  (makeO size_ (0 : Int)).bind fun a3 =>
  (forS (fun (k8 : Nat) (s309 : List Int) =>
      (idxO rows_ ((k8 : Nat) : Int)).bind fun a324 =>
      (forS (fun (k328 : Nat) (s413 : List Int) =>
          (idxO a324 ((k328 : Nat) : Int)).bind fun a428 =>
          (idxO s413 ((k328 : Nat) : Int)).bind fun a437 =>
          (idxO coefs_ ((k8 : Nat) : Int)).bind fun a445 =>
          (mulO a445 a428).bind fun a447 =>
          (addO a437 a447).bind fun a449 =>
          (remO a449 p_).bind fun a451 =>
          (setO s413 ((k328 : Nat) : Int) a451).bind fun a459 =>
          some a459) a324.length 0 s309).bind fun (s464 : List Int) =>
      some s464) rows_.length 0 a3).bind fun (s468 : List Int) =>
  some s468

noncomputable def F_spec_ssTimes (p_ : Int) (cols_ : Int) (rows_ : List (List Int)) (m_ : List (List Int)) : Option (List (List Int)) :=
  (forS (fun (k3 : Nat) (s56 : List (List Int)) =>
      (idxO rows_ ((k3 : Nat) : Int)).bind fun a73 =>
      (F_spec_spSum p_ cols_ m_ a73).bind fun y77 =>
      (appO s56 [y77]).bind fun a85 =>
      some a85) rows_.length 0 []).bind fun (s92 : List (List Int)) =>
  some s92

noncomputable def F_spec_spJoin (a_ : List (List Int)) (b_ : List (List Int)) : Option (List (List Int)) :=
  (appO ([] : List (List Int)) a_).bind fun a6 =>
  (appO a6 b_).bind fun a11 =>
  some a11

noncomputable def F_spec_ssReach (p_ : Int) (s_ : Int × Int × Int × List (List Int) × List (List Int) × List (List Int) × List (List Int)) : Option (List (List Int)) :=
  (F_spec_spReduce p_ s_.1 s_.2.2.2.2.1).bind fun y8 =>
  whileO (fun (s76 : List (List Int)) =>
    (F_spec_ssTimes p_ s_.1 s76 s_.2.2.2.1).bind fun y87 =>
    (F_spec_spJoin s76 y87).bind fun y92 =>
    (F_spec_spReduce p_ s_.1 y92).bind fun y106 =>
    (some (decide (((y106.length : Nat) : Int) = ((s76.length : Nat) : Int)))).bind fun a111 =>
    cond a111
    (some (.inr s76))
    (some (.inl y106))) y8

noncomputable def F_spec_ssCopy (m_ : List (List Int)) : Option (List (List Int)) :=
  (forS (fun (k2 : Nat) (s55 : List (List Int)) =>
      (idxO m_ ((k2 : Nat) : Int)).bind fun a72 =>
      (F_spec_l1Own a72).bind fun y76 =>
      (appO s55 [y76]).bind fun a84 =>
      some a84) m_.length 0 []).bind fun (s91 : List (List Int)) =>
  some s91

noncomputable def F_spec_spLead (v_ : List Int) : Option Int :=
  (whileO (fun (s226 : Int) =>
      ((some (decide (s226 < ((v_.length : Nat) : Int)))).bind fun a255 =>
        cond a255
        ((idxO v_ s226).bind fun a265 =>
          (some (decide (a265 = 0))).bind fun a267 =>
          some a267)
        (some false)).bind fun (s249 : Bool) =>
      cond s249
      ((addO s226 1).bind fun a274 =>
        some (.inl a274))
      (some (.inr s226))) 0).bind fun (s136 : Int) =>
  some s136

noncomputable def F_spec_spCoords (basis_ : List (List Int)) (v_ : List Int) : Option (List Int) :=
  (forS (fun (k3 : Nat) (s68 : List Int) =>
      (idxO basis_ ((k3 : Nat) : Int)).bind fun a85 =>
      (F_spec_spLead a85).bind fun y89 =>
      (idxO v_ y89).bind fun a98 =>
      (appO s68 [a98]).bind fun a103 =>
      some a103) basis_.length 0 []).bind fun (s110 : List Int) =>
  some s110

noncomputable def F_spec_ssReached (p_ : Int) (s_ : Int × Int × Int × List (List Int) × List (List Int) × List (List Int) × List (List Int)) : Option (Int × Int × Int × List (List Int) × List (List Int) × List (List Int) × List (List Int)) :=
  (F_spec_ssReach p_ (s_.1, s_.2.1, s_.2.2.1, s_.2.2.2.1, s_.2.2.2.2.1, s_.2.2.2.2.2.1, s_.2.2.2.2.2.2)).bind fun y11 =>
  ((F_spec_ssCopy s_.2.2.2.2.2.2).bind fun y63 =>
    some (((y11.length : Nat) : Int), s_.2.1, s_.2.2.1, y63)).bind fun (s45 : Int × Int × Int × List (List Int)) =>
  (F_spec_ssTimes p_ s_.1 y11 s_.2.2.2.1).bind fun y84 =>
  (forS (fun (k89 : Nat) (s174 : List (List Int)) =>
      (idxO y84 ((k89 : Nat) : Int)).bind fun a191 =>
      (F_spec_spCoords y11 a191).bind fun y196 =>
      (appO s174 [y196]).bind fun a204 =>
      some a204) y84.length 0 []).bind fun (s212 : List (List Int)) =>
  (forS (fun (k215 : Nat) (s272 : List (List Int)) =>
      (idxO s_.2.2.2.2.1 ((k215 : Nat) : Int)).bind fun a289 =>
      (F_spec_spCoords y11 a289).bind fun y294 =>
      (appO s272 [y294]).bind fun a302 =>
      some a302) s_.2.2.2.2.1.length 0 []).bind fun (s310 : List (List Int)) =>
  (F_spec_ssTimes p_ s_.2.2.1 y11 s_.2.2.2.2.2.1).bind fun y313 =>
  some (s45.1, s45.2.1, s45.2.2.1, s212, s310, y313, s45.2.2.2)

noncomputable def F_spec_ssTurn (m_ : List (List Int)) (cols_ : Int) : Option (List (List Int)) :=
  (makeO cols_ ([] : List Int)).bind fun a2 =>
  (forS (fun (k7 : Nat) (s324 : List (List Int)) =>
      (forS (fun (k333 : Nat) (s430 : List (List Int)) =>
          (idxO m_ ((k333 : Nat) : Int)).bind fun a445 =>
          (idxO s430 ((k7 : Nat) : Int)).bind fun a456 =>
          (idxO a445 ((k7 : Nat) : Int)).bind fun a465 =>
          (appO a456 [a465]).bind fun a471 =>
          (setO s430 ((k7 : Nat) : Int) a471).bind fun a483 =>
          some a483) m_.length 0 s324).bind fun (s487 : List (List Int)) =>
      some s487) a2.length 0 a2).bind fun (s491 : List (List Int)) =>
  some s491

noncomputable def F_spec_fdNeg (p_ : Int) (a_ : Int) : Option Int :=
  (subO p_ a_).bind fun a1 =>
  (remO a1 p_).bind fun a3 =>
  some a3

noncomputable def F_spec_spNull (p_ : Int) (size_ : Int) (rows_ : List (List Int)) : Option (List (List Int)) :=
  (F_spec_spReduce p_ size_ rows_).bind fun y2 =>
  (makeO size_ (0 : Int)).bind fun a7 =>
  (forS (fun (k12 : Nat) (s35 : List Int) =>
      (setO s35 ((k12 : Nat) : Int) (-1)).bind fun a50 =>
      some a50) a7.length 0 a7).bind fun (s55 : List Int) =>
  (forS (fun (k57 : Nat) (s130 : List Int) =>
      (idxO y2 ((k57 : Nat) : Int)).bind fun a145 =>
      (F_spec_spLead a145).bind fun y149 =>
      (setO s130 y149 ((k57 : Nat) : Int)).bind fun a158 =>
      some a158) y2.length 0 s55).bind fun (s163 : List Int) =>
  (whileO (fun (s2117 : List (List Int) × Int) =>
      (some (decide (s2117.2 < size_))).bind fun a2128 =>
      cond a2128
      (((idxO s163 s2117.2).bind fun a2330 =>
          (some (decide ((0 : Int) ≤ a2330))).bind fun a2332 =>
          cond a2332
          (some s2117.1)
          ((makeO size_ (0 : Int)).bind fun a2335 =>
            (setO a2335 s2117.2 1).bind fun a2346 =>
            (forS (fun (k2349 : Nat) (s2442 : List Int) =>
                (idxO y2 ((k2349 : Nat) : Int)).bind fun a2457 =>
                (idxO y2 ((k2349 : Nat) : Int)).bind fun a2468 =>
                (idxO a2457 s2117.2).bind fun a2478 =>
                (F_spec_spLead a2468).bind fun y2480 =>
                (F_spec_fdNeg p_ a2478).bind fun y2483 =>
                (setO s2442 y2480 y2483).bind fun a2492 =>
                some a2492) y2.length 0 a2346).bind fun (s2497 : List Int) =>
            (appO s2117.1 [s2497]).bind fun a2502 =>
            some a2502)).bind fun (s2317 : List (List Int)) =>
        (addO s2117.2 1).bind fun a2510 =>
        some (.inl (s2317, a2510)))
      (some (.inr s2117.1))) ([], 0)).bind fun (s1335 : List (List Int)) =>
  (F_spec_spReduce p_ size_ s1335).bind fun y2514 =>
  some y2514

noncomputable def F_spec_ssHidden (p_ : Int) (s_ : Int × Int × Int × List (List Int) × List (List Int) × List (List Int) × List (List Int)) : Option (List (List Int)) :=
  ((F_spec_ssTurn s_.2.2.2.1 s_.1).bind fun y96 =>
    (F_spec_ssTurn s_.2.2.2.2.2.1 s_.2.2.1).bind fun y110 =>
    some (s_.1, s_.2.2.1, y96, y110)).bind fun (s72 : Int × Int × List (List Int) × List (List Int)) =>
  (forS (fun (k147 : Nat) (s210 : List (List Int)) =>
      (idxO s210 ((k147 : Nat) : Int)).bind fun a225 =>
      (some (decide (((a225.length : Nat) : Int) = 0))).bind fun a229 =>
      cond a229
      ((makeO s_.1 (0 : Int)).bind fun a234 =>
        (setO s210 ((k147 : Nat) : Int) a234).bind fun a245 =>
        some a245)
      (some s210)) s72.2.2.2.length 0 s72.2.2.2).bind fun (s250 : List (List Int)) =>
  (F_spec_ssReach p_ (s72.1, s72.2.1, 0, s72.2.2.1, s250, [], [])).bind fun y255 =>
  (F_spec_spNull p_ s_.1 y255).bind fun y260 =>
  some y260

noncomputable def F_spec_ssClear (p_ : Int) (u_ : List (List Int)) (keep_ : List Int) (v_ : List Int) : Option (List Int) :=
  (F_spec_l1Own v_).bind fun y4 =>
  (forS (fun (k9 : Nat) (s284 : List Int) =>
      (idxO u_ ((k9 : Nat) : Int)).bind fun a299 =>
      (F_spec_spLead a299).bind fun y303 =>
      (idxO s284 y303).bind fun a312 =>
      (forS (fun (k314 : Nat) (s383 : List Int) =>
          (idxO s383 ((k314 : Nat) : Int)).bind fun a399 =>
          (idxO a299 ((k314 : Nat) : Int)).bind fun a407 =>
          (F_spec_fdMul p_ a312 a407).bind fun y409 =>
          (F_spec_fdSub p_ a399 y409).bind fun y412 =>
          (setO s383 ((k314 : Nat) : Int) y412).bind fun a421 =>
          some a421) s284.length 0 s284).bind fun (s426 : List Int) =>
      some s426) u_.length 0 y4).bind fun (s430 : List Int) =>
  (forS (fun (k432 : Nat) (s487 : List Int) =>
      (idxO keep_ ((k432 : Nat) : Int)).bind fun a504 =>
      (idxO s430 a504).bind fun a512 =>
      (appO s487 [a512]).bind fun a517 =>
      some a517) keep_.length 0 []).bind fun (s524 : List Int) =>
  some s524

noncomputable def F_spec_ssMinimize (p_ : Int) (s_ : Int × Int × Int × List (List Int) × List (List Int) × List (List Int) × List (List Int)) : Option (Int × Int × Int × List (List Int) × List (List Int) × List (List Int) × List (List Int)) :=
  (F_spec_ssReached p_ (s_.1, s_.2.1, s_.2.2.1, s_.2.2.2.1, s_.2.2.2.2.1, s_.2.2.2.2.2.1, s_.2.2.2.2.2.2)).bind fun y11 =>
  (F_spec_ssHidden p_ (y11.1, y11.2.1, y11.2.2.1, y11.2.2.2.1, y11.2.2.2.2.1, y11.2.2.2.2.2.1, y11.2.2.2.2.2.2)).bind fun y23 =>
  (whileO (fun (s862 : List Int × Int) =>
      (some (decide (s862.2 < y11.1))).bind fun a873 =>
      cond a873
      ((forS (fun (k878 : Nat) (s915 : Bool) =>
            (idxO y23 ((k878 : Nat) : Int)).bind fun a930 =>
            cond s915
            ((F_spec_spLead a930).bind fun y936 =>
              (some (!decide (y936 = s862.2))).bind fun a939 =>
              some a939)
            (some false)) y23.length 0 true).bind fun (s943 : Bool) =>
        cond s943
        ((appO s862.1 [s862.2]).bind fun a952 =>
          (addO s862.2 1).bind fun a957 =>
          some (.inl (a952, a957)))
        ((addO s862.2 1).bind fun a946 =>
          some (.inl (s862.1, a946))))
      (some (.inr s862.1))) ([], 0)).bind fun (s679 : List Int) =>
  (forS (fun (k965 : Nat) (s1086 : List (List Int) × List (List Int)) =>
      (idxO s679 ((k965 : Nat) : Int)).bind fun a1105 =>
      (idxO y11.2.2.2.1 a1105).bind fun a1114 =>
      (F_spec_ssClear p_ y23 s679 a1114).bind fun y1117 =>
      (appO s1086.1 [y1117]).bind fun a1125 =>
      (idxO y11.2.2.2.2.2.1 a1105).bind fun a1138 =>
      (F_spec_l1Own a1138).bind fun y1141 =>
      (appO s1086.2 [y1141]).bind fun a1149 =>
      some (a1125, a1149)) s679.length 0 ([], [])).bind fun (s1157 : List (List Int) × List (List Int)) =>
  (forS (fun (k1161 : Nat) (s1246 : List (List Int)) =>
      (idxO y11.2.2.2.2.1 ((k1161 : Nat) : Int)).bind fun a1263 =>
      (F_spec_ssClear p_ y23 s679 a1263).bind fun y1268 =>
      (appO s1246 [y1268]).bind fun a1276 =>
      some a1276) y11.2.2.2.2.1.length 0 []).bind fun (s1284 : List (List Int)) =>
  some (((s679.length : Nat) : Int), y11.2.1, y11.2.2.1, s1157.1, s1284, s1157.2, y11.2.2.2.2.2.2)

noncomputable def F_spec_MinimizeSpace (p_ : Int) (s_ : Int × Int × Int × List (List Int) × List (List Int) × List (List Int) × List (List Int)) : Option ((Int × Int × Int × List (List Int) × List (List Int) × List (List Int) × List (List Int)) × Bool) :=
  (F_spec_ssGood p_ (s_.1, s_.2.1, s_.2.2.1, s_.2.2.2.1, s_.2.2.2.2.1, s_.2.2.2.2.2.1, s_.2.2.2.2.2.2)).bind fun y11 =>
  (some (!y11)).bind fun a14 =>
  cond a14
  (some ((0, 0, 0, [], [], [], []), false))
  ((F_spec_ssMinimize p_ (s_.1, s_.2.1, s_.2.2.1, s_.2.2.2.1, s_.2.2.2.2.1, s_.2.2.2.2.2.1, s_.2.2.2.2.2.2)).bind fun y17 =>
    some ((y17.1, y17.2.1, y17.2.2.1, y17.2.2.2.1, y17.2.2.2.2.1, y17.2.2.2.2.2.1, y17.2.2.2.2.2.2), true))

noncomputable def F_impl_isField (p_ : Int) : Option Bool :=
  ((some (decide (p_ < 2))).bind fun a14 =>
    cond a14
    (some true)
    ((some (decide ((97 : Int) < p_))).bind fun a17 =>
      some a17)).bind fun (s8 : Bool) =>
  cond s8
  (some false)
  ((cI 4).bind fun _ =>
    seqO (forO (fun (k23 : Nat) (_ : Unit) =>
        (idxO [2, 3, 5, 7] ((k23 : Nat) : Int)).bind fun a65 =>
        ((remO p_ a65).bind fun a81 =>
          (some (decide (a81 = 0))).bind fun a83 =>
          cond a83
          ((some (!decide (p_ = a65))).bind fun a87 =>
            some a87)
          (some false)).bind fun (s75 : Bool) =>
        cond s75
        (some (.inr false))
        (some (.inl ()))) ((4 : Int).toNat) 0 ()) fun (_ : Unit) =>
    some true)

noncomputable def F_impl_within (n_ : Int) (low_ : Int) (high_ : Int) : Option Bool :=
  ((some (decide (low_ ≤ n_))).bind fun a13 =>
    cond a13
    ((some (decide (n_ ≤ high_))).bind fun a17 =>
      some a17)
    (some false)).bind fun (s7 : Bool) =>
  some s7

noncomputable def F_impl_table_int_hasShape (t_ : List (List Int)) (rows_ : Int) (cols_ : Int) : Option Bool :=
  (some (!decide (((t_.length : Nat) : Int) = rows_))).bind fun a2 =>
  cond a2
  (some false)
  ((cI rows_).bind fun _ =>
    seqO (forO (fun (k5 : Nat) (_ : Unit) =>
        (idxO t_ ((k5 : Nat) : Int)).bind fun a39 =>
        (some (!decide (((a39.length : Nat) : Int) = cols_))).bind fun a43 =>
        cond a43
        (some (.inr false))
        (some (.inl ()))) rows_.toNat 0 ()) fun (_ : Unit) =>
    some true)

noncomputable def F_impl_isElement (p_ : Int) (a_ : Int) : Option Bool :=
  ((some (decide ((0 : Int) ≤ a_))).bind fun a13 =>
    cond a13
    ((some (decide (a_ < p_))).bind fun a17 =>
      some a17)
    (some false)).bind fun (s7 : Bool) =>
  some s7

noncomputable def F_impl_isVector (p_ : Int) (v_ : List Int) (n_ : Int) : Option Bool :=
  (some (!decide (((v_.length : Nat) : Int) = n_))).bind fun a2 =>
  cond a2
  (some false)
  (seqO (forO (fun (k5 : Nat) (_ : Unit) =>
        (idxO v_ ((k5 : Nat) : Int)).bind fun a38 =>
        (F_impl_isElement p_ a38).bind fun y40 =>
        (some (!y40)).bind fun a43 =>
        cond a43
        (some (.inr false))
        (some (.inl ()))) v_.length 0 ()) fun (_ : Unit) =>
    some true)

noncomputable def F_impl_areVectors (p_ : Int) (rows_ : List (List Int)) (n_ : Int) : Option Bool :=
  seqO (forO (fun (k2 : Nat) (_ : Unit) =>
      (idxO rows_ ((k2 : Nat) : Int)).bind fun a37 =>
      (F_impl_isVector p_ a37 n_).bind fun y41 =>
      (some (!y41)).bind fun a44 =>
      cond a44
      (some (.inr false))
      (some (.inl ()))) rows_.length 0 ()) fun (_ : Unit) =>
  some true

noncomputable def F_impl_isStateSpace (p_ : Int) (s_ : Int × Int × Int × List (List Int) × List (List Int) × List (List Int) × List (List Int)) : Option Bool :=
  ((F_impl_isField p_).bind fun y41 =>
    (some (!y41)).bind fun a44 =>
    cond a44
    (some true)
    ((F_impl_within s_.1 0 24).bind fun y47 =>
      (some (!y47)).bind fun a50 =>
      cond a50
      (some true)
      ((F_impl_within s_.2.1 0 8).bind fun y53 =>
        (some (!y53)).bind fun a56 =>
        cond a56
        (some true)
        ((F_impl_within s_.2.2.1 0 8).bind fun y59 =>
          (some (!y59)).bind fun a62 =>
          some a62)))).bind fun (s35 : Bool) =>
  cond s35
  (some false)
  (((F_impl_table_int_hasShape s_.2.2.2.1 s_.1 s_.1).bind fun y102 =>
      (some (!y102)).bind fun a105 =>
      cond a105
      (some true)
      ((F_impl_table_int_hasShape s_.2.2.2.2.1 s_.2.1 s_.1).bind fun y108 =>
        (some (!y108)).bind fun a111 =>
        cond a111
        (some true)
        ((F_impl_table_int_hasShape s_.2.2.2.2.2.1 s_.1 s_.2.2.1).bind fun y114 =>
          (some (!y114)).bind fun a117 =>
          cond a117
          (some true)
          ((F_impl_table_int_hasShape s_.2.2.2.2.2.2 s_.2.1 s_.2.2.1).bind fun y120 =>
            (some (!y120)).bind fun a123 =>
            some a123)))).bind fun (s96 : Bool) =>
    cond s96
    (some false)
    (((F_impl_areVectors p_ s_.2.2.2.1 s_.1).bind fun y155 =>
        cond y155
        ((F_impl_areVectors p_ s_.2.2.2.2.1 s_.1).bind fun y160 =>
          cond y160
          ((F_impl_areVectors p_ s_.2.2.2.2.2.1 s_.2.2.1).bind fun y165 =>
            cond y165
            ((F_impl_areVectors p_ s_.2.2.2.2.2.2 s_.2.2.1).bind fun y170 =>
              some y170)
            (some false))
          (some false))
        (some false)).bind fun (s149 : Bool) =>
      some s149))

noncomputable def F_impl_clone (list_ : List Int) : Option (List Int) :=
  (appO ([] : List Int) list_).bind fun a5 =>
  some a5

noncomputable def F_impl_clones (list_ : List (List Int)) : Option (List (List Int)) :=
  (makeCO 0 ((list_.length : Nat) : Int) ([] : List Int)).bind fun a2 =>
  (forS (fun (k7 : Nat) (s59 : List (List Int)) =>
      (idxO list_ ((k7 : Nat) : Int)).bind fun a75 =>
      (F_impl_clone a75).bind fun y79 =>
      (appO s59 [y79]).bind fun a87 =>
      some a87) list_.length 0 a2).bind fun (s94 : List (List Int)) =>
  some s94

noncomputable def F_impl_bit (yes_ : Bool) : Option Int :=
  cond yes_
  (some 1)
  (some 0)

noncomputable def F_impl_power (p_ : Int) (a_ : Int) (n_ : Int) : Option Int :=
  (remO 1 p_).bind fun a1 =>
  (whileO (fun (s217 : Int × Int × Int) =>
      (some (decide ((0 : Int) < s217.2.1))).bind fun a226 =>
      cond a226
      (((remO s217.2.1 2).bind fun a247 =>
          (some (decide (a247 = 1))).bind fun a249 =>
          cond a249
          ((mulO s217.2.2 s217.1).bind fun a253 =>
            (remO a253 p_).bind fun a255 =>
            some a255)
          (some s217.2.2)).bind fun (s241 : Int) =>
        (mulO s217.1 s217.1).bind fun a259 =>
        (remO a259 p_).bind fun a261 =>
        (quoO s217.2.1 2).bind fun a263 =>
        some (.inl (a261, a263, s241)))
      (some (.inr s217.2.2))) (a_, n_, a1)).bind fun (s131 : Int) =>
  some s131

noncomputable def F_impl_inverse (p_ : Int) (a_ : Int) : Option Int :=
  (subO p_ 2).bind fun a1 =>
  (some (decide (p_ = 2))).bind fun a3 =>
  (F_impl_bit a3).bind fun y5 =>
  (addO a1 y5).bind fun a8 =>
  (F_impl_power p_ a_ a8).bind fun y10 =>
  some y10

noncomputable def F_impl_mod (p_ : Int) (a_ : Int) : Option Int :=
  (remO a_ p_).bind fun a1 =>
  (some (decide (a1 < 0))).bind fun a3 =>
  cond a3
  ((addO a1 p_).bind fun a7 =>
    some a7)
  (some a1)

noncomputable def F_impl_addTimes (p_ : Int) (v_ : List Int) (by_ : Int) (w_ : List Int) : Option (List Int) :=
  (forS (fun (k3 : Nat) (s72 : List Int) =>
      (idxO w_ ((k3 : Nat) : Int)).bind fun a87 =>
      (idxO s72 ((k3 : Nat) : Int)).bind fun a95 =>
      (mulO by_ a87).bind fun a97 =>
      (addO a95 a97).bind fun a99 =>
      (F_impl_mod p_ a99).bind fun y101 =>
      (setO s72 ((k3 : Nat) : Int) y101).bind fun a110 =>
      some a110) w_.length 0 v_).bind fun (s115 : List Int) =>
  some s115

noncomputable def F_impl_rowOperation_apply (o_ : Int × Int × Int × Int) (p_ : Int) (rows_ : List (List Int)) : Option (List (List Int)) :=
  (some (decide (o_.1 = 0))).bind fun a5 =>
  cond a5
  ((idxO rows_ o_.2.2.1).bind fun a173 =>
    (idxO rows_ o_.2.1).bind fun a182 =>
    (swapO rows_ o_.2.1 o_.2.2.1).bind fun a199 =>
    some a199)
  ((some (decide (o_.1 = 1))).bind fun a8 =>
    cond a8
    ((F_impl_inverse p_ o_.2.2.2).bind fun y48 =>
      (idxO rows_ o_.2.1).bind fun a57 =>
      (forS (fun (k61 : Nat) (s122 : List Int) =>
          (idxO s122 ((k61 : Nat) : Int)).bind fun a137 =>
          (mulO a137 y48).bind fun a140 =>
          (remO a140 p_).bind fun a142 =>
          (setO s122 ((k61 : Nat) : Int) a142).bind fun a156 =>
          some a156) a57.length 0 a57).bind fun (s161 : List Int) =>
      (setO rows_ o_.2.1 s161).bind fun a163 =>
      some a163)
    ((some (decide (o_.1 = 2))).bind fun a11 =>
      cond a11
      ((idxO rows_ o_.2.1).bind fun a22 =>
        (negO o_.2.2.2).bind fun a25 =>
        (idxO rows_ o_.2.2.1).bind fun a33 =>
        (F_impl_addTimes p_ a22 a25 a33).bind fun y36 =>
        (neqO o_.2.1 o_.2.2.1).bind fun _ =>
        (setO rows_ o_.2.1 y36).bind fun a45 =>
        some a45)
      (some rows_)))

noncomputable def F_impl_reduction_1 (o_ : Int × Int × Int × Int) (c0_ : Int) (c1_ : List (List Int)) (c2_ : List (List Int)) : Option (List (List Int) × List (List Int)) :=
  (some (decide (([o_.1, o_.2.1, o_.2.2.1, o_.2.2.2] : List Int) = [0, o_.2.1, o_.2.1, 0]))).bind fun a9 =>
  cond a9
  (some (c1_, c2_))
  ((F_impl_rowOperation_apply (o_.1, o_.2.1, o_.2.2.1, o_.2.2.2) c0_ c1_).bind fun y12 =>
    (F_impl_rowOperation_apply (o_.1, o_.2.1, o_.2.2.1, o_.2.2.2) c0_ c2_).bind fun y15 =>
    some (y12, y15))

noncomputable def F_impl_reduction (p_ : Int) (rows_ : List (List Int)) (n_ : Int) (also_ : List (List Int)) : Option (List (List Int) × List (List Int) × Int) :=
  (whileO (fun (s6786 : List (List Int) × List (List Int) × Int × Int) =>
      ((some (decide (s6786.2.2.1 < n_))).bind fun a6807 =>
        cond a6807
        ((some (decide (s6786.2.2.2 < ((s6786.1.length : Nat) : Int)))).bind fun a6811 =>
          some a6811)
        (some false)).bind fun (s6801 : Bool) =>
      cond s6801
      (((whileO (fun (s7797 : Int) =>
              ((some (decide (s7797 < ((s6786.1.length : Nat) : Int)))).bind fun a7835 =>
                cond a7835
                ((idxO s6786.1 s7797).bind fun a7845 =>
                  (idxO a7845 s6786.2.2.1).bind fun a7854 =>
                  (some (decide (a7854 = 0))).bind fun a7856 =>
                  some a7856)
                (some false)).bind fun (s7829 : Bool) =>
              cond s7829
              ((addO s7797 1).bind fun a7863 =>
                some (.inl a7863))
              (some (.inr s7797))) s6786.2.2.2).bind fun (s7671 : Int) =>
          (some (decide (s7671 = ((s6786.1.length : Nat) : Int)))).bind fun a7867 =>
          cond a7867
          (some (s6786.1, s6786.2.1, s6786.2.2.2))
          ((F_impl_reduction_1 (0, s6786.2.2.2, s7671, 0) p_ s6786.1 s6786.2.1).bind fun y7870 =>
            (idxO y7870.1 s6786.2.2.2).bind fun a7879 =>
            (idxO a7879 s6786.2.2.1).bind fun a7888 =>
            (F_impl_reduction_1 (1, s6786.2.2.2, 0, a7888) p_ y7870.1 y7870.2).bind fun y7890 =>
            (forS (fun (k7893 : Nat) (s8050 : List (List Int) × List (List Int)) =>
                ((some (!decide (((k7893 : Nat) : Int) = s6786.2.2.2))).bind fun a8088 =>
                  cond a8088
                  ((idxO s8050.1 ((k7893 : Nat) : Int)).bind fun a8098 =>
                    (idxO a8098 s6786.2.2.1).bind fun a8107 =>
                    (some (!decide (a8107 = 0))).bind fun a8109 =>
                    some a8109)
                  (some false)).bind fun (s8082 : Bool) =>
                cond s8082
                ((idxO s8050.1 ((k7893 : Nat) : Int)).bind fun a8121 =>
                  (idxO a8121 s6786.2.2.1).bind fun a8130 =>
                  (F_impl_reduction_1 (2, ((k7893 : Nat) : Int), s6786.2.2.2, a8130) p_ s8050.1 s8050.2).bind fun y8132 =>
                  some (y8132.1, y8132.2))
                (some (s8050.1, s8050.2))) y7890.1.length 0 (y7890.1, y7890.2)).bind fun (s8137 : List (List Int) × List (List Int)) =>
            (addO s6786.2.2.2 1).bind fun a8139 =>
            some (s8137.1, s8137.2, a8139))).bind fun (s7477 : List (List Int) × List (List Int) × Int) =>
        (addO s6786.2.2.1 1).bind fun a8144 =>
        some (.inl (s7477.1, s7477.2.1, a8144, s7477.2.2)))
      (some (.inr (s6786.1, s6786.2.1, s6786.2.2.2)))) (rows_, also_, 0, 0)).bind fun (s4076 : List (List Int) × List (List Int) × Int) =>
  some (s4076.1, s4076.2.1, s4076.2.2)

noncomputable def F_impl_reduced (p_ : Int) (rows_ : List (List Int)) (n_ : Int) : Option (List (List Int)) :=
  (F_impl_clones rows_).bind fun y2 =>
  (makeO ((y2.length : Nat) : Int) ([] : List Int)).bind fun a7 =>
  (F_impl_reduction p_ y2 n_ a7).bind fun y12 =>
  (sliceO y12.1 0 y12.2.2).bind fun a15 =>
  some a15

noncomputable def F_impl_zeros (n_ : Int) : Option (List Int) :=
  (makeO n_ (0 : Int)).bind fun a1 =>
  some a1

noncomputable def F_impl_combine (p_ : Int) (x_ : List Int) (rows_ : List (List Int)) (n_ : Int) : Option (List Int) :=
  (F_impl_zeros n_).bind fun y3 =>
  (forS (fun (k8 : Nat) (s55 : List Int) =>
      (idxO rows_ ((k8 : Nat) : Int)).bind fun a70 =>
      (idxO x_ ((k8 : Nat) : Int)).bind fun a80 =>
      (F_impl_addTimes p_ s55 a80 a70).bind fun y82 =>
      some y82) rows_.length 0 y3).bind fun (s87 : List Int) =>
  some s87

noncomputable def F_impl_product (p_ : Int) (rows_ : List (List Int)) (m_ : List (List Int)) (n_ : Int) : Option (List (List Int)) :=
  (forS (fun (k6 : Nat) (s58 : List (List Int)) =>
      (idxO rows_ ((k6 : Nat) : Int)).bind fun a74 =>
      (F_impl_combine p_ a74 m_ n_).bind fun y78 =>
      (appO s58 [y78]).bind fun a86 =>
      some a86) rows_.length 0 ([] : List (List Int))).bind fun (s93 : List (List Int)) =>
  some s93

noncomputable def F_impl_StateSpace_reachable (s_ : Int × Int × Int × List (List Int) × List (List Int) × List (List Int) × List (List Int)) (p_ : Int) : Option (List (List Int)) :=
  (F_impl_reduced p_ s_.2.2.2.2.1 s_.1).bind fun y8 =>
  (cI s_.1).bind fun _ =>
  (forS (fun (k13 : Nat) (s61 : List (List Int)) =>
      (F_impl_clones s61).bind fun y74 =>
      (F_impl_product p_ s61 s_.2.2.2.1 s_.1).bind fun y79 =>
      (appO y74 y79).bind fun a84 =>
      (F_impl_reduced p_ a84 s_.1).bind fun y89 =>
      some y89) s_.1.toNat 0 y8).bind fun (s96 : List (List Int)) =>
  some s96

noncomputable def F_impl_lead (v_ : List Int) : Option Int :=
  seqO (forO (fun (k2 : Nat) (_ : Unit) =>
      (idxO v_ ((k2 : Nat) : Int)).bind fun a32 =>
      (some (!decide (a32 = 0))).bind fun a34 =>
      cond a34
      (some (.inr ((k2 : Nat) : Int)))
      (some (.inl ()))) v_.length 0 ()) fun (_ : Unit) =>
  some ((v_.length : Nat) : Int)

noncomputable def F_impl_isZero (v_ : List Int) : Option Bool :=
  (F_impl_lead v_).bind fun y2 =>
  (some (decide (y2 = ((v_.length : Nat) : Int)))).bind fun a5 =>
  some a5

noncomputable def F_impl_coordinates (p_ : Int) (basis_ : List (List Int)) (v_ : List Int) : Option (List Int × Bool) :=
  (F_impl_clone v_).bind fun y3 =>
  (forS (fun (k11 : Nat) (s85 : List Int × List Int) =>
      (idxO basis_ ((k11 : Nat) : Int)).bind fun a101 =>
      (F_impl_lead a101).bind fun y105 =>
      (idxO s85.1 y105).bind fun a114 =>
      (appO s85.2 [a114]).bind fun a119 =>
      (negO a114).bind fun a124 =>
      (F_impl_addTimes p_ s85.1 a124 a101).bind fun y126 =>
      some (y126, a119)) basis_.length 0 (y3, ([] : List Int))).bind fun (s131 : List Int × List Int) =>
  (F_impl_isZero s131.1).bind fun y134 =>
  some (s131.2, y134)

noncomputable def F_impl_allCoordinates (p_ : Int) (basis_ : List (List Int)) (rows_ : List (List Int)) : Option (List (List Int)) :=
  (forS (fun (k6 : Nat) (s58 : List (List Int)) =>
      (idxO rows_ ((k6 : Nat) : Int)).bind fun a74 =>
      (F_impl_coordinates p_ basis_ a74).bind fun y78 =>
      (appO s58 [y78.1]).bind fun a86 =>
      some a86) rows_.length 0 ([] : List (List Int))).bind fun (s93 : List (List Int)) =>
  some s93

noncomputable def F_impl_StateSpace_withoutUnreachable (s_ : Int × Int × Int × List (List Int) × List (List Int) × List (List Int) × List (List Int)) (p_ : Int) : Option (Int × Int × Int × List (List Int) × List (List Int) × List (List Int) × List (List Int)) :=
  (F_impl_StateSpace_reachable (s_.1, s_.2.1, s_.2.2.1, s_.2.2.2.1, s_.2.2.2.2.1, s_.2.2.2.2.2.1, s_.2.2.2.2.2.2) p_).bind fun y11 =>
  ((F_impl_clones s_.2.2.2.2.2.2).bind fun y63 =>
    some (((y11.length : Nat) : Int), s_.2.1, s_.2.2.1, y63)).bind fun (s45 : Int × Int × Int × List (List Int)) =>
  (F_impl_product p_ y11 s_.2.2.2.1 s_.1).bind fun y84 =>
  (F_impl_allCoordinates p_ y11 y84).bind fun y89 =>
  (F_impl_allCoordinates p_ y11 s_.2.2.2.2.1).bind fun y95 =>
  (F_impl_product p_ y11 s_.2.2.2.2.2.1 s_.2.2.1).bind fun y101 =>
  some (s45.1, s45.2.1, s45.2.2.1, y89, y95, y101, s45.2.2.2)

noncomputable def F_impl_unit (n_ : Int) (at_ : Int) : Option (List Int) :=
  (F_impl_zeros n_).bind fun y1 =>
  (setO y1 at_ 1).bind fun a12 =>
  some a12

noncomputable def F_impl_identityRows (n_ : Int) : Option (List (List Int)) :=
  (cI n_).bind fun _ =>
  (forS (fun (k4 : Nat) (s36 : List (List Int)) =>
      (F_impl_unit n_ ((k4 : Nat) : Int)).bind fun y48 =>
      (appO s36 [y48]).bind fun a56 =>
      some a56) n_.toNat 0 ([] : List (List Int))).bind fun (s63 : List (List Int)) =>
  some s63

noncomputable def F_impl_kernel (p_ : Int) (rows_ : List (List Int)) (n_ : Int) : Option (List (List Int)) :=
  (F_impl_clones rows_).bind fun y2 =>
  (F_impl_identityRows ((rows_.length : Nat) : Int)).bind fun y7 =>
  (F_impl_reduction p_ y2 n_ y7).bind fun y12 =>
  (sliceO y12.2.1 y12.2.2 ((y12.2.1.length : Nat) : Int)).bind fun a15 =>
  (F_impl_reduced p_ a15 ((rows_.length : Nat) : Int)).bind fun y19 =>
  some y19

noncomputable def F_impl_StateSpace_hidden (s_ : Int × Int × Int × List (List Int) × List (List Int) × List (List Int) × List (List Int)) (p_ : Int) : Option (List (List Int)) :=
  (makeO s_.1 ([] : List Int)).bind fun a8 =>
  (F_impl_clones s_.2.2.2.2.2.1).bind fun y13 =>
  (cI s_.1).bind fun _ =>
  (forS (fun (k18 : Nat) (s447 : List (List Int) × List (List Int)) =>
      (forS (fun (k459 : Nat) (s534 : List (List Int)) =>
          (idxO s534 ((k459 : Nat) : Int)).bind fun a550 =>
          (idxO s447.2 ((k459 : Nat) : Int)).bind fun a559 =>
          (appO a550 a559).bind fun a564 =>
          (setO s534 ((k459 : Nat) : Int) a564).bind fun a576 =>
          some a576) s447.1.length 0 s447.1).bind fun (s580 : List (List Int)) =>
      (F_impl_product p_ s_.2.2.2.1 s447.2 s_.2.2.1).bind fun y582 =>
      some (s580, y582)) s_.1.toNat 0 (a8, y13)).bind fun (s589 : List (List Int) × List (List Int)) =>
  (mulO s_.1 s_.2.2.1).bind fun a592 =>
  (F_impl_kernel p_ s589.1 a592).bind fun y594 =>
  some y594

noncomputable def F_impl_unmarked (marks_ : List Bool) : Option (List Int) :=
  (forS (fun (k5 : Nat) (s51 : List Int) =>
      (idxO marks_ ((k5 : Nat) : Int)).bind fun a67 =>
      (some (!a67)).bind fun a69 =>
      cond a69
      ((appO s51 [((k5 : Nat) : Int)]).bind fun a76 =>
        some a76)
      (some s51)) marks_.length 0 ([] : List Int)).bind fun (s83 : List Int) =>
  some s83

noncomputable def F_impl_chosen (v_ : List Int) (at_ : List Int) : Option (List Int) :=
  (makeCO 0 ((at_.length : Nat) : Int) (0 : Int)).bind fun a3 =>
  (forS (fun (k8 : Nat) (s62 : List Int) =>
      (idxO at_ ((k8 : Nat) : Int)).bind fun a78 =>
      (idxO v_ a78).bind fun a86 =>
      (appO s62 [a86]).bind fun a91 =>
      some a91) at_.length 0 a3).bind fun (s98 : List Int) =>
  some s98

noncomputable def F_impl_StateSpace_withoutHidden_1 (rows_ : List (List Int)) (c0_ : List (List Int)) (c1_ : Int) (c2_ : List Int) : Option (List (List Int)) :=
  (forS (fun (k10 : Nat) (s270 : List (List Int)) =>
      (idxO rows_ ((k10 : Nat) : Int)).bind fun a286 =>
      (F_impl_clone a286).bind fun y290 =>
      (forS (fun (k295 : Nat) (s354 : List Int) =>
          (idxO c0_ ((k295 : Nat) : Int)).bind fun a369 =>
          (F_impl_lead a369).bind fun y374 =>
          (idxO s354 y374).bind fun a383 =>
          (negO a383).bind fun a385 =>
          (F_impl_addTimes c1_ s354 a385 a369).bind fun y387 =>
          some y387) c0_.length 0 y290).bind fun (s392 : List Int) =>
      (F_impl_chosen s392 c2_).bind fun y394 =>
      (appO s270 [y394]).bind fun a402 =>
      some a402) rows_.length 0 ([] : List (List Int))).bind fun (s409 : List (List Int)) =>
  some s409

noncomputable def F_impl_StateSpace_withoutHidden (s_ : Int × Int × Int × List (List Int) × List (List Int) × List (List Int) × List (List Int)) (p_ : Int) : Option (Int × Int × Int × List (List Int) × List (List Int) × List (List Int) × List (List Int)) :=
  (F_impl_StateSpace_hidden (s_.1, s_.2.1, s_.2.2.1, s_.2.2.2.1, s_.2.2.2.2.1, s_.2.2.2.2.2.1, s_.2.2.2.2.2.2) p_).bind fun y14 =>
  (makeO s_.1 (false : Bool)).bind fun a23 =>
  (forS (fun (k28 : Nat) (s101 : List Bool) =>
      (idxO y14 ((k28 : Nat) : Int)).bind fun a116 =>
      (F_impl_lead a116).bind fun y120 =>
      (setO s101 y120 true).bind fun a129 =>
      some a129) y14.length 0 a23).bind fun (s134 : List Bool) =>
  (F_impl_unmarked s134).bind fun y136 =>
  ((F_impl_clones s_.2.2.2.2.2.2).bind fun y192 =>
    some (((y136.length : Nat) : Int), s_.2.1, s_.2.2.1, y192)).bind fun (s174 : Int × Int × Int × List (List Int)) =>
  (forS (fun (k213 : Nat) (s328 : List (List Int) × List (List Int)) =>
      (idxO y136 ((k213 : Nat) : Int)).bind fun a347 =>
      (idxO s_.2.2.2.1 a347).bind fun a356 =>
      (appO s328.1 [a356]).bind fun a363 =>
      (idxO s_.2.2.2.2.2.1 a347).bind fun a376 =>
      (F_impl_clone a376).bind fun y380 =>
      (appO s328.2 [y380]).bind fun a388 =>
      some (a363, a388)) y136.length 0 ([], [])).bind fun (s396 : List (List Int) × List (List Int)) =>
  (F_impl_StateSpace_withoutHidden_1 s396.1 y14 p_ y136).bind fun y401 =>
  (F_impl_StateSpace_withoutHidden_1 s_.2.2.2.2.1 y14 p_ y136).bind fun y406 =>
  some (s174.1, s174.2.1, s174.2.2.1, y401, y406, s396.2, s174.2.2.2)

noncomputable def F_impl_StateSpace_minimized (s_ : Int × Int × Int × List (List Int) × List (List Int) × List (List Int) × List (List Int)) (p_ : Int) : Option (Int × Int × Int × List (List Int) × List (List Int) × List (List Int) × List (List Int)) :=
  (F_impl_StateSpace_withoutUnreachable (s_.1, s_.2.1, s_.2.2.1, s_.2.2.2.1, s_.2.2.2.2.1, s_.2.2.2.2.2.1, s_.2.2.2.2.2.2) p_).bind fun y11 =>
  (F_impl_StateSpace_withoutHidden (y11.1, y11.2.1, y11.2.2.1, y11.2.2.2.1, y11.2.2.2.2.1, y11.2.2.2.2.2.1, y11.2.2.2.2.2.2) p_).bind fun y22 =>
  some (y22.1, y22.2.1, y22.2.2.1, y22.2.2.2.1, y22.2.2.2.2.1, y22.2.2.2.2.2.1, y22.2.2.2.2.2.2)

noncomputable def F_impl_MinimizeSpace (p_ : Int) (s_ : Int × Int × Int × List (List Int) × List (List Int) × List (List Int) × List (List Int)) : Option ((Int × Int × Int × List (List Int) × List (List Int) × List (List Int) × List (List Int)) × Bool) :=
  (F_impl_isStateSpace p_ (s_.1, s_.2.1, s_.2.2.1, s_.2.2.2.1, s_.2.2.2.2.1, s_.2.2.2.2.2.1, s_.2.2.2.2.2.2)).bind fun y12 =>
  (some (!y12)).bind fun a15 =>
  cond a15
  (some ((0, 0, 0, [], [], [], []), false))
  ((F_impl_StateSpace_minimized (s_.1, s_.2.1, s_.2.2.1, s_.2.2.2.1, s_.2.2.2.2.1, s_.2.2.2.2.2.1, s_.2.2.2.2.2.2) p_).bind fun y18 =>
    some ((y18.1, y18.2.1, y18.2.2.1, y18.2.2.2.1, y18.2.2.2.2.1, y18.2.2.2.2.2.1, y18.2.2.2.2.2.2), true))

noncomputable def F_laws_eqIntS (a_ : List Int) (b_ : List Int) : Option Bool :=
  (some (!decide (((a_.length : Nat) : Int) = ((b_.length : Nat) : Int)))).bind fun a3 =>
  cond a3
  (some false)
  (seqO (whileO (fun (s166 : Int) =>
        (some (decide (s166 < ((a_.length : Nat) : Int)))).bind fun a175 =>
        cond a175
        ((idxO a_ s166).bind fun a187 =>
          (idxO b_ s166).bind fun a195 =>
          (some (!decide (a187 = a195))).bind fun a197 =>
          cond a197
          (some (.inr (.inr false)))
          ((addO s166 1).bind fun a200 =>
            some (.inl a200)))
        (some (.inr (.inl ())))) 0) fun (s102 : Unit) =>
    some true)

noncomputable def F_laws_eqIntSS (a_ : List (List Int)) (b_ : List (List Int)) : Option Bool :=
  (some (!decide (((a_.length : Nat) : Int) = ((b_.length : Nat) : Int)))).bind fun a3 =>
  cond a3
  (some false)
  (seqO (whileO (fun (s201 : Int) =>
        (some (decide (s201 < ((a_.length : Nat) : Int)))).bind fun a210 =>
        cond a210
        ((idxO a_ s201).bind fun a222 =>
          (idxO b_ s201).bind fun a232 =>
          (F_laws_eqIntS a222 a232).bind fun y236 =>
          (some (!y236)).bind fun a239 =>
          cond a239
          (some (.inr (.inr false)))
          ((addO s201 1).bind fun a242 =>
            some (.inl a242)))
        (some (.inr (.inl ())))) 0) fun (s123 : Unit) =>
    some true)

noncomputable def F_laws_eqStateSpace (a_ : Int × Int × Int × List (List Int) × List (List Int) × List (List Int) × List (List Int)) (b_ : Int × Int × Int × List (List Int) × List (List Int) × List (List Int) × List (List Int)) : Option Bool :=
  (some (!decide (a_.1 = b_.1))).bind fun a15 =>
  cond a15
  (some false)
  ((some (!decide (a_.2.1 = b_.2.1))).bind fun a18 =>
    cond a18
    (some false)
    ((some (!decide (a_.2.2.1 = b_.2.2.1))).bind fun a21 =>
      cond a21
      (some false)
      ((F_laws_eqIntSS a_.2.2.2.1 b_.2.2.2.1).bind fun y24 =>
        (some (!y24)).bind fun a27 =>
        cond a27
        (some false)
        ((F_laws_eqIntSS a_.2.2.2.2.1 b_.2.2.2.2.1).bind fun y30 =>
          (some (!y30)).bind fun a33 =>
          cond a33
          (some false)
          ((F_laws_eqIntSS a_.2.2.2.2.2.1 b_.2.2.2.2.2.1).bind fun y36 =>
            (some (!y36)).bind fun a39 =>
            cond a39
            (some false)
            ((F_laws_eqIntSS a_.2.2.2.2.2.2 b_.2.2.2.2.2.2).bind fun y42 =>
              (some (!y42)).bind fun a45 =>
              cond a45
              (some false)
              (some true)))))))

noncomputable def F_laws_markIntS (a_ : List Int) (k_ : Int) : Option (List Int × Int) :=
  (whileO (fun (s111 : List Int × Int × Int) =>
      (some (decide (s111.2.2 < ((s111.1.length : Nat) : Int)))).bind fun a120 =>
      cond a120
      ((setO s111.1 s111.2.2 s111.2.1).bind fun a131 =>
        (addO s111.2.1 1).bind fun a134 =>
        (addO s111.2.2 1).bind fun a136 =>
        some (.inl (a131, a134, a136)))
      (some (.inr (s111.1, s111.2.1)))) (a_, k_, 0)).bind fun (s67 : List Int × Int) =>
  some (s67.1, s67.2)

noncomputable def F_laws_markIntSS (a_ : List (List Int)) (k_ : Int) : Option (List (List Int) × Int) :=
  (whileO (fun (s131 : List (List Int) × Int × Int) =>
      (some (decide (s131.2.2 < ((s131.1.length : Nat) : Int)))).bind fun a140 =>
      cond a140
      ((idxO s131.1 s131.2.2).bind fun a151 =>
        (F_laws_markIntS a151 s131.2.1).bind fun y154 =>
        (setO s131.1 s131.2.2 y154.1).bind fun a158 =>
        (addO s131.2.2 1).bind fun a160 =>
        some (.inl (a158, y154.2, a160)))
      (some (.inr (s131.1, s131.2.1)))) (a_, k_, 0)).bind fun (s79 : List (List Int) × Int) =>
  some (s79.1, s79.2)

noncomputable def F_laws_markStateSpace (a_ : Int × Int × Int × List (List Int) × List (List Int) × List (List Int) × List (List Int)) (k_ : Int) : Option ((Int × Int × Int × List (List Int) × List (List Int) × List (List Int) × List (List Int)) × Int) :=
  (F_laws_markIntSS a_.2.2.2.1 k_).bind fun y8 =>
  (F_laws_markIntSS a_.2.2.2.2.1 y8.2).bind fun y11 =>
  (F_laws_markIntSS a_.2.2.2.2.2.1 y11.2).bind fun y14 =>
  (F_laws_markIntSS a_.2.2.2.2.2.2 y14.2).bind fun y17 =>
  some ((a_.1, a_.2.1, a_.2.2.1, y8.1, y11.1, y14.1, y17.1), y17.2)

noncomputable def F_laws_heldIntS (a_ : List Int) (k_ : Int) : Option Int :=
  seqO (whileO (fun (s127 : Int × Int) =>
      (some (decide (s127.2 < ((a_.length : Nat) : Int)))).bind fun a136 =>
      cond a136
      ((idxO a_ s127.2).bind fun a147 =>
        (some (!decide (a147 = s127.1))).bind fun a149 =>
        cond a149
        (some (.inr (.inr (-1))))
        ((addO s127.1 1).bind fun a152 =>
          (addO s127.2 1).bind fun a154 =>
          some (.inl (a152, a154))))
      (some (.inr (.inl s127.1)))) (k_, 0)) fun (s77 : Int) =>
  some s77

noncomputable def F_laws_heldIntSS (a_ : List (List Int)) (k_ : Int) : Option Int :=
  seqO (whileO (fun (s142 : Int × Int) =>
      (some (decide (s142.2 < ((a_.length : Nat) : Int)))).bind fun a151 =>
      cond a151
      ((idxO a_ s142.2).bind fun a162 =>
        (F_laws_heldIntS a162 s142.1).bind fun y166 =>
        (some (decide (y166 < 0))).bind fun a169 =>
        cond a169
        (some (.inr (.inr (-1))))
        ((addO s142.2 1).bind fun a172 =>
          some (.inl (y166, a172))))
      (some (.inr (.inl s142.1)))) (k_, 0)) fun (s86 : Int) =>
  some s86

noncomputable def F_laws_heldStateSpace (a_ : Int × Int × Int × List (List Int) × List (List Int) × List (List Int) × List (List Int)) (k_ : Int) : Option Int :=
  (F_laws_heldIntSS a_.2.2.2.1 k_).bind fun y8 =>
  (some (decide (y8 < 0))).bind fun a11 =>
  cond a11
  (some (-1))
  ((F_laws_heldIntSS a_.2.2.2.2.1 y8).bind fun y14 =>
    (some (decide (y14 < 0))).bind fun a17 =>
    cond a17
    (some (-1))
    ((F_laws_heldIntSS a_.2.2.2.2.2.1 y14).bind fun y20 =>
      (some (decide (y20 < 0))).bind fun a23 =>
      cond a23
      (some (-1))
      ((F_laws_heldIntSS a_.2.2.2.2.2.2 y20).bind fun y26 =>
        (some (decide (y26 < 0))).bind fun a29 =>
        cond a29
        (some (-1))
        (some y26))))

noncomputable def F_laws_FnExactMinimizeSpace (aP_ : Int) (aS_ : Int × Int × Int × List (List Int) × List (List Int) × List (List Int) × List (List Int)) : Option Bool :=
  (F_laws_szStateSpace (aS_.1, aS_.2.1, aS_.2.2.1, aS_.2.2.2.1, aS_.2.2.2.2.1, aS_.2.2.2.2.2.1, aS_.2.2.2.2.2.2) 1048576).bind fun y9 =>
  (some (decide (y9 < 0))).bind fun a12 =>
  cond a12
  (some true)
  ((F_laws_toStateSpace (aS_.1, aS_.2.1, aS_.2.2.1, aS_.2.2.2.1, aS_.2.2.2.2.1, aS_.2.2.2.2.2.1, aS_.2.2.2.2.2.2)).bind fun y15 =>
    (F_spec_MinimizeSpace aP_ (y15.1, y15.2.1, y15.2.2.1, y15.2.2.2.1, y15.2.2.2.2.1, y15.2.2.2.2.2.1, y15.2.2.2.2.2.2)).bind fun y26 =>
    (F_laws_toStateSpace (aS_.1, aS_.2.1, aS_.2.2.1, aS_.2.2.2.1, aS_.2.2.2.2.1, aS_.2.2.2.2.2.1, aS_.2.2.2.2.2.2)).bind fun y41 =>
    (F_impl_MinimizeSpace aP_ (y41.1, y41.2.1, y41.2.2.1, y41.2.2.2.1, y41.2.2.2.2.1, y41.2.2.2.2.2.1, y41.2.2.2.2.2.2)).bind fun y56 =>
    ((F_laws_eqStateSpace (y56.1.1, y56.1.2.1, y56.1.2.2.1, y56.1.2.2.2.1, y56.1.2.2.2.2.1, y56.1.2.2.2.2.2.1, y56.1.2.2.2.2.2.2) (y26.1.1, y26.1.2.1, y26.1.2.2.1, y26.1.2.2.2.1, y26.1.2.2.2.2.1, y26.1.2.2.2.2.2.1, y26.1.2.2.2.2.2.2)).bind fun y86 =>
      (some (!y86)).bind fun a89 =>
      cond a89
      (some true)
      ((some (!decide (y56.2 = y26.2))).bind fun a92 =>
        some a92)).bind fun (s80 : Bool) =>
    cond s80
    (some false)
    ((F_laws_toStateSpace (aS_.1, aS_.2.1, aS_.2.2.1, aS_.2.2.2.1, aS_.2.2.2.2.1, aS_.2.2.2.2.2.1, aS_.2.2.2.2.2.2)).bind fun y99 =>
      (F_laws_eqStateSpace (y41.1, y41.2.1, y41.2.2.1, y41.2.2.2.1, y41.2.2.2.2.1, y41.2.2.2.2.2.1, y41.2.2.2.2.2.2) (y99.1, y99.2.1, y99.2.2.1, y99.2.2.2.1, y99.2.2.2.2.1, y99.2.2.2.2.2.1, y99.2.2.2.2.2.2)).bind fun y110 =>
      (some (!y110)).bind fun a113 =>
      cond a113
      (some false)
      ((F_laws_markStateSpace (y41.1, y41.2.1, y41.2.2.1, y41.2.2.2.1, y41.2.2.2.2.1, y41.2.2.2.2.2.1, y41.2.2.2.2.2.2) 1).bind fun y116 =>
        ((some (decide (y116.2 < 0))).bind fun a138 =>
          cond a138
          (some true)
          ((F_laws_eqStateSpace (y56.1.1, y56.1.2.1, y56.1.2.2.1, y56.1.2.2.2.1, y56.1.2.2.2.2.1, y56.1.2.2.2.2.2.1, y56.1.2.2.2.2.2.2) (y26.1.1, y26.1.2.1, y26.1.2.2.1, y26.1.2.2.2.1, y26.1.2.2.2.2.1, y26.1.2.2.2.2.2.1, y26.1.2.2.2.2.2.2)).bind fun y141 =>
            (some (!y141)).bind fun a144 =>
            cond a144
            (some true)
            ((some (!decide (y56.2 = y26.2))).bind fun a147 =>
              some a147))).bind fun (s132 : Bool) =>
        cond s132
        (some false)
        ((F_laws_markStateSpace (y56.1.1, y56.1.2.1, y56.1.2.2.1, y56.1.2.2.2.1, y56.1.2.2.2.2.1, y56.1.2.2.2.2.2.1, y56.1.2.2.2.2.2.2) 1).bind fun y154 =>
          (F_laws_heldStateSpace (y56.1.1, y56.1.2.1, y56.1.2.2.1, y154.1.2.2.2.1, y154.1.2.2.2.2.1, y154.1.2.2.2.2.2.1, y154.1.2.2.2.2.2.2) 1).bind fun y157 =>
          (some (decide (y157 < 0))).bind fun a160 =>
          cond a160
          (some false)
          ((some (!decide (y157 = y154.2))).bind fun a163 =>
            cond a163
            (some false)
            ((F_laws_toStateSpace (aS_.1, aS_.2.1, aS_.2.2.1, aS_.2.2.2.1, aS_.2.2.2.2.1, aS_.2.2.2.2.2.1, aS_.2.2.2.2.2.2)).bind fun y166 =>
              (F_impl_MinimizeSpace aP_ (y166.1, y166.2.1, y166.2.2.1, y166.2.2.2.1, y166.2.2.2.2.1, y166.2.2.2.2.2.1, y166.2.2.2.2.2.2)).bind fun y177 =>
              ((F_laws_eqStateSpace (y177.1.1, y177.1.2.1, y177.1.2.2.1, y177.1.2.2.2.1, y177.1.2.2.2.2.1, y177.1.2.2.2.2.2.1, y177.1.2.2.2.2.2.2) (y26.1.1, y26.1.2.1, y26.1.2.2.1, y26.1.2.2.2.1, y26.1.2.2.2.2.1, y26.1.2.2.2.2.2.1, y26.1.2.2.2.2.2.2)).bind fun y207 =>
                (some (!y207)).bind fun a210 =>
                cond a210
                (some true)
                ((some (!decide (y177.2 = y26.2))).bind fun a213 =>
                  some a213)).bind fun (s201 : Bool) =>
              cond s201
              (some false)
              ((F_laws_heldStateSpace (y56.1.1, y56.1.2.1, y56.1.2.2.1, y154.1.2.2.2.1, y154.1.2.2.2.2.1, y154.1.2.2.2.2.2.1, y154.1.2.2.2.2.2.2) 1).bind fun y219 =>
                (some (decide (y219 < 0))).bind fun a222 =>
                cond a222
                (some false)
                ((some (!decide (y219 = y154.2))).bind fun a225 =>
                  cond a225
                  (some false)
                  (some true)))))))))
end Go.Proofs.YteikcdofblclhaaDoor
