/-
  Partial functions, printed by a program (wip/y/gen.py): what each function of Go computes, over plain data. No program in sight. No condition.
-/
import Derived.Test.YteikcdofblclhaaDoorZF
namespace Go.Proofs.YteikcdofblclhaaDoor
set_option linter.unusedVariables false

noncomputable def F_laws_szIntS (a_ : List Int) (left_ : Int) : Option Int :=
  (subO left_ ((a_.length : Nat) : Int)).bind fun a2 =>
  (some (decide (a2 < 0))).bind fun a4 =>
  cond a4
  (some (-1))
  (some a2)

noncomputable def F_laws_szIntSS (a_ : List (List Int)) (left_ : Int) : Option Int :=
  (subO left_ ((a_.length : Nat) : Int)).bind fun a2 =>
  (some (decide (a2 < 0))).bind fun a4 =>
  cond a4
  (some (-1))
  (seqO (whileO (fun (s147 : Int × Int) =>
        (some (decide (s147.2 < ((a_.length : Nat) : Int)))).bind fun a156 =>
        cond a156
        ((idxO a_ s147.2).bind fun a167 =>
          (F_laws_szIntS a167 s147.1).bind fun y171 =>
          (some (decide (y171 < 0))).bind fun a174 =>
          cond a174
          (some (.inr (.inr (-1))))
          ((addO s147.2 1).bind fun a177 =>
            some (.inl (y171, a177))))
        (some (.inr (.inl s147.1)))) (a2, 0)) fun (s91 : Int) =>
    some s91)

noncomputable def F_laws_szStateSpace (a_ : Int × Int × Int × List (List Int) × List (List Int) × List (List Int) × List (List Int)) (left_ : Int) : Option Int :=
  (F_laws_szIntSS a_.2.2.2.1 left_).bind fun y8 =>
  (some (decide (y8 < 0))).bind fun a11 =>
  cond a11
  (some (-1))
  ((F_laws_szIntSS a_.2.2.2.2.1 y8).bind fun y14 =>
    (some (decide (y14 < 0))).bind fun a17 =>
    cond a17
    (some (-1))
    ((F_laws_szIntSS a_.2.2.2.2.2.1 y14).bind fun y20 =>
      (some (decide (y20 < 0))).bind fun a23 =>
      cond a23
      (some (-1))
      ((F_laws_szIntSS a_.2.2.2.2.2.2 y20).bind fun y26 =>
        (some (decide (y26 < 0))).bind fun a29 =>
        cond a29
        (some (-1))
        (some y26))))

noncomputable def F_laws_szMatrix (a_ : Int × List (List Int)) (left_ : Int) : Option Int :=
  (F_laws_szIntSS a_.2 left_).bind fun y5 =>
  (some (decide (y5 < 0))).bind fun a8 =>
  cond a8
  (some (-1))
  (some y5)

noncomputable def F_laws_szMatrixS (a_ : List (Int × List (List Int))) (left_ : Int) : Option Int :=
  (subO left_ ((a_.length : Nat) : Int)).bind fun a2 =>
  (some (decide (a2 < 0))).bind fun a4 =>
  cond a4
  (some (-1))
  (seqO (whileO (fun (s157 : Int × Int) =>
        (some (decide (s157.2 < ((a_.length : Nat) : Int)))).bind fun a166 =>
        cond a166
        ((idxO a_ s157.2).bind fun a177 =>
          (F_laws_szMatrix (a177.1, a177.2) s157.1).bind fun y183 =>
          (some (decide (y183 < 0))).bind fun a186 =>
          cond a186
          (some (.inr (.inr (-1))))
          ((addO s157.2 1).bind fun a189 =>
            some (.inl (y183, a189))))
        (some (.inr (.inl s157.1)))) (a2, 0)) fun (s97 : Int) =>
    some s97)

noncomputable def F_laws_toIntS (a_ : List Int) : Option (List Int) :=
  (makeO ((a_.length : Nat) : Int) (0 : Int)).bind fun a2 =>
  (whileO (fun (s146 : List Int × Int) =>
      (some (decide (s146.2 < ((a_.length : Nat) : Int)))).bind fun a155 =>
      cond a155
      ((idxO a_ s146.2).bind fun a166 =>
        (setO s146.1 s146.2 a166).bind fun a174 =>
        (addO s146.2 1).bind fun a177 =>
        some (.inl (a174, a177)))
      (some (.inr s146.1))) (a2, 0)).bind fun (s90 : List Int) =>
  some s90

noncomputable def F_laws_toIntSS (a_ : List (List Int)) : Option (List (List Int)) :=
  (makeO ((a_.length : Nat) : Int) ([] : List Int)).bind fun a2 =>
  (whileO (fun (s181 : List (List Int) × Int) =>
      (some (decide (s181.2 < ((a_.length : Nat) : Int)))).bind fun a190 =>
      cond a190
      ((idxO a_ s181.2).bind fun a201 =>
        (F_laws_toIntS a201).bind fun y205 =>
        (setO s181.1 s181.2 y205).bind fun a216 =>
        (addO s181.2 1).bind fun a219 =>
        some (.inl (a216, a219)))
      (some (.inr s181.1))) (a2, 0)).bind fun (s111 : List (List Int)) =>
  some s111

noncomputable def F_laws_toStateSpace (a_ : Int × Int × Int × List (List Int) × List (List Int) × List (List Int) × List (List Int)) : Option (Int × Int × Int × List (List Int) × List (List Int) × List (List Int) × List (List Int)) :=
  (F_laws_toIntSS a_.2.2.2.1).bind fun y17 =>
  (F_laws_toIntSS a_.2.2.2.2.1).bind fun y23 =>
  (F_laws_toIntSS a_.2.2.2.2.2.1).bind fun y29 =>
  (F_laws_toIntSS a_.2.2.2.2.2.2).bind fun y35 =>
  some (a_.1, a_.2.1, a_.2.2.1, y17, y23, y29, y35)

noncomputable def F_laws_toMatrix (a_ : Int × List (List Int)) : Option (Int × List (List Int)) :=
  (F_laws_toIntSS a_.2).bind fun y12 =>
  some (a_.1, y12)

noncomputable def F_laws_toMatrixS (a_ : List (Int × List (List Int))) : Option (List (Int × List (List Int))) :=
  (makeO ((a_.length : Nat) : Int) ((0, []) : Int × List (List Int))).bind fun a2 =>
  (whileO (fun (s201 : (List (Int × List (List Int))) × Int) =>
      (some (decide (s201.2 < ((a_.length : Nat) : Int)))).bind fun a210 =>
      cond a210
      ((idxO a_ s201.2).bind fun a221 =>
        (F_laws_toMatrix (a221.1, a221.2)).bind fun y227 =>
        (setO s201.1 s201.2 (y227.1, y227.2)).bind fun a240 =>
        (addO s201.2 1).bind fun a243 =>
        some (.inl (a240, a243)))
      (some (.inr s201.1))) (a2, 0)).bind fun (s123 : List (Int × List (List Int))) =>
  some s123

noncomputable def F_spec_l1In (n_ : Int) (lo_ : Int) (hi_ : Int) : Option Bool :=
  ((some (decide (lo_ ≤ n_))).bind fun a13 =>
    cond a13
    ((some (decide (n_ ≤ hi_))).bind fun a17 =>
      some a17)
    (some false)).bind fun (s7 : Bool) =>
  some s7

noncomputable def F_spec_fdGood (p_ : Int) : Option Bool :=
  (F_spec_l1In p_ 2 97).bind fun y1 =>
  (some (!y1)).bind fun a4 =>
  cond a4
  (some false)
  (seqO (whileO (fun (s102 : Int) =>
        (mulO s102 s102).bind fun a111 =>
        (some (decide (a111 ≤ p_))).bind fun a113 =>
        cond a113
        ((remO p_ s102).bind fun a118 =>
          (some (decide (a118 = 0))).bind fun a120 =>
          cond a120
          (some (.inr (.inr false)))
          ((addO s102 1).bind fun a123 =>
            some (.inl a123)))
        (some (.inr (.inl ())))) 2) fun (s64 : Unit) =>
    some true)

noncomputable def F_spec_l1All (l_ : List Int) (lo_ : Int) (hi_ : Int) : Option Bool :=
  seqO (forO (fun (k2 : Nat) (_ : Unit) =>
      (idxO l_ ((k2 : Nat) : Int)).bind fun a35 =>
      (F_spec_l1In a35 lo_ hi_).bind fun y37 =>
      (some (!y37)).bind fun a40 =>
      cond a40
      (some (.inr false))
      (some (.inl ()))) l_.length 0 ()) fun (_ : Unit) =>
  some true

noncomputable def F_spec_fdIn (p_ : Int) (l_ : List Int) : Option Bool :=
  (subO p_ 1).bind fun a2 =>
  (F_spec_l1All l_ 0 a2).bind fun y4 =>
  some y4

noncomputable def F_spec_spRows (p_ : Int) (size_ : Int) (rows_ : List (List Int)) : Option Bool :=
  seqO (forO (fun (k2 : Nat) (_ : Unit) =>
      (idxO rows_ ((k2 : Nat) : Int)).bind fun a58 =>
      ((some (!decide (((a58.length : Nat) : Int) = size_))).bind fun a77 =>
        cond a77
        (some true)
        ((F_spec_fdIn p_ a58).bind fun y80 =>
          (some (!y80)).bind fun a83 =>
          some a83)).bind fun (s71 : Bool) =>
      cond s71
      (some (.inr false))
      (some (.inl ()))) rows_.length 0 ()) fun (_ : Unit) =>
  some true

noncomputable def F_spec_ssTable (p_ : Int) (rows_ : Int) (cols_ : Int) (m_ : List (List Int)) : Option Bool :=
  ((some (decide (((m_.length : Nat) : Int) = rows_))).bind fun a15 =>
    cond a15
    ((F_spec_spRows p_ cols_ m_).bind fun y19 =>
      some y19)
    (some false)).bind fun (s9 : Bool) =>
  some s9

noncomputable def F_spec_ssGood (p_ : Int) (s_ : Int × Int × Int × List (List Int) × List (List Int) × List (List Int) × List (List Int)) : Option Bool :=
  ((F_spec_fdGood p_).bind fun y52 =>
    cond y52
    ((F_spec_l1In s_.1 0 24).bind fun y57 =>
      cond y57
      ((F_spec_l1In s_.2.1 0 8).bind fun y62 =>
        cond y62
        ((F_spec_l1In s_.2.2.1 0 8).bind fun y67 =>
          cond y67
          ((F_spec_ssTable p_ s_.1 s_.1 s_.2.2.2.1).bind fun y72 =>
            cond y72
            ((F_spec_ssTable p_ s_.2.1 s_.1 s_.2.2.2.2.1).bind fun y77 =>
              cond y77
              ((F_spec_ssTable p_ s_.1 s_.2.2.1 s_.2.2.2.2.2.1).bind fun y82 =>
                cond y82
                ((F_spec_ssTable p_ s_.2.1 s_.2.2.1 s_.2.2.2.2.2.2).bind fun y87 =>
                  some y87)
                (some false))
              (some false))
            (some false))
          (some false))
        (some false))
      (some false))
    (some false)).bind fun (s46 : Bool) =>
  some s46

noncomputable def F_spec_mxGood (p_ : Int) (m_ : Int × List (List Int)) : Option Bool :=
  ((F_spec_fdGood p_).bind fun y27 =>
    (some (!y27)).bind fun a30 =>
    cond a30
    (some true)
    ((F_spec_l1In m_.1 0 24).bind fun y33 =>
      (some (!y33)).bind fun a36 =>
      cond a36
      (some true)
      ((some (decide ((24 : Int) < ((m_.2.length : Nat) : Int)))).bind fun a39 =>
        some a39))).bind fun (s21 : Bool) =>
  cond s21
  (some false)
  (seqO (forO (fun (k46 : Nat) (_ : Unit) =>
        (idxO m_.2 ((k46 : Nat) : Int)).bind fun a102 =>
        ((some (!decide (((a102.length : Nat) : Int) = m_.1))).bind fun a121 =>
          cond a121
          (some true)
          ((F_spec_fdIn p_ a102).bind fun y124 =>
            (some (!y124)).bind fun a127 =>
            some a127)).bind fun (s115 : Bool) =>
        cond s115
        (some (.inr false))
        (some (.inl ()))) m_.2.length 0 ()) fun (_ : Unit) =>
    some true)

noncomputable def F_spec_rzResponse (p_ : Int) (m_ : List (Int × List (List Int))) : Option Bool :=
  ((F_spec_fdGood p_).bind fun y20 =>
    (some (!y20)).bind fun a23 =>
    cond a23
    (some true)
    ((F_spec_l1In ((m_.length : Nat) : Int) 1 60).bind fun y26 =>
      (some (!y26)).bind fun a29 =>
      some a29)).bind fun (s14 : Bool) =>
  cond s14
  (some false)
  (seqO (forO (fun (k35 : Nat) (_ : Unit) =>
        (idxO m_ ((k35 : Nat) : Int)).bind fun a155 =>
        ((F_spec_mxGood p_ (a155.1, a155.2)).bind fun y210 =>
          (some (!y210)).bind fun a213 =>
          cond a213
          (some true)
          ((idxO m_ 0).bind fun a222 =>
            (some (!decide (((a155.2.length : Nat) : Int) = ((a222.2.length : Nat) : Int)))).bind fun a228 =>
            cond a228
            (some true)
            ((idxO m_ 0).bind fun a237 =>
              (some (!decide (a155.1 = a237.1))).bind fun a243 =>
              some a243))).bind fun (s203 : Bool) =>
        cond s203
        (some (.inr false))
        (some (.inl ()))) m_.length 0 ()) fun (_ : Unit) =>
    ((idxO m_ 0).bind fun a298 =>
      (some (decide (((a298.2.length : Nat) : Int) ≤ 8))).bind fun a304 =>
      cond a304
      ((idxO m_ 0).bind fun a314 =>
        (some (decide (a314.1 ≤ 8))).bind fun a320 =>
        some a320)
      (some false)).bind fun (s286 : Bool) =>
    some s286)

noncomputable def F_spec_l1Own (l_ : List Int) : Option (List Int) :=
  (appO ([] : List Int) l_).bind fun a5 =>
  some a5

noncomputable def F_spec_ssCopy (m_ : List (List Int)) : Option (List (List Int)) :=
  (forS (fun (k2 : Nat) (s55 : List (List Int)) =>
      (idxO m_ ((k2 : Nat) : Int)).bind fun a72 =>
      (F_spec_l1Own a72).bind fun y76 =>
      (appO s55 [y76]).bind fun a84 =>
      some a84) m_.length 0 []).bind fun (s91 : List (List Int)) =>
  some s91

noncomputable def F_spec_spSum (p_ : Int) (size_ : Int) (rows_ : List (List Int)) (coefs_ : List Int) : Option (List Int) :=
  (makeO size_ (0 : Int)).bind fun a3 =>
  (forS (fun (k8 : Nat) (s309 : List Int) =>
      (idxO rows_ ((k8 : Nat) : Int)).bind fun a324 =>
      (forS (fun (k328 : Nat) (s413 : List Int) =>
          (idxO a324 ((k328 : Nat) : Int)).bind fun a428 =>
          (idxO s413 ((k328 : Nat) : Int)).bind fun a437 =>
          (idxO coefs_ ((k8 : Nat) : Int)).bind fun a445 =>
          (mulO a445 a428).bind fun a447 =>
          (addO a437 a447).bind fun a449 =>
          (remO a449 p_).bind fun a451 =>
          (setO s413 ((k328 : Nat) : Int) a451).bind fun a459 =>
          some a459) a324.length 0 s309).bind fun (s464 : List Int) =>
      some s464) rows_.length 0 a3).bind fun (s468 : List Int) =>
  some s468

noncomputable def F_spec_ssTimes (p_ : Int) (cols_ : Int) (rows_ : List (List Int)) (m_ : List (List Int)) : Option (List (List Int)) :=
  (forS (fun (k3 : Nat) (s56 : List (List Int)) =>
      (idxO rows_ ((k3 : Nat) : Int)).bind fun a73 =>
      (F_spec_spSum p_ cols_ m_ a73).bind fun y77 =>
      (appO s56 [y77]).bind fun a85 =>
      some a85) rows_.length 0 []).bind fun (s92 : List (List Int)) =>
  some s92

noncomputable def F_spec_ssMarkov (p_ : Int) (s_ : Int × Int × Int × List (List Int) × List (List Int) × List (List Int) × List (List Int)) (n_ : Int) : Option (List (Int × List (List Int))) :=
  (F_spec_ssCopy s_.2.2.2.2.1).bind fun y8 =>
  (whileO (fun (s543 : (List (Int × List (List Int))) × List (List Int) × Int) =>
      (some (decide (s543.2.2 < n_))).bind fun a555 =>
      cond a555
      (((some (decide (s543.2.2 = 0))).bind fun a609 =>
          cond a609
          ((F_spec_ssCopy s_.2.2.2.2.2.2).bind fun y635 =>
            (appO s543.1 [(s_.2.2.1, y635)]).bind fun a645 =>
            some (a645, s543.2.1))
          ((F_spec_ssTimes p_ s_.2.2.1 s543.2.1 s_.2.2.2.2.2.1).bind fun y613 =>
            (appO s543.1 [(s_.2.2.1, y613)]).bind fun a623 =>
            (F_spec_ssTimes p_ s_.1 s543.2.1 s_.2.2.2.1).bind fun y628 =>
            some (a623, y628))).bind fun (s601 : (List (Int × List (List Int))) × List (List Int)) =>
        (addO s543.2.2 1).bind fun a652 =>
        some (.inl (s601.1, s601.2, a652)))
      (some (.inr s543.1))) ([], y8, 0)).bind fun (s330 : List (Int × List (List Int))) =>
  some s330

noncomputable def F_spec_l1Same (a_ : List Int) (b_ : List Int) : Option Bool :=
  (some (!decide (((a_.length : Nat) : Int) = ((b_.length : Nat) : Int)))).bind fun a3 =>
  cond a3
  (some false)
  (seqO (forO (fun (k6 : Nat) (_ : Unit) =>
        (idxO a_ ((k6 : Nat) : Int)).bind fun a46 =>
        (idxO b_ ((k6 : Nat) : Int)).bind fun a54 =>
        (some (!decide (a46 = a54))).bind fun a56 =>
        cond a56
        (some (.inr false))
        (some (.inl ()))) a_.length 0 ()) fun (_ : Unit) =>
    some true)

noncomputable def F_spec_spSame (a_ : List (List Int)) (b_ : List (List Int)) : Option Bool :=
  (some (!decide (((a_.length : Nat) : Int) = ((b_.length : Nat) : Int)))).bind fun a3 =>
  cond a3
  (some false)
  (seqO (forO (fun (k6 : Nat) (_ : Unit) =>
        (idxO a_ ((k6 : Nat) : Int)).bind fun a53 =>
        (idxO b_ ((k6 : Nat) : Int)).bind fun a63 =>
        (F_spec_l1Same a53 a63).bind fun y67 =>
        (some (!y67)).bind fun a70 =>
        cond a70
        (some (.inr false))
        (some (.inl ()))) a_.length 0 ()) fun (_ : Unit) =>
    some true)

noncomputable def F_spec_rzIs (p_ : Int) (s_ : Int × Int × Int × List (List Int) × List (List Int) × List (List Int) × List (List Int)) (m_ : List (Int × List (List Int))) : Option Bool :=
  (F_spec_ssMarkov p_ (s_.1, s_.2.1, s_.2.2.1, s_.2.2.2.1, s_.2.2.2.2.1, s_.2.2.2.2.2.1, s_.2.2.2.2.2.2) ((m_.length : Nat) : Int)).bind fun y9 =>
  seqO (forO (fun (k14 : Nat) (_ : Unit) =>
      (idxO y9 ((k14 : Nat) : Int)).bind fun a106 =>
      (idxO m_ ((k14 : Nat) : Int)).bind fun a123 =>
      (F_spec_spSame a106.2 a123.2).bind fun y129 =>
      (some (!y129)).bind fun a132 =>
      cond a132
      (some (.inr false))
      (some (.inl ()))) y9.length 0 ()) fun (_ : Unit) =>
  some true

noncomputable def F_spec_IsRealization (p_ : Int) (s_ : Int × Int × Int × List (List Int) × List (List Int) × List (List Int) × List (List Int)) (m_ : List (Int × List (List Int))) : Option (Bool × Bool) :=
  ((F_spec_ssGood p_ (s_.1, s_.2.1, s_.2.2.1, s_.2.2.2.1, s_.2.2.2.2.1, s_.2.2.2.2.2.1, s_.2.2.2.2.2.2)).bind fun y61 =>
    (some (!y61)).bind fun a64 =>
    cond a64
    (some true)
    ((F_spec_rzResponse p_ m_).bind fun y67 =>
      (some (!y67)).bind fun a70 =>
      cond a70
      (some true)
      ((idxO m_ 0).bind fun a79 =>
        (some (!decide (((a79.2.length : Nat) : Int) = s_.2.1))).bind fun a85 =>
        cond a85
        (some true)
        ((idxO m_ 0).bind fun a94 =>
          (some (!decide (a94.1 = s_.2.2.1))).bind fun a100 =>
          some a100)))).bind fun (s54 : Bool) =>
  cond s54
  (some (false, false))
  ((F_spec_rzIs p_ (s_.1, s_.2.1, s_.2.2.1, s_.2.2.2.1, s_.2.2.2.2.1, s_.2.2.2.2.2.1, s_.2.2.2.2.2.2) m_).bind fun y108 =>
    some (y108, true))

noncomputable def F_impl_isField (p_ : Int) : Option Bool :=
  ((some (decide (p_ < 2))).bind fun a14 =>
    cond a14
    (some true)
    ((some (decide ((97 : Int) < p_))).bind fun a17 =>
      some a17)).bind fun (s8 : Bool) =>
  cond s8
  (some false)
  ((cI 4).bind fun _ =>
    seqO (forO (fun (k23 : Nat) (_ : Unit) =>
        (idxO [2, 3, 5, 7] ((k23 : Nat) : Int)).bind fun a65 =>
        ((remO p_ a65).bind fun a81 =>
          (some (decide (a81 = 0))).bind fun a83 =>
          cond a83
          ((some (!decide (p_ = a65))).bind fun a87 =>
            some a87)
          (some false)).bind fun (s75 : Bool) =>
        cond s75
        (some (.inr false))
        (some (.inl ()))) ((4 : Int).toNat) 0 ()) fun (_ : Unit) =>
    some true)

noncomputable def F_impl_within (n_ : Int) (low_ : Int) (high_ : Int) : Option Bool :=
  ((some (decide (low_ ≤ n_))).bind fun a13 =>
    cond a13
    ((some (decide (n_ ≤ high_))).bind fun a17 =>
      some a17)
    (some false)).bind fun (s7 : Bool) =>
  some s7

noncomputable def F_impl_table_int_hasShape (t_ : List (List Int)) (rows_ : Int) (cols_ : Int) : Option Bool :=
  (some (!decide (((t_.length : Nat) : Int) = rows_))).bind fun a2 =>
  cond a2
  (some false)
  ((cI rows_).bind fun _ =>
    seqO (forO (fun (k5 : Nat) (_ : Unit) =>
        (idxO t_ ((k5 : Nat) : Int)).bind fun a39 =>
        (some (!decide (((a39.length : Nat) : Int) = cols_))).bind fun a43 =>
        cond a43
        (some (.inr false))
        (some (.inl ()))) rows_.toNat 0 ()) fun (_ : Unit) =>
    some true)

noncomputable def F_impl_isElement (p_ : Int) (a_ : Int) : Option Bool :=
  ((some (decide ((0 : Int) ≤ a_))).bind fun a13 =>
    cond a13
    ((some (decide (a_ < p_))).bind fun a17 =>
      some a17)
    (some false)).bind fun (s7 : Bool) =>
  some s7

noncomputable def F_impl_isVector (p_ : Int) (v_ : List Int) (n_ : Int) : Option Bool :=
  (some (!decide (((v_.length : Nat) : Int) = n_))).bind fun a2 =>
  cond a2
  (some false)
  (seqO (forO (fun (k5 : Nat) (_ : Unit) =>
        (idxO v_ ((k5 : Nat) : Int)).bind fun a38 =>
        (F_impl_isElement p_ a38).bind fun y40 =>
        (some (!y40)).bind fun a43 =>
        cond a43
        (some (.inr false))
        (some (.inl ()))) v_.length 0 ()) fun (_ : Unit) =>
    some true)

noncomputable def F_impl_areVectors (p_ : Int) (rows_ : List (List Int)) (n_ : Int) : Option Bool :=
  seqO (forO (fun (k2 : Nat) (_ : Unit) =>
      (idxO rows_ ((k2 : Nat) : Int)).bind fun a37 =>
      (F_impl_isVector p_ a37 n_).bind fun y41 =>
      (some (!y41)).bind fun a44 =>
      cond a44
      (some (.inr false))
      (some (.inl ()))) rows_.length 0 ()) fun (_ : Unit) =>
  some true

noncomputable def F_impl_isStateSpace (p_ : Int) (s_ : Int × Int × Int × List (List Int) × List (List Int) × List (List Int) × List (List Int)) : Option Bool :=
  ((F_impl_isField p_).bind fun y41 =>
    (some (!y41)).bind fun a44 =>
    cond a44
    (some true)
    ((F_impl_within s_.1 0 24).bind fun y47 =>
      (some (!y47)).bind fun a50 =>
      cond a50
      (some true)
      ((F_impl_within s_.2.1 0 8).bind fun y53 =>
        (some (!y53)).bind fun a56 =>
        cond a56
        (some true)
        ((F_impl_within s_.2.2.1 0 8).bind fun y59 =>
          (some (!y59)).bind fun a62 =>
          some a62)))).bind fun (s35 : Bool) =>
  cond s35
  (some false)
  (((F_impl_table_int_hasShape s_.2.2.2.1 s_.1 s_.1).bind fun y102 =>
      (some (!y102)).bind fun a105 =>
      cond a105
      (some true)
      ((F_impl_table_int_hasShape s_.2.2.2.2.1 s_.2.1 s_.1).bind fun y108 =>
        (some (!y108)).bind fun a111 =>
        cond a111
        (some true)
        ((F_impl_table_int_hasShape s_.2.2.2.2.2.1 s_.1 s_.2.2.1).bind fun y114 =>
          (some (!y114)).bind fun a117 =>
          cond a117
          (some true)
          ((F_impl_table_int_hasShape s_.2.2.2.2.2.2 s_.2.1 s_.2.2.1).bind fun y120 =>
            (some (!y120)).bind fun a123 =>
            some a123)))).bind fun (s96 : Bool) =>
    cond s96
    (some false)
    (((F_impl_areVectors p_ s_.2.2.2.1 s_.1).bind fun y155 =>
        cond y155
        ((F_impl_areVectors p_ s_.2.2.2.2.1 s_.1).bind fun y160 =>
          cond y160
          ((F_impl_areVectors p_ s_.2.2.2.2.2.1 s_.2.2.1).bind fun y165 =>
            cond y165
            ((F_impl_areVectors p_ s_.2.2.2.2.2.2 s_.2.2.1).bind fun y170 =>
              some y170)
            (some false))
          (some false))
        (some false)).bind fun (s149 : Bool) =>
      some s149))

noncomputable def F_impl_isMatrix (p_ : Int) (m_ : Int × List (List Int)) : Option Bool :=
  ((F_impl_isField p_).bind fun y29 =>
    cond y29
    ((F_impl_within m_.1 0 24).bind fun y34 =>
      cond y34
      ((some (decide (((m_.2.length : Nat) : Int) ≤ 24))).bind fun a39 =>
        cond a39
        ((F_impl_areVectors p_ m_.2 m_.1).bind fun y43 =>
          some y43)
        (some false))
      (some false))
    (some false)).bind fun (s23 : Bool) =>
  some s23

noncomputable def F_impl_isResponse (p_ : Int) (m_ : List (Int × List (List Int))) : Option Bool :=
  ((F_impl_isField p_).bind fun y21 =>
    (some (!y21)).bind fun a24 =>
    cond a24
    (some true)
    ((F_impl_within ((m_.length : Nat) : Int) 1 60).bind fun y27 =>
      (some (!y27)).bind fun a30 =>
      some a30)).bind fun (s15 : Bool) =>
  cond s15
  (some false)
  (seqO (forO (fun (k36 : Nat) (_ : Unit) =>
        (idxO m_ ((k36 : Nat) : Int)).bind fun a156 =>
        ((F_impl_isMatrix p_ (a156.1, a156.2)).bind fun y211 =>
          (some (!y211)).bind fun a214 =>
          cond a214
          (some true)
          ((idxO m_ 0).bind fun a223 =>
            (some (!decide (((a156.2.length : Nat) : Int) = ((a223.2.length : Nat) : Int)))).bind fun a229 =>
            cond a229
            (some true)
            ((idxO m_ 0).bind fun a238 =>
              (some (!decide (a156.1 = a238.1))).bind fun a244 =>
              some a244))).bind fun (s204 : Bool) =>
        cond s204
        (some (.inr false))
        (some (.inl ()))) m_.length 0 ()) fun (_ : Unit) =>
    ((idxO m_ 0).bind fun a299 =>
      (some (decide (((a299.2.length : Nat) : Int) ≤ 8))).bind fun a305 =>
      cond a305
      ((idxO m_ 0).bind fun a315 =>
        (some (decide (a315.1 ≤ 8))).bind fun a321 =>
        some a321)
      (some false)).bind fun (s287 : Bool) =>
    some s287)

noncomputable def F_impl_clone (list_ : List Int) : Option (List Int) :=
  (appO ([] : List Int) list_).bind fun a5 =>
  some a5

noncomputable def F_impl_clones (list_ : List (List Int)) : Option (List (List Int)) :=
  (makeCO 0 ((list_.length : Nat) : Int) ([] : List Int)).bind fun a2 =>
  (forS (fun (k7 : Nat) (s59 : List (List Int)) =>
      (idxO list_ ((k7 : Nat) : Int)).bind fun a75 =>
      (F_impl_clone a75).bind fun y79 =>
      (appO s59 [y79]).bind fun a87 =>
      some a87) list_.length 0 a2).bind fun (s94 : List (List Int)) =>
  some s94

noncomputable def F_impl_zeros (n_ : Int) : Option (List Int) :=
  (makeO n_ (0 : Int)).bind fun a1 =>
  some a1

noncomputable def F_impl_mod (p_ : Int) (a_ : Int) : Option Int :=
  (remO a_ p_).bind fun a1 =>
  (some (decide (a1 < 0))).bind fun a3 =>
  cond a3
  ((addO a1 p_).bind fun a7 =>
    some a7)
  (some a1)

noncomputable def F_impl_addTimes (p_ : Int) (v_ : List Int) (by_ : Int) (w_ : List Int) : Option (List Int) :=
  (forS (fun (k3 : Nat) (s72 : List Int) =>
      (idxO w_ ((k3 : Nat) : Int)).bind fun a87 =>
      (idxO s72 ((k3 : Nat) : Int)).bind fun a95 =>
      (mulO by_ a87).bind fun a97 =>
      (addO a95 a97).bind fun a99 =>
      (F_impl_mod p_ a99).bind fun y101 =>
      (setO s72 ((k3 : Nat) : Int) y101).bind fun a110 =>
      some a110) w_.length 0 v_).bind fun (s115 : List Int) =>
  some s115

noncomputable def F_impl_combine (p_ : Int) (x_ : List Int) (rows_ : List (List Int)) (n_ : Int) : Option (List Int) :=
  (F_impl_zeros n_).bind fun y3 =>
  (forS (fun (k8 : Nat) (s55 : List Int) =>
      (idxO rows_ ((k8 : Nat) : Int)).bind fun a70 =>
      (idxO x_ ((k8 : Nat) : Int)).bind fun a80 =>
      (F_impl_addTimes p_ s55 a80 a70).bind fun y82 =>
      some y82) rows_.length 0 y3).bind fun (s87 : List Int) =>
  some s87

noncomputable def F_impl_product (p_ : Int) (rows_ : List (List Int)) (m_ : List (List Int)) (n_ : Int) : Option (List (List Int)) :=
  (forS (fun (k6 : Nat) (s58 : List (List Int)) =>
      (idxO rows_ ((k6 : Nat) : Int)).bind fun a74 =>
      (F_impl_combine p_ a74 m_ n_).bind fun y78 =>
      (appO s58 [y78]).bind fun a86 =>
      some a86) rows_.length 0 ([] : List (List Int))).bind fun (s93 : List (List Int)) =>
  some s93

noncomputable def F_impl_StateSpace_markov (s_ : Int × Int × Int × List (List Int) × List (List Int) × List (List Int) × List (List Int)) (p_ : Int) (n_ : Int) : Option (List (Int × List (List Int))) :=
  (F_impl_clones s_.2.2.2.2.1).bind fun y11 =>
  (cI n_).bind fun _ =>
  (forS (fun (k16 : Nat) (s207 : (List (Int × List (List Int))) × List (List Int)) =>
      ((some (decide (((k16 : Nat) : Int) = 0))).bind fun a269 =>
        cond a269
        ((F_impl_clones s_.2.2.2.2.2.2).bind fun y295 =>
          (appO s207.1 [(s_.2.2.1, y295)]).bind fun a305 =>
          some (a305, s207.2))
        ((F_impl_product p_ s207.2 s_.2.2.2.2.2.1 s_.2.2.1).bind fun y273 =>
          (appO s207.1 [(s_.2.2.1, y273)]).bind fun a283 =>
          (F_impl_product p_ s207.2 s_.2.2.2.1 s_.1).bind fun y288 =>
          some (a283, y288))).bind fun (s261 : (List (Int × List (List Int))) × List (List Int)) =>
      some (s261.1, s261.2)) n_.toNat 0 (([] : List (Int × List (List Int))), y11)).bind fun (s314 : (List (Int × List (List Int))) × List (List Int)) =>
  some s314.1

noncomputable def F_slices_Equal_int_int (s1_ : List Int) (s2_ : List Int) : Option Bool :=
  (some (!decide (((s1_.length : Nat) : Int) = ((s2_.length : Nat) : Int)))).bind fun a3 =>
  cond a3
  (some false)
  (seqO (forO (fun (k6 : Nat) (_ : Unit) =>
        (idxO s1_ ((k6 : Nat) : Int)).bind fun a46 =>
        (idxO s2_ ((k6 : Nat) : Int)).bind fun a54 =>
        (some (!decide (a46 = a54))).bind fun a56 =>
        cond a56
        (some (.inr false))
        (some (.inl ()))) s1_.length 0 ()) fun (_ : Unit) =>
    some true)

noncomputable def F_slices_EqualFunc_int_int_int_int_slices_Equal_int_int (s1_ : List (List Int)) (s2_ : List (List Int)) : Option Bool :=
  (some (!decide (((s1_.length : Nat) : Int) = ((s2_.length : Nat) : Int)))).bind fun a3 =>
  cond a3
  (some false)
  (seqO (forO (fun (k6 : Nat) (_ : Unit) =>
        (idxO s1_ ((k6 : Nat) : Int)).bind fun a51 =>
        (idxO s2_ ((k6 : Nat) : Int)).bind fun a61 =>
        (F_slices_Equal_int_int a51 a61).bind fun y65 =>
        (some (!y65)).bind fun a68 =>
        cond a68
        (some (.inr false))
        (some (.inl ()))) s1_.length 0 ()) fun (_ : Unit) =>
    some true)

noncomputable def F_impl_sameRows (a_ : List (List Int)) (b_ : List (List Int)) : Option Bool :=
  (F_slices_EqualFunc_int_int_int_int_slices_Equal_int_int a_ b_).bind fun y3 =>
  some y3

noncomputable def F_impl_equalMatrices (a_ : Int × List (List Int)) (b_ : Int × List (List Int)) : Option Bool :=
  ((some (decide (a_.1 = b_.1))).bind fun a22 =>
    cond a22
    ((F_impl_sameRows a_.2 b_.2).bind fun y26 =>
      some y26)
    (some false)).bind fun (s16 : Bool) =>
  some s16

noncomputable def F_slices_EqualFunc_impl_Matrix_impl_Matrix_impl_Matrix_impl_Matrix_impl_equalMatrices (s1_ : List (Int × List (List Int))) (s2_ : List (Int × List (List Int))) : Option Bool :=
  (some (!decide (((s1_.length : Nat) : Int) = ((s2_.length : Nat) : Int)))).bind fun a3 =>
  cond a3
  (some false)
  (seqO (forO (fun (k6 : Nat) (_ : Unit) =>
        (idxO s1_ ((k6 : Nat) : Int)).bind fun a63 =>
        (idxO s2_ ((k6 : Nat) : Int)).bind fun a79 =>
        (F_impl_equalMatrices (a63.1, a63.2) (a79.1, a79.2)).bind fun y89 =>
        (some (!y89)).bind fun a92 =>
        cond a92
        (some (.inr false))
        (some (.inl ()))) s1_.length 0 ()) fun (_ : Unit) =>
    some true)

noncomputable def F_impl_IsRealization (p_ : Int) (s_ : Int × Int × Int × List (List Int) × List (List Int) × List (List Int) × List (List Int)) (m_ : List (Int × List (List Int))) : Option (Bool × Bool) :=
  ((F_impl_isStateSpace p_ (s_.1, s_.2.1, s_.2.2.1, s_.2.2.2.1, s_.2.2.2.2.1, s_.2.2.2.2.2.1, s_.2.2.2.2.2.2)).bind fun y62 =>
    (some (!y62)).bind fun a65 =>
    cond a65
    (some true)
    ((F_impl_isResponse p_ m_).bind fun y68 =>
      (some (!y68)).bind fun a71 =>
      cond a71
      (some true)
      ((idxO m_ 0).bind fun a80 =>
        (some (!decide (((a80.2.length : Nat) : Int) = s_.2.1))).bind fun a86 =>
        cond a86
        (some true)
        ((idxO m_ 0).bind fun a95 =>
          (some (!decide (a95.1 = s_.2.2.1))).bind fun a101 =>
          some a101)))).bind fun (s55 : Bool) =>
  cond s55
  (some (false, false))
  ((F_impl_StateSpace_markov (s_.1, s_.2.1, s_.2.2.1, s_.2.2.2.1, s_.2.2.2.2.1, s_.2.2.2.2.2.1, s_.2.2.2.2.2.2) p_ ((m_.length : Nat) : Int)).bind fun y109 =>
    (F_slices_EqualFunc_impl_Matrix_impl_Matrix_impl_Matrix_impl_Matrix_impl_equalMatrices y109 m_).bind fun y114 =>
    some (y114, true))

noncomputable def F_laws_eqIntS (a_ : List Int) (b_ : List Int) : Option Bool :=
  (some (!decide (((a_.length : Nat) : Int) = ((b_.length : Nat) : Int)))).bind fun a3 =>
  cond a3
  (some false)
  (seqO (whileO (fun (s166 : Int) =>
        (some (decide (s166 < ((a_.length : Nat) : Int)))).bind fun a175 =>
        cond a175
        ((idxO a_ s166).bind fun a187 =>
          (idxO b_ s166).bind fun a195 =>
          (some (!decide (a187 = a195))).bind fun a197 =>
          cond a197
          (some (.inr (.inr false)))
          ((addO s166 1).bind fun a200 =>
            some (.inl a200)))
        (some (.inr (.inl ())))) 0) fun (s102 : Unit) =>
    some true)

noncomputable def F_laws_eqIntSS (a_ : List (List Int)) (b_ : List (List Int)) : Option Bool :=
  (some (!decide (((a_.length : Nat) : Int) = ((b_.length : Nat) : Int)))).bind fun a3 =>
  cond a3
  (some false)
  (seqO (whileO (fun (s201 : Int) =>
        (some (decide (s201 < ((a_.length : Nat) : Int)))).bind fun a210 =>
        cond a210
        ((idxO a_ s201).bind fun a222 =>
          (idxO b_ s201).bind fun a232 =>
          (F_laws_eqIntS a222 a232).bind fun y236 =>
          (some (!y236)).bind fun a239 =>
          cond a239
          (some (.inr (.inr false)))
          ((addO s201 1).bind fun a242 =>
            some (.inl a242)))
        (some (.inr (.inl ())))) 0) fun (s123 : Unit) =>
    some true)

noncomputable def F_laws_eqStateSpace (a_ : Int × Int × Int × List (List Int) × List (List Int) × List (List Int) × List (List Int)) (b_ : Int × Int × Int × List (List Int) × List (List Int) × List (List Int) × List (List Int)) : Option Bool :=
  (some (!decide (a_.1 = b_.1))).bind fun a15 =>
  cond a15
  (some false)
  ((some (!decide (a_.2.1 = b_.2.1))).bind fun a18 =>
    cond a18
    (some false)
    ((some (!decide (a_.2.2.1 = b_.2.2.1))).bind fun a21 =>
      cond a21
      (some false)
      ((F_laws_eqIntSS a_.2.2.2.1 b_.2.2.2.1).bind fun y24 =>
        (some (!y24)).bind fun a27 =>
        cond a27
        (some false)
        ((F_laws_eqIntSS a_.2.2.2.2.1 b_.2.2.2.2.1).bind fun y30 =>
          (some (!y30)).bind fun a33 =>
          cond a33
          (some false)
          ((F_laws_eqIntSS a_.2.2.2.2.2.1 b_.2.2.2.2.2.1).bind fun y36 =>
            (some (!y36)).bind fun a39 =>
            cond a39
            (some false)
            ((F_laws_eqIntSS a_.2.2.2.2.2.2 b_.2.2.2.2.2.2).bind fun y42 =>
              (some (!y42)).bind fun a45 =>
              cond a45
              (some false)
              (some true)))))))

noncomputable def F_laws_eqMatrix (a_ : Int × List (List Int)) (b_ : Int × List (List Int)) : Option Bool :=
  (some (!decide (a_.1 = b_.1))).bind fun a9 =>
  cond a9
  (some false)
  ((F_laws_eqIntSS a_.2 b_.2).bind fun y12 =>
    (some (!y12)).bind fun a15 =>
    cond a15
    (some false)
    (some true))

noncomputable def F_laws_eqMatrixS (a_ : List (Int × List (List Int))) (b_ : List (Int × List (List Int))) : Option Bool :=
  (some (!decide (((a_.length : Nat) : Int) = ((b_.length : Nat) : Int)))).bind fun a3 =>
  cond a3
  (some false)
  (seqO (whileO (fun (s221 : Int) =>
        (some (decide (s221 < ((a_.length : Nat) : Int)))).bind fun a230 =>
        cond a230
        ((idxO a_ s221).bind fun a242 =>
          (idxO b_ s221).bind fun a254 =>
          (F_laws_eqMatrix (a242.1, a242.2) (a254.1, a254.2)).bind fun y260 =>
          (some (!y260)).bind fun a263 =>
          cond a263
          (some (.inr (.inr false)))
          ((addO s221 1).bind fun a266 =>
            some (.inl a266)))
        (some (.inr (.inl ())))) 0) fun (s135 : Unit) =>
    some true)

noncomputable def F_laws_FnExactIsRealization (aP_ : Int) (aS_ : Int × Int × Int × List (List Int) × List (List Int) × List (List Int) × List (List Int)) (aM_ : List (Int × List (List Int))) : Option Bool :=
  (F_laws_szStateSpace (aS_.1, aS_.2.1, aS_.2.2.1, aS_.2.2.2.1, aS_.2.2.2.2.1, aS_.2.2.2.2.2.1, aS_.2.2.2.2.2.2) 1048576).bind fun y10 =>
  (some (decide (y10 < 0))).bind fun a13 =>
  cond a13
  (some true)
  ((F_laws_szMatrixS aM_ y10).bind fun y16 =>
    (some (decide (y16 < 0))).bind fun a19 =>
    cond a19
    (some true)
    ((F_laws_toStateSpace (aS_.1, aS_.2.1, aS_.2.2.1, aS_.2.2.2.1, aS_.2.2.2.2.1, aS_.2.2.2.2.2.1, aS_.2.2.2.2.2.2)).bind fun y22 =>
      (F_laws_toMatrixS aM_).bind fun y33 =>
      (F_spec_IsRealization aP_ (y22.1, y22.2.1, y22.2.2.1, y22.2.2.2.1, y22.2.2.2.2.1, y22.2.2.2.2.2.1, y22.2.2.2.2.2.2) y33).bind fun y38 =>
      (F_laws_toStateSpace (aS_.1, aS_.2.1, aS_.2.2.1, aS_.2.2.2.1, aS_.2.2.2.2.1, aS_.2.2.2.2.2.1, aS_.2.2.2.2.2.2)).bind fun y41 =>
      (F_laws_toMatrixS aM_).bind fun y56 =>
      (F_impl_IsRealization aP_ (y41.1, y41.2.1, y41.2.2.1, y41.2.2.2.1, y41.2.2.2.2.1, y41.2.2.2.2.2.1, y41.2.2.2.2.2.2) y56).bind fun y61 =>
      ((some (!decide (y61.1 = y38.1))).bind fun a76 =>
        cond a76
        (some true)
        ((some (!decide (y61.2 = y38.2))).bind fun a79 =>
          some a79)).bind fun (s70 : Bool) =>
      cond s70
      (some false)
      ((F_laws_toStateSpace (aS_.1, aS_.2.1, aS_.2.2.1, aS_.2.2.2.1, aS_.2.2.2.2.1, aS_.2.2.2.2.2.1, aS_.2.2.2.2.2.2)).bind fun y86 =>
        (F_laws_eqStateSpace (y41.1, y41.2.1, y41.2.2.1, y41.2.2.2.1, y41.2.2.2.2.1, y41.2.2.2.2.2.1, y41.2.2.2.2.2.2) (y86.1, y86.2.1, y86.2.2.1, y86.2.2.2.1, y86.2.2.2.2.1, y86.2.2.2.2.2.1, y86.2.2.2.2.2.2)).bind fun y97 =>
        (some (!y97)).bind fun a100 =>
        cond a100
        (some false)
        ((F_laws_toMatrixS aM_).bind fun y103 =>
          (F_laws_eqMatrixS y56 y103).bind fun y108 =>
          (some (!y108)).bind fun a111 =>
          cond a111
          (some false)
          (some true)))))
end Go.Proofs.YteikcdofblclhaaDoor
