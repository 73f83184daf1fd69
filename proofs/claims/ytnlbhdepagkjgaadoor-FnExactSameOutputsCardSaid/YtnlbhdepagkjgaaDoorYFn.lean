/-
  Partial functions, printed by a program (wip/y/gen.py): what each function of Go computes, over plain data. No program in sight. No condition.
-/
import Derived.Test.YtnlbhdepagkjgaaDoorYF
namespace Go.Proofs.YtnlbhdepagkjgaaDoor

noncomputable def F_laws_szIntS (a_ : List Int) (left_ : Int) : Option Int :=
  (subO left_ ((a_.length : Nat) : Int)).bind fun a2 =>
  (some (decide (a2 < 0))).bind fun a4 =>
  cond a4
  (some (-1))
  (some a2)

noncomputable def F_laws_szIntSS (a_ : List (List Int)) (left_ : Int) : Option Int :=
  (subO left_ ((a_.length : Nat) : Int)).bind fun a2 =>
  (some (decide (a2 < 0))).bind fun a4 =>
  cond a4
  (some (-1))
  (seqO (whileO (fun (s147 : Int × Int) =>
        (some (decide (s147.2 < ((a_.length : Nat) : Int)))).bind fun a156 =>
        cond a156
        ((idxO a_ s147.2).bind fun a167 =>
          (F_laws_szIntS a167 s147.1).bind fun y171 =>
          (some (decide (y171 < 0))).bind fun a174 =>
          cond a174
          (some (.inr (.inr (-1))))
          ((addO s147.2 1).bind fun a177 =>
            some (.inl (y171, a177))))
        (some (.inr (.inl s147.1)))) (a2, 0)) fun (s91 : Int) =>
    some s91)

noncomputable def F_laws_szStateSpace (a_ : Int × Int × Int × List (List Int) × List (List Int) × List (List Int) × List (List Int)) (left_ : Int) : Option Int :=
  (F_laws_szIntSS a_.2.2.2.1 left_).bind fun y8 =>
  (some (decide (y8 < 0))).bind fun a11 =>
  cond a11
  (some (-1))
  ((F_laws_szIntSS a_.2.2.2.2.1 y8).bind fun y14 =>
    (some (decide (y14 < 0))).bind fun a17 =>
    cond a17
    (some (-1))
    ((F_laws_szIntSS a_.2.2.2.2.2.1 y14).bind fun y20 =>
      (some (decide (y20 < 0))).bind fun a23 =>
      cond a23
      (some (-1))
      ((F_laws_szIntSS a_.2.2.2.2.2.2 y20).bind fun y26 =>
        (some (decide (y26 < 0))).bind fun a29 =>
        cond a29
        (some (-1))
        (some y26))))

noncomputable def F_laws_toIntS (a_ : List Int) : Option (List Int) :=
  (makeO ((a_.length : Nat) : Int) (0 : Int)).bind fun a2 =>
  (whileO (fun (s146 : List Int × Int) =>
      (some (decide (s146.2 < ((a_.length : Nat) : Int)))).bind fun a155 =>
      cond a155
      ((idxO a_ s146.2).bind fun a166 =>
        (setO s146.1 s146.2 a166).bind fun a174 =>
        (addO s146.2 1).bind fun a177 =>
        some (.inl (a174, a177)))
      (some (.inr s146.1))) (a2, 0)).bind fun (s90 : List Int) =>
  some s90

noncomputable def F_laws_toIntSS (a_ : List (List Int)) : Option (List (List Int)) :=
  (makeO ((a_.length : Nat) : Int) ([] : List Int)).bind fun a2 =>
  (whileO (fun (s181 : List (List Int) × Int) =>
      (some (decide (s181.2 < ((a_.length : Nat) : Int)))).bind fun a190 =>
      cond a190
      ((idxO a_ s181.2).bind fun a201 =>
        (F_laws_toIntS a201).bind fun y205 =>
        (setO s181.1 s181.2 y205).bind fun a216 =>
        (addO s181.2 1).bind fun a219 =>
        some (.inl (a216, a219)))
      (some (.inr s181.1))) (a2, 0)).bind fun (s111 : List (List Int)) =>
  some s111

noncomputable def F_laws_toStateSpace (a_ : Int × Int × Int × List (List Int) × List (List Int) × List (List Int) × List (List Int)) : Option (Int × Int × Int × List (List Int) × List (List Int) × List (List Int) × List (List Int)) :=
  (F_laws_toIntSS a_.2.2.2.1).bind fun y17 =>
  (F_laws_toIntSS a_.2.2.2.2.1).bind fun y23 =>
  (F_laws_toIntSS a_.2.2.2.2.2.1).bind fun y29 =>
  (F_laws_toIntSS a_.2.2.2.2.2.2).bind fun y35 =>
  some (a_.1, a_.2.1, a_.2.2.1, y17, y23, y29, y35)

noncomputable def F_spec_l1In (n_ : Int) (lo_ : Int) (hi_ : Int) : Option Bool :=
  ((some (decide (lo_ ≤ n_))).bind fun a13 =>
    cond a13
    ((some (decide (n_ ≤ hi_))).bind fun a17 =>
      some a17)
    (some false)).bind fun (s7 : Bool) =>
  some s7

noncomputable def F_spec_fdGood (p_ : Int) : Option Bool :=
  (F_spec_l1In p_ 2 97).bind fun y1 =>
  (some (!y1)).bind fun a4 =>
  cond a4
  (some false)
  (seqO (whileO (fun (s102 : Int) =>
        (mulO s102 s102).bind fun a111 =>
        (some (decide (a111 ≤ p_))).bind fun a113 =>
        cond a113
        ((remO p_ s102).bind fun a118 =>
          (some (decide (a118 = 0))).bind fun a120 =>
          cond a120
          (some (.inr (.inr false)))
          ((addO s102 1).bind fun a123 =>
            some (.inl a123)))
        (some (.inr (.inl ())))) 2) fun (s64 : Unit) =>
    some true)

noncomputable def F_spec_l1All (l_ : List Int) (lo_ : Int) (hi_ : Int) : Option Bool :=
  seqO (forO (fun (k2 : Nat) (_ : Unit) =>
      (idxO l_ ((k2 : Nat) : Int)).bind fun a35 =>
      (F_spec_l1In a35 lo_ hi_).bind fun y37 =>
      (some (!y37)).bind fun a40 =>
      cond a40
      (some (.inr false))
      (some (.inl ()))) l_.length 0 ()) fun (_ : Unit) =>
  some true

noncomputable def F_spec_fdIn (p_ : Int) (l_ : List Int) : Option Bool :=
  (subO p_ 1).bind fun a2 =>
  (F_spec_l1All l_ 0 a2).bind fun y4 =>
  some y4

noncomputable def F_spec_spRows (p_ : Int) (size_ : Int) (rows_ : List (List Int)) : Option Bool :=
  seqO (forO (fun (k2 : Nat) (_ : Unit) =>
      (idxO rows_ ((k2 : Nat) : Int)).bind fun a58 =>
      ((some (!decide (((a58.length : Nat) : Int) = size_))).bind fun a77 =>
        cond a77
        (some true)
        ((F_spec_fdIn p_ a58).bind fun y80 =>
          (some (!y80)).bind fun a83 =>
          some a83)).bind fun (s71 : Bool) =>
      cond s71
      (some (.inr false))
      (some (.inl ()))) rows_.length 0 ()) fun (_ : Unit) =>
  some true

noncomputable def F_spec_ssTable (p_ : Int) (rows_ : Int) (cols_ : Int) (m_ : List (List Int)) : Option Bool :=
  ((some (decide (((m_.length : Nat) : Int) = rows_))).bind fun a15 =>
    cond a15
    ((F_spec_spRows p_ cols_ m_).bind fun y19 =>
      some y19)
    (some false)).bind fun (s9 : Bool) =>
  some s9

noncomputable def F_spec_ssGood (p_ : Int) (s_ : Int × Int × Int × List (List Int) × List (List Int) × List (List Int) × List (List Int)) : Option Bool :=
  ((F_spec_fdGood p_).bind fun y52 =>
    cond y52
    ((F_spec_l1In s_.1 0 24).bind fun y57 =>
      cond y57
      ((F_spec_l1In s_.2.1 0 8).bind fun y62 =>
        cond y62
        ((F_spec_l1In s_.2.2.1 0 8).bind fun y67 =>
          cond y67
          ((F_spec_ssTable p_ s_.1 s_.1 s_.2.2.2.1).bind fun y72 =>
            cond y72
            ((F_spec_ssTable p_ s_.2.1 s_.1 s_.2.2.2.2.1).bind fun y77 =>
              cond y77
              ((F_spec_ssTable p_ s_.1 s_.2.2.1 s_.2.2.2.2.2.1).bind fun y82 =>
                cond y82
                ((F_spec_ssTable p_ s_.2.1 s_.2.2.1 s_.2.2.2.2.2.2).bind fun y87 =>
                  some y87)
                (some false))
              (some false))
            (some false))
          (some false))
        (some false))
      (some false))
    (some false)).bind fun (s46 : Bool) =>
  some s46

noncomputable def F_spec_l1Own (l_ : List Int) : Option (List Int) :=
  (appO ([] : List Int) l_).bind fun a5 =>
  some a5

noncomputable def F_spec_ssCopy (m_ : List (List Int)) : Option (List (List Int)) :=
  (forS (fun (k2 : Nat) (s55 : List (List Int)) =>
      (idxO m_ ((k2 : Nat) : Int)).bind fun a72 =>
      (F_spec_l1Own a72).bind fun y76 =>
      (appO s55 [y76]).bind fun a84 =>
      some a84) m_.length 0 []).bind fun (s91 : List (List Int)) =>
  some s91

noncomputable def F_spec_spSum (p_ : Int) (size_ : Int) (rows_ : List (List Int)) (coefs_ : List Int) : Option (List Int) :=
  (makeO size_ (0 : Int)).bind fun a3 =>
  (forS (fun (k8 : Nat) (s309 : List Int) =>
      (idxO rows_ ((k8 : Nat) : Int)).bind fun a324 =>
      (forS (fun (k328 : Nat) (s413 : List Int) =>
          (idxO a324 ((k328 : Nat) : Int)).bind fun a428 =>
          (idxO s413 ((k328 : Nat) : Int)).bind fun a437 =>
          (idxO coefs_ ((k8 : Nat) : Int)).bind fun a445 =>
          (mulO a445 a428).bind fun a447 =>
          (addO a437 a447).bind fun a449 =>
          (remO a449 p_).bind fun a451 =>
          (setO s413 ((k328 : Nat) : Int) a451).bind fun a459 =>
          some a459) a324.length 0 s309).bind fun (s464 : List Int) =>
      some s464) rows_.length 0 a3).bind fun (s468 : List Int) =>
  some s468

noncomputable def F_spec_ssTimes (p_ : Int) (cols_ : Int) (rows_ : List (List Int)) (m_ : List (List Int)) : Option (List (List Int)) :=
  (forS (fun (k3 : Nat) (s56 : List (List Int)) =>
      (idxO rows_ ((k3 : Nat) : Int)).bind fun a73 =>
      (F_spec_spSum p_ cols_ m_ a73).bind fun y77 =>
      (appO s56 [y77]).bind fun a85 =>
      some a85) rows_.length 0 []).bind fun (s92 : List (List Int)) =>
  some s92

noncomputable def F_spec_ssMarkov (p_ : Int) (s_ : Int × Int × Int × List (List Int) × List (List Int) × List (List Int) × List (List Int)) (n_ : Int) : Option (List (Int × List (List Int))) :=
  (F_spec_ssCopy s_.2.2.2.2.1).bind fun y8 =>
  (whileO (fun (s543 : (List (Int × List (List Int))) × List (List Int) × Int) =>
      (some (decide (s543.2.2 < n_))).bind fun a555 =>
      cond a555
      (((some (decide (s543.2.2 = 0))).bind fun a609 =>
          cond a609
          ((F_spec_ssCopy s_.2.2.2.2.2.2).bind fun y635 =>
            (appO s543.1 [(s_.2.2.1, y635)]).bind fun a645 =>
            some (a645, s543.2.1))
          ((F_spec_ssTimes p_ s_.2.2.1 s543.2.1 s_.2.2.2.2.2.1).bind fun y613 =>
            (appO s543.1 [(s_.2.2.1, y613)]).bind fun a623 =>
            (F_spec_ssTimes p_ s_.1 s543.2.1 s_.2.2.2.1).bind fun y628 =>
            some (a623, y628))).bind fun (s601 : (List (Int × List (List Int))) × List (List Int)) =>
        (addO s543.2.2 1).bind fun a652 =>
        some (.inl (s601.1, s601.2, a652)))
      (some (.inr s543.1))) ([], y8, 0)).bind fun (s330 : List (Int × List (List Int))) =>
  some s330

noncomputable def F_spec_MarkovParameters (p_ : Int) (s_ : Int × Int × Int × List (List Int) × List (List Int) × List (List Int) × List (List Int)) (n_ : Int) : Option ((List (Int × List (List Int))) × Bool) :=
  ((F_spec_ssGood p_ (s_.1, s_.2.1, s_.2.2.1, s_.2.2.2.1, s_.2.2.2.2.1, s_.2.2.2.2.2.1, s_.2.2.2.2.2.2)).bind fun y26 =>
    (some (!y26)).bind fun a29 =>
    cond a29
    (some true)
    ((F_spec_l1In n_ 0 60).bind fun y32 =>
      (some (!y32)).bind fun a35 =>
      some a35)).bind fun (s20 : Bool) =>
  cond s20
  (some ([], false))
  ((F_spec_ssMarkov p_ (s_.1, s_.2.1, s_.2.2.1, s_.2.2.2.1, s_.2.2.2.2.1, s_.2.2.2.2.2.1, s_.2.2.2.2.2.2) n_).bind fun y41 =>
    some (y41, true))

noncomputable def F_impl_isField (p_ : Int) : Option Bool :=
  ((some (decide (p_ < 2))).bind fun a14 =>
    cond a14
    (some true)
    ((some (decide ((97 : Int) < p_))).bind fun a17 =>
      some a17)).bind fun (s8 : Bool) =>
  cond s8
  (some false)
  ((cI 4).bind fun _ =>
    seqO (forO (fun (k23 : Nat) (_ : Unit) =>
        (idxO [2, 3, 5, 7] ((k23 : Nat) : Int)).bind fun a65 =>
        ((remO p_ a65).bind fun a81 =>
          (some (decide (a81 = 0))).bind fun a83 =>
          cond a83
          ((some (!decide (p_ = a65))).bind fun a87 =>
            some a87)
          (some false)).bind fun (s75 : Bool) =>
        cond s75
        (some (.inr false))
        (some (.inl ()))) ((4 : Int).toNat) 0 ()) fun (_ : Unit) =>
    some true)

noncomputable def F_impl_within (n_ : Int) (low_ : Int) (high_ : Int) : Option Bool :=
  ((some (decide (low_ ≤ n_))).bind fun a13 =>
    cond a13
    ((some (decide (n_ ≤ high_))).bind fun a17 =>
      some a17)
    (some false)).bind fun (s7 : Bool) =>
  some s7

noncomputable def F_impl_table_int_hasShape (t_ : List (List Int)) (rows_ : Int) (cols_ : Int) : Option Bool :=
  (some (!decide (((t_.length : Nat) : Int) = rows_))).bind fun a2 =>
  cond a2
  (some false)
  ((cI rows_).bind fun _ =>
    seqO (forO (fun (k5 : Nat) (_ : Unit) =>
        (idxO t_ ((k5 : Nat) : Int)).bind fun a39 =>
        (some (!decide (((a39.length : Nat) : Int) = cols_))).bind fun a43 =>
        cond a43
        (some (.inr false))
        (some (.inl ()))) rows_.toNat 0 ()) fun (_ : Unit) =>
    some true)

noncomputable def F_impl_isElement (p_ : Int) (a_ : Int) : Option Bool :=
  ((some (decide ((0 : Int) ≤ a_))).bind fun a13 =>
    cond a13
    ((some (decide (a_ < p_))).bind fun a17 =>
      some a17)
    (some false)).bind fun (s7 : Bool) =>
  some s7

noncomputable def F_impl_isVector (p_ : Int) (v_ : List Int) (n_ : Int) : Option Bool :=
  (some (!decide (((v_.length : Nat) : Int) = n_))).bind fun a2 =>
  cond a2
  (some false)
  (seqO (forO (fun (k5 : Nat) (_ : Unit) =>
        (idxO v_ ((k5 : Nat) : Int)).bind fun a38 =>
        (F_impl_isElement p_ a38).bind fun y40 =>
        (some (!y40)).bind fun a43 =>
        cond a43
        (some (.inr false))
        (some (.inl ()))) v_.length 0 ()) fun (_ : Unit) =>
    some true)

noncomputable def F_impl_areVectors (p_ : Int) (rows_ : List (List Int)) (n_ : Int) : Option Bool :=
  seqO (forO (fun (k2 : Nat) (_ : Unit) =>
      (idxO rows_ ((k2 : Nat) : Int)).bind fun a37 =>
      (F_impl_isVector p_ a37 n_).bind fun y41 =>
      (some (!y41)).bind fun a44 =>
      cond a44
      (some (.inr false))
      (some (.inl ()))) rows_.length 0 ()) fun (_ : Unit) =>
  some true

noncomputable def F_impl_isStateSpace (p_ : Int) (s_ : Int × Int × Int × List (List Int) × List (List Int) × List (List Int) × List (List Int)) : Option Bool :=
  ((F_impl_isField p_).bind fun y41 =>
    (some (!y41)).bind fun a44 =>
    cond a44
    (some true)
    ((F_impl_within s_.1 0 24).bind fun y47 =>
      (some (!y47)).bind fun a50 =>
      cond a50
      (some true)
      ((F_impl_within s_.2.1 0 8).bind fun y53 =>
        (some (!y53)).bind fun a56 =>
        cond a56
        (some true)
        ((F_impl_within s_.2.2.1 0 8).bind fun y59 =>
          (some (!y59)).bind fun a62 =>
          some a62)))).bind fun (s35 : Bool) =>
  cond s35
  (some false)
  (((F_impl_table_int_hasShape s_.2.2.2.1 s_.1 s_.1).bind fun y102 =>
      (some (!y102)).bind fun a105 =>
      cond a105
      (some true)
      ((F_impl_table_int_hasShape s_.2.2.2.2.1 s_.2.1 s_.1).bind fun y108 =>
        (some (!y108)).bind fun a111 =>
        cond a111
        (some true)
        ((F_impl_table_int_hasShape s_.2.2.2.2.2.1 s_.1 s_.2.2.1).bind fun y114 =>
          (some (!y114)).bind fun a117 =>
          cond a117
          (some true)
          ((F_impl_table_int_hasShape s_.2.2.2.2.2.2 s_.2.1 s_.2.2.1).bind fun y120 =>
            (some (!y120)).bind fun a123 =>
            some a123)))).bind fun (s96 : Bool) =>
    cond s96
    (some false)
    (((F_impl_areVectors p_ s_.2.2.2.1 s_.1).bind fun y155 =>
        cond y155
        ((F_impl_areVectors p_ s_.2.2.2.2.1 s_.1).bind fun y160 =>
          cond y160
          ((F_impl_areVectors p_ s_.2.2.2.2.2.1 s_.2.2.1).bind fun y165 =>
            cond y165
            ((F_impl_areVectors p_ s_.2.2.2.2.2.2 s_.2.2.1).bind fun y170 =>
              some y170)
            (some false))
          (some false))
        (some false)).bind fun (s149 : Bool) =>
      some s149))

noncomputable def F_impl_clone (list_ : List Int) : Option (List Int) :=
  (appO ([] : List Int) list_).bind fun a5 =>
  some a5

noncomputable def F_impl_clones (list_ : List (List Int)) : Option (List (List Int)) :=
  (makeCO 0 ((list_.length : Nat) : Int) ([] : List Int)).bind fun a2 =>
  (forS (fun (k7 : Nat) (s59 : List (List Int)) =>
      (idxO list_ ((k7 : Nat) : Int)).bind fun a75 =>
      (F_impl_clone a75).bind fun y79 =>
      (appO s59 [y79]).bind fun a87 =>
      some a87) list_.length 0 a2).bind fun (s94 : List (List Int)) =>
  some s94

noncomputable def F_impl_zeros (n_ : Int) : Option (List Int) :=
  (makeO n_ (0 : Int)).bind fun a1 =>
  some a1

noncomputable def F_impl_mod (p_ : Int) (a_ : Int) : Option Int :=
  (remO a_ p_).bind fun a1 =>
  (some (decide (a1 < 0))).bind fun a3 =>
  cond a3
  ((addO a1 p_).bind fun a7 =>
    some a7)
  (some a1)

noncomputable def F_impl_addTimes (p_ : Int) (v_ : List Int) (by_ : Int) (w_ : List Int) : Option (List Int) :=
  (forS (fun (k3 : Nat) (s72 : List Int) =>
      (idxO w_ ((k3 : Nat) : Int)).bind fun a87 =>
      (idxO s72 ((k3 : Nat) : Int)).bind fun a95 =>
      (mulO by_ a87).bind fun a97 =>
      (addO a95 a97).bind fun a99 =>
      (F_impl_mod p_ a99).bind fun y101 =>
      (setO s72 ((k3 : Nat) : Int) y101).bind fun a110 =>
      some a110) w_.length 0 v_).bind fun (s115 : List Int) =>
  some s115

noncomputable def F_impl_combine (p_ : Int) (x_ : List Int) (rows_ : List (List Int)) (n_ : Int) : Option (List Int) :=
  (F_impl_zeros n_).bind fun y3 =>
  (forS (fun (k8 : Nat) (s55 : List Int) =>
      (idxO rows_ ((k8 : Nat) : Int)).bind fun a70 =>
      (idxO x_ ((k8 : Nat) : Int)).bind fun a80 =>
      (F_impl_addTimes p_ s55 a80 a70).bind fun y82 =>
      some y82) rows_.length 0 y3).bind fun (s87 : List Int) =>
  some s87

noncomputable def F_impl_product (p_ : Int) (rows_ : List (List Int)) (m_ : List (List Int)) (n_ : Int) : Option (List (List Int)) :=
  (forS (fun (k6 : Nat) (s58 : List (List Int)) =>
      (idxO rows_ ((k6 : Nat) : Int)).bind fun a74 =>
      (F_impl_combine p_ a74 m_ n_).bind fun y78 =>
      (appO s58 [y78]).bind fun a86 =>
      some a86) rows_.length 0 ([] : List (List Int))).bind fun (s93 : List (List Int)) =>
  some s93

noncomputable def F_impl_StateSpace_markov (s_ : Int × Int × Int × List (List Int) × List (List Int) × List (List Int) × List (List Int)) (p_ : Int) (n_ : Int) : Option (List (Int × List (List Int))) :=
  (F_impl_clones s_.2.2.2.2.1).bind fun y11 =>
  (cI n_).bind fun _ =>
  (forS (fun (k16 : Nat) (s207 : (List (Int × List (List Int))) × List (List Int)) =>
      ((some (decide (((k16 : Nat) : Int) = 0))).bind fun a269 =>
        cond a269
        ((F_impl_clones s_.2.2.2.2.2.2).bind fun y295 =>
          (appO s207.1 [(s_.2.2.1, y295)]).bind fun a305 =>
          some (a305, s207.2))
        ((F_impl_product p_ s207.2 s_.2.2.2.2.2.1 s_.2.2.1).bind fun y273 =>
          (appO s207.1 [(s_.2.2.1, y273)]).bind fun a283 =>
          (F_impl_product p_ s207.2 s_.2.2.2.1 s_.1).bind fun y288 =>
          some (a283, y288))).bind fun (s261 : (List (Int × List (List Int))) × List (List Int)) =>
      some (s261.1, s261.2)) n_.toNat 0 (([] : List (Int × List (List Int))), y11)).bind fun (s314 : (List (Int × List (List Int))) × List (List Int)) =>
  some s314.1

noncomputable def F_impl_MarkovParameters (p_ : Int) (s_ : Int × Int × Int × List (List Int) × List (List Int) × List (List Int) × List (List Int)) (n_ : Int) : Option ((List (Int × List (List Int))) × Bool) :=
  ((F_impl_isStateSpace p_ (s_.1, s_.2.1, s_.2.2.1, s_.2.2.2.1, s_.2.2.2.2.1, s_.2.2.2.2.2.1, s_.2.2.2.2.2.2)).bind fun y27 =>
    (some (!y27)).bind fun a30 =>
    cond a30
    (some true)
    ((F_impl_within n_ 0 60).bind fun y33 =>
      (some (!y33)).bind fun a36 =>
      some a36)).bind fun (s21 : Bool) =>
  cond s21
  (some ([], false))
  ((F_impl_StateSpace_markov (s_.1, s_.2.1, s_.2.2.1, s_.2.2.2.1, s_.2.2.2.2.1, s_.2.2.2.2.2.1, s_.2.2.2.2.2.2) p_ n_).bind fun y42 =>
    some (y42, true))

noncomputable def F_laws_eqIntS (a_ : List Int) (b_ : List Int) : Option Bool :=
  (some (!decide (((a_.length : Nat) : Int) = ((b_.length : Nat) : Int)))).bind fun a3 =>
  cond a3
  (some false)
  (seqO (whileO (fun (s166 : Int) =>
        (some (decide (s166 < ((a_.length : Nat) : Int)))).bind fun a175 =>
        cond a175
        ((idxO a_ s166).bind fun a187 =>
          (idxO b_ s166).bind fun a195 =>
          (some (!decide (a187 = a195))).bind fun a197 =>
          cond a197
          (some (.inr (.inr false)))
          ((addO s166 1).bind fun a200 =>
            some (.inl a200)))
        (some (.inr (.inl ())))) 0) fun (s102 : Unit) =>
    some true)

noncomputable def F_laws_eqIntSS (a_ : List (List Int)) (b_ : List (List Int)) : Option Bool :=
  (some (!decide (((a_.length : Nat) : Int) = ((b_.length : Nat) : Int)))).bind fun a3 =>
  cond a3
  (some false)
  (seqO (whileO (fun (s201 : Int) =>
        (some (decide (s201 < ((a_.length : Nat) : Int)))).bind fun a210 =>
        cond a210
        ((idxO a_ s201).bind fun a222 =>
          (idxO b_ s201).bind fun a232 =>
          (F_laws_eqIntS a222 a232).bind fun y236 =>
          (some (!y236)).bind fun a239 =>
          cond a239
          (some (.inr (.inr false)))
          ((addO s201 1).bind fun a242 =>
            some (.inl a242)))
        (some (.inr (.inl ())))) 0) fun (s123 : Unit) =>
    some true)

noncomputable def F_laws_eqMatrix (a_ : Int × List (List Int)) (b_ : Int × List (List Int)) : Option Bool :=
  (some (!decide (a_.1 = b_.1))).bind fun a9 =>
  cond a9
  (some false)
  ((F_laws_eqIntSS a_.2 b_.2).bind fun y12 =>
    (some (!y12)).bind fun a15 =>
    cond a15
    (some false)
    (some true))

noncomputable def F_laws_eqMatrixS (a_ : List (Int × List (List Int))) (b_ : List (Int × List (List Int))) : Option Bool :=
  (some (!decide (((a_.length : Nat) : Int) = ((b_.length : Nat) : Int)))).bind fun a3 =>
  cond a3
  (some false)
  (seqO (whileO (fun (s221 : Int) =>
        (some (decide (s221 < ((a_.length : Nat) : Int)))).bind fun a230 =>
        cond a230
        ((idxO a_ s221).bind fun a242 =>
          (idxO b_ s221).bind fun a254 =>
          (F_laws_eqMatrix (a242.1, a242.2) (a254.1, a254.2)).bind fun y260 =>
          (some (!y260)).bind fun a263 =>
          cond a263
          (some (.inr (.inr false)))
          ((addO s221 1).bind fun a266 =>
            some (.inl a266)))
        (some (.inr (.inl ())))) 0) fun (s135 : Unit) =>
    some true)

noncomputable def F_laws_eqStateSpace (a_ : Int × Int × Int × List (List Int) × List (List Int) × List (List Int) × List (List Int)) (b_ : Int × Int × Int × List (List Int) × List (List Int) × List (List Int) × List (List Int)) : Option Bool :=
  (some (!decide (a_.1 = b_.1))).bind fun a15 =>
  cond a15
  (some false)
  ((some (!decide (a_.2.1 = b_.2.1))).bind fun a18 =>
    cond a18
    (some false)
    ((some (!decide (a_.2.2.1 = b_.2.2.1))).bind fun a21 =>
      cond a21
      (some false)
      ((F_laws_eqIntSS a_.2.2.2.1 b_.2.2.2.1).bind fun y24 =>
        (some (!y24)).bind fun a27 =>
        cond a27
        (some false)
        ((F_laws_eqIntSS a_.2.2.2.2.1 b_.2.2.2.2.1).bind fun y30 =>
          (some (!y30)).bind fun a33 =>
          cond a33
          (some false)
          ((F_laws_eqIntSS a_.2.2.2.2.2.1 b_.2.2.2.2.2.1).bind fun y36 =>
            (some (!y36)).bind fun a39 =>
            cond a39
            (some false)
            ((F_laws_eqIntSS a_.2.2.2.2.2.2 b_.2.2.2.2.2.2).bind fun y42 =>
              (some (!y42)).bind fun a45 =>
              cond a45
              (some false)
              (some true)))))))

noncomputable def F_laws_markIntS (a_ : List Int) (k_ : Int) : Option (List Int × Int) :=
  (whileO (fun (s111 : List Int × Int × Int) =>
      (some (decide (s111.2.2 < ((s111.1.length : Nat) : Int)))).bind fun a120 =>
      cond a120
      ((setO s111.1 s111.2.2 s111.2.1).bind fun a131 =>
        (addO s111.2.1 1).bind fun a134 =>
        (addO s111.2.2 1).bind fun a136 =>
        some (.inl (a131, a134, a136)))
      (some (.inr (s111.1, s111.2.1)))) (a_, k_, 0)).bind fun (s67 : List Int × Int) =>
  some (s67.1, s67.2)

noncomputable def F_laws_markIntSS (a_ : List (List Int)) (k_ : Int) : Option (List (List Int) × Int) :=
  (whileO (fun (s131 : List (List Int) × Int × Int) =>
      (some (decide (s131.2.2 < ((s131.1.length : Nat) : Int)))).bind fun a140 =>
      cond a140
      ((idxO s131.1 s131.2.2).bind fun a151 =>
        (F_laws_markIntS a151 s131.2.1).bind fun y154 =>
        (setO s131.1 s131.2.2 y154.1).bind fun a158 =>
        (addO s131.2.2 1).bind fun a160 =>
        some (.inl (a158, y154.2, a160)))
      (some (.inr (s131.1, s131.2.1)))) (a_, k_, 0)).bind fun (s79 : List (List Int) × Int) =>
  some (s79.1, s79.2)

noncomputable def F_laws_markStateSpace (a_ : Int × Int × Int × List (List Int) × List (List Int) × List (List Int) × List (List Int)) (k_ : Int) : Option ((Int × Int × Int × List (List Int) × List (List Int) × List (List Int) × List (List Int)) × Int) :=
  (F_laws_markIntSS a_.2.2.2.1 k_).bind fun y8 =>
  (F_laws_markIntSS a_.2.2.2.2.1 y8.2).bind fun y11 =>
  (F_laws_markIntSS a_.2.2.2.2.2.1 y11.2).bind fun y14 =>
  (F_laws_markIntSS a_.2.2.2.2.2.2 y14.2).bind fun y17 =>
  some ((a_.1, a_.2.1, a_.2.2.1, y8.1, y11.1, y14.1, y17.1), y17.2)

noncomputable def F_laws_markMatrixS (a_ : List (Int × List (List Int))) (k_ : Int) : Option ((List (Int × List (List Int))) × Int) :=
  (whileO (fun (s256 : (List (Int × List (List Int))) × Int × Int) =>
      (some (decide (s256.2.2 < ((s256.1.length : Nat) : Int)))).bind fun a265 =>
      cond a265
      ((idxO s256.1 s256.2.2).bind fun a276 =>
        (setO s256.1 s256.2.2 (s256.2.1, a276.2)).bind fun a286 =>
        (addO s256.2.1 1).bind fun a288 =>
        (idxO a286 s256.2.2).bind fun a296 =>
        (F_laws_markIntSS a296.2 a288).bind fun y300 =>
        (setO a286 s256.2.2 (a296.1, y300.1)).bind fun a308 =>
        (addO s256.2.2 1).bind fun a310 =>
        some (.inl (a308, y300.2, a310)))
      (some (.inr (s256.1, s256.2.1)))) (a_, k_, 0)).bind fun (s154 : (List (Int × List (List Int))) × Int) =>
  some (s154.1, s154.2)

noncomputable def F_laws_heldIntS (a_ : List Int) (k_ : Int) : Option Int :=
  seqO (whileO (fun (s127 : Int × Int) =>
      (some (decide (s127.2 < ((a_.length : Nat) : Int)))).bind fun a136 =>
      cond a136
      ((idxO a_ s127.2).bind fun a147 =>
        (some (!decide (a147 = s127.1))).bind fun a149 =>
        cond a149
        (some (.inr (.inr (-1))))
        ((addO s127.1 1).bind fun a152 =>
          (addO s127.2 1).bind fun a154 =>
          some (.inl (a152, a154))))
      (some (.inr (.inl s127.1)))) (k_, 0)) fun (s77 : Int) =>
  some s77

noncomputable def F_laws_heldIntSS (a_ : List (List Int)) (k_ : Int) : Option Int :=
  seqO (whileO (fun (s142 : Int × Int) =>
      (some (decide (s142.2 < ((a_.length : Nat) : Int)))).bind fun a151 =>
      cond a151
      ((idxO a_ s142.2).bind fun a162 =>
        (F_laws_heldIntS a162 s142.1).bind fun y166 =>
        (some (decide (y166 < 0))).bind fun a169 =>
        cond a169
        (some (.inr (.inr (-1))))
        ((addO s142.2 1).bind fun a172 =>
          some (.inl (y166, a172))))
      (some (.inr (.inl s142.1)))) (k_, 0)) fun (s86 : Int) =>
  some s86

noncomputable def F_laws_heldMatrixS (a_ : List (Int × List (List Int))) (k_ : Int) : Option Int :=
  seqO (whileO (fun (s243 : Int × Int) =>
      (some (decide (s243.2 < ((a_.length : Nat) : Int)))).bind fun a252 =>
      cond a252
      ((idxO a_ s243.2).bind fun a263 =>
        (some (!decide (a263.1 = s243.1))).bind fun a269 =>
        cond a269
        (some (.inr (.inr (-1))))
        ((addO s243.1 1).bind fun a272 =>
          (idxO a_ s243.2).bind fun a280 =>
          (F_laws_heldIntSS a280.2 a272).bind fun y286 =>
          (some (decide (y286 < 0))).bind fun a289 =>
          cond a289
          (some (.inr (.inr (-1))))
          ((addO s243.2 1).bind fun a292 =>
            some (.inl (y286, a292)))))
      (some (.inr (.inl s243.1)))) (k_, 0)) fun (s147 : Int) =>
  some s147

noncomputable def F_laws_FnExactMarkovParameters (aP_ : Int) (aS_ : Int × Int × Int × List (List Int) × List (List Int) × List (List Int) × List (List Int)) (aN_ : Int) : Option Bool :=
  (F_laws_szStateSpace (aS_.1, aS_.2.1, aS_.2.2.1, aS_.2.2.2.1, aS_.2.2.2.2.1, aS_.2.2.2.2.2.1, aS_.2.2.2.2.2.2) 1048576).bind fun y9 =>
  (some (decide (y9 < 0))).bind fun a12 =>
  cond a12
  (some true)
  ((F_laws_toStateSpace (aS_.1, aS_.2.1, aS_.2.2.1, aS_.2.2.2.1, aS_.2.2.2.2.1, aS_.2.2.2.2.2.1, aS_.2.2.2.2.2.2)).bind fun y15 =>
    (F_spec_MarkovParameters aP_ (y15.1, y15.2.1, y15.2.2.1, y15.2.2.2.1, y15.2.2.2.2.1, y15.2.2.2.2.2.1, y15.2.2.2.2.2.2) aN_).bind fun y26 =>
    (F_laws_toStateSpace (aS_.1, aS_.2.1, aS_.2.2.1, aS_.2.2.2.1, aS_.2.2.2.2.1, aS_.2.2.2.2.2.1, aS_.2.2.2.2.2.2)).bind fun y31 =>
    (F_impl_MarkovParameters aP_ (y31.1, y31.2.1, y31.2.2.1, y31.2.2.2.1, y31.2.2.2.2.1, y31.2.2.2.2.2.1, y31.2.2.2.2.2.2) aN_).bind fun y46 =>
    ((F_laws_eqMatrixS y46.1 y26.1).bind fun y66 =>
      (some (!y66)).bind fun a69 =>
      cond a69
      (some true)
      ((some (!decide (y46.2 = y26.2))).bind fun a72 =>
        some a72)).bind fun (s60 : Bool) =>
    cond s60
    (some false)
    ((F_laws_toStateSpace (aS_.1, aS_.2.1, aS_.2.2.1, aS_.2.2.2.1, aS_.2.2.2.2.1, aS_.2.2.2.2.2.1, aS_.2.2.2.2.2.2)).bind fun y79 =>
      (F_laws_eqStateSpace (y31.1, y31.2.1, y31.2.2.1, y31.2.2.2.1, y31.2.2.2.2.1, y31.2.2.2.2.2.1, y31.2.2.2.2.2.2) (y79.1, y79.2.1, y79.2.2.1, y79.2.2.2.1, y79.2.2.2.2.1, y79.2.2.2.2.2.1, y79.2.2.2.2.2.2)).bind fun y90 =>
      (some (!y90)).bind fun a93 =>
      cond a93
      (some false)
      ((F_laws_markStateSpace (y31.1, y31.2.1, y31.2.2.1, y31.2.2.2.1, y31.2.2.2.2.1, y31.2.2.2.2.2.1, y31.2.2.2.2.2.2) 1).bind fun y96 =>
        ((some (decide (y96.2 < 0))).bind fun a118 =>
          cond a118
          (some true)
          ((F_laws_eqMatrixS y46.1 y26.1).bind fun y121 =>
            (some (!y121)).bind fun a124 =>
            cond a124
            (some true)
            ((some (!decide (y46.2 = y26.2))).bind fun a127 =>
              some a127))).bind fun (s112 : Bool) =>
        cond s112
        (some false)
        ((F_laws_markMatrixS y46.1 1).bind fun y134 =>
          (F_laws_heldMatrixS y134.1 1).bind fun y137 =>
          (some (decide (y137 < 0))).bind fun a140 =>
          cond a140
          (some false)
          ((some (!decide (y137 = y134.2))).bind fun a143 =>
            cond a143
            (some false)
            ((F_laws_toStateSpace (aS_.1, aS_.2.1, aS_.2.2.1, aS_.2.2.2.1, aS_.2.2.2.2.1, aS_.2.2.2.2.2.1, aS_.2.2.2.2.2.2)).bind fun y146 =>
              (F_impl_MarkovParameters aP_ (y146.1, y146.2.1, y146.2.2.1, y146.2.2.2.1, y146.2.2.2.2.1, y146.2.2.2.2.2.1, y146.2.2.2.2.2.2) aN_).bind fun y157 =>
              ((F_laws_eqMatrixS y157.1 y26.1).bind fun y177 =>
                (some (!y177)).bind fun a180 =>
                cond a180
                (some true)
                ((some (!decide (y157.2 = y26.2))).bind fun a183 =>
                  some a183)).bind fun (s171 : Bool) =>
              cond s171
              (some false)
              ((F_laws_heldMatrixS y134.1 1).bind fun y189 =>
                (some (decide (y189 < 0))).bind fun a192 =>
                cond a192
                (some false)
                ((some (!decide (y189 = y134.2))).bind fun a195 =>
                  cond a195
                  (some false)
                  (some true)))))))))

noncomputable def F_spec_ssTwo (p_ : Int) (a_ : Int × Int × Int × List (List Int) × List (List Int) × List (List Int) × List (List Int)) (b_ : Int × Int × Int × List (List Int) × List (List Int) × List (List Int) × List (List Int)) : Option Bool :=
  ((F_spec_ssGood p_ (a_.1, a_.2.1, a_.2.2.1, a_.2.2.2.1, a_.2.2.2.2.1, a_.2.2.2.2.2.1, a_.2.2.2.2.2.2)).bind fun y37 =>
    cond y37
    ((F_spec_ssGood p_ (b_.1, b_.2.1, b_.2.2.1, b_.2.2.2.1, b_.2.2.2.2.1, b_.2.2.2.2.2.1, b_.2.2.2.2.2.2)).bind fun y42 =>
      cond y42
      ((some (decide (a_.2.1 = b_.2.1))).bind fun a47 =>
        cond a47
        ((some (decide (a_.2.2.1 = b_.2.2.1))).bind fun a51 =>
          some a51)
        (some false))
      (some false))
    (some false)).bind fun (s31 : Bool) =>
  some s31

noncomputable def F_spec_l1Same (a_ : List Int) (b_ : List Int) : Option Bool :=
  (some (!decide (((a_.length : Nat) : Int) = ((b_.length : Nat) : Int)))).bind fun a3 =>
  cond a3
  (some false)
  (seqO (forO (fun (k6 : Nat) (_ : Unit) =>
        (idxO a_ ((k6 : Nat) : Int)).bind fun a46 =>
        (idxO b_ ((k6 : Nat) : Int)).bind fun a54 =>
        (some (!decide (a46 = a54))).bind fun a56 =>
        cond a56
        (some (.inr false))
        (some (.inl ()))) a_.length 0 ()) fun (_ : Unit) =>
    some true)

noncomputable def F_spec_spSame (a_ : List (List Int)) (b_ : List (List Int)) : Option Bool :=
  (some (!decide (((a_.length : Nat) : Int) = ((b_.length : Nat) : Int)))).bind fun a3 =>
  cond a3
  (some false)
  (seqO (forO (fun (k6 : Nat) (_ : Unit) =>
        (idxO a_ ((k6 : Nat) : Int)).bind fun a53 =>
        (idxO b_ ((k6 : Nat) : Int)).bind fun a63 =>
        (F_spec_l1Same a53 a63).bind fun y67 =>
        (some (!y67)).bind fun a70 =>
        cond a70
        (some (.inr false))
        (some (.inl ()))) a_.length 0 ()) fun (_ : Unit) =>
    some true)

noncomputable def F_spec_ssSame (p_ : Int) (a_ : Int × Int × Int × List (List Int) × List (List Int) × List (List Int) × List (List Int)) (b_ : Int × Int × Int × List (List Int) × List (List Int) × List (List Int) × List (List Int)) : Option Bool :=
  (addO a_.1 b_.1).bind fun a15 =>
  (addO a15 1).bind fun a17 =>
  (F_spec_ssMarkov p_ (a_.1, a_.2.1, a_.2.2.1, a_.2.2.2.1, a_.2.2.2.2.1, a_.2.2.2.2.2.1, a_.2.2.2.2.2.2) a17).bind fun y20 =>
  (F_spec_ssMarkov p_ (b_.1, b_.2.1, b_.2.2.1, b_.2.2.2.1, b_.2.2.2.2.1, b_.2.2.2.2.2.1, b_.2.2.2.2.2.2) a17).bind fun y25 =>
  seqO (forO (fun (k30 : Nat) (_ : Unit) =>
      (idxO y20 ((k30 : Nat) : Int)).bind fun a77 =>
      (idxO y25 ((k30 : Nat) : Int)).bind fun a87 =>
      (F_spec_spSame a77.2 a87.2).bind fun y91 =>
      (some (!y91)).bind fun a94 =>
      cond a94
      (some (.inr false))
      (some (.inl ()))) y20.length 0 ()) fun (_ : Unit) =>
  some true

noncomputable def F_spec_SameOutputs (p_ : Int) (a_ : Int × Int × Int × List (List Int) × List (List Int) × List (List Int) × List (List Int)) (b_ : Int × Int × Int × List (List Int) × List (List Int) × List (List Int) × List (List Int)) : Option (Bool × Bool) :=
  (F_spec_ssTwo p_ (a_.1, a_.2.1, a_.2.2.1, a_.2.2.2.1, a_.2.2.2.2.1, a_.2.2.2.2.2.1, a_.2.2.2.2.2.2) (b_.1, b_.2.1, b_.2.2.1, b_.2.2.2.1, b_.2.2.2.2.1, b_.2.2.2.2.2.1, b_.2.2.2.2.2.2)).bind fun y15 =>
  (some (!y15)).bind fun a18 =>
  cond a18
  (some (false, false))
  ((F_spec_ssSame p_ (a_.1, a_.2.1, a_.2.2.1, a_.2.2.2.1, a_.2.2.2.2.1, a_.2.2.2.2.2.1, a_.2.2.2.2.2.2) (b_.1, b_.2.1, b_.2.2.1, b_.2.2.2.1, b_.2.2.2.2.1, b_.2.2.2.2.2.1, b_.2.2.2.2.2.2)).bind fun y21 =>
    some (y21, true))

noncomputable def F_impl_twoStateSpaces (p_ : Int) (a_ : Int × Int × Int × List (List Int) × List (List Int) × List (List Int) × List (List Int)) (b_ : Int × Int × Int × List (List Int) × List (List Int) × List (List Int) × List (List Int)) : Option Bool :=
  ((F_impl_isStateSpace p_ (a_.1, a_.2.1, a_.2.2.1, a_.2.2.2.1, a_.2.2.2.2.1, a_.2.2.2.2.2.1, a_.2.2.2.2.2.2)).bind fun y38 =>
    cond y38
    ((F_impl_isStateSpace p_ (b_.1, b_.2.1, b_.2.2.1, b_.2.2.2.1, b_.2.2.2.2.1, b_.2.2.2.2.2.1, b_.2.2.2.2.2.2)).bind fun y43 =>
      cond y43
      ((some (decide (a_.2.1 = b_.2.1))).bind fun a48 =>
        cond a48
        ((some (decide (a_.2.2.1 = b_.2.2.1))).bind fun a52 =>
          some a52)
        (some false))
      (some false))
    (some false)).bind fun (s32 : Bool) =>
  some s32

noncomputable def F_slices_Equal_int_int (s1_ : List Int) (s2_ : List Int) : Option Bool :=
  (some (!decide (((s1_.length : Nat) : Int) = ((s2_.length : Nat) : Int)))).bind fun a3 =>
  cond a3
  (some false)
  (seqO (forO (fun (k6 : Nat) (_ : Unit) =>
        (idxO s1_ ((k6 : Nat) : Int)).bind fun a46 =>
        (idxO s2_ ((k6 : Nat) : Int)).bind fun a54 =>
        (some (!decide (a46 = a54))).bind fun a56 =>
        cond a56
        (some (.inr false))
        (some (.inl ()))) s1_.length 0 ()) fun (_ : Unit) =>
    some true)

noncomputable def F_slices_EqualFunc_int_int_int_int_slices_Equal_int_int (s1_ : List (List Int)) (s2_ : List (List Int)) : Option Bool :=
  (some (!decide (((s1_.length : Nat) : Int) = ((s2_.length : Nat) : Int)))).bind fun a3 =>
  cond a3
  (some false)
  (seqO (forO (fun (k6 : Nat) (_ : Unit) =>
        (idxO s1_ ((k6 : Nat) : Int)).bind fun a51 =>
        (idxO s2_ ((k6 : Nat) : Int)).bind fun a61 =>
        (F_slices_Equal_int_int a51 a61).bind fun y65 =>
        (some (!y65)).bind fun a68 =>
        cond a68
        (some (.inr false))
        (some (.inl ()))) s1_.length 0 ()) fun (_ : Unit) =>
    some true)

noncomputable def F_impl_sameRows (a_ : List (List Int)) (b_ : List (List Int)) : Option Bool :=
  (F_slices_EqualFunc_int_int_int_int_slices_Equal_int_int a_ b_).bind fun y3 =>
  some y3

noncomputable def F_impl_equalMatrices (a_ : Int × List (List Int)) (b_ : Int × List (List Int)) : Option Bool :=
  ((some (decide (a_.1 = b_.1))).bind fun a22 =>
    cond a22
    ((F_impl_sameRows a_.2 b_.2).bind fun y26 =>
      some y26)
    (some false)).bind fun (s16 : Bool) =>
  some s16

noncomputable def F_slices_EqualFunc_impl_Matrix_impl_Matrix_impl_Matrix_impl_Matrix_impl_equalMatrices (s1_ : List (Int × List (List Int))) (s2_ : List (Int × List (List Int))) : Option Bool :=
  (some (!decide (((s1_.length : Nat) : Int) = ((s2_.length : Nat) : Int)))).bind fun a3 =>
  cond a3
  (some false)
  (seqO (forO (fun (k6 : Nat) (_ : Unit) =>
        (idxO s1_ ((k6 : Nat) : Int)).bind fun a63 =>
        (idxO s2_ ((k6 : Nat) : Int)).bind fun a79 =>
        (F_impl_equalMatrices (a63.1, a63.2) (a79.1, a79.2)).bind fun y89 =>
        (some (!y89)).bind fun a92 =>
        cond a92
        (some (.inr false))
        (some (.inl ()))) s1_.length 0 ()) fun (_ : Unit) =>
    some true)

noncomputable def F_impl_sameOutputs (p_ : Int) (a_ : Int × Int × Int × List (List Int) × List (List Int) × List (List Int) × List (List Int)) (b_ : Int × Int × Int × List (List Int) × List (List Int) × List (List Int) × List (List Int)) : Option Bool :=
  (addO a_.1 b_.1).bind fun a15 =>
  (addO a15 1).bind fun a17 =>
  (F_impl_StateSpace_markov (a_.1, a_.2.1, a_.2.2.1, a_.2.2.2.1, a_.2.2.2.2.1, a_.2.2.2.2.2.1, a_.2.2.2.2.2.2) p_ a17).bind fun y20 =>
  (F_impl_StateSpace_markov (b_.1, b_.2.1, b_.2.2.1, b_.2.2.2.1, b_.2.2.2.2.1, b_.2.2.2.2.2.1, b_.2.2.2.2.2.2) p_ a17).bind fun y25 =>
  (F_slices_EqualFunc_impl_Matrix_impl_Matrix_impl_Matrix_impl_Matrix_impl_equalMatrices y20 y25).bind fun y30 =>
  some y30

noncomputable def F_impl_SameOutputs (p_ : Int) (a_ : Int × Int × Int × List (List Int) × List (List Int) × List (List Int) × List (List Int)) (b_ : Int × Int × Int × List (List Int) × List (List Int) × List (List Int) × List (List Int)) : Option (Bool × Bool) :=
  (F_impl_twoStateSpaces p_ (a_.1, a_.2.1, a_.2.2.1, a_.2.2.2.1, a_.2.2.2.2.1, a_.2.2.2.2.2.1, a_.2.2.2.2.2.2) (b_.1, b_.2.1, b_.2.2.1, b_.2.2.2.1, b_.2.2.2.2.1, b_.2.2.2.2.2.1, b_.2.2.2.2.2.2)).bind fun y16 =>
  (some (!y16)).bind fun a19 =>
  cond a19
  (some (false, false))
  ((F_impl_sameOutputs p_ (a_.1, a_.2.1, a_.2.2.1, a_.2.2.2.1, a_.2.2.2.2.1, a_.2.2.2.2.2.1, a_.2.2.2.2.2.2) (b_.1, b_.2.1, b_.2.2.1, b_.2.2.2.1, b_.2.2.2.2.1, b_.2.2.2.2.2.1, b_.2.2.2.2.2.2)).bind fun y22 =>
    some (y22, true))

noncomputable def F_laws_FnExactSameOutputs (aP_ : Int) (aA_ : Int × Int × Int × List (List Int) × List (List Int) × List (List Int) × List (List Int)) (aB_ : Int × Int × Int × List (List Int) × List (List Int) × List (List Int) × List (List Int)) : Option Bool :=
  (F_laws_szStateSpace (aA_.1, aA_.2.1, aA_.2.2.1, aA_.2.2.2.1, aA_.2.2.2.2.1, aA_.2.2.2.2.2.1, aA_.2.2.2.2.2.2) 1048576).bind fun y16 =>
  (some (decide (y16 < 0))).bind fun a19 =>
  cond a19
  (some true)
  ((F_laws_szStateSpace (aB_.1, aB_.2.1, aB_.2.2.1, aB_.2.2.2.1, aB_.2.2.2.2.1, aB_.2.2.2.2.2.1, aB_.2.2.2.2.2.2) y16).bind fun y22 =>
    (some (decide (y22 < 0))).bind fun a25 =>
    cond a25
    (some true)
    ((F_laws_toStateSpace (aA_.1, aA_.2.1, aA_.2.2.1, aA_.2.2.2.1, aA_.2.2.2.2.1, aA_.2.2.2.2.2.1, aA_.2.2.2.2.2.2)).bind fun y29 =>
      (F_laws_toStateSpace (aB_.1, aB_.2.1, aB_.2.2.1, aB_.2.2.2.1, aB_.2.2.2.2.1, aB_.2.2.2.2.2.1, aB_.2.2.2.2.2.2)).bind fun y40 =>
      (F_spec_SameOutputs aP_ (y29.1, y29.2.1, y29.2.2.1, y29.2.2.2.1, y29.2.2.2.2.1, y29.2.2.2.2.2.1, y29.2.2.2.2.2.2) (y40.1, y40.2.1, y40.2.2.1, y40.2.2.2.1, y40.2.2.2.2.1, y40.2.2.2.2.2.1, y40.2.2.2.2.2.2)).bind fun y51 =>
      (F_laws_toStateSpace (aA_.1, aA_.2.1, aA_.2.2.1, aA_.2.2.2.1, aA_.2.2.2.2.1, aA_.2.2.2.2.2.1, aA_.2.2.2.2.2.2)).bind fun y54 =>
      (F_laws_toStateSpace (aB_.1, aB_.2.1, aB_.2.2.1, aB_.2.2.2.1, aB_.2.2.2.2.1, aB_.2.2.2.2.2.1, aB_.2.2.2.2.2.2)).bind fun y69 =>
      (F_impl_SameOutputs aP_ (y54.1, y54.2.1, y54.2.2.1, y54.2.2.2.1, y54.2.2.2.2.1, y54.2.2.2.2.2.1, y54.2.2.2.2.2.2) (y69.1, y69.2.1, y69.2.2.1, y69.2.2.2.1, y69.2.2.2.2.1, y69.2.2.2.2.2.1, y69.2.2.2.2.2.2)).bind fun y84 =>
      ((some (!decide (y84.1 = y51.1))).bind fun a99 =>
        cond a99
        (some true)
        ((some (!decide (y84.2 = y51.2))).bind fun a102 =>
          some a102)).bind fun (s93 : Bool) =>
      cond s93
      (some false)
      ((F_laws_toStateSpace (aA_.1, aA_.2.1, aA_.2.2.1, aA_.2.2.2.1, aA_.2.2.2.2.1, aA_.2.2.2.2.2.1, aA_.2.2.2.2.2.2)).bind fun y109 =>
        (F_laws_eqStateSpace (y54.1, y54.2.1, y54.2.2.1, y54.2.2.2.1, y54.2.2.2.2.1, y54.2.2.2.2.2.1, y54.2.2.2.2.2.2) (y109.1, y109.2.1, y109.2.2.1, y109.2.2.2.1, y109.2.2.2.2.1, y109.2.2.2.2.2.1, y109.2.2.2.2.2.2)).bind fun y120 =>
        (some (!y120)).bind fun a123 =>
        cond a123
        (some false)
        ((F_laws_toStateSpace (aB_.1, aB_.2.1, aB_.2.2.1, aB_.2.2.2.1, aB_.2.2.2.2.1, aB_.2.2.2.2.2.1, aB_.2.2.2.2.2.2)).bind fun y127 =>
          (F_laws_eqStateSpace (y69.1, y69.2.1, y69.2.2.1, y69.2.2.2.1, y69.2.2.2.2.1, y69.2.2.2.2.2.1, y69.2.2.2.2.2.2) (y127.1, y127.2.1, y127.2.2.1, y127.2.2.2.1, y127.2.2.2.2.1, y127.2.2.2.2.2.1, y127.2.2.2.2.2.2)).bind fun y138 =>
          (some (!y138)).bind fun a141 =>
          cond a141
          (some false)
          (some true)))))
end Go.Proofs.YtnlbhdepagkjgaaDoor
