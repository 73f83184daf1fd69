/-
  Partial functions, printed by a program (wip/y/gen.py): what each function of Go computes, over plain data. No program in sight. No condition.
-/
import Derived.Test.YtnlbhdepagkjgaaDoorZF
namespace Go.Proofs.YtnlbhdepagkjgaaDoor
set_option linter.unusedVariables false

noncomputable def F_laws_szIntS (a_ : List Int) (left_ : Int) : Option Int :=
  (subO left_ ((a_.length : Nat) : Int)).bind fun a2 =>
  (some (decide (a2 < 0))).bind fun a4 =>
  cond a4
  (some (-1))
  (some a2)

noncomputable def F_laws_szIntSS (a_ : List (List Int)) (left_ : Int) : Option Int :=
  (subO left_ ((a_.length : Nat) : Int)).bind fun a2 =>
  (some (decide (a2 < 0))).bind fun a4 =>
  cond a4
  (some (-1))
  (seqO (whileO (fun (s147 : Int × Int) =>
        (some (decide (s147.2 < ((a_.length : Nat) : Int)))).bind fun a156 =>
        cond a156
        ((idxO a_ s147.2).bind fun a167 =>
          (F_laws_szIntS a167 s147.1).bind fun y171 =>
          (some (decide (y171 < 0))).bind fun a174 =>
          cond a174
          (some (.inr (.inr (-1))))
          ((addO s147.2 1).bind fun a177 =>
            some (.inl (y171, a177))))
        (some (.inr (.inl s147.1)))) (a2, 0)) fun (s91 : Int) =>
    some s91)

noncomputable def F_laws_szMatrix (a_ : Int × List (List Int)) (left_ : Int) : Option Int :=
  (F_laws_szIntSS a_.2 left_).bind fun y5 =>
  (some (decide (y5 < 0))).bind fun a8 =>
  cond a8
  (some (-1))
  (some y5)

noncomputable def F_laws_toIntS (a_ : List Int) : Option (List Int) :=
  (makeO ((a_.length : Nat) : Int) (0 : Int)).bind fun a2 =>
  (whileO (fun (s146 : List Int × Int) =>
      (some (decide (s146.2 < ((a_.length : Nat) : Int)))).bind fun a155 =>
      cond a155
      ((idxO a_ s146.2).bind fun a166 =>
        (setO s146.1 s146.2 a166).bind fun a174 =>
        (addO s146.2 1).bind fun a177 =>
        some (.inl (a174, a177)))
      (some (.inr s146.1))) (a2, 0)).bind fun (s90 : List Int) =>
  some s90

noncomputable def F_laws_toIntSS (a_ : List (List Int)) : Option (List (List Int)) :=
  (makeO ((a_.length : Nat) : Int) ([] : List Int)).bind fun a2 =>
  (whileO (fun (s181 : List (List Int) × Int) =>
      (some (decide (s181.2 < ((a_.length : Nat) : Int)))).bind fun a190 =>
      cond a190
      ((idxO a_ s181.2).bind fun a201 =>
        (F_laws_toIntS a201).bind fun y205 =>
        (setO s181.1 s181.2 y205).bind fun a216 =>
        (addO s181.2 1).bind fun a219 =>
        some (.inl (a216, a219)))
      (some (.inr s181.1))) (a2, 0)).bind fun (s111 : List (List Int)) =>
  some s111

noncomputable def F_laws_toMatrix (a_ : Int × List (List Int)) : Option (Int × List (List Int)) :=
  (F_laws_toIntSS a_.2).bind fun y12 =>
  some (a_.1, y12)

noncomputable def F_spec_l1In (n_ : Int) (lo_ : Int) (hi_ : Int) : Option Bool :=
  ((some (decide (lo_ ≤ n_))).bind fun a13 =>
    cond a13
    ((some (decide (n_ ≤ hi_))).bind fun a17 =>
      some a17)
    (some false)).bind fun (s7 : Bool) =>
  some s7

noncomputable def F_spec_fdGood (p_ : Int) : Option Bool :=
  (F_spec_l1In p_ 2 97).bind fun y1 =>
  (some (!y1)).bind fun a4 =>
  cond a4
  (some false)
  (seqO (whileO (fun (s102 : Int) =>
        (mulO s102 s102).bind fun a111 =>
        (some (decide (a111 ≤ p_))).bind fun a113 =>
        cond a113
        ((remO p_ s102).bind fun a118 =>
          (some (decide (a118 = 0))).bind fun a120 =>
          cond a120
          (some (.inr (.inr false)))
          ((addO s102 1).bind fun a123 =>
            some (.inl a123)))
        (some (.inr (.inl ())))) 2) fun (s64 : Unit) =>
    some true)

noncomputable def F_spec_l1All (l_ : List Int) (lo_ : Int) (hi_ : Int) : Option Bool :=
  seqO (forO (fun (k2 : Nat) (_ : Unit) =>
      (idxO l_ ((k2 : Nat) : Int)).bind fun a35 =>
      (F_spec_l1In a35 lo_ hi_).bind fun y37 =>
      (some (!y37)).bind fun a40 =>
      cond a40
      (some (.inr false))
      (some (.inl ()))) l_.length 0 ()) fun (_ : Unit) =>
  some true

noncomputable def F_spec_fdIn (p_ : Int) (l_ : List Int) : Option Bool :=
  (subO p_ 1).bind fun a2 =>
  (F_spec_l1All l_ 0 a2).bind fun y4 =>
  some y4

noncomputable def F_spec_mxGood (p_ : Int) (m_ : Int × List (List Int)) : Option Bool :=
  ((F_spec_fdGood p_).bind fun y27 =>
    (some (!y27)).bind fun a30 =>
    cond a30
    (some true)
    ((F_spec_l1In m_.1 0 24).bind fun y33 =>
      (some (!y33)).bind fun a36 =>
      cond a36
      (some true)
      ((some (decide ((24 : Int) < ((m_.2.length : Nat) : Int)))).bind fun a39 =>
        some a39))).bind fun (s21 : Bool) =>
  cond s21
  (some false)
  (seqO (forO (fun (k46 : Nat) (_ : Unit) =>
        (idxO m_.2 ((k46 : Nat) : Int)).bind fun a102 =>
        ((some (!decide (((a102.length : Nat) : Int) = m_.1))).bind fun a121 =>
          cond a121
          (some true)
          ((F_spec_fdIn p_ a102).bind fun y124 =>
            (some (!y124)).bind fun a127 =>
            some a127)).bind fun (s115 : Bool) =>
        cond s115
        (some (.inr false))
        (some (.inl ()))) m_.2.length 0 ()) fun (_ : Unit) =>
    some true)

noncomputable def F_spec_l1Own (l_ : List Int) : Option (List Int) :=
  (appO ([] : List Int) l_).bind fun a5 =>
  some a5

noncomputable def F_spec_mxCopy (m_ : Int × List (List Int)) : Option (Int × List (List Int)) :=
  (forS (fun (k12 : Nat) (s69 : List (List Int)) =>
      (idxO m_.2 ((k12 : Nat) : Int)).bind fun a86 =>
      (F_spec_l1Own a86).bind fun y91 =>
      (appO s69 [y91]).bind fun a99 =>
      some a99) m_.2.length 0 []).bind fun (s107 : List (List Int)) =>
  some (m_.1, s107)

noncomputable def F_spec_mxZero (rows_ : Int) (cols_ : Int) : Option (Int × List (List Int)) :=
  (makeO rows_ ([] : List Int)).bind fun a4 =>
  (forS (fun (k13 : Nat) (s48 : List (List Int)) =>
      (makeO cols_ (0 : Int)).bind fun a58 =>
      (setO s48 ((k13 : Nat) : Int) a58).bind fun a69 =>
      some a69) a4.length 0 a4).bind fun (s74 : List (List Int)) =>
  some (cols_, s74)

noncomputable def F_spec_mxId (n_ : Int) : Option (Int × List (List Int)) :=
  (F_spec_mxZero n_ n_).bind fun y4 =>
  (whileO (fun (s172 : List (List Int) × Int) =>
      (some (decide (s172.2 < n_))).bind fun a181 =>
      cond a181
      ((idxO s172.1 s172.2).bind fun a192 =>
        (setO a192 s172.2 1).bind fun a202 =>
        (setO s172.1 s172.2 a202).bind fun a205 =>
        (addO s172.2 1).bind fun a207 =>
        some (.inl (a205, a207)))
      (some (.inr s172.1))) (y4.2, 0)).bind fun (s108 : List (List Int)) =>
  some (y4.1, s108)

noncomputable def F_spec_fdNeg (p_ : Int) (a_ : Int) : Option Int :=
  (subO p_ a_).bind fun a1 =>
  (remO a1 p_).bind fun a3 =>
  some a3

noncomputable def F_spec_fdMul (p_ : Int) (a_ : Int) (b_ : Int) : Option Int :=
  (mulO a_ b_).bind fun a1 =>
  (remO a1 p_).bind fun a3 =>
  some a3

noncomputable def F_spec_fdInv (p_ : Int) (a_ : Int) : Option Int :=
  seqO (whileO (fun (s96 : Int) =>
      (some (decide (s96 < p_))).bind fun a105 =>
      cond a105
      ((mulO a_ s96).bind fun a110 =>
        (remO a110 p_).bind fun a112 =>
        (some (decide (a112 = 1))).bind fun a114 =>
        cond a114
        (some (.inr (.inr s96)))
        ((addO s96 1).bind fun a117 =>
          some (.inl a117)))
      (some (.inr (.inl ())))) 1) fun (s58 : Unit) =>
  some 0

noncomputable def F_spec_mxScale (p_ : Int) (r_ : List Int) (k_ : Int) : Option (List Int) :=
  (forS (fun (k2 : Nat) (s47 : List Int) =>
      (idxO s47 ((k2 : Nat) : Int)).bind fun a62 =>
      (F_spec_fdMul p_ a62 k_).bind fun y64 =>
      (setO s47 ((k2 : Nat) : Int) y64).bind fun a73 =>
      some a73) r_.length 0 r_).bind fun (s78 : List Int) =>
  some s78

noncomputable def F_spec_fdSub (p_ : Int) (a_ : Int) (b_ : Int) : Option Int :=
  (addO a_ p_).bind fun a1 =>
  (subO a1 b_).bind fun a3 =>
  (remO a3 p_).bind fun a5 =>
  some a5

noncomputable def F_spec_mxLess (p_ : Int) (r_ : List Int) (s_ : List Int) (k_ : Int) : Option (List Int) :=
  (forS (fun (k3 : Nat) (s72 : List Int) =>
      (idxO s72 ((k3 : Nat) : Int)).bind fun a88 =>
      (idxO s_ ((k3 : Nat) : Int)).bind fun a96 =>
      (F_spec_fdMul p_ k_ a96).bind fun y98 =>
      (F_spec_fdSub p_ a88 y98).bind fun y101 =>
      (setO s72 ((k3 : Nat) : Int) y101).bind fun a110 =>
      some a110) r_.length 0 r_).bind fun (s115 : List Int) =>
  some s115

noncomputable def F_spec_mxReduce (p_ : Int) (m_ : Int × List (List Int)) : Option ((Int × List (List Int)) × (Int × List (List Int)) × Int × Int) :=
  ((F_spec_mxCopy (m_.1, m_.2)).bind fun y228 =>
    (F_spec_mxId ((m_.2.length : Nat) : Int)).bind fun y246 =>
    some (y228.1, y228.2, y246.1, y246.2)).bind fun (s199 : Int × List (List Int) × Int × List (List Int)) =>
  (whileO (fun (s9763 : List (List Int) × List (List Int) × Int × Int × Int) =>
      (some (decide (s9763.2.2.2.2 < m_.1))).bind fun a9772 =>
      cond a9772
      (((whileO (fun (s11024 : Int) =>
              ((some (decide (s11024 < ((s9763.1.length : Nat) : Int)))).bind fun a11062 =>
                cond a11062
                ((idxO s9763.1 s11024).bind fun a11072 =>
                  (idxO a11072 s9763.2.2.2.2).bind fun a11081 =>
                  (some (decide (a11081 = 0))).bind fun a11083 =>
                  some a11083)
                (some false)).bind fun (s11056 : Bool) =>
              cond s11056
              ((addO s11024 1).bind fun a11090 =>
                some (.inl a11090))
              (some (.inr s11024))) s9763.2.2.1).bind fun (s10898 : Int) =>
          (some (decide (s10898 = ((s9763.1.length : Nat) : Int)))).bind fun a11094 =>
          cond a11094
          (some (s9763.1, s9763.2.1, s9763.2.2.1, s9763.2.2.2.1))
          (((some (decide (s9763.2.2.1 < s10898))).bind fun a11181 =>
              cond a11181
              ((idxO s9763.1 s10898).bind fun a11192 =>
                (idxO s9763.2.1 s10898).bind fun a11201 =>
                (idxO s9763.1 s9763.2.2.1).bind fun a11211 =>
                (idxO s9763.2.1 s9763.2.2.1).bind fun a11228 =>
                (swapO s9763.1 s10898 s9763.2.2.1).bind fun a11245 =>
                (swapO s9763.2.1 s10898 s9763.2.2.1).bind fun a11254 =>
                (F_spec_fdNeg p_ s9763.2.2.2.1).bind fun y11256 =>
                some (a11245, a11254, y11256))
              (some (s9763.1, s9763.2.1, s9763.2.2.2.1))).bind fun (s11175 : List (List Int) × List (List Int) × Int) =>
            (idxO s11175.1 s9763.2.2.1).bind fun a11267 =>
            (idxO a11267 s9763.2.2.2.2).bind fun a11276 =>
            (F_spec_fdMul p_ s11175.2.2 a11276).bind fun y11278 =>
            (idxO s11175.1 s9763.2.2.1).bind fun a11288 =>
            (F_spec_fdInv p_ a11276).bind fun y11291 =>
            (F_spec_mxScale p_ a11288 y11291).bind fun y11294 =>
            (setO s11175.1 s9763.2.2.1 y11294).bind fun a11298 =>
            (idxO s11175.2.1 s9763.2.2.1).bind fun a11307 =>
            (F_spec_fdInv p_ a11276).bind fun y11310 =>
            (F_spec_mxScale p_ a11307 y11310).bind fun y11313 =>
            (setO s11175.2.1 s9763.2.2.1 y11313).bind fun a11317 =>
            (forS (fun (k11319 : Nat) (s11522 : List (List Int) × List (List Int)) =>
                (idxO s11522.1 ((k11319 : Nat) : Int)).bind fun a11537 =>
                (idxO a11537 s9763.2.2.2.2).bind fun a11546 =>
                ((some (!decide (((k11319 : Nat) : Int) = s9763.2.2.1))).bind fun a11560 =>
                  cond a11560
                  ((some (!decide (a11546 = 0))).bind fun a11564 =>
                    some a11564)
                  (some false)).bind fun (s11554 : Bool) =>
                cond s11554
                ((idxO s11522.1 ((k11319 : Nat) : Int)).bind fun a11577 =>
                  (idxO s11522.1 s9763.2.2.1).bind fun a11586 =>
                  (F_spec_mxLess p_ a11577 a11586 a11546).bind fun y11589 =>
                  (neqO ((k11319 : Nat) : Int) s9763.2.2.1).bind fun _ =>
                  (setO s11522.1 ((k11319 : Nat) : Int) y11589).bind fun a11598 =>
                  (idxO s11522.2 ((k11319 : Nat) : Int)).bind fun a11607 =>
                  (idxO s11522.2 s9763.2.2.1).bind fun a11616 =>
                  (F_spec_mxLess p_ a11607 a11616 a11546).bind fun y11619 =>
                  (neqO ((k11319 : Nat) : Int) s9763.2.2.1).bind fun _ =>
                  (setO s11522.2 ((k11319 : Nat) : Int) y11619).bind fun a11628 =>
                  some (a11598, a11628))
                (some (s11522.1, s11522.2))) a11298.length 0 (a11298, a11317)).bind fun (s11632 : List (List Int) × List (List Int)) =>
            (addO s9763.2.2.1 1).bind fun a11634 =>
            some (s11632.1, s11632.2, a11634, y11278))).bind fun (s10704 : List (List Int) × List (List Int) × Int × Int) =>
        (addO s9763.2.2.2.2 1).bind fun a11639 =>
        some (.inl (s10704.1, s10704.2.1, s10704.2.2.1, s10704.2.2.2, a11639)))
      (some (.inr (s9763.1, s9763.2.1, s9763.2.2.1, s9763.2.2.2.1)))) (s199.2.1, s199.2.2.2, 0, 1, 0)).bind fun (s6017 : List (List Int) × List (List Int) × Int × Int) =>
  some ((s199.1, s6017.1), (s199.2.2.1, s6017.2.1), s6017.2.2.1, s6017.2.2.2)

noncomputable def F_spec_spLead (v_ : List Int) : Option Int :=
  (whileO (fun (s226 : Int) =>
      ((some (decide (s226 < ((v_.length : Nat) : Int)))).bind fun a255 =>
        cond a255
        ((idxO v_ s226).bind fun a265 =>
          (some (decide (a265 = 0))).bind fun a267 =>
          some a267)
        (some false)).bind fun (s249 : Bool) =>
      cond s249
      ((addO s226 1).bind fun a274 =>
        some (.inl a274))
      (some (.inr s226))) 0).bind fun (s136 : Int) =>
  some s136

noncomputable def F_spec_mxSolve (p_ : Int) (m_ : Int × List (List Int)) (b_ : List Int) : Option (List Int × Bool) :=
  (F_spec_mxReduce p_ (m_.1, m_.2)).bind fun y6 =>
  ((makeO ((m_.2.length : Nat) : Int) (0 : Int)).bind fun a73 =>
    (F_spec_l1Own b_).bind fun y78 =>
    some (a73, y78)).bind fun (s54 : List Int × List Int) =>
  (whileO (fun (s391 : List Int × List Int × Int) =>
      (some (decide (s391.2.2 < y6.2.2.1))).bind fun a400 =>
      cond a400
      ((idxO y6.1.2 s391.2.2).bind fun a411 =>
        (F_spec_spLead a411).bind fun y414 =>
        (idxO s391.2.1 y414).bind fun a423 =>
        (idxO y6.1.2 s391.2.2).bind fun a431 =>
        (F_spec_mxLess p_ s391.2.1 a431 a423).bind fun y434 =>
        (idxO y6.2.1.2 s391.2.2).bind fun a444 =>
        (F_spec_fdNeg p_ a423).bind fun y447 =>
        (F_spec_mxLess p_ s391.1 a444 y447).bind fun y450 =>
        (addO s391.2.2 1).bind fun a453 =>
        some (.inl (y450, y434, a453)))
      (some (.inr (s391.1, s391.2.1)))) (s54.1, s54.2, 0)).bind fun (s273 : List Int × List Int) =>
  (F_spec_l1All s273.2 0 0).bind fun y457 =>
  some (s273.1, y457)

noncomputable def F_spec_SolveLinear (p_ : Int) (m_ : Int × List (List Int)) (b_ : List Int) : Option (List Int × Bool) :=
  ((F_spec_mxGood p_ (m_.1, m_.2)).bind fun y28 =>
    (some (!y28)).bind fun a31 =>
    cond a31
    (some true)
    ((some (!decide (((b_.length : Nat) : Int) = m_.1))).bind fun a34 =>
      cond a34
      (some true)
      ((F_spec_fdIn p_ b_).bind fun y37 =>
        (some (!y37)).bind fun a40 =>
        some a40))).bind fun (s22 : Bool) =>
  cond s22
  (some ([], false))
  ((F_spec_mxSolve p_ (m_.1, m_.2) b_).bind fun y47 =>
    (some (!y47.2)).bind fun a52 =>
    cond a52
    (some ([], false))
    (some (y47.1, true)))

noncomputable def F_impl_isField (p_ : Int) : Option Bool :=
  ((some (decide (p_ < 2))).bind fun a14 =>
    cond a14
    (some true)
    ((some (decide ((97 : Int) < p_))).bind fun a17 =>
      some a17)).bind fun (s8 : Bool) =>
  cond s8
  (some false)
  ((cI 4).bind fun _ =>
    seqO (forO (fun (k23 : Nat) (_ : Unit) =>
        (idxO [2, 3, 5, 7] ((k23 : Nat) : Int)).bind fun a65 =>
        ((remO p_ a65).bind fun a81 =>
          (some (decide (a81 = 0))).bind fun a83 =>
          cond a83
          ((some (!decide (p_ = a65))).bind fun a87 =>
            some a87)
          (some false)).bind fun (s75 : Bool) =>
        cond s75
        (some (.inr false))
        (some (.inl ()))) ((4 : Int).toNat) 0 ()) fun (_ : Unit) =>
    some true)

noncomputable def F_impl_within (n_ : Int) (low_ : Int) (high_ : Int) : Option Bool :=
  ((some (decide (low_ ≤ n_))).bind fun a13 =>
    cond a13
    ((some (decide (n_ ≤ high_))).bind fun a17 =>
      some a17)
    (some false)).bind fun (s7 : Bool) =>
  some s7

noncomputable def F_impl_isElement (p_ : Int) (a_ : Int) : Option Bool :=
  ((some (decide ((0 : Int) ≤ a_))).bind fun a13 =>
    cond a13
    ((some (decide (a_ < p_))).bind fun a17 =>
      some a17)
    (some false)).bind fun (s7 : Bool) =>
  some s7

noncomputable def F_impl_isVector (p_ : Int) (v_ : List Int) (n_ : Int) : Option Bool :=
  (some (!decide (((v_.length : Nat) : Int) = n_))).bind fun a2 =>
  cond a2
  (some false)
  (seqO (forO (fun (k5 : Nat) (_ : Unit) =>
        (idxO v_ ((k5 : Nat) : Int)).bind fun a38 =>
        (F_impl_isElement p_ a38).bind fun y40 =>
        (some (!y40)).bind fun a43 =>
        cond a43
        (some (.inr false))
        (some (.inl ()))) v_.length 0 ()) fun (_ : Unit) =>
    some true)

noncomputable def F_impl_areVectors (p_ : Int) (rows_ : List (List Int)) (n_ : Int) : Option Bool :=
  seqO (forO (fun (k2 : Nat) (_ : Unit) =>
      (idxO rows_ ((k2 : Nat) : Int)).bind fun a37 =>
      (F_impl_isVector p_ a37 n_).bind fun y41 =>
      (some (!y41)).bind fun a44 =>
      cond a44
      (some (.inr false))
      (some (.inl ()))) rows_.length 0 ()) fun (_ : Unit) =>
  some true

noncomputable def F_impl_isMatrix (p_ : Int) (m_ : Int × List (List Int)) : Option Bool :=
  ((F_impl_isField p_).bind fun y29 =>
    cond y29
    ((F_impl_within m_.1 0 24).bind fun y34 =>
      cond y34
      ((some (decide (((m_.2.length : Nat) : Int) ≤ 24))).bind fun a39 =>
        cond a39
        ((F_impl_areVectors p_ m_.2 m_.1).bind fun y43 =>
          some y43)
        (some false))
      (some false))
    (some false)).bind fun (s23 : Bool) =>
  some s23

noncomputable def F_impl_clone (list_ : List Int) : Option (List Int) :=
  (appO ([] : List Int) list_).bind fun a5 =>
  some a5

noncomputable def F_impl_clones (list_ : List (List Int)) : Option (List (List Int)) :=
  (makeCO 0 ((list_.length : Nat) : Int) ([] : List Int)).bind fun a2 =>
  (forS (fun (k7 : Nat) (s59 : List (List Int)) =>
      (idxO list_ ((k7 : Nat) : Int)).bind fun a75 =>
      (F_impl_clone a75).bind fun y79 =>
      (appO s59 [y79]).bind fun a87 =>
      some a87) list_.length 0 a2).bind fun (s94 : List (List Int)) =>
  some s94

noncomputable def F_impl_zeros (n_ : Int) : Option (List Int) :=
  (makeO n_ (0 : Int)).bind fun a1 =>
  some a1

noncomputable def F_impl_unit (n_ : Int) (at_ : Int) : Option (List Int) :=
  (F_impl_zeros n_).bind fun y1 =>
  (setO y1 at_ 1).bind fun a12 =>
  some a12

noncomputable def F_impl_identityRows (n_ : Int) : Option (List (List Int)) :=
  (cI n_).bind fun _ =>
  (forS (fun (k4 : Nat) (s36 : List (List Int)) =>
      (F_impl_unit n_ ((k4 : Nat) : Int)).bind fun y48 =>
      (appO s36 [y48]).bind fun a56 =>
      some a56) n_.toNat 0 ([] : List (List Int))).bind fun (s63 : List (List Int)) =>
  some s63

noncomputable def F_impl_bit (yes_ : Bool) : Option Int :=
  cond yes_
  (some 1)
  (some 0)

noncomputable def F_impl_power (p_ : Int) (a_ : Int) (n_ : Int) : Option Int :=
  (remO 1 p_).bind fun a1 =>
  (whileO (fun (s217 : Int × Int × Int) =>
      (some (decide ((0 : Int) < s217.2.1))).bind fun a226 =>
      cond a226
      (((remO s217.2.1 2).bind fun a247 =>
          (some (decide (a247 = 1))).bind fun a249 =>
          cond a249
          ((mulO s217.2.2 s217.1).bind fun a253 =>
            (remO a253 p_).bind fun a255 =>
            some a255)
          (some s217.2.2)).bind fun (s241 : Int) =>
        (mulO s217.1 s217.1).bind fun a259 =>
        (remO a259 p_).bind fun a261 =>
        (quoO s217.2.1 2).bind fun a263 =>
        some (.inl (a261, a263, s241)))
      (some (.inr s217.2.2))) (a_, n_, a1)).bind fun (s131 : Int) =>
  some s131

noncomputable def F_impl_inverse (p_ : Int) (a_ : Int) : Option Int :=
  (subO p_ 2).bind fun a1 =>
  (some (decide (p_ = 2))).bind fun a3 =>
  (F_impl_bit a3).bind fun y5 =>
  (addO a1 y5).bind fun a8 =>
  (F_impl_power p_ a_ a8).bind fun y10 =>
  some y10

noncomputable def F_impl_mod (p_ : Int) (a_ : Int) : Option Int :=
  (remO a_ p_).bind fun a1 =>
  (some (decide (a1 < 0))).bind fun a3 =>
  cond a3
  ((addO a1 p_).bind fun a7 =>
    some a7)
  (some a1)

noncomputable def F_impl_addTimes (p_ : Int) (v_ : List Int) (by_ : Int) (w_ : List Int) : Option (List Int) :=
  (forS (fun (k3 : Nat) (s72 : List Int) =>
      (idxO w_ ((k3 : Nat) : Int)).bind fun a87 =>
      (idxO s72 ((k3 : Nat) : Int)).bind fun a95 =>
      (mulO by_ a87).bind fun a97 =>
      (addO a95 a97).bind fun a99 =>
      (F_impl_mod p_ a99).bind fun y101 =>
      (setO s72 ((k3 : Nat) : Int) y101).bind fun a110 =>
      some a110) w_.length 0 v_).bind fun (s115 : List Int) =>
  some s115

noncomputable def F_impl_rowOperation_apply (o_ : Int × Int × Int × Int) (p_ : Int) (rows_ : List (List Int)) : Option (List (List Int)) :=
  (some (decide (o_.1 = 0))).bind fun a5 =>
  cond a5
  ((idxO rows_ o_.2.2.1).bind fun a173 =>
    (idxO rows_ o_.2.1).bind fun a182 =>
    (swapO rows_ o_.2.1 o_.2.2.1).bind fun a199 =>
    some a199)
  ((some (decide (o_.1 = 1))).bind fun a8 =>
    cond a8
    ((F_impl_inverse p_ o_.2.2.2).bind fun y48 =>
      (idxO rows_ o_.2.1).bind fun a57 =>
      (forS (fun (k61 : Nat) (s122 : List Int) =>
          (idxO s122 ((k61 : Nat) : Int)).bind fun a137 =>
          (mulO a137 y48).bind fun a140 =>
          (remO a140 p_).bind fun a142 =>
          (setO s122 ((k61 : Nat) : Int) a142).bind fun a156 =>
          some a156) a57.length 0 a57).bind fun (s161 : List Int) =>
      (setO rows_ o_.2.1 s161).bind fun a163 =>
      some a163)
    ((some (decide (o_.1 = 2))).bind fun a11 =>
      cond a11
      ((idxO rows_ o_.2.1).bind fun a22 =>
        (negO o_.2.2.2).bind fun a25 =>
        (idxO rows_ o_.2.2.1).bind fun a33 =>
        (F_impl_addTimes p_ a22 a25 a33).bind fun y36 =>
        (neqO o_.2.1 o_.2.2.1).bind fun _ =>
        (setO rows_ o_.2.1 y36).bind fun a45 =>
        some a45)
      (some rows_)))

noncomputable def F_impl_reduction_1 (o_ : Int × Int × Int × Int) (c0_ : Int) (c1_ : List (List Int)) (c2_ : List (List Int)) : Option (List (List Int) × List (List Int)) :=
  (some (decide (([o_.1, o_.2.1, o_.2.2.1, o_.2.2.2] : List Int) = [0, o_.2.1, o_.2.1, 0]))).bind fun a9 =>
  cond a9
  (some (c1_, c2_))
  ((F_impl_rowOperation_apply (o_.1, o_.2.1, o_.2.2.1, o_.2.2.2) c0_ c1_).bind fun y12 =>
    (F_impl_rowOperation_apply (o_.1, o_.2.1, o_.2.2.1, o_.2.2.2) c0_ c2_).bind fun y15 =>
    some (y12, y15))

noncomputable def F_impl_reduction (p_ : Int) (rows_ : List (List Int)) (n_ : Int) (also_ : List (List Int)) : Option (List (List Int) × List (List Int) × Int) :=
  (whileO (fun (s6786 : List (List Int) × List (List Int) × Int × Int) =>
      ((some (decide (s6786.2.2.1 < n_))).bind fun a6807 =>
        cond a6807
        ((some (decide (s6786.2.2.2 < ((s6786.1.length : Nat) : Int)))).bind fun a6811 =>
          some a6811)
        (some false)).bind fun (s6801 : Bool) =>
      cond s6801
      (((whileO (fun (s7797 : Int) =>
              ((some (decide (s7797 < ((s6786.1.length : Nat) : Int)))).bind fun a7835 =>
                cond a7835
                ((idxO s6786.1 s7797).bind fun a7845 =>
                  (idxO a7845 s6786.2.2.1).bind fun a7854 =>
                  (some (decide (a7854 = 0))).bind fun a7856 =>
                  some a7856)
                (some false)).bind fun (s7829 : Bool) =>
              cond s7829
              ((addO s7797 1).bind fun a7863 =>
                some (.inl a7863))
              (some (.inr s7797))) s6786.2.2.2).bind fun (s7671 : Int) =>
          (some (decide (s7671 = ((s6786.1.length : Nat) : Int)))).bind fun a7867 =>
          cond a7867
          (some (s6786.1, s6786.2.1, s6786.2.2.2))
          ((F_impl_reduction_1 (0, s6786.2.2.2, s7671, 0) p_ s6786.1 s6786.2.1).bind fun y7870 =>
            (idxO y7870.1 s6786.2.2.2).bind fun a7879 =>
            (idxO a7879 s6786.2.2.1).bind fun a7888 =>
            (F_impl_reduction_1 (1, s6786.2.2.2, 0, a7888) p_ y7870.1 y7870.2).bind fun y7890 =>
            (forS (fun (k7893 : Nat) (s8050 : List (List Int) × List (List Int)) =>
                ((some (!decide (((k7893 : Nat) : Int) = s6786.2.2.2))).bind fun a8088 =>
                  cond a8088
                  ((idxO s8050.1 ((k7893 : Nat) : Int)).bind fun a8098 =>
                    (idxO a8098 s6786.2.2.1).bind fun a8107 =>
                    (some (!decide (a8107 = 0))).bind fun a8109 =>
                    some a8109)
                  (some false)).bind fun (s8082 : Bool) =>
                cond s8082
                ((idxO s8050.1 ((k7893 : Nat) : Int)).bind fun a8121 =>
                  (idxO a8121 s6786.2.2.1).bind fun a8130 =>
                  (F_impl_reduction_1 (2, ((k7893 : Nat) : Int), s6786.2.2.2, a8130) p_ s8050.1 s8050.2).bind fun y8132 =>
                  some (y8132.1, y8132.2))
                (some (s8050.1, s8050.2))) y7890.1.length 0 (y7890.1, y7890.2)).bind fun (s8137 : List (List Int) × List (List Int)) =>
            (addO s6786.2.2.2 1).bind fun a8139 =>
            some (s8137.1, s8137.2, a8139))).bind fun (s7477 : List (List Int) × List (List Int) × Int) =>
        (addO s6786.2.2.1 1).bind fun a8144 =>
        some (.inl (s7477.1, s7477.2.1, a8144, s7477.2.2)))
      (some (.inr (s6786.1, s6786.2.1, s6786.2.2.2)))) (rows_, also_, 0, 0)).bind fun (s4076 : List (List Int) × List (List Int) × Int) =>
  some (s4076.1, s4076.2.1, s4076.2.2)

noncomputable def F_impl_lead (v_ : List Int) : Option Int :=
  seqO (forO (fun (k2 : Nat) (_ : Unit) =>
      (idxO v_ ((k2 : Nat) : Int)).bind fun a32 =>
      (some (!decide (a32 = 0))).bind fun a34 =>
      cond a34
      (some (.inr ((k2 : Nat) : Int)))
      (some (.inl ()))) v_.length 0 ()) fun (_ : Unit) =>
  some ((v_.length : Nat) : Int)

noncomputable def F_impl_isZero (v_ : List Int) : Option Bool :=
  (F_impl_lead v_).bind fun y2 =>
  (some (decide (y2 = ((v_.length : Nat) : Int)))).bind fun a5 =>
  some a5

noncomputable def F_impl_coordinates (p_ : Int) (basis_ : List (List Int)) (v_ : List Int) : Option (List Int × Bool) :=
  (F_impl_clone v_).bind fun y3 =>
  (forS (fun (k11 : Nat) (s85 : List Int × List Int) =>
      (idxO basis_ ((k11 : Nat) : Int)).bind fun a101 =>
      (F_impl_lead a101).bind fun y105 =>
      (idxO s85.1 y105).bind fun a114 =>
      (appO s85.2 [a114]).bind fun a119 =>
      (negO a114).bind fun a124 =>
      (F_impl_addTimes p_ s85.1 a124 a101).bind fun y126 =>
      some (y126, a119)) basis_.length 0 (y3, ([] : List Int))).bind fun (s131 : List Int × List Int) =>
  (F_impl_isZero s131.1).bind fun y134 =>
  some (s131.2, y134)

noncomputable def F_impl_combine (p_ : Int) (x_ : List Int) (rows_ : List (List Int)) (n_ : Int) : Option (List Int) :=
  (F_impl_zeros n_).bind fun y3 =>
  (forS (fun (k8 : Nat) (s55 : List Int) =>
      (idxO rows_ ((k8 : Nat) : Int)).bind fun a70 =>
      (idxO x_ ((k8 : Nat) : Int)).bind fun a80 =>
      (F_impl_addTimes p_ s55 a80 a70).bind fun y82 =>
      some y82) rows_.length 0 y3).bind fun (s87 : List Int) =>
  some s87

noncomputable def F_impl_SolveLinear (p_ : Int) (m_ : Int × List (List Int)) (b_ : List Int) : Option (List Int × Bool) :=
  ((F_impl_isMatrix p_ (m_.1, m_.2)).bind fun y25 =>
    (some (!y25)).bind fun a28 =>
    cond a28
    (some true)
    ((F_impl_isVector p_ b_ m_.1).bind fun y31 =>
      (some (!y31)).bind fun a34 =>
      some a34)).bind fun (s19 : Bool) =>
  cond s19
  (some ([], false))
  ((F_impl_clones m_.2).bind fun y41 =>
    (F_impl_identityRows ((m_.2.length : Nat) : Int)).bind fun y46 =>
    (F_impl_reduction p_ y41 m_.1 y46).bind fun y51 =>
    (sliceO y51.1 0 y51.2.2).bind fun a54 =>
    (F_impl_coordinates p_ a54 b_).bind fun y58 =>
    (some (!y58.2)).bind fun a63 =>
    cond a63
    (some ([], false))
    ((sliceO y51.2.1 0 y51.2.2).bind fun a67 =>
      (F_impl_combine p_ y58.1 a67 ((m_.2.length : Nat) : Int)).bind fun y71 =>
      some (y71, true)))

noncomputable def F_laws_eqIntS (a_ : List Int) (b_ : List Int) : Option Bool :=
  (some (!decide (((a_.length : Nat) : Int) = ((b_.length : Nat) : Int)))).bind fun a3 =>
  cond a3
  (some false)
  (seqO (whileO (fun (s166 : Int) =>
        (some (decide (s166 < ((a_.length : Nat) : Int)))).bind fun a175 =>
        cond a175
        ((idxO a_ s166).bind fun a187 =>
          (idxO b_ s166).bind fun a195 =>
          (some (!decide (a187 = a195))).bind fun a197 =>
          cond a197
          (some (.inr (.inr false)))
          ((addO s166 1).bind fun a200 =>
            some (.inl a200)))
        (some (.inr (.inl ())))) 0) fun (s102 : Unit) =>
    some true)

noncomputable def F_laws_eqIntSS (a_ : List (List Int)) (b_ : List (List Int)) : Option Bool :=
  (some (!decide (((a_.length : Nat) : Int) = ((b_.length : Nat) : Int)))).bind fun a3 =>
  cond a3
  (some false)
  (seqO (whileO (fun (s201 : Int) =>
        (some (decide (s201 < ((a_.length : Nat) : Int)))).bind fun a210 =>
        cond a210
        ((idxO a_ s201).bind fun a222 =>
          (idxO b_ s201).bind fun a232 =>
          (F_laws_eqIntS a222 a232).bind fun y236 =>
          (some (!y236)).bind fun a239 =>
          cond a239
          (some (.inr (.inr false)))
          ((addO s201 1).bind fun a242 =>
            some (.inl a242)))
        (some (.inr (.inl ())))) 0) fun (s123 : Unit) =>
    some true)

noncomputable def F_laws_eqMatrix (a_ : Int × List (List Int)) (b_ : Int × List (List Int)) : Option Bool :=
  (some (!decide (a_.1 = b_.1))).bind fun a9 =>
  cond a9
  (some false)
  ((F_laws_eqIntSS a_.2 b_.2).bind fun y12 =>
    (some (!y12)).bind fun a15 =>
    cond a15
    (some false)
    (some true))

noncomputable def F_laws_markIntS (a_ : List Int) (k_ : Int) : Option (List Int × Int) :=
  (whileO (fun (s111 : List Int × Int × Int) =>
      (some (decide (s111.2.2 < ((s111.1.length : Nat) : Int)))).bind fun a120 =>
      cond a120
      ((setO s111.1 s111.2.2 s111.2.1).bind fun a131 =>
        (addO s111.2.1 1).bind fun a134 =>
        (addO s111.2.2 1).bind fun a136 =>
        some (.inl (a131, a134, a136)))
      (some (.inr (s111.1, s111.2.1)))) (a_, k_, 0)).bind fun (s67 : List Int × Int) =>
  some (s67.1, s67.2)

noncomputable def F_laws_markIntSS (a_ : List (List Int)) (k_ : Int) : Option (List (List Int) × Int) :=
  (whileO (fun (s131 : List (List Int) × Int × Int) =>
      (some (decide (s131.2.2 < ((s131.1.length : Nat) : Int)))).bind fun a140 =>
      cond a140
      ((idxO s131.1 s131.2.2).bind fun a151 =>
        (F_laws_markIntS a151 s131.2.1).bind fun y154 =>
        (setO s131.1 s131.2.2 y154.1).bind fun a158 =>
        (addO s131.2.2 1).bind fun a160 =>
        some (.inl (a158, y154.2, a160)))
      (some (.inr (s131.1, s131.2.1)))) (a_, k_, 0)).bind fun (s79 : List (List Int) × Int) =>
  some (s79.1, s79.2)

noncomputable def F_laws_markMatrix (a_ : Int × List (List Int)) (k_ : Int) : Option ((Int × List (List Int)) × Int) :=
  (F_laws_markIntSS a_.2 k_).bind fun y5 =>
  some ((a_.1, y5.1), y5.2)

noncomputable def F_laws_heldIntS (a_ : List Int) (k_ : Int) : Option Int :=
  seqO (whileO (fun (s127 : Int × Int) =>
      (some (decide (s127.2 < ((a_.length : Nat) : Int)))).bind fun a136 =>
      cond a136
      ((idxO a_ s127.2).bind fun a147 =>
        (some (!decide (a147 = s127.1))).bind fun a149 =>
        cond a149
        (some (.inr (.inr (-1))))
        ((addO s127.1 1).bind fun a152 =>
          (addO s127.2 1).bind fun a154 =>
          some (.inl (a152, a154))))
      (some (.inr (.inl s127.1)))) (k_, 0)) fun (s77 : Int) =>
  some s77

noncomputable def F_laws_FnExactSolveLinear (aP_ : Int) (aM_ : Int × List (List Int)) (aB_ : List Int) : Option Bool :=
  (some (decide ((1048576 : Int) < ((aB_.length : Nat) : Int)))).bind fun a7 =>
  cond a7
  (some true)
  ((F_laws_szMatrix (aM_.1, aM_.2) 1048576).bind fun y10 =>
    (some (decide (y10 < 0))).bind fun a13 =>
    cond a13
    (some true)
    ((F_laws_toMatrix (aM_.1, aM_.2)).bind fun y16 =>
      (F_laws_toIntS aB_).bind fun y21 =>
      (F_spec_SolveLinear aP_ (y16.1, y16.2) y21).bind fun y26 =>
      (F_laws_toMatrix (aM_.1, aM_.2)).bind fun y31 =>
      (F_laws_toIntS aB_).bind fun y40 =>
      (F_impl_SolveLinear aP_ (y31.1, y31.2) y40).bind fun y45 =>
      ((F_laws_eqIntS y45.1 y26.1).bind fun y65 =>
        (some (!y65)).bind fun a68 =>
        cond a68
        (some true)
        ((some (!decide (y45.2 = y26.2))).bind fun a71 =>
          some a71)).bind fun (s59 : Bool) =>
      cond s59
      (some false)
      ((F_laws_toMatrix (aM_.1, aM_.2)).bind fun y78 =>
        (F_laws_eqMatrix (y31.1, y31.2) (y78.1, y78.2)).bind fun y83 =>
        (some (!y83)).bind fun a86 =>
        cond a86
        (some false)
        ((F_laws_toIntS aB_).bind fun y89 =>
          (F_laws_eqIntS y40 y89).bind fun y94 =>
          (some (!y94)).bind fun a97 =>
          cond a97
          (some false)
          ((F_laws_markMatrix (y31.1, y31.2) 1).bind fun y100 =>
            (F_laws_markIntS y40 y100.2).bind fun y103 =>
            ((some (decide (y103.2 < 0))).bind fun a125 =>
              cond a125
              (some true)
              ((F_laws_eqIntS y45.1 y26.1).bind fun y128 =>
                (some (!y128)).bind fun a131 =>
                cond a131
                (some true)
                ((some (!decide (y45.2 = y26.2))).bind fun a134 =>
                  some a134))).bind fun (s119 : Bool) =>
            cond s119
            (some false)
            ((F_laws_markIntS y45.1 1).bind fun y141 =>
              (F_laws_heldIntS y141.1 1).bind fun y144 =>
              (some (decide (y144 < 0))).bind fun a147 =>
              cond a147
              (some false)
              ((some (!decide (y144 = y141.2))).bind fun a150 =>
                cond a150
                (some false)
                ((F_laws_toMatrix (aM_.1, aM_.2)).bind fun y153 =>
                  (F_laws_toIntS aB_).bind fun y158 =>
                  (F_impl_SolveLinear aP_ (y153.1, y153.2) y158).bind fun y163 =>
                  ((F_laws_eqIntS y163.1 y26.1).bind fun y183 =>
                    (some (!y183)).bind fun a186 =>
                    cond a186
                    (some true)
                    ((some (!decide (y163.2 = y26.2))).bind fun a189 =>
                      some a189)).bind fun (s177 : Bool) =>
                  cond s177
                  (some false)
                  ((F_laws_heldIntS y141.1 1).bind fun y195 =>
                    (some (decide (y195 < 0))).bind fun a198 =>
                    cond a198
                    (some false)
                    ((some (!decide (y195 = y141.2))).bind fun a201 =>
                      cond a201
                      (some false)
                      (some true)))))))))))
end Go.Proofs.YtnlbhdepagkjgaaDoor
