/-
 Partial functions, printed by a program (wip/y/gen.py): what each function of Go computes, over plain data. No program in sight. No condition.
-/
import Derived.Test.YtgkomaglodpefaaDoorZF
namespace Go.Proofs.YtgkomaglodpefaaDoor
set_option linter.unusedVariables false

noncomputable def F_laws_szIntS (a_ : List Int) (left_ : Int) : Option Int :=
 (subO left_ ((a_.length : Nat) : Int)).bind fun a2 =>
 (some (decide (a2 < 0))).bind fun a4 =>
 cond a4
 (some (-1))
 (some a2)

noncomputable def F_laws_szIntSS (a_ : List (List Int)) (left_ : Int) : Option Int :=
 (subO left_ ((a_.length : Nat) : Int)).bind fun a2 =>
 (some (decide (a2 < 0))).bind fun a4 =>
 cond a4
 (some (-1))
 (seqO (whileO (fun (s0 : Int × Int) =>
    (some (decide (s0.2 < ((a_.length : Nat) : Int)))).bind fun a0 =>
    cond a0
    ((idxO a_ s0.2).bind fun a1 =>
     (F_laws_szIntS a1 s0.1).bind fun y0 =>
     (some (decide (y0 < 0))).bind fun a3 =>
     cond a3
     (some (.inr (.inr (-1))))
     ((addO s0.2 1).bind fun a5 =>
      some (.inl (y0, a5))))
    (some (.inr (.inl s0.1)))) (a2, 0)) fun (s1 : Int) =>
  some s1)

noncomputable def F_laws_szStateSpace (a_ : Int × Int × Int × List (List Int) × List (List Int) × List (List Int) × List (List Int)) (left_ : Int) : Option Int :=
 (F_laws_szIntSS a_.2.2.2.1 left_).bind fun y8 =>
 (some (decide (y8 < 0))).bind fun a0 =>
 cond a0
 (some (-1))
 ((F_laws_szIntSS a_.2.2.2.2.1 y8).bind fun y0 =>
  (some (decide (y0 < 0))).bind fun a1 =>
  cond a1
  (some (-1))
  ((F_laws_szIntSS a_.2.2.2.2.2.1 y0).bind fun y1 =>
   (some (decide (y1 < 0))).bind fun a2 =>
   cond a2
   (some (-1))
   ((F_laws_szIntSS a_.2.2.2.2.2.2 y1).bind fun y2 =>
    (some (decide (y2 < 0))).bind fun a3 =>
    cond a3
    (some (-1))
    (some y2))))

noncomputable def F_laws_toIntS (a_ : List Int) : Option (List Int) :=
 (makeO ((a_.length : Nat) : Int) (0 : Int)).bind fun a2 =>
 (whileO (fun (s0 : List Int × Int) =>
   (some (decide (s0.2 < ((a_.length : Nat) : Int)))).bind fun a0 =>
   cond a0
   ((idxO a_ s0.2).bind fun a1 =>
    (setO s0.1 s0.2 a1).bind fun a3 =>
    (addO s0.2 1).bind fun a4 =>
    some (.inl (a3, a4)))
   (some (.inr s0.1))) (a2, 0)).bind fun (s1 : List Int) =>
 some s1

noncomputable def F_laws_toIntSS (a_ : List (List Int)) : Option (List (List Int)) :=
 (makeO ((a_.length : Nat) : Int) ([] : List Int)).bind fun a2 =>
 (whileO (fun (s0 : List (List Int) × Int) =>
   (some (decide (s0.2 < ((a_.length : Nat) : Int)))).bind fun a0 =>
   cond a0
   ((idxO a_ s0.2).bind fun a1 =>
    (F_laws_toIntS a1).bind fun y0 =>
    (setO s0.1 s0.2 y0).bind fun a3 =>
    (addO s0.2 1).bind fun a4 =>
    some (.inl (a3, a4)))
   (some (.inr s0.1))) (a2, 0)).bind fun (s1 : List (List Int)) =>
 some s1

noncomputable def F_laws_toStateSpace (a_ : Int × Int × Int × List (List Int) × List (List Int) × List (List Int) × List (List Int)) : Option (Int × Int × Int × List (List Int) × List (List Int) × List (List Int) × List (List Int)) :=
 (F_laws_toIntSS a_.2.2.2.1).bind fun y0 =>
 (F_laws_toIntSS a_.2.2.2.2.1).bind fun y1 =>
 (F_laws_toIntSS a_.2.2.2.2.2.1).bind fun y2 =>
 (F_laws_toIntSS a_.2.2.2.2.2.2).bind fun y3 =>
 some (a_.1, a_.2.1, a_.2.2.1, y0, y1, y2, y3)

noncomputable def F_spec_l1In (n_ : Int) (lo_ : Int) (hi_ : Int) : Option Bool :=
 ((some (decide (lo_ ≤ n_))).bind fun a0 =>
  cond a0
  ((some (decide (n_ ≤ hi_))).bind fun a1 =>
   some a1)
  (some false)).bind fun (s7 : Bool) =>
 some s7

noncomputable def F_spec_fdGood (p_ : Int) : Option Bool :=
 (F_spec_l1In p_ 2 97).bind fun y1 =>
 (some (!y1)).bind fun a4 =>
 cond a4
 (some false)
 (seqO (whileO (fun (s0 : Int) =>
    (mulO s0 s0).bind fun a0 =>
    (some (decide (a0 ≤ p_))).bind fun a1 =>
    cond a1
    ((remO p_ s0).bind fun a2 =>
     (some (decide (a2 = 0))).bind fun a3 =>
     cond a3
     (some (.inr (.inr false)))
     ((addO s0 1).bind fun a5 =>
      some (.inl a5)))
    (some (.inr (.inl ())))) 2) fun (s1 : Unit) =>
  some true)

noncomputable def F_spec_l1All (l_ : List Int) (lo_ : Int) (hi_ : Int) : Option Bool :=
 seqO (forO (fun (k2 : Nat) (_ : Unit) =>
   (idxO l_ ((k2 : Nat) : Int)).bind fun a0 =>
   (F_spec_l1In a0 lo_ hi_).bind fun y0 =>
   (some (!y0)).bind fun a1 =>
   cond a1
   (some (.inr false))
   (some (.inl ()))) l_.length 0 ()) fun (_ : Unit) =>
 some true

noncomputable def F_spec_fdIn (p_ : Int) (l_ : List Int) : Option Bool :=
 (subO p_ 1).bind fun a2 =>
 (F_spec_l1All l_ 0 a2).bind fun y4 =>
 some y4

noncomputable def F_spec_spRows (p_ : Int) (size_ : Int) (rows_ : List (List Int)) : Option Bool :=
 seqO (forO (fun (k2 : Nat) (_ : Unit) =>
   (idxO rows_ ((k2 : Nat) : Int)).bind fun a0 =>
   ((some (!decide (((a0.length : Nat) : Int) = size_))).bind fun a1 =>
    cond a1
    (some true)
    ((F_spec_fdIn p_ a0).bind fun y0 =>
     (some (!y0)).bind fun a2 =>
     some a2)).bind fun (s0 : Bool) =>
   cond s0
   (some (.inr false))
   (some (.inl ()))) rows_.length 0 ()) fun (_ : Unit) =>
 some true

noncomputable def F_spec_ssTable (p_ : Int) (rows_ : Int) (cols_ : Int) (m_ : List (List Int)) : Option Bool :=
 ((some (decide (((m_.length : Nat) : Int) = rows_))).bind fun a0 =>
  cond a0
  ((F_spec_spRows p_ cols_ m_).bind fun y0 =>
   some y0)
  (some false)).bind fun (s9 : Bool) =>
 some s9

noncomputable def F_spec_ssGood (p_ : Int) (s_ : Int × Int × Int × List (List Int) × List (List Int) × List (List Int) × List (List Int)) : Option Bool :=
 ((F_spec_fdGood p_).bind fun y0 =>
  cond y0
  ((F_spec_l1In s_.1 0 24).bind fun y1 =>
   cond y1
   ((F_spec_l1In s_.2.1 0 8).bind fun y2 =>
    cond y2
    ((F_spec_l1In s_.2.2.1 0 8).bind fun y3 =>
     cond y3
     ((F_spec_ssTable p_ s_.1 s_.1 s_.2.2.2.1).bind fun y4 =>
      cond y4
      ((F_spec_ssTable p_ s_.2.1 s_.1 s_.2.2.2.2.1).bind fun y5 =>
       cond y5
       ((F_spec_ssTable p_ s_.1 s_.2.2.1 s_.2.2.2.2.2.1).bind fun y6 =>
        cond y6
        ((F_spec_ssTable p_ s_.2.1 s_.2.2.1 s_.2.2.2.2.2.2).bind fun y7 =>
         some y7)
        (some false))
       (some false))
      (some false))
     (some false))
    (some false))
   (some false))
  (some false)).bind fun (s0 : Bool) =>
 some s0

noncomputable def F_spec_l1Own (l_ : List Int) : Option (List Int) :=
 (appO ([] : List Int) l_).bind fun a5 =>
 some a5

noncomputable def F_spec_ssCopy (m_ : List (List Int)) : Option (List (List Int)) :=
 (forS (fun (k2 : Nat) (s0 : List (List Int)) =>
   (idxO m_ ((k2 : Nat) : Int)).bind fun a0 =>
   (F_spec_l1Own a0).bind fun y0 =>
   (appO s0 [y0]).bind fun a1 =>
   some a1) m_.length 0 []).bind fun (s1 : List (List Int)) =>
 some s1

noncomputable def F_spec_spSum (p_ : Int) (size_ : Int) (rows_ : List (List Int)) (coefs_ : List Int) : Option (List Int) :=
 (makeO size_ (0 : Int)).bind fun a3 =>
 (forS (fun (k8 : Nat) (s0 : List Int) =>
   (idxO rows_ ((k8 : Nat) : Int)).bind fun a0 =>
   (forS (fun (k0 : Nat) (s1 : List Int) =>
     (idxO a0 ((k0 : Nat) : Int)).bind fun a1 =>
     (idxO s1 ((k0 : Nat) : Int)).bind fun a2 =>
     (idxO coefs_ ((k8 : Nat) : Int)).bind fun a4 =>
     (mulO a4 a1).bind fun a5 =>
     (addO a2 a5).bind fun a6 =>
     (remO a6 p_).bind fun a7 =>
     (setO s1 ((k0 : Nat) : Int) a7).bind fun a8 =>
     some a8) a0.length 0 s0).bind fun (s2 : List Int) =>
   some s2) rows_.length 0 a3).bind fun (s3 : List Int) =>
 some s3

noncomputable def F_spec_ssTimes (p_ : Int) (cols_ : Int) (rows_ : List (List Int)) (m_ : List (List Int)) : Option (List (List Int)) :=
 (forS (fun (k3 : Nat) (s0 : List (List Int)) =>
   (idxO rows_ ((k3 : Nat) : Int)).bind fun a0 =>
   (F_spec_spSum p_ cols_ m_ a0).bind fun y0 =>
   (appO s0 [y0]).bind fun a1 =>
   some a1) rows_.length 0 []).bind fun (s1 : List (List Int)) =>
 some s1

noncomputable def F_spec_ssMarkov (p_ : Int) (s_ : Int × Int × Int × List (List Int) × List (List Int) × List (List Int) × List (List Int)) (n_ : Int) : Option (List (Int × List (List Int))) :=
 (F_spec_ssCopy s_.2.2.2.2.1).bind fun y8 =>
 (whileO (fun (s0 : (List (Int × List (List Int))) × List (List Int) × Int) =>
   (some (decide (s0.2.2 < n_))).bind fun a0 =>
   cond a0
   (((some (decide (s0.2.2 = 0))).bind fun a1 =>
     cond a1
     ((F_spec_ssCopy s_.2.2.2.2.2.2).bind fun y0 =>
      (appO s0.1 [(s_.2.2.1, y0)]).bind fun a2 =>
      some (a2, s0.2.1))
     ((F_spec_ssTimes p_ s_.2.2.1 s0.2.1 s_.2.2.2.2.2.1).bind fun y1 =>
      (appO s0.1 [(s_.2.2.1, y1)]).bind fun a3 =>
      (F_spec_ssTimes p_ s_.1 s0.2.1 s_.2.2.2.1).bind fun y2 =>
      some (a3, y2))).bind fun (s1 : (List (Int × List (List Int))) × List (List Int)) =>
    (addO s0.2.2 1).bind fun a4 =>
    some (.inl (s1.1, s1.2, a4)))
   (some (.inr s0.1))) ([], y8, 0)).bind fun (s2 : List (Int × List (List Int))) =>
 some s2

noncomputable def F_spec_fdInv (p_ : Int) (a_ : Int) : Option Int :=
 seqO (whileO (fun (s0 : Int) =>
   (some (decide (s0 < p_))).bind fun a0 =>
   cond a0
   ((mulO a_ s0).bind fun a1 =>
    (remO a1 p_).bind fun a2 =>
    (some (decide (a2 = 1))).bind fun a3 =>
    cond a3
    (some (.inr (.inr s0)))
    ((addO s0 1).bind fun a4 =>
     some (.inl a4)))
   (some (.inr (.inl ())))) 1) fun (s1 : Unit) =>
 some 0

noncomputable def F_spec_fdMul (p_ : Int) (a_ : Int) (b_ : Int) : Option Int :=
 (mulO a_ b_).bind fun a1 =>
 (remO a1 p_).bind fun a3 =>
 some a3

noncomputable def F_spec_fdSub (p_ : Int) (a_ : Int) (b_ : Int) : Option Int :=
 (addO a_ p_).bind fun a1 =>
 (subO a1 b_).bind fun a3 =>
 (remO a3 p_).bind fun a5 =>
 some a5

noncomputable def F_spec_spReduce (p_ : Int) (size_ : Int) (rows_ : List (List Int)) : Option (List (List Int)) :=
 (forS (fun (k2 : Nat) (s0 : List (List Int)) =>
   (idxO rows_ ((k2 : Nat) : Int)).bind fun a0 =>
   (F_spec_l1Own a0).bind fun y0 =>
   (appO s0 [y0]).bind fun a1 =>
   some a1) rows_.length 0 []).bind fun (s1 : List (List Int)) =>
 (whileO (fun (s2 : List (List Int) × Int × Int) =>
   ((some (decide (s2.2.2 < size_))).bind fun a2 =>
    cond a2
    ((some (decide (s2.2.1 < ((s2.1.length : Nat) : Int)))).bind fun a3 =>
     some a3)
    (some false)).bind fun (s3 : Bool) =>
   cond s3
   (((whileO (fun (s4 : Int) =>
       ((some (decide (s4 < ((s2.1.length : Nat) : Int)))).bind fun a4 =>
        cond a4
        ((idxO s2.1 s4).bind fun a5 =>
         (idxO a5 s2.2.2).bind fun a6 =>
         (some (decide (a6 = 0))).bind fun a7 =>
         some a7)
        (some false)).bind fun (s5 : Bool) =>
       cond s5
       ((addO s4 1).bind fun a8 =>
        some (.inl a8))
       (some (.inr s4))) s2.2.1).bind fun (s6 : Int) =>
     (some (decide (s6 = ((s2.1.length : Nat) : Int)))).bind fun a9 =>
     cond a9
     (some (s2.1, s2.2.1))
     ((idxO s2.1 s2.2.1).bind fun a10 =>
      (idxO s2.1 s6).bind fun a11 =>
      (swapO s2.1 s2.2.1 s6).bind fun a12 =>
      (idxO a12 s2.2.1).bind fun a13 =>
      (idxO a13 s2.2.2).bind fun a14 =>
      (F_spec_fdInv p_ a14).bind fun y1 =>
      (idxO a12 s2.2.1).bind fun a15 =>
      (forS (fun (k0 : Nat) (s7 : List (List Int)) =>
        (idxO s7 s2.2.1).bind fun a16 =>
        (idxO s7 s2.2.1).bind fun a17 =>
        (idxO a17 ((k0 : Nat) : Int)).bind fun a18 =>
        (F_spec_fdMul p_ a18 y1).bind fun y2 =>
        (setO a16 ((k0 : Nat) : Int) y2).bind fun a19 =>
        (setO s7 s2.2.1 a19).bind fun a20 =>
        some a20) a15.length 0 a12).bind fun (s8 : List (List Int)) =>
      (forS (fun (k1 : Nat) (s9 : List (List Int)) =>
        (((some (decide (((k1 : Nat) : Int) = s2.2.1))).bind fun a21 =>
          cond a21
          (some true)
          ((idxO s9 ((k1 : Nat) : Int)).bind fun a22 =>
           (idxO a22 s2.2.2).bind fun a23 =>
           (some (decide (a23 = 0))).bind fun a24 =>
           some a24)).bind fun (s10 : Bool) =>
         cond s10
         (some s9)
         ((idxO s9 ((k1 : Nat) : Int)).bind fun a25 =>
          (idxO a25 s2.2.2).bind fun a26 =>
          (idxO s9 ((k1 : Nat) : Int)).bind fun a27 =>
          (forS (fun (k3 : Nat) (s11 : List (List Int)) =>
            (idxO s11 ((k1 : Nat) : Int)).bind fun a28 =>
            (idxO s11 ((k1 : Nat) : Int)).bind fun a29 =>
            (idxO s11 s2.2.1).bind fun a30 =>
            (idxO a29 ((k3 : Nat) : Int)).bind fun a31 =>
            (idxO a30 ((k3 : Nat) : Int)).bind fun a32 =>
            (F_spec_fdMul p_ a26 a32).bind fun y3 =>
            (F_spec_fdSub p_ a31 y3).bind fun y4 =>
            (setO a28 ((k3 : Nat) : Int) y4).bind fun a33 =>
            (setO s11 ((k1 : Nat) : Int) a33).bind fun a34 =>
            some a34) a27.length 0 s9).bind fun (s12 : List (List Int)) =>
          some s12)).bind fun (s13 : List (List Int)) =>
        some s13) s8.length 0 s8).bind fun (s14 : List (List Int)) =>
      (addO s2.2.1 1).bind fun a35 =>
      some (s14, a35))).bind fun (s15 : List (List Int) × Int) =>
    (addO s2.2.2 1).bind fun a36 =>
    some (.inl (s15.1, s15.2, a36)))
   (some (.inr (s2.1, s2.2.1)))) (s1, 0, 0)).bind fun (s16 : List (List Int) × Int) =>
 (sliceO s16.1 0 s16.2).bind fun a37 =>
 some a37

noncomputable def F_spec_spLead (v_ : List Int) : Option Int :=
 (whileO (fun (s0 : Int) =>
   ((some (decide (s0 < ((v_.length : Nat) : Int)))).bind fun a0 =>
    cond a0
    ((idxO v_ s0).bind fun a1 =>
     (some (decide (a1 = 0))).bind fun a2 =>
     some a2)
    (some false)).bind fun (s1 : Bool) =>
   cond s1
   ((addO s0 1).bind fun a3 =>
    some (.inl a3))
   (some (.inr s0))) 0).bind fun (s2 : Int) =>
 some s2

noncomputable def F_spec_fdNeg (p_ : Int) (a_ : Int) : Option Int :=
 (subO p_ a_).bind fun a1 =>
 (remO a1 p_).bind fun a3 =>
 some a3

noncomputable def F_spec_spNull (p_ : Int) (size_ : Int) (rows_ : List (List Int)) : Option (List (List Int)) :=
 (F_spec_spReduce p_ size_ rows_).bind fun y2 =>
 (makeO size_ (0 : Int)).bind fun a7 =>
 (forS (fun (k0 : Nat) (s0 : List Int) =>
   (setO s0 ((k0 : Nat) : Int) (-1)).bind fun a0 =>
   some a0) a7.length 0 a7).bind fun (s1 : List Int) =>
 (forS (fun (k1 : Nat) (s2 : List Int) =>
   (idxO y2 ((k1 : Nat) : Int)).bind fun a1 =>
   (F_spec_spLead a1).bind fun y0 =>
   (setO s2 y0 ((k1 : Nat) : Int)).bind fun a2 =>
   some a2) y2.length 0 s1).bind fun (s3 : List Int) =>
 (whileO (fun (s4 : List (List Int) × Int) =>
   (some (decide (s4.2 < size_))).bind fun a3 =>
   cond a3
   (((idxO s3 s4.2).bind fun a4 =>
     (some (decide ((0 : Int) ≤ a4))).bind fun a5 =>
     cond a5
     (some s4.1)
     ((makeO size_ (0 : Int)).bind fun a6 =>
      (setO a6 s4.2 1).bind fun a8 =>
      (forS (fun (k2 : Nat) (s5 : List Int) =>
        (idxO y2 ((k2 : Nat) : Int)).bind fun a9 =>
        (idxO y2 ((k2 : Nat) : Int)).bind fun a10 =>
        (idxO a9 s4.2).bind fun a11 =>
        (F_spec_spLead a10).bind fun y1 =>
        (F_spec_fdNeg p_ a11).bind fun y3 =>
        (setO s5 y1 y3).bind fun a12 =>
        some a12) y2.length 0 a8).bind fun (s6 : List Int) =>
      (appO s4.1 [s6]).bind fun a13 =>
      some a13)).bind fun (s7 : List (List Int)) =>
    (addO s4.2 1).bind fun a14 =>
    some (.inl (s7, a14)))
   (some (.inr s4.1))) ([], 0)).bind fun (s8 : List (List Int)) =>
 (F_spec_spReduce p_ size_ s8).bind fun y4 =>
 some y4

noncomputable def F_spec_frRecurrence (p_ : Int) (s_ : List Int) (m_ : Int) : Option (List Int × Bool) :=
 (whileO (fun (s0 : List (List Int) × Int) =>
   (some (decide (s0.2 < ((s_.length : Nat) : Int)))).bind fun a0 =>
   cond a0
   ((idxO s_ s0.2).bind fun a1 =>
    (whileO (fun (s1 : List Int × Int) =>
      (some (decide (s1.2 ≤ m_))).bind fun a2 =>
      cond a2
      ((subO s0.2 s1.2).bind fun a3 =>
       (idxO s_ a3).bind fun a4 =>
       (appO s1.1 [a4]).bind fun a5 =>
       (addO s1.2 1).bind fun a6 =>
       some (.inl (a5, a6)))
      (some (.inr s1.1))) ([a1], 1)).bind fun (s2 : List Int) =>
    (appO s0.1 [s2]).bind fun a7 =>
    (addO s0.2 1).bind fun a8 =>
    some (.inl (a7, a8)))
   (some (.inr s0.1))) ([], m_)).bind fun (s3 : List (List Int)) =>
 (addO m_ 1).bind fun a9 =>
 (F_spec_spNull p_ a9 s3).bind fun y0 =>
 seqO (forO (fun (k0 : Nat) (_ : Unit) =>
   (idxO y0 ((k0 : Nat) : Int)).bind fun a10 =>
   (idxO a10 0).bind fun a11 =>
   (some (!decide (a11 = 0))).bind fun a12 =>
   cond a12
   ((sliceO a10 1 ((a10.length : Nat) : Int)).bind fun a13 =>
    some (.inr (a13, true)))
   (some (.inl ()))) y0.length 0 ()) fun (_ : Unit) =>
 some ([], false)

noncomputable def F_spec_poTrim (f_ : List Int) : Option (List Int) :=
 (whileO (fun (s0 : Int) =>
   ((some (decide ((0 : Int) < s0))).bind fun a0 =>
    cond a0
    ((subO s0 1).bind fun a1 =>
     (idxO f_ a1).bind fun a2 =>
     (some (decide (a2 = 0))).bind fun a3 =>
     some a3)
    (some false)).bind fun (s1 : Bool) =>
   cond s1
   ((subO s0 1).bind fun a4 =>
    some (.inl a4))
   (some (.inr s0))) ((f_.length : Nat) : Int)).bind fun (s2 : Int) =>
 (sliceO f_ 0 s2).bind fun a5 =>
 (F_spec_l1Own a5).bind fun y0 =>
 some y0

noncomputable def F_spec_poDiv (p_ : Int) (f_ : List Int) (g_ : List Int) : Option (List Int × List Int) :=
 (F_spec_l1Own f_).bind fun y3 =>
 ((some (decide (((g_.length : Nat) : Int) ≤ ((f_.length : Nat) : Int)))).bind fun a0 =>
  cond a0
  ((subO ((f_.length : Nat) : Int) ((g_.length : Nat) : Int)).bind fun a1 =>
   (addO a1 1).bind fun a2 =>
   (makeO a2 (0 : Int)).bind fun a3 =>
   some a3)
  (some [])).bind fun (s0 : List Int) =>
 (subO ((g_.length : Nat) : Int) 1).bind fun a4 =>
 (idxO g_ a4).bind fun a5 =>
 (F_spec_fdInv p_ a5).bind fun y0 =>
 ((subO ((s0.length : Nat) : Int) 1).bind fun a6 =>
  whileO (fun (s1 : List Int × List Int × Int) =>
   (some (decide ((0 : Int) ≤ s1.2.2))).bind fun a7 =>
   cond a7
   ((addO s1.2.2 ((g_.length : Nat) : Int)).bind fun a8 =>
    (subO a8 1).bind fun a9 =>
    (idxO s1.2.1 a9).bind fun a10 =>
    (F_spec_fdMul p_ a10 y0).bind fun y1 =>
    (setO s1.1 s1.2.2 y1).bind fun a11 =>
    (forS (fun (k0 : Nat) (s2 : List Int) =>
      (idxO g_ ((k0 : Nat) : Int)).bind fun a12 =>
      (addO s1.2.2 ((k0 : Nat) : Int)).bind fun a13 =>
      (addO s1.2.2 ((k0 : Nat) : Int)).bind fun a14 =>
      (idxO s2 a14).bind fun a15 =>
      (F_spec_fdMul p_ y1 a12).bind fun y2 =>
      (F_spec_fdSub p_ a15 y2).bind fun y4 =>
      (setO s2 a13 y4).bind fun a16 =>
      some a16) g_.length 0 s1.2.1).bind fun (s3 : List Int) =>
    (subO s1.2.2 1).bind fun a17 =>
    some (.inl (a11, s3, a17)))
   (some (.inr (s1.1, s1.2.1)))) (s0, y3, a6)).bind fun (s4 : List Int × List Int) =>
 (F_spec_poTrim s4.1).bind fun y5 =>
 (F_spec_poTrim s4.2).bind fun y6 =>
 some (y5, y6)

noncomputable def F_spec_poTimes (p_ : Int) (k_ : Int) (f_ : List Int) : Option (List Int) :=
 (makeO ((f_.length : Nat) : Int) (0 : Int)).bind fun a2 =>
 (forS (fun (k7 : Nat) (s0 : List Int) =>
   (idxO f_ ((k7 : Nat) : Int)).bind fun a0 =>
   (F_spec_fdMul p_ k_ a0).bind fun y0 =>
   (setO s0 ((k7 : Nat) : Int) y0).bind fun a1 =>
   some a1) f_.length 0 a2).bind fun (s1 : List Int) =>
 (F_spec_poTrim s1).bind fun y1 =>
 some y1

noncomputable def F_spec_poMonic (p_ : Int) (f_ : List Int) : Option (List Int) :=
 (subO ((f_.length : Nat) : Int) 1).bind fun a2 =>
 (idxO f_ a2).bind fun a0 =>
 (F_spec_fdInv p_ a0).bind fun y0 =>
 (F_spec_poTimes p_ y0 f_).bind fun y1 =>
 some y1

noncomputable def F_spec_poGcd (p_ : Int) (f_ : List Int) (g_ : List Int) : Option (List Int) :=
 (whileO (fun (s0 : List Int × List Int) =>
   (some (decide ((0 : Int) < ((s0.2.length : Nat) : Int)))).bind fun a0 =>
   cond a0
   ((F_spec_poDiv p_ s0.1 s0.2).bind fun y0 =>
    some (.inl (s0.2, y0.2)))
   (some (.inr s0.1))) (f_, g_)).bind fun (s1 : List Int) =>
 (F_spec_poMonic p_ s1).bind fun y1 =>
 some y1

noncomputable def F_spec_frMake (p_ : Int) (num_ : List Int) (den_ : List Int) : Option (List Int × List Int) :=
 (F_spec_poGcd p_ num_ den_).bind fun y6 =>
 (F_spec_poDiv p_ num_ y6).bind fun y0 =>
 (F_spec_poDiv p_ den_ y6).bind fun y1 =>
 (subO ((y1.1.length : Nat) : Int) 1).bind fun a0 =>
 (idxO y1.1 a0).bind fun a1 =>
 (F_spec_fdInv p_ a1).bind fun y2 =>
 (F_spec_poTimes p_ y2 y0.1).bind fun y3 =>
 (F_spec_l1Own y3).bind fun y4 =>
 (F_spec_poTimes p_ y2 y1.1).bind fun y5 =>
 (F_spec_l1Own y5).bind fun y7 =>
 some (y4, y7)

noncomputable def F_spec_frSize (f_ : List Int) : Option Bool :=
 (some (decide (((f_.length : Nat) : Int) ≤ 21))).bind fun a2 =>
 some a2

noncomputable def F_spec_frIf (x_ : List Int × List Int) : Option ((List Int × List Int) × Bool) :=
 ((F_spec_frSize x_.1).bind fun y0 =>
  (some (!y0)).bind fun a0 =>
  cond a0
  (some true)
  ((F_spec_frSize x_.2).bind fun y1 =>
   (some (!y1)).bind fun a1 =>
   some a1)).bind fun (s0 : Bool) =>
 cond s0
 (some (([], []), false))
 (some ((x_.1, x_.2), true))

noncomputable def F_spec_frOf (p_ : Int) (s_ : List Int) : Option ((List Int × List Int) × Bool) :=
 seqO (whileO (fun (s0 : Int) =>
   (mulO 2 s0).bind fun a0 =>
   (some (decide (a0 ≤ ((s_.length : Nat) : Int)))).bind fun a1 =>
   cond a1
   (seqO ((F_spec_frRecurrence p_ s_ s0).bind fun y0 =>
     (some (!y0.2)).bind fun a2 =>
     cond a2
     (some (.inl ()))
     ((appO [1] y0.1).bind fun a3 =>
      (makeO s0 (0 : Int)).bind fun a4 =>
      (forS (fun (k0 : Nat) (s1 : List Int) =>
        (whileO (fun (s2 : List Int × Int) =>
          (some (decide (s2.2 ≤ ((k0 : Nat) : Int)))).bind fun a5 =>
          cond a5
          ((idxO s2.1 ((k0 : Nat) : Int)).bind fun a6 =>
           (idxO a3 s2.2).bind fun a7 =>
           (subO ((k0 : Nat) : Int) s2.2).bind fun a8 =>
           (idxO s_ a8).bind fun a9 =>
           (mulO a7 a9).bind fun a10 =>
           (addO a6 a10).bind fun a11 =>
           (remO a11 p_).bind fun a12 =>
           (setO s2.1 ((k0 : Nat) : Int) a12).bind fun a13 =>
           (addO s2.2 1).bind fun a14 =>
           some (.inl (a13, a14)))
          (some (.inr s2.1))) (s1, 0)).bind fun (s3 : List Int) =>
        some s3) a4.length 0 a4).bind fun (s4 : List Int) =>
      (F_spec_poTrim s4).bind fun y1 =>
      (F_spec_poTrim a3).bind fun y2 =>
      (F_spec_frMake p_ y1 y2).bind fun y3 =>
      (F_spec_frIf (y3.1, y3.2)).bind fun y4 =>
      some (.inr (.inr (.inr ((y4.1.1, y4.1.2), y4.2)))))) fun (s5 : Unit) =>
    (addO s0 1).bind fun a15 =>
    some (.inl a15))
   (some (.inr (.inl ())))) 0) fun (s6 : Unit) =>
 some (([], []), false)

noncomputable def F_spec_TransferOf (p_ : Int) (s_ : Int × Int × Int × List (List Int) × List (List Int) × List (List Int) × List (List Int)) : Option ((List (List (List Int × List Int))) × Bool) :=
 (F_spec_ssGood p_ (s_.1, s_.2.1, s_.2.2.1, s_.2.2.2.1, s_.2.2.2.2.1, s_.2.2.2.2.2.1, s_.2.2.2.2.2.2)).bind fun y8 =>
 (some (!y8)).bind fun a0 =>
 cond a0
 (some ([], false))
 ((mulO 2 s_.1).bind fun a1 =>
  (addO a1 2).bind fun a2 =>
  (F_spec_ssMarkov p_ (s_.1, s_.2.1, s_.2.2.1, s_.2.2.2.1, s_.2.2.2.2.1, s_.2.2.2.2.2.1, s_.2.2.2.2.2.2) a2).bind fun y0 =>
  seqO (whileO (fun (s0 : (List (List (List Int × List Int))) × Int) =>
    (some (decide (s0.2 < s_.2.1))).bind fun a3 =>
    cond a3
    (seqO (whileO (fun (s1 : Int × (List (List Int × List Int))) =>
       (some (decide (s1.1 < s_.2.2.1))).bind fun a4 =>
       cond a4
       ((forS (fun (k0 : Nat) (s2 : List Int) =>
          (idxO y0 ((k0 : Nat) : Int)).bind fun a5 =>
          (idxO a5.2 s0.2).bind fun a6 =>
          (idxO a6 s1.1).bind fun a7 =>
          (appO s2 [a7]).bind fun a8 =>
          some a8) y0.length 0 []).bind fun (s3 : List Int) =>
        (F_spec_frOf p_ s3).bind fun y1 =>
        (some (!y1.2)).bind fun a9 =>
        cond a9
        (some (.inr (.inr (.inr (.inr ([], false))))))
        ((appO s1.2 [(y1.1.1, y1.1.2)]).bind fun a10 =>
         (addO s1.1 1).bind fun a12 =>
         some (.inl (a12, a10))))
       (some (.inr (.inl s1.2)))) (0, [])) fun (s4 : List (List Int × List Int)) =>
     (appO s0.1 [s4]).bind fun a13 =>
     (addO s0.2 1).bind fun a15 =>
     some (.inl (a13, a15)))
    (some (.inr (.inl s0.1)))) ([], 0)) fun (s5 : List (List (List Int × List Int))) =>
  some (s5, true))

noncomputable def F_impl_isField (p_ : Int) : Option Bool :=
 ((some (decide (p_ < 2))).bind fun a0 =>
  cond a0
  (some true)
  ((some (decide ((97 : Int) < p_))).bind fun a1 =>
   some a1)).bind fun (s8 : Bool) =>
 cond s8
 (some false)
 ((cI 4).bind fun _ =>
  seqO (forO (fun (k0 : Nat) (_ : Unit) =>
    (idxO [2, 3, 5, 7] ((k0 : Nat) : Int)).bind fun a2 =>
    ((remO p_ a2).bind fun a3 =>
     (some (decide (a3 = 0))).bind fun a4 =>
     cond a4
     ((some (!decide (p_ = a2))).bind fun a5 =>
      some a5)
     (some false)).bind fun (s0 : Bool) =>
    cond s0
    (some (.inr false))
    (some (.inl ()))) ((4 : Int).toNat) 0 ()) fun (_ : Unit) =>
  some true)

noncomputable def F_impl_within (n_ : Int) (low_ : Int) (high_ : Int) : Option Bool :=
 ((some (decide (low_ ≤ n_))).bind fun a0 =>
  cond a0
  ((some (decide (n_ ≤ high_))).bind fun a1 =>
   some a1)
  (some false)).bind fun (s7 : Bool) =>
 some s7

noncomputable def F_impl_table_int_hasShape (t_ : List (List Int)) (rows_ : Int) (cols_ : Int) : Option Bool :=
 (some (!decide (((t_.length : Nat) : Int) = rows_))).bind fun a2 =>
 cond a2
 (some false)
 ((cI rows_).bind fun _ =>
  seqO (forO (fun (k5 : Nat) (_ : Unit) =>
    (idxO t_ ((k5 : Nat) : Int)).bind fun a0 =>
    (some (!decide (((a0.length : Nat) : Int) = cols_))).bind fun a1 =>
    cond a1
    (some (.inr false))
    (some (.inl ()))) rows_.toNat 0 ()) fun (_ : Unit) =>
  some true)

noncomputable def F_impl_isElement (p_ : Int) (a_ : Int) : Option Bool :=
 ((some (decide ((0 : Int) ≤ a_))).bind fun a0 =>
  cond a0
  ((some (decide (a_ < p_))).bind fun a1 =>
   some a1)
  (some false)).bind fun (s7 : Bool) =>
 some s7

noncomputable def F_impl_isVector (p_ : Int) (v_ : List Int) (n_ : Int) : Option Bool :=
 (some (!decide (((v_.length : Nat) : Int) = n_))).bind fun a2 =>
 cond a2
 (some false)
 (seqO (forO (fun (k5 : Nat) (_ : Unit) =>
    (idxO v_ ((k5 : Nat) : Int)).bind fun a0 =>
    (F_impl_isElement p_ a0).bind fun y0 =>
    (some (!y0)).bind fun a1 =>
    cond a1
    (some (.inr false))
    (some (.inl ()))) v_.length 0 ()) fun (_ : Unit) =>
  some true)

noncomputable def F_impl_areVectors (p_ : Int) (rows_ : List (List Int)) (n_ : Int) : Option Bool :=
 seqO (forO (fun (k2 : Nat) (_ : Unit) =>
   (idxO rows_ ((k2 : Nat) : Int)).bind fun a0 =>
   (F_impl_isVector p_ a0 n_).bind fun y0 =>
   (some (!y0)).bind fun a1 =>
   cond a1
   (some (.inr false))
   (some (.inl ()))) rows_.length 0 ()) fun (_ : Unit) =>
 some true

noncomputable def F_impl_isStateSpace (p_ : Int) (s_ : Int × Int × Int × List (List Int) × List (List Int) × List (List Int) × List (List Int)) : Option Bool :=
 ((F_impl_isField p_).bind fun y0 =>
  (some (!y0)).bind fun a0 =>
  cond a0
  (some true)
  ((F_impl_within s_.1 0 24).bind fun y1 =>
   (some (!y1)).bind fun a1 =>
   cond a1
   (some true)
   ((F_impl_within s_.2.1 0 8).bind fun y2 =>
    (some (!y2)).bind fun a2 =>
    cond a2
    (some true)
    ((F_impl_within s_.2.2.1 0 8).bind fun y3 =>
     (some (!y3)).bind fun a3 =>
     some a3)))).bind fun (s0 : Bool) =>
 cond s0
 (some false)
 (((F_impl_table_int_hasShape s_.2.2.2.1 s_.1 s_.1).bind fun y4 =>
   (some (!y4)).bind fun a4 =>
   cond a4
   (some true)
   ((F_impl_table_int_hasShape s_.2.2.2.2.1 s_.2.1 s_.1).bind fun y5 =>
    (some (!y5)).bind fun a5 =>
    cond a5
    (some true)
    ((F_impl_table_int_hasShape s_.2.2.2.2.2.1 s_.1 s_.2.2.1).bind fun y6 =>
     (some (!y6)).bind fun a6 =>
     cond a6
     (some true)
     ((F_impl_table_int_hasShape s_.2.2.2.2.2.2 s_.2.1 s_.2.2.1).bind fun y7 =>
      (some (!y7)).bind fun a7 =>
      some a7)))).bind fun (s1 : Bool) =>
  cond s1
  (some false)
  (((F_impl_areVectors p_ s_.2.2.2.1 s_.1).bind fun y8 =>
    cond y8
    ((F_impl_areVectors p_ s_.2.2.2.2.1 s_.1).bind fun y9 =>
     cond y9
     ((F_impl_areVectors p_ s_.2.2.2.2.2.1 s_.2.2.1).bind fun y10 =>
      cond y10
      ((F_impl_areVectors p_ s_.2.2.2.2.2.2 s_.2.2.1).bind fun y11 =>
       some y11)
      (some false))
     (some false))
    (some false)).bind fun (s2 : Bool) =>
   some s2))

noncomputable def F_impl_clone (list_ : List Int) : Option (List Int) :=
 (appO ([] : List Int) list_).bind fun a5 =>
 some a5

noncomputable def F_impl_clones (list_ : List (List Int)) : Option (List (List Int)) :=
 (makeCO 0 ((list_.length : Nat) : Int) ([] : List Int)).bind fun a2 =>
 (forS (fun (k7 : Nat) (s0 : List (List Int)) =>
   (idxO list_ ((k7 : Nat) : Int)).bind fun a0 =>
   (F_impl_clone a0).bind fun y0 =>
   (appO s0 [y0]).bind fun a1 =>
   some a1) list_.length 0 a2).bind fun (s1 : List (List Int)) =>
 some s1

noncomputable def F_impl_zeros (n_ : Int) : Option (List Int) :=
 (makeO n_ (0 : Int)).bind fun a1 =>
 some a1

noncomputable def F_impl_mod (p_ : Int) (a_ : Int) : Option Int :=
 (remO a_ p_).bind fun a1 =>
 (some (decide (a1 < 0))).bind fun a3 =>
 cond a3
 ((addO a1 p_).bind fun a7 =>
  some a7)
 (some a1)

noncomputable def F_impl_addTimes (p_ : Int) (v_ : List Int) (by_ : Int) (w_ : List Int) : Option (List Int) :=
 (forS (fun (k3 : Nat) (s0 : List Int) =>
   (idxO w_ ((k3 : Nat) : Int)).bind fun a0 =>
   (idxO s0 ((k3 : Nat) : Int)).bind fun a1 =>
   (mulO by_ a0).bind fun a2 =>
   (addO a1 a2).bind fun a3 =>
   (F_impl_mod p_ a3).bind fun y0 =>
   (setO s0 ((k3 : Nat) : Int) y0).bind fun a4 =>
   some a4) w_.length 0 v_).bind fun (s1 : List Int) =>
 some s1

noncomputable def F_impl_combine (p_ : Int) (x_ : List Int) (rows_ : List (List Int)) (n_ : Int) : Option (List Int) :=
 (F_impl_zeros n_).bind fun y3 =>
 (forS (fun (k8 : Nat) (s0 : List Int) =>
   (idxO rows_ ((k8 : Nat) : Int)).bind fun a0 =>
   (idxO x_ ((k8 : Nat) : Int)).bind fun a1 =>
   (F_impl_addTimes p_ s0 a1 a0).bind fun y0 =>
   some y0) rows_.length 0 y3).bind fun (s1 : List Int) =>
 some s1

noncomputable def F_impl_product (p_ : Int) (rows_ : List (List Int)) (m_ : List (List Int)) (n_ : Int) : Option (List (List Int)) :=
 (forS (fun (k6 : Nat) (s0 : List (List Int)) =>
   (idxO rows_ ((k6 : Nat) : Int)).bind fun a0 =>
   (F_impl_combine p_ a0 m_ n_).bind fun y0 =>
   (appO s0 [y0]).bind fun a1 =>
   some a1) rows_.length 0 ([] : List (List Int))).bind fun (s1 : List (List Int)) =>
 some s1

noncomputable def F_impl_StateSpace_markov (s_ : Int × Int × Int × List (List Int) × List (List Int) × List (List Int) × List (List Int)) (p_ : Int) (n_ : Int) : Option (List (Int × List (List Int))) :=
 (F_impl_clones s_.2.2.2.2.1).bind fun y0 =>
 (cI n_).bind fun _ =>
 (forS (fun (k0 : Nat) (s0 : (List (Int × List (List Int))) × List (List Int)) =>
   ((some (decide (((k0 : Nat) : Int) = 0))).bind fun a0 =>
    cond a0
    ((F_impl_clones s_.2.2.2.2.2.2).bind fun y1 =>
     (appO s0.1 [(s_.2.2.1, y1)]).bind fun a1 =>
     some (a1, s0.2))
    ((F_impl_product p_ s0.2 s_.2.2.2.2.2.1 s_.2.2.1).bind fun y2 =>
     (appO s0.1 [(s_.2.2.1, y2)]).bind fun a2 =>
     (F_impl_product p_ s0.2 s_.2.2.2.1 s_.1).bind fun y3 =>
     some (a2, y3))).bind fun (s1 : (List (Int × List (List Int))) × List (List Int)) =>
   some (s1.1, s1.2)) n_.toNat 0 (([] : List (Int × List (List Int))), y0)).bind fun (s2 : (List (Int × List (List Int))) × List (List Int)) =>
 some s2.1

noncomputable def F_impl_isSeries (p_ : Int) (s_ : List Int) : Option Bool :=
 ((F_impl_isField p_).bind fun y0 =>
  cond y0
  ((some (decide (((s_.length : Nat) : Int) ≤ 60))).bind fun a0 =>
   cond a0
   ((F_impl_isVector p_ s_ ((s_.length : Nat) : Int)).bind fun y1 =>
    some y1)
   (some false))
  (some false)).bind fun (s0 : Bool) =>
 some s0

noncomputable def F_impl_coefficient (f_ : List Int) (e_ : Int) : Option Int :=
 (some (decide (((f_.length : Nat) : Int) ≤ e_))).bind fun a2 =>
 cond a2
 (some 0)
 ((idxO f_ e_).bind fun a0 =>
  some a0)

noncomputable def F_impl_bit (yes_ : Bool) : Option Int :=
 cond yes_
 (some 1)
 (some 0)

noncomputable def F_impl_power (p_ : Int) (a_ : Int) (n_ : Int) : Option Int :=
 (remO 1 p_).bind fun a1 =>
 (whileO (fun (s0 : Int × Int × Int) =>
   (some (decide ((0 : Int) < s0.2.1))).bind fun a0 =>
   cond a0
   (((remO s0.2.1 2).bind fun a2 =>
     (some (decide (a2 = 1))).bind fun a3 =>
     cond a3
     ((mulO s0.2.2 s0.1).bind fun a4 =>
      (remO a4 p_).bind fun a5 =>
      some a5)
     (some s0.2.2)).bind fun (s1 : Int) =>
    (mulO s0.1 s0.1).bind fun a6 =>
    (remO a6 p_).bind fun a7 =>
    (quoO s0.2.1 2).bind fun a8 =>
    some (.inl (a7, a8, s1)))
   (some (.inr s0.2.2))) (a_, n_, a1)).bind fun (s2 : Int) =>
 some s2

noncomputable def F_impl_inverse (p_ : Int) (a_ : Int) : Option Int :=
 (subO p_ 2).bind fun a1 =>
 (some (decide (p_ = 2))).bind fun a3 =>
 (F_impl_bit a3).bind fun y5 =>
 (addO a1 y5).bind fun a8 =>
 (F_impl_power p_ a_ a8).bind fun y0 =>
 some y0

noncomputable def F_impl_trimmed_int (f_ : List Int) (zero_ : Int) : Option (List Int) :=
 (whileO (fun (s0 : Int) =>
   ((some (decide ((0 : Int) < s0))).bind fun a0 =>
    cond a0
    ((subO s0 1).bind fun a1 =>
     (idxO f_ a1).bind fun a2 =>
     (some (decide (a2 = zero_))).bind fun a3 =>
     some a3)
    (some false)).bind fun (s1 : Bool) =>
   cond s1
   ((subO s0 1).bind fun a4 =>
    some (.inl a4))
   (some (.inr s0))) ((f_.length : Nat) : Int)).bind fun (s2 : Int) =>
 (sliceO f_ 0 s2).bind fun a5 =>
 some a5

noncomputable def F_impl_polyAdd (p_ : Int) (f_ : List Int) (by_ : Int) (g_ : List Int) : Option (List Int) :=
 (some (maxI2 ((f_.length : Nat) : Int) ((g_.length : Nat) : Int))).bind fun a3 =>
 (F_impl_zeros a3).bind fun y5 =>
 (some (copL y5 f_)).bind fun a0 =>
 (F_impl_addTimes p_ a0 by_ g_).bind fun y0 =>
 (F_impl_trimmed_int y0 0).bind fun y1 =>
 some y1

noncomputable def F_impl_recurrence (p_ : Int) (s_ : List Int) : Option (List Int × Int) :=
 (forS (fun (k8 : Nat) (s0 : Int × List Int × List Int × Int × Int) =>
   ((whileO (fun (s1 : Int × Int) =>
      (some (decide (s1.2 ≤ s0.2.2.2.1))).bind fun a0 =>
      cond a0
      ((subO ((k8 : Nat) : Int) s1.2).bind fun a1 =>
       (idxO s_ a1).bind fun a2 =>
       (F_impl_coefficient s0.2.1 s1.2).bind fun y0 =>
       (mulO y0 a2).bind fun a3 =>
       (addO s1.1 a3).bind fun a4 =>
       (addO s1.2 1).bind fun a5 =>
       some (.inl (a4, a5)))
      (some (.inr s1.1))) (0, 0)).bind fun (s2 : Int) =>
    (F_impl_mod p_ s2).bind fun y1 =>
    (some (decide (y1 = 0))).bind fun a6 =>
    cond a6
    ((addO s0.2.2.2.2 1).bind fun a7 =>
     some (s0.1, s0.2.1, s0.2.2.1, s0.2.2.2.1, a7))
    ((F_impl_zeros s0.2.2.2.2).bind fun y2 =>
     (appO y2 s0.2.2.1).bind fun a8 =>
     (negO y1).bind fun a9 =>
     (F_impl_inverse p_ s0.1).bind fun y3 =>
     (mulO a9 y3).bind fun a10 =>
     (F_impl_polyAdd p_ s0.2.1 a10 a8).bind fun y4 =>
     (mulO 2 s0.2.2.2.1).bind fun a11 =>
     (some (decide (a11 ≤ ((k8 : Nat) : Int)))).bind fun a12 =>
     cond a12
     ((addO ((k8 : Nat) : Int) 1).bind fun a13 =>
      (subO a13 s0.2.2.2.1).bind fun a14 =>
      some (y1, y4, s0.2.1, a14, 1))
     ((addO s0.2.2.2.2 1).bind fun a15 =>
      some (s0.1, y4, s0.2.2.1, s0.2.2.2.1, a15)))).bind fun (s3 : Int × List Int × List Int × Int × Int) =>
   some (s3.1, s3.2.1, s3.2.2.1, s3.2.2.2.1, s3.2.2.2.2)) s_.length 0 (1, [1], [1], 0, 1)).bind fun (s4 : Int × List Int × List Int × Int × Int) =>
 some (s4.2.1, s4.2.2.2.1)

noncomputable def F_impl_convolve (p_ : Int) (a_ : List Int) (b_ : List Int) (n_ : Int) : Option (List Int) :=
 (F_impl_zeros n_).bind fun y3 =>
 (forS (fun (k8 : Nat) (s0 : List Int) =>
   (whileO (fun (s1 : List Int × Int) =>
     (some (decide (s1.2 ≤ ((k8 : Nat) : Int)))).bind fun a0 =>
     cond a0
     ((idxO s1.1 ((k8 : Nat) : Int)).bind fun a1 =>
      (subO ((k8 : Nat) : Int) s1.2).bind fun a2 =>
      (F_impl_coefficient a_ s1.2).bind fun y0 =>
      (F_impl_coefficient b_ a2).bind fun y1 =>
      (mulO y0 y1).bind fun a3 =>
      (addO a1 a3).bind fun a4 =>
      (setO s1.1 ((k8 : Nat) : Int) a4).bind fun a5 =>
      (addO s1.2 1).bind fun a6 =>
      some (.inl (a5, a6)))
     (some (.inr s1.1))) (s0, 0)).bind fun (s2 : List Int) =>
   (idxO s2 ((k8 : Nat) : Int)).bind fun a7 =>
   (remO a7 p_).bind fun a8 =>
   (setO s2 ((k8 : Nat) : Int) a8).bind fun a9 =>
   some a9) y3.length 0 y3).bind fun (s3 : List Int) =>
 some s3

noncomputable def F_impl_addTimes_win (p_ : Int) (v_ : List Int) (by_ : Int) (w_ : List Int) : Option (List Int) :=
 (forS (fun (k3 : Nat) (s0 : List Int) =>
   (idxO w_ ((k3 : Nat) : Int)).bind fun a0 =>
   (idxO s0 ((k3 : Nat) : Int)).bind fun a1 =>
   (mulO by_ a0).bind fun a2 =>
   (addO a1 a2).bind fun a3 =>
   (F_impl_mod p_ a3).bind fun y0 =>
   (setO s0 ((k3 : Nat) : Int) y0).bind fun a4 =>
   some a4) w_.length 0 v_).bind fun (s1 : List Int) =>
 some s1

noncomputable def F_impl_polyDivide (p_ : Int) (f_ : List Int) (g_ : List Int) : Option (List Int × List Int) :=
 (F_impl_clone f_).bind fun y3 =>
 (some (decide (((f_.length : Nat) : Int) < ((g_.length : Nat) : Int)))).bind fun a8 =>
 cond a8
 (some (([] : List Int), y3))
 ((subO ((f_.length : Nat) : Int) ((g_.length : Nat) : Int)).bind fun a0 =>
  (addO a0 1).bind fun a1 =>
  (F_impl_zeros a1).bind fun y0 =>
  (subO ((g_.length : Nat) : Int) 1).bind fun a2 =>
  (idxO g_ a2).bind fun a3 =>
  (F_impl_inverse p_ a3).bind fun y1 =>
  ((subO ((y0.length : Nat) : Int) 1).bind fun a4 =>
   whileO (fun (s0 : List Int × List Int × Int) =>
    (some (decide ((0 : Int) ≤ s0.2.2))).bind fun a5 =>
    cond a5
    ((addO s0.2.2 ((g_.length : Nat) : Int)).bind fun a6 =>
     (subO a6 1).bind fun a7 =>
     (idxO s0.2.1 a7).bind fun a9 =>
     (mulO a9 y1).bind fun a10 =>
     (remO a10 p_).bind fun a12 =>
     (setO s0.1 s0.2.2 a12).bind fun a14 =>
     (sliceO s0.2.1 s0.2.2 ((s0.2.1.length : Nat) : Int)).bind fun a15 =>
     (idxO a14 s0.2.2).bind fun a16 =>
     (negO a16).bind fun a17 =>
     (F_impl_addTimes_win p_ a15 a17 g_).bind fun y2 =>
     (subO s0.2.2 1).bind fun a18 =>
     some (.inl (a14, ((s0.2.1.take (s0.2.2).toNat) ++ y2), a18)))
    (some (.inr (s0.1, s0.2.1)))) (y0, y3, a4)).bind fun (s1 : List Int × List Int) =>
  (F_impl_trimmed_int s1.1 0).bind fun y4 =>
  (F_impl_trimmed_int s1.2 0).bind fun y5 =>
  some (y4, y5))

noncomputable def F_impl_scaled (p_ : Int) (f_ : List Int) (by_ : Int) : Option (List Int) :=
 (F_impl_polyAdd p_ [] by_ f_).bind fun y3 =>
 some y3

noncomputable def F_impl_monic (p_ : Int) (f_ : List Int) : Option (List Int) :=
 (subO ((f_.length : Nat) : Int) 1).bind fun a2 =>
 (idxO f_ a2).bind fun a0 =>
 (F_impl_inverse p_ a0).bind fun y0 =>
 (F_impl_scaled p_ f_ y0).bind fun y1 =>
 some y1

noncomputable def F_impl_polyGcd (p_ : Int) (f_ : List Int) (g_ : List Int) : Option (List Int) :=
 (whileO (fun (s0 : List Int × List Int) =>
   (some (decide ((0 : Int) < ((s0.2.length : Nat) : Int)))).bind fun a0 =>
   cond a0
   ((F_impl_polyDivide p_ s0.1 s0.2).bind fun y0 =>
    some (.inl (s0.2, y0.2)))
   (some (.inr s0.1))) (f_, g_)).bind fun (s1 : List Int) =>
 (some (decide (((s1.length : Nat) : Int) = 0))).bind fun a1 =>
 cond a1
 (some s1)
 ((F_impl_monic p_ s1).bind fun y1 =>
  some y1)

noncomputable def F_impl_lowest (p_ : Int) (num_ : List Int) (den_ : List Int) : Option (List Int × List Int) :=
 (some (decide (((num_.length : Nat) : Int) = 0))).bind fun a6 =>
 cond a6
 (some (([] : List Int), [1]))
 ((F_impl_polyGcd p_ num_ den_).bind fun y9 =>
  (F_impl_polyDivide p_ num_ y9).bind fun y0 =>
  (F_impl_polyDivide p_ den_ y9).bind fun y1 =>
  (subO ((y1.1.length : Nat) : Int) 1).bind fun a0 =>
  (idxO y1.1 a0).bind fun a1 =>
  (F_impl_inverse p_ a1).bind fun y2 =>
  (F_impl_scaled p_ y0.1 y2).bind fun y3 =>
  (F_impl_scaled p_ y1.1 y2).bind fun y4 =>
  some (y3, y4))

noncomputable def F_impl_isPoly (p_ : Int) (f_ : List Int) : Option Bool :=
 ((F_impl_isField p_).bind fun y0 =>
  cond y0
  ((some (decide (((f_.length : Nat) : Int) ≤ 41))).bind fun a0 =>
   cond a0
   ((F_impl_isVector p_ f_ ((f_.length : Nat) : Int)).bind fun y1 =>
    cond y1
    ((some (decide (((f_.length : Nat) : Int) = 0))).bind fun a1 =>
     cond a1
     (some true)
     ((subO ((f_.length : Nat) : Int) 1).bind fun a2 =>
      (idxO f_ a2).bind fun a3 =>
      (some (!decide (a3 = 0))).bind fun a4 =>
      some a4))
    (some false))
   (some false))
  (some false)).bind fun (s0 : Bool) =>
 some s0

noncomputable def F_impl_arePolys (p_ : Int) (list_ : List (List Int)) : Option Bool :=
 seqO (forO (fun (k3 : Nat) (_ : Unit) =>
   (idxO list_ ((k3 : Nat) : Int)).bind fun a0 =>
   (F_impl_isPoly p_ a0).bind fun y0 =>
   (some (!y0)).bind fun a1 =>
   cond a1
   (some (.inr false))
   (some (.inl ()))) list_.length 0 ()) fun (_ : Unit) =>
 (F_impl_isField p_).bind fun y1 =>
 some y1

noncomputable def F_impl_degree (f_ : List Int) : Option Int :=
 (subO ((f_.length : Nat) : Int) 1).bind fun a2 =>
 some a2

noncomputable def F_slices_Equal_int_int (s1_ : List Int) (s2_ : List Int) : Option Bool :=
 (some (!decide (((s1_.length : Nat) : Int) = ((s2_.length : Nat) : Int)))).bind fun a3 =>
 cond a3
 (some false)
 (seqO (forO (fun (k6 : Nat) (_ : Unit) =>
    (idxO s1_ ((k6 : Nat) : Int)).bind fun a0 =>
    (idxO s2_ ((k6 : Nat) : Int)).bind fun a1 =>
    (some (!decide (a0 = a1))).bind fun a2 =>
    cond a2
    (some (.inr false))
    (some (.inl ()))) s1_.length 0 ()) fun (_ : Unit) =>
  some true)

noncomputable def F_impl_equalFractions (x_ : List Int × List Int) (y_ : List Int × List Int) : Option Bool :=
 ((F_slices_Equal_int_int x_.1 y_.1).bind fun y0 =>
  cond y0
  ((F_slices_Equal_int_int x_.2 y_.2).bind fun y1 =>
   some y1)
  (some false)).bind fun (s0 : Bool) =>
 some s0

noncomputable def F_impl_isFraction (p_ : Int) (x_ : List Int × List Int) : Option Bool :=
 ((F_impl_arePolys p_ [x_.1, x_.2]).bind fun y0 =>
  (some (!y0)).bind fun a0 =>
  cond a0
  (some true)
  ((F_impl_degree x_.1).bind fun y1 =>
   (some (decide ((20 : Int) < y1))).bind fun a1 =>
   cond a1
   (some true)
   ((F_impl_degree x_.2).bind fun y2 =>
    (some (decide ((20 : Int) < y2))).bind fun a2 =>
    cond a2
    (some true)
    ((some (decide (((x_.2.length : Nat) : Int) = 0))).bind fun a3 =>
     some a3)))).bind fun (s0 : Bool) =>
 cond s0
 (some false)
 ((F_impl_lowest p_ x_.1 x_.2).bind fun y3 =>
  (F_impl_equalFractions (y3.1, y3.2) (x_.1, x_.2)).bind fun y4 =>
  some y4)

noncomputable def F_impl_validFraction (p_ : Int) (x_ : List Int × List Int) : Option ((List Int × List Int) × Bool) :=
 (F_impl_isFraction p_ (x_.1, x_.2)).bind fun y0 =>
 (some (!y0)).bind fun a0 =>
 cond a0
 (some (([], []), false))
 (some ((x_.1, x_.2), true))

noncomputable def F_impl_FractionOfSeries (p_ : Int) (s_ : List Int) : Option ((List Int × List Int) × Bool) :=
 (F_impl_isSeries p_ s_).bind fun y6 =>
 (some (!y6)).bind fun a9 =>
 cond a9
 (some (([], []), false))
 ((F_impl_recurrence p_ s_).bind fun y0 =>
  (mulO 2 y0.2).bind fun a0 =>
  (some (decide (((s_.length : Nat) : Int) < a0))).bind fun a1 =>
  cond a1
  (some (([], []), false))
  ((F_impl_convolve p_ y0.1 s_ y0.2).bind fun y1 =>
   (F_impl_trimmed_int y1 0).bind fun y2 =>
   (F_impl_lowest p_ y2 y0.1).bind fun y3 =>
   (F_impl_validFraction p_ (y3.1, y3.2)).bind fun y4 =>
   some ((y4.1.1, y4.1.2), y4.2)))

noncomputable def F_impl_StateSpace_transfer (s_ : Int × Int × Int × List (List Int) × List (List Int) × List (List Int) × List (List Int)) (p_ : Int) : Option ((List (List (List Int × List Int))) × Bool) :=
 (addO s_.1 1).bind fun a9 =>
 (mulO 2 a9).bind fun a0 =>
 (F_impl_StateSpace_markov (s_.1, s_.2.1, s_.2.2.1, s_.2.2.2.1, s_.2.2.2.2.1, s_.2.2.2.2.2.1, s_.2.2.2.2.2.2) p_ a0).bind fun y0 =>
 (cI s_.2.1).bind fun _ =>
 seqO (forO (fun (k0 : Nat) (s0 : List (List (List Int × List Int))) =>
   (cI s_.2.2.1).bind fun _ =>
   seqO (forO (fun (k1 : Nat) (s1 : List (List Int × List Int)) =>
     (forS (fun (k2 : Nat) (s2 : List Int) =>
       (idxO y0 ((k2 : Nat) : Int)).bind fun a1 =>
       (idxO a1.2 ((k0 : Nat) : Int)).bind fun a2 =>
       (idxO a2 ((k1 : Nat) : Int)).bind fun a3 =>
       (appO s2 [a3]).bind fun a4 =>
       some a4) y0.length 0 ([] : List Int)).bind fun (s3 : List Int) =>
     (F_impl_FractionOfSeries p_ s3).bind fun y1 =>
     (some (!y1.2)).bind fun a5 =>
     cond a5
     (some (.inr (.inr ([], false))))
     ((appO s1 [(y1.1.1, y1.1.2)]).bind fun a6 =>
      some (.inl a6))) s_.2.2.1.toNat 0 ([] : List (List Int × List Int))) fun (s4 : List (List Int × List Int)) =>
   (appO s0 [s4]).bind fun a7 =>
   some (.inl a7)) s_.2.1.toNat 0 ([] : List (List (List Int × List Int)))) fun (s5 : List (List (List Int × List Int))) =>
 some (s5, true)

noncomputable def F_impl_TransferOf (p_ : Int) (s_ : Int × Int × Int × List (List Int) × List (List Int) × List (List Int) × List (List Int)) : Option ((List (List (List Int × List Int))) × Bool) :=
 (F_impl_isStateSpace p_ (s_.1, s_.2.1, s_.2.2.1, s_.2.2.2.1, s_.2.2.2.2.1, s_.2.2.2.2.2.1, s_.2.2.2.2.2.2)).bind fun y9 =>
 (some (!y9)).bind fun a0 =>
 cond a0
 (some ([], false))
 ((F_impl_StateSpace_transfer (s_.1, s_.2.1, s_.2.2.1, s_.2.2.2.1, s_.2.2.2.2.1, s_.2.2.2.2.2.1, s_.2.2.2.2.2.2) p_).bind fun y0 =>
  some (y0.1, y0.2))

noncomputable def F_laws_eqIntS (a_ : List Int) (b_ : List Int) : Option Bool :=
 (some (!decide (((a_.length : Nat) : Int) = ((b_.length : Nat) : Int)))).bind fun a3 =>
 cond a3
 (some false)
 (seqO (whileO (fun (s0 : Int) =>
    (some (decide (s0 < ((a_.length : Nat) : Int)))).bind fun a0 =>
    cond a0
    ((idxO a_ s0).bind fun a1 =>
     (idxO b_ s0).bind fun a2 =>
     (some (!decide (a1 = a2))).bind fun a4 =>
     cond a4
     (some (.inr (.inr false)))
     ((addO s0 1).bind fun a5 =>
      some (.inl a5)))
    (some (.inr (.inl ())))) 0) fun (s1 : Unit) =>
  some true)

noncomputable def F_laws_eqFraction (a_ : List Int × List Int) (b_ : List Int × List Int) : Option Bool :=
 (F_laws_eqIntS a_.1 b_.1).bind fun y0 =>
 (some (!y0)).bind fun a0 =>
 cond a0
 (some false)
 ((F_laws_eqIntS a_.2 b_.2).bind fun y1 =>
  (some (!y1)).bind fun a1 =>
  cond a1
  (some false)
  (some true))

noncomputable def F_laws_eqFractionS (a_ : List (List Int × List Int)) (b_ : List (List Int × List Int)) : Option Bool :=
 (some (!decide (((a_.length : Nat) : Int) = ((b_.length : Nat) : Int)))).bind fun a3 =>
 cond a3
 (some false)
 (seqO (whileO (fun (s0 : Int) =>
    (some (decide (s0 < ((a_.length : Nat) : Int)))).bind fun a0 =>
    cond a0
    ((idxO a_ s0).bind fun a1 =>
     (idxO b_ s0).bind fun a2 =>
     (F_laws_eqFraction (a1.1, a1.2) (a2.1, a2.2)).bind fun y0 =>
     (some (!y0)).bind fun a4 =>
     cond a4
     (some (.inr (.inr false)))
     ((addO s0 1).bind fun a5 =>
      some (.inl a5)))
    (some (.inr (.inl ())))) 0) fun (s1 : Unit) =>
  some true)

noncomputable def F_laws_eqFractionSS (a_ : List (List (List Int × List Int))) (b_ : List (List (List Int × List Int))) : Option Bool :=
 (some (!decide (((a_.length : Nat) : Int) = ((b_.length : Nat) : Int)))).bind fun a3 =>
 cond a3
 (some false)
 (seqO (whileO (fun (s0 : Int) =>
    (some (decide (s0 < ((a_.length : Nat) : Int)))).bind fun a0 =>
    cond a0
    ((idxO a_ s0).bind fun a1 =>
     (idxO b_ s0).bind fun a2 =>
     (F_laws_eqFractionS a1 a2).bind fun y0 =>
     (some (!y0)).bind fun a4 =>
     cond a4
     (some (.inr (.inr false)))
     ((addO s0 1).bind fun a5 =>
      some (.inl a5)))
    (some (.inr (.inl ())))) 0) fun (s1 : Unit) =>
  some true)

noncomputable def F_laws_eqIntSS (a_ : List (List Int)) (b_ : List (List Int)) : Option Bool :=
 (some (!decide (((a_.length : Nat) : Int) = ((b_.length : Nat) : Int)))).bind fun a3 =>
 cond a3
 (some false)
 (seqO (whileO (fun (s0 : Int) =>
    (some (decide (s0 < ((a_.length : Nat) : Int)))).bind fun a0 =>
    cond a0
    ((idxO a_ s0).bind fun a1 =>
     (idxO b_ s0).bind fun a2 =>
     (F_laws_eqIntS a1 a2).bind fun y0 =>
     (some (!y0)).bind fun a4 =>
     cond a4
     (some (.inr (.inr false)))
     ((addO s0 1).bind fun a5 =>
      some (.inl a5)))
    (some (.inr (.inl ())))) 0) fun (s1 : Unit) =>
  some true)

noncomputable def F_laws_eqStateSpace (a_ : Int × Int × Int × List (List Int) × List (List Int) × List (List Int) × List (List Int)) (b_ : Int × Int × Int × List (List Int) × List (List Int) × List (List Int) × List (List Int)) : Option Bool :=
 (some (!decide (a_.1 = b_.1))).bind fun a0 =>
 cond a0
 (some false)
 ((some (!decide (a_.2.1 = b_.2.1))).bind fun a1 =>
  cond a1
  (some false)
  ((some (!decide (a_.2.2.1 = b_.2.2.1))).bind fun a2 =>
   cond a2
   (some false)
   ((F_laws_eqIntSS a_.2.2.2.1 b_.2.2.2.1).bind fun y0 =>
    (some (!y0)).bind fun a3 =>
    cond a3
    (some false)
    ((F_laws_eqIntSS a_.2.2.2.2.1 b_.2.2.2.2.1).bind fun y1 =>
     (some (!y1)).bind fun a4 =>
     cond a4
     (some false)
     ((F_laws_eqIntSS a_.2.2.2.2.2.1 b_.2.2.2.2.2.1).bind fun y2 =>
      (some (!y2)).bind fun a5 =>
      cond a5
      (some false)
      ((F_laws_eqIntSS a_.2.2.2.2.2.2 b_.2.2.2.2.2.2).bind fun y3 =>
       (some (!y3)).bind fun a6 =>
       cond a6
       (some false)
       (some true)))))))

noncomputable def F_laws_markIntS (a_ : List Int) (k_ : Int) : Option (List Int × Int) :=
 (whileO (fun (s0 : List Int × Int × Int) =>
   (some (decide (s0.2.2 < ((s0.1.length : Nat) : Int)))).bind fun a0 =>
   cond a0
   ((setO s0.1 s0.2.2 s0.2.1).bind fun a1 =>
    (addO s0.2.1 1).bind fun a2 =>
    (addO s0.2.2 1).bind fun a3 =>
    some (.inl (a1, a2, a3)))
   (some (.inr (s0.1, s0.2.1)))) (a_, k_, 0)).bind fun (s1 : List Int × Int) =>
 some (s1.1, s1.2)

noncomputable def F_laws_markIntSS (a_ : List (List Int)) (k_ : Int) : Option (List (List Int) × Int) :=
 (whileO (fun (s0 : List (List Int) × Int × Int) =>
   (some (decide (s0.2.2 < ((s0.1.length : Nat) : Int)))).bind fun a0 =>
   cond a0
   ((idxO s0.1 s0.2.2).bind fun a1 =>
    (F_laws_markIntS a1 s0.2.1).bind fun y0 =>
    (setO s0.1 s0.2.2 y0.1).bind fun a2 =>
    (addO s0.2.2 1).bind fun a3 =>
    some (.inl (a2, y0.2, a3)))
   (some (.inr (s0.1, s0.2.1)))) (a_, k_, 0)).bind fun (s1 : List (List Int) × Int) =>
 some (s1.1, s1.2)

noncomputable def F_laws_markStateSpace (a_ : Int × Int × Int × List (List Int) × List (List Int) × List (List Int) × List (List Int)) (k_ : Int) : Option ((Int × Int × Int × List (List Int) × List (List Int) × List (List Int) × List (List Int)) × Int) :=
 (F_laws_markIntSS a_.2.2.2.1 k_).bind fun y8 =>
 (F_laws_markIntSS a_.2.2.2.2.1 y8.2).bind fun y0 =>
 (F_laws_markIntSS a_.2.2.2.2.2.1 y0.2).bind fun y1 =>
 (F_laws_markIntSS a_.2.2.2.2.2.2 y1.2).bind fun y2 =>
 some ((a_.1, a_.2.1, a_.2.2.1, y8.1, y0.1, y1.1, y2.1), y2.2)

noncomputable def F_laws_markFractionS (a_ : List (List Int × List Int)) (k_ : Int) : Option ((List (List Int × List Int)) × Int) :=
 (whileO (fun (s0 : (List (List Int × List Int)) × Int × Int) =>
   (some (decide (s0.2.2 < ((s0.1.length : Nat) : Int)))).bind fun a0 =>
   cond a0
   ((idxO s0.1 s0.2.2).bind fun a1 =>
    (F_laws_markIntS a1.1 s0.2.1).bind fun y0 =>
    (setO s0.1 s0.2.2 (y0.1, a1.2)).bind fun a2 =>
    (idxO a2 s0.2.2).bind fun a3 =>
    (F_laws_markIntS a3.2 y0.2).bind fun y1 =>
    (setO a2 s0.2.2 (a3.1, y1.1)).bind fun a4 =>
    (addO s0.2.2 1).bind fun a5 =>
    some (.inl (a4, y1.2, a5)))
   (some (.inr (s0.1, s0.2.1)))) (a_, k_, 0)).bind fun (s1 : (List (List Int × List Int)) × Int) =>
 some (s1.1, s1.2)

noncomputable def F_laws_markFractionSS (a_ : List (List (List Int × List Int))) (k_ : Int) : Option ((List (List (List Int × List Int))) × Int) :=
 (whileO (fun (s0 : (List (List (List Int × List Int))) × Int × Int) =>
   (some (decide (s0.2.2 < ((s0.1.length : Nat) : Int)))).bind fun a0 =>
   cond a0
   ((idxO s0.1 s0.2.2).bind fun a1 =>
    (F_laws_markFractionS a1 s0.2.1).bind fun y0 =>
    (setO s0.1 s0.2.2 y0.1).bind fun a2 =>
    (addO s0.2.2 1).bind fun a3 =>
    some (.inl (a2, y0.2, a3)))
   (some (.inr (s0.1, s0.2.1)))) (a_, k_, 0)).bind fun (s1 : (List (List (List Int × List Int))) × Int) =>
 some (s1.1, s1.2)

noncomputable def F_laws_heldIntS (a_ : List Int) (k_ : Int) : Option Int :=
 seqO (whileO (fun (s0 : Int × Int) =>
   (some (decide (s0.2 < ((a_.length : Nat) : Int)))).bind fun a0 =>
   cond a0
   ((idxO a_ s0.2).bind fun a1 =>
    (some (!decide (a1 = s0.1))).bind fun a2 =>
    cond a2
    (some (.inr (.inr (-1))))
    ((addO s0.1 1).bind fun a3 =>
     (addO s0.2 1).bind fun a4 =>
     some (.inl (a3, a4))))
   (some (.inr (.inl s0.1)))) (k_, 0)) fun (s1 : Int) =>
 some s1

noncomputable def F_laws_heldFractionS (a_ : List (List Int × List Int)) (k_ : Int) : Option Int :=
 seqO (whileO (fun (s0 : Int × Int) =>
   (some (decide (s0.2 < ((a_.length : Nat) : Int)))).bind fun a0 =>
   cond a0
   ((idxO a_ s0.2).bind fun a1 =>
    (F_laws_heldIntS a1.1 s0.1).bind fun y0 =>
    (some (decide (y0 < 0))).bind fun a2 =>
    cond a2
    (some (.inr (.inr (-1))))
    ((idxO a_ s0.2).bind fun a3 =>
     (F_laws_heldIntS a3.2 y0).bind fun y1 =>
     (some (decide (y1 < 0))).bind fun a4 =>
     cond a4
     (some (.inr (.inr (-1))))
     ((addO s0.2 1).bind fun a5 =>
      some (.inl (y1, a5)))))
   (some (.inr (.inl s0.1)))) (k_, 0)) fun (s1 : Int) =>
 some s1

noncomputable def F_laws_heldFractionSS (a_ : List (List (List Int × List Int))) (k_ : Int) : Option Int :=
 seqO (whileO (fun (s0 : Int × Int) =>
   (some (decide (s0.2 < ((a_.length : Nat) : Int)))).bind fun a0 =>
   cond a0
   ((idxO a_ s0.2).bind fun a1 =>
    (F_laws_heldFractionS a1 s0.1).bind fun y0 =>
    (some (decide (y0 < 0))).bind fun a2 =>
    cond a2
    (some (.inr (.inr (-1))))
    ((addO s0.2 1).bind fun a3 =>
     some (.inl (y0, a3))))
   (some (.inr (.inl s0.1)))) (k_, 0)) fun (s1 : Int) =>
 some s1

noncomputable def F_laws_FnExactTransferOf (aP_ : Int) (aS_ : Int × Int × Int × List (List Int) × List (List Int) × List (List Int) × List (List Int)) : Option Bool :=
 (F_laws_szStateSpace (aS_.1, aS_.2.1, aS_.2.2.1, aS_.2.2.2.1, aS_.2.2.2.2.1, aS_.2.2.2.2.2.1, aS_.2.2.2.2.2.2) 1048576).bind fun y9 =>
 (some (decide (y9 < 0))).bind fun a0 =>
 cond a0
 (some true)
 ((F_laws_toStateSpace (aS_.1, aS_.2.1, aS_.2.2.1, aS_.2.2.2.1, aS_.2.2.2.2.1, aS_.2.2.2.2.2.1, aS_.2.2.2.2.2.2)).bind fun y0 =>
  (F_spec_TransferOf aP_ (y0.1, y0.2.1, y0.2.2.1, y0.2.2.2.1, y0.2.2.2.2.1, y0.2.2.2.2.2.1, y0.2.2.2.2.2.2)).bind fun y1 =>
  (F_laws_toStateSpace (aS_.1, aS_.2.1, aS_.2.2.1, aS_.2.2.2.1, aS_.2.2.2.2.1, aS_.2.2.2.2.2.1, aS_.2.2.2.2.2.2)).bind fun y2 =>
  (F_impl_TransferOf aP_ (y2.1, y2.2.1, y2.2.2.1, y2.2.2.2.1, y2.2.2.2.2.1, y2.2.2.2.2.2.1, y2.2.2.2.2.2.2)).bind fun y3 =>
  ((F_laws_eqFractionSS y3.1 y1.1).bind fun y4 =>
   (some (!y4)).bind fun a1 =>
   cond a1
   (some true)
   ((some (!decide (y3.2 = y1.2))).bind fun a2 =>
    some a2)).bind fun (s0 : Bool) =>
  cond s0
  (some false)
  ((F_laws_toStateSpace (aS_.1, aS_.2.1, aS_.2.2.1, aS_.2.2.2.1, aS_.2.2.2.2.1, aS_.2.2.2.2.2.1, aS_.2.2.2.2.2.2)).bind fun y5 =>
   (F_laws_eqStateSpace (y2.1, y2.2.1, y2.2.2.1, y2.2.2.2.1, y2.2.2.2.2.1, y2.2.2.2.2.2.1, y2.2.2.2.2.2.2) (y5.1, y5.2.1, y5.2.2.1, y5.2.2.2.1, y5.2.2.2.2.1, y5.2.2.2.2.2.1, y5.2.2.2.2.2.2)).bind fun y6 =>
   (some (!y6)).bind fun a3 =>
   cond a3
   (some false)
   ((F_laws_markStateSpace (y2.1, y2.2.1, y2.2.2.1, y2.2.2.2.1, y2.2.2.2.2.1, y2.2.2.2.2.2.1, y2.2.2.2.2.2.2) 1).bind fun y7 =>
    ((some (decide (y7.2 < 0))).bind fun a4 =>
     cond a4
     (some true)
     ((F_laws_eqFractionSS y3.1 y1.1).bind fun y8 =>
      (some (!y8)).bind fun a5 =>
      cond a5
      (some true)
      ((some (!decide (y3.2 = y1.2))).bind fun a6 =>
       some a6))).bind fun (s1 : Bool) =>
    cond s1
    (some false)
    ((F_laws_markFractionSS y3.1 1).bind fun y10 =>
     (F_laws_heldFractionSS y10.1 1).bind fun y11 =>
     (some (decide (y11 < 0))).bind fun a7 =>
     cond a7
     (some false)
     ((some (!decide (y11 = y10.2))).bind fun a8 =>
      cond a8
      (some false)
      ((F_laws_toStateSpace (aS_.1, aS_.2.1, aS_.2.2.1, aS_.2.2.2.1, aS_.2.2.2.2.1, aS_.2.2.2.2.2.1, aS_.2.2.2.2.2.2)).bind fun y12 =>
       (F_impl_TransferOf aP_ (y12.1, y12.2.1, y12.2.2.1, y12.2.2.2.1, y12.2.2.2.2.1, y12.2.2.2.2.2.1, y12.2.2.2.2.2.2)).bind fun y13 =>
       ((F_laws_eqFractionSS y13.1 y1.1).bind fun y14 =>
        (some (!y14)).bind fun a9 =>
        cond a9
        (some true)
        ((some (!decide (y13.2 = y1.2))).bind fun a10 =>
         some a10)).bind fun (s2 : Bool) =>
       cond s2
       (some false)
       ((F_laws_heldFractionSS y10.1 1).bind fun y16 =>
        (some (decide (y16 < 0))).bind fun a11 =>
        cond a11
        (some false)
        ((some (!decide (y16 = y10.2))).bind fun a13 =>
         cond a13
         (some false)
         (some true)))))))))
end Go.Proofs.YtgkomaglodpefaaDoor
