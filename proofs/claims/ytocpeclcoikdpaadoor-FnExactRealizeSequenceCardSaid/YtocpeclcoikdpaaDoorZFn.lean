/-
 Partial functions, printed by a program (wip/y/gen.py): what each function of Go computes, over plain data. No program in sight. No condition.
-/
import Derived.Test.YtocpeclcoikdpaaDoorZF
namespace Go.Proofs.YtocpeclcoikdpaaDoor
set_option linter.unusedVariables false

noncomputable def F_laws_toIntS (a_ : List Int) : Option (List Int) :=
 (makeO ((a_.length : Nat) : Int) (0 : Int)).bind fun a2 =>
 (whileO (fun (s0 : List Int × Int) =>
   (some (decide (s0.2 < ((a_.length : Nat) : Int)))).bind fun a0 =>
   cond a0
   ((idxO a_ s0.2).bind fun a1 =>
    (setO s0.1 s0.2 a1).bind fun a3 =>
    (addO s0.2 1).bind fun a4 =>
    some (.inl (a3, a4)))
   (some (.inr s0.1))) (a2, 0)).bind fun (s1 : List Int) =>
 some s1

noncomputable def F_spec_l1In (n_ : Int) (lo_ : Int) (hi_ : Int) : Option Bool :=
 ((some (decide (lo_ ≤ n_))).bind fun a0 =>
  cond a0
  ((some (decide (n_ ≤ hi_))).bind fun a1 =>
   some a1)
  (some false)).bind fun (s7 : Bool) =>
 some s7

noncomputable def F_spec_fdGood (p_ : Int) : Option Bool :=
 (F_spec_l1In p_ 2 97).bind fun y1 =>
 (some (!y1)).bind fun a4 =>
 cond a4
 (some false)
 (seqO (whileO (fun (s0 : Int) =>
    (mulO s0 s0).bind fun a0 =>
    (some (decide (a0 ≤ p_))).bind fun a1 =>
    cond a1
    ((remO p_ s0).bind fun a2 =>
     (some (decide (a2 = 0))).bind fun a3 =>
     cond a3
     (some (.inr (.inr false)))
     ((addO s0 1).bind fun a5 =>
      some (.inl a5)))
    (some (.inr (.inl ())))) 2) fun (s1 : Unit) =>
  some true)

noncomputable def F_spec_l1All (l_ : List Int) (lo_ : Int) (hi_ : Int) : Option Bool :=
 seqO (forO (fun (k2 : Nat) (_ : Unit) =>
   (idxO l_ ((k2 : Nat) : Int)).bind fun a0 =>
   (F_spec_l1In a0 lo_ hi_).bind fun y0 =>
   (some (!y0)).bind fun a1 =>
   cond a1
   (some (.inr false))
   (some (.inl ()))) l_.length 0 ()) fun (_ : Unit) =>
 some true

noncomputable def F_spec_fdIn (p_ : Int) (l_ : List Int) : Option Bool :=
 (subO p_ 1).bind fun a2 =>
 (F_spec_l1All l_ 0 a2).bind fun y4 =>
 some y4

noncomputable def F_spec_rzList (p_ : Int) (s_ : List Int) : Option Bool :=
 ((F_spec_fdGood p_).bind fun y0 =>
  cond y0
  ((some (decide (((s_.length : Nat) : Int) ≤ 60))).bind fun a0 =>
   cond a0
   ((F_spec_fdIn p_ s_).bind fun y1 =>
    some y1)
   (some false))
  (some false)).bind fun (s0 : Bool) =>
 some s0

noncomputable def F_spec_mxGood (p_ : Int) (m_ : Int × List (List Int)) : Option Bool :=
 ((F_spec_fdGood p_).bind fun y0 =>
  (some (!y0)).bind fun a0 =>
  cond a0
  (some true)
  ((F_spec_l1In m_.1 0 24).bind fun y1 =>
   (some (!y1)).bind fun a1 =>
   cond a1
   (some true)
   ((some (decide ((24 : Int) < ((m_.2.length : Nat) : Int)))).bind fun a2 =>
    some a2))).bind fun (s0 : Bool) =>
 cond s0
 (some false)
 (seqO (forO (fun (k0 : Nat) (_ : Unit) =>
    (idxO m_.2 ((k0 : Nat) : Int)).bind fun a3 =>
    ((some (!decide (((a3.length : Nat) : Int) = m_.1))).bind fun a4 =>
     cond a4
     (some true)
     ((F_spec_fdIn p_ a3).bind fun y2 =>
      (some (!y2)).bind fun a5 =>
      some a5)).bind fun (s1 : Bool) =>
    cond s1
    (some (.inr false))
    (some (.inl ()))) m_.2.length 0 ()) fun (_ : Unit) =>
  some true)

noncomputable def F_spec_rzResponse (p_ : Int) (m_ : List (Int × List (List Int))) : Option Bool :=
 ((F_spec_fdGood p_).bind fun y0 =>
  (some (!y0)).bind fun a0 =>
  cond a0
  (some true)
  ((F_spec_l1In ((m_.length : Nat) : Int) 1 60).bind fun y1 =>
   (some (!y1)).bind fun a1 =>
   some a1)).bind fun (s0 : Bool) =>
 cond s0
 (some false)
 (seqO (forO (fun (k0 : Nat) (_ : Unit) =>
    (idxO m_ ((k0 : Nat) : Int)).bind fun a2 =>
    ((F_spec_mxGood p_ (a2.1, a2.2)).bind fun y2 =>
     (some (!y2)).bind fun a3 =>
     cond a3
     (some true)
     ((idxO m_ 0).bind fun a4 =>
      (some (!decide (((a2.2.length : Nat) : Int) = ((a4.2.length : Nat) : Int)))).bind fun a5 =>
      cond a5
      (some true)
      ((idxO m_ 0).bind fun a6 =>
       (some (!decide (a2.1 = a6.1))).bind fun a7 =>
       some a7))).bind fun (s1 : Bool) =>
    cond s1
    (some (.inr false))
    (some (.inl ()))) m_.length 0 ()) fun (_ : Unit) =>
  ((idxO m_ 0).bind fun a8 =>
   (some (decide (((a8.2.length : Nat) : Int) ≤ 8))).bind fun a9 =>
   cond a9
   ((idxO m_ 0).bind fun a10 =>
    (some (decide (a10.1 ≤ 8))).bind fun a11 =>
    some a11)
   (some false)).bind fun (s2 : Bool) =>
  some s2)

noncomputable def F_spec_l1Own (l_ : List Int) : Option (List Int) :=
 (appO ([] : List Int) l_).bind fun a5 =>
 some a5

noncomputable def F_spec_mxCopy (m_ : Int × List (List Int)) : Option (Int × List (List Int)) :=
 (forS (fun (k0 : Nat) (s0 : List (List Int)) =>
   (idxO m_.2 ((k0 : Nat) : Int)).bind fun a0 =>
   (F_spec_l1Own a0).bind fun y0 =>
   (appO s0 [y0]).bind fun a1 =>
   some a1) m_.2.length 0 []).bind fun (s1 : List (List Int)) =>
 some (m_.1, s1)

noncomputable def F_spec_rzHankel (m_ : List (Int × List (List Int))) (rows_ : Int) (cols_ : Int) : Option (List (List Int)) :=
 (whileO (fun (s0 : List (List Int) × Int) =>
   (some (decide (s0.2 < rows_))).bind fun a0 =>
   cond a0
   ((idxO m_ 0).bind fun a1 =>
    (forS (fun (k0 : Nat) (s1 : List (List Int)) =>
      (whileO (fun (s2 : List Int × Int) =>
        (some (decide (s2.2 < cols_))).bind fun a2 =>
        cond a2
        ((addO s0.2 s2.2).bind fun a3 =>
         (addO a3 1).bind fun a4 =>
         (idxO m_ a4).bind fun a5 =>
         (idxO a5.2 ((k0 : Nat) : Int)).bind fun a6 =>
         (appO s2.1 a6).bind fun a7 =>
         (addO s2.2 1).bind fun a8 =>
         some (.inl (a7, a8)))
        (some (.inr s2.1))) ([], 0)).bind fun (s3 : List Int) =>
      (appO s1 [s3]).bind fun a9 =>
      some a9) a1.2.length 0 s0.1).bind fun (s4 : List (List Int)) =>
    (addO s0.2 1).bind fun a10 =>
    some (.inl (s4, a10)))
   (some (.inr s0.1))) ([], 0)).bind fun (s5 : List (List Int)) =>
 some s5

noncomputable def F_spec_fdInv (p_ : Int) (a_ : Int) : Option Int :=
 seqO (whileO (fun (s0 : Int) =>
   (some (decide (s0 < p_))).bind fun a0 =>
   cond a0
   ((mulO a_ s0).bind fun a1 =>
    (remO a1 p_).bind fun a2 =>
    (some (decide (a2 = 1))).bind fun a3 =>
    cond a3
    (some (.inr (.inr s0)))
    ((addO s0 1).bind fun a4 =>
     some (.inl a4)))
   (some (.inr (.inl ())))) 1) fun (s1 : Unit) =>
 some 0

noncomputable def F_spec_fdMul (p_ : Int) (a_ : Int) (b_ : Int) : Option Int :=
 (mulO a_ b_).bind fun a1 =>
 (remO a1 p_).bind fun a3 =>
 some a3

noncomputable def F_spec_fdSub (p_ : Int) (a_ : Int) (b_ : Int) : Option Int :=
 (addO a_ p_).bind fun a1 =>
 (subO a1 b_).bind fun a3 =>
 (remO a3 p_).bind fun a5 =>
 some a5

noncomputable def F_spec_spReduce (p_ : Int) (size_ : Int) (rows_ : List (List Int)) : Option (List (List Int)) :=
 (forS (fun (k2 : Nat) (s0 : List (List Int)) =>
   (idxO rows_ ((k2 : Nat) : Int)).bind fun a0 =>
   (F_spec_l1Own a0).bind fun y0 =>
   (appO s0 [y0]).bind fun a1 =>
   some a1) rows_.length 0 []).bind fun (s1 : List (List Int)) =>
 (whileO (fun (s2 : List (List Int) × Int × Int) =>
   ((some (decide (s2.2.2 < size_))).bind fun a2 =>
    cond a2
    ((some (decide (s2.2.1 < ((s2.1.length : Nat) : Int)))).bind fun a3 =>
     some a3)
    (some false)).bind fun (s3 : Bool) =>
   cond s3
   (((whileO (fun (s4 : Int) =>
       ((some (decide (s4 < ((s2.1.length : Nat) : Int)))).bind fun a4 =>
        cond a4
        ((idxO s2.1 s4).bind fun a5 =>
         (idxO a5 s2.2.2).bind fun a6 =>
         (some (decide (a6 = 0))).bind fun a7 =>
         some a7)
        (some false)).bind fun (s5 : Bool) =>
       cond s5
       ((addO s4 1).bind fun a8 =>
        some (.inl a8))
       (some (.inr s4))) s2.2.1).bind fun (s6 : Int) =>
     (some (decide (s6 = ((s2.1.length : Nat) : Int)))).bind fun a9 =>
     cond a9
     (some (s2.1, s2.2.1))
     ((idxO s2.1 s2.2.1).bind fun a10 =>
      (idxO s2.1 s6).bind fun a11 =>
      (swapO s2.1 s2.2.1 s6).bind fun a12 =>
      (idxO a12 s2.2.1).bind fun a13 =>
      (idxO a13 s2.2.2).bind fun a14 =>
      (F_spec_fdInv p_ a14).bind fun y1 =>
      (idxO a12 s2.2.1).bind fun a15 =>
      (forS (fun (k0 : Nat) (s7 : List (List Int)) =>
        (idxO s7 s2.2.1).bind fun a16 =>
        (idxO s7 s2.2.1).bind fun a17 =>
        (idxO a17 ((k0 : Nat) : Int)).bind fun a18 =>
        (F_spec_fdMul p_ a18 y1).bind fun y2 =>
        (setO a16 ((k0 : Nat) : Int) y2).bind fun a19 =>
        (setO s7 s2.2.1 a19).bind fun a20 =>
        some a20) a15.length 0 a12).bind fun (s8 : List (List Int)) =>
      (forS (fun (k1 : Nat) (s9 : List (List Int)) =>
        (((some (decide (((k1 : Nat) : Int) = s2.2.1))).bind fun a21 =>
          cond a21
          (some true)
          ((idxO s9 ((k1 : Nat) : Int)).bind fun a22 =>
           (idxO a22 s2.2.2).bind fun a23 =>
           (some (decide (a23 = 0))).bind fun a24 =>
           some a24)).bind fun (s10 : Bool) =>
         cond s10
         (some s9)
         ((idxO s9 ((k1 : Nat) : Int)).bind fun a25 =>
          (idxO a25 s2.2.2).bind fun a26 =>
          (idxO s9 ((k1 : Nat) : Int)).bind fun a27 =>
          (forS (fun (k3 : Nat) (s11 : List (List Int)) =>
            (idxO s11 ((k1 : Nat) : Int)).bind fun a28 =>
            (idxO s11 ((k1 : Nat) : Int)).bind fun a29 =>
            (idxO s11 s2.2.1).bind fun a30 =>
            (idxO a29 ((k3 : Nat) : Int)).bind fun a31 =>
            (idxO a30 ((k3 : Nat) : Int)).bind fun a32 =>
            (F_spec_fdMul p_ a26 a32).bind fun y3 =>
            (F_spec_fdSub p_ a31 y3).bind fun y4 =>
            (setO a28 ((k3 : Nat) : Int) y4).bind fun a33 =>
            (setO s11 ((k1 : Nat) : Int) a33).bind fun a34 =>
            some a34) a27.length 0 s9).bind fun (s12 : List (List Int)) =>
          some s12)).bind fun (s13 : List (List Int)) =>
        some s13) s8.length 0 s8).bind fun (s14 : List (List Int)) =>
      (addO s2.2.1 1).bind fun a35 =>
      some (s14, a35))).bind fun (s15 : List (List Int) × Int) =>
    (addO s2.2.2 1).bind fun a36 =>
    some (.inl (s15.1, s15.2, a36)))
   (some (.inr (s2.1, s2.2.1)))) (s1, 0, 0)).bind fun (s16 : List (List Int) × Int) =>
 (sliceO s16.1 0 s16.2).bind fun a37 =>
 some a37

noncomputable def F_spec_rzChosen (p_ : Int) (size_ : Int) (rows_ : List (List Int)) : Option (List Int) :=
 (forS (fun (k2 : Nat) (s0 : List Int × Int) =>
   (addO ((k2 : Nat) : Int) 1).bind fun a0 =>
   (sliceO rows_ 0 a0).bind fun a1 =>
   (F_spec_spReduce p_ size_ a1).bind fun y0 =>
   (some (decide (s0.2 < ((y0.length : Nat) : Int)))).bind fun a2 =>
   cond a2
   ((appO s0.1 [((k2 : Nat) : Int)]).bind fun a3 =>
    some (a3, ((y0.length : Nat) : Int)))
   (some (s0.1, s0.2))) rows_.length 0 ([], 0)).bind fun (s1 : List Int × Int) =>
 some s1.1

noncomputable def F_spec_mxZero (rows_ : Int) (cols_ : Int) : Option (Int × List (List Int)) :=
 (makeO rows_ ([] : List Int)).bind fun a4 =>
 (forS (fun (k0 : Nat) (s0 : List (List Int)) =>
   (makeO cols_ (0 : Int)).bind fun a0 =>
   (setO s0 ((k0 : Nat) : Int) a0).bind fun a1 =>
   some a1) a4.length 0 a4).bind fun (s1 : List (List Int)) =>
 some (cols_, s1)

noncomputable def F_spec_mxId (n_ : Int) : Option (Int × List (List Int)) :=
 (F_spec_mxZero n_ n_).bind fun y4 =>
 (whileO (fun (s0 : List (List Int) × Int) =>
   (some (decide (s0.2 < n_))).bind fun a0 =>
   cond a0
   ((idxO s0.1 s0.2).bind fun a1 =>
    (setO a1 s0.2 1).bind fun a2 =>
    (setO s0.1 s0.2 a2).bind fun a3 =>
    (addO s0.2 1).bind fun a4 =>
    some (.inl (a3, a4)))
   (some (.inr s0.1))) (y4.2, 0)).bind fun (s1 : List (List Int)) =>
 some (y4.1, s1)

noncomputable def F_spec_fdNeg (p_ : Int) (a_ : Int) : Option Int :=
 (subO p_ a_).bind fun a1 =>
 (remO a1 p_).bind fun a3 =>
 some a3

noncomputable def F_spec_mxScale (p_ : Int) (r_ : List Int) (k_ : Int) : Option (List Int) :=
 (forS (fun (k2 : Nat) (s0 : List Int) =>
   (idxO s0 ((k2 : Nat) : Int)).bind fun a0 =>
   (F_spec_fdMul p_ a0 k_).bind fun y0 =>
   (setO s0 ((k2 : Nat) : Int) y0).bind fun a1 =>
   some a1) r_.length 0 r_).bind fun (s1 : List Int) =>
 some s1

noncomputable def F_spec_mxLess (p_ : Int) (r_ : List Int) (s_ : List Int) (k_ : Int) : Option (List Int) :=
 (forS (fun (k3 : Nat) (s0 : List Int) =>
   (idxO s0 ((k3 : Nat) : Int)).bind fun a0 =>
   (idxO s_ ((k3 : Nat) : Int)).bind fun a1 =>
   (F_spec_fdMul p_ k_ a1).bind fun y0 =>
   (F_spec_fdSub p_ a0 y0).bind fun y1 =>
   (setO s0 ((k3 : Nat) : Int) y1).bind fun a2 =>
   some a2) r_.length 0 r_).bind fun (s1 : List Int) =>
 some s1

noncomputable def F_spec_mxReduce (p_ : Int) (m_ : Int × List (List Int)) : Option ((Int × List (List Int)) × (Int × List (List Int)) × Int × Int) :=
 ((F_spec_mxCopy (m_.1, m_.2)).bind fun y0 =>
  (F_spec_mxId ((m_.2.length : Nat) : Int)).bind fun y1 =>
  some (y0.1, y0.2, y1.1, y1.2)).bind fun (s0 : Int × List (List Int) × Int × List (List Int)) =>
 (whileO (fun (s1 : List (List Int) × List (List Int) × Int × Int × Int) =>
   (some (decide (s1.2.2.2.2 < m_.1))).bind fun a0 =>
   cond a0
   (((whileO (fun (s2 : Int) =>
       ((some (decide (s2 < ((s1.1.length : Nat) : Int)))).bind fun a1 =>
        cond a1
        ((idxO s1.1 s2).bind fun a2 =>
         (idxO a2 s1.2.2.2.2).bind fun a3 =>
         (some (decide (a3 = 0))).bind fun a4 =>
         some a4)
        (some false)).bind fun (s3 : Bool) =>
       cond s3
       ((addO s2 1).bind fun a5 =>
        some (.inl a5))
       (some (.inr s2))) s1.2.2.1).bind fun (s4 : Int) =>
     (some (decide (s4 = ((s1.1.length : Nat) : Int)))).bind fun a6 =>
     cond a6
     (some (s1.1, s1.2.1, s1.2.2.1, s1.2.2.2.1))
     (((some (decide (s1.2.2.1 < s4))).bind fun a7 =>
       cond a7
       ((idxO s1.1 s4).bind fun a8 =>
        (idxO s1.2.1 s4).bind fun a9 =>
        (idxO s1.1 s1.2.2.1).bind fun a10 =>
        (idxO s1.2.1 s1.2.2.1).bind fun a11 =>
        (swapO s1.1 s4 s1.2.2.1).bind fun a12 =>
        (swapO s1.2.1 s4 s1.2.2.1).bind fun a13 =>
        (F_spec_fdNeg p_ s1.2.2.2.1).bind fun y2 =>
        some (a12, a13, y2))
       (some (s1.1, s1.2.1, s1.2.2.2.1))).bind fun (s5 : List (List Int) × List (List Int) × Int) =>
      (idxO s5.1 s1.2.2.1).bind fun a14 =>
      (idxO a14 s1.2.2.2.2).bind fun a15 =>
      (F_spec_fdMul p_ s5.2.2 a15).bind fun y3 =>
      (idxO s5.1 s1.2.2.1).bind fun a16 =>
      (F_spec_fdInv p_ a15).bind fun y4 =>
      (F_spec_mxScale p_ a16 y4).bind fun y5 =>
      (setO s5.1 s1.2.2.1 y5).bind fun a17 =>
      (idxO s5.2.1 s1.2.2.1).bind fun a18 =>
      (F_spec_fdInv p_ a15).bind fun y6 =>
      (F_spec_mxScale p_ a18 y6).bind fun y7 =>
      (setO s5.2.1 s1.2.2.1 y7).bind fun a19 =>
      (forS (fun (k0 : Nat) (s6 : List (List Int) × List (List Int)) =>
        (idxO s6.1 ((k0 : Nat) : Int)).bind fun a20 =>
        (idxO a20 s1.2.2.2.2).bind fun a21 =>
        ((some (!decide (((k0 : Nat) : Int) = s1.2.2.1))).bind fun a22 =>
         cond a22
         ((some (!decide (a21 = 0))).bind fun a23 =>
          some a23)
         (some false)).bind fun (s7 : Bool) =>
        cond s7
        ((idxO s6.1 ((k0 : Nat) : Int)).bind fun a24 =>
         (idxO s6.1 s1.2.2.1).bind fun a25 =>
         (F_spec_mxLess p_ a24 a25 a21).bind fun y8 =>
         (neqO ((k0 : Nat) : Int) s1.2.2.1).bind fun _ =>
         (setO s6.1 ((k0 : Nat) : Int) y8).bind fun a26 =>
         (idxO s6.2 ((k0 : Nat) : Int)).bind fun a27 =>
         (idxO s6.2 s1.2.2.1).bind fun a28 =>
         (F_spec_mxLess p_ a27 a28 a21).bind fun y9 =>
         (neqO ((k0 : Nat) : Int) s1.2.2.1).bind fun _ =>
         (setO s6.2 ((k0 : Nat) : Int) y9).bind fun a29 =>
         some (a26, a29))
        (some (s6.1, s6.2))) a17.length 0 (a17, a19)).bind fun (s8 : List (List Int) × List (List Int)) =>
      (addO s1.2.2.1 1).bind fun a30 =>
      some (s8.1, s8.2, a30, y3))).bind fun (s9 : List (List Int) × List (List Int) × Int × Int) =>
    (addO s1.2.2.2.2 1).bind fun a31 =>
    some (.inl (s9.1, s9.2.1, s9.2.2.1, s9.2.2.2, a31)))
   (some (.inr (s1.1, s1.2.1, s1.2.2.1, s1.2.2.2.1)))) (s0.2.1, s0.2.2.2, 0, 1, 0)).bind fun (s10 : List (List Int) × List (List Int) × Int × Int) =>
 some ((s0.1, s10.1), (s0.2.2.1, s10.2.1), s10.2.2.1, s10.2.2.2)

noncomputable def F_spec_spLead (v_ : List Int) : Option Int :=
 (whileO (fun (s0 : Int) =>
   ((some (decide (s0 < ((v_.length : Nat) : Int)))).bind fun a0 =>
    cond a0
    ((idxO v_ s0).bind fun a1 =>
     (some (decide (a1 = 0))).bind fun a2 =>
     some a2)
    (some false)).bind fun (s1 : Bool) =>
   cond s1
   ((addO s0 1).bind fun a3 =>
    some (.inl a3))
   (some (.inr s0))) 0).bind fun (s2 : Int) =>
 some s2

noncomputable def F_spec_mxSolve (p_ : Int) (m_ : Int × List (List Int)) (b_ : List Int) : Option (List Int × Bool) :=
 (F_spec_mxReduce p_ (m_.1, m_.2)).bind fun y6 =>
 ((makeO ((m_.2.length : Nat) : Int) (0 : Int)).bind fun a0 =>
  (F_spec_l1Own b_).bind fun y0 =>
  some (a0, y0)).bind fun (s0 : List Int × List Int) =>
 (whileO (fun (s1 : List Int × List Int × Int) =>
   (some (decide (s1.2.2 < y6.2.2.1))).bind fun a1 =>
   cond a1
   ((idxO y6.1.2 s1.2.2).bind fun a2 =>
    (F_spec_spLead a2).bind fun y1 =>
    (idxO s1.2.1 y1).bind fun a3 =>
    (idxO y6.1.2 s1.2.2).bind fun a4 =>
    (F_spec_mxLess p_ s1.2.1 a4 a3).bind fun y2 =>
    (idxO y6.2.1.2 s1.2.2).bind fun a5 =>
    (F_spec_fdNeg p_ a3).bind fun y3 =>
    (F_spec_mxLess p_ s1.1 a5 y3).bind fun y4 =>
    (addO s1.2.2 1).bind fun a6 =>
    some (.inl (y4, y2, a6)))
   (some (.inr (s1.1, s1.2.1)))) (s0.1, s0.2, 0)).bind fun (s2 : List Int × List Int) =>
 (F_spec_l1All s2.2 0 0).bind fun y5 =>
 some (s2.1, y5)

noncomputable def F_spec_rzRealize (p_ : Int) (m_ : List (Int × List (List Int))) : Option ((Int × Int × Int × List (List Int) × List (List Int) × List (List Int) × List (List Int)) × Bool) :=
 (subO ((m_.length : Nat) : Int) 1).bind fun a5 =>
 (quoO a5 2).bind fun a7 =>
 (idxO m_ 0).bind fun a0 =>
 (idxO m_ 0).bind fun a1 =>
 (idxO m_ 0).bind fun a2 =>
 (F_spec_mxCopy (a2.1, a2.2)).bind fun y0 =>
 (F_spec_rzHankel m_ a7 a7).bind fun y1 =>
 ((some (decide ((0 : Int) < a7))).bind fun a3 =>
  cond a3
  ((addO a7 1).bind fun a4 =>
   (F_spec_rzHankel m_ a4 a7).bind fun y2 =>
   some y2)
  (some y1)).bind fun (s0 : List (List Int)) =>
 (mulO a7 a1.1).bind fun a6 =>
 (mulO a7 ((a0.2.length : Nat) : Int)).bind fun a8 =>
 (sliceO s0 0 a8).bind fun a9 =>
 (F_spec_rzChosen p_ a6 a9).bind fun y3 =>
 (mulO a7 a1.1).bind fun a10 =>
 (forS (fun (k0 : Nat) (s1 : List (List Int)) =>
   (idxO y3 ((k0 : Nat) : Int)).bind fun a11 =>
   (idxO s0 a11).bind fun a12 =>
   (appO s1 [a12]).bind fun a13 =>
   some a13) y3.length 0 []).bind fun (s2 : List (List Int)) =>
 seqO (forO (fun (k1 : Nat) (s3 : List (List Int) × List (List Int)) =>
   (idxO y3 ((k1 : Nat) : Int)).bind fun a14 =>
   (addO a14 ((a0.2.length : Nat) : Int)).bind fun a15 =>
   (idxO s0 a15).bind fun a17 =>
   (F_spec_mxSolve p_ (a10, s2) a17).bind fun y4 =>
   (some (!y4.2)).bind fun a18 =>
   cond a18
   (some (.inr ((0, 0, 0, [], [], [], []), false)))
   ((appO s3.1 [y4.1]).bind fun a19 =>
    (idxO s0 a14).bind fun a20 =>
    (sliceO a20 0 a1.1).bind fun a21 =>
    (F_spec_l1Own a21).bind fun y5 =>
    (appO s3.2 [y5]).bind fun a22 =>
    some (.inl (a19, a22)))) y3.length 0 ([], [])) fun (s4 : List (List Int) × List (List Int)) =>
 seqO (whileO (fun (s5 : List (List Int) × Int) =>
   (some (decide (s5.2 < ((a0.2.length : Nat) : Int)))).bind fun a23 =>
   cond a23
   (seqO ((some (decide (a7 = 0))).bind fun a24 =>
     cond a24
     ((appO s5.1 [[]]).bind fun a25 =>
      some (.inl a25))
     ((idxO s0 s5.2).bind fun a26 =>
      (F_spec_mxSolve p_ (a10, s2) a26).bind fun y6 =>
      (some (!y6.2)).bind fun a27 =>
      cond a27
      (some (.inr (.inr (.inr ((0, 0, 0, [], [], [], []), false)))))
      ((appO s5.1 [y6.1]).bind fun a29 =>
       some (.inl a29)))) fun (s6 : List (List Int)) =>
    (addO s5.2 1).bind fun a30 =>
    some (.inl (s6, a30)))
   (some (.inr (.inl s5.1)))) ([], 0)) fun (s7 : List (List Int)) =>
 some ((((y3.length : Nat) : Int), ((a0.2.length : Nat) : Int), a1.1, s4.1, s7, s4.2, y0.2), true)

noncomputable def F_spec_spRows (p_ : Int) (size_ : Int) (rows_ : List (List Int)) : Option Bool :=
 seqO (forO (fun (k2 : Nat) (_ : Unit) =>
   (idxO rows_ ((k2 : Nat) : Int)).bind fun a0 =>
   ((some (!decide (((a0.length : Nat) : Int) = size_))).bind fun a1 =>
    cond a1
    (some true)
    ((F_spec_fdIn p_ a0).bind fun y0 =>
     (some (!y0)).bind fun a2 =>
     some a2)).bind fun (s0 : Bool) =>
   cond s0
   (some (.inr false))
   (some (.inl ()))) rows_.length 0 ()) fun (_ : Unit) =>
 some true

noncomputable def F_spec_ssTable (p_ : Int) (rows_ : Int) (cols_ : Int) (m_ : List (List Int)) : Option Bool :=
 ((some (decide (((m_.length : Nat) : Int) = rows_))).bind fun a0 =>
  cond a0
  ((F_spec_spRows p_ cols_ m_).bind fun y0 =>
   some y0)
  (some false)).bind fun (s9 : Bool) =>
 some s9

noncomputable def F_spec_ssGood (p_ : Int) (s_ : Int × Int × Int × List (List Int) × List (List Int) × List (List Int) × List (List Int)) : Option Bool :=
 ((F_spec_fdGood p_).bind fun y0 =>
  cond y0
  ((F_spec_l1In s_.1 0 24).bind fun y1 =>
   cond y1
   ((F_spec_l1In s_.2.1 0 8).bind fun y2 =>
    cond y2
    ((F_spec_l1In s_.2.2.1 0 8).bind fun y3 =>
     cond y3
     ((F_spec_ssTable p_ s_.1 s_.1 s_.2.2.2.1).bind fun y4 =>
      cond y4
      ((F_spec_ssTable p_ s_.2.1 s_.1 s_.2.2.2.2.1).bind fun y5 =>
       cond y5
       ((F_spec_ssTable p_ s_.1 s_.2.2.1 s_.2.2.2.2.2.1).bind fun y6 =>
        cond y6
        ((F_spec_ssTable p_ s_.2.1 s_.2.2.1 s_.2.2.2.2.2.2).bind fun y7 =>
         some y7)
        (some false))
       (some false))
      (some false))
     (some false))
    (some false))
   (some false))
  (some false)).bind fun (s0 : Bool) =>
 some s0

noncomputable def F_spec_ssCopy (m_ : List (List Int)) : Option (List (List Int)) :=
 (forS (fun (k2 : Nat) (s0 : List (List Int)) =>
   (idxO m_ ((k2 : Nat) : Int)).bind fun a0 =>
   (F_spec_l1Own a0).bind fun y0 =>
   (appO s0 [y0]).bind fun a1 =>
   some a1) m_.length 0 []).bind fun (s1 : List (List Int)) =>
 some s1

noncomputable def F_spec_spSum (p_ : Int) (size_ : Int) (rows_ : List (List Int)) (coefs_ : List Int) : Option (List Int) :=
 (makeO size_ (0 : Int)).bind fun a3 =>
 (forS (fun (k8 : Nat) (s0 : List Int) =>
   (idxO rows_ ((k8 : Nat) : Int)).bind fun a0 =>
   (forS (fun (k0 : Nat) (s1 : List Int) =>
     (idxO a0 ((k0 : Nat) : Int)).bind fun a1 =>
     (idxO s1 ((k0 : Nat) : Int)).bind fun a2 =>
     (idxO coefs_ ((k8 : Nat) : Int)).bind fun a4 =>
     (mulO a4 a1).bind fun a5 =>
     (addO a2 a5).bind fun a6 =>
     (remO a6 p_).bind fun a7 =>
     (setO s1 ((k0 : Nat) : Int) a7).bind fun a8 =>
     some a8) a0.length 0 s0).bind fun (s2 : List Int) =>
   some s2) rows_.length 0 a3).bind fun (s3 : List Int) =>
 some s3

noncomputable def F_spec_ssTimes (p_ : Int) (cols_ : Int) (rows_ : List (List Int)) (m_ : List (List Int)) : Option (List (List Int)) :=
 (forS (fun (k3 : Nat) (s0 : List (List Int)) =>
   (idxO rows_ ((k3 : Nat) : Int)).bind fun a0 =>
   (F_spec_spSum p_ cols_ m_ a0).bind fun y0 =>
   (appO s0 [y0]).bind fun a1 =>
   some a1) rows_.length 0 []).bind fun (s1 : List (List Int)) =>
 some s1

noncomputable def F_spec_ssMarkov (p_ : Int) (s_ : Int × Int × Int × List (List Int) × List (List Int) × List (List Int) × List (List Int)) (n_ : Int) : Option (List (Int × List (List Int))) :=
 (F_spec_ssCopy s_.2.2.2.2.1).bind fun y8 =>
 (whileO (fun (s0 : (List (Int × List (List Int))) × List (List Int) × Int) =>
   (some (decide (s0.2.2 < n_))).bind fun a0 =>
   cond a0
   (((some (decide (s0.2.2 = 0))).bind fun a1 =>
     cond a1
     ((F_spec_ssCopy s_.2.2.2.2.2.2).bind fun y0 =>
      (appO s0.1 [(s_.2.2.1, y0)]).bind fun a2 =>
      some (a2, s0.2.1))
     ((F_spec_ssTimes p_ s_.2.2.1 s0.2.1 s_.2.2.2.2.2.1).bind fun y1 =>
      (appO s0.1 [(s_.2.2.1, y1)]).bind fun a3 =>
      (F_spec_ssTimes p_ s_.1 s0.2.1 s_.2.2.2.1).bind fun y2 =>
      some (a3, y2))).bind fun (s1 : (List (Int × List (List Int))) × List (List Int)) =>
    (addO s0.2.2 1).bind fun a4 =>
    some (.inl (s1.1, s1.2, a4)))
   (some (.inr s0.1))) ([], y8, 0)).bind fun (s2 : List (Int × List (List Int))) =>
 some s2

noncomputable def F_spec_l1Same (a_ : List Int) (b_ : List Int) : Option Bool :=
 (some (!decide (((a_.length : Nat) : Int) = ((b_.length : Nat) : Int)))).bind fun a3 =>
 cond a3
 (some false)
 (seqO (forO (fun (k6 : Nat) (_ : Unit) =>
    (idxO a_ ((k6 : Nat) : Int)).bind fun a0 =>
    (idxO b_ ((k6 : Nat) : Int)).bind fun a1 =>
    (some (!decide (a0 = a1))).bind fun a2 =>
    cond a2
    (some (.inr false))
    (some (.inl ()))) a_.length 0 ()) fun (_ : Unit) =>
  some true)

noncomputable def F_spec_spSame (a_ : List (List Int)) (b_ : List (List Int)) : Option Bool :=
 (some (!decide (((a_.length : Nat) : Int) = ((b_.length : Nat) : Int)))).bind fun a3 =>
 cond a3
 (some false)
 (seqO (forO (fun (k6 : Nat) (_ : Unit) =>
    (idxO a_ ((k6 : Nat) : Int)).bind fun a0 =>
    (idxO b_ ((k6 : Nat) : Int)).bind fun a1 =>
    (F_spec_l1Same a0 a1).bind fun y0 =>
    (some (!y0)).bind fun a2 =>
    cond a2
    (some (.inr false))
    (some (.inl ()))) a_.length 0 ()) fun (_ : Unit) =>
  some true)

noncomputable def F_spec_rzIs (p_ : Int) (s_ : Int × Int × Int × List (List Int) × List (List Int) × List (List Int) × List (List Int)) (m_ : List (Int × List (List Int))) : Option Bool :=
 (F_spec_ssMarkov p_ (s_.1, s_.2.1, s_.2.2.1, s_.2.2.2.1, s_.2.2.2.2.1, s_.2.2.2.2.2.1, s_.2.2.2.2.2.2) ((m_.length : Nat) : Int)).bind fun y9 =>
 seqO (forO (fun (k0 : Nat) (_ : Unit) =>
   (idxO y9 ((k0 : Nat) : Int)).bind fun a0 =>
   (idxO m_ ((k0 : Nat) : Int)).bind fun a1 =>
   (F_spec_spSame a0.2 a1.2).bind fun y0 =>
   (some (!y0)).bind fun a2 =>
   cond a2
   (some (.inr false))
   (some (.inl ()))) y9.length 0 ()) fun (_ : Unit) =>
 some true

noncomputable def F_spec_RealizeMarkov (p_ : Int) (m_ : List (Int × List (List Int))) : Option ((Int × Int × Int × List (List Int) × List (List Int) × List (List Int) × List (List Int)) × Bool) :=
 (F_spec_rzResponse p_ m_).bind fun y5 =>
 (some (!y5)).bind fun a8 =>
 cond a8
 (some ((0, 0, 0, [], [], [], []), false))
 ((F_spec_rzRealize p_ m_).bind fun y0 =>
  ((some (!y0.2)).bind fun a0 =>
   cond a0
   (some true)
   ((F_spec_ssGood p_ (y0.1.1, y0.1.2.1, y0.1.2.2.1, y0.1.2.2.2.1, y0.1.2.2.2.2.1, y0.1.2.2.2.2.2.1, y0.1.2.2.2.2.2.2)).bind fun y1 =>
    (some (!y1)).bind fun a1 =>
    cond a1
    (some true)
    ((F_spec_rzIs p_ (y0.1.1, y0.1.2.1, y0.1.2.2.1, y0.1.2.2.2.1, y0.1.2.2.2.2.1, y0.1.2.2.2.2.2.1, y0.1.2.2.2.2.2.2) m_).bind fun y2 =>
     (some (!y2)).bind fun a2 =>
     some a2))).bind fun (s0 : Bool) =>
  cond s0
  (some ((0, 0, 0, [], [], [], []), false))
  (some ((y0.1.1, y0.1.2.1, y0.1.2.2.1, y0.1.2.2.2.1, y0.1.2.2.2.2.1, y0.1.2.2.2.2.2.1, y0.1.2.2.2.2.2.2), true)))

noncomputable def F_spec_RealizeSequence (p_ : Int) (s_ : List Int) : Option ((Int × Int × Int × List (List Int) × List (List Int) × List (List Int) × List (List Int)) × Bool) :=
 ((F_spec_rzList p_ s_).bind fun y0 =>
  (some (!y0)).bind fun a0 =>
  cond a0
  (some true)
  ((some (decide (((s_.length : Nat) : Int) = 0))).bind fun a1 =>
   some a1)).bind fun (s0 : Bool) =>
 cond s0
 (some ((0, 0, 0, [], [], [], []), false))
 ((forS (fun (k0 : Nat) (s1 : List (Int × List (List Int))) =>
    (idxO s_ ((k0 : Nat) : Int)).bind fun a2 =>
    (appO s1 [(1, [[a2]])]).bind fun a3 =>
    some a3) s_.length 0 []).bind fun (s2 : List (Int × List (List Int))) =>
  (F_spec_RealizeMarkov p_ s2).bind fun y1 =>
  some ((y1.1.1, y1.1.2.1, y1.1.2.2.1, y1.1.2.2.2.1, y1.1.2.2.2.2.1, y1.1.2.2.2.2.2.1, y1.1.2.2.2.2.2.2), y1.2))

noncomputable def F_impl_isField (p_ : Int) : Option Bool :=
 ((some (decide (p_ < 2))).bind fun a0 =>
  cond a0
  (some true)
  ((some (decide ((97 : Int) < p_))).bind fun a1 =>
   some a1)).bind fun (s8 : Bool) =>
 cond s8
 (some false)
 ((cI 4).bind fun _ =>
  seqO (forO (fun (k0 : Nat) (_ : Unit) =>
    (idxO [2, 3, 5, 7] ((k0 : Nat) : Int)).bind fun a2 =>
    ((remO p_ a2).bind fun a3 =>
     (some (decide (a3 = 0))).bind fun a4 =>
     cond a4
     ((some (!decide (p_ = a2))).bind fun a5 =>
      some a5)
     (some false)).bind fun (s0 : Bool) =>
    cond s0
    (some (.inr false))
    (some (.inl ()))) ((4 : Int).toNat) 0 ()) fun (_ : Unit) =>
  some true)

noncomputable def F_impl_within (n_ : Int) (low_ : Int) (high_ : Int) : Option Bool :=
 ((some (decide (low_ ≤ n_))).bind fun a0 =>
  cond a0
  ((some (decide (n_ ≤ high_))).bind fun a1 =>
   some a1)
  (some false)).bind fun (s7 : Bool) =>
 some s7

noncomputable def F_impl_isElement (p_ : Int) (a_ : Int) : Option Bool :=
 ((some (decide ((0 : Int) ≤ a_))).bind fun a0 =>
  cond a0
  ((some (decide (a_ < p_))).bind fun a1 =>
   some a1)
  (some false)).bind fun (s7 : Bool) =>
 some s7

noncomputable def F_impl_isVector (p_ : Int) (v_ : List Int) (n_ : Int) : Option Bool :=
 (some (!decide (((v_.length : Nat) : Int) = n_))).bind fun a2 =>
 cond a2
 (some false)
 (seqO (forO (fun (k5 : Nat) (_ : Unit) =>
    (idxO v_ ((k5 : Nat) : Int)).bind fun a0 =>
    (F_impl_isElement p_ a0).bind fun y0 =>
    (some (!y0)).bind fun a1 =>
    cond a1
    (some (.inr false))
    (some (.inl ()))) v_.length 0 ()) fun (_ : Unit) =>
  some true)

noncomputable def F_impl_areVectors (p_ : Int) (rows_ : List (List Int)) (n_ : Int) : Option Bool :=
 seqO (forO (fun (k2 : Nat) (_ : Unit) =>
   (idxO rows_ ((k2 : Nat) : Int)).bind fun a0 =>
   (F_impl_isVector p_ a0 n_).bind fun y0 =>
   (some (!y0)).bind fun a1 =>
   cond a1
   (some (.inr false))
   (some (.inl ()))) rows_.length 0 ()) fun (_ : Unit) =>
 some true

noncomputable def F_impl_isMatrix (p_ : Int) (m_ : Int × List (List Int)) : Option Bool :=
 ((F_impl_isField p_).bind fun y0 =>
  cond y0
  ((F_impl_within m_.1 0 24).bind fun y1 =>
   cond y1
   ((some (decide (((m_.2.length : Nat) : Int) ≤ 24))).bind fun a0 =>
    cond a0
    ((F_impl_areVectors p_ m_.2 m_.1).bind fun y2 =>
     some y2)
    (some false))
   (some false))
  (some false)).bind fun (s0 : Bool) =>
 some s0

noncomputable def F_impl_isResponse (p_ : Int) (m_ : List (Int × List (List Int))) : Option Bool :=
 ((F_impl_isField p_).bind fun y0 =>
  (some (!y0)).bind fun a0 =>
  cond a0
  (some true)
  ((F_impl_within ((m_.length : Nat) : Int) 1 60).bind fun y1 =>
   (some (!y1)).bind fun a1 =>
   some a1)).bind fun (s0 : Bool) =>
 cond s0
 (some false)
 (seqO (forO (fun (k0 : Nat) (_ : Unit) =>
    (idxO m_ ((k0 : Nat) : Int)).bind fun a2 =>
    ((F_impl_isMatrix p_ (a2.1, a2.2)).bind fun y2 =>
     (some (!y2)).bind fun a3 =>
     cond a3
     (some true)
     ((idxO m_ 0).bind fun a4 =>
      (some (!decide (((a2.2.length : Nat) : Int) = ((a4.2.length : Nat) : Int)))).bind fun a5 =>
      cond a5
      (some true)
      ((idxO m_ 0).bind fun a6 =>
       (some (!decide (a2.1 = a6.1))).bind fun a7 =>
       some a7))).bind fun (s1 : Bool) =>
    cond s1
    (some (.inr false))
    (some (.inl ()))) m_.length 0 ()) fun (_ : Unit) =>
  ((idxO m_ 0).bind fun a8 =>
   (some (decide (((a8.2.length : Nat) : Int) ≤ 8))).bind fun a9 =>
   cond a9
   ((idxO m_ 0).bind fun a10 =>
    (some (decide (a10.1 ≤ 8))).bind fun a11 =>
    some a11)
   (some false)).bind fun (s2 : Bool) =>
  some s2)

noncomputable def F_impl_beside (rows_ : Int) (blocks_ : List (Int × List (List Int))) : Option (List (List Int)) :=
 (makeO rows_ ([] : List Int)).bind fun a2 =>
 (forS (fun (k7 : Nat) (s0 : List (List Int)) =>
   (forS (fun (k0 : Nat) (s1 : List (List Int)) =>
     (idxO blocks_ ((k0 : Nat) : Int)).bind fun a0 =>
     (idxO s1 ((k7 : Nat) : Int)).bind fun a1 =>
     (idxO a0.2 ((k7 : Nat) : Int)).bind fun a3 =>
     (appO a1 a3).bind fun a4 =>
     (setO s1 ((k7 : Nat) : Int) a4).bind fun a5 =>
     some a5) blocks_.length 0 s0).bind fun (s2 : List (List Int)) =>
   some s2) a2.length 0 a2).bind fun (s3 : List (List Int)) =>
 some s3

noncomputable def F_impl_hankel (m_ : List (Int × List (List Int))) (rows_ : Int) (cols_ : Int) : Option (List (List Int)) :=
 (cI rows_).bind fun _ =>
 (forS (fun (k5 : Nat) (s0 : List (List Int)) =>
   (idxO m_ 0).bind fun a0 =>
   (addO ((k5 : Nat) : Int) 1).bind fun a1 =>
   (addO ((k5 : Nat) : Int) 1).bind fun a2 =>
   (addO a2 cols_).bind fun a3 =>
   (sliceO m_ a1 a3).bind fun a4 =>
   (F_impl_beside ((a0.2.length : Nat) : Int) a4).bind fun y0 =>
   (appO s0 y0).bind fun a5 =>
   some a5) rows_.toNat 0 ([] : List (List Int))).bind fun (s1 : List (List Int)) =>
 some s1

noncomputable def F_impl_clone (list_ : List Int) : Option (List Int) :=
 (appO ([] : List Int) list_).bind fun a5 =>
 some a5

noncomputable def F_impl_lead (v_ : List Int) : Option Int :=
 seqO (forO (fun (k2 : Nat) (_ : Unit) =>
   (idxO v_ ((k2 : Nat) : Int)).bind fun a0 =>
   (some (!decide (a0 = 0))).bind fun a1 =>
   cond a1
   (some (.inr ((k2 : Nat) : Int)))
   (some (.inl ()))) v_.length 0 ()) fun (_ : Unit) =>
 some ((v_.length : Nat) : Int)

noncomputable def F_impl_mod (p_ : Int) (a_ : Int) : Option Int :=
 (remO a_ p_).bind fun a1 =>
 (some (decide (a1 < 0))).bind fun a3 =>
 cond a3
 ((addO a1 p_).bind fun a7 =>
  some a7)
 (some a1)

noncomputable def F_impl_addTimes (p_ : Int) (v_ : List Int) (by_ : Int) (w_ : List Int) : Option (List Int) :=
 (forS (fun (k3 : Nat) (s0 : List Int) =>
   (idxO w_ ((k3 : Nat) : Int)).bind fun a0 =>
   (idxO s0 ((k3 : Nat) : Int)).bind fun a1 =>
   (mulO by_ a0).bind fun a2 =>
   (addO a1 a2).bind fun a3 =>
   (F_impl_mod p_ a3).bind fun y0 =>
   (setO s0 ((k3 : Nat) : Int) y0).bind fun a4 =>
   some a4) w_.length 0 v_).bind fun (s1 : List Int) =>
 some s1

noncomputable def F_impl_isZero (v_ : List Int) : Option Bool :=
 (F_impl_lead v_).bind fun y2 =>
 (some (decide (y2 = ((v_.length : Nat) : Int)))).bind fun a5 =>
 some a5

noncomputable def F_impl_coordinates (p_ : Int) (basis_ : List (List Int)) (v_ : List Int) : Option (List Int × Bool) :=
 (F_impl_clone v_).bind fun y3 =>
 (forS (fun (k0 : Nat) (s0 : List Int × List Int) =>
   (idxO basis_ ((k0 : Nat) : Int)).bind fun a0 =>
   (F_impl_lead a0).bind fun y0 =>
   (idxO s0.1 y0).bind fun a1 =>
   (appO s0.2 [a1]).bind fun a2 =>
   (negO a1).bind fun a3 =>
   (F_impl_addTimes p_ s0.1 a3 a0).bind fun y1 =>
   some (y1, a2)) basis_.length 0 (y3, ([] : List Int))).bind fun (s1 : List Int × List Int) =>
 (F_impl_isZero s1.1).bind fun y2 =>
 some (s1.2, y2)

noncomputable def F_impl_clones (list_ : List (List Int)) : Option (List (List Int)) :=
 (makeCO 0 ((list_.length : Nat) : Int) ([] : List Int)).bind fun a2 =>
 (forS (fun (k7 : Nat) (s0 : List (List Int)) =>
   (idxO list_ ((k7 : Nat) : Int)).bind fun a0 =>
   (F_impl_clone a0).bind fun y0 =>
   (appO s0 [y0]).bind fun a1 =>
   some a1) list_.length 0 a2).bind fun (s1 : List (List Int)) =>
 some s1

noncomputable def F_impl_bit (yes_ : Bool) : Option Int :=
 cond yes_
 (some 1)
 (some 0)

noncomputable def F_impl_power (p_ : Int) (a_ : Int) (n_ : Int) : Option Int :=
 (remO 1 p_).bind fun a1 =>
 (whileO (fun (s0 : Int × Int × Int) =>
   (some (decide ((0 : Int) < s0.2.1))).bind fun a0 =>
   cond a0
   (((remO s0.2.1 2).bind fun a2 =>
     (some (decide (a2 = 1))).bind fun a3 =>
     cond a3
     ((mulO s0.2.2 s0.1).bind fun a4 =>
      (remO a4 p_).bind fun a5 =>
      some a5)
     (some s0.2.2)).bind fun (s1 : Int) =>
    (mulO s0.1 s0.1).bind fun a6 =>
    (remO a6 p_).bind fun a7 =>
    (quoO s0.2.1 2).bind fun a8 =>
    some (.inl (a7, a8, s1)))
   (some (.inr s0.2.2))) (a_, n_, a1)).bind fun (s2 : Int) =>
 some s2

noncomputable def F_impl_inverse (p_ : Int) (a_ : Int) : Option Int :=
 (subO p_ 2).bind fun a1 =>
 (some (decide (p_ = 2))).bind fun a3 =>
 (F_impl_bit a3).bind fun y5 =>
 (addO a1 y5).bind fun a8 =>
 (F_impl_power p_ a_ a8).bind fun y0 =>
 some y0

noncomputable def F_impl_rowOperation_apply (o_ : Int × Int × Int × Int) (p_ : Int) (rows_ : List (List Int)) : Option (List (List Int)) :=
 (some (decide (o_.1 = 0))).bind fun a5 =>
 cond a5
 ((idxO rows_ o_.2.2.1).bind fun a0 =>
  (idxO rows_ o_.2.1).bind fun a1 =>
  (swapO rows_ o_.2.1 o_.2.2.1).bind fun a2 =>
  some a2)
 ((some (decide (o_.1 = 1))).bind fun a8 =>
  cond a8
  ((F_impl_inverse p_ o_.2.2.2).bind fun y0 =>
   (idxO rows_ o_.2.1).bind fun a3 =>
   (forS (fun (k0 : Nat) (s0 : List Int) =>
     (idxO s0 ((k0 : Nat) : Int)).bind fun a4 =>
     (mulO a4 y0).bind fun a6 =>
     (remO a6 p_).bind fun a7 =>
     (setO s0 ((k0 : Nat) : Int) a7).bind fun a9 =>
     some a9) a3.length 0 a3).bind fun (s1 : List Int) =>
   (setO rows_ o_.2.1 s1).bind fun a10 =>
   some a10)
  ((some (decide (o_.1 = 2))).bind fun a12 =>
   cond a12
   ((idxO rows_ o_.2.1).bind fun a13 =>
    (negO o_.2.2.2).bind fun a14 =>
    (idxO rows_ o_.2.2.1).bind fun a15 =>
    (F_impl_addTimes p_ a13 a14 a15).bind fun y1 =>
    (neqO o_.2.1 o_.2.2.1).bind fun _ =>
    (setO rows_ o_.2.1 y1).bind fun a16 =>
    some a16)
   (some rows_)))

noncomputable def F_impl_reduction_1 (o_ : Int × Int × Int × Int) (c0_ : Int) (c1_ : List (List Int)) (c2_ : List (List Int)) : Option (List (List Int) × List (List Int)) :=
 (some (decide (([o_.1, o_.2.1, o_.2.2.1, o_.2.2.2] : List Int) = [0, o_.2.1, o_.2.1, 0]))).bind fun a9 =>
 cond a9
 (some (c1_, c2_))
 ((F_impl_rowOperation_apply (o_.1, o_.2.1, o_.2.2.1, o_.2.2.2) c0_ c1_).bind fun y0 =>
  (F_impl_rowOperation_apply (o_.1, o_.2.1, o_.2.2.1, o_.2.2.2) c0_ c2_).bind fun y1 =>
  some (y0, y1))

noncomputable def F_impl_reduction (p_ : Int) (rows_ : List (List Int)) (n_ : Int) (also_ : List (List Int)) : Option (List (List Int) × List (List Int) × Int) :=
 (whileO (fun (s0 : List (List Int) × List (List Int) × Int × Int) =>
   ((some (decide (s0.2.2.1 < n_))).bind fun a0 =>
    cond a0
    ((some (decide (s0.2.2.2 < ((s0.1.length : Nat) : Int)))).bind fun a1 =>
     some a1)
    (some false)).bind fun (s1 : Bool) =>
   cond s1
   (((whileO (fun (s2 : Int) =>
       ((some (decide (s2 < ((s0.1.length : Nat) : Int)))).bind fun a2 =>
        cond a2
        ((idxO s0.1 s2).bind fun a3 =>
         (idxO a3 s0.2.2.1).bind fun a4 =>
         (some (decide (a4 = 0))).bind fun a5 =>
         some a5)
        (some false)).bind fun (s3 : Bool) =>
       cond s3
       ((addO s2 1).bind fun a6 =>
        some (.inl a6))
       (some (.inr s2))) s0.2.2.2).bind fun (s4 : Int) =>
     (some (decide (s4 = ((s0.1.length : Nat) : Int)))).bind fun a7 =>
     cond a7
     (some (s0.1, s0.2.1, s0.2.2.2))
     ((F_impl_reduction_1 (0, s0.2.2.2, s4, 0) p_ s0.1 s0.2.1).bind fun y0 =>
      (idxO y0.1 s0.2.2.2).bind fun a8 =>
      (idxO a8 s0.2.2.1).bind fun a9 =>
      (F_impl_reduction_1 (1, s0.2.2.2, 0, a9) p_ y0.1 y0.2).bind fun y1 =>
      (forS (fun (k0 : Nat) (s5 : List (List Int) × List (List Int)) =>
        ((some (!decide (((k0 : Nat) : Int) = s0.2.2.2))).bind fun a10 =>
         cond a10
         ((idxO s5.1 ((k0 : Nat) : Int)).bind fun a11 =>
          (idxO a11 s0.2.2.1).bind fun a12 =>
          (some (!decide (a12 = 0))).bind fun a13 =>
          some a13)
         (some false)).bind fun (s6 : Bool) =>
        cond s6
        ((idxO s5.1 ((k0 : Nat) : Int)).bind fun a14 =>
         (idxO a14 s0.2.2.1).bind fun a15 =>
         (F_impl_reduction_1 (2, ((k0 : Nat) : Int), s0.2.2.2, a15) p_ s5.1 s5.2).bind fun y2 =>
         some (y2.1, y2.2))
        (some (s5.1, s5.2))) y1.1.length 0 (y1.1, y1.2)).bind fun (s7 : List (List Int) × List (List Int)) =>
      (addO s0.2.2.2 1).bind fun a16 =>
      some (s7.1, s7.2, a16))).bind fun (s8 : List (List Int) × List (List Int) × Int) =>
    (addO s0.2.2.1 1).bind fun a17 =>
    some (.inl (s8.1, s8.2.1, a17, s8.2.2)))
   (some (.inr (s0.1, s0.2.1, s0.2.2.2)))) (rows_, also_, 0, 0)).bind fun (s9 : List (List Int) × List (List Int) × Int) =>
 some (s9.1, s9.2.1, s9.2.2)

noncomputable def F_impl_reduced (p_ : Int) (rows_ : List (List Int)) (n_ : Int) : Option (List (List Int)) :=
 (F_impl_clones rows_).bind fun y2 =>
 (makeO ((y2.length : Nat) : Int) ([] : List Int)).bind fun a7 =>
 (F_impl_reduction p_ y2 n_ a7).bind fun y0 =>
 (sliceO y0.1 0 y0.2.2).bind fun a0 =>
 some a0

noncomputable def F_impl_chooser_offer (k_ : Int × Int × List (List Int) × List Int × List (List Int)) (i_ : Int) (row_ : List Int) : Option (Int × Int × List (List Int) × List Int × List (List Int)) :=
 (F_impl_coordinates k_.1 k_.2.2.1 row_).bind fun y7 =>
 cond y7.2
 (some (k_.1, k_.2.1, k_.2.2.1, k_.2.2.2.1, k_.2.2.2.2))
 ((appO k_.2.2.2.1 [i_]).bind fun a0 =>
  (appO k_.2.2.2.2 [row_]).bind fun a1 =>
  (F_impl_reduced k_.1 a1 k_.2.1).bind fun y0 =>
  some (k_.1, k_.2.1, y0, a0, a1))

noncomputable def F_impl_zeros (n_ : Int) : Option (List Int) :=
 (makeO n_ (0 : Int)).bind fun a1 =>
 some a1

noncomputable def F_impl_upTo (n_ : Int) : Option (List Int) :=
 (F_impl_zeros n_).bind fun y1 =>
 (forS (fun (k6 : Nat) (s0 : List Int) =>
   (setO s0 ((k6 : Nat) : Int) ((k6 : Nat) : Int)).bind fun a0 =>
   some a0) y1.length 0 y1).bind fun (s1 : List Int) =>
 some s1

noncomputable def F_impl_firstSolution (p_ : Int) (equations_ : List (List Int)) (n_ : Int) : Option (List Int × Bool) :=
 (forS (fun (k5 : Nat) (s0 : List (List Int)) =>
   (idxO equations_ ((k5 : Nat) : Int)).bind fun a0 =>
   ((subO n_ 1).bind fun a1 =>
    whileO (fun (s1 : List Int × Int) =>
     (some (decide ((0 : Int) ≤ s1.2))).bind fun a2 =>
     cond a2
     ((idxO a0 s1.2).bind fun a3 =>
      (appO s1.1 [a3]).bind fun a4 =>
      (subO s1.2 1).bind fun a5 =>
      some (.inl (a4, a5)))
     (some (.inr s1.1))) (([] : List Int), a1)).bind fun (s2 : List Int) =>
   (idxO a0 n_).bind fun a6 =>
   (appO s2 [a6]).bind fun a7 =>
   (appO s0 [a7]).bind fun a8 =>
   some a8) equations_.length 0 ([] : List (List Int))).bind fun (s3 : List (List Int)) =>
 (F_impl_zeros n_).bind fun y0 =>
 (addO n_ 1).bind fun a9 =>
 (F_impl_reduced p_ s3 a9).bind fun y1 =>
 seqO (forO (fun (k0 : Nat) (s4 : List Int) =>
   (idxO y1 ((k0 : Nat) : Int)).bind fun a10 =>
   (F_impl_lead a10).bind fun y2 =>
   (some (decide (y2 = n_))).bind fun a11 =>
   cond a11
   (some (.inr ([], false)))
   ((subO n_ 1).bind fun a12 =>
    (subO a12 y2).bind fun a13 =>
    (idxO a10 n_).bind fun a14 =>
    (setO s4 a13 a14).bind fun a15 =>
    some (.inl a15))) y1.length 0 y0) fun (s5 : List Int) =>
 some (s5, true)

noncomputable def F_impl_chooser_coordinates (k_ : Int × Int × List (List Int) × List Int × List (List Int)) (row_ : List Int) : Option (List Int × Bool) :=
 (cI k_.2.1).bind fun _ =>
 (forS (fun (k9 : Nat) (s0 : List (List Int)) =>
   (forS (fun (k0 : Nat) (s1 : List Int) =>
     (idxO k_.2.2.2.2 ((k0 : Nat) : Int)).bind fun a0 =>
     (idxO a0 ((k9 : Nat) : Int)).bind fun a1 =>
     (appO s1 [a1]).bind fun a2 =>
     some a2) k_.2.2.2.2.length 0 ([] : List Int)).bind fun (s2 : List Int) =>
   (idxO row_ ((k9 : Nat) : Int)).bind fun a3 =>
   (appO s2 [a3]).bind fun a4 =>
   (appO s0 [a4]).bind fun a5 =>
   some a5) k_.2.1.toNat 0 ([] : List (List Int))).bind fun (s3 : List (List Int)) =>
 (F_impl_firstSolution k_.1 s3 ((k_.2.2.2.2.length : Nat) : Int)).bind fun y0 =>
 some (y0.1, y0.2)

noncomputable def F_impl_combine (p_ : Int) (x_ : List Int) (rows_ : List (List Int)) (n_ : Int) : Option (List Int) :=
 (F_impl_zeros n_).bind fun y3 =>
 (forS (fun (k8 : Nat) (s0 : List Int) =>
   (idxO rows_ ((k8 : Nat) : Int)).bind fun a0 =>
   (idxO x_ ((k8 : Nat) : Int)).bind fun a1 =>
   (F_impl_addTimes p_ s0 a1 a0).bind fun y0 =>
   some y0) rows_.length 0 y3).bind fun (s1 : List Int) =>
 some s1

noncomputable def F_impl_product (p_ : Int) (rows_ : List (List Int)) (m_ : List (List Int)) (n_ : Int) : Option (List (List Int)) :=
 (forS (fun (k6 : Nat) (s0 : List (List Int)) =>
   (idxO rows_ ((k6 : Nat) : Int)).bind fun a0 =>
   (F_impl_combine p_ a0 m_ n_).bind fun y0 =>
   (appO s0 [y0]).bind fun a1 =>
   some a1) rows_.length 0 ([] : List (List Int))).bind fun (s1 : List (List Int)) =>
 some s1

noncomputable def F_impl_StateSpace_markov (s_ : Int × Int × Int × List (List Int) × List (List Int) × List (List Int) × List (List Int)) (p_ : Int) (n_ : Int) : Option (List (Int × List (List Int))) :=
 (F_impl_clones s_.2.2.2.2.1).bind fun y0 =>
 (cI n_).bind fun _ =>
 (forS (fun (k0 : Nat) (s0 : (List (Int × List (List Int))) × List (List Int)) =>
   ((some (decide (((k0 : Nat) : Int) = 0))).bind fun a0 =>
    cond a0
    ((F_impl_clones s_.2.2.2.2.2.2).bind fun y1 =>
     (appO s0.1 [(s_.2.2.1, y1)]).bind fun a1 =>
     some (a1, s0.2))
    ((F_impl_product p_ s0.2 s_.2.2.2.2.2.1 s_.2.2.1).bind fun y2 =>
     (appO s0.1 [(s_.2.2.1, y2)]).bind fun a2 =>
     (F_impl_product p_ s0.2 s_.2.2.2.1 s_.1).bind fun y3 =>
     some (a2, y3))).bind fun (s1 : (List (Int × List (List Int))) × List (List Int)) =>
   some (s1.1, s1.2)) n_.toNat 0 (([] : List (Int × List (List Int))), y0)).bind fun (s2 : (List (Int × List (List Int))) × List (List Int)) =>
 some s2.1

noncomputable def F_slices_Equal_int_int (s1_ : List Int) (s2_ : List Int) : Option Bool :=
 (some (!decide (((s1_.length : Nat) : Int) = ((s2_.length : Nat) : Int)))).bind fun a3 =>
 cond a3
 (some false)
 (seqO (forO (fun (k6 : Nat) (_ : Unit) =>
    (idxO s1_ ((k6 : Nat) : Int)).bind fun a0 =>
    (idxO s2_ ((k6 : Nat) : Int)).bind fun a1 =>
    (some (!decide (a0 = a1))).bind fun a2 =>
    cond a2
    (some (.inr false))
    (some (.inl ()))) s1_.length 0 ()) fun (_ : Unit) =>
  some true)

noncomputable def F_slices_EqualFunc_int_int_int_int_slices_Equal_int_int (s1_ : List (List Int)) (s2_ : List (List Int)) : Option Bool :=
 (some (!decide (((s1_.length : Nat) : Int) = ((s2_.length : Nat) : Int)))).bind fun a3 =>
 cond a3
 (some false)
 (seqO (forO (fun (k6 : Nat) (_ : Unit) =>
    (idxO s1_ ((k6 : Nat) : Int)).bind fun a0 =>
    (idxO s2_ ((k6 : Nat) : Int)).bind fun a1 =>
    (F_slices_Equal_int_int a0 a1).bind fun y0 =>
    (some (!y0)).bind fun a2 =>
    cond a2
    (some (.inr false))
    (some (.inl ()))) s1_.length 0 ()) fun (_ : Unit) =>
  some true)

noncomputable def F_impl_sameRows (a_ : List (List Int)) (b_ : List (List Int)) : Option Bool :=
 (F_slices_EqualFunc_int_int_int_int_slices_Equal_int_int a_ b_).bind fun y3 =>
 some y3

noncomputable def F_impl_equalMatrices (a_ : Int × List (List Int)) (b_ : Int × List (List Int)) : Option Bool :=
 ((some (decide (a_.1 = b_.1))).bind fun a0 =>
  cond a0
  ((F_impl_sameRows a_.2 b_.2).bind fun y0 =>
   some y0)
  (some false)).bind fun (s0 : Bool) =>
 some s0

noncomputable def F_slices_EqualFunc_impl_Matrix_impl_Matrix_impl_Matrix_impl_Matrix_impl_equalMatrices (s1_ : List (Int × List (List Int))) (s2_ : List (Int × List (List Int))) : Option Bool :=
 (some (!decide (((s1_.length : Nat) : Int) = ((s2_.length : Nat) : Int)))).bind fun a3 =>
 cond a3
 (some false)
 (seqO (forO (fun (k6 : Nat) (_ : Unit) =>
    (idxO s1_ ((k6 : Nat) : Int)).bind fun a0 =>
    (idxO s2_ ((k6 : Nat) : Int)).bind fun a1 =>
    (F_impl_equalMatrices (a0.1, a0.2) (a1.1, a1.2)).bind fun y0 =>
    (some (!y0)).bind fun a2 =>
    cond a2
    (some (.inr false))
    (some (.inl ()))) s1_.length 0 ()) fun (_ : Unit) =>
  some true)

noncomputable def F_impl_realize (p_ : Int) (m_ : List (Int × List (List Int))) : Option ((Int × Int × Int × List (List Int) × List (List Int) × List (List Int) × List (List Int)) × Bool) :=
 (idxO m_ 0).bind fun a0 =>
 (idxO m_ 0).bind fun a1 =>
 (subO ((m_.length : Nat) : Int) 1).bind fun a2 =>
 (quoO a2 2).bind fun a3 =>
 (addO a3 1).bind fun a4 =>
 (F_impl_hankel m_ a4 a3).bind fun y0 =>
 (mulO a3 a1.1).bind fun a5 =>
 (mulO a3 ((a0.2.length : Nat) : Int)).bind fun a6 =>
 (sliceO y0 0 a6).bind fun a7 =>
 (forS (fun (k0 : Nat) (s0 : Int × Int × List (List Int) × List Int × List (List Int)) =>
   (idxO a7 ((k0 : Nat) : Int)).bind fun a8 =>
   (F_impl_chooser_offer (s0.1, s0.2.1, s0.2.2.1, s0.2.2.2.1, s0.2.2.2.2) ((k0 : Nat) : Int) a8).bind fun y1 =>
   some (y1.1, y1.2.1, y1.2.2.1, y1.2.2.2.1, y1.2.2.2.2)) a7.length 0 (p_, a5, [], [], [])).bind fun (s1 : Int × Int × List (List Int) × List Int × List (List Int)) =>
 ((idxO m_ 0).bind fun a9 =>
  (F_impl_clones a9.2).bind fun y2 =>
  some (((s1.2.2.2.1.length : Nat) : Int), ((a0.2.length : Nat) : Int), a1.1, y2)).bind fun (s2 : Int × Int × Int × List (List Int)) =>
 (some (decide ((24 : Int) < s2.1))).bind fun a10 =>
 cond a10
 (some ((0, 0, 0, [], [], [], []), false))
 ((forS (fun (k1 : Nat) (s3 : List Int) =>
    (idxO s1.2.2.2.1 ((k1 : Nat) : Int)).bind fun a11 =>
    (addO a11 ((a0.2.length : Nat) : Int)).bind fun a12 =>
    (appO s3 [a12]).bind fun a13 =>
    some a13) s1.2.2.2.1.length 0 ([] : List Int)).bind fun (s4 : List Int) =>
  (F_impl_upTo ((a0.2.length : Nat) : Int)).bind fun y3 =>
  (appO s4 y3).bind fun a15 =>
  whileO (fun (s5 : List (List Int) × List (List Int) × Int × Bool) =>
   ((some (decide (s5.2.2.1 < ((a15.length : Nat) : Int)))).bind fun a16 =>
    cond a16
    (some s5.2.2.2)
    (some false)).bind fun (s6 : Bool) =>
   cond s6
   ((idxO a15 s5.2.2.1).bind fun a17 =>
    (idxO y0 a17).bind fun a18 =>
    (F_impl_chooser_coordinates (s1.1, s1.2.1, s1.2.2.1, s1.2.2.2.1, s1.2.2.2.2) a18).bind fun y4 =>
    ((some (decide (s5.2.2.1 < s2.1))).bind fun a19 =>
     cond a19
     ((appO s5.1 [y4.1]).bind fun a20 =>
      some (a20, s5.2.1))
     ((appO s5.2.1 [y4.1]).bind fun a21 =>
      some (s5.1, a21))).bind fun (s7 : List (List Int) × List (List Int)) =>
    (addO s5.2.2.1 1).bind fun a22 =>
    some (.inl (s7.1, s7.2, a22, y4.2)))
   ((forS (fun (k2 : Nat) (s8 : List (List Int)) =>
      (idxO s1.2.2.2.2 ((k2 : Nat) : Int)).bind fun a23 =>
      (sliceO a23 0 a1.1).bind fun a24 =>
      (F_impl_clone a24).bind fun y5 =>
      (appO s8 [y5]).bind fun a25 =>
      some a25) s1.2.2.2.2.length 0 []).bind fun (s9 : List (List Int)) =>
    ((some (!s5.2.2.2)).bind fun a27 =>
     cond a27
     (some true)
     ((F_impl_StateSpace_markov (s2.1, s2.2.1, s2.2.2.1, s5.1, s5.2.1, s9, s2.2.2.2) p_ ((m_.length : Nat) : Int)).bind fun y6 =>
      (F_slices_EqualFunc_impl_Matrix_impl_Matrix_impl_Matrix_impl_Matrix_impl_equalMatrices y6 m_).bind fun y7 =>
      (some (!y7)).bind fun a28 =>
      some a28)).bind fun (s10 : Bool) =>
    cond s10
    (some (.inr ((0, 0, 0, [], [], [], []), false)))
    (some (.inr ((s2.1, s2.2.1, s2.2.2.1, s5.1, s5.2.1, s9, s2.2.2.2), true))))) ([], [], 0, true))

noncomputable def F_impl_RealizeMarkov (p_ : Int) (m_ : List (Int × List (List Int))) : Option ((Int × Int × Int × List (List Int) × List (List Int) × List (List Int) × List (List Int)) × Bool) :=
 (F_impl_isResponse p_ m_).bind fun y6 =>
 (some (!y6)).bind fun a9 =>
 cond a9
 (some ((0, 0, 0, [], [], [], []), false))
 ((F_impl_realize p_ m_).bind fun y0 =>
  some ((y0.1.1, y0.1.2.1, y0.1.2.2.1, y0.1.2.2.2.1, y0.1.2.2.2.2.1, y0.1.2.2.2.2.2.1, y0.1.2.2.2.2.2.2), y0.2))

noncomputable def F_impl_RealizeSequence (p_ : Int) (s_ : List Int) : Option ((Int × Int × Int × List (List Int) × List (List Int) × List (List Int) × List (List Int)) × Bool) :=
 (forS (fun (k9 : Nat) (s0 : List (Int × List (List Int))) =>
   (idxO s_ ((k9 : Nat) : Int)).bind fun a0 =>
   (appO s0 [(1, [[a0]])]).bind fun a1 =>
   some a1) s_.length 0 ([] : List (Int × List (List Int)))).bind fun (s1 : List (Int × List (List Int))) =>
 (F_impl_RealizeMarkov p_ s1).bind fun y0 =>
 some ((y0.1.1, y0.1.2.1, y0.1.2.2.1, y0.1.2.2.2.1, y0.1.2.2.2.2.1, y0.1.2.2.2.2.2.1, y0.1.2.2.2.2.2.2), y0.2)

noncomputable def F_laws_eqIntS (a_ : List Int) (b_ : List Int) : Option Bool :=
 (some (!decide (((a_.length : Nat) : Int) = ((b_.length : Nat) : Int)))).bind fun a3 =>
 cond a3
 (some false)
 (seqO (whileO (fun (s0 : Int) =>
    (some (decide (s0 < ((a_.length : Nat) : Int)))).bind fun a0 =>
    cond a0
    ((idxO a_ s0).bind fun a1 =>
     (idxO b_ s0).bind fun a2 =>
     (some (!decide (a1 = a2))).bind fun a4 =>
     cond a4
     (some (.inr (.inr false)))
     ((addO s0 1).bind fun a5 =>
      some (.inl a5)))
    (some (.inr (.inl ())))) 0) fun (s1 : Unit) =>
  some true)

noncomputable def F_laws_eqIntSS (a_ : List (List Int)) (b_ : List (List Int)) : Option Bool :=
 (some (!decide (((a_.length : Nat) : Int) = ((b_.length : Nat) : Int)))).bind fun a3 =>
 cond a3
 (some false)
 (seqO (whileO (fun (s0 : Int) =>
    (some (decide (s0 < ((a_.length : Nat) : Int)))).bind fun a0 =>
    cond a0
    ((idxO a_ s0).bind fun a1 =>
     (idxO b_ s0).bind fun a2 =>
     (F_laws_eqIntS a1 a2).bind fun y0 =>
     (some (!y0)).bind fun a4 =>
     cond a4
     (some (.inr (.inr false)))
     ((addO s0 1).bind fun a5 =>
      some (.inl a5)))
    (some (.inr (.inl ())))) 0) fun (s1 : Unit) =>
  some true)

noncomputable def F_laws_eqStateSpace (a_ : Int × Int × Int × List (List Int) × List (List Int) × List (List Int) × List (List Int)) (b_ : Int × Int × Int × List (List Int) × List (List Int) × List (List Int) × List (List Int)) : Option Bool :=
 (some (!decide (a_.1 = b_.1))).bind fun a0 =>
 cond a0
 (some false)
 ((some (!decide (a_.2.1 = b_.2.1))).bind fun a1 =>
  cond a1
  (some false)
  ((some (!decide (a_.2.2.1 = b_.2.2.1))).bind fun a2 =>
   cond a2
   (some false)
   ((F_laws_eqIntSS a_.2.2.2.1 b_.2.2.2.1).bind fun y0 =>
    (some (!y0)).bind fun a3 =>
    cond a3
    (some false)
    ((F_laws_eqIntSS a_.2.2.2.2.1 b_.2.2.2.2.1).bind fun y1 =>
     (some (!y1)).bind fun a4 =>
     cond a4
     (some false)
     ((F_laws_eqIntSS a_.2.2.2.2.2.1 b_.2.2.2.2.2.1).bind fun y2 =>
      (some (!y2)).bind fun a5 =>
      cond a5
      (some false)
      ((F_laws_eqIntSS a_.2.2.2.2.2.2 b_.2.2.2.2.2.2).bind fun y3 =>
       (some (!y3)).bind fun a6 =>
       cond a6
       (some false)
       (some true)))))))

noncomputable def F_laws_markIntS (a_ : List Int) (k_ : Int) : Option (List Int × Int) :=
 (whileO (fun (s0 : List Int × Int × Int) =>
   (some (decide (s0.2.2 < ((s0.1.length : Nat) : Int)))).bind fun a0 =>
   cond a0
   ((setO s0.1 s0.2.2 s0.2.1).bind fun a1 =>
    (addO s0.2.1 1).bind fun a2 =>
    (addO s0.2.2 1).bind fun a3 =>
    some (.inl (a1, a2, a3)))
   (some (.inr (s0.1, s0.2.1)))) (a_, k_, 0)).bind fun (s1 : List Int × Int) =>
 some (s1.1, s1.2)

noncomputable def F_laws_markIntSS (a_ : List (List Int)) (k_ : Int) : Option (List (List Int) × Int) :=
 (whileO (fun (s0 : List (List Int) × Int × Int) =>
   (some (decide (s0.2.2 < ((s0.1.length : Nat) : Int)))).bind fun a0 =>
   cond a0
   ((idxO s0.1 s0.2.2).bind fun a1 =>
    (F_laws_markIntS a1 s0.2.1).bind fun y0 =>
    (setO s0.1 s0.2.2 y0.1).bind fun a2 =>
    (addO s0.2.2 1).bind fun a3 =>
    some (.inl (a2, y0.2, a3)))
   (some (.inr (s0.1, s0.2.1)))) (a_, k_, 0)).bind fun (s1 : List (List Int) × Int) =>
 some (s1.1, s1.2)

noncomputable def F_laws_markStateSpace (a_ : Int × Int × Int × List (List Int) × List (List Int) × List (List Int) × List (List Int)) (k_ : Int) : Option ((Int × Int × Int × List (List Int) × List (List Int) × List (List Int) × List (List Int)) × Int) :=
 (F_laws_markIntSS a_.2.2.2.1 k_).bind fun y8 =>
 (F_laws_markIntSS a_.2.2.2.2.1 y8.2).bind fun y0 =>
 (F_laws_markIntSS a_.2.2.2.2.2.1 y0.2).bind fun y1 =>
 (F_laws_markIntSS a_.2.2.2.2.2.2 y1.2).bind fun y2 =>
 some ((a_.1, a_.2.1, a_.2.2.1, y8.1, y0.1, y1.1, y2.1), y2.2)

noncomputable def F_laws_heldIntS (a_ : List Int) (k_ : Int) : Option Int :=
 seqO (whileO (fun (s0 : Int × Int) =>
   (some (decide (s0.2 < ((a_.length : Nat) : Int)))).bind fun a0 =>
   cond a0
   ((idxO a_ s0.2).bind fun a1 =>
    (some (!decide (a1 = s0.1))).bind fun a2 =>
    cond a2
    (some (.inr (.inr (-1))))
    ((addO s0.1 1).bind fun a3 =>
     (addO s0.2 1).bind fun a4 =>
     some (.inl (a3, a4))))
   (some (.inr (.inl s0.1)))) (k_, 0)) fun (s1 : Int) =>
 some s1

noncomputable def F_laws_heldIntSS (a_ : List (List Int)) (k_ : Int) : Option Int :=
 seqO (whileO (fun (s0 : Int × Int) =>
   (some (decide (s0.2 < ((a_.length : Nat) : Int)))).bind fun a0 =>
   cond a0
   ((idxO a_ s0.2).bind fun a1 =>
    (F_laws_heldIntS a1 s0.1).bind fun y0 =>
    (some (decide (y0 < 0))).bind fun a2 =>
    cond a2
    (some (.inr (.inr (-1))))
    ((addO s0.2 1).bind fun a3 =>
     some (.inl (y0, a3))))
   (some (.inr (.inl s0.1)))) (k_, 0)) fun (s1 : Int) =>
 some s1

noncomputable def F_laws_heldStateSpace (a_ : Int × Int × Int × List (List Int) × List (List Int) × List (List Int) × List (List Int)) (k_ : Int) : Option Int :=
 (F_laws_heldIntSS a_.2.2.2.1 k_).bind fun y8 =>
 (some (decide (y8 < 0))).bind fun a0 =>
 cond a0
 (some (-1))
 ((F_laws_heldIntSS a_.2.2.2.2.1 y8).bind fun y0 =>
  (some (decide (y0 < 0))).bind fun a1 =>
  cond a1
  (some (-1))
  ((F_laws_heldIntSS a_.2.2.2.2.2.1 y0).bind fun y1 =>
   (some (decide (y1 < 0))).bind fun a2 =>
   cond a2
   (some (-1))
   ((F_laws_heldIntSS a_.2.2.2.2.2.2 y1).bind fun y2 =>
    (some (decide (y2 < 0))).bind fun a3 =>
    cond a3
    (some (-1))
    (some y2))))

noncomputable def F_laws_FnExactRealizeSequence (aP_ : Int) (aS_ : List Int) : Option Bool :=
 (some (decide ((1048576 : Int) < ((aS_.length : Nat) : Int)))).bind fun a3 =>
 cond a3
 (some true)
 ((F_laws_toIntS aS_).bind fun y6 =>
  (F_spec_RealizeSequence aP_ y6).bind fun y0 =>
  (F_laws_toIntS aS_).bind fun y1 =>
  (F_impl_RealizeSequence aP_ y1).bind fun y2 =>
  ((F_laws_eqStateSpace (y2.1.1, y2.1.2.1, y2.1.2.2.1, y2.1.2.2.2.1, y2.1.2.2.2.2.1, y2.1.2.2.2.2.2.1, y2.1.2.2.2.2.2.2) (y0.1.1, y0.1.2.1, y0.1.2.2.1, y0.1.2.2.2.1, y0.1.2.2.2.2.1, y0.1.2.2.2.2.2.1, y0.1.2.2.2.2.2.2)).bind fun y3 =>
   (some (!y3)).bind fun a0 =>
   cond a0
   (some true)
   ((some (!decide (y2.2 = y0.2))).bind fun a1 =>
    some a1)).bind fun (s0 : Bool) =>
  cond s0
  (some false)
  ((F_laws_toIntS aS_).bind fun y4 =>
   (F_laws_eqIntS y1 y4).bind fun y5 =>
   (some (!y5)).bind fun a2 =>
   cond a2
   (some false)
   ((F_laws_markIntS y1 1).bind fun y7 =>
    ((some (decide (y7.2 < 0))).bind fun a4 =>
     cond a4
     (some true)
     ((F_laws_eqStateSpace (y2.1.1, y2.1.2.1, y2.1.2.2.1, y2.1.2.2.2.1, y2.1.2.2.2.2.1, y2.1.2.2.2.2.2.1, y2.1.2.2.2.2.2.2) (y0.1.1, y0.1.2.1, y0.1.2.2.1, y0.1.2.2.2.1, y0.1.2.2.2.2.1, y0.1.2.2.2.2.2.1, y0.1.2.2.2.2.2.2)).bind fun y8 =>
      (some (!y8)).bind fun a5 =>
      cond a5
      (some true)
      ((some (!decide (y2.2 = y0.2))).bind fun a6 =>
       some a6))).bind fun (s1 : Bool) =>
    cond s1
    (some false)
    ((F_laws_markStateSpace (y2.1.1, y2.1.2.1, y2.1.2.2.1, y2.1.2.2.2.1, y2.1.2.2.2.2.1, y2.1.2.2.2.2.2.1, y2.1.2.2.2.2.2.2) 1).bind fun y9 =>
     (F_laws_heldStateSpace (y2.1.1, y2.1.2.1, y2.1.2.2.1, y9.1.2.2.2.1, y9.1.2.2.2.2.1, y9.1.2.2.2.2.2.1, y9.1.2.2.2.2.2.2) 1).bind fun y10 =>
     (some (decide (y10 < 0))).bind fun a7 =>
     cond a7
     (some false)
     ((some (!decide (y10 = y9.2))).bind fun a8 =>
      cond a8
      (some false)
      ((F_laws_toIntS aS_).bind fun y12 =>
       (F_impl_RealizeSequence aP_ y12).bind fun y13 =>
       ((F_laws_eqStateSpace (y13.1.1, y13.1.2.1, y13.1.2.2.1, y13.1.2.2.2.1, y13.1.2.2.2.2.1, y13.1.2.2.2.2.2.1, y13.1.2.2.2.2.2.2) (y0.1.1, y0.1.2.1, y0.1.2.2.1, y0.1.2.2.2.1, y0.1.2.2.2.2.1, y0.1.2.2.2.2.2.1, y0.1.2.2.2.2.2.2)).bind fun y14 =>
        (some (!y14)).bind fun a9 =>
        cond a9
        (some true)
        ((some (!decide (y13.2 = y0.2))).bind fun a10 =>
         some a10)).bind fun (s2 : Bool) =>
       cond s2
       (some false)
       ((F_laws_heldStateSpace (y2.1.1, y2.1.2.1, y2.1.2.2.1, y9.1.2.2.2.1, y9.1.2.2.2.2.1, y9.1.2.2.2.2.2.1, y9.1.2.2.2.2.2.2) 1).bind fun y15 =>
        (some (decide (y15 < 0))).bind fun a11 =>
        cond a11
        (some false)
        ((some (!decide (y15 = y9.2))).bind fun a12 =>
         cond a12
         (some false)
         (some true)))))))))
end Go.Proofs.YtocpeclcoikdpaaDoor
