/-
 Partial functions, printed by a program (wip/y/gen.py): what each function of Go computes, over plain data. No program in sight. No condition.
-/
import Derived.Test.YtnlbhdepagkjgaaDoorZF
namespace Go.Proofs.YtnlbhdepagkjgaaDoor
set_option linter.unusedVariables false

noncomputable def F_impl_pad (v_ : List Int) : Option (List Int) := padO 48 v_

noncomputable def F_laws_szIntS (a_ : List Int) (left_ : Int) : Option Int :=
 (subO left_ ((a_.length : Nat) : Int)).bind fun a2 =>
 (some (decide (a2 < 0))).bind fun a4 =>
 cond a4
 (some (-1))
 (some a2)

noncomputable def F_laws_szIntSS (a_ : List (List Int)) (left_ : Int) : Option Int :=
 (subO left_ ((a_.length : Nat) : Int)).bind fun a2 =>
 (some (decide (a2 < 0))).bind fun a4 =>
 cond a4
 (some (-1))
 (seqO (whileO (fun (s0 : Int × Int) =>
    (some (decide (s0.2 < ((a_.length : Nat) : Int)))).bind fun a0 =>
    cond a0
    ((idxO a_ s0.2).bind fun a1 =>
     (F_laws_szIntS a1 s0.1).bind fun y0 =>
     (some (decide (y0 < 0))).bind fun a3 =>
     cond a3
     (some (.inr (.inr (-1))))
     ((addO s0.2 1).bind fun a5 =>
      some (.inl (y0, a5))))
    (some (.inr (.inl s0.1)))) (a2, 0)) fun (s1 : Int) =>
  some s1)

noncomputable def F_laws_szRelation (a_ : Int × Int × List (List Int)) (left_ : Int) : Option Int :=
 (F_laws_szIntSS a_.2.2 left_).bind fun y5 =>
 (some (decide (y5 < 0))).bind fun a8 =>
 cond a8
 (some (-1))
 (some y5)

noncomputable def F_laws_toIntS (a_ : List Int) : Option (List Int) :=
 (makeO ((a_.length : Nat) : Int) (0 : Int)).bind fun a2 =>
 (whileO (fun (s0 : List Int × Int) =>
   (some (decide (s0.2 < ((a_.length : Nat) : Int)))).bind fun a0 =>
   cond a0
   ((idxO a_ s0.2).bind fun a1 =>
    (setO s0.1 s0.2 a1).bind fun a3 =>
    (addO s0.2 1).bind fun a4 =>
    some (.inl (a3, a4)))
   (some (.inr s0.1))) (a2, 0)).bind fun (s1 : List Int) =>
 some s1

noncomputable def F_laws_toIntSS (a_ : List (List Int)) : Option (List (List Int)) :=
 (makeO ((a_.length : Nat) : Int) ([] : List Int)).bind fun a2 =>
 (whileO (fun (s0 : List (List Int) × Int) =>
   (some (decide (s0.2 < ((a_.length : Nat) : Int)))).bind fun a0 =>
   cond a0
   ((idxO a_ s0.2).bind fun a1 =>
    (F_laws_toIntS a1).bind fun y0 =>
    (setO s0.1 s0.2 y0).bind fun a3 =>
    (addO s0.2 1).bind fun a4 =>
    some (.inl (a3, a4)))
   (some (.inr s0.1))) (a2, 0)).bind fun (s1 : List (List Int)) =>
 some s1

noncomputable def F_laws_toRelation (a_ : Int × Int × List (List Int)) : Option (Int × Int × List (List Int)) :=
 (F_laws_toIntSS a_.2.2).bind fun y0 =>
 some (a_.1, a_.2.1, y0)

noncomputable def F_spec_l1In (n_ : Int) (lo_ : Int) (hi_ : Int) : Option Bool :=
 ((some (decide (lo_ ≤ n_))).bind fun a0 =>
  cond a0
  ((some (decide (n_ ≤ hi_))).bind fun a1 =>
   some a1)
  (some false)).bind fun (s7 : Bool) =>
 some s7

noncomputable def F_spec_fdGood (p_ : Int) : Option Bool :=
 (F_spec_l1In p_ 2 97).bind fun y1 =>
 (some (!y1)).bind fun a4 =>
 cond a4
 (some false)
 (seqO (whileO (fun (s0 : Int) =>
    (mulO s0 s0).bind fun a0 =>
    (some (decide (a0 ≤ p_))).bind fun a1 =>
    cond a1
    ((remO p_ s0).bind fun a2 =>
     (some (decide (a2 = 0))).bind fun a3 =>
     cond a3
     (some (.inr (.inr false)))
     ((addO s0 1).bind fun a5 =>
      some (.inl a5)))
    (some (.inr (.inl ())))) 2) fun (s1 : Unit) =>
  some true)

noncomputable def F_spec_l1All (l_ : List Int) (lo_ : Int) (hi_ : Int) : Option Bool :=
 seqO (forO (fun (k2 : Nat) (_ : Unit) =>
   (idxO l_ ((k2 : Nat) : Int)).bind fun a0 =>
   (F_spec_l1In a0 lo_ hi_).bind fun y0 =>
   (some (!y0)).bind fun a1 =>
   cond a1
   (some (.inr false))
   (some (.inl ()))) l_.length 0 ()) fun (_ : Unit) =>
 some true

noncomputable def F_spec_fdIn (p_ : Int) (l_ : List Int) : Option Bool :=
 (subO p_ 1).bind fun a2 =>
 (F_spec_l1All l_ 0 a2).bind fun y4 =>
 some y4

noncomputable def F_spec_spRows (p_ : Int) (size_ : Int) (rows_ : List (List Int)) : Option Bool :=
 seqO (forO (fun (k2 : Nat) (_ : Unit) =>
   (idxO rows_ ((k2 : Nat) : Int)).bind fun a0 =>
   ((some (!decide (((a0.length : Nat) : Int) = size_))).bind fun a1 =>
    cond a1
    (some true)
    ((F_spec_fdIn p_ a0).bind fun y0 =>
     (some (!y0)).bind fun a2 =>
     some a2)).bind fun (s0 : Bool) =>
   cond s0
   (some (.inr false))
   (some (.inl ()))) rows_.length 0 ()) fun (_ : Unit) =>
 some true

noncomputable def F_spec_l1Own (l_ : List Int) : Option (List Int) :=
 (appO ([] : List Int) l_).bind fun a5 =>
 some a5

noncomputable def F_spec_fdInv (p_ : Int) (a_ : Int) : Option Int :=
 seqO (whileO (fun (s0 : Int) =>
   (some (decide (s0 < p_))).bind fun a0 =>
   cond a0
   ((mulO a_ s0).bind fun a1 =>
    (remO a1 p_).bind fun a2 =>
    (some (decide (a2 = 1))).bind fun a3 =>
    cond a3
    (some (.inr (.inr s0)))
    ((addO s0 1).bind fun a4 =>
     some (.inl a4)))
   (some (.inr (.inl ())))) 1) fun (s1 : Unit) =>
 some 0

noncomputable def F_spec_fdMul (p_ : Int) (a_ : Int) (b_ : Int) : Option Int :=
 (mulO a_ b_).bind fun a1 =>
 (remO a1 p_).bind fun a3 =>
 some a3

noncomputable def F_spec_fdSub (p_ : Int) (a_ : Int) (b_ : Int) : Option Int :=
 (addO a_ p_).bind fun a1 =>
 (subO a1 b_).bind fun a3 =>
 (remO a3 p_).bind fun a5 =>
 some a5

noncomputable def F_spec_spReduce (p_ : Int) (size_ : Int) (rows_ : List (List Int)) : Option (List (List Int)) :=
 (forS (fun (k2 : Nat) (s0 : List (List Int)) =>
   (idxO rows_ ((k2 : Nat) : Int)).bind fun a0 =>
   (F_spec_l1Own a0).bind fun y0 =>
   (appO s0 [y0]).bind fun a1 =>
   some a1) rows_.length 0 []).bind fun (s1 : List (List Int)) =>
 (whileO (fun (s2 : List (List Int) × Int × Int) =>
   ((some (decide (s2.2.2 < size_))).bind fun a2 =>
    cond a2
    ((some (decide (s2.2.1 < ((s2.1.length : Nat) : Int)))).bind fun a3 =>
     some a3)
    (some false)).bind fun (s3 : Bool) =>
   cond s3
   (((whileO (fun (s4 : Int) =>
       ((some (decide (s4 < ((s2.1.length : Nat) : Int)))).bind fun a4 =>
        cond a4
        ((idxO s2.1 s4).bind fun a5 =>
         (idxO a5 s2.2.2).bind fun a6 =>
         (some (decide (a6 = 0))).bind fun a7 =>
         some a7)
        (some false)).bind fun (s5 : Bool) =>
       cond s5
       ((addO s4 1).bind fun a8 =>
        some (.inl a8))
       (some (.inr s4))) s2.2.1).bind fun (s6 : Int) =>
     (some (decide (s6 = ((s2.1.length : Nat) : Int)))).bind fun a9 =>
     cond a9
     (some (s2.1, s2.2.1))
     ((idxO s2.1 s2.2.1).bind fun a10 =>
      (idxO s2.1 s6).bind fun a11 =>
      (swapO s2.1 s2.2.1 s6).bind fun a12 =>
      (idxO a12 s2.2.1).bind fun a13 =>
      (idxO a13 s2.2.2).bind fun a14 =>
      (F_spec_fdInv p_ a14).bind fun y1 =>
      (idxO a12 s2.2.1).bind fun a15 =>
      (forS (fun (k0 : Nat) (s7 : List (List Int)) =>
        (idxO s7 s2.2.1).bind fun a16 =>
        (idxO s7 s2.2.1).bind fun a17 =>
        (idxO a17 ((k0 : Nat) : Int)).bind fun a18 =>
        (F_spec_fdMul p_ a18 y1).bind fun y2 =>
        (setO a16 ((k0 : Nat) : Int) y2).bind fun a19 =>
        (setO s7 s2.2.1 a19).bind fun a20 =>
        some a20) a15.length 0 a12).bind fun (s8 : List (List Int)) =>
      (forS (fun (k1 : Nat) (s9 : List (List Int)) =>
        (((some (decide (((k1 : Nat) : Int) = s2.2.1))).bind fun a21 =>
          cond a21
          (some true)
          ((idxO s9 ((k1 : Nat) : Int)).bind fun a22 =>
           (idxO a22 s2.2.2).bind fun a23 =>
           (some (decide (a23 = 0))).bind fun a24 =>
           some a24)).bind fun (s10 : Bool) =>
         cond s10
         (some s9)
         ((idxO s9 ((k1 : Nat) : Int)).bind fun a25 =>
          (idxO a25 s2.2.2).bind fun a26 =>
          (idxO s9 ((k1 : Nat) : Int)).bind fun a27 =>
          (forS (fun (k3 : Nat) (s11 : List (List Int)) =>
            (idxO s11 ((k1 : Nat) : Int)).bind fun a28 =>
            (idxO s11 ((k1 : Nat) : Int)).bind fun a29 =>
            (idxO s11 s2.2.1).bind fun a30 =>
            (idxO a29 ((k3 : Nat) : Int)).bind fun a31 =>
            (idxO a30 ((k3 : Nat) : Int)).bind fun a32 =>
            (F_spec_fdMul p_ a26 a32).bind fun y3 =>
            (F_spec_fdSub p_ a31 y3).bind fun y4 =>
            (setO a28 ((k3 : Nat) : Int) y4).bind fun a33 =>
            (setO s11 ((k1 : Nat) : Int) a33).bind fun a34 =>
            some a34) a27.length 0 s9).bind fun (s12 : List (List Int)) =>
          some s12)).bind fun (s13 : List (List Int)) =>
        some s13) s8.length 0 s8).bind fun (s14 : List (List Int)) =>
      (addO s2.2.1 1).bind fun a35 =>
      some (s14, a35))).bind fun (s15 : List (List Int) × Int) =>
    (addO s2.2.2 1).bind fun a36 =>
    some (.inl (s15.1, s15.2, a36)))
   (some (.inr (s2.1, s2.2.1)))) (s1, 0, 0)).bind fun (s16 : List (List Int) × Int) =>
 (sliceO s16.1 0 s16.2).bind fun a37 =>
 some a37

noncomputable def F_spec_l1Same (a_ : List Int) (b_ : List Int) : Option Bool :=
 (some (!decide (((a_.length : Nat) : Int) = ((b_.length : Nat) : Int)))).bind fun a3 =>
 cond a3
 (some false)
 (seqO (forO (fun (k6 : Nat) (_ : Unit) =>
    (idxO a_ ((k6 : Nat) : Int)).bind fun a0 =>
    (idxO b_ ((k6 : Nat) : Int)).bind fun a1 =>
    (some (!decide (a0 = a1))).bind fun a2 =>
    cond a2
    (some (.inr false))
    (some (.inl ()))) a_.length 0 ()) fun (_ : Unit) =>
  some true)

noncomputable def F_spec_spSame (a_ : List (List Int)) (b_ : List (List Int)) : Option Bool :=
 (some (!decide (((a_.length : Nat) : Int) = ((b_.length : Nat) : Int)))).bind fun a3 =>
 cond a3
 (some false)
 (seqO (forO (fun (k6 : Nat) (_ : Unit) =>
    (idxO a_ ((k6 : Nat) : Int)).bind fun a0 =>
    (idxO b_ ((k6 : Nat) : Int)).bind fun a1 =>
    (F_spec_l1Same a0 a1).bind fun y0 =>
    (some (!y0)).bind fun a2 =>
    cond a2
    (some (.inr false))
    (some (.inl ()))) a_.length 0 ()) fun (_ : Unit) =>
  some true)

noncomputable def F_spec_spGood (p_ : Int) (s_ : Int × List (List Int)) : Option Bool :=
 ((F_spec_fdGood p_).bind fun y0 =>
  cond y0
  ((F_spec_l1In s_.1 0 24).bind fun y1 =>
   cond y1
   ((some (decide (((s_.2.length : Nat) : Int) ≤ s_.1))).bind fun a0 =>
    cond a0
    ((F_spec_spRows p_ s_.1 s_.2).bind fun y2 =>
     cond y2
     ((F_spec_spReduce p_ s_.1 s_.2).bind fun y3 =>
      (F_spec_spSame y3 s_.2).bind fun y4 =>
      some y4)
     (some false))
    (some false))
   (some false))
  (some false)).bind fun (s0 : Bool) =>
 some s0

noncomputable def F_spec_rlGood (p_ : Int) (r_ : Int × Int × List (List Int)) : Option Bool :=
 ((F_spec_l1In r_.1 0 24).bind fun y0 =>
  cond y0
  ((subO 24 r_.1).bind fun a0 =>
   (F_spec_l1In r_.2.1 0 a0).bind fun y1 =>
   cond y1
   ((addO r_.1 r_.2.1).bind fun a1 =>
    (F_spec_spGood p_ (a1, r_.2.2)).bind fun y2 =>
    some y2)
   (some false))
  (some false)).bind fun (s0 : Bool) =>
 some s0

noncomputable def F_spec_spLead (v_ : List Int) : Option Int :=
 (whileO (fun (s0 : Int) =>
   ((some (decide (s0 < ((v_.length : Nat) : Int)))).bind fun a0 =>
    cond a0
    ((idxO v_ s0).bind fun a1 =>
     (some (decide (a1 = 0))).bind fun a2 =>
     some a2)
    (some false)).bind fun (s1 : Bool) =>
   cond s1
   ((addO s0 1).bind fun a3 =>
    some (.inl a3))
   (some (.inr s0))) 0).bind fun (s2 : Int) =>
 some s2

noncomputable def F_spec_spCoords (basis_ : List (List Int)) (v_ : List Int) : Option (List Int) :=
 (forS (fun (k3 : Nat) (s0 : List Int) =>
   (idxO basis_ ((k3 : Nat) : Int)).bind fun a0 =>
   (F_spec_spLead a0).bind fun y0 =>
   (idxO v_ y0).bind fun a1 =>
   (appO s0 [a1]).bind fun a2 =>
   some a2) basis_.length 0 []).bind fun (s1 : List Int) =>
 some s1

noncomputable def F_spec_spSum (p_ : Int) (size_ : Int) (rows_ : List (List Int)) (coefs_ : List Int) : Option (List Int) :=
 (makeO size_ (0 : Int)).bind fun a3 =>
 (forS (fun (k8 : Nat) (s0 : List Int) =>
   (idxO rows_ ((k8 : Nat) : Int)).bind fun a0 =>
   (forS (fun (k0 : Nat) (s1 : List Int) =>
     (idxO a0 ((k0 : Nat) : Int)).bind fun a1 =>
     (idxO s1 ((k0 : Nat) : Int)).bind fun a2 =>
     (idxO coefs_ ((k8 : Nat) : Int)).bind fun a4 =>
     (mulO a4 a1).bind fun a5 =>
     (addO a2 a5).bind fun a6 =>
     (remO a6 p_).bind fun a7 =>
     (setO s1 ((k0 : Nat) : Int) a7).bind fun a8 =>
     some a8) a0.length 0 s0).bind fun (s2 : List Int) =>
   some s2) rows_.length 0 a3).bind fun (s3 : List Int) =>
 some s3

noncomputable def F_spec_spHas (p_ : Int) (basis_ : List (List Int)) (v_ : List Int) : Option Bool :=
 (F_spec_spCoords basis_ v_).bind fun y3 =>
 (F_spec_spSum p_ ((v_.length : Nat) : Int) basis_ y3).bind fun y8 =>
 (F_spec_l1Same y8 v_).bind fun y0 =>
 some y0

noncomputable def F_spec_rlHas (p_ : Int) (r_ : Int × Int × List (List Int)) (x_ : List Int) (y_ : List Int) : Option Bool :=
 (F_spec_l1Own x_).bind fun y8 =>
 (appO y8 y_).bind fun a0 =>
 (F_spec_spHas p_ r_.2.2 a0).bind fun y0 =>
 some y0

noncomputable def F_spec_HasPair (p_ : Int) (r_ : Int × Int × List (List Int)) (x_ : List Int) (y_ : List Int) : Option (Bool × Bool) :=
 ((F_spec_rlGood p_ (r_.1, r_.2.1, r_.2.2)).bind fun y0 =>
  (some (!y0)).bind fun a0 =>
  cond a0
  (some true)
  ((some (!decide (((x_.length : Nat) : Int) = r_.1))).bind fun a1 =>
   cond a1
   (some true)
   ((some (!decide (((y_.length : Nat) : Int) = r_.2.1))).bind fun a2 =>
    cond a2
    (some true)
    ((F_spec_fdIn p_ x_).bind fun y1 =>
     (some (!y1)).bind fun a3 =>
     cond a3
     (some true)
     ((F_spec_fdIn p_ y_).bind fun y2 =>
      (some (!y2)).bind fun a4 =>
      some a4))))).bind fun (s0 : Bool) =>
 cond s0
 (some (false, false))
 ((F_spec_rlHas p_ (r_.1, r_.2.1, r_.2.2) x_ y_).bind fun y3 =>
  some (y3, true))

noncomputable def F_impl_isField (p_ : Int) : Option Bool :=
 ((some (decide (p_ < 2))).bind fun a0 =>
  cond a0
  (some true)
  ((some (decide ((97 : Int) < p_))).bind fun a1 =>
   some a1)).bind fun (s8 : Bool) =>
 cond s8
 (some false)
 ((cI 4).bind fun _ =>
  seqO (forO (fun (k0 : Nat) (_ : Unit) =>
    (idxO [2, 3, 5, 7] ((k0 : Nat) : Int)).bind fun a2 =>
    ((remO p_ a2).bind fun a3 =>
     (some (decide (a3 = 0))).bind fun a4 =>
     cond a4
     ((some (!decide (p_ = a2))).bind fun a5 =>
      some a5)
     (some false)).bind fun (s0 : Bool) =>
    cond s0
    (some (.inr false))
    (some (.inl ()))) ((4 : Int).toNat) 0 ()) fun (_ : Unit) =>
  some true)

noncomputable def F_impl_within (n_ : Int) (low_ : Int) (high_ : Int) : Option Bool :=
 ((some (decide (low_ ≤ n_))).bind fun a0 =>
  cond a0
  ((some (decide (n_ ≤ high_))).bind fun a1 =>
   some a1)
  (some false)).bind fun (s7 : Bool) =>
 some s7

noncomputable def F_impl_fits (left_ : Int) (right_ : Int) : Option Bool :=
 ((F_impl_within left_ 0 24).bind fun y0 =>
  cond y0
  ((F_impl_within right_ 0 24).bind fun y1 =>
   cond y1
   ((addO left_ right_).bind fun a0 =>
    (some (decide (a0 ≤ 24))).bind fun a1 =>
    some a1)
   (some false))
  (some false)).bind fun (s0 : Bool) =>
 some s0

noncomputable def F_impl_isElement (p_ : Int) (a_ : Int) : Option Bool :=
 ((some (decide ((0 : Int) ≤ a_))).bind fun a0 =>
  cond a0
  ((some (decide (a_ < p_))).bind fun a1 =>
   some a1)
  (some false)).bind fun (s7 : Bool) =>
 some s7

noncomputable def F_impl_isVector (p_ : Int) (v_ : List Int) (n_ : Int) : Option Bool :=
 (some (!decide (((v_.length : Nat) : Int) = n_))).bind fun a2 =>
 cond a2
 (some false)
 (seqO (forO (fun (k5 : Nat) (_ : Unit) =>
    (idxO v_ ((k5 : Nat) : Int)).bind fun a0 =>
    (F_impl_isElement p_ a0).bind fun y0 =>
    (some (!y0)).bind fun a1 =>
    cond a1
    (some (.inr false))
    (some (.inl ()))) v_.length 0 ()) fun (_ : Unit) =>
  some true)

noncomputable def F_impl_areVectors (p_ : Int) (rows_ : List (List Int)) (n_ : Int) : Option Bool :=
 seqO (forO (fun (k2 : Nat) (_ : Unit) =>
   (idxO rows_ ((k2 : Nat) : Int)).bind fun a0 =>
   (F_impl_isVector p_ a0 n_).bind fun y0 =>
   (some (!y0)).bind fun a1 =>
   cond a1
   (some (.inr false))
   (some (.inl ()))) rows_.length 0 ()) fun (_ : Unit) =>
 some true

noncomputable def F_impl_clone (list_ : List Int) : Option (List Int) :=
 (appO ([] : List Int) list_).bind fun a5 =>
 some a5

noncomputable def F_impl_clones (list_ : List (List Int)) : Option (List (List Int)) :=
 (makeCO 0 ((list_.length : Nat) : Int) ([] : List Int)).bind fun a2 =>
 (forS (fun (k7 : Nat) (s0 : List (List Int)) =>
   (idxO list_ ((k7 : Nat) : Int)).bind fun a0 =>
   (F_impl_clone a0).bind fun y0 =>
   (appO s0 [y0]).bind fun a1 =>
   some a1) list_.length 0 a2).bind fun (s1 : List (List Int)) =>
 some s1

noncomputable def F_impl_bit (yes_ : Bool) : Option Int :=
 cond yes_
 (some 1)
 (some 0)

noncomputable def F_impl_power (p_ : Int) (a_ : Int) (n_ : Int) : Option Int :=
 (remO 1 p_).bind fun a1 =>
 (whileO (fun (s0 : Int × Int × Int) =>
   (some (decide ((0 : Int) < s0.2.1))).bind fun a0 =>
   cond a0
   (((remO s0.2.1 2).bind fun a2 =>
     (some (decide (a2 = 1))).bind fun a3 =>
     cond a3
     ((mulO s0.2.2 s0.1).bind fun a4 =>
      (remO a4 p_).bind fun a5 =>
      some a5)
     (some s0.2.2)).bind fun (s1 : Int) =>
    (mulO s0.1 s0.1).bind fun a6 =>
    (remO a6 p_).bind fun a7 =>
    (quoO s0.2.1 2).bind fun a8 =>
    some (.inl (a7, a8, s1)))
   (some (.inr s0.2.2))) (a_, n_, a1)).bind fun (s2 : Int) =>
 some s2

noncomputable def F_impl_inverse (p_ : Int) (a_ : Int) : Option Int :=
 (subO p_ 2).bind fun a1 =>
 (some (decide (p_ = 2))).bind fun a3 =>
 (F_impl_bit a3).bind fun y5 =>
 (addO a1 y5).bind fun a8 =>
 (F_impl_power p_ a_ a8).bind fun y0 =>
 some y0

noncomputable def F_impl_mod (p_ : Int) (a_ : Int) : Option Int :=
 (remO a_ p_).bind fun a1 =>
 (some (decide (a1 < 0))).bind fun a3 =>
 cond a3
 ((addO a1 p_).bind fun a7 =>
  some a7)
 (some a1)

noncomputable def F_impl_addTimes (p_ : Int) (v_ : List Int) (by_ : Int) (w_ : List Int) : Option (List Int) :=
 (forS (fun (k3 : Nat) (s0 : List Int) =>
   (idxO w_ ((k3 : Nat) : Int)).bind fun a0 =>
   (idxO s0 ((k3 : Nat) : Int)).bind fun a1 =>
   (mulO by_ a0).bind fun a2 =>
   (addO a1 a2).bind fun a3 =>
   (F_impl_mod p_ a3).bind fun y0 =>
   (setO s0 ((k3 : Nat) : Int) y0).bind fun a4 =>
   some a4) w_.length 0 v_).bind fun (s1 : List Int) =>
 some s1

noncomputable def F_impl_rowOperation_apply (o_ : Int × Int × Int × Int) (p_ : Int) (rows_ : List (List Int)) : Option (List (List Int)) :=
 (some (decide (o_.1 = 0))).bind fun a5 =>
 cond a5
 ((idxO rows_ o_.2.2.1).bind fun a0 =>
  (idxO rows_ o_.2.1).bind fun a1 =>
  (swapO rows_ o_.2.1 o_.2.2.1).bind fun a2 =>
  some a2)
 ((some (decide (o_.1 = 1))).bind fun a8 =>
  cond a8
  ((F_impl_inverse p_ o_.2.2.2).bind fun y0 =>
   (idxO rows_ o_.2.1).bind fun a3 =>
   (forS (fun (k0 : Nat) (s0 : List Int) =>
     (idxO s0 ((k0 : Nat) : Int)).bind fun a4 =>
     (mulO a4 y0).bind fun a6 =>
     (remO a6 p_).bind fun a7 =>
     (setO s0 ((k0 : Nat) : Int) a7).bind fun a9 =>
     some a9) a3.length 0 a3).bind fun (s1 : List Int) =>
   (setO rows_ o_.2.1 s1).bind fun a10 =>
   some a10)
  ((some (decide (o_.1 = 2))).bind fun a12 =>
   cond a12
   ((idxO rows_ o_.2.1).bind fun a13 =>
    (negO o_.2.2.2).bind fun a14 =>
    (idxO rows_ o_.2.2.1).bind fun a15 =>
    (F_impl_addTimes p_ a13 a14 a15).bind fun y1 =>
    (neqO o_.2.1 o_.2.2.1).bind fun _ =>
    (setO rows_ o_.2.1 y1).bind fun a16 =>
    some a16)
   (some rows_)))

noncomputable def F_impl_reduction_1 (o_ : Int × Int × Int × Int) (c0_ : Int) (c1_ : List (List Int)) (c2_ : List (List Int)) : Option (List (List Int) × List (List Int)) :=
 (some (decide (([o_.1, o_.2.1, o_.2.2.1, o_.2.2.2] : List Int) = [0, o_.2.1, o_.2.1, 0]))).bind fun a9 =>
 cond a9
 (some (c1_, c2_))
 ((F_impl_rowOperation_apply (o_.1, o_.2.1, o_.2.2.1, o_.2.2.2) c0_ c1_).bind fun y0 =>
  (F_impl_rowOperation_apply (o_.1, o_.2.1, o_.2.2.1, o_.2.2.2) c0_ c2_).bind fun y1 =>
  some (y0, y1))

noncomputable def F_impl_reduction (p_ : Int) (rows_ : List (List Int)) (n_ : Int) (also_ : List (List Int)) : Option (List (List Int) × List (List Int) × Int) :=
 (whileO (fun (s0 : List (List Int) × List (List Int) × Int × Int) =>
   ((some (decide (s0.2.2.1 < n_))).bind fun a0 =>
    cond a0
    ((some (decide (s0.2.2.2 < ((s0.1.length : Nat) : Int)))).bind fun a1 =>
     some a1)
    (some false)).bind fun (s1 : Bool) =>
   cond s1
   (((whileO (fun (s2 : Int) =>
       ((some (decide (s2 < ((s0.1.length : Nat) : Int)))).bind fun a2 =>
        cond a2
        ((idxO s0.1 s2).bind fun a3 =>
         (idxO a3 s0.2.2.1).bind fun a4 =>
         (some (decide (a4 = 0))).bind fun a5 =>
         some a5)
        (some false)).bind fun (s3 : Bool) =>
       cond s3
       ((addO s2 1).bind fun a6 =>
        some (.inl a6))
       (some (.inr s2))) s0.2.2.2).bind fun (s4 : Int) =>
     (some (decide (s4 = ((s0.1.length : Nat) : Int)))).bind fun a7 =>
     cond a7
     (some (s0.1, s0.2.1, s0.2.2.2))
     ((F_impl_reduction_1 (0, s0.2.2.2, s4, 0) p_ s0.1 s0.2.1).bind fun y0 =>
      (idxO y0.1 s0.2.2.2).bind fun a8 =>
      (idxO a8 s0.2.2.1).bind fun a9 =>
      (F_impl_reduction_1 (1, s0.2.2.2, 0, a9) p_ y0.1 y0.2).bind fun y1 =>
      (forS (fun (k0 : Nat) (s5 : List (List Int) × List (List Int)) =>
        ((some (!decide (((k0 : Nat) : Int) = s0.2.2.2))).bind fun a10 =>
         cond a10
         ((idxO s5.1 ((k0 : Nat) : Int)).bind fun a11 =>
          (idxO a11 s0.2.2.1).bind fun a12 =>
          (some (!decide (a12 = 0))).bind fun a13 =>
          some a13)
         (some false)).bind fun (s6 : Bool) =>
        cond s6
        ((idxO s5.1 ((k0 : Nat) : Int)).bind fun a14 =>
         (idxO a14 s0.2.2.1).bind fun a15 =>
         (F_impl_reduction_1 (2, ((k0 : Nat) : Int), s0.2.2.2, a15) p_ s5.1 s5.2).bind fun y2 =>
         some (y2.1, y2.2))
        (some (s5.1, s5.2))) y1.1.length 0 (y1.1, y1.2)).bind fun (s7 : List (List Int) × List (List Int)) =>
      (addO s0.2.2.2 1).bind fun a16 =>
      some (s7.1, s7.2, a16))).bind fun (s8 : List (List Int) × List (List Int) × Int) =>
    (addO s0.2.2.1 1).bind fun a17 =>
    some (.inl (s8.1, s8.2.1, a17, s8.2.2)))
   (some (.inr (s0.1, s0.2.1, s0.2.2.2)))) (rows_, also_, 0, 0)).bind fun (s9 : List (List Int) × List (List Int) × Int) =>
 some (s9.1, s9.2.1, s9.2.2)

noncomputable def F_impl_reduced (p_ : Int) (rows_ : List (List Int)) (n_ : Int) : Option (List (List Int)) :=
 (F_impl_clones rows_).bind fun y2 =>
 (makeO ((y2.length : Nat) : Int) ([] : List Int)).bind fun a7 =>
 (F_impl_reduction p_ y2 n_ a7).bind fun y0 =>
 (sliceO y0.1 0 y0.2.2).bind fun a0 =>
 some a0

noncomputable def F_impl_isReduced (p_ : Int) (rows_ : List (List Int)) (n_ : Int) : Option Bool :=
 ((some (decide (n_ < ((rows_.length : Nat) : Int)))).bind fun a0 =>
  cond a0
  (some true)
  ((F_impl_areVectors p_ rows_ n_).bind fun y0 =>
   (some (!y0)).bind fun a1 =>
   some a1)).bind fun (s0 : Bool) =>
 cond s0
 (some false)
 ((F_impl_reduced p_ rows_ n_).bind fun y1 =>
  seqO (forO (fun (k0 : Nat) (_ : Unit) =>
    (idxO y1 ((k0 : Nat) : Int)).bind fun a2 =>
    (idxO rows_ ((k0 : Nat) : Int)).bind fun a3 =>
    (F_impl_pad a2).bind fun y2 =>
    (F_impl_pad a3).bind fun y3 =>
    (neqArO 48 y2 y3).bind fun a4 =>
    cond a4
    (some (.inr false))
    (some (.inl ()))) y1.length 0 ()) fun (_ : Unit) =>
  (F_impl_reduced p_ rows_ n_).bind fun y4 =>
  (some (decide (((y4.length : Nat) : Int) = ((rows_.length : Nat) : Int)))).bind fun a5 =>
  some a5)

noncomputable def F_impl_isRelation (p_ : Int) (r_ : Int × Int × List (List Int)) : Option Bool :=
 ((F_impl_isField p_).bind fun y0 =>
  cond y0
  ((F_impl_fits r_.1 r_.2.1).bind fun y1 =>
   cond y1
   ((addO r_.1 r_.2.1).bind fun a0 =>
    (F_impl_isReduced p_ r_.2.2 a0).bind fun y2 =>
    some y2)
   (some false))
  (some false)).bind fun (s0 : Bool) =>
 some s0

noncomputable def F_impl_joined (lists_ : List (List Int)) : Option (List Int) :=
 (forS (fun (k5 : Nat) (s0 : List Int) =>
   (idxO lists_ ((k5 : Nat) : Int)).bind fun a0 =>
   (appO s0 a0).bind fun a1 =>
   some a1) lists_.length 0 ([] : List Int)).bind fun (s1 : List Int) =>
 some s1

noncomputable def F_impl_lead (v_ : List Int) : Option Int :=
 seqO (forO (fun (k2 : Nat) (_ : Unit) =>
   (idxO v_ ((k2 : Nat) : Int)).bind fun a0 =>
   (some (!decide (a0 = 0))).bind fun a1 =>
   cond a1
   (some (.inr ((k2 : Nat) : Int)))
   (some (.inl ()))) v_.length 0 ()) fun (_ : Unit) =>
 some ((v_.length : Nat) : Int)

noncomputable def F_impl_isZero (v_ : List Int) : Option Bool :=
 (F_impl_lead v_).bind fun y2 =>
 (some (decide (y2 = ((v_.length : Nat) : Int)))).bind fun a5 =>
 some a5

noncomputable def F_impl_coordinates (p_ : Int) (basis_ : List (List Int)) (v_ : List Int) : Option (List Int × Bool) :=
 (F_impl_clone v_).bind fun y3 =>
 (forS (fun (k0 : Nat) (s0 : List Int × List Int) =>
   (idxO basis_ ((k0 : Nat) : Int)).bind fun a0 =>
   (F_impl_lead a0).bind fun y0 =>
   (idxO s0.1 y0).bind fun a1 =>
   (appO s0.2 [a1]).bind fun a2 =>
   (negO a1).bind fun a3 =>
   (F_impl_addTimes p_ s0.1 a3 a0).bind fun y1 =>
   some (y1, a2)) basis_.length 0 (y3, ([] : List Int))).bind fun (s1 : List Int × List Int) =>
 (F_impl_isZero s1.1).bind fun y2 =>
 some (s1.2, y2)

noncomputable def F_impl_hasPair (p_ : Int) (r_ : Int × Int × List (List Int)) (pair_ : List Int) : Option Bool :=
 (F_impl_coordinates p_ r_.2.2 pair_).bind fun y6 =>
 some y6.2

noncomputable def F_impl_HasPair (p_ : Int) (r_ : Int × Int × List (List Int)) (x_ : List Int) (y_ : List Int) : Option (Bool × Bool) :=
 ((F_impl_isRelation p_ (r_.1, r_.2.1, r_.2.2)).bind fun y0 =>
  (some (!y0)).bind fun a0 =>
  cond a0
  (some true)
  ((F_impl_isVector p_ x_ r_.1).bind fun y1 =>
   (some (!y1)).bind fun a1 =>
   cond a1
   (some true)
   ((F_impl_isVector p_ y_ r_.2.1).bind fun y2 =>
    (some (!y2)).bind fun a2 =>
    some a2))).bind fun (s0 : Bool) =>
 cond s0
 (some (false, false))
 ((F_impl_joined [x_, y_]).bind fun y3 =>
  (F_impl_hasPair p_ (r_.1, r_.2.1, r_.2.2) y3).bind fun y4 =>
  some (y4, true))

noncomputable def F_laws_eqIntS (a_ : List Int) (b_ : List Int) : Option Bool :=
 (some (!decide (((a_.length : Nat) : Int) = ((b_.length : Nat) : Int)))).bind fun a3 =>
 cond a3
 (some false)
 (seqO (whileO (fun (s0 : Int) =>
    (some (decide (s0 < ((a_.length : Nat) : Int)))).bind fun a0 =>
    cond a0
    ((idxO a_ s0).bind fun a1 =>
     (idxO b_ s0).bind fun a2 =>
     (some (!decide (a1 = a2))).bind fun a4 =>
     cond a4
     (some (.inr (.inr false)))
     ((addO s0 1).bind fun a5 =>
      some (.inl a5)))
    (some (.inr (.inl ())))) 0) fun (s1 : Unit) =>
  some true)

noncomputable def F_laws_eqIntSS (a_ : List (List Int)) (b_ : List (List Int)) : Option Bool :=
 (some (!decide (((a_.length : Nat) : Int) = ((b_.length : Nat) : Int)))).bind fun a3 =>
 cond a3
 (some false)
 (seqO (whileO (fun (s0 : Int) =>
    (some (decide (s0 < ((a_.length : Nat) : Int)))).bind fun a0 =>
    cond a0
    ((idxO a_ s0).bind fun a1 =>
     (idxO b_ s0).bind fun a2 =>
     (F_laws_eqIntS a1 a2).bind fun y0 =>
     (some (!y0)).bind fun a4 =>
     cond a4
     (some (.inr (.inr false)))
     ((addO s0 1).bind fun a5 =>
      some (.inl a5)))
    (some (.inr (.inl ())))) 0) fun (s1 : Unit) =>
  some true)

noncomputable def F_laws_eqRelation (a_ : Int × Int × List (List Int)) (b_ : Int × Int × List (List Int)) : Option Bool :=
 (some (!decide (a_.1 = b_.1))).bind fun a9 =>
 cond a9
 (some false)
 ((some (!decide (a_.2.1 = b_.2.1))).bind fun a0 =>
  cond a0
  (some false)
  ((F_laws_eqIntSS a_.2.2 b_.2.2).bind fun y0 =>
   (some (!y0)).bind fun a1 =>
   cond a1
   (some false)
   (some true)))

noncomputable def F_laws_FnExactHasPair (aP_ : Int) (aR_ : Int × Int × List (List Int)) (aX_ : List Int) (aY_ : List Int) : Option Bool :=
 (some (decide ((1048576 : Int) < ((aX_.length : Nat) : Int)))).bind fun a8 =>
 cond a8
 (some true)
 ((some (decide ((1048576 : Int) < ((aY_.length : Nat) : Int)))).bind fun a0 =>
  cond a0
  (some true)
  ((F_laws_szRelation (aR_.1, aR_.2.1, aR_.2.2) 1048576).bind fun y0 =>
   (some (decide (y0 < 0))).bind fun a1 =>
   cond a1
   (some true)
   ((F_laws_toRelation (aR_.1, aR_.2.1, aR_.2.2)).bind fun y1 =>
    (F_laws_toIntS aX_).bind fun y2 =>
    (F_laws_toIntS aY_).bind fun y3 =>
    (F_spec_HasPair aP_ (y1.1, y1.2.1, y1.2.2) y2 y3).bind fun y4 =>
    (F_laws_toRelation (aR_.1, aR_.2.1, aR_.2.2)).bind fun y5 =>
    (F_laws_toIntS aX_).bind fun y6 =>
    (F_laws_toIntS aY_).bind fun y7 =>
    (F_impl_HasPair aP_ (y5.1, y5.2.1, y5.2.2) y6 y7).bind fun y8 =>
    ((some (!decide (y8.1 = y4.1))).bind fun a2 =>
     cond a2
     (some true)
     ((some (!decide (y8.2 = y4.2))).bind fun a3 =>
      some a3)).bind fun (s0 : Bool) =>
    cond s0
    (some false)
    ((F_laws_toRelation (aR_.1, aR_.2.1, aR_.2.2)).bind fun y9 =>
     (F_laws_eqRelation (y5.1, y5.2.1, y5.2.2) (y9.1, y9.2.1, y9.2.2)).bind fun y10 =>
     (some (!y10)).bind fun a4 =>
     cond a4
     (some false)
     ((F_laws_toIntS aX_).bind fun y11 =>
      (F_laws_eqIntS y6 y11).bind fun y12 =>
      (some (!y12)).bind fun a5 =>
      cond a5
      (some false)
      ((F_laws_toIntS aY_).bind fun y13 =>
       (F_laws_eqIntS y7 y13).bind fun y15 =>
       (some (!y15)).bind fun a6 =>
       cond a6
       (some false)
       (some true)))))))
end Go.Proofs.YtnlbhdepagkjgaaDoor
