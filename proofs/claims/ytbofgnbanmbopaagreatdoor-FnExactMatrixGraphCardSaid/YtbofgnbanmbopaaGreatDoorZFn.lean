/-
 Partial functions, printed by a program (wip/y/gen.py): what each function of Go computes, over plain data. No program in sight. No condition.
-/
import Derived.Test.YtbofgnbanmbopaaGreatDoorZF
namespace Go.Proofs.YtbofgnbanmbopaaGreatDoor
set_option linter.unusedVariables false

noncomputable def F_laws_szIntS (a_ : List Int) (left_ : Int) : Option Int :=
 (subO left_ ((a_.length : Nat) : Int)).bind fun a2 =>
 (some (decide (a2 < 0))).bind fun a4 =>
 cond a4
 (some (-1))
 (some a2)

noncomputable def F_laws_szIntSS (a_ : List (List Int)) (left_ : Int) : Option Int :=
 (subO left_ ((a_.length : Nat) : Int)).bind fun a2 =>
 (some (decide (a2 < 0))).bind fun a4 =>
 cond a4
 (some (-1))
 (seqO (whileO (fun (s0 : Int × Int) =>
    (some (decide (s0.2 < ((a_.length : Nat) : Int)))).bind fun a0 =>
    cond a0
    ((idxO a_ s0.2).bind fun a1 =>
     (F_laws_szIntS a1 s0.1).bind fun y0 =>
     (some (decide (y0 < 0))).bind fun a3 =>
     cond a3
     (some (.inr (.inr (-1))))
     ((addO s0.2 1).bind fun a5 =>
      some (.inl (y0, a5))))
    (some (.inr (.inl s0.1)))) (a2, 0)) fun (s1 : Int) =>
  some s1)

noncomputable def F_laws_szMatrix (a_ : Int × List (List Int)) (left_ : Int) : Option Int :=
 (F_laws_szIntSS a_.2 left_).bind fun y5 =>
 (some (decide (y5 < 0))).bind fun a8 =>
 cond a8
 (some (-1))
 (some y5)

noncomputable def F_laws_toIntS (a_ : List Int) : Option (List Int) :=
 (makeO ((a_.length : Nat) : Int) (0 : Int)).bind fun a2 =>
 (whileO (fun (s0 : List Int × Int) =>
   (some (decide (s0.2 < ((a_.length : Nat) : Int)))).bind fun a0 =>
   cond a0
   ((idxO a_ s0.2).bind fun a1 =>
    (setO s0.1 s0.2 a1).bind fun a3 =>
    (addO s0.2 1).bind fun a4 =>
    some (.inl (a3, a4)))
   (some (.inr s0.1))) (a2, 0)).bind fun (s1 : List Int) =>
 some s1

noncomputable def F_laws_toIntSS (a_ : List (List Int)) : Option (List (List Int)) :=
 (makeO ((a_.length : Nat) : Int) ([] : List Int)).bind fun a2 =>
 (whileO (fun (s0 : List (List Int) × Int) =>
   (some (decide (s0.2 < ((a_.length : Nat) : Int)))).bind fun a0 =>
   cond a0
   ((idxO a_ s0.2).bind fun a1 =>
    (F_laws_toIntS a1).bind fun y0 =>
    (setO s0.1 s0.2 y0).bind fun a3 =>
    (addO s0.2 1).bind fun a4 =>
    some (.inl (a3, a4)))
   (some (.inr s0.1))) (a2, 0)).bind fun (s1 : List (List Int)) =>
 some s1

noncomputable def F_laws_toMatrix (a_ : Int × List (List Int)) : Option (Int × List (List Int)) :=
 (F_laws_toIntSS a_.2).bind fun y0 =>
 some (a_.1, y0)

noncomputable def F_spec_l1In (n_ : Int) (lo_ : Int) (hi_ : Int) : Option Bool :=
 ((some (decide (lo_ ≤ n_))).bind fun a0 =>
  cond a0
  ((some (decide (n_ ≤ hi_))).bind fun a1 =>
   some a1)
  (some false)).bind fun (s7 : Bool) =>
 some s7

noncomputable def F_spec_fdGood (p_ : Int) : Option Bool :=
 (F_spec_l1In p_ 2 97).bind fun y1 =>
 (some (!y1)).bind fun a4 =>
 cond a4
 (some false)
 (seqO (whileO (fun (s0 : Int) =>
    (mulO s0 s0).bind fun a0 =>
    (some (decide (a0 ≤ p_))).bind fun a1 =>
    cond a1
    ((remO p_ s0).bind fun a2 =>
     (some (decide (a2 = 0))).bind fun a3 =>
     cond a3
     (some (.inr (.inr false)))
     ((addO s0 1).bind fun a5 =>
      some (.inl a5)))
    (some (.inr (.inl ())))) 2) fun (s1 : Unit) =>
  some true)

noncomputable def F_spec_l1All (l_ : List Int) (lo_ : Int) (hi_ : Int) : Option Bool :=
 seqO (forO (fun (k2 : Nat) (_ : Unit) =>
   (idxO l_ ((k2 : Nat) : Int)).bind fun a0 =>
   (F_spec_l1In a0 lo_ hi_).bind fun y0 =>
   (some (!y0)).bind fun a1 =>
   cond a1
   (some (.inr false))
   (some (.inl ()))) l_.length 0 ()) fun (_ : Unit) =>
 some true

noncomputable def F_spec_fdIn (p_ : Int) (l_ : List Int) : Option Bool :=
 (subO p_ 1).bind fun a2 =>
 (F_spec_l1All l_ 0 a2).bind fun y4 =>
 some y4

noncomputable def F_spec_mxGood (p_ : Int) (m_ : Int × List (List Int)) : Option Bool :=
 ((F_spec_fdGood p_).bind fun y0 =>
  (some (!y0)).bind fun a0 =>
  cond a0
  (some true)
  ((F_spec_l1In m_.1 0 24).bind fun y1 =>
   (some (!y1)).bind fun a1 =>
   cond a1
   (some true)
   ((some (decide ((24 : Int) < ((m_.2.length : Nat) : Int)))).bind fun a2 =>
    some a2))).bind fun (s0 : Bool) =>
 cond s0
 (some false)
 (seqO (forO (fun (k0 : Nat) (_ : Unit) =>
    (idxO m_.2 ((k0 : Nat) : Int)).bind fun a3 =>
    ((some (!decide (((a3.length : Nat) : Int) = m_.1))).bind fun a4 =>
     cond a4
     (some true)
     ((F_spec_fdIn p_ a3).bind fun y2 =>
      (some (!y2)).bind fun a5 =>
      some a5)).bind fun (s1 : Bool) =>
    cond s1
    (some (.inr false))
    (some (.inl ()))) m_.2.length 0 ()) fun (_ : Unit) =>
  some true)

noncomputable def F_spec_axMake_wire (x_ : (Int × (List (Int × Int × List Int × List Int)) × List Int × List Int)) : Option ((Int × (List (Int × Int × List Int × List Int)) × List Int × List Int) × Int) :=
 (addO x_.1 1).bind fun a2 =>
 (subO a2 1).bind fun a5 =>
 some ((a2, x_.2.1, x_.2.2.1, x_.2.2.2), a5)

noncomputable def F_spec_axMake_inputs (x_ : (Int × (List (Int × Int × List Int × List Int)) × List Int × List Int)) (n_ : Int) : Option (Int × (List (Int × Int × List Int × List Int)) × List Int × List Int) :=
 whileO (fun (s0 : Int × List Int × Int) =>
  (some (decide ((0 : Int) < s0.2.2))).bind fun a0 =>
  cond a0
  ((F_spec_axMake_wire (s0.1, x_.2.1, s0.2.1, x_.2.2.2)).bind fun y0 =>
   (appO s0.2.1 [y0.2]).bind fun a1 =>
   (subO s0.2.2 1).bind fun a2 =>
   some (.inl (y0.1.1, a1, a2)))
  (some (.inr (s0.1, x_.2.1, s0.2.1, x_.2.2.2)))) (x_.1, x_.2.2.1, n_)

noncomputable def F_spec_axMake_edge (x_ : (Int × (List (Int × Int × List Int × List Int)) × List Int × List Int)) (kind_ : Int) (value_ : Int) (in_ : List Int) (out_ : List Int) : Option (Int × (List (Int × Int × List Int × List Int)) × List Int × List Int) :=
 (appO x_.2.1 [(kind_, value_, in_, out_)]).bind fun a0 =>
 some (x_.1, a0, x_.2.2.1, x_.2.2.2)

noncomputable def F_spec_axMake_fan_n : Nat → (Int × (List (Int × Int × List Int × List Int)) × List Int × List Int) → Int → Int → Option ((Int × (List (Int × Int × List Int × List Int)) × List Int × List Int) × List Int)
 | 0, _, _, _ => none
 | fuel + 1, x_, w_, n_ =>
  (some (decide (n_ = 0))).bind fun a3 =>
  cond a3
  ((F_spec_axMake_edge (x_.1, x_.2.1, x_.2.2.1, x_.2.2.2) 4 0 [w_] []).bind fun y0 =>
    some ((y0.1, y0.2.1, x_.2.2.1, x_.2.2.2), []))
  ((some (decide (n_ = 1))).bind fun a6 =>
    cond a6
    (some ((x_.1, x_.2.1, x_.2.2.1, x_.2.2.2), [w_]))
    ((F_spec_axMake_wire (x_.1, x_.2.1, x_.2.2.1, x_.2.2.2)).bind fun y9 =>
      (F_spec_axMake_wire (y9.1.1, x_.2.1, x_.2.2.1, x_.2.2.2)).bind fun y1 =>
      (F_spec_axMake_edge (y1.1.1, x_.2.1, x_.2.2.1, x_.2.2.2) 3 0 [w_] [y9.2, y1.2]).bind fun y2 =>
      (subO n_ 1).bind fun a0 =>
      (F_spec_axMake_fan_n fuel (y2.1, y2.2.1, x_.2.2.1, x_.2.2.2) y1.2 a0).bind fun y3 =>
      (appO [y9.2] y3.2).bind fun a1 =>
      some ((y3.1.1, y3.1.2.1, x_.2.2.1, x_.2.2.2), a1)))
noncomputable def F_spec_axMake_fan (x_ : (Int × (List (Int × Int × List Int × List Int)) × List Int × List Int)) (w_ : Int) (n_ : Int) : Option ((Int × (List (Int × Int × List Int × List Int)) × List Int × List Int) × List Int) := F_spec_axMake_fan_n 1000000 x_ w_ n_

noncomputable def F_spec_axMake_sum_n : Nat → (Int × (List (Int × Int × List Int × List Int)) × List Int × List Int) → (List Int) → Option ((Int × (List (Int × Int × List Int × List Int)) × List Int × List Int) × Int)
 | 0, _, _ => none
 | fuel + 1, x_, l_ =>
  (some (decide (((l_.length : Nat) : Int) = 1))).bind fun a4 =>
  cond a4
  ((idxO l_ 0).bind fun a0 =>
    some ((x_.1, x_.2.1, x_.2.2.1, x_.2.2.2), a0))
  ((some (decide (((l_.length : Nat) : Int) = 0))).bind fun a7 =>
    cond a7
    ((F_spec_axMake_wire (x_.1, x_.2.1, x_.2.2.1, x_.2.2.2)).bind fun y0 =>
      (F_spec_axMake_edge (y0.1.1, x_.2.1, x_.2.2.1, x_.2.2.2) 6 0 [] [y0.2]).bind fun y1 =>
      some ((y1.1, y1.2.1, x_.2.2.1, x_.2.2.2), y0.2))
    ((subO ((l_.length : Nat) : Int) 1).bind fun a1 =>
      (sliceO l_ 0 a1).bind fun a2 =>
      (F_spec_axMake_sum_n fuel (x_.1, x_.2.1, x_.2.2.1, x_.2.2.2) a2).bind fun y2 =>
      (F_spec_axMake_wire (y2.1.1, y2.1.2.1, x_.2.2.1, x_.2.2.2)).bind fun y3 =>
      (idxO l_ a1).bind fun a3 =>
      (F_spec_axMake_edge (y3.1.1, y2.1.2.1, x_.2.2.1, x_.2.2.2) 5 0 [y2.2, a3] [y3.2]).bind fun y4 =>
      some ((y4.1, y4.2.1, x_.2.2.1, x_.2.2.2), y3.2)))
noncomputable def F_spec_axMake_sum (x_ : (Int × (List (Int × Int × List Int × List Int)) × List Int × List Int)) (l_ : List Int) : Option ((Int × (List (Int × Int × List Int × List Int)) × List Int × List Int) × Int) := F_spec_axMake_sum_n 1000000 x_ l_

noncomputable def F_spec_axMake_matrix (x_ : (Int × (List (Int × Int × List Int × List Int)) × List Int × List Int)) (in_ : List Int) (rows_ : List (List Int)) (cols_ : Int) : Option ((Int × (List (Int × Int × List Int × List Int)) × List Int × List Int) × List Int) :=
 (makeO cols_ ([] : List Int)).bind fun a5 =>
 (forS (fun (k0 : Nat) (s0 : Int × (List (Int × Int × List Int × List Int)) × List (List Int)) =>
   (idxO rows_ ((k0 : Nat) : Int)).bind fun a0 =>
   (forS (fun (k1 : Nat) (s1 : List Int) =>
     (idxO a0 ((k1 : Nat) : Int)).bind fun a1 =>
     (some (!decide (a1 = 0))).bind fun a2 =>
     cond a2
     ((appO s1 [((k1 : Nat) : Int)]).bind fun a3 =>
      some a3)
     (some s1)) a0.length 0 []).bind fun (s2 : List Int) =>
   (idxO in_ ((k0 : Nat) : Int)).bind fun a4 =>
   (F_spec_axMake_fan (s0.1, s0.2.1, x_.2.2.1, x_.2.2.2) a4 ((s2.length : Nat) : Int)).bind fun y0 =>
   (forS (fun (k2 : Nat) (s3 : Int × (List (Int × Int × List Int × List Int)) × List (List Int)) =>
     (idxO y0.2 ((k2 : Nat) : Int)).bind fun a6 =>
     (idxO s2 ((k2 : Nat) : Int)).bind fun a7 =>
     ((idxO a0 a7).bind fun a8 =>
      (some (!decide (a8 = 1))).bind fun a9 =>
      cond a9
      ((F_spec_axMake_wire (s3.1, s3.2.1, x_.2.2.1, x_.2.2.2)).bind fun y1 =>
       (idxO a0 a7).bind fun a10 =>
       (F_spec_axMake_edge (y1.1.1, s3.2.1, x_.2.2.1, x_.2.2.2) 7 a10 [a6] [y1.2]).bind fun y2 =>
       some (y2.1, y2.2.1, y1.2))
      (some (s3.1, s3.2.1, a6))).bind fun (s4 : Int × (List (Int × Int × List Int × List Int)) × Int) =>
     (idxO s3.2.2 a7).bind fun a11 =>
     (appO a11 [s4.2.2]).bind fun a12 =>
     (setO s3.2.2 a7 a12).bind fun a13 =>
     some (s4.1, s4.2.1, a13)) y0.2.length 0 (y0.1.1, y0.1.2.1, s0.2.2)).bind fun (s5 : Int × (List (Int × Int × List Int × List Int)) × List (List Int)) =>
   some (s5.1, s5.2.1, s5.2.2)) rows_.length 0 (x_.1, x_.2.1, a5)).bind fun (s6 : Int × (List (Int × Int × List Int × List Int)) × List (List Int)) =>
 (forS (fun (k3 : Nat) (s7 : Int × (List (Int × Int × List Int × List Int)) × List Int) =>
   (idxO s6.2.2 ((k3 : Nat) : Int)).bind fun a14 =>
   (F_spec_axMake_sum (s7.1, s7.2.1, x_.2.2.1, x_.2.2.2) a14).bind fun y3 =>
   (appO s7.2.2 [y3.2]).bind fun a15 =>
   some (y3.1.1, y3.1.2.1, a15)) s6.2.2.length 0 (s6.1, s6.2.1, [])).bind fun (s8 : Int × (List (Int × Int × List Int × List Int)) × List Int) =>
 some ((s8.1, s8.2.1, x_.2.2.1, x_.2.2.2), s8.2.2)

noncomputable def F_spec_tmLeaf (n_ : Int × Int × ByteArray) : Option Bool :=
 ((some (!decide ((n_.2.2 : ByteArray) = .empty))).bind fun a0 =>
  cond a0
  (some true)
  ((F_spec_l1In n_.1 1 14).bind fun y0 =>
   (some (!y0)).bind fun a1 =>
   some a1)).bind fun (s0 : Bool) =>
 cond s0
 (some false)
 ((some (decide (n_.1 = 1))).bind fun a2 =>
  cond a2
  ((F_spec_l1In n_.2.1 0 12).bind fun y1 =>
   some y1)
  (((some (decide (n_.1 = 7))).bind fun a3 =>
    cond a3
    (some true)
    ((some (decide (n_.1 = 13))).bind fun a4 =>
     some a4)).bind fun (s1 : Bool) =>
   cond s1
   ((F_spec_l1In n_.2.1 0 96).bind fun y2 =>
    some y2)
   ((some (decide (n_.2.1 = 0))).bind fun a5 =>
    some a5)))

noncomputable def F_spec_tmKind (kind_ : Int) : Option (Int × Int) :=
 (some (decide (kind_ = 2))).bind fun a1 =>
 cond a1
 (some (2, 2))
 (((some (decide (kind_ = 3))).bind fun a0 =>
   cond a0
   (some true)
   ((some (decide (kind_ = 11))).bind fun a2 =>
    some a2)).bind fun (s0 : Bool) =>
  cond s0
  (some (1, 2))
  (((some (decide (kind_ = 4))).bind fun a3 =>
    cond a3
    (some true)
    ((some (decide (kind_ = 12))).bind fun a4 =>
     some a4)).bind fun (s1 : Bool) =>
   cond s1
   (some (1, 0))
   (((some (decide (kind_ = 5))).bind fun a5 =>
     cond a5
     (some true)
     ((some (decide (kind_ = 9))).bind fun a6 =>
      some a6)).bind fun (s2 : Bool) =>
    cond s2
    (some (2, 1))
    (((some (decide (kind_ = 6))).bind fun a7 =>
      cond a7
      (some true)
      ((some (decide (kind_ = 10))).bind fun a8 =>
       some a8)).bind fun (s3 : Bool) =>
     cond s3
     (some (0, 1))
     (some (1, 1))))))

noncomputable def F_spec_hgEdge (e_ : Int × Int × List Int × List Int) (wires_ : Int) : Option Bool :=
 ((F_spec_l1In e_.1 3 14).bind fun y0 =>
  (some (!y0)).bind fun a0 =>
  cond a0
  (some true)
  ((F_spec_tmLeaf (e_.1, e_.2.1, .empty)).bind fun y1 =>
   (some (!y1)).bind fun a1 =>
   some a1)).bind fun (s0 : Bool) =>
 cond s0
 (some false)
 ((F_spec_tmKind e_.1).bind fun y2 =>
  ((some (decide (((e_.2.2.1.length : Nat) : Int) = y2.1))).bind fun a2 =>
   cond a2
   ((some (decide (((e_.2.2.2.length : Nat) : Int) = y2.2))).bind fun a3 =>
    cond a3
    ((subO wires_ 1).bind fun a4 =>
     (F_spec_l1All e_.2.2.1 0 a4).bind fun y3 =>
     cond y3
     ((subO wires_ 1).bind fun a5 =>
      (F_spec_l1All e_.2.2.2 0 a5).bind fun y4 =>
      some y4)
     (some false))
    (some false))
   (some false)).bind fun (s1 : Bool) =>
  some s1)

noncomputable def F_spec_hgCounts (g_ : Int × (List (Int × Int × List Int × List Int)) × List Int × List Int) : Option (List Int × List Int) :=
 (makeO g_.1 (0 : Int)).bind fun a7 =>
 (makeO g_.1 (0 : Int)).bind fun a0 =>
 (forS (fun (k0 : Nat) (s0 : List Int) =>
   (idxO g_.2.2.1 ((k0 : Nat) : Int)).bind fun a1 =>
   (idxO s0 a1).bind fun a2 =>
   (addO a2 1).bind fun a3 =>
   (setO s0 a1 a3).bind fun a4 =>
   some a4) g_.2.2.1.length 0 a7).bind fun (s1 : List Int) =>
 (forS (fun (k1 : Nat) (s2 : List Int) =>
   (idxO g_.2.2.2 ((k1 : Nat) : Int)).bind fun a5 =>
   (idxO s2 a5).bind fun a6 =>
   (addO a6 1).bind fun a8 =>
   (setO s2 a5 a8).bind fun a9 =>
   some a9) g_.2.2.2.length 0 a0).bind fun (s3 : List Int) =>
 (forS (fun (k2 : Nat) (s4 : List Int × List Int) =>
   (idxO g_.2.1 ((k2 : Nat) : Int)).bind fun a10 =>
   (forS (fun (k3 : Nat) (s5 : List Int) =>
     (idxO a10.2.2.2 ((k3 : Nat) : Int)).bind fun a11 =>
     (idxO s5 a11).bind fun a13 =>
     (addO a13 1).bind fun a14 =>
     (setO s5 a11 a14).bind fun a15 =>
     some a15) a10.2.2.2.length 0 s4.1).bind fun (s6 : List Int) =>
   (forS (fun (k4 : Nat) (s7 : List Int) =>
     (idxO a10.2.2.1 ((k4 : Nat) : Int)).bind fun a16 =>
     (idxO s7 a16).bind fun a17 =>
     (addO a17 1).bind fun a18 =>
     (setO s7 a16 a18).bind fun a19 =>
     some a19) a10.2.2.1.length 0 s4.2).bind fun (s8 : List Int) =>
   some (s6, s8)) g_.2.1.length 0 (s1, s3)).bind fun (s9 : List Int × List Int) =>
 some (s9.1, s9.2)

noncomputable def F_spec_hgValid (g_ : Int × (List (Int × Int × List Int × List Int)) × List Int × List Int) : Option Bool :=
 ((F_spec_l1In g_.1 0 100).bind fun y0 =>
  (some (!y0)).bind fun a0 =>
  cond a0
  (some true)
  ((some (decide ((60 : Int) < ((g_.2.1.length : Nat) : Int)))).bind fun a1 =>
   cond a1
   (some true)
   ((some (decide ((12 : Int) < ((g_.2.2.1.length : Nat) : Int)))).bind fun a2 =>
    cond a2
    (some true)
    ((some (decide ((12 : Int) < ((g_.2.2.2.length : Nat) : Int)))).bind fun a3 =>
     cond a3
     (some true)
     ((subO g_.1 1).bind fun a4 =>
      (F_spec_l1All g_.2.2.1 0 a4).bind fun y1 =>
      (some (!y1)).bind fun a5 =>
      cond a5
      (some true)
      ((subO g_.1 1).bind fun a6 =>
       (F_spec_l1All g_.2.2.2 0 a6).bind fun y2 =>
       (some (!y2)).bind fun a7 =>
       some a7)))))).bind fun (s0 : Bool) =>
 cond s0
 (some false)
 (seqO (forO (fun (k0 : Nat) (_ : Unit) =>
    (idxO g_.2.1 ((k0 : Nat) : Int)).bind fun a8 =>
    (F_spec_hgEdge (a8.1, a8.2.1, a8.2.2.1, a8.2.2.2) g_.1).bind fun y3 =>
    (some (!y3)).bind fun a9 =>
    cond a9
    (some (.inr false))
    (some (.inl ()))) g_.2.1.length 0 ()) fun (_ : Unit) =>
  (F_spec_hgCounts (g_.1, g_.2.1, g_.2.2.1, g_.2.2.2)).bind fun y4 =>
  seqO (forO (fun (k1 : Nat) (_ : Unit) =>
    (idxO y4.1 ((k1 : Nat) : Int)).bind fun a10 =>
    (idxO y4.2 ((k1 : Nat) : Int)).bind fun a11 =>
    (addO a10 a11).bind fun a12 =>
    (some (decide (a12 = 0))).bind fun a13 =>
    cond a13
    (some (.inr false))
    (some (.inl ()))) y4.1.length 0 ()) fun (_ : Unit) =>
  some true)

noncomputable def F_spec_cnNone (n_ : Int) : Option (List Int) :=
 (makeO n_ (0 : Int)).bind fun a1 =>
 (forS (fun (k6 : Nat) (s0 : List Int) =>
   (setO s0 ((k6 : Nat) : Int) (-1)).bind fun a0 =>
   some a0) a1.length 0 a1).bind fun (s1 : List Int) =>
 some s1

noncomputable def F_spec_cnGive (wires_ : List Int) (order_ : List Int) (l_ : List Int) : Option (List Int × List Int) :=
 (forS (fun (k4 : Nat) (s0 : List Int × List Int) =>
   (idxO l_ ((k4 : Nat) : Int)).bind fun a0 =>
   (idxO s0.1 a0).bind fun a1 =>
   (some (decide (a1 < 0))).bind fun a2 =>
   cond a2
   ((setO s0.1 a0 ((s0.2.length : Nat) : Int)).bind fun a3 =>
    (appO s0.2 [a0]).bind fun a4 =>
    some (a3, a4))
   (some (s0.1, s0.2))) l_.length 0 (wires_, order_)).bind fun (s1 : List Int × List Int) =>
 some (s1.1, s1.2)

noncomputable def F_spec_mtOrigins (g_ : Int × (List (Int × Int × List Int × List Int)) × List Int × List Int) : Option (List Int) :=
 (makeO g_.1 (0 : Int)).bind fun a7 =>
 (forS (fun (k0 : Nat) (s0 : List Int) =>
   (setO s0 ((k0 : Nat) : Int) (-1)).bind fun a0 =>
   some a0) a7.length 0 a7).bind fun (s1 : List Int) =>
 (forS (fun (k1 : Nat) (s2 : List Int) =>
   (idxO g_.2.1 ((k1 : Nat) : Int)).bind fun a1 =>
   (forS (fun (k2 : Nat) (s3 : List Int) =>
     (idxO a1.2.2.2 ((k2 : Nat) : Int)).bind fun a2 =>
     (setO s3 a2 ((k1 : Nat) : Int)).bind fun a3 =>
     some a3) a1.2.2.2.length 0 s2).bind fun (s4 : List Int) =>
   some s4) g_.2.1.length 0 s1).bind fun (s5 : List Int) =>
 some s5

noncomputable def F_spec_mtEnds (g_ : Int × (List (Int × Int × List Int × List Int)) × List Int × List Int) : Option (List Int) :=
 (makeO g_.1 (0 : Int)).bind fun a7 =>
 (forS (fun (k0 : Nat) (s0 : List Int) =>
   (setO s0 ((k0 : Nat) : Int) (-1)).bind fun a0 =>
   some a0) a7.length 0 a7).bind fun (s1 : List Int) =>
 (forS (fun (k1 : Nat) (s2 : List Int) =>
   (idxO g_.2.1 ((k1 : Nat) : Int)).bind fun a1 =>
   (forS (fun (k2 : Nat) (s3 : List Int) =>
     (idxO a1.2.2.1 ((k2 : Nat) : Int)).bind fun a2 =>
     (setO s3 a2 ((k1 : Nat) : Int)).bind fun a3 =>
     some a3) a1.2.2.1.length 0 s2).bind fun (s4 : List Int) =>
   some s4) g_.2.1.length 0 s1).bind fun (s5 : List Int) =>
 some s5

noncomputable def F_spec_cnWalk (g_ : Int × (List (Int × Int × List Int × List Int)) × List Int × List Int) (wires_ : List Int) (edges_ : List Int) (order_ : List Int) (count_ : Int) : Option (List Int × List Int × Int × List Int) :=
 (F_spec_mtOrigins (g_.1, g_.2.1, g_.2.2.1, g_.2.2.2)).bind fun y0 =>
 (F_spec_mtEnds (g_.1, g_.2.1, g_.2.2.1, g_.2.2.2)).bind fun y1 =>
 (whileO (fun (s0 : List Int × List Int × Int × List Int × Int) =>
   (some (decide (s0.2.2.1 < ((s0.2.2.2.1.length : Nat) : Int)))).bind fun a0 =>
   cond a0
   ((idxO s0.2.2.2.1 s0.2.2.1).bind fun a1 =>
    (idxO s0.2.2.2.1 s0.2.2.1).bind fun a2 =>
    (idxO y1 a1).bind fun a3 =>
    (idxO y0 a2).bind fun a4 =>
    (forS (fun (k0 : Nat) (s1 : List Int × List Int × List Int × Int) =>
      ((idxO [a3, a4] ((k0 : Nat) : Int)).bind fun a5 =>
       ((some (decide (a5 < 0))).bind fun a6 =>
        cond a6
        (some true)
        ((idxO s1.2.1 a5).bind fun a7 =>
         (some (decide ((0 : Int) ≤ a7))).bind fun a8 =>
         some a8)).bind fun (s2 : Bool) =>
       cond s2
       (some (s1.1, s1.2.1, s1.2.2.1, s1.2.2.2))
       ((setO s1.2.1 a5 s1.2.2.2).bind fun a9 =>
        (addO s1.2.2.2 1).bind fun a10 =>
        (idxO g_.2.1 a5).bind fun a11 =>
        (F_spec_cnGive s1.1 s1.2.2.1 a11.2.2.1).bind fun y2 =>
        (idxO g_.2.1 a5).bind fun a12 =>
        (F_spec_cnGive y2.1 y2.2 a12.2.2.2).bind fun y3 =>
        some (y3.1, a9, y3.2, a10))).bind fun (s3 : List Int × List Int × List Int × Int) =>
      some (s3.1, s3.2.1, s3.2.2.1, s3.2.2.2)) ([a3, a4].length) 0 (s0.1, s0.2.1, s0.2.2.2.1, s0.2.2.2.2)).bind fun (s4 : List Int × List Int × List Int × Int) =>
    (addO s0.2.2.1 1).bind fun a13 =>
    some (.inl (s4.1, s4.2.1, a13, s4.2.2.1, s4.2.2.2)))
   (some (.inr (s0.1, s0.2.1, s0.2.2.2.1, s0.2.2.2.2)))) (wires_, edges_, 0, order_, count_)).bind fun (s5 : List Int × List Int × List Int × Int) =>
 some (s5.1, s5.2.1, s5.2.2.2, s5.2.2.1)

noncomputable def F_spec_cnOpen (g_ : Int × (List (Int × Int × List Int × List Int)) × List Int × List Int) : Option (List Int × List Int × List Int × Int) :=
 (F_spec_cnNone g_.1).bind fun y8 =>
 (F_spec_cnNone ((g_.2.1.length : Nat) : Int)).bind fun y0 =>
 (F_spec_cnGive y8 [] g_.2.2.1).bind fun y1 =>
 (F_spec_cnGive y1.1 y1.2 g_.2.2.2).bind fun y2 =>
 (F_spec_cnWalk (g_.1, g_.2.1, g_.2.2.1, g_.2.2.2) y2.1 y0 y2.2 0).bind fun y3 =>
 some (y3.1, y3.2.1, y3.2.2.2, y3.2.2.1)

noncomputable def F_spec_hgList (l_ : List Int) (to_ : List Int) : Option (List Int) :=
 (forS (fun (k3 : Nat) (s0 : List Int) =>
   (idxO l_ ((k3 : Nat) : Int)).bind fun a0 =>
   (idxO to_ a0).bind fun a1 =>
   (appO s0 [a1]).bind fun a2 =>
   some a2) l_.length 0 []).bind fun (s1 : List Int) =>
 some s1

noncomputable def F_spec_cnLoops (g_ : Int × (List (Int × Int × List Int × List Int)) × List Int × List Int) : Option (List (List Int × List Int × List Int × Int)) :=
 (F_spec_cnOpen (g_.1, g_.2.1, g_.2.2.1, g_.2.2.2)).bind fun y7 =>
 (forS (fun (k0 : Nat) (_ : Unit) =>
   ((idxO y7.2.1 ((k0 : Nat) : Int)).bind fun a0 =>
    (some (decide ((0 : Int) ≤ a0))).bind fun a1 =>
    cond a1
    (some ())
    (none)).bind fun (s0 : Unit) =>
   some ()) g_.2.1.length 0 ()).bind fun (_ : Unit) =>
 some []

noncomputable def F_spec_cnNumbers (g_ : Int × (List (Int × Int × List Int × List Int)) × List Int × List Int) : Option (List Int × List Int) :=
 (F_spec_cnOpen (g_.1, g_.2.1, g_.2.2.1, g_.2.2.2)).bind fun y7 =>
 (F_spec_cnLoops (g_.1, g_.2.1, g_.2.2.1, g_.2.2.2)).bind fun y0 =>
 (forS (fun (k0 : Nat) (_ : Unit) =>
   (idxO y0 ((k0 : Nat) : Int)).bind fun a0 =>
   none) y0.length 0 ()).bind fun (_ : Unit) =>
 some (y7.1, y7.2.1)

noncomputable def F_spec_hgMap (g_ : Int × (List (Int × Int × List Int × List Int)) × List Int × List Int) (to_ : List Int) (wires_ : Int) : Option (Int × (List (Int × Int × List Int × List Int)) × List Int × List Int) :=
 ((F_spec_hgList g_.2.2.1 to_).bind fun y0 =>
  (F_spec_hgList g_.2.2.2 to_).bind fun y1 =>
  some (wires_, y0, y1)).bind fun (s0 : Int × List Int × List Int) =>
 (forS (fun (k0 : Nat) (s1 : List (Int × Int × List Int × List Int)) =>
   (idxO g_.2.1 ((k0 : Nat) : Int)).bind fun a0 =>
   (F_spec_hgList a0.2.2.1 to_).bind fun y2 =>
   (F_spec_hgList a0.2.2.2 to_).bind fun y3 =>
   (appO s1 [(a0.1, a0.2.1, y2, y3)]).bind fun a1 =>
   some a1) g_.2.1.length 0 []).bind fun (s2 : List (Int × Int × List Int × List Int)) =>
 some (s0.1, s2, s0.2.1, s0.2.2)

noncomputable def F_spec_hgRenumber (g_ : Int × (List (Int × Int × List Int × List Int)) × List Int × List Int) (wires_ : List Int) (edges_ : List Int) : Option (Int × (List (Int × Int × List Int × List Int)) × List Int × List Int) :=
 (F_spec_hgMap (g_.1, g_.2.1, g_.2.2.1, g_.2.2.2) wires_ g_.1).bind fun y0 =>
 ((some (decide ((0 : Int) < ((edges_.length : Nat) : Int)))).bind fun a0 =>
  cond a0
  ((makeO ((edges_.length : Nat) : Int) ((0, 0, [], []) : Int × Int × List Int × List Int)).bind fun a1 =>
   some a1)
  (some [])).bind fun (s0 : List (Int × Int × List Int × List Int)) =>
 (forS (fun (k0 : Nat) (s1 : List (Int × Int × List Int × List Int)) =>
   (idxO edges_ ((k0 : Nat) : Int)).bind fun a2 =>
   (idxO y0.2.1 ((k0 : Nat) : Int)).bind fun a3 =>
   (setO s1 a2 (a3.1, a3.2.1, a3.2.2.1, a3.2.2.2)).bind fun a4 =>
   some a4) edges_.length 0 s0).bind fun (s2 : List (Int × Int × List Int × List Int)) =>
 some (g_.1, s2, y0.2.2.1, y0.2.2.2)

noncomputable def F_spec_cnGraph (g_ : Int × (List (Int × Int × List Int × List Int)) × List Int × List Int) : Option (Int × (List (Int × Int × List Int × List Int)) × List Int × List Int) :=
 (F_spec_cnNumbers (g_.1, g_.2.1, g_.2.2.1, g_.2.2.2)).bind fun y0 =>
 (F_spec_hgRenumber (g_.1, g_.2.1, g_.2.2.1, g_.2.2.2) y0.1 y0.2).bind fun y1 =>
 some (y1.1, y1.2.1, y1.2.2.1, y1.2.2.2)

noncomputable def F_spec_axMake_done (x_ : (Int × (List (Int × Int × List Int × List Int)) × List Int × List Int)) : Option ((Int × (List (Int × Int × List Int × List Int)) × List Int × List Int) × Bool) :=
 (F_spec_hgValid (x_.1, x_.2.1, x_.2.2.1, x_.2.2.2)).bind fun y8 =>
 (some (!y8)).bind fun a0 =>
 cond a0
 (some ((0, [], [], []), false))
 ((F_spec_cnGraph (x_.1, x_.2.1, x_.2.2.1, x_.2.2.2)).bind fun y0 =>
  some ((y0.1, y0.2.1, y0.2.2.1, y0.2.2.2), true))

noncomputable def F_spec_MatrixGraph (p_ : Int) (m_ : Int × List (List Int)) : Option ((Int × (List (Int × Int × List Int × List Int)) × List Int × List Int) × Bool) :=
 ((F_spec_fdGood p_).bind fun y0 =>
  (some (!y0)).bind fun a0 =>
  cond a0
  (some true)
  ((F_spec_mxGood p_ (m_.1, m_.2)).bind fun y1 =>
   (some (!y1)).bind fun a1 =>
   cond a1
   (some true)
   ((some (decide ((12 : Int) < ((m_.2.length : Nat) : Int)))).bind fun a2 =>
    cond a2
    (some true)
    ((some (decide ((12 : Int) < m_.1))).bind fun a3 =>
     some a3)))).bind fun (s0 : Bool) =>
 cond s0
 (some ((0, [], [], []), false))
 ((F_spec_axMake_inputs (0, [], [], []) ((m_.2.length : Nat) : Int)).bind fun y2 =>
  (F_spec_axMake_matrix (y2.1, [], y2.2.2.1, []) y2.2.2.1 m_.2 m_.1).bind fun y3 =>
  (F_spec_axMake_done (y3.1.1, y3.1.2.1, y2.2.2.1, y3.2)).bind fun y4 =>
  some ((y4.1.1, y4.1.2.1, y4.1.2.2.1, y4.1.2.2.2), y4.2))

noncomputable def F_impl_isField (p_ : Int) : Option Bool :=
 ((some (decide (p_ < 2))).bind fun a0 =>
  cond a0
  (some true)
  ((some (decide ((97 : Int) < p_))).bind fun a1 =>
   some a1)).bind fun (s8 : Bool) =>
 cond s8
 (some false)
 ((cI 4).bind fun _ =>
  seqO (forO (fun (k0 : Nat) (_ : Unit) =>
    (idxO [2, 3, 5, 7] ((k0 : Nat) : Int)).bind fun a2 =>
    ((remO p_ a2).bind fun a3 =>
     (some (decide (a3 = 0))).bind fun a4 =>
     cond a4
     ((some (!decide (p_ = a2))).bind fun a5 =>
      some a5)
     (some false)).bind fun (s0 : Bool) =>
    cond s0
    (some (.inr false))
    (some (.inl ()))) ((4 : Int).toNat) 0 ()) fun (_ : Unit) =>
  some true)

noncomputable def F_impl_within (n_ : Int) (low_ : Int) (high_ : Int) : Option Bool :=
 ((some (decide (low_ ≤ n_))).bind fun a0 =>
  cond a0
  ((some (decide (n_ ≤ high_))).bind fun a1 =>
   some a1)
  (some false)).bind fun (s7 : Bool) =>
 some s7

noncomputable def F_impl_isElement (p_ : Int) (a_ : Int) : Option Bool :=
 ((some (decide ((0 : Int) ≤ a_))).bind fun a0 =>
  cond a0
  ((some (decide (a_ < p_))).bind fun a1 =>
   some a1)
  (some false)).bind fun (s7 : Bool) =>
 some s7

noncomputable def F_impl_isVector (p_ : Int) (v_ : List Int) (n_ : Int) : Option Bool :=
 (some (!decide (((v_.length : Nat) : Int) = n_))).bind fun a2 =>
 cond a2
 (some false)
 (seqO (forO (fun (k5 : Nat) (_ : Unit) =>
    (idxO v_ ((k5 : Nat) : Int)).bind fun a0 =>
    (F_impl_isElement p_ a0).bind fun y0 =>
    (some (!y0)).bind fun a1 =>
    cond a1
    (some (.inr false))
    (some (.inl ()))) v_.length 0 ()) fun (_ : Unit) =>
  some true)

noncomputable def F_impl_areVectors (p_ : Int) (rows_ : List (List Int)) (n_ : Int) : Option Bool :=
 seqO (forO (fun (k2 : Nat) (_ : Unit) =>
   (idxO rows_ ((k2 : Nat) : Int)).bind fun a0 =>
   (F_impl_isVector p_ a0 n_).bind fun y0 =>
   (some (!y0)).bind fun a1 =>
   cond a1
   (some (.inr false))
   (some (.inl ()))) rows_.length 0 ()) fun (_ : Unit) =>
 some true

noncomputable def F_impl_isMatrix (p_ : Int) (m_ : Int × List (List Int)) : Option Bool :=
 ((F_impl_isField p_).bind fun y0 =>
  cond y0
  ((F_impl_within m_.1 0 24).bind fun y1 =>
   cond y1
   ((some (decide (((m_.2.length : Nat) : Int) ≤ 24))).bind fun a0 =>
    cond a0
    ((F_impl_areVectors p_ m_.2 m_.1).bind fun y2 =>
     some y2)
    (some false))
   (some false))
  (some false)).bind fun (s0 : Bool) =>
 some s0

noncomputable def F_impl_drawing_wire (d_ : (Int × (List (Int × Int × List Int × List Int)) × List Int × List Int)) : Option ((Int × (List (Int × Int × List Int × List Int)) × List Int × List Int) × Int) :=
 (addO d_.1 1).bind fun a2 =>
 (subO a2 1).bind fun a5 =>
 some ((a2, d_.2.1, d_.2.2.1, d_.2.2.2), a5)

noncomputable def F_impl_drawing_wires (d_ : (Int × (List (Int × Int × List Int × List Int)) × List Int × List Int)) (n_ : Int) : Option ((Int × (List (Int × Int × List Int × List Int)) × List Int × List Int) × List Int) :=
 (cI n_).bind fun _ =>
 (forS (fun (k5 : Nat) (s0 : Int × List Int) =>
   (F_impl_drawing_wire (s0.1, d_.2.1, d_.2.2.1, d_.2.2.2)).bind fun y0 =>
   (appO s0.2 [y0.2]).bind fun a0 =>
   some (y0.1.1, a0)) n_.toNat 0 (d_.1, ([] : List Int))).bind fun (s1 : Int × List Int) =>
 some ((s1.1, d_.2.1, d_.2.2.1, d_.2.2.2), s1.2)

noncomputable def F_impl_drawing_edge (d_ : (Int × (List (Int × Int × List Int × List Int)) × List Int × List Int)) (kind_ : Int) (value_ : Int) (in_ : List Int) (out_ : List Int) : Option (Int × (List (Int × Int × List Int × List Int)) × List Int × List Int) :=
 (appO d_.2.1 [(kind_, value_, in_, out_)]).bind fun a0 =>
 some (d_.1, a0, d_.2.2.1, d_.2.2.2)

noncomputable def F_impl_drawing_fanOut_n : Nat → (Int × (List (Int × Int × List Int × List Int)) × List Int × List Int) → Int → Int → Option ((Int × (List (Int × Int × List Int × List Int)) × List Int × List Int) × List Int)
 | 0, _, _, _ => none
 | fuel + 1, d_, w_, n_ =>
  (some (decide (n_ = 0))).bind fun a3 =>
  cond a3
  ((F_impl_drawing_edge (d_.1, d_.2.1, d_.2.2.1, d_.2.2.2) 4 0 [w_] []).bind fun y0 =>
    some ((y0.1, y0.2.1, d_.2.2.1, d_.2.2.2), []))
  ((some (decide (n_ = 1))).bind fun a6 =>
    cond a6
    (some ((d_.1, d_.2.1, d_.2.2.1, d_.2.2.2), [w_]))
    ((F_impl_drawing_wires (d_.1, d_.2.1, d_.2.2.1, d_.2.2.2) 2).bind fun y9 =>
      (F_impl_drawing_edge (y9.1.1, d_.2.1, d_.2.2.1, d_.2.2.2) 3 0 [w_] y9.2).bind fun y1 =>
      ((subO n_ 1).bind fun a0 =>
        (idxO y9.2 0).bind fun a1 =>
        (idxO y9.2 1).bind fun a2 =>
        (F_impl_drawing_fanOut_n fuel (y1.1, y1.2.1, d_.2.2.1, d_.2.2.2) a2 a0).bind fun y2 =>
        (appO [a1] y2.2).bind fun a4 =>
        some (y2.1.1, y2.1.2.1, a4)).bind fun (s0 : Int × (List (Int × Int × List Int × List Int)) × List Int) =>
      some ((s0.1, s0.2.1, d_.2.2.1, d_.2.2.2), s0.2.2)))
noncomputable def F_impl_drawing_fanOut (d_ : (Int × (List (Int × Int × List Int × List Int)) × List Int × List Int)) (w_ : Int) (n_ : Int) : Option ((Int × (List (Int × Int × List Int × List Int)) × List Int × List Int) × List Int) := F_impl_drawing_fanOut_n 1000000 d_ w_ n_

noncomputable def F_impl_drawing_sum_n : Nat → (Int × (List (Int × Int × List Int × List Int)) × List Int × List Int) → (List Int) → Option ((Int × (List (Int × Int × List Int × List Int)) × List Int × List Int) × Int)
 | 0, _, _ => none
 | fuel + 1, d_, list_ =>
  (subO ((list_.length : Nat) : Int) 1).bind fun a4 =>
  (some (decide (a4 = 0))).bind fun a6 =>
  cond a6
  ((idxO list_ 0).bind fun a0 =>
    some ((d_.1, d_.2.1, d_.2.2.1, d_.2.2.2), a0))
  ((F_impl_drawing_wire (d_.1, d_.2.1, d_.2.2.1, d_.2.2.2)).bind fun y9 =>
    (some (decide (a4 < 0))).bind fun a1 =>
    cond a1
    ((F_impl_drawing_edge (y9.1.1, d_.2.1, d_.2.2.1, d_.2.2.2) 6 0 [] [y9.2]).bind fun y0 =>
      some ((y0.1, y0.2.1, d_.2.2.1, d_.2.2.2), y9.2))
    (((sliceO list_ 0 a4).bind fun a2 =>
        (F_impl_drawing_sum_n fuel (y9.1.1, d_.2.1, d_.2.2.1, d_.2.2.2) a2).bind fun y1 =>
        (idxO list_ a4).bind fun a3 =>
        (F_impl_drawing_edge (y1.1.1, y1.1.2.1, d_.2.2.1, d_.2.2.2) 5 0 [y1.2, a3] [y9.2]).bind fun y2 =>
        some (y2.1, y2.2.1)).bind fun (s0 : Int × (List (Int × Int × List Int × List Int))) =>
      some ((s0.1, s0.2, d_.2.2.1, d_.2.2.2), y9.2)))
noncomputable def F_impl_drawing_sum (d_ : (Int × (List (Int × Int × List Int × List Int)) × List Int × List Int)) (list_ : List Int) : Option ((Int × (List (Int × Int × List Int × List Int)) × List Int × List Int) × Int) := F_impl_drawing_sum_n 1000000 d_ list_

noncomputable def F_impl_drawing_matrix (d_ : (Int × (List (Int × Int × List Int × List Int)) × List Int × List Int)) (ins_ : List Int) (rows_ : List (List Int)) (cols_ : Int) : Option ((Int × (List (Int × Int × List Int × List Int)) × List Int × List Int) × List Int) :=
 (makeO cols_ ([] : List Int)).bind fun a5 =>
 (forS (fun (k0 : Nat) (s0 : Int × (List (Int × Int × List Int × List Int)) × List (List Int)) =>
   (idxO rows_ ((k0 : Nat) : Int)).bind fun a0 =>
   (forS (fun (k1 : Nat) (s1 : List Int) =>
     (idxO a0 ((k1 : Nat) : Int)).bind fun a1 =>
     (some (!decide (a1 = 0))).bind fun a2 =>
     cond a2
     ((appO s1 [((k1 : Nat) : Int)]).bind fun a3 =>
      some a3)
     (some s1)) a0.length 0 ([] : List Int)).bind fun (s2 : List Int) =>
   (idxO ins_ ((k0 : Nat) : Int)).bind fun a4 =>
   (F_impl_drawing_fanOut (s0.1, s0.2.1, d_.2.2.1, d_.2.2.2) a4 ((s2.length : Nat) : Int)).bind fun y0 =>
   (forS (fun (k2 : Nat) (s3 : Int × (List (Int × Int × List Int × List Int)) × List (List Int)) =>
     (idxO y0.2 ((k2 : Nat) : Int)).bind fun a6 =>
     (idxO s2 ((k2 : Nat) : Int)).bind fun a7 =>
     ((idxO a0 a7).bind fun a8 =>
      (some (!decide (a8 = 1))).bind fun a9 =>
      cond a9
      ((F_impl_drawing_wire (s3.1, s3.2.1, d_.2.2.1, d_.2.2.2)).bind fun y1 =>
       (F_impl_drawing_edge (y1.1.1, s3.2.1, d_.2.2.1, d_.2.2.2) 7 a8 [a6] [y1.2]).bind fun y2 =>
       some (y2.1, y2.2.1, y1.2))
      (some (s3.1, s3.2.1, a6))).bind fun (s4 : Int × (List (Int × Int × List Int × List Int)) × Int) =>
     (idxO s3.2.2 a7).bind fun a10 =>
     (appO a10 [s4.2.2]).bind fun a11 =>
     (setO s3.2.2 a7 a11).bind fun a12 =>
     some (s4.1, s4.2.1, a12)) y0.2.length 0 (y0.1.1, y0.1.2.1, s0.2.2)).bind fun (s5 : Int × (List (Int × Int × List Int × List Int)) × List (List Int)) =>
   some (s5.1, s5.2.1, s5.2.2)) rows_.length 0 (d_.1, d_.2.1, a5)).bind fun (s6 : Int × (List (Int × Int × List Int × List Int)) × List (List Int)) =>
 (forS (fun (k3 : Nat) (s7 : Int × (List (Int × Int × List Int × List Int)) × List Int) =>
   (idxO s6.2.2 ((k3 : Nat) : Int)).bind fun a13 =>
   (F_impl_drawing_sum (s7.1, s7.2.1, d_.2.2.1, d_.2.2.2) a13).bind fun y3 =>
   (appO s7.2.2 [y3.2]).bind fun a14 =>
   some (y3.1.1, y3.1.2.1, a14)) s6.2.2.length 0 (s6.1, s6.2.1, ([] : List Int))).bind fun (s8 : Int × (List (Int × Int × List Int × List Int)) × List Int) =>
 some ((s8.1, s8.2.1, d_.2.2.1, d_.2.2.2), s8.2.2)

noncomputable def F_impl_isGenerator (kind_ : Int) : Option Bool :=
 (F_impl_within kind_ 3 14).bind fun y1 =>
 some y1

noncomputable def F_impl_hasValue (kind_ : Int) : Option Bool :=
 ((some (decide (kind_ = 7))).bind fun a0 =>
  cond a0
  (some true)
  ((some (decide (kind_ = 13))).bind fun a1 =>
   some a1)).bind fun (s7 : Bool) =>
 some s7

noncomputable def F_impl_isGeneratorValue (kind_ : Int) (value_ : Int) : Option Bool :=
 (F_impl_hasValue kind_).bind fun y1 =>
 cond y1
 ((F_impl_within value_ 0 96).bind fun y8 =>
  some y8)
 ((some (decide (value_ = 0))).bind fun a5 =>
  some a5)

noncomputable def F_impl_generatorWires (kind_ : Int) : Option (Int × Int) :=
 (some (decide (kind_ ≤ 8))).bind fun a8 =>
 cond a8
 ((subO kind_ 3).bind fun a0 =>
  (idxO ([(1, 2), (1, 0), (2, 1), (0, 1), (1, 1), (1, 1)] : List (Int × Int)) a0).bind fun a1 =>
  some (a1.1, a1.2))
 ((subO kind_ 9).bind fun a2 =>
  (idxO ([(1, 2), (1, 0), (2, 1), (0, 1), (1, 1), (1, 1)] : List (Int × Int)) a2).bind fun a3 =>
  some (a3.2, a3.1))

noncomputable def F_impl_Edge_isEdge (e_ : Int × Int × List Int × List Int) : Option Bool :=
 ((F_impl_isGenerator e_.1).bind fun y0 =>
  (some (!y0)).bind fun a0 =>
  cond a0
  (some true)
  ((F_impl_isGeneratorValue e_.1 e_.2.1).bind fun y1 =>
   (some (!y1)).bind fun a1 =>
   some a1)).bind fun (s0 : Bool) =>
 cond s0
 (some false)
 ((F_impl_generatorWires e_.1).bind fun y2 =>
  (some (decide (([y2.1, y2.2] : List Int) = [((e_.2.2.1.length : Nat) : Int), ((e_.2.2.2.length : Nat) : Int)]))).bind fun a2 =>
  some a2)

noncomputable def F_impl_Graph_isGraph_1 (list_ : List Int) (c0_ : Int × (List (Int × Int × List Int × List Int)) × List Int × List Int) (c1_ : Bool) (c2_ : List Bool) (c3_ : Int) : Option (Bool × List Bool × Int) :=
 (forS (fun (k0 : Nat) (s0 : Bool × Int × List Bool) =>
   ((idxO list_ ((k0 : Nat) : Int)).bind fun a0 =>
    (subO c0_.1 1).bind fun a1 =>
    (F_impl_within a0 0 a1).bind fun y0 =>
    (some (!y0)).bind fun a2 =>
    cond a2
    (some (false, s0.2.1, s0.2.2))
    ((idxO s0.2.2 a0).bind fun a3 =>
     (some (!a3)).bind fun a4 =>
     cond a4
     ((setO s0.2.2 a0 true).bind fun a5 =>
      (addO s0.2.1 1).bind fun a6 =>
      some (s0.1, a6, a5))
     (some (s0.1, s0.2.1, s0.2.2)))).bind fun (s1 : Bool × Int × List Bool) =>
   some (s1.1, s1.2.1, s1.2.2)) list_.length 0 (c1_, c3_, c2_)).bind fun (s2 : Bool × Int × List Bool) =>
 some (s2.1, s2.2.2, s2.2.1)

noncomputable def F_impl_Graph_lists_impl_Graph_isGraph_1 (g_ : Int × (List (Int × Int × List Int × List Int)) × List Int × List Int) (d0_ : Int × (List (Int × Int × List Int × List Int)) × List Int × List Int) (d1_ : Bool) (d2_ : List Bool) (d3_ : Int) : Option (Bool × List Bool × Int) :=
 (F_impl_Graph_isGraph_1 g_.2.2.1 (d0_.1, d0_.2.1, d0_.2.2.1, d0_.2.2.2) d1_ d2_ d3_).bind fun y0 =>
 (F_impl_Graph_isGraph_1 g_.2.2.2 (d0_.1, d0_.2.1, d0_.2.2.1, d0_.2.2.2) y0.1 y0.2.1 y0.2.2).bind fun y1 =>
 (forS (fun (k0 : Nat) (s0 : Int × Bool × List Bool) =>
   (idxO g_.2.1 ((k0 : Nat) : Int)).bind fun a0 =>
   (F_impl_Graph_isGraph_1 a0.2.2.1 (d0_.1, d0_.2.1, d0_.2.2.1, d0_.2.2.2) s0.2.1 s0.2.2 s0.1).bind fun y2 =>
   (F_impl_Graph_isGraph_1 a0.2.2.2 (d0_.1, d0_.2.1, d0_.2.2.1, d0_.2.2.2) y2.1 y2.2.1 y2.2.2).bind fun y3 =>
   some (y3.2.2, y3.1, y3.2.1)) g_.2.1.length 0 (y1.2.2, y1.1, y1.2.1)).bind fun (s1 : Int × Bool × List Bool) =>
 some (s1.2.1, s1.2.2, s1.1)

noncomputable def F_impl_Graph_isGraph (g_ : Int × (List (Int × Int × List Int × List Int)) × List Int × List Int) : Option Bool :=
 ((F_impl_within g_.1 0 100).bind fun y0 =>
  (some (!y0)).bind fun a0 =>
  cond a0
  (some true)
  ((some (decide ((60 : Int) < ((g_.2.1.length : Nat) : Int)))).bind fun a1 =>
   cond a1
   (some true)
   ((some (decide ((12 : Int) < ((g_.2.2.1.length : Nat) : Int)))).bind fun a2 =>
    cond a2
    (some true)
    ((some (decide ((12 : Int) < ((g_.2.2.2.length : Nat) : Int)))).bind fun a3 =>
     some a3)))).bind fun (s0 : Bool) =>
 cond s0
 (some false)
 (seqO (forO (fun (k0 : Nat) (_ : Unit) =>
    (idxO g_.2.1 ((k0 : Nat) : Int)).bind fun a4 =>
    (F_impl_Edge_isEdge (a4.1, a4.2.1, a4.2.2.1, a4.2.2.2)).bind fun y1 =>
    (some (!y1)).bind fun a5 =>
    cond a5
    (some (.inr false))
    (some (.inl ()))) g_.2.1.length 0 ()) fun (_ : Unit) =>
  (makeO g_.1 (false : Bool)).bind fun a6 =>
  (F_impl_Graph_lists_impl_Graph_isGraph_1 (g_.1, g_.2.1, g_.2.2.1, g_.2.2.2) (g_.1, g_.2.1, g_.2.2.1, g_.2.2.2) true a6 0).bind fun y2 =>
  (cond y2.1
   ((some (decide (y2.2.2 = g_.1))).bind fun a7 =>
    some (true, a7))
   (some (false, false))).bind fun (s1 : Bool × Bool) =>
  some s1.2)

noncomputable def F_impl_joined (lists_ : List (List Int)) : Option (List Int) :=
 (forS (fun (k5 : Nat) (s0 : List Int) =>
   (idxO lists_ ((k5 : Nat) : Int)).bind fun a0 =>
   (appO s0 a0).bind fun a1 =>
   some a1) lists_.length 0 ([] : List Int)).bind fun (s1 : List Int) =>
 some s1

noncomputable def F_impl_isPermutation (list_ : List Int) (n_ : Int) : Option Bool :=
 (some (!decide (((list_.length : Nat) : Int) = n_))).bind fun a2 =>
 cond a2
 (some false)
 ((makeO n_ (false : Bool)).bind fun a5 =>
  seqO (forO (fun (k0 : Nat) (s0 : List Bool) =>
    (idxO list_ ((k0 : Nat) : Int)).bind fun a0 =>
    ((subO n_ 1).bind fun a1 =>
     (F_impl_within a0 0 a1).bind fun y0 =>
     (some (!y0)).bind fun a3 =>
     cond a3
     (some true)
     ((idxO s0 a0).bind fun a4 =>
      some a4)).bind fun (s1 : Bool) =>
    cond s1
    (some (.inr false))
    ((setO s0 a0 true).bind fun a6 =>
     some (.inl a6))) list_.length 0 a5) fun (s2 : List Bool) =>
  some true)

noncomputable def F_impl_occursOnce (n_ : Int) (lists_ : List (List Int)) : Option Bool :=
 (F_impl_joined lists_).bind fun y2 =>
 (F_impl_isPermutation y2 n_).bind fun y7 =>
 some y7

noncomputable def F_impl_Graph_isMonogamous (g_ : Int × (List (Int × Int × List Int × List Int)) × List Int × List Int) : Option Bool :=
 (F_impl_Graph_isGraph (g_.1, g_.2.1, g_.2.2.1, g_.2.2.2)).bind fun y7 =>
 (some (!y7)).bind fun a0 =>
 cond a0
 (some false)
 ((some ([g_.2.2.1], [g_.2.2.2])).bind fun (s0 : List (List Int) × List (List Int)) =>
  (forS (fun (k0 : Nat) (s1 : List (List Int) × List (List Int)) =>
    (idxO g_.2.1 ((k0 : Nat) : Int)).bind fun a1 =>
    (appO s1.1 [a1.2.2.2]).bind fun a2 =>
    (appO s1.2 [a1.2.2.1]).bind fun a3 =>
    some (a2, a3)) g_.2.1.length 0 (s0.1, s0.2)).bind fun (s2 : List (List Int) × List (List Int)) =>
  ((F_impl_occursOnce g_.1 s2.1).bind fun y0 =>
   cond y0
   ((F_impl_occursOnce g_.1 s2.2).bind fun y1 =>
    some y1)
   (some false)).bind fun (s3 : Bool) =>
  some s3)

noncomputable def F_impl_zeros (n_ : Int) : Option (List Int) :=
 (makeO n_ (0 : Int)).bind fun a1 =>
 some a1

noncomputable def F_impl_repeated (a_ : Int) (n_ : Int) : Option (List Int) :=
 (F_impl_zeros n_).bind fun y1 =>
 (forS (fun (k6 : Nat) (s0 : List Int) =>
   (setO s0 ((k6 : Nat) : Int) a_).bind fun a0 =>
   some a0) y1.length 0 y1).bind fun (s1 : List Int) =>
 some s1

noncomputable def F_impl_Graph_ends (g_ : Int × (List (Int × Int × List Int × List Int)) × List Int × List Int) : Option (List Int × List Int) :=
 ((F_impl_repeated (-1) g_.1).bind fun y0 =>
  (F_impl_repeated (-1) g_.1).bind fun y1 =>
  some (y0, y1)).bind fun (s0 : List Int × List Int) =>
 (forS (fun (k0 : Nat) (s1 : List Int × List Int) =>
   (idxO g_.2.1 ((k0 : Nat) : Int)).bind fun a0 =>
   (forS (fun (k1 : Nat) (s2 : List Int) =>
     (idxO a0.2.2.2 ((k1 : Nat) : Int)).bind fun a1 =>
     (setO s2 a1 ((k0 : Nat) : Int)).bind fun a2 =>
     some a2) a0.2.2.2.length 0 s1.1).bind fun (s3 : List Int) =>
   (forS (fun (k2 : Nat) (s4 : List Int) =>
     (idxO a0.2.2.1 ((k2 : Nat) : Int)).bind fun a3 =>
     (setO s4 a3 ((k0 : Nat) : Int)).bind fun a4 =>
     some a4) a0.2.2.1.length 0 s1.2).bind fun (s5 : List Int) =>
   some (s3, s5)) g_.2.1.length 0 (s0.1, s0.2)).bind fun (s6 : List Int × List Int) =>
 some (s6.1, s6.2)

noncomputable def F_impl_walkerOf (g_ : Int × (List (Int × Int × List Int × List Int)) × List Int × List Int) : Option ((Int × (List (Int × Int × List Int × List Int)) × List Int × List Int) × (List Int × List Int) × MI × MI × List Int × List Int) :=
 ((F_impl_Graph_ends (g_.1, g_.2.1, g_.2.2.1, g_.2.2.2)).bind fun y0 =>
  some (g_.1, y0.1, y0.2, (⟨[]⟩ : MI), (⟨[]⟩ : MI))).bind fun (s0 : Int × List Int × List Int × MI × MI) =>
 some ((s0.1, g_.2.1, g_.2.2.1, g_.2.2.2), (s0.2.1, s0.2.2.1), s0.2.2.2.1, s0.2.2.2.2, [], [])

noncomputable def F_impl_walker_wire (k_ : (Int × (List (Int × Int × List Int × List Int)) × List Int × List Int) × (List Int × List Int) × MI × MI × List Int × List Int) (w_ : Int) : Option ((Int × (List (Int × Int × List Int × List Int)) × List Int × List Int) × (List Int × List Int) × MI × MI × List Int × List Int) :=
 (some (hasM k_.2.2.1 w_)).bind fun a4 =>
 (some (!a4)).bind fun a6 =>
 cond a6
 ((appO k_.2.2.2.2.1 [w_]).bind fun a0 =>
  some ((k_.1.1, k_.1.2.1, k_.1.2.2.1, k_.1.2.2.2), (k_.2.1.1, k_.2.1.2), (setM k_.2.2.1 w_ ((k_.2.2.1.kvs.length : Nat) : Int)), k_.2.2.2.1, a0, k_.2.2.2.2.2))
 (some ((k_.1.1, k_.1.2.1, k_.1.2.2.1, k_.1.2.2.2), (k_.2.1.1, k_.2.1.2), k_.2.2.1, k_.2.2.2.1, k_.2.2.2.2.1, k_.2.2.2.2.2))

noncomputable def F_impl_walker_edge (k_ : (Int × (List (Int × Int × List Int × List Int)) × List Int × List Int) × (List Int × List Int) × MI × MI × List Int × List Int) (e_ : Int) : Option ((Int × (List (Int × Int × List Int × List Int)) × List Int × List Int) × (List Int × List Int) × MI × MI × List Int × List Int) :=
 (some (decide (e_ < 0))).bind fun a0 =>
 cond a0
 (some ((k_.1.1, k_.1.2.1, k_.1.2.2.1, k_.1.2.2.2), (k_.2.1.1, k_.2.1.2), k_.2.2.1, k_.2.2.2.1, k_.2.2.2.2.1, k_.2.2.2.2.2))
 ((some (hasM k_.2.2.2.1 e_)).bind fun a1 =>
  cond a1
  (some ((k_.1.1, k_.1.2.1, k_.1.2.2.1, k_.1.2.2.2), (k_.2.1.1, k_.2.1.2), k_.2.2.1, k_.2.2.2.1, k_.2.2.2.2.1, k_.2.2.2.2.2))
  ((appO k_.2.2.2.2.2 [e_]).bind fun a2 =>
   (idxO k_.1.2.1 e_).bind fun a3 =>
   (idxO k_.1.2.1 e_).bind fun a4 =>
   (F_impl_joined [a3.2.2.1, a4.2.2.2]).bind fun y0 =>
   (forS (fun (k0 : Nat) (s0 : Int × MI × List Int) =>
     (idxO y0 ((k0 : Nat) : Int)).bind fun a5 =>
     (F_impl_walker_wire ((s0.1, k_.1.2.1, k_.1.2.2.1, k_.1.2.2.2), (k_.2.1.1, k_.2.1.2), s0.2.1, (setM k_.2.2.2.1 e_ ((k_.2.2.2.1.kvs.length : Nat) : Int)), s0.2.2, a2) a5).bind fun y1 =>
     some (y1.1.1, y1.2.2.1, y1.2.2.2.2.1)) y0.length 0 (k_.1.1, k_.2.2.1, k_.2.2.2.2.1)).bind fun (s1 : Int × MI × List Int) =>
   some ((s1.1, k_.1.2.1, k_.1.2.2.1, k_.1.2.2.2), (k_.2.1.1, k_.2.1.2), s1.2.1, (setM k_.2.2.2.1 e_ ((k_.2.2.2.1.kvs.length : Nat) : Int)), s1.2.2, a2)))

noncomputable def F_impl_walker_walk (k_ : (Int × (List (Int × Int × List Int × List Int)) × List Int × List Int) × (List Int × List Int) × MI × MI × List Int × List Int) : Option ((Int × (List (Int × Int × List Int × List Int)) × List Int × List Int) × (List Int × List Int) × MI × MI × List Int × List Int) :=
 whileO (fun (s0 : Int × MI × MI × List Int × List Int) =>
  (some (decide ((0 : Int) < ((s0.2.2.2.1.length : Nat) : Int)))).bind fun a0 =>
  cond a0
  ((idxO s0.2.2.2.1 0).bind fun a1 =>
   (sliceO s0.2.2.2.1 1 ((s0.2.2.2.1.length : Nat) : Int)).bind fun a2 =>
   (idxO k_.2.1.2 a1).bind fun a3 =>
   (F_impl_walker_edge ((s0.1, k_.1.2.1, k_.1.2.2.1, k_.1.2.2.2), (k_.2.1.1, k_.2.1.2), s0.2.1, s0.2.2.1, a2, s0.2.2.2.2) a3).bind fun y0 =>
   (idxO k_.2.1.1 a1).bind fun a4 =>
   (F_impl_walker_edge ((y0.1.1, k_.1.2.1, k_.1.2.2.1, k_.1.2.2.2), (k_.2.1.1, k_.2.1.2), y0.2.2.1, y0.2.2.2.1, y0.2.2.2.2.1, y0.2.2.2.2.2) a4).bind fun y1 =>
   some (.inl (y1.1.1, y1.2.2.1, y1.2.2.2.1, y1.2.2.2.2.1, y1.2.2.2.2.2)))
  (some (.inr ((s0.1, k_.1.2.1, k_.1.2.2.1, k_.1.2.2.2), (k_.2.1.1, k_.2.1.2), s0.2.1, s0.2.2.1, s0.2.2.2.1, s0.2.2.2.2)))) (k_.1.1, k_.2.2.1, k_.2.2.2.1, k_.2.2.2.2.1, k_.2.2.2.2.2)

noncomputable def F_impl_Graph_openWalk (g_ : Int × (List (Int × Int × List Int × List Int)) × List Int × List Int) : Option ((Int × (List (Int × Int × List Int × List Int)) × List Int × List Int) × (List Int × List Int) × MI × MI × List Int × List Int) :=
 (F_impl_walkerOf (g_.1, g_.2.1, g_.2.2.1, g_.2.2.2)).bind fun y7 =>
 (F_impl_joined [g_.2.2.1, g_.2.2.2]).bind fun y0 =>
 (forS (fun (k0 : Nat) (s0 : Int × MI × List Int) =>
   (idxO y0 ((k0 : Nat) : Int)).bind fun a0 =>
   (F_impl_walker_wire ((s0.1, g_.2.1, g_.2.2.1, g_.2.2.2), (y7.2.1.1, y7.2.1.2), s0.2.1, y7.2.2.2.1, s0.2.2, y7.2.2.2.2.2) a0).bind fun y1 =>
   some (y1.1.1, y1.2.2.1, y1.2.2.2.2.1)) y0.length 0 (y7.1.1, y7.2.2.1, y7.2.2.2.2.1)).bind fun (s1 : Int × MI × List Int) =>
 (F_impl_walker_walk ((s1.1, g_.2.1, g_.2.2.1, g_.2.2.2), (y7.2.1.1, y7.2.1.2), s1.2.1, y7.2.2.2.1, s1.2.2, y7.2.2.2.2.2)).bind fun y2 =>
 some ((y2.1.1, g_.2.1, g_.2.2.1, g_.2.2.2), (y7.2.1.1, y7.2.1.2), y2.2.2.1, y2.2.2.2.1, y2.2.2.2.2.1, y2.2.2.2.2.2)

noncomputable def F_impl_upTo (n_ : Int) : Option (List Int) :=
 (F_impl_zeros n_).bind fun y1 =>
 (forS (fun (k6 : Nat) (s0 : List Int) =>
   (setO s0 ((k6 : Nat) : Int) ((k6 : Nat) : Int)).bind fun a0 =>
   some a0) y1.length 0 y1).bind fun (s1 : List Int) =>
 some s1

noncomputable def F_impl_classes_root (c_ : List Int) (w_ : Int) : Option Int :=
 (whileO (fun (s0 : Int) =>
   (idxO c_ s0).bind fun a0 =>
   (some (!decide (a0 = s0))).bind fun a1 =>
   cond a1
   ((idxO c_ s0).bind fun a2 =>
    some (.inl a2))
   (some (.inr s0))) w_).bind fun (s1 : Int) =>
 some s1

noncomputable def F_impl_classes_join (c_ : List Int) (v_ : Int) (w_ : Int) : Option (List Int) :=
 (F_impl_classes_root c_ v_).bind fun y2 =>
 (F_impl_classes_root c_ w_).bind fun y5 =>
 (some (maxI2 y2 y5)).bind fun a8 =>
 (some (minI2 y2 y5)).bind fun a0 =>
 (setO c_ a8 a0).bind fun a1 =>
 some a1

noncomputable def F_impl_Graph_components (g_ : Int × (List (Int × Int × List Int × List Int)) × List Int × List Int) : Option (List Int × Int) :=
 (F_impl_upTo g_.1).bind fun y7 =>
 (forS (fun (k0 : Nat) (s0 : List Int) =>
   (idxO g_.2.1 ((k0 : Nat) : Int)).bind fun a0 =>
   (F_impl_joined [a0.2.2.1, a0.2.2.2]).bind fun y0 =>
   (forS (fun (k1 : Nat) (s1 : List Int) =>
     (idxO y0 ((k1 : Nat) : Int)).bind fun a1 =>
     (idxO y0 0).bind fun a2 =>
     (F_impl_classes_join s1 a2 a1).bind fun y1 =>
     some y1) y0.length 0 s0).bind fun (s2 : List Int) =>
   some s2) g_.2.1.length 0 y7).bind fun (s3 : List Int) =>
 (F_impl_zeros g_.1).bind fun y2 =>
 (forS (fun (k2 : Nat) (s4 : List Int × Int) =>
   ((F_impl_classes_root s3 ((k2 : Nat) : Int)).bind fun y3 =>
    (some (decide (y3 < ((k2 : Nat) : Int)))).bind fun a3 =>
    cond a3
    ((idxO s4.1 y3).bind fun a4 =>
     (setO s4.1 ((k2 : Nat) : Int) a4).bind fun a5 =>
     some (a5, s4.2))
    ((setO s4.1 ((k2 : Nat) : Int) s4.2).bind fun a6 =>
     (addO s4.2 1).bind fun a7 =>
     some (a6, a7))).bind fun (s5 : List Int × Int) =>
   some (s5.1, s5.2)) y2.length 0 (y2, 0)).bind fun (s6 : List Int × Int) =>
 some (s6.1, s6.2)

/-- the closed components: there is none, if each edge's component has a wire that was walked -/
noncomputable def F_impl_Graph_closedParts (g_ : Int × (List (Int × Int × List Int × List Int)) × List Int × List Int) (open_ : (Int × (List (Int × Int × List Int × List Int)) × List Int × List Int) × (List Int × List Int) × MI × MI × List Int × List Int) : Option (List Int) :=
 (F_impl_Graph_components g_).bind fun y =>
 (forS (fun (k : Nat) (s : List Int) =>
   (idxO g_.2.1 ((k : Nat) : Int)).bind fun e =>
   (F_impl_joined [e.2.2.1, e.2.2.2]).bind fun j =>
   (idxO j 0).bind fun a =>
   (idxO y.1 a).bind fun c =>
   some (s ++ [c])) g_.2.1.length 0 ([] : List Int)).bind fun (cs : List Int) =>
 cond (decide (g_.2.1.length ≤ maxN) && open_.2.2.1.kvs.all (fun p => (idxO y.1 p.1).isSome) && cs.all (fun c => open_.2.2.1.kvs.any fun p => decide (idxO y.1 p.1 = some c)))
  (some [])
  none

noncomputable def F_impl_Graph_canonicalNumbers_1 (k_ : (Int × (List (Int × Int × List Int × List Int)) × List Int × List Int) × (List Int × List Int) × MI × MI × List Int × List Int) (c0_ : Int) (c1_ : List Int) (c2_ : Int) (c3_ : List Int) : Option (Int × List Int × Int × List Int) :=
 ((kvO (fun (s0 : List Int) (k0 v0 : Int) =>
    (addO c0_ v0).bind fun a0 =>
    (setO s0 k0 a0).bind fun a1 =>
    some a1) k_.2.2.1.kvs c1_).bind fun (s1 : List Int) =>
  some s1).bind fun (s2 : List Int) =>
 ((kvO (fun (s3 : List Int) (k1 v1 : Int) =>
    (addO c2_ v1).bind fun a2 =>
    (setO s3 k1 a2).bind fun a3 =>
    some a3) k_.2.2.2.1.kvs c3_).bind fun (s4 : List Int) =>
  some s4).bind fun (s5 : List Int) =>
 (addO c0_ ((k_.2.2.1.kvs.length : Nat) : Int)).bind fun a4 =>
 (addO c2_ ((k_.2.2.2.1.kvs.length : Nat) : Int)).bind fun a5 =>
 some (a4, s2, a5, s5)

noncomputable def F_impl_Graph_canonicalNumbers (g_ : Int × (List (Int × Int × List Int × List Int)) × List Int × List Int) : Option (List Int × List Int) :=
 (F_impl_Graph_openWalk (g_.1, g_.2.1, g_.2.2.1, g_.2.2.2)).bind fun y7 =>
 ((F_impl_repeated (-1) g_.1).bind fun y0 =>
  (F_impl_repeated (-1) ((g_.2.1.length : Nat) : Int)).bind fun y1 =>
  some (y0, y1)).bind fun (s0 : List Int × List Int) =>
 (F_impl_Graph_canonicalNumbers_1 ((y7.1.1, g_.2.1, g_.2.2.1, g_.2.2.2), (y7.2.1.1, y7.2.1.2), y7.2.2.1, y7.2.2.2.1, y7.2.2.2.2.1, y7.2.2.2.2.2) 0 s0.1 0 s0.2).bind fun y2 =>
 (F_impl_Graph_closedParts (g_.1, g_.2.1, g_.2.2.1, g_.2.2.2) ((y7.1.1, g_.2.1, g_.2.2.1, g_.2.2.2), (y7.2.1.1, y7.2.1.2), y7.2.2.1, y7.2.2.2.1, y7.2.2.2.2.1, y7.2.2.2.2.2)).bind fun y3 =>
 (forS (fun (k0 : Nat) (_ : Unit) =>
   none) y3.length 0 ()).bind fun (_ : Unit) =>
 some (y2.2.1, y2.2.2.2)

noncomputable def F_impl_chosen (v_ : List Int) (at_ : List Int) : Option (List Int) :=
 (makeCO 0 ((at_.length : Nat) : Int) (0 : Int)).bind fun a3 =>
 (forS (fun (k8 : Nat) (s0 : List Int) =>
   (idxO at_ ((k8 : Nat) : Int)).bind fun a0 =>
   (idxO v_ a0).bind fun a1 =>
   (appO s0 [a1]).bind fun a2 =>
   some a2) at_.length 0 a3).bind fun (s1 : List Int) =>
 some s1

noncomputable def F_impl_mapped (list_ : List Int) (to_ : List Int) : Option (List Int) :=
 (F_impl_chosen to_ list_).bind fun y3 =>
 some y3

noncomputable def F_impl_Graph_moved (g_ : Int × (List (Int × Int × List Int × List Int)) × List Int × List Int) (count_ : Int) (to_ : List Int) : Option (Int × (List (Int × Int × List Int × List Int)) × List Int × List Int) :=
 ((F_impl_mapped g_.2.2.1 to_).bind fun y0 =>
  (F_impl_mapped g_.2.2.2 to_).bind fun y1 =>
  some (count_, y0, y1)).bind fun (s0 : Int × List Int × List Int) =>
 (forS (fun (k0 : Nat) (s1 : List (Int × Int × List Int × List Int)) =>
   (idxO g_.2.1 ((k0 : Nat) : Int)).bind fun a0 =>
   (F_impl_mapped a0.2.2.1 to_).bind fun y2 =>
   (F_impl_mapped a0.2.2.2 to_).bind fun y3 =>
   (appO s1 [(a0.1, a0.2.1, y2, y3)]).bind fun a1 =>
   some a1) g_.2.1.length 0 []).bind fun (s2 : List (Int × Int × List Int × List Int)) =>
 some (s0.1, s2, s0.2.1, s0.2.2)

noncomputable def F_impl_Graph_renumbered (g_ : Int × (List (Int × Int × List Int × List Int)) × List Int × List Int) (wires_ : List Int) (edges_ : List Int) : Option (Int × (List (Int × Int × List Int × List Int)) × List Int × List Int) :=
 (F_impl_Graph_moved (g_.1, g_.2.1, g_.2.2.1, g_.2.2.2) g_.1 wires_).bind fun y0 =>
 ((makeO ((y0.2.1.length : Nat) : Int) ((0, 0, [], []) : Int × Int × List Int × List Int)).bind fun a0 =>
  some (y0.1, a0)).bind fun (s0 : Int × (List (Int × Int × List Int × List Int))) =>
 (forS (fun (k0 : Nat) (s1 : List (Int × Int × List Int × List Int)) =>
   (idxO y0.2.1 ((k0 : Nat) : Int)).bind fun a1 =>
   (idxO edges_ ((k0 : Nat) : Int)).bind fun a2 =>
   (setO s1 a2 (a1.1, a1.2.1, a1.2.2.1, a1.2.2.2)).bind fun a3 =>
   some a3) y0.2.1.length 0 s0.2).bind fun (s2 : List (Int × Int × List Int × List Int)) =>
 some (s0.1, s2, y0.2.2.1, y0.2.2.2)

noncomputable def F_impl_Graph_canonical (g_ : Int × (List (Int × Int × List Int × List Int)) × List Int × List Int) : Option (Int × (List (Int × Int × List Int × List Int)) × List Int × List Int) :=
 (F_impl_Graph_canonicalNumbers (g_.1, g_.2.1, g_.2.2.1, g_.2.2.2)).bind fun y0 =>
 (F_impl_Graph_renumbered (g_.1, g_.2.1, g_.2.2.1, g_.2.2.2) y0.1 y0.2).bind fun y1 =>
 some (y1.1, y1.2.1, y1.2.2.1, y1.2.2.2)

noncomputable def F_impl_drawing_finish (d_ : (Int × (List (Int × Int × List Int × List Int)) × List Int × List Int)) : Option ((Int × (List (Int × Int × List Int × List Int)) × List Int × List Int) × Bool) :=
 (F_impl_Graph_isMonogamous (d_.1, d_.2.1, d_.2.2.1, d_.2.2.2)).bind fun y8 =>
 (some (!y8)).bind fun a0 =>
 cond a0
 (some ((0, [], [], []), false))
 ((F_impl_Graph_canonical (d_.1, d_.2.1, d_.2.2.1, d_.2.2.2)).bind fun y0 =>
  some ((y0.1, y0.2.1, y0.2.2.1, y0.2.2.2), true))

noncomputable def F_impl_MatrixGraph (p_ : Int) (m_ : Int × List (List Int)) : Option ((Int × (List (Int × Int × List Int × List Int)) × List Int × List Int) × Bool) :=
 ((F_impl_isMatrix p_ (m_.1, m_.2)).bind fun y0 =>
  (some (!y0)).bind fun a0 =>
  cond a0
  (some true)
  ((some (decide ((12 : Int) < ((m_.2.length : Nat) : Int)))).bind fun a1 =>
   cond a1
   (some true)
   ((some (decide ((12 : Int) < m_.1))).bind fun a2 =>
    some a2))).bind fun (s0 : Bool) =>
 cond s0
 (some ((0, [], [], []), false))
 ((F_impl_drawing_wires (0, [], [], []) ((m_.2.length : Nat) : Int)).bind fun y1 =>
  (F_impl_drawing_matrix (y1.1.1, [], y1.2, []) y1.2 m_.2 m_.1).bind fun y2 =>
  (F_impl_drawing_finish (y2.1.1, y2.1.2.1, y1.2, y2.2)).bind fun y3 =>
  some ((y3.1.1, y3.1.2.1, y3.1.2.2.1, y3.1.2.2.2), y3.2))

noncomputable def F_laws_eqIntS (a_ : List Int) (b_ : List Int) : Option Bool :=
 (some (!decide (((a_.length : Nat) : Int) = ((b_.length : Nat) : Int)))).bind fun a3 =>
 cond a3
 (some false)
 (seqO (whileO (fun (s0 : Int) =>
    (some (decide (s0 < ((a_.length : Nat) : Int)))).bind fun a0 =>
    cond a0
    ((idxO a_ s0).bind fun a1 =>
     (idxO b_ s0).bind fun a2 =>
     (some (!decide (a1 = a2))).bind fun a4 =>
     cond a4
     (some (.inr (.inr false)))
     ((addO s0 1).bind fun a5 =>
      some (.inl a5)))
    (some (.inr (.inl ())))) 0) fun (s1 : Unit) =>
  some true)

noncomputable def F_laws_eqEdge (a_ : Int × Int × List Int × List Int) (b_ : Int × Int × List Int × List Int) : Option Bool :=
 (some (!decide (a_.1 = b_.1))).bind fun a0 =>
 cond a0
 (some false)
 ((some (!decide (a_.2.1 = b_.2.1))).bind fun a1 =>
  cond a1
  (some false)
  ((F_laws_eqIntS a_.2.2.1 b_.2.2.1).bind fun y0 =>
   (some (!y0)).bind fun a2 =>
   cond a2
   (some false)
   ((F_laws_eqIntS a_.2.2.2 b_.2.2.2).bind fun y1 =>
    (some (!y1)).bind fun a3 =>
    cond a3
    (some false)
    (some true))))

noncomputable def F_laws_eqEdgeS (a_ : List (Int × Int × List Int × List Int)) (b_ : List (Int × Int × List Int × List Int)) : Option Bool :=
 (some (!decide (((a_.length : Nat) : Int) = ((b_.length : Nat) : Int)))).bind fun a3 =>
 cond a3
 (some false)
 (seqO (whileO (fun (s0 : Int) =>
    (some (decide (s0 < ((a_.length : Nat) : Int)))).bind fun a0 =>
    cond a0
    ((idxO a_ s0).bind fun a1 =>
     (idxO b_ s0).bind fun a2 =>
     (F_laws_eqEdge (a1.1, a1.2.1, a1.2.2.1, a1.2.2.2) (a2.1, a2.2.1, a2.2.2.1, a2.2.2.2)).bind fun y0 =>
     (some (!y0)).bind fun a4 =>
     cond a4
     (some (.inr (.inr false)))
     ((addO s0 1).bind fun a5 =>
      some (.inl a5)))
    (some (.inr (.inl ())))) 0) fun (s1 : Unit) =>
  some true)

noncomputable def F_laws_eqGraph (a_ : Int × (List (Int × Int × List Int × List Int)) × List Int × List Int) (b_ : Int × (List (Int × Int × List Int × List Int)) × List Int × List Int) : Option Bool :=
 (some (!decide (a_.1 = b_.1))).bind fun a0 =>
 cond a0
 (some false)
 ((F_laws_eqEdgeS a_.2.1 b_.2.1).bind fun y0 =>
  (some (!y0)).bind fun a1 =>
  cond a1
  (some false)
  ((F_laws_eqIntS a_.2.2.1 b_.2.2.1).bind fun y1 =>
   (some (!y1)).bind fun a2 =>
   cond a2
   (some false)
   ((F_laws_eqIntS a_.2.2.2 b_.2.2.2).bind fun y2 =>
    (some (!y2)).bind fun a3 =>
    cond a3
    (some false)
    (some true))))

noncomputable def F_laws_eqIntSS (a_ : List (List Int)) (b_ : List (List Int)) : Option Bool :=
 (some (!decide (((a_.length : Nat) : Int) = ((b_.length : Nat) : Int)))).bind fun a3 =>
 cond a3
 (some false)
 (seqO (whileO (fun (s0 : Int) =>
    (some (decide (s0 < ((a_.length : Nat) : Int)))).bind fun a0 =>
    cond a0
    ((idxO a_ s0).bind fun a1 =>
     (idxO b_ s0).bind fun a2 =>
     (F_laws_eqIntS a1 a2).bind fun y0 =>
     (some (!y0)).bind fun a4 =>
     cond a4
     (some (.inr (.inr false)))
     ((addO s0 1).bind fun a5 =>
      some (.inl a5)))
    (some (.inr (.inl ())))) 0) fun (s1 : Unit) =>
  some true)

noncomputable def F_laws_eqMatrix (a_ : Int × List (List Int)) (b_ : Int × List (List Int)) : Option Bool :=
 (some (!decide (a_.1 = b_.1))).bind fun a9 =>
 cond a9
 (some false)
 ((F_laws_eqIntSS a_.2 b_.2).bind fun y0 =>
  (some (!y0)).bind fun a0 =>
  cond a0
  (some false)
  (some true))

noncomputable def F_laws_markIntS (a_ : List Int) (k_ : Int) : Option (List Int × Int) :=
 (whileO (fun (s0 : List Int × Int × Int) =>
   (some (decide (s0.2.2 < ((s0.1.length : Nat) : Int)))).bind fun a0 =>
   cond a0
   ((setO s0.1 s0.2.2 s0.2.1).bind fun a1 =>
    (addO s0.2.1 1).bind fun a2 =>
    (addO s0.2.2 1).bind fun a3 =>
    some (.inl (a1, a2, a3)))
   (some (.inr (s0.1, s0.2.1)))) (a_, k_, 0)).bind fun (s1 : List Int × Int) =>
 some (s1.1, s1.2)

noncomputable def F_laws_markIntSS (a_ : List (List Int)) (k_ : Int) : Option (List (List Int) × Int) :=
 (whileO (fun (s0 : List (List Int) × Int × Int) =>
   (some (decide (s0.2.2 < ((s0.1.length : Nat) : Int)))).bind fun a0 =>
   cond a0
   ((idxO s0.1 s0.2.2).bind fun a1 =>
    (F_laws_markIntS a1 s0.2.1).bind fun y0 =>
    (setO s0.1 s0.2.2 y0.1).bind fun a2 =>
    (addO s0.2.2 1).bind fun a3 =>
    some (.inl (a2, y0.2, a3)))
   (some (.inr (s0.1, s0.2.1)))) (a_, k_, 0)).bind fun (s1 : List (List Int) × Int) =>
 some (s1.1, s1.2)

noncomputable def F_laws_markMatrix (a_ : Int × List (List Int)) (k_ : Int) : Option ((Int × List (List Int)) × Int) :=
 (F_laws_markIntSS a_.2 k_).bind fun y5 =>
 some ((a_.1, y5.1), y5.2)

noncomputable def F_laws_markEdgeS (a_ : List (Int × Int × List Int × List Int)) (k_ : Int) : Option ((List (Int × Int × List Int × List Int)) × Int) :=
 (whileO (fun (s0 : (List (Int × Int × List Int × List Int)) × Int × Int) =>
   (some (decide (s0.2.2 < ((s0.1.length : Nat) : Int)))).bind fun a0 =>
   cond a0
   ((idxO s0.1 s0.2.2).bind fun a1 =>
    (setO s0.1 s0.2.2 (s0.2.1, a1.2.1, a1.2.2.1, a1.2.2.2)).bind fun a2 =>
    (addO s0.2.1 1).bind fun a3 =>
    (idxO a2 s0.2.2).bind fun a4 =>
    (setO a2 s0.2.2 (a4.1, a3, a4.2.2.1, a4.2.2.2)).bind fun a5 =>
    (addO a3 1).bind fun a6 =>
    (idxO a5 s0.2.2).bind fun a7 =>
    (F_laws_markIntS a7.2.2.1 a6).bind fun y0 =>
    (setO a5 s0.2.2 (a7.1, a7.2.1, y0.1, a7.2.2.2)).bind fun a8 =>
    (idxO a8 s0.2.2).bind fun a9 =>
    (F_laws_markIntS a9.2.2.2 y0.2).bind fun y1 =>
    (setO a8 s0.2.2 (a9.1, a9.2.1, a9.2.2.1, y1.1)).bind fun a10 =>
    (addO s0.2.2 1).bind fun a11 =>
    some (.inl (a10, y1.2, a11)))
   (some (.inr (s0.1, s0.2.1)))) (a_, k_, 0)).bind fun (s1 : (List (Int × Int × List Int × List Int)) × Int) =>
 some (s1.1, s1.2)

noncomputable def F_laws_markGraph (a_ : Int × (List (Int × Int × List Int × List Int)) × List Int × List Int) (k_ : Int) : Option ((Int × (List (Int × Int × List Int × List Int)) × List Int × List Int) × Int) :=
 (F_laws_markEdgeS a_.2.1 k_).bind fun y7 =>
 (F_laws_markIntS a_.2.2.1 y7.2).bind fun y0 =>
 (F_laws_markIntS a_.2.2.2 y0.2).bind fun y1 =>
 some ((a_.1, y7.1, y0.1, y1.1), y1.2)

noncomputable def F_laws_heldIntS (a_ : List Int) (k_ : Int) : Option Int :=
 seqO (whileO (fun (s0 : Int × Int) =>
   (some (decide (s0.2 < ((a_.length : Nat) : Int)))).bind fun a0 =>
   cond a0
   ((idxO a_ s0.2).bind fun a1 =>
    (some (!decide (a1 = s0.1))).bind fun a2 =>
    cond a2
    (some (.inr (.inr (-1))))
    ((addO s0.1 1).bind fun a3 =>
     (addO s0.2 1).bind fun a4 =>
     some (.inl (a3, a4))))
   (some (.inr (.inl s0.1)))) (k_, 0)) fun (s1 : Int) =>
 some s1

noncomputable def F_laws_heldEdgeS (a_ : List (Int × Int × List Int × List Int)) (k_ : Int) : Option Int :=
 seqO (whileO (fun (s0 : Int × Int) =>
   (some (decide (s0.2 < ((a_.length : Nat) : Int)))).bind fun a0 =>
   cond a0
   ((idxO a_ s0.2).bind fun a1 =>
    (some (!decide (a1.1 = s0.1))).bind fun a2 =>
    cond a2
    (some (.inr (.inr (-1))))
    ((addO s0.1 1).bind fun a3 =>
     (idxO a_ s0.2).bind fun a4 =>
     (some (!decide (a4.2.1 = a3))).bind fun a5 =>
     cond a5
     (some (.inr (.inr (-1))))
     ((addO a3 1).bind fun a6 =>
      (idxO a_ s0.2).bind fun a7 =>
      (F_laws_heldIntS a7.2.2.1 a6).bind fun y0 =>
      (some (decide (y0 < 0))).bind fun a8 =>
      cond a8
      (some (.inr (.inr (-1))))
      ((idxO a_ s0.2).bind fun a9 =>
       (F_laws_heldIntS a9.2.2.2 y0).bind fun y1 =>
       (some (decide (y1 < 0))).bind fun a10 =>
       cond a10
       (some (.inr (.inr (-1))))
       ((addO s0.2 1).bind fun a11 =>
        some (.inl (y1, a11)))))))
   (some (.inr (.inl s0.1)))) (k_, 0)) fun (s1 : Int) =>
 some s1

noncomputable def F_laws_heldGraph (a_ : Int × (List (Int × Int × List Int × List Int)) × List Int × List Int) (k_ : Int) : Option Int :=
 (F_laws_heldEdgeS a_.2.1 k_).bind fun y7 =>
 (some (decide (y7 < 0))).bind fun a0 =>
 cond a0
 (some (-1))
 ((F_laws_heldIntS a_.2.2.1 y7).bind fun y0 =>
  (some (decide (y0 < 0))).bind fun a1 =>
  cond a1
  (some (-1))
  ((F_laws_heldIntS a_.2.2.2 y0).bind fun y1 =>
   (some (decide (y1 < 0))).bind fun a2 =>
   cond a2
   (some (-1))
   (some y1)))

noncomputable def F_laws_FnExactMatrixGraph (aP_ : Int) (aM_ : Int × List (List Int)) : Option Bool :=
 (F_laws_szMatrix (aM_.1, aM_.2) 1048576).bind fun y6 =>
 (some (decide (y6 < 0))).bind fun a9 =>
 cond a9
 (some true)
 ((F_laws_toMatrix (aM_.1, aM_.2)).bind fun y0 =>
  (F_spec_MatrixGraph aP_ (y0.1, y0.2)).bind fun y1 =>
  (F_laws_toMatrix (aM_.1, aM_.2)).bind fun y2 =>
  (F_impl_MatrixGraph aP_ (y2.1, y2.2)).bind fun y3 =>
  ((F_laws_eqGraph (y3.1.1, y3.1.2.1, y3.1.2.2.1, y3.1.2.2.2) (y1.1.1, y1.1.2.1, y1.1.2.2.1, y1.1.2.2.2)).bind fun y4 =>
   (some (!y4)).bind fun a0 =>
   cond a0
   (some true)
   ((some (!decide (y3.2 = y1.2))).bind fun a1 =>
    some a1)).bind fun (s0 : Bool) =>
  cond s0
  (some false)
  ((F_laws_toMatrix (aM_.1, aM_.2)).bind fun y5 =>
   (F_laws_eqMatrix (y2.1, y2.2) (y5.1, y5.2)).bind fun y7 =>
   (some (!y7)).bind fun a2 =>
   cond a2
   (some false)
   ((F_laws_markMatrix (y2.1, y2.2) 1).bind fun y8 =>
    ((some (decide (y8.2 < 0))).bind fun a3 =>
     cond a3
     (some true)
     ((F_laws_eqGraph (y3.1.1, y3.1.2.1, y3.1.2.2.1, y3.1.2.2.2) (y1.1.1, y1.1.2.1, y1.1.2.2.1, y1.1.2.2.2)).bind fun y9 =>
      (some (!y9)).bind fun a4 =>
      cond a4
      (some true)
      ((some (!decide (y3.2 = y1.2))).bind fun a5 =>
       some a5))).bind fun (s1 : Bool) =>
    cond s1
    (some false)
    ((F_laws_markGraph (y3.1.1, y3.1.2.1, y3.1.2.2.1, y3.1.2.2.2) 1).bind fun y10 =>
     (F_laws_heldGraph (y3.1.1, y10.1.2.1, y10.1.2.2.1, y10.1.2.2.2) 1).bind fun y11 =>
     (some (decide (y11 < 0))).bind fun a6 =>
     cond a6
     (some false)
     ((some (!decide (y11 = y10.2))).bind fun a7 =>
      cond a7
      (some false)
      ((F_laws_toMatrix (aM_.1, aM_.2)).bind fun y13 =>
       (F_impl_MatrixGraph aP_ (y13.1, y13.2)).bind fun y14 =>
       ((F_laws_eqGraph (y14.1.1, y14.1.2.1, y14.1.2.2.1, y14.1.2.2.2) (y1.1.1, y1.1.2.1, y1.1.2.2.1, y1.1.2.2.2)).bind fun y15 =>
        (some (!y15)).bind fun a8 =>
        cond a8
        (some true)
        ((some (!decide (y14.2 = y1.2))).bind fun a10 =>
         some a10)).bind fun (s2 : Bool) =>
       cond s2
       (some false)
       ((F_laws_heldGraph (y3.1.1, y10.1.2.1, y10.1.2.2.1, y10.1.2.2.2) 1).bind fun y16 =>
        (some (decide (y16 < 0))).bind fun a11 =>
        cond a11
        (some false)
        ((some (!decide (y16 = y10.2))).bind fun a12 =>
         cond a12
         (some false)
         (some true)))))))))
end Go.Proofs.YtbofgnbanmbopaaGreatDoor
