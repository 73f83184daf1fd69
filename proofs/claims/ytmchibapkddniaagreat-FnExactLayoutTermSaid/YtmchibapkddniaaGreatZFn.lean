/-
 Partial functions, printed by a program (wip/y/gen.py): what each function of Go computes, over plain data. No program in sight. No condition.
-/
import Derived.Test.YtmchibapkddniaaGreatZF
namespace Go.Proofs.YtmchibapkddniaaGreat
set_option linter.unusedVariables false

noncomputable def F_slices_Grow_impl_Node_impl_Node (n_ : Int) : Option (List (Int × Int × ByteArray)) := if 0 ≤ n_ ∧ n_ ≤ 1000000 then some [] else none

noncomputable def F_laws_szNode (a_ : Int × Int × ByteArray) (left_ : Int) : Option Int :=
 (subO left_ ((a_.2.2.size : Nat) : Int)).bind fun a4 =>
 (some (decide (a4 < 0))).bind fun a6 =>
 cond a6
 (some (-1))
 (some a4)

noncomputable def F_laws_szNodeS (a_ : List (Int × Int × ByteArray)) (left_ : Int) : Option Int :=
 (subO left_ ((a_.length : Nat) : Int)).bind fun a2 =>
 (some (decide (a2 < 0))).bind fun a4 =>
 cond a4
 (some (-1))
 (seqO (whileO (fun (s0 : Int × Int) =>
    (some (decide (s0.2 < ((a_.length : Nat) : Int)))).bind fun a0 =>
    cond a0
    ((idxO a_ s0.2).bind fun a1 =>
     (F_laws_szNode (a1.1, a1.2.1, a1.2.2) s0.1).bind fun y0 =>
     (some (decide (y0 < 0))).bind fun a3 =>
     cond a3
     (some (.inr (.inr (-1))))
     ((addO s0.2 1).bind fun a5 =>
      some (.inl (y0, a5))))
    (some (.inr (.inl s0.1)))) (a2, 0)) fun (s1 : Int) =>
  some s1)

noncomputable def F_laws_szTerm (a_ : (List (Int × Int × ByteArray))) (left_ : Int) : Option Int :=
 (F_laws_szNodeS a_ left_).bind fun y5 =>
 (some (decide (y5 < 0))).bind fun a8 =>
 cond a8
 (some (-1))
 (some y5)

noncomputable def F_laws_toNode (a_ : Int × Int × ByteArray) : Option (Int × Int × ByteArray) :=
 some (a_.1, a_.2.1, a_.2.2)

noncomputable def F_laws_toNodeS (a_ : List (Int × Int × ByteArray)) : Option (List (Int × Int × ByteArray)) :=
 (makeO ((a_.length : Nat) : Int) ((0, 0, .empty) : Int × Int × ByteArray)).bind fun a2 =>
 (whileO (fun (s0 : (List (Int × Int × ByteArray)) × Int) =>
   (some (decide (s0.2 < ((a_.length : Nat) : Int)))).bind fun a0 =>
   cond a0
   ((idxO a_ s0.2).bind fun a1 =>
    (F_laws_toNode (a1.1, a1.2.1, a1.2.2)).bind fun y0 =>
    (setO s0.1 s0.2 (y0.1, y0.2.1, y0.2.2)).bind fun a3 =>
    (addO s0.2 1).bind fun a4 =>
    some (.inl (a3, a4)))
   (some (.inr s0.1))) (a2, 0)).bind fun (s1 : List (Int × Int × ByteArray)) =>
 some s1

noncomputable def F_laws_toTerm (a_ : (List (Int × Int × ByteArray))) : Option (List (Int × Int × ByteArray)) :=
 (F_laws_toNodeS a_).bind fun y0 =>
 some y0

noncomputable def F_spec_l1In (n_ : Int) (lo_ : Int) (hi_ : Int) : Option Bool :=
 ((some (decide (lo_ ≤ n_))).bind fun a0 =>
  cond a0
  ((some (decide (n_ ≤ hi_))).bind fun a1 =>
   some a1)
  (some false)).bind fun (s7 : Bool) =>
 some s7

noncomputable def F_spec_tmLeaf (n_ : Int × Int × ByteArray) : Option Bool :=
 ((some (!decide ((n_.2.2 : ByteArray) = .empty))).bind fun a0 =>
  cond a0
  (some true)
  ((F_spec_l1In n_.1 1 14).bind fun y0 =>
   (some (!y0)).bind fun a1 =>
   some a1)).bind fun (s0 : Bool) =>
 cond s0
 (some false)
 ((some (decide (n_.1 = 1))).bind fun a2 =>
  cond a2
  ((F_spec_l1In n_.2.1 0 12).bind fun y1 =>
   some y1)
  (((some (decide (n_.1 = 7))).bind fun a3 =>
    cond a3
    (some true)
    ((some (decide (n_.1 = 13))).bind fun a4 =>
     some a4)).bind fun (s1 : Bool) =>
   cond s1
   ((F_spec_l1In n_.2.1 0 96).bind fun y2 =>
    some y2)
   ((some (decide (n_.2.1 = 0))).bind fun a5 =>
    some a5)))

noncomputable def F_spec_tmKind (kind_ : Int) : Option (Int × Int) :=
 (some (decide (kind_ = 2))).bind fun a1 =>
 cond a1
 (some (2, 2))
 (((some (decide (kind_ = 3))).bind fun a0 =>
   cond a0
   (some true)
   ((some (decide (kind_ = 11))).bind fun a2 =>
    some a2)).bind fun (s0 : Bool) =>
  cond s0
  (some (1, 2))
  (((some (decide (kind_ = 4))).bind fun a3 =>
    cond a3
    (some true)
    ((some (decide (kind_ = 12))).bind fun a4 =>
     some a4)).bind fun (s1 : Bool) =>
   cond s1
   (some (1, 0))
   (((some (decide (kind_ = 5))).bind fun a5 =>
     cond a5
     (some true)
     ((some (decide (kind_ = 9))).bind fun a6 =>
      some a6)).bind fun (s2 : Bool) =>
    cond s2
    (some (2, 1))
    (((some (decide (kind_ = 6))).bind fun a7 =>
      cond a7
      (some true)
      ((some (decide (kind_ = 10))).bind fun a8 =>
       some a8)).bind fun (s3 : Bool) =>
     cond s3
     (some (0, 1))
     (some (1, 1))))))

noncomputable def F_spec_tmArity (n_ : Int × Int × ByteArray) : Option (Int × Int) :=
 (some (decide (n_.1 = 1))).bind fun a4 =>
 cond a4
 (some (n_.2.1, n_.2.1))
 ((F_spec_tmKind n_.1).bind fun y7 =>
  some (y7.1, y7.2))

noncomputable def F_spec_lbFind (lib_ : List (ByteArray × Int × Int × (List (Int × Int × ByteArray)))) (name_ : ByteArray) : Option Int :=
 seqO (forO (fun (k2 : Nat) (_ : Unit) =>
   (idxO lib_ ((k2 : Nat) : Int)).bind fun a0 =>
   (some (decide ((a0.1 : ByteArray) = name_))).bind fun a1 =>
   cond a1
   (some (.inr ((k2 : Nat) : Int)))
   (some (.inl ()))) lib_.length 0 ()) fun (_ : Unit) =>
 some (-1)

noncomputable def F_spec_lbScan (lib_ : List (ByteArray × Int × Int × (List (Int × Int × ByteArray)))) (t_ : (List (Int × Int × ByteArray))) : Option ((List Int × List Int × List Int) × Bool) :=
 (F_spec_l1In ((t_.length : Nat) : Int) 1 400).bind fun y0 =>
 (some (!y0)).bind fun a0 =>
 cond a0
 (some (([], [], []), false))
 (seqO (forO (fun (k0 : Nat) (s0 : List Int × List Int × List Int) =>
    seqO ((idxO t_ ((k0 : Nat) : Int)).bind fun a1 =>
     ((F_spec_tmLeaf (a1.1, a1.2.1, a1.2.2)).bind fun y1 =>
      cond y1
      (some true)
      ((some (decide (a1.1 = 17))).bind fun a2 =>
       some a2)).bind fun (s1 : Bool) =>
     cond s1
     ((F_spec_tmArity (a1.1, a1.2.1, a1.2.2)).bind fun y2 =>
      seqO ((some (decide (a1.1 = 17))).bind fun a3 =>
       cond a3
       ((F_spec_lbFind lib_ a1.2.2).bind fun y3 =>
        ((some (decide (y3 < 0))).bind fun a4 =>
         cond a4
         (some true)
         ((some (!decide (a1.2.1 = 0))).bind fun a5 =>
          some a5)).bind fun (s2 : Bool) =>
        cond s2
        (some (.inr (.inr (.inr ((s0.1, s0.2.1, s0.2.2), false)))))
        ((idxO lib_ y3).bind fun a6 =>
         (idxO lib_ y3).bind fun a7 =>
         some (.inl (a7.2.2.1, a6.2.1))))
       (some (.inl (y2.2, y2.1)))) fun (s3 : Int × Int) =>
      (appO s0.1 [((k0 : Nat) : Int)]).bind fun a8 =>
      (appO s0.2.1 [s3.2]).bind fun a9 =>
      (appO s0.2.2 [s3.1]).bind fun a10 =>
      some (.inl (a8, a9, a10)))
     (((some (!decide (a1.1 = 15))).bind fun a11 =>
       cond a11
       ((some (!decide (a1.1 = 16))).bind fun a12 =>
        cond a12
        (some true)
        ((some (!decide ((a1.2.2 : ByteArray) = .empty))).bind fun a13 =>
         cond a13
         (some true)
         ((some (!decide (a1.2.1 = 0))).bind fun a14 =>
          cond a14
          (some true)
          ((some (decide (((k0 : Nat) : Int) < 2))).bind fun a16 =>
           cond a16
           (some true)
           ((subO ((k0 : Nat) : Int) 1).bind fun a17 =>
            (idxO s0.1 a17).bind fun a18 =>
            (some (decide (a18 < 1))).bind fun a19 =>
            some a19)))))
       ((some (!decide ((a1.2.2 : ByteArray) = .empty))).bind fun a20 =>
        cond a20
        (some true)
        ((some (!decide (a1.2.1 = 0))).bind fun a21 =>
         cond a21
         (some true)
         ((some (decide (((k0 : Nat) : Int) < 2))).bind fun a22 =>
          cond a22
          (some true)
          ((subO ((k0 : Nat) : Int) 1).bind fun a23 =>
           (idxO s0.1 a23).bind fun a24 =>
           (some (decide (a24 < 1))).bind fun a25 =>
           some a25))))).bind fun (s4 : Bool) =>
      cond s4
      (some (.inr (.inr ((s0.1, s0.2.1, s0.2.2), false))))
      ((subO ((k0 : Nat) : Int) 1).bind fun a26 =>
       (idxO s0.1 a26).bind fun a27 =>
       (subO a27 1).bind fun a28 =>
       (idxO s0.2.1 a28).bind fun a29 =>
       (idxO s0.2.1 a26).bind fun a30 =>
       (addO a29 a30).bind fun a31 =>
       (idxO s0.2.2 a28).bind fun a32 =>
       (idxO s0.2.2 a26).bind fun a33 =>
       (addO a32 a33).bind fun a34 =>
       seqO ((some (decide (a1.1 = 15))).bind fun a35 =>
        cond a35
        ((idxO s0.2.2 a28).bind fun a36 =>
         (idxO s0.2.1 a26).bind fun a37 =>
         (some (!decide (a36 = a37))).bind fun a38 =>
         cond a38
         (some (.inr (.inr (.inr ((s0.1, s0.2.1, s0.2.2), false)))))
         ((idxO s0.2.1 a28).bind fun a39 =>
          (idxO s0.2.2 a26).bind fun a40 =>
          some (.inl (a39, a40))))
        (some (.inl (a31, a34)))) fun (s5 : Int × Int) =>
       ((some (decide ((12 : Int) < s5.1))).bind fun a41 =>
        cond a41
        (some true)
        ((some (decide ((12 : Int) < s5.2))).bind fun a42 =>
         some a42)).bind fun (s6 : Bool) =>
       cond s6
       (some (.inr (.inr ((s0.1, s0.2.1, s0.2.2), false))))
       ((idxO s0.1 a28).bind fun a43 =>
        (appO s0.1 [a43]).bind fun a44 =>
        (appO s0.2.1 [s5.1]).bind fun a45 =>
        (appO s0.2.2 [s5.2]).bind fun a46 =>
        some (.inl (a44, a45, a46)))))) fun (s7 : List Int × List Int × List Int) =>
    some (.inl (s7.1, s7.2.1, s7.2.2))) t_.length 0 ([], [], [])) fun (s8 : List Int × List Int × List Int) =>
  (subO ((t_.length : Nat) : Int) 1).bind fun a47 =>
  (idxO s8.1 a47).bind fun a48 =>
  (some (decide (a48 = 0))).bind fun a49 =>
  some ((s8.1, s8.2.1, s8.2.2), a49))

noncomputable def F_spec_tmScan (t_ : (List (Int × Int × ByteArray))) : Option ((List Int × List Int × List Int) × Bool) :=
 (F_spec_lbScan [] t_).bind fun y9 =>
 some ((y9.1.1, y9.1.2.1, y9.1.2.2), y9.2)

noncomputable def F_spec_tmValid (t_ : (List (Int × Int × ByteArray))) : Option Bool :=
 (F_spec_tmScan t_).bind fun y5 =>
 some y5.2

noncomputable def F_spec_tmTop (t_ : (List (Int × Int × ByteArray))) : Option Int :=
 (subO ((t_.length : Nat) : Int) 1).bind fun a5 =>
 (idxO t_ a5).bind fun a0 =>
 some a0.1

noncomputable def F_spec_hgId (n_ : Int) : Option (Int × (List (Int × Int × List Int × List Int)) × List Int × List Int) :=
 (whileO (fun (s0 : List Int × List Int × Int) =>
   (some (decide (s0.2.2 < n_))).bind fun a0 =>
   cond a0
   ((appO s0.1 [s0.2.2]).bind fun a1 =>
    (appO s0.2.1 [s0.2.2]).bind fun a2 =>
    (addO s0.2.2 1).bind fun a3 =>
    some (.inl (a1, a2, a3)))
   (some (.inr (s0.1, s0.2.1)))) ([], [], 0)).bind fun (s1 : List Int × List Int) =>
 some (n_, [], s1.1, s1.2)

noncomputable def F_spec_hgLeaf (x_ : Int × Int × ByteArray) : Option (Int × (List (Int × Int × List Int × List Int)) × List Int × List Int) :=
 (some (decide (x_.1 = 1))).bind fun a7 =>
 cond a7
 ((F_spec_hgId x_.2.1).bind fun y0 =>
  some (y0.1, y0.2.1, y0.2.2.1, y0.2.2.2))
 ((some (decide (x_.1 = 2))).bind fun a0 =>
  cond a0
  (some (2, [], [0, 1], [1, 0]))
  ((F_spec_tmKind x_.1).bind fun y1 =>
   (addO y1.1 y1.2).bind fun a1 =>
   (whileO (fun (s0 : List Int × List Int × List Int × List Int × Int) =>
     (addO y1.1 y1.2).bind fun a2 =>
     (some (decide (s0.2.2.2.2 < a2))).bind fun a3 =>
     cond a3
     ((some (decide (s0.2.2.2.2 < y1.1))).bind fun a4 =>
      cond a4
      ((appO s0.1 [s0.2.2.2.2]).bind fun a5 =>
       (appO s0.2.2.1 [s0.2.2.2.2]).bind fun a6 =>
       (addO s0.2.2.2.2 1).bind fun a8 =>
       some (.inl (a5, s0.2.1, a6, s0.2.2.2.1, a8)))
      ((appO s0.2.1 [s0.2.2.2.2]).bind fun a9 =>
       (appO s0.2.2.2.1 [s0.2.2.2.2]).bind fun a11 =>
       (addO s0.2.2.2.2 1).bind fun a12 =>
       some (.inl (s0.1, a9, s0.2.2.1, a11, a12))))
     (some (.inr (s0.1, s0.2.1, s0.2.2.1, s0.2.2.2.1)))) ([], [], [], [], 0)).bind fun (s1 : List Int × List Int × List Int × List Int) =>
   some (a1, [(x_.1, x_.2.1, s1.2.2.1, s1.2.2.2)], s1.1, s1.2.1)))

noncomputable def F_spec_tmOwn (nodes_ : List (Int × Int × ByteArray)) : Option (List (Int × Int × ByteArray)) :=
 (appO ([] : List (Int × Int × ByteArray)) nodes_).bind fun a8 =>
 some a8

noncomputable def F_spec_tmParts (t_ : (List (Int × Int × ByteArray))) : Option ((List (Int × Int × ByteArray)) × (List (Int × Int × ByteArray))) :=
 (F_spec_tmScan t_).bind fun y0 =>
 (subO ((t_.length : Nat) : Int) 1).bind fun a0 =>
 (subO a0 1).bind fun a1 =>
 (idxO y0.1.1 a1).bind fun a2 =>
 (sliceO t_ 0 a2).bind fun a3 =>
 (sliceO t_ a2 a0).bind fun a4 =>
 (F_spec_tmOwn a3).bind fun y1 =>
 (F_spec_tmOwn a4).bind fun y2 =>
 some (y1, y2)

noncomputable def F_spec_hgList (l_ : List Int) (to_ : List Int) : Option (List Int) :=
 (forS (fun (k3 : Nat) (s0 : List Int) =>
   (idxO l_ ((k3 : Nat) : Int)).bind fun a0 =>
   (idxO to_ a0).bind fun a1 =>
   (appO s0 [a1]).bind fun a2 =>
   some a2) l_.length 0 []).bind fun (s1 : List Int) =>
 some s1

noncomputable def F_spec_hgMap (g_ : Int × (List (Int × Int × List Int × List Int)) × List Int × List Int) (to_ : List Int) (wires_ : Int) : Option (Int × (List (Int × Int × List Int × List Int)) × List Int × List Int) :=
 ((F_spec_hgList g_.2.2.1 to_).bind fun y0 =>
  (F_spec_hgList g_.2.2.2 to_).bind fun y1 =>
  some (wires_, y0, y1)).bind fun (s0 : Int × List Int × List Int) =>
 (forS (fun (k0 : Nat) (s1 : List (Int × Int × List Int × List Int)) =>
   (idxO g_.2.1 ((k0 : Nat) : Int)).bind fun a0 =>
   (F_spec_hgList a0.2.2.1 to_).bind fun y2 =>
   (F_spec_hgList a0.2.2.2 to_).bind fun y3 =>
   (appO s1 [(a0.1, a0.2.1, y2, y3)]).bind fun a1 =>
   some a1) g_.2.1.length 0 []).bind fun (s2 : List (Int × Int × List Int × List Int)) =>
 some (s0.1, s2, s0.2.1, s0.2.2)

noncomputable def F_spec_hgOwn (g_ : Int × (List (Int × Int × List Int × List Int)) × List Int × List Int) : Option (Int × (List (Int × Int × List Int × List Int)) × List Int × List Int) :=
 (makeO g_.1 (0 : Int)).bind fun a0 =>
 (forS (fun (k0 : Nat) (s0 : List Int) =>
   (setO s0 ((k0 : Nat) : Int) ((k0 : Nat) : Int)).bind fun a1 =>
   some a1) a0.length 0 a0).bind fun (s1 : List Int) =>
 (F_spec_hgMap (g_.1, g_.2.1, g_.2.2.1, g_.2.2.2) s1 g_.1).bind fun y0 =>
 some (y0.1, y0.2.1, y0.2.2.1, y0.2.2.2)

noncomputable def F_spec_hgBeside (a_ : Int × (List (Int × Int × List Int × List Int)) × List Int × List Int) (b_ : Int × (List (Int × Int × List Int × List Int)) × List Int × List Int) : Option (Int × (List (Int × Int × List Int × List Int)) × List Int × List Int) :=
 (makeO b_.1 (0 : Int)).bind fun a0 =>
 (forS (fun (k0 : Nat) (s0 : List Int) =>
   (addO ((k0 : Nat) : Int) a_.1).bind fun a1 =>
   (setO s0 ((k0 : Nat) : Int) a1).bind fun a2 =>
   some a2) a0.length 0 a0).bind fun (s1 : List Int) =>
 (F_spec_hgOwn (a_.1, a_.2.1, a_.2.2.1, a_.2.2.2)).bind fun y0 =>
 (F_spec_hgMap (b_.1, b_.2.1, b_.2.2.1, b_.2.2.2) s1 b_.1).bind fun y1 =>
 (addO y0.1 b_.1).bind fun a3 =>
 (appO y0.2.2.1 y1.2.2.1).bind fun a4 =>
 (appO y0.2.2.2 y1.2.2.2).bind fun a5 =>
 (appO y0.2.1 y1.2.1).bind fun a6 =>
 some (a3, a6, a4, a5)

noncomputable def F_spec_l1Own (l_ : List Int) : Option (List Int) :=
 (appO ([] : List Int) l_).bind fun a5 =>
 some a5

noncomputable def F_spec_l1Most (a_ : Int) (b_ : Int) : Option Int :=
 (some (decide (b_ < a_))).bind fun a1 =>
 cond a1
 (some a_)
 (some b_)

noncomputable def F_spec_l1Least (a_ : Int) (b_ : Int) : Option Int :=
 (some (decide (a_ < b_))).bind fun a1 =>
 cond a1
 (some a_)
 (some b_)

noncomputable def F_spec_hgCounts (g_ : Int × (List (Int × Int × List Int × List Int)) × List Int × List Int) : Option (List Int × List Int) :=
 (makeO g_.1 (0 : Int)).bind fun a7 =>
 (makeO g_.1 (0 : Int)).bind fun a0 =>
 (forS (fun (k0 : Nat) (s0 : List Int) =>
   (idxO g_.2.2.1 ((k0 : Nat) : Int)).bind fun a1 =>
   (idxO s0 a1).bind fun a2 =>
   (addO a2 1).bind fun a3 =>
   (setO s0 a1 a3).bind fun a4 =>
   some a4) g_.2.2.1.length 0 a7).bind fun (s1 : List Int) =>
 (forS (fun (k1 : Nat) (s2 : List Int) =>
   (idxO g_.2.2.2 ((k1 : Nat) : Int)).bind fun a5 =>
   (idxO s2 a5).bind fun a6 =>
   (addO a6 1).bind fun a8 =>
   (setO s2 a5 a8).bind fun a9 =>
   some a9) g_.2.2.2.length 0 a0).bind fun (s3 : List Int) =>
 (forS (fun (k2 : Nat) (s4 : List Int × List Int) =>
   (idxO g_.2.1 ((k2 : Nat) : Int)).bind fun a10 =>
   (forS (fun (k3 : Nat) (s5 : List Int) =>
     (idxO a10.2.2.2 ((k3 : Nat) : Int)).bind fun a11 =>
     (idxO s5 a11).bind fun a13 =>
     (addO a13 1).bind fun a14 =>
     (setO s5 a11 a14).bind fun a15 =>
     some a15) a10.2.2.2.length 0 s4.1).bind fun (s6 : List Int) =>
   (forS (fun (k4 : Nat) (s7 : List Int) =>
     (idxO a10.2.2.1 ((k4 : Nat) : Int)).bind fun a16 =>
     (idxO s7 a16).bind fun a17 =>
     (addO a17 1).bind fun a18 =>
     (setO s7 a16 a18).bind fun a19 =>
     some a19) a10.2.2.1.length 0 s4.2).bind fun (s8 : List Int) =>
   some (s6, s8)) g_.2.1.length 0 (s1, s3)).bind fun (s9 : List Int × List Int) =>
 some (s9.1, s9.2)

noncomputable def F_spec_hgGlued (g_ : Int × (List (Int × Int × List Int × List Int)) × List Int × List Int) (a_ : List Int) (b_ : List Int) : Option ((Int × (List (Int × Int × List Int × List Int)) × List Int × List Int) × List Int) :=
 (makeO g_.1 (0 : Int)).bind fun a0 =>
 (forS (fun (k0 : Nat) (s0 : List Int) =>
   (setO s0 ((k0 : Nat) : Int) ((k0 : Nat) : Int)).bind fun a1 =>
   some a1) a0.length 0 a0).bind fun (s1 : List Int) =>
 (forS (fun (k1 : Nat) (s2 : List Int) =>
   (idxO a_ ((k1 : Nat) : Int)).bind fun a2 =>
   (idxO b_ ((k1 : Nat) : Int)).bind fun a3 =>
   (idxO s2 a2).bind fun a4 =>
   (idxO s2 a3).bind fun a5 =>
   (forS (fun (k2 : Nat) (s3 : List Int) =>
     (idxO s3 ((k2 : Nat) : Int)).bind fun a6 =>
     (F_spec_l1Most a4 a5).bind fun y0 =>
     (some (decide (a6 = y0))).bind fun a7 =>
     cond a7
     ((F_spec_l1Least a4 a5).bind fun y1 =>
      (setO s3 ((k2 : Nat) : Int) y1).bind fun a8 =>
      some a8)
     (some s3)) s2.length 0 s2).bind fun (s4 : List Int) =>
   some s4) a_.length 0 s1).bind fun (s5 : List Int) =>
 (F_spec_hgCounts (g_.1, g_.2.1, g_.2.2.1, g_.2.2.2)).bind fun y2 =>
 (makeO g_.1 (false : Bool)).bind fun a9 =>
 (forS (fun (k3 : Nat) (s6 : List Bool) =>
   (idxO s5 ((k3 : Nat) : Int)).bind fun a10 =>
   (idxO y2.1 ((k3 : Nat) : Int)).bind fun a11 =>
   (idxO y2.2 ((k3 : Nat) : Int)).bind fun a13 =>
   (addO a11 a13).bind fun a14 =>
   (some (decide ((0 : Int) < a14))).bind fun a15 =>
   cond a15
   ((setO s6 a10 true).bind fun a16 =>
    some a16)
   (some s6)) s5.length 0 a9).bind fun (s7 : List Bool) =>
 (makeO g_.1 (0 : Int)).bind fun a17 =>
 (forS (fun (k4 : Nat) (s8 : List Int × Int) =>
   ((idxO s5 ((k4 : Nat) : Int)).bind fun a18 =>
    (some (decide (a18 = ((k4 : Nat) : Int)))).bind fun a19 =>
    cond a19
    ((idxO s7 ((k4 : Nat) : Int)).bind fun a20 =>
     some a20)
    (some false)).bind fun (s9 : Bool) =>
   cond s9
   ((setO s8.1 ((k4 : Nat) : Int) s8.2).bind fun a21 =>
    (addO s8.2 1).bind fun a22 =>
    some (a21, a22))
   (some (s8.1, s8.2))) a17.length 0 (a17, 0)).bind fun (s10 : List Int × Int) =>
 (forS (fun (k5 : Nat) (s11 : List Int) =>
   (idxO s5 ((k5 : Nat) : Int)).bind fun a23 =>
   (idxO s11 a23).bind fun a24 =>
   (setO s11 ((k5 : Nat) : Int) a24).bind fun a25 =>
   (idxO s5 ((k5 : Nat) : Int)).bind fun a26 =>
   (idxO s7 a26).bind fun a27 =>
   (some (!a27)).bind fun a28 =>
   cond a28
   ((setO a25 ((k5 : Nat) : Int) (-1)).bind fun a29 =>
    some a29)
   (some a25)) s10.1.length 0 s10.1).bind fun (s12 : List Int) =>
 (F_spec_hgMap (g_.1, g_.2.1, g_.2.2.1, g_.2.2.2) s12 s10.2).bind fun y3 =>
 some ((y3.1, y3.2.1, y3.2.2.1, y3.2.2.2), s12)

noncomputable def F_spec_hgGlue (g_ : Int × (List (Int × Int × List Int × List Int)) × List Int × List Int) (a_ : List Int) (b_ : List Int) : Option (Int × (List (Int × Int × List Int × List Int)) × List Int × List Int) :=
 (F_spec_hgGlued (g_.1, g_.2.1, g_.2.2.1, g_.2.2.2) a_ b_).bind fun y0 =>
 some (y0.1.1, y0.1.2.1, y0.1.2.2.1, y0.1.2.2.2)

noncomputable def F_spec_hgSeq (a_ : Int × (List (Int × Int × List Int × List Int)) × List Int × List Int) (b_ : Int × (List (Int × Int × List Int × List Int)) × List Int × List Int) : Option (Int × (List (Int × Int × List Int × List Int)) × List Int × List Int) :=
 (F_spec_hgBeside (a_.1, a_.2.1, a_.2.2.1, a_.2.2.2) (b_.1, b_.2.1, b_.2.2.1, b_.2.2.2)).bind fun y0 =>
 (sliceO y0.2.2.2 0 ((a_.2.2.2.length : Nat) : Int)).bind fun a0 =>
 (sliceO y0.2.2.1 ((a_.2.2.1.length : Nat) : Int) ((y0.2.2.1.length : Nat) : Int)).bind fun a1 =>
 (F_spec_l1Own a0).bind fun y1 =>
 (F_spec_l1Own a1).bind fun y2 =>
 (sliceO y0.2.2.1 0 ((a_.2.2.1.length : Nat) : Int)).bind fun a2 =>
 (sliceO y0.2.2.2 ((a_.2.2.2.length : Nat) : Int) ((y0.2.2.2.length : Nat) : Int)).bind fun a3 =>
 (F_spec_hgGlue (y0.1, y0.2.1, a2, a3) y1 y2).bind fun y3 =>
 some (y3.1, y3.2.1, y3.2.2.1, y3.2.2.2)

noncomputable def F_spec_l1All (l_ : List Int) (lo_ : Int) (hi_ : Int) : Option Bool :=
 seqO (forO (fun (k2 : Nat) (_ : Unit) =>
   (idxO l_ ((k2 : Nat) : Int)).bind fun a0 =>
   (F_spec_l1In a0 lo_ hi_).bind fun y0 =>
   (some (!y0)).bind fun a1 =>
   cond a1
   (some (.inr false))
   (some (.inl ()))) l_.length 0 ()) fun (_ : Unit) =>
 some true

noncomputable def F_spec_hgEdge (e_ : Int × Int × List Int × List Int) (wires_ : Int) : Option Bool :=
 ((F_spec_l1In e_.1 3 14).bind fun y0 =>
  (some (!y0)).bind fun a0 =>
  cond a0
  (some true)
  ((F_spec_tmLeaf (e_.1, e_.2.1, .empty)).bind fun y1 =>
   (some (!y1)).bind fun a1 =>
   some a1)).bind fun (s0 : Bool) =>
 cond s0
 (some false)
 ((F_spec_tmKind e_.1).bind fun y2 =>
  ((some (decide (((e_.2.2.1.length : Nat) : Int) = y2.1))).bind fun a2 =>
   cond a2
   ((some (decide (((e_.2.2.2.length : Nat) : Int) = y2.2))).bind fun a3 =>
    cond a3
    ((subO wires_ 1).bind fun a4 =>
     (F_spec_l1All e_.2.2.1 0 a4).bind fun y3 =>
     cond y3
     ((subO wires_ 1).bind fun a5 =>
      (F_spec_l1All e_.2.2.2 0 a5).bind fun y4 =>
      some y4)
     (some false))
    (some false))
   (some false)).bind fun (s1 : Bool) =>
  some s1)

noncomputable def F_spec_hgValid (g_ : Int × (List (Int × Int × List Int × List Int)) × List Int × List Int) : Option Bool :=
 ((F_spec_l1In g_.1 0 100).bind fun y0 =>
  (some (!y0)).bind fun a0 =>
  cond a0
  (some true)
  ((some (decide ((60 : Int) < ((g_.2.1.length : Nat) : Int)))).bind fun a1 =>
   cond a1
   (some true)
   ((some (decide ((12 : Int) < ((g_.2.2.1.length : Nat) : Int)))).bind fun a2 =>
    cond a2
    (some true)
    ((some (decide ((12 : Int) < ((g_.2.2.2.length : Nat) : Int)))).bind fun a3 =>
     cond a3
     (some true)
     ((subO g_.1 1).bind fun a4 =>
      (F_spec_l1All g_.2.2.1 0 a4).bind fun y1 =>
      (some (!y1)).bind fun a5 =>
      cond a5
      (some true)
      ((subO g_.1 1).bind fun a6 =>
       (F_spec_l1All g_.2.2.2 0 a6).bind fun y2 =>
       (some (!y2)).bind fun a7 =>
       some a7)))))).bind fun (s0 : Bool) =>
 cond s0
 (some false)
 (seqO (forO (fun (k0 : Nat) (_ : Unit) =>
    (idxO g_.2.1 ((k0 : Nat) : Int)).bind fun a8 =>
    (F_spec_hgEdge (a8.1, a8.2.1, a8.2.2.1, a8.2.2.2) g_.1).bind fun y3 =>
    (some (!y3)).bind fun a9 =>
    cond a9
    (some (.inr false))
    (some (.inl ()))) g_.2.1.length 0 ()) fun (_ : Unit) =>
  (F_spec_hgCounts (g_.1, g_.2.1, g_.2.2.1, g_.2.2.2)).bind fun y4 =>
  seqO (forO (fun (k1 : Nat) (_ : Unit) =>
    (idxO y4.1 ((k1 : Nat) : Int)).bind fun a10 =>
    (idxO y4.2 ((k1 : Nat) : Int)).bind fun a11 =>
    (addO a10 a11).bind fun a12 =>
    (some (decide (a12 = 0))).bind fun a13 =>
    cond a13
    (some (.inr false))
    (some (.inl ()))) y4.1.length 0 ()) fun (_ : Unit) =>
  some true)

noncomputable def F_spec_hgIf (g_ : Int × (List (Int × Int × List Int × List Int)) × List Int × List Int) : Option ((Int × (List (Int × Int × List Int × List Int)) × List Int × List Int) × Bool) :=
 (F_spec_hgValid (g_.1, g_.2.1, g_.2.2.1, g_.2.2.2)).bind fun y0 =>
 (some (!y0)).bind fun a0 =>
 cond a0
 (some ((0, [], [], []), false))
 (some ((g_.1, g_.2.1, g_.2.2.1, g_.2.2.2), true))

noncomputable def F_spec_hgPar (a_ : Int × (List (Int × Int × List Int × List Int)) × List Int × List Int) (b_ : Int × (List (Int × Int × List Int × List Int)) × List Int × List Int) : Option (Int × (List (Int × Int × List Int × List Int)) × List Int × List Int) :=
 (F_spec_hgBeside (a_.1, a_.2.1, a_.2.2.1, a_.2.2.2) (b_.1, b_.2.1, b_.2.2.1, b_.2.2.2)).bind fun y0 =>
 some (y0.1, y0.2.1, y0.2.2.1, y0.2.2.2)

noncomputable def F_spec_hgMade_n : Nat → (List (Int × Int × ByteArray)) → Option ((Int × (List (Int × Int × List Int × List Int)) × List Int × List Int) × Bool)
 | 0, _ => none
 | fuel + 1, t_ =>
  (F_spec_tmTop t_).bind fun y8 =>
  (some (decide (y8 < 15))).bind fun a0 =>
  cond a0
  ((idxO t_ 0).bind fun a1 =>
    (F_spec_hgLeaf (a1.1, a1.2.1, a1.2.2)).bind fun y0 =>
    some ((y0.1, y0.2.1, y0.2.2.1, y0.2.2.2), true))
  ((F_spec_tmParts t_).bind fun y1 =>
    (F_spec_hgMade_n fuel y1.1).bind fun y2 =>
    (F_spec_hgMade_n fuel y1.2).bind fun y3 =>
    ((some (!y2.2)).bind fun a2 =>
      cond a2
      (some true)
      ((some (!y3.2)).bind fun a3 =>
        some a3)).bind fun (s0 : Bool) =>
    cond s0
    (some ((0, [], [], []), false))
    ((some (decide (y8 = 15))).bind fun a4 =>
      cond a4
      ((F_spec_hgSeq (y2.1.1, y2.1.2.1, y2.1.2.2.1, y2.1.2.2.2) (y3.1.1, y3.1.2.1, y3.1.2.2.1, y3.1.2.2.2)).bind fun y4 =>
        (F_spec_hgIf (y4.1, y4.2.1, y4.2.2.1, y4.2.2.2)).bind fun y5 =>
        some ((y5.1.1, y5.1.2.1, y5.1.2.2.1, y5.1.2.2.2), y5.2))
      ((F_spec_hgPar (y2.1.1, y2.1.2.1, y2.1.2.2.1, y2.1.2.2.2) (y3.1.1, y3.1.2.1, y3.1.2.2.1, y3.1.2.2.2)).bind fun y6 =>
        (F_spec_hgIf (y6.1, y6.2.1, y6.2.2.1, y6.2.2.2)).bind fun y7 =>
        some ((y7.1.1, y7.1.2.1, y7.1.2.2.1, y7.1.2.2.2), y7.2))))
noncomputable def F_spec_hgMade (t_ : (List (Int × Int × ByteArray))) : Option ((Int × (List (Int × Int × List Int × List Int)) × List Int × List Int) × Bool) := F_spec_hgMade_n 1000000 t_

noncomputable def F_spec_GraphOf (t_ : (List (Int × Int × ByteArray))) : Option ((Int × (List (Int × Int × List Int × List Int)) × List Int × List Int) × Bool) :=
 (F_spec_tmValid t_).bind fun y8 =>
 (some (!y8)).bind fun a0 =>
 cond a0
 (some ((0, [], [], []), false))
 ((F_spec_hgMade t_).bind fun y0 =>
  some ((y0.1.1, y0.1.2.1, y0.1.2.2.1, y0.1.2.2.2), y0.2))

noncomputable def F_spec_l1Has (l_ : List Int) (n_ : Int) : Option Bool :=
 seqO (forO (fun (k2 : Nat) (_ : Unit) =>
   (idxO l_ ((k2 : Nat) : Int)).bind fun a0 =>
   (some (decide (a0 = n_))).bind fun a1 =>
   cond a1
   (some (.inr true))
   (some (.inl ()))) l_.length 0 ()) fun (_ : Unit) =>
 some false

noncomputable def F_spec_hgMeets (a_ : List Int) (b_ : List Int) : Option Bool :=
 seqO (forO (fun (k3 : Nat) (_ : Unit) =>
   (idxO a_ ((k3 : Nat) : Int)).bind fun a0 =>
   (F_spec_l1Has b_ a0).bind fun y0 =>
   cond y0
   (some (.inr true))
   (some (.inl ()))) a_.length 0 ()) fun (_ : Unit) =>
 some false

noncomputable def F_spec_hgOrder (g_ : Int × (List (Int × Int × List Int × List Int)) × List Int × List Int) : Option (List Int) :=
 (makeO ((g_.2.1.length : Nat) : Int) (false : Bool)).bind fun a7 =>
 whileO (fun (s0 : List Bool × List Int) =>
  (forS (fun (k0 : Nat) (s1 : Int) =>
    (((idxO s0.1 ((k0 : Nat) : Int)).bind fun a0 =>
      cond a0
      (some true)
      ((some (decide ((0 : Int) ≤ s1))).bind fun a1 =>
       some a1)).bind fun (s2 : Bool) =>
     cond s2
     (some s1)
     ((forS (fun (k1 : Nat) (s3 : Bool) =>
        cond s3
        ((idxO s0.1 ((k1 : Nat) : Int)).bind fun a2 =>
         cond a2
         (some true)
         ((idxO g_.2.1 ((k1 : Nat) : Int)).bind fun a3 =>
          (idxO g_.2.1 ((k0 : Nat) : Int)).bind fun a4 =>
          (F_spec_hgMeets a3.2.2.2 a4.2.2.1).bind fun y0 =>
          (some (!y0)).bind fun a5 =>
          some a5))
        (some false)) g_.2.1.length 0 true).bind fun (s4 : Bool) =>
      cond s4
      (some ((k0 : Nat) : Int))
      (some s1))).bind fun (s5 : Int) =>
    some s5) g_.2.1.length 0 (-1)).bind fun (s6 : Int) =>
  (some (decide (s6 < 0))).bind fun a6 =>
  cond a6
  (some (.inr s0.2))
  ((setO s0.1 s6 true).bind fun a8 =>
   (appO s0.2 [s6]).bind fun a9 =>
   some (.inl (a8, a9)))) (a7, [])

noncomputable def F_spec_hgAcyclic (g_ : Int × (List (Int × Int × List Int × List Int)) × List Int × List Int) : Option Bool :=
 (F_spec_hgOrder (g_.1, g_.2.1, g_.2.2.1, g_.2.2.2)).bind fun y8 =>
 (some (decide (((y8.length : Nat) : Int) = ((g_.2.1.length : Nat) : Int)))).bind fun a0 =>
 some a0

noncomputable def F_spec_rbGood (g_ : Int × (List (Int × Int × List Int × List Int)) × List Int × List Int) : Option Bool :=
 ((F_spec_hgValid (g_.1, g_.2.1, g_.2.2.1, g_.2.2.2)).bind fun y0 =>
  cond y0
  ((F_spec_hgAcyclic (g_.1, g_.2.1, g_.2.2.1, g_.2.2.2)).bind fun y1 =>
   some y1)
  (some false)).bind fun (s0 : Bool) =>
 some s0

noncomputable def F_spec_hgMono (g_ : Int × (List (Int × Int × List Int × List Int)) × List Int × List Int) : Option Bool :=
 (F_spec_hgCounts (g_.1, g_.2.1, g_.2.2.1, g_.2.2.2)).bind fun y7 =>
 ((F_spec_l1All y7.1 1 1).bind fun y0 =>
  cond y0
  ((F_spec_l1All y7.2 1 1).bind fun y1 =>
   some y1)
  (some false)).bind fun (s0 : Bool) =>
 some s0

noncomputable def F_spec_rbPlain (g_ : Int × (List (Int × Int × List Int × List Int)) × List Int × List Int) : Option Bool :=
 ((F_spec_rbGood (g_.1, g_.2.1, g_.2.2.1, g_.2.2.2)).bind fun y0 =>
  cond y0
  ((F_spec_hgMono (g_.1, g_.2.1, g_.2.2.1, g_.2.2.2)).bind fun y1 =>
   some y1)
  (some false)).bind fun (s0 : Bool) =>
 some s0

noncomputable def F_spec_rbRest (l_ : List Int) (without_ : List Int) : Option (List Int) :=
 (forS (fun (k3 : Nat) (s0 : List Int) =>
   (idxO l_ ((k3 : Nat) : Int)).bind fun a0 =>
   (F_spec_l1Has without_ a0).bind fun y0 =>
   (some (!y0)).bind fun a1 =>
   cond a1
   ((appO s0 [a0]).bind fun a2 =>
    some a2)
   (some s0)) l_.length 0 []).bind fun (s1 : List Int) =>
 some s1

noncomputable def F_spec_l1Same (a_ : List Int) (b_ : List Int) : Option Bool :=
 (some (!decide (((a_.length : Nat) : Int) = ((b_.length : Nat) : Int)))).bind fun a3 =>
 cond a3
 (some false)
 (seqO (forO (fun (k6 : Nat) (_ : Unit) =>
    (idxO a_ ((k6 : Nat) : Int)).bind fun a0 =>
    (idxO b_ ((k6 : Nat) : Int)).bind fun a1 =>
    (some (!decide (a0 = a1))).bind fun a2 =>
    cond a2
    (some (.inr false))
    (some (.inl ()))) a_.length 0 ()) fun (_ : Unit) =>
  some true)

noncomputable def F_spec_tmOne (kind_ : Int) (value_ : Int) : Option (List (Int × Int × ByteArray)) :=
 some [(kind_, value_, .empty)]

noncomputable def F_spec_tmId (n_ : Int) : Option (List (Int × Int × ByteArray)) :=
 (F_spec_tmOne 1 n_).bind fun y4 =>
 some y4

noncomputable def F_spec_tmJoin (a_ : (List (Int × Int × ByteArray))) (b_ : (List (Int × Int × ByteArray))) (kind_ : Int) : Option (List (Int × Int × ByteArray)) :=
 (appO ([] : List (Int × Int × ByteArray)) a_).bind fun a0 =>
 (appO a0 b_).bind fun a1 =>
 (appO a1 [(kind_, 0, .empty)]).bind fun a2 =>
 some a2

noncomputable def F_spec_tmPar (a_ : (List (Int × Int × ByteArray))) (b_ : (List (Int × Int × ByteArray))) : Option (List (Int × Int × ByteArray)) :=
 (F_spec_tmJoin a_ b_ 16).bind fun y0 =>
 some y0

noncomputable def F_spec_tmLayer (front_ : Int) (t_ : (List (Int × Int × ByteArray))) (behind_ : Int) : Option (List (Int × Int × ByteArray)) :=
 ((some (decide ((0 : Int) < front_))).bind fun a0 =>
  cond a0
  ((F_spec_tmId front_).bind fun y0 =>
   (F_spec_tmPar y0 t_).bind fun y1 =>
   some y1)
  (some t_)).bind fun (s0 : List (Int × Int × ByteArray)) =>
 ((some (decide ((0 : Int) < behind_))).bind fun a1 =>
  cond a1
  ((F_spec_tmId behind_).bind fun y2 =>
   (F_spec_tmPar s0 y2).bind fun y3 =>
   some y3)
  (some s0)).bind fun (s1 : List (Int × Int × ByteArray)) =>
 some s1

noncomputable def F_spec_tmSeq (a_ : (List (Int × Int × ByteArray))) (b_ : (List (Int × Int × ByteArray))) : Option (List (Int × Int × ByteArray)) :=
 (F_spec_tmJoin a_ b_ 15).bind fun y0 =>
 some y0

noncomputable def F_spec_tmPerm (perm_ : List Int) : Option (List (Int × Int × ByteArray)) :=
 (F_spec_l1Own perm_).bind fun y5 =>
 (F_spec_tmId ((y5.length : Nat) : Int)).bind fun y0 =>
 whileO (fun (s0 : (List (Int × Int × ByteArray)) × List Int × Int) =>
  (whileO (fun (s1 : Int) =>
    ((addO s1 1).bind fun a0 =>
     (some (decide (a0 < ((y5.length : Nat) : Int)))).bind fun a1 =>
     cond a1
     ((idxO s0.2.1 s1).bind fun a2 =>
      (addO s1 1).bind fun a3 =>
      (idxO s0.2.1 a3).bind fun a4 =>
      (some (decide (a2 ≤ a4))).bind fun a5 =>
      some a5)
     (some false)).bind fun (s2 : Bool) =>
    cond s2
    ((addO s1 1).bind fun a6 =>
     some (.inl a6))
    (some (.inr s1))) 0).bind fun (s3 : Int) =>
  (addO s3 1).bind fun a7 =>
  (some (decide (((y5.length : Nat) : Int) ≤ a7))).bind fun a8 =>
  cond a8
  (some (.inr s0.1))
  ((idxO s0.2.1 s3).bind fun a9 =>
   (addO s3 1).bind fun a10 =>
   (idxO s0.2.1 a10).bind fun a11 =>
   (setO s0.2.1 s3 a11).bind fun a12 =>
   (addO s3 1).bind fun a13 =>
   (setO a12 a13 a9).bind fun a14 =>
   (F_spec_tmOne 2 0).bind fun y1 =>
   (subO ((y5.length : Nat) : Int) 2).bind fun a15 =>
   (subO a15 s3).bind fun a16 =>
   (F_spec_tmLayer s3 y1 a16).bind fun y2 =>
   (some (decide (s0.2.2 = 0))).bind fun a17 =>
   cond a17
   ((addO s0.2.2 1).bind fun a18 =>
    some (.inl (y2, a14, a18)))
   ((F_spec_tmSeq s0.1 y2).bind fun y3 =>
    (addO s0.2.2 1).bind fun a19 =>
    some (.inl (y3, a14, a19))))) (y0, y5, 0)

noncomputable def F_spec_rbMove (from_ : List Int) (to_ : List Int) : Option (List (List (Int × Int × ByteArray))) :=
 (F_spec_l1Same from_ to_).bind fun y3 =>
 cond y3
 (some [])
 ((forS (fun (k7 : Nat) (s0 : List Int) =>
    (idxO from_ ((k7 : Nat) : Int)).bind fun a0 =>
    (whileO (fun (s1 : Int) =>
      (idxO to_ s1).bind fun a1 =>
      (some (!decide (a1 = a0))).bind fun a2 =>
      cond a2
      ((addO s1 1).bind fun a3 =>
       some (.inl a3))
      (some (.inr s1))) 0).bind fun (s2 : Int) =>
    (appO s0 [s2]).bind fun a4 =>
    some a4) from_.length 0 []).bind fun (s3 : List Int) =>
  (F_spec_tmPerm s3).bind fun y0 =>
  some [y0])

noncomputable def F_spec_tmChain (l_ : List (List (Int × Int × ByteArray))) (kind_ : Int) : Option (List (Int × Int × ByteArray)) :=
 (idxO l_ 0).bind fun a0 =>
 (sliceO l_ 1 ((l_.length : Nat) : Int)).bind fun a1 =>
 (forS (fun (k0 : Nat) (s0 : List (Int × Int × ByteArray)) =>
   (idxO a1 ((k0 : Nat) : Int)).bind fun a2 =>
   (F_spec_tmJoin s0 a2 kind_).bind fun y0 =>
   some y0) a1.length 0 a0).bind fun (s1 : List (Int × Int × ByteArray)) =>
 some s1

noncomputable def F_spec_rbTerm (g_ : Int × (List (Int × Int × List Int × List Int)) × List Int × List Int) (order_ : List Int) : Option (List (Int × Int × ByteArray)) :=
 (F_spec_l1Own g_.2.2.1).bind fun y0 =>
 (forS (fun (k0 : Nat) (s0 : (List (List (Int × Int × ByteArray))) × List Int) =>
   (idxO order_ ((k0 : Nat) : Int)).bind fun a0 =>
   (idxO g_.2.1 a0).bind fun a1 =>
   (F_spec_rbRest s0.2 a1.2.2.1).bind fun y1 =>
   (F_spec_l1Own a1.2.2.1).bind fun y2 =>
   (appO y2 y1).bind fun a2 =>
   (F_spec_rbMove s0.2 a2).bind fun y3 =>
   (appO s0.1 y3).bind fun a3 =>
   (F_spec_tmOne a1.1 a1.2.1).bind fun y4 =>
   (F_spec_tmLayer 0 y4 ((y1.length : Nat) : Int)).bind fun y5 =>
   (appO a3 [y5]).bind fun a4 =>
   (F_spec_l1Own a1.2.2.2).bind fun y6 =>
   (appO y6 y1).bind fun a5 =>
   some (a4, a5)) order_.length 0 ([], y0)).bind fun (s1 : (List (List (Int × Int × ByteArray))) × List Int) =>
 (F_spec_rbMove s1.2 g_.2.2.2).bind fun y7 =>
 (appO s1.1 y7).bind fun a6 =>
 (some (decide (((a6.length : Nat) : Int) = 0))).bind fun a7 =>
 cond a7
 ((F_spec_tmId ((g_.2.2.1.length : Nat) : Int)).bind fun y8 =>
  some y8)
 ((F_spec_tmChain a6 15).bind fun y9 =>
  some y9)

noncomputable def F_spec_tmIf (t_ : (List (Int × Int × ByteArray))) : Option ((List (Int × Int × ByteArray)) × Bool) :=
 (F_spec_tmScan t_).bind fun y8 =>
 (some (!y8.2)).bind fun a0 =>
 cond a0
 (some ([], false))
 (some (t_, true))

noncomputable def F_spec_TermOf (g_ : Int × (List (Int × Int × List Int × List Int)) × List Int × List Int) : Option ((List (Int × Int × ByteArray)) × Bool) :=
 (F_spec_rbPlain (g_.1, g_.2.1, g_.2.2.1, g_.2.2.2)).bind fun y0 =>
 (some (!y0)).bind fun a0 =>
 cond a0
 (some ([], false))
 ((F_spec_hgOrder (g_.1, g_.2.1, g_.2.2.1, g_.2.2.2)).bind fun y1 =>
  (F_spec_rbTerm (g_.1, g_.2.1, g_.2.2.1, g_.2.2.2) y1).bind fun y2 =>
  (F_spec_tmIf y2).bind fun y3 =>
  some (y3.1, y3.2))

noncomputable def F_spec_LayoutTerm (t_ : (List (Int × Int × ByteArray))) : Option ((List (Int × Int × ByteArray)) × Bool) :=
 (F_spec_GraphOf t_).bind fun y8 =>
 (some (!y8.2)).bind fun a0 =>
 cond a0
 (some ([], false))
 ((F_spec_TermOf (y8.1.1, y8.1.2.1, y8.1.2.2.1, y8.1.2.2.2)).bind fun y0 =>
  some (y0.1, y0.2))

noncomputable def F_impl_within (n_ : Int) (low_ : Int) (high_ : Int) : Option Bool :=
 ((some (decide (low_ ≤ n_))).bind fun a0 =>
  cond a0
  ((some (decide (n_ ≤ high_))).bind fun a1 =>
   some a1)
  (some false)).bind fun (s7 : Bool) =>
 some s7

noncomputable def F_impl_wires_fit (w_ : Int × Int) : Option Bool :=
 ((some (decide (w_.1 ≤ 12))).bind fun a0 =>
  cond a0
  ((some (decide (w_.2 ≤ 12))).bind fun a1 =>
   some a1)
  (some false)).bind fun (s0 : Bool) =>
 some s0

noncomputable def F_impl_joinWires (kind_ : Int) (a_ : Int × Int) (b_ : Int × Int) : Option ((Int × Int) × Bool) :=
 (some (decide (kind_ = 15))).bind fun a0 =>
 cond a0
 ((some (decide (a_.2 = b_.1))).bind fun a1 =>
  some ((a_.1, b_.2), a1))
 ((addO a_.1 b_.1).bind fun a2 =>
  (addO a_.2 b_.2).bind fun a3 =>
  (F_impl_wires_fit (a2, a3)).bind fun y0 =>
  some ((a2, a3), y0))

noncomputable def F_impl_isGenerator (kind_ : Int) : Option Bool :=
 (F_impl_within kind_ 3 14).bind fun y1 =>
 some y1

noncomputable def F_impl_generatorWires (kind_ : Int) : Option (Int × Int) :=
 (some (decide (kind_ ≤ 8))).bind fun a8 =>
 cond a8
 ((subO kind_ 3).bind fun a0 =>
  (idxO ([(1, 2), (1, 0), (2, 1), (0, 1), (1, 1), (1, 1)] : List (Int × Int)) a0).bind fun a1 =>
  some (a1.1, a1.2))
 ((subO kind_ 9).bind fun a2 =>
  (idxO ([(1, 2), (1, 0), (2, 1), (0, 1), (1, 1), (1, 1)] : List (Int × Int)) a2).bind fun a3 =>
  some (a3.2, a3.1))

noncomputable def F_impl_hasValue (kind_ : Int) : Option Bool :=
 ((some (decide (kind_ = 7))).bind fun a0 =>
  cond a0
  (some true)
  ((some (decide (kind_ = 13))).bind fun a1 =>
   some a1)).bind fun (s7 : Bool) =>
 some s7

noncomputable def F_impl_isGeneratorValue (kind_ : Int) (value_ : Int) : Option Bool :=
 (F_impl_hasValue kind_).bind fun y1 =>
 cond y1
 ((F_impl_within value_ 0 96).bind fun y8 =>
  some y8)
 ((some (decide (value_ = 0))).bind fun a5 =>
  some a5)

noncomputable def F_impl_leafWires (n_ : Int × Int × ByteArray) : Option ((Int × Int) × Bool) :=
 (some (!decide ((n_.2.2 : ByteArray) = .empty))).bind fun a7 =>
 cond a7
 (some ((0, 0), false))
 ((some (decide (n_.1 = 1))).bind fun a0 =>
  cond a0
  ((F_impl_within n_.2.1 0 12).bind fun y0 =>
   some ((n_.2.1, n_.2.1), y0))
  ((some (decide (n_.1 = 2))).bind fun a1 =>
   cond a1
   ((some (decide (n_.2.1 = 0))).bind fun a2 =>
    some ((2, 2), a2))
   ((F_impl_isGenerator n_.1).bind fun y1 =>
    cond y1
    ((F_impl_generatorWires n_.1).bind fun y2 =>
     (F_impl_isGeneratorValue n_.1 n_.2.1).bind fun y3 =>
     some ((y2.1, y2.2), y3))
    (some ((0, 0), false)))))

noncomputable def F_impl_typed_impl_leafWires (nodes_ : List (Int × Int × ByteArray)) : Option ((Int × Int) × Bool) :=
 (F_impl_within ((nodes_.length : Nat) : Int) 1 400).bind fun y5 =>
 (some (!y5)).bind fun a8 =>
 cond a8
 (some ((0, 0), false))
 (seqO (forO (fun (k0 : Nat) (s0 : List (Int × Int)) =>
    seqO ((idxO nodes_ ((k0 : Nat) : Int)).bind fun a0 =>
     ((some (!decide (a0.1 = 15))).bind fun a1 =>
      cond a1
      ((some (!decide (a0.1 = 16))).bind fun a2 =>
       some a2)
      (some false)).bind fun (s1 : Bool) =>
     cond s1
     ((F_impl_leafWires (a0.1, a0.2.1, a0.2.2)).bind fun y0 =>
      (some (!y0.2)).bind fun a3 =>
      cond a3
      (some (.inr (.inr ((0, 0), false))))
      ((appO s0 [(y0.1.1, y0.1.2)]).bind fun a4 =>
       some (.inl a4)))
     (((some (!decide (a0.2.1 = 0))).bind fun a5 =>
       cond a5
       (some true)
       ((some (!decide ((a0.2.2 : ByteArray) = .empty))).bind fun a6 =>
        cond a6
        (some true)
        ((some (decide (((s0.length : Nat) : Int) < 2))).bind fun a7 =>
         some a7))).bind fun (s2 : Bool) =>
      cond s2
      (some (.inr (.inr ((0, 0), false))))
      ((subO ((s0.length : Nat) : Int) 1).bind fun a9 =>
       ((subO a9 1).bind fun a10 =>
        (idxO s0 a10).bind fun a11 =>
        (idxO s0 a9).bind fun a12 =>
        (F_impl_joinWires a0.1 (a11.1, a11.2) (a12.1, a12.2)).bind fun y1 =>
        some (y1.1.1, y1.1.2, y1.2)).bind fun (s3 : Int × Int × Bool) =>
       (some (!s3.2.2)).bind fun a13 =>
       cond a13
       (some (.inr (.inr ((0, 0), false))))
       ((subO a9 1).bind fun a14 =>
        (sliceO s0 0 a14).bind fun a15 =>
        (appO a15 [(s3.1, s3.2.1)]).bind fun a16 =>
        some (.inl a16))))) fun (s4 : List (Int × Int)) =>
    some (.inl s4)) nodes_.length 0 ([] : List (Int × Int))) fun (s5 : List (Int × Int)) =>
  (idxO s5 0).bind fun a17 =>
  (some (decide (((s5.length : Nat) : Int) = 1))).bind fun a18 =>
  some ((a17.1, a17.2), a18))

noncomputable def F_impl_Term_wires (t_ : (List (Int × Int × ByteArray))) : Option ((Int × Int) × Bool) :=
 (F_impl_typed_impl_leafWires t_).bind fun y8 =>
 some ((y8.1.1, y8.1.2), y8.2)

noncomputable def F_impl_Term_isValid (t_ : (List (Int × Int × ByteArray))) : Option Bool :=
 (F_impl_Term_wires t_).bind fun y5 =>
 some y5.2

noncomputable def F_impl_zeros (n_ : Int) : Option (List Int) :=
 (makeO n_ (0 : Int)).bind fun a1 =>
 some a1

noncomputable def F_impl_upTo (n_ : Int) : Option (List Int) :=
 (F_impl_zeros n_).bind fun y1 =>
 (forS (fun (k6 : Nat) (s0 : List Int) =>
   (setO s0 ((k6 : Nat) : Int) ((k6 : Nat) : Int)).bind fun a0 =>
   some a0) y1.length 0 y1).bind fun (s1 : List Int) =>
 some s1

noncomputable def F_impl_chosen (v_ : List Int) (at_ : List Int) : Option (List Int) :=
 (makeCO 0 ((at_.length : Nat) : Int) (0 : Int)).bind fun a3 =>
 (forS (fun (k8 : Nat) (s0 : List Int) =>
   (idxO at_ ((k8 : Nat) : Int)).bind fun a0 =>
   (idxO v_ a0).bind fun a1 =>
   (appO s0 [a1]).bind fun a2 =>
   some a2) at_.length 0 a3).bind fun (s1 : List Int) =>
 some s1

noncomputable def F_impl_mapped (list_ : List Int) (to_ : List Int) : Option (List Int) :=
 (F_impl_chosen to_ list_).bind fun y3 =>
 some y3

noncomputable def F_impl_Graph_moved (g_ : Int × (List (Int × Int × List Int × List Int)) × List Int × List Int) (count_ : Int) (to_ : List Int) : Option (Int × (List (Int × Int × List Int × List Int)) × List Int × List Int) :=
 ((F_impl_mapped g_.2.2.1 to_).bind fun y0 =>
  (F_impl_mapped g_.2.2.2 to_).bind fun y1 =>
  some (count_, y0, y1)).bind fun (s0 : Int × List Int × List Int) =>
 (forS (fun (k0 : Nat) (s1 : List (Int × Int × List Int × List Int)) =>
   (idxO g_.2.1 ((k0 : Nat) : Int)).bind fun a0 =>
   (F_impl_mapped a0.2.2.1 to_).bind fun y2 =>
   (F_impl_mapped a0.2.2.2 to_).bind fun y3 =>
   (appO s1 [(a0.1, a0.2.1, y2, y3)]).bind fun a1 =>
   some a1) g_.2.1.length 0 []).bind fun (s2 : List (Int × Int × List Int × List Int)) =>
 some (s0.1, s2, s0.2.1, s0.2.2)

noncomputable def F_impl_from (first_ : Int) (n_ : Int) : Option (List Int) :=
 (F_impl_upTo n_).bind fun y1 =>
 (forS (fun (k6 : Nat) (s0 : List Int) =>
   (idxO s0 ((k6 : Nat) : Int)).bind fun a0 =>
   (addO a0 first_).bind fun a1 =>
   (setO s0 ((k6 : Nat) : Int) a1).bind fun a2 =>
   some a2) y1.length 0 y1).bind fun (s1 : List Int) =>
 some s1

noncomputable def F_impl_Graph_beside (g_ : Int × (List (Int × Int × List Int × List Int)) × List Int × List Int) (h_ : Int × (List (Int × Int × List Int × List Int)) × List Int × List Int) : Option (Int × (List (Int × Int × List Int × List Int)) × List Int × List Int) :=
 (addO g_.1 h_.1).bind fun a0 =>
 ((F_impl_upTo g_.1).bind fun y0 =>
  (F_impl_Graph_moved (g_.1, g_.2.1, g_.2.2.1, g_.2.2.2) g_.1 y0).bind fun y1 =>
  some (y1.1, y1.2.1, y1.2.2.1, y1.2.2.2)).bind fun (s0 : Int × (List (Int × Int × List Int × List Int)) × List Int × List Int) =>
 ((F_impl_from g_.1 h_.1).bind fun y2 =>
  (F_impl_Graph_moved (h_.1, h_.2.1, h_.2.2.1, h_.2.2.2) h_.1 y2).bind fun y3 =>
  some (y3.1, y3.2.1, y3.2.2.1, y3.2.2.2)).bind fun (s1 : Int × (List (Int × Int × List Int × List Int)) × List Int × List Int) =>
 (appO s0.2.1 s1.2.1).bind fun a1 =>
 some (a0, a1, [], [])

noncomputable def F_impl_clone (list_ : List Int) : Option (List Int) :=
 (appO ([] : List Int) list_).bind fun a5 =>
 some a5

noncomputable def F_impl_classes_root (c_ : List Int) (w_ : Int) : Option Int :=
 (whileO (fun (s0 : Int) =>
   (idxO c_ s0).bind fun a0 =>
   (some (!decide (a0 = s0))).bind fun a1 =>
   cond a1
   ((idxO c_ s0).bind fun a2 =>
    some (.inl a2))
   (some (.inr s0))) w_).bind fun (s1 : Int) =>
 some s1

noncomputable def F_impl_classes_join (c_ : List Int) (v_ : Int) (w_ : Int) : Option (List Int) :=
 (F_impl_classes_root c_ v_).bind fun y2 =>
 (F_impl_classes_root c_ w_).bind fun y5 =>
 (some (maxI2 y2 y5)).bind fun a8 =>
 (some (minI2 y2 y5)).bind fun a0 =>
 (setO c_ a8 a0).bind fun a1 =>
 some a1

noncomputable def F_impl_Graph_glue_1 (list_ : List Int) (c0_ : List Bool) (c1_ : List Int) : Option (List Bool) :=
 (forS (fun (k6 : Nat) (s0 : List Bool) =>
   (idxO list_ ((k6 : Nat) : Int)).bind fun a0 =>
   (F_impl_classes_root c1_ a0).bind fun y0 =>
   (setO s0 y0 true).bind fun a1 =>
   some a1) list_.length 0 c0_).bind fun (s1 : List Bool) =>
 some s1

noncomputable def F_impl_Graph_lists_impl_Graph_glue_1 (g_ : Int × (List (Int × Int × List Int × List Int)) × List Int × List Int) (d0_ : List Bool) (d1_ : List Int) : Option (List Bool) :=
 (F_impl_Graph_glue_1 g_.2.2.1 d0_ d1_).bind fun y0 =>
 (F_impl_Graph_glue_1 g_.2.2.2 y0 d1_).bind fun y1 =>
 (forS (fun (k0 : Nat) (s0 : List Bool) =>
   (idxO g_.2.1 ((k0 : Nat) : Int)).bind fun a0 =>
   (F_impl_Graph_glue_1 a0.2.2.1 s0 d1_).bind fun y2 =>
   (F_impl_Graph_glue_1 a0.2.2.2 y2 d1_).bind fun y3 =>
   some y3) g_.2.1.length 0 y1).bind fun (s1 : List Bool) =>
 some s1

noncomputable def F_impl_Graph_glue (g_ : Int × (List (Int × Int × List Int × List Int)) × List Int × List Int) (pairs_ : List (Int × Int)) : Option ((Int × (List (Int × Int × List Int × List Int)) × List Int × List Int) × List Int) :=
 (F_impl_upTo g_.1).bind fun y0 =>
 (forS (fun (k0 : Nat) (s0 : List Int) =>
   (idxO pairs_ ((k0 : Nat) : Int)).bind fun a0 =>
   (F_impl_classes_join s0 a0.1 a0.2).bind fun y1 =>
   some y1) pairs_.length 0 y0).bind fun (s1 : List Int) =>
 (makeO g_.1 (false : Bool)).bind fun a1 =>
 (F_impl_Graph_lists_impl_Graph_glue_1 (g_.1, g_.2.1, g_.2.2.1, g_.2.2.2) a1 s1).bind fun y2 =>
 (F_impl_zeros g_.1).bind fun y3 =>
 (forS (fun (k1 : Nat) (s2 : List Int × Int) =>
   (F_impl_classes_root s1 ((k1 : Nat) : Int)).bind fun y4 =>
   (idxO y2 y4).bind fun a2 =>
   (some (!a2)).bind fun a3 =>
   cond a3
   ((setO s2.1 ((k1 : Nat) : Int) (-1)).bind fun a4 =>
    some (a4, s2.2))
   ((some (decide (y4 < ((k1 : Nat) : Int)))).bind fun a5 =>
    cond a5
    ((idxO s2.1 y4).bind fun a6 =>
     (setO s2.1 ((k1 : Nat) : Int) a6).bind fun a7 =>
     some (a7, s2.2))
    ((setO s2.1 ((k1 : Nat) : Int) s2.2).bind fun a8 =>
     (addO s2.2 1).bind fun a9 =>
     some (a8, a9)))) y3.length 0 (y3, 0)).bind fun (s3 : List Int × Int) =>
 (F_impl_Graph_moved (g_.1, g_.2.1, g_.2.2.1, g_.2.2.2) s3.2 s3.1).bind fun y5 =>
 some ((y5.1, y5.2.1, y5.2.2.1, y5.2.2.2), s3.1)

noncomputable def F_impl_seqGraphs (a_ : Int × (List (Int × Int × List Int × List Int)) × List Int × List Int) (b_ : Int × (List (Int × Int × List Int × List Int)) × List Int × List Int) : Option (Int × (List (Int × Int × List Int × List Int)) × List Int × List Int) :=
 (F_impl_Graph_beside (a_.1, a_.2.1, a_.2.2.1, a_.2.2.2) (b_.1, b_.2.1, b_.2.2.1, b_.2.2.2)).bind fun y0 =>
 (forS (fun (k0 : Nat) (s0 : List (Int × Int)) =>
   (idxO a_.2.2.2 ((k0 : Nat) : Int)).bind fun a0 =>
   (idxO b_.2.2.1 ((k0 : Nat) : Int)).bind fun a1 =>
   (addO a_.1 a1).bind fun a2 =>
   (appO s0 [(a0, a2)]).bind fun a3 =>
   some a3) a_.2.2.2.length 0 ([] : List (Int × Int))).bind fun (s1 : List (Int × Int)) =>
 (F_impl_clone a_.2.2.1).bind fun y1 =>
 (F_impl_from a_.1 b_.1).bind fun y2 =>
 (F_impl_mapped b_.2.2.2 y2).bind fun y3 =>
 (F_impl_Graph_glue (y0.1, y0.2.1, y1, y3) s1).bind fun y4 =>
 some (y4.1.1, y4.1.2.1, y4.1.2.2.1, y4.1.2.2.2)

noncomputable def F_impl_joined (lists_ : List (List Int)) : Option (List Int) :=
 (forS (fun (k5 : Nat) (s0 : List Int) =>
   (idxO lists_ ((k5 : Nat) : Int)).bind fun a0 =>
   (appO s0 a0).bind fun a1 =>
   some a1) lists_.length 0 ([] : List Int)).bind fun (s1 : List Int) =>
 some s1

noncomputable def F_impl_parGraphs (a_ : Int × (List (Int × Int × List Int × List Int)) × List Int × List Int) (b_ : Int × (List (Int × Int × List Int × List Int)) × List Int × List Int) : Option (Int × (List (Int × Int × List Int × List Int)) × List Int × List Int) :=
 (F_impl_Graph_beside (a_.1, a_.2.1, a_.2.2.1, a_.2.2.2) (b_.1, b_.2.1, b_.2.2.1, b_.2.2.2)).bind fun y0 =>
 (F_impl_from a_.1 b_.1).bind fun y1 =>
 (F_impl_mapped b_.2.2.1 y1).bind fun y2 =>
 (F_impl_joined [a_.2.2.1, y2]).bind fun y3 =>
 (F_impl_mapped b_.2.2.2 y1).bind fun y4 =>
 (F_impl_joined [a_.2.2.2, y4]).bind fun y5 =>
 some (y0.1, y0.2.1, y3, y5)

noncomputable def F_impl_identityGraph (n_ : Int) : Option (Int × (List (Int × Int × List Int × List Int)) × List Int × List Int) :=
 (F_impl_upTo n_).bind fun y4 =>
 (F_impl_upTo n_).bind fun y9 =>
 some (n_, [], y4, y9)

noncomputable def F_impl_leafGraph (n_ : Int × Int × ByteArray) : Option (Int × (List (Int × Int × List Int × List Int)) × List Int × List Int) :=
 (some (decide (n_.1 = 1))).bind fun a7 =>
 cond a7
 ((F_impl_identityGraph n_.2.1).bind fun y0 =>
  some (y0.1, y0.2.1, y0.2.2.1, y0.2.2.2))
 ((some (decide (n_.1 = 2))).bind fun a0 =>
  cond a0
  (some (2, [], [0, 1], [1, 0]))
  ((F_impl_generatorWires n_.1).bind fun y1 =>
   (F_impl_upTo y1.1).bind fun y2 =>
   (F_impl_from y1.1 y1.2).bind fun y3 =>
   ((addO y1.1 y1.2).bind fun a1 =>
    (F_impl_clone y2).bind fun y4 =>
    (F_impl_clone y3).bind fun y5 =>
    some (a1, [(n_.1, n_.2.1, y2, y3)], y4, y5)).bind fun (s0 : Int × (List (Int × Int × List Int × List Int)) × List Int × List Int) =>
   some (s0.1, s0.2.1, s0.2.2.1, s0.2.2.2)))

noncomputable def F_impl_Edge_isEdge (e_ : Int × Int × List Int × List Int) : Option Bool :=
 ((F_impl_isGenerator e_.1).bind fun y0 =>
  (some (!y0)).bind fun a0 =>
  cond a0
  (some true)
  ((F_impl_isGeneratorValue e_.1 e_.2.1).bind fun y1 =>
   (some (!y1)).bind fun a1 =>
   some a1)).bind fun (s0 : Bool) =>
 cond s0
 (some false)
 ((F_impl_generatorWires e_.1).bind fun y2 =>
  (some (decide (([y2.1, y2.2] : List Int) = [((e_.2.2.1.length : Nat) : Int), ((e_.2.2.2.length : Nat) : Int)]))).bind fun a2 =>
  some a2)

noncomputable def F_impl_Graph_isGraph_1 (list_ : List Int) (c0_ : Int × (List (Int × Int × List Int × List Int)) × List Int × List Int) (c1_ : Bool) (c2_ : List Bool) (c3_ : Int) : Option (Bool × List Bool × Int) :=
 (forS (fun (k0 : Nat) (s0 : Bool × Int × List Bool) =>
   ((idxO list_ ((k0 : Nat) : Int)).bind fun a0 =>
    (subO c0_.1 1).bind fun a1 =>
    (F_impl_within a0 0 a1).bind fun y0 =>
    (some (!y0)).bind fun a2 =>
    cond a2
    (some (false, s0.2.1, s0.2.2))
    ((idxO s0.2.2 a0).bind fun a3 =>
     (some (!a3)).bind fun a4 =>
     cond a4
     ((setO s0.2.2 a0 true).bind fun a5 =>
      (addO s0.2.1 1).bind fun a6 =>
      some (s0.1, a6, a5))
     (some (s0.1, s0.2.1, s0.2.2)))).bind fun (s1 : Bool × Int × List Bool) =>
   some (s1.1, s1.2.1, s1.2.2)) list_.length 0 (c1_, c3_, c2_)).bind fun (s2 : Bool × Int × List Bool) =>
 some (s2.1, s2.2.2, s2.2.1)

noncomputable def F_impl_Graph_lists_impl_Graph_isGraph_1 (g_ : Int × (List (Int × Int × List Int × List Int)) × List Int × List Int) (d0_ : Int × (List (Int × Int × List Int × List Int)) × List Int × List Int) (d1_ : Bool) (d2_ : List Bool) (d3_ : Int) : Option (Bool × List Bool × Int) :=
 (F_impl_Graph_isGraph_1 g_.2.2.1 (d0_.1, d0_.2.1, d0_.2.2.1, d0_.2.2.2) d1_ d2_ d3_).bind fun y0 =>
 (F_impl_Graph_isGraph_1 g_.2.2.2 (d0_.1, d0_.2.1, d0_.2.2.1, d0_.2.2.2) y0.1 y0.2.1 y0.2.2).bind fun y1 =>
 (forS (fun (k0 : Nat) (s0 : Int × Bool × List Bool) =>
   (idxO g_.2.1 ((k0 : Nat) : Int)).bind fun a0 =>
   (F_impl_Graph_isGraph_1 a0.2.2.1 (d0_.1, d0_.2.1, d0_.2.2.1, d0_.2.2.2) s0.2.1 s0.2.2 s0.1).bind fun y2 =>
   (F_impl_Graph_isGraph_1 a0.2.2.2 (d0_.1, d0_.2.1, d0_.2.2.1, d0_.2.2.2) y2.1 y2.2.1 y2.2.2).bind fun y3 =>
   some (y3.2.2, y3.1, y3.2.1)) g_.2.1.length 0 (y1.2.2, y1.1, y1.2.1)).bind fun (s1 : Int × Bool × List Bool) =>
 some (s1.2.1, s1.2.2, s1.1)

noncomputable def F_impl_Graph_isGraph (g_ : Int × (List (Int × Int × List Int × List Int)) × List Int × List Int) : Option Bool :=
 ((F_impl_within g_.1 0 100).bind fun y0 =>
  (some (!y0)).bind fun a0 =>
  cond a0
  (some true)
  ((some (decide ((60 : Int) < ((g_.2.1.length : Nat) : Int)))).bind fun a1 =>
   cond a1
   (some true)
   ((some (decide ((12 : Int) < ((g_.2.2.1.length : Nat) : Int)))).bind fun a2 =>
    cond a2
    (some true)
    ((some (decide ((12 : Int) < ((g_.2.2.2.length : Nat) : Int)))).bind fun a3 =>
     some a3)))).bind fun (s0 : Bool) =>
 cond s0
 (some false)
 (seqO (forO (fun (k0 : Nat) (_ : Unit) =>
    (idxO g_.2.1 ((k0 : Nat) : Int)).bind fun a4 =>
    (F_impl_Edge_isEdge (a4.1, a4.2.1, a4.2.2.1, a4.2.2.2)).bind fun y1 =>
    (some (!y1)).bind fun a5 =>
    cond a5
    (some (.inr false))
    (some (.inl ()))) g_.2.1.length 0 ()) fun (_ : Unit) =>
  (makeO g_.1 (false : Bool)).bind fun a6 =>
  (F_impl_Graph_lists_impl_Graph_isGraph_1 (g_.1, g_.2.1, g_.2.2.1, g_.2.2.2) (g_.1, g_.2.1, g_.2.2.1, g_.2.2.2) true a6 0).bind fun y2 =>
  (cond y2.1
   ((some (decide (y2.2.2 = g_.1))).bind fun a7 =>
    some (true, a7))
   (some (false, false))).bind fun (s1 : Bool × Bool) =>
  some s1.2)

noncomputable def F_impl_graphOf (t_ : (List (Int × Int × ByteArray))) : Option ((Int × (List (Int × Int × List Int × List Int)) × List Int × List Int) × Bool) :=
 seqO (forO (fun (k0 : Nat) (s0 : List (Int × (List (Int × Int × List Int × List Int)) × List Int × List Int)) =>
   (idxO t_ ((k0 : Nat) : Int)).bind fun a0 =>
   (subO ((s0.length : Nat) : Int) 1).bind fun a1 =>
   (some (decide (a0.1 = 15))).bind fun a2 =>
   cond a2
   ((subO a1 1).bind fun a3 =>
    (idxO s0 a3).bind fun a4 =>
    (idxO s0 a1).bind fun a5 =>
    (F_impl_seqGraphs (a4.1, a4.2.1, a4.2.2.1, a4.2.2.2) (a5.1, a5.2.1, a5.2.2.1, a5.2.2.2)).bind fun y0 =>
    (subO a1 1).bind fun a6 =>
    (sliceO s0 0 a6).bind fun a7 =>
    (F_impl_Graph_isGraph (y0.1, y0.2.1, y0.2.2.1, y0.2.2.2)).bind fun y1 =>
    (some (!y1)).bind fun a8 =>
    cond a8
    (some (.inr ((0, [], [], []), false)))
    ((appO a7 [(y0.1, y0.2.1, y0.2.2.1, y0.2.2.2)]).bind fun a9 =>
     some (.inl a9)))
   ((some (decide (a0.1 = 16))).bind fun a10 =>
    cond a10
    ((subO a1 1).bind fun a11 =>
     (idxO s0 a11).bind fun a12 =>
     (idxO s0 a1).bind fun a13 =>
     (F_impl_parGraphs (a12.1, a12.2.1, a12.2.2.1, a12.2.2.2) (a13.1, a13.2.1, a13.2.2.1, a13.2.2.2)).bind fun y2 =>
     (subO a1 1).bind fun a14 =>
     (sliceO s0 0 a14).bind fun a15 =>
     (F_impl_Graph_isGraph (y2.1, y2.2.1, y2.2.2.1, y2.2.2.2)).bind fun y3 =>
     (some (!y3)).bind fun a16 =>
     cond a16
     (some (.inr ((0, [], [], []), false)))
     ((appO a15 [(y2.1, y2.2.1, y2.2.2.1, y2.2.2.2)]).bind fun a17 =>
      some (.inl a17)))
    ((F_impl_leafGraph (a0.1, a0.2.1, a0.2.2)).bind fun y4 =>
     (F_impl_Graph_isGraph (y4.1, y4.2.1, y4.2.2.1, y4.2.2.2)).bind fun y5 =>
     (some (!y5)).bind fun a18 =>
     cond a18
     (some (.inr ((0, [], [], []), false)))
     ((appO s0 [(y4.1, y4.2.1, y4.2.2.1, y4.2.2.2)]).bind fun a19 =>
      some (.inl a19))))) t_.length 0 ([] : List (Int × (List (Int × Int × List Int × List Int)) × List Int × List Int))) fun (s1 : List (Int × (List (Int × Int × List Int × List Int)) × List Int × List Int)) =>
 (idxO s1 0).bind fun a20 =>
 some ((a20.1, a20.2.1, a20.2.2.1, a20.2.2.2), true)

noncomputable def F_impl_GraphOf (t_ : (List (Int × Int × ByteArray))) : Option ((Int × (List (Int × Int × List Int × List Int)) × List Int × List Int) × Bool) :=
 (F_impl_Term_isValid t_).bind fun y8 =>
 (some (!y8)).bind fun a0 =>
 cond a0
 (some ((0, [], [], []), false))
 ((F_impl_graphOf t_).bind fun y0 =>
  some ((y0.1.1, y0.1.2.1, y0.1.2.2.1, y0.1.2.2.2), y0.2))

noncomputable def F_slices_Index_int_int (s_ : List Int) (v_ : Int) : Option Int :=
 seqO (forO (fun (k2 : Nat) (_ : Unit) =>
   (idxO s_ ((k2 : Nat) : Int)).bind fun a0 =>
   (some (decide (v_ = a0))).bind fun a1 =>
   cond a1
   (some (.inr ((k2 : Nat) : Int)))
   (some (.inl ()))) s_.length 0 ()) fun (_ : Unit) =>
 some (-1)

noncomputable def F_slices_Contains_int_int (s_ : List Int) (v_ : Int) : Option Bool :=
 (F_slices_Index_int_int s_ v_).bind fun y2 =>
 (some (decide ((0 : Int) ≤ y2))).bind fun a5 =>
 some a5

noncomputable def F_impl_Graph_needs_1 (w_ : Int) (c0_ : Int × Int × List Int × List Int) : Option Bool :=
 (F_slices_Contains_int_int c0_.2.2.2 w_).bind fun y4 =>
 some y4

noncomputable def F_slices_IndexFunc_int_int_impl_Graph_needs_1 (s_ : List Int) (d0_ : Int × Int × List Int × List Int) : Option Int :=
 seqO (forO (fun (k5 : Nat) (_ : Unit) =>
   (idxO s_ ((k5 : Nat) : Int)).bind fun a0 =>
   (F_impl_Graph_needs_1 a0 (d0_.1, d0_.2.1, d0_.2.2.1, d0_.2.2.2)).bind fun y0 =>
   cond y0
   (some (.inr ((k5 : Nat) : Int)))
   (some (.inl ()))) s_.length 0 ()) fun (_ : Unit) =>
 some (-1)

noncomputable def F_slices_ContainsFunc_int_int_impl_Graph_needs_1 (s_ : List Int) (d0_ : Int × Int × List Int × List Int) : Option Bool :=
 (F_slices_IndexFunc_int_int_impl_Graph_needs_1 s_ (d0_.1, d0_.2.1, d0_.2.2.1, d0_.2.2.2)).bind fun y5 =>
 (some (decide ((0 : Int) ≤ y5))).bind fun a8 =>
 some a8

noncomputable def F_impl_Graph_needs (g_ : Int × (List (Int × Int × List Int × List Int)) × List Int × List Int) : Option (List (List Int)) :=
 (makeO ((g_.2.1.length : Nat) : Int) ([] : List Int)).bind fun a7 =>
 (forS (fun (k0 : Nat) (s0 : List (List Int)) =>
   (idxO g_.2.1 ((k0 : Nat) : Int)).bind fun a0 =>
   (forS (fun (k1 : Nat) (s1 : List (List Int)) =>
     (idxO g_.2.1 ((k1 : Nat) : Int)).bind fun a1 =>
     (F_slices_ContainsFunc_int_int_impl_Graph_needs_1 a0.2.2.1 (a1.1, a1.2.1, a1.2.2.1, a1.2.2.2)).bind fun y0 =>
     cond y0
     ((idxO s1 ((k0 : Nat) : Int)).bind fun a2 =>
      (appO a2 [((k1 : Nat) : Int)]).bind fun a3 =>
      (setO s1 ((k0 : Nat) : Int) a3).bind fun a4 =>
      some a4)
     (some s1)) g_.2.1.length 0 s0).bind fun (s2 : List (List Int)) =>
   some s2) g_.2.1.length 0 a7).bind fun (s3 : List (List Int)) =>
 some s3

noncomputable def F_impl_Graph_edgeOrder_1_1 (k_ : Int) (c0_ : List Bool) : Option Bool :=
 (idxO c0_ k_).bind fun a9 =>
 (some (!a9)).bind fun a0 =>
 some a0

noncomputable def F_slices_IndexFunc_int_int_impl_Graph_edgeOrder_1_1 (s_ : List Int) (d0_ : List Bool) : Option Int :=
 seqO (forO (fun (k4 : Nat) (_ : Unit) =>
   (idxO s_ ((k4 : Nat) : Int)).bind fun a0 =>
   (F_impl_Graph_edgeOrder_1_1 a0 d0_).bind fun y0 =>
   cond y0
   (some (.inr ((k4 : Nat) : Int)))
   (some (.inl ()))) s_.length 0 ()) fun (_ : Unit) =>
 some (-1)

noncomputable def F_slices_ContainsFunc_int_int_impl_Graph_edgeOrder_1_1 (s_ : List Int) (d0_ : List Bool) : Option Bool :=
 (F_slices_IndexFunc_int_int_impl_Graph_edgeOrder_1_1 s_ d0_).bind fun y4 =>
 (some (decide ((0 : Int) ≤ y4))).bind fun a7 =>
 some a7

noncomputable def F_impl_Graph_edgeOrder_1 (i_ : Int) (c0_ : List Bool) (c1_ : List (List Int)) : Option Bool :=
 ((idxO c0_ i_).bind fun a0 =>
  (some (!a0)).bind fun a1 =>
  cond a1
  ((idxO c1_ i_).bind fun a2 =>
   (F_slices_ContainsFunc_int_int_impl_Graph_edgeOrder_1_1 a2 c0_).bind fun y0 =>
   (some (!y0)).bind fun a3 =>
   some a3)
  (some false)).bind fun (s0 : Bool) =>
 some s0

noncomputable def F_slices_IndexFunc_int_int_impl_Graph_edgeOrder_1 (s_ : List Int) (d0_ : List Bool) (d1_ : List (List Int)) : Option Int :=
 seqO (forO (fun (k6 : Nat) (_ : Unit) =>
   (idxO s_ ((k6 : Nat) : Int)).bind fun a0 =>
   (F_impl_Graph_edgeOrder_1 a0 d0_ d1_).bind fun y0 =>
   cond y0
   (some (.inr ((k6 : Nat) : Int)))
   (some (.inl ()))) s_.length 0 ()) fun (_ : Unit) =>
 some (-1)

noncomputable def F_impl_Graph_edgeOrder (g_ : Int × (List (Int × Int × List Int × List Int)) × List Int × List Int) : Option (List Int) :=
 (F_impl_Graph_needs (g_.1, g_.2.1, g_.2.2.1, g_.2.2.2)).bind fun y7 =>
 (makeO ((y7.length : Nat) : Int) (false : Bool)).bind fun a0 =>
 seqO (whileO (fun (s0 : List Bool × List Int) =>
   (some (decide (((s0.2.length : Nat) : Int) < ((y7.length : Nat) : Int)))).bind fun a1 =>
   cond a1
   ((F_impl_upTo ((y7.length : Nat) : Int)).bind fun y0 =>
    (F_slices_IndexFunc_int_int_impl_Graph_edgeOrder_1 y0 s0.1 y7).bind fun y1 =>
    (some (decide (y1 < 0))).bind fun a2 =>
    cond a2
    (some (.inr (.inr s0.2)))
    ((setO s0.1 y1 true).bind fun a3 =>
     (appO s0.2 [y1]).bind fun a4 =>
     some (.inl (a3, a4))))
   (some (.inr (.inl (s0.1, s0.2))))) (a0, ([] : List Int))) fun (s1 : List Bool × List Int) =>
 some s1.2

noncomputable def F_slices_Concat_impl_Node_impl_Node (slices_ : List (List (Int × Int × ByteArray))) : Option (List (Int × Int × ByteArray)) :=
 (forS (fun (k2 : Nat) (s0 : Int) =>
   (idxO slices_ ((k2 : Nat) : Int)).bind fun a0 =>
   (addO s0 ((a0.length : Nat) : Int)).bind fun a1 =>
   (some (decide (a1 < 0))).bind fun a2 =>
   cond a2
   (none)
   (some a1)) slices_.length 0 0).bind fun (s1 : Int) =>
 (F_slices_Grow_impl_Node_impl_Node s1).bind fun y0 =>
 (forS (fun (k0 : Nat) (s2 : List (Int × Int × ByteArray)) =>
   (idxO slices_ ((k0 : Nat) : Int)).bind fun a3 =>
   (appO s2 a3).bind fun a4 =>
   some a4) slices_.length 0 y0).bind fun (s3 : List (Int × Int × ByteArray)) =>
 some s3

noncomputable def F_impl_joinNodes (kind_ : Int) (a_ : List (Int × Int × ByteArray)) (b_ : List (Int × Int × ByteArray)) : Option (List (Int × Int × ByteArray)) :=
 (F_slices_Concat_impl_Node_impl_Node [a_, b_]).bind fun y8 =>
 (appO y8 [(kind_, 0, .empty)]).bind fun a0 =>
 some a0

noncomputable def F_slices_Equal_int_int (s1_ : List Int) (s2_ : List Int) : Option Bool :=
 (some (!decide (((s1_.length : Nat) : Int) = ((s2_.length : Nat) : Int)))).bind fun a3 =>
 cond a3
 (some false)
 (seqO (forO (fun (k6 : Nat) (_ : Unit) =>
    (idxO s1_ ((k6 : Nat) : Int)).bind fun a0 =>
    (idxO s2_ ((k6 : Nat) : Int)).bind fun a1 =>
    (some (!decide (a0 = a1))).bind fun a2 =>
    cond a2
    (some (.inr false))
    (some (.inl ()))) s1_.length 0 ()) fun (_ : Unit) =>
  some true)

noncomputable def F_impl_placesIn (list_ : List Int) (target_ : List Int) : Option (List Int) :=
 (forS (fun (k6 : Nat) (s0 : List Int) =>
   (idxO list_ ((k6 : Nat) : Int)).bind fun a0 =>
   (F_slices_Index_int_int target_ a0).bind fun y0 =>
   (appO s0 [y0]).bind fun a1 =>
   some a1) list_.length 0 ([] : List Int)).bind fun (s1 : List Int) =>
 some s1

noncomputable def F_impl_leafOf (kind_ : Int) (value_ : Int) : Option (Int × Int × ByteArray) :=
 some (kind_, value_, .empty)

noncomputable def F_impl_layer (n_ : Int) (i_ : Int) : Option (List (Int × Int × ByteArray)) :=
 (F_impl_leafOf 2 0).bind fun y1 =>
 ((some (decide ((0 : Int) < i_))).bind fun a0 =>
  cond a0
  ((F_impl_leafOf 1 i_).bind fun y0 =>
   (F_impl_joinNodes 16 [(y0.1, y0.2.1, y0.2.2)] [(y1.1, y1.2.1, y1.2.2)]).bind fun y2 =>
   some y2)
  (some [(y1.1, y1.2.1, y1.2.2)])).bind fun (s0 : List (Int × Int × ByteArray)) =>
 (subO n_ 2).bind fun a1 =>
 (subO a1 i_).bind fun a2 =>
 (some (decide ((0 : Int) < a2))).bind fun a3 =>
 cond a3
 ((F_impl_leafOf 1 a2).bind fun y3 =>
  (F_impl_joinNodes 16 s0 [(y3.1, y3.2.1, y3.2.2)]).bind fun y4 =>
  some y4)
 (some s0)

noncomputable def F_impl_permutationNodes (perm_ : List Int) : Option (List (Int × Int × ByteArray)) :=
 (F_impl_clone perm_).bind fun y2 =>
 (whileO (fun (s0 : List Int × (List (Int × Int × ByteArray)) × Int) =>
   (addO s0.2.2 1).bind fun a0 =>
   (some (decide (a0 < ((s0.1.length : Nat) : Int)))).bind fun a1 =>
   cond a1
   ((idxO s0.1 s0.2.2).bind fun a2 =>
    (addO s0.2.2 1).bind fun a3 =>
    (idxO s0.1 a3).bind fun a4 =>
    (some (decide (a2 < a4))).bind fun a5 =>
    cond a5
    ((addO s0.2.2 1).bind fun a6 =>
     some (.inl (s0.1, s0.2.1, a6)))
    ((addO s0.2.2 1).bind fun a7 =>
     (addO s0.2.2 1).bind fun a8 =>
     (idxO s0.1 a8).bind fun a9 =>
     (idxO s0.1 s0.2.2).bind fun a10 =>
     (setO s0.1 s0.2.2 a9).bind fun a11 =>
     (setO a11 a7 a10).bind fun a12 =>
     (F_impl_layer ((a12.length : Nat) : Int) s0.2.2).bind fun y0 =>
     (some (decide ((0 : Int) < ((s0.2.1.length : Nat) : Int)))).bind fun a13 =>
     cond a13
     ((F_impl_joinNodes 15 s0.2.1 y0).bind fun y1 =>
      some (.inl (a12, y1, 0)))
     (some (.inl (a12, y0, 0)))))
   (some (.inr (s0.1, s0.2.1)))) (y2, ([] : List (Int × Int × ByteArray)), 0)).bind fun (s1 : List Int × (List (Int × Int × ByteArray))) =>
 (some (decide (((s1.2.length : Nat) : Int) = 0))).bind fun a14 =>
 cond a14
 ((F_impl_leafOf 1 ((s1.1.length : Nat) : Int)).bind fun y3 =>
  some [(y3.1, y3.2.1, y3.2.2)])
 (some s1.2)

noncomputable def F_impl_others (list_ : List Int) (without_ : List Int) : Option (List Int) :=
 (forS (fun (k6 : Nat) (s0 : List Int) =>
   (idxO list_ ((k6 : Nat) : Int)).bind fun a0 =>
   (F_slices_Contains_int_int without_ a0).bind fun y0 =>
   (some (!y0)).bind fun a1 =>
   cond a1
   ((appO s0 [a0]).bind fun a2 =>
    some a2)
   (some s0)) list_.length 0 ([] : List Int)).bind fun (s1 : List Int) =>
 some s1

noncomputable def F_impl_cutBehind (cut_ : List Int) (e_ : Int × Int × List Int × List Int) : Option (List Int) :=
 (F_impl_others cut_ e_.2.2.1).bind fun y8 =>
 (F_impl_joined [e_.2.2.2, y8]).bind fun y0 =>
 some y0

noncomputable def F_impl_validTerm (nodes_ : List (Int × Int × ByteArray)) : Option ((List (Int × Int × ByteArray)) × Bool) :=
 (F_impl_Term_isValid nodes_).bind fun y9 =>
 (some (!y9)).bind fun a0 =>
 cond a0
 (some ([], false))
 (some (nodes_, true))

noncomputable def F_impl_Graph_termByOrder_1 (factor_ : List (Int × Int × ByteArray)) (c0_ : List (Int × Int × ByteArray)) : Option (List (Int × Int × ByteArray)) :=
 ((some (decide ((0 : Int) < ((c0_.length : Nat) : Int)))).bind fun a0 =>
  cond a0
  ((F_impl_joinNodes 15 c0_ factor_).bind fun y0 =>
   some y0)
  (some factor_)).bind fun (s0 : List (Int × Int × ByteArray)) =>
 some s0

noncomputable def F_impl_Graph_termByOrder_2 (cut_ : List Int) (target_ : List Int) (d0_ : List (Int × Int × ByteArray)) : Option (List (Int × Int × ByteArray)) :=
 (F_slices_Equal_int_int cut_ target_).bind fun y6 =>
 (some (!y6)).bind fun a9 =>
 cond a9
 ((F_impl_placesIn cut_ target_).bind fun y0 =>
  (F_impl_permutationNodes y0).bind fun y1 =>
  (F_impl_Graph_termByOrder_1 y1 d0_).bind fun y2 =>
  some y2)
 (some d0_)

noncomputable def F_impl_Graph_termByOrder (g_ : Int × (List (Int × Int × List Int × List Int)) × List Int × List Int) (order_ : List Int) : Option ((List (Int × Int × ByteArray)) × Bool) :=
 seqO (forO (fun (k0 : Nat) (s0 : (List (Int × Int × ByteArray)) × List Int) =>
   (idxO order_ ((k0 : Nat) : Int)).bind fun a0 =>
   (idxO g_.2.1 a0).bind fun a1 =>
   (F_impl_others s0.2 a1.2.2.1).bind fun y0 =>
   ((some (decide ((12 : Int) < ((s0.2.length : Nat) : Int)))).bind fun a2 =>
    cond a2
    (some true)
    ((some (decide ((400 : Int) < ((s0.1.length : Nat) : Int)))).bind fun a3 =>
     some a3)).bind fun (s1 : Bool) =>
   cond s1
   (some (.inr ([], false)))
   ((F_impl_joined [a1.2.2.1, y0]).bind fun y1 =>
    (F_impl_Graph_termByOrder_2 s0.2 y1 s0.1).bind fun y2 =>
    (F_impl_leafOf a1.1 a1.2.1).bind fun y3 =>
    ((some (decide ((0 : Int) < ((y0.length : Nat) : Int)))).bind fun a4 =>
     cond a4
     ((F_impl_leafOf 1 ((y0.length : Nat) : Int)).bind fun y4 =>
      (F_impl_joinNodes 16 [(y3.1, y3.2.1, y3.2.2)] [(y4.1, y4.2.1, y4.2.2)]).bind fun y5 =>
      some y5)
     (some [(y3.1, y3.2.1, y3.2.2)])).bind fun (s2 : List (Int × Int × ByteArray)) =>
    (F_impl_Graph_termByOrder_1 s2 y2).bind fun y6 =>
    (F_impl_cutBehind s0.2 (a1.1, a1.2.1, a1.2.2.1, a1.2.2.2)).bind fun y7 =>
    some (.inl (y6, y7)))) order_.length 0 (([] : List (Int × Int × ByteArray)), g_.2.2.1)) fun (s3 : (List (Int × Int × ByteArray)) × List Int) =>
 (F_impl_Graph_termByOrder_2 s3.2 g_.2.2.2 s3.1).bind fun y8 =>
 ((some (decide (((y8.length : Nat) : Int) = 0))).bind fun a5 =>
  cond a5
  ((F_impl_leafOf 1 ((g_.2.2.1.length : Nat) : Int)).bind fun y9 =>
   some [(y9.1, y9.2.1, y9.2.2)])
  (some y8)).bind fun (s4 : List (Int × Int × ByteArray)) =>
 (F_impl_validTerm s4).bind fun y10 =>
 some (y10.1, y10.2)

noncomputable def F_impl_LayoutTerm (t_ : (List (Int × Int × ByteArray))) : Option ((List (Int × Int × ByteArray)) × Bool) :=
 (F_impl_GraphOf t_).bind fun y8 =>
 (some (!y8.2)).bind fun a0 =>
 cond a0
 (some ([], false))
 ((F_impl_Graph_edgeOrder (y8.1.1, y8.1.2.1, y8.1.2.2.1, y8.1.2.2.2)).bind fun y0 =>
  (F_impl_Graph_termByOrder (y8.1.1, y8.1.2.1, y8.1.2.2.1, y8.1.2.2.2) y0).bind fun y1 =>
  some (y1.1, y1.2))

noncomputable def F_laws_eqNode (a_ : Int × Int × ByteArray) (b_ : Int × Int × ByteArray) : Option Bool :=
 (some (!decide (a_.1 = b_.1))).bind fun a7 =>
 cond a7
 (some false)
 ((some (!decide (a_.2.1 = b_.2.1))).bind fun a0 =>
  cond a0
  (some false)
  ((some (!decide ((a_.2.2 : ByteArray) = b_.2.2))).bind fun a1 =>
   cond a1
   (some false)
   (some true)))

noncomputable def F_laws_eqNodeS (a_ : List (Int × Int × ByteArray)) (b_ : List (Int × Int × ByteArray)) : Option Bool :=
 (some (!decide (((a_.length : Nat) : Int) = ((b_.length : Nat) : Int)))).bind fun a3 =>
 cond a3
 (some false)
 (seqO (whileO (fun (s0 : Int) =>
    (some (decide (s0 < ((a_.length : Nat) : Int)))).bind fun a0 =>
    cond a0
    ((idxO a_ s0).bind fun a1 =>
     (idxO b_ s0).bind fun a2 =>
     (F_laws_eqNode (a1.1, a1.2.1, a1.2.2) (a2.1, a2.2.1, a2.2.2)).bind fun y0 =>
     (some (!y0)).bind fun a4 =>
     cond a4
     (some (.inr (.inr false)))
     ((addO s0 1).bind fun a5 =>
      some (.inl a5)))
    (some (.inr (.inl ())))) 0) fun (s1 : Unit) =>
  some true)

noncomputable def F_laws_eqTerm (a_ : (List (Int × Int × ByteArray))) (b_ : (List (Int × Int × ByteArray))) : Option Bool :=
 (F_laws_eqNodeS a_ b_).bind fun y9 =>
 (some (!y9)).bind fun a0 =>
 cond a0
 (some false)
 (some true)

noncomputable def F_laws_markText (k_ : Int) : Option ByteArray :=
 (some (decide (k_ ≤ 0))).bind fun a1 =>
 cond a1
 (some ⟨#[109, 48]⟩)
 ((whileO (fun (s0 : Int × ByteArray) =>
    (some (decide ((0 : Int) < s0.1))).bind fun a0 =>
    cond a0
    ((remO s0.1 10).bind fun a2 =>
     (addO 48 a2).bind fun a3 =>
     (some (a3 % 256)).bind fun a4 =>
     (some (ofBytes ([a4] : List By))).bind fun a5 =>
     (catO a5 s0.2).bind fun a6 =>
     (quoO s0.1 10).bind fun a7 =>
     some (.inl (a7, a6)))
    (some (.inr s0.2))) (k_, .empty)).bind fun (s1 : ByteArray) =>
  (catO ⟨#[109]⟩ s1).bind fun a8 =>
  some a8)

noncomputable def F_laws_markNodeS (a_ : List (Int × Int × ByteArray)) (k_ : Int) : Option ((List (Int × Int × ByteArray)) × Int) :=
 (whileO (fun (s0 : (List (Int × Int × ByteArray)) × Int × Int) =>
   (some (decide (s0.2.2 < ((s0.1.length : Nat) : Int)))).bind fun a0 =>
   cond a0
   ((idxO s0.1 s0.2.2).bind fun a1 =>
    (setO s0.1 s0.2.2 (s0.2.1, a1.2.1, a1.2.2)).bind fun a2 =>
    (addO s0.2.1 1).bind fun a3 =>
    (idxO a2 s0.2.2).bind fun a4 =>
    (setO a2 s0.2.2 (a4.1, a3, a4.2.2)).bind fun a5 =>
    (addO a3 1).bind fun a6 =>
    (F_laws_markText a6).bind fun y0 =>
    (idxO a5 s0.2.2).bind fun a7 =>
    (setO a5 s0.2.2 (a7.1, a7.2.1, y0)).bind fun a8 =>
    (addO a6 1).bind fun a9 =>
    (addO s0.2.2 1).bind fun a10 =>
    some (.inl (a8, a9, a10)))
   (some (.inr (s0.1, s0.2.1)))) (a_, k_, 0)).bind fun (s1 : (List (Int × Int × ByteArray)) × Int) =>
 some (s1.1, s1.2)

noncomputable def F_laws_markTerm (a_ : (List (Int × Int × ByteArray))) (k_ : Int) : Option ((List (Int × Int × ByteArray)) × Int) :=
 (F_laws_markNodeS a_ k_).bind fun y5 =>
 some (y5.1, y5.2)

noncomputable def F_laws_heldNodeS (a_ : List (Int × Int × ByteArray)) (k_ : Int) : Option Int :=
 seqO (whileO (fun (s0 : Int × Int) =>
   (some (decide (s0.2 < ((a_.length : Nat) : Int)))).bind fun a0 =>
   cond a0
   ((idxO a_ s0.2).bind fun a1 =>
    (some (!decide (a1.1 = s0.1))).bind fun a2 =>
    cond a2
    (some (.inr (.inr (-1))))
    ((addO s0.1 1).bind fun a3 =>
     (idxO a_ s0.2).bind fun a4 =>
     (some (!decide (a4.2.1 = a3))).bind fun a5 =>
     cond a5
     (some (.inr (.inr (-1))))
     ((addO a3 1).bind fun a6 =>
      (idxO a_ s0.2).bind fun a7 =>
      (F_laws_markText a6).bind fun y0 =>
      (some (!decide ((a7.2.2 : ByteArray) = y0))).bind fun a8 =>
      cond a8
      (some (.inr (.inr (-1))))
      ((addO a6 1).bind fun a9 =>
       (addO s0.2 1).bind fun a10 =>
       some (.inl (a9, a10))))))
   (some (.inr (.inl s0.1)))) (k_, 0)) fun (s1 : Int) =>
 some s1

noncomputable def F_laws_heldTerm (a_ : (List (Int × Int × ByteArray))) (k_ : Int) : Option Int :=
 (F_laws_heldNodeS a_ k_).bind fun y5 =>
 (some (decide (y5 < 0))).bind fun a8 =>
 cond a8
 (some (-1))
 (some y5)

noncomputable def F_laws_FnExactLayoutTerm (aT_ : (List (Int × Int × ByteArray))) : Option Bool :=
 (F_laws_szTerm aT_ 1048576).bind fun y5 =>
 (some (decide (y5 < 0))).bind fun a8 =>
 cond a8
 (some true)
 ((F_laws_toTerm aT_).bind fun y0 =>
  (F_spec_LayoutTerm y0).bind fun y1 =>
  (F_laws_toTerm aT_).bind fun y2 =>
  (F_impl_LayoutTerm y2).bind fun y3 =>
  ((F_laws_eqTerm y3.1 y1.1).bind fun y4 =>
   (some (!y4)).bind fun a0 =>
   cond a0
   (some true)
   ((some (!decide (y3.2 = y1.2))).bind fun a1 =>
    some a1)).bind fun (s0 : Bool) =>
  cond s0
  (some false)
  ((F_laws_toTerm aT_).bind fun y6 =>
   (F_laws_eqTerm y2 y6).bind fun y7 =>
   (some (!y7)).bind fun a2 =>
   cond a2
   (some false)
   ((F_laws_markTerm y2 1).bind fun y8 =>
    ((some (decide (y8.2 < 0))).bind fun a3 =>
     cond a3
     (some true)
     ((F_laws_eqTerm y3.1 y1.1).bind fun y9 =>
      (some (!y9)).bind fun a4 =>
      cond a4
      (some true)
      ((some (!decide (y3.2 = y1.2))).bind fun a5 =>
       some a5))).bind fun (s1 : Bool) =>
    cond s1
    (some false)
    ((F_laws_markTerm y3.1 1).bind fun y10 =>
     (F_laws_heldTerm y10.1 1).bind fun y12 =>
     (some (decide (y12 < 0))).bind fun a6 =>
     cond a6
     (some false)
     ((some (!decide (y12 = y10.2))).bind fun a7 =>
      cond a7
      (some false)
      ((F_laws_toTerm aT_).bind fun y13 =>
       (F_impl_LayoutTerm y13).bind fun y14 =>
       ((F_laws_eqTerm y14.1 y1.1).bind fun y15 =>
        (some (!y15)).bind fun a9 =>
        cond a9
        (some true)
        ((some (!decide (y14.2 = y1.2))).bind fun a10 =>
         some a10)).bind fun (s2 : Bool) =>
       cond s2
       (some false)
       ((F_laws_heldTerm y10.1 1).bind fun y17 =>
        (some (decide (y17 < 0))).bind fun a11 =>
        cond a11
        (some false)
        ((some (!decide (y17 = y10.2))).bind fun a12 =>
         cond a12
         (some false)
         (some true)))))))))
end Go.Proofs.YtmchibapkddniaaGreat
