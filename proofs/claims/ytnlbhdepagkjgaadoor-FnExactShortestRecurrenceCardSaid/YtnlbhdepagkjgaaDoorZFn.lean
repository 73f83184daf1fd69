/-
  Partial functions, printed by a program (wip/y/gen.py): what each function of Go computes, over plain data. No program in sight. No condition.
-/
import Derived.Test.YtnlbhdepagkjgaaDoorZF
namespace Go.Proofs.YtnlbhdepagkjgaaDoor
set_option linter.unusedVariables false

noncomputable def F_laws_toIntS (a_ : List Int) : Option (List Int) :=
  (makeO ((a_.length : Nat) : Int) (0 : Int)).bind fun a2 =>
  (whileO (fun (s146 : List Int × Int) =>
      (some (decide (s146.2 < ((a_.length : Nat) : Int)))).bind fun a155 =>
      cond a155
      ((idxO a_ s146.2).bind fun a166 =>
        (setO s146.1 s146.2 a166).bind fun a174 =>
        (addO s146.2 1).bind fun a177 =>
        some (.inl (a174, a177)))
      (some (.inr s146.1))) (a2, 0)).bind fun (s90 : List Int) =>
  some s90

noncomputable def F_spec_l1In (n_ : Int) (lo_ : Int) (hi_ : Int) : Option Bool :=
  ((some (decide (lo_ ≤ n_))).bind fun a13 =>
    cond a13
    ((some (decide (n_ ≤ hi_))).bind fun a17 =>
      some a17)
    (some false)).bind fun (s7 : Bool) =>
  some s7

noncomputable def F_spec_fdGood (p_ : Int) : Option Bool :=
  (F_spec_l1In p_ 2 97).bind fun y1 =>
  (some (!y1)).bind fun a4 =>
  cond a4
  (some false)
  (seqO (whileO (fun (s102 : Int) =>
        (mulO s102 s102).bind fun a111 =>
        (some (decide (a111 ≤ p_))).bind fun a113 =>
        cond a113
        ((remO p_ s102).bind fun a118 =>
          (some (decide (a118 = 0))).bind fun a120 =>
          cond a120
          (some (.inr (.inr false)))
          ((addO s102 1).bind fun a123 =>
            some (.inl a123)))
        (some (.inr (.inl ())))) 2) fun (s64 : Unit) =>
    some true)

noncomputable def F_spec_l1All (l_ : List Int) (lo_ : Int) (hi_ : Int) : Option Bool :=
  seqO (forO (fun (k2 : Nat) (_ : Unit) =>
      (idxO l_ ((k2 : Nat) : Int)).bind fun a35 =>
      (F_spec_l1In a35 lo_ hi_).bind fun y37 =>
      (some (!y37)).bind fun a40 =>
      cond a40
      (some (.inr false))
      (some (.inl ()))) l_.length 0 ()) fun (_ : Unit) =>
  some true

noncomputable def F_spec_fdIn (p_ : Int) (l_ : List Int) : Option Bool :=
  (subO p_ 1).bind fun a2 =>
  (F_spec_l1All l_ 0 a2).bind fun y4 =>
  some y4

noncomputable def F_spec_rzList (p_ : Int) (s_ : List Int) : Option Bool :=
  ((F_spec_fdGood p_).bind fun y20 =>
    cond y20
    ((some (decide (((s_.length : Nat) : Int) ≤ 60))).bind fun a25 =>
      cond a25
      ((F_spec_fdIn p_ s_).bind fun y29 =>
        some y29)
      (some false))
    (some false)).bind fun (s14 : Bool) =>
  some s14

noncomputable def F_spec_fdNeg (p_ : Int) (a_ : Int) : Option Int :=
  (subO p_ a_).bind fun a1 =>
  (remO a1 p_).bind fun a3 =>
  some a3

noncomputable def F_spec_l1Own (l_ : List Int) : Option (List Int) :=
  (appO ([] : List Int) l_).bind fun a5 =>
  some a5

noncomputable def F_spec_mxCopy (m_ : Int × List (List Int)) : Option (Int × List (List Int)) :=
  (forS (fun (k12 : Nat) (s69 : List (List Int)) =>
      (idxO m_.2 ((k12 : Nat) : Int)).bind fun a86 =>
      (F_spec_l1Own a86).bind fun y91 =>
      (appO s69 [y91]).bind fun a99 =>
      some a99) m_.2.length 0 []).bind fun (s107 : List (List Int)) =>
  some (m_.1, s107)

noncomputable def F_spec_mxZero (rows_ : Int) (cols_ : Int) : Option (Int × List (List Int)) :=
  (makeO rows_ ([] : List Int)).bind fun a4 =>
  (forS (fun (k13 : Nat) (s48 : List (List Int)) =>
      (makeO cols_ (0 : Int)).bind fun a58 =>
      (setO s48 ((k13 : Nat) : Int) a58).bind fun a69 =>
      some a69) a4.length 0 a4).bind fun (s74 : List (List Int)) =>
  some (cols_, s74)

noncomputable def F_spec_mxId (n_ : Int) : Option (Int × List (List Int)) :=
  (F_spec_mxZero n_ n_).bind fun y4 =>
  (whileO (fun (s172 : List (List Int) × Int) =>
      (some (decide (s172.2 < n_))).bind fun a181 =>
      cond a181
      ((idxO s172.1 s172.2).bind fun a192 =>
        (setO a192 s172.2 1).bind fun a202 =>
        (setO s172.1 s172.2 a202).bind fun a205 =>
        (addO s172.2 1).bind fun a207 =>
        some (.inl (a205, a207)))
      (some (.inr s172.1))) (y4.2, 0)).bind fun (s108 : List (List Int)) =>
  some (y4.1, s108)

noncomputable def F_spec_fdMul (p_ : Int) (a_ : Int) (b_ : Int) : Option Int :=
  (mulO a_ b_).bind fun a1 =>
  (remO a1 p_).bind fun a3 =>
  some a3

noncomputable def F_spec_fdInv (p_ : Int) (a_ : Int) : Option Int :=
  seqO (whileO (fun (s96 : Int) =>
      (some (decide (s96 < p_))).bind fun a105 =>
      cond a105
      ((mulO a_ s96).bind fun a110 =>
        (remO a110 p_).bind fun a112 =>
        (some (decide (a112 = 1))).bind fun a114 =>
        cond a114
        (some (.inr (.inr s96)))
        ((addO s96 1).bind fun a117 =>
          some (.inl a117)))
      (some (.inr (.inl ())))) 1) fun (s58 : Unit) =>
  some 0

noncomputable def F_spec_mxScale (p_ : Int) (r_ : List Int) (k_ : Int) : Option (List Int) :=
  (forS (fun (k2 : Nat) (s47 : List Int) =>
      (idxO s47 ((k2 : Nat) : Int)).bind fun a62 =>
      (F_spec_fdMul p_ a62 k_).bind fun y64 =>
      (setO s47 ((k2 : Nat) : Int) y64).bind fun a73 =>
      some a73) r_.length 0 r_).bind fun (s78 : List Int) =>
  some s78

noncomputable def F_spec_fdSub (p_ : Int) (a_ : Int) (b_ : Int) : Option Int :=
  (addO a_ p_).bind fun a1 =>
  (subO a1 b_).bind fun a3 =>
  (remO a3 p_).bind fun a5 =>
  some a5

noncomputable def F_spec_mxLess (p_ : Int) (r_ : List Int) (s_ : List Int) (k_ : Int) : Option (List Int) :=
  (forS (fun (k3 : Nat) (s72 : List Int) =>
      (idxO s72 ((k3 : Nat) : Int)).bind fun a88 =>
      (idxO s_ ((k3 : Nat) : Int)).bind fun a96 =>
      (F_spec_fdMul p_ k_ a96).bind fun y98 =>
      (F_spec_fdSub p_ a88 y98).bind fun y101 =>
      (setO s72 ((k3 : Nat) : Int) y101).bind fun a110 =>
      some a110) r_.length 0 r_).bind fun (s115 : List Int) =>
  some s115

noncomputable def F_spec_mxReduce (p_ : Int) (m_ : Int × List (List Int)) : Option ((Int × List (List Int)) × (Int × List (List Int)) × Int × Int) :=
  ((F_spec_mxCopy (m_.1, m_.2)).bind fun y228 =>
    (F_spec_mxId ((m_.2.length : Nat) : Int)).bind fun y246 =>
    some (y228.1, y228.2, y246.1, y246.2)).bind fun (s199 : Int × List (List Int) × Int × List (List Int)) =>
  (whileO (fun (s9763 : List (List Int) × List (List Int) × Int × Int × Int) =>
      (some (decide (s9763.2.2.2.2 < m_.1))).bind fun a9772 =>
      cond a9772
      (((whileO (fun (s11024 : Int) =>
              ((some (decide (s11024 < ((s9763.1.length : Nat) : Int)))).bind fun a11062 =>
                cond a11062
                ((idxO s9763.1 s11024).bind fun a11072 =>
                  (idxO a11072 s9763.2.2.2.2).bind fun a11081 =>
                  (some (decide (a11081 = 0))).bind fun a11083 =>
                  some a11083)
                (some false)).bind fun (s11056 : Bool) =>
              cond s11056
              ((addO s11024 1).bind fun a11090 =>
                some (.inl a11090))
              (some (.inr s11024))) s9763.2.2.1).bind fun (s10898 : Int) =>
          (some (decide (s10898 = ((s9763.1.length : Nat) : Int)))).bind fun a11094 =>
          cond a11094
          (some (s9763.1, s9763.2.1, s9763.2.2.1, s9763.2.2.2.1))
          (((some (decide (s9763.2.2.1 < s10898))).bind fun a11181 =>
              cond a11181
              ((idxO s9763.1 s10898).bind fun a11192 =>
                (idxO s9763.2.1 s10898).bind fun a11201 =>
                (idxO s9763.1 s9763.2.2.1).bind fun a11211 =>
                (idxO s9763.2.1 s9763.2.2.1).bind fun a11228 =>
                (swapO s9763.1 s10898 s9763.2.2.1).bind fun a11245 =>
                (swapO s9763.2.1 s10898 s9763.2.2.1).bind fun a11254 =>
                (F_spec_fdNeg p_ s9763.2.2.2.1).bind fun y11256 =>
                some (a11245, a11254, y11256))
              (some (s9763.1, s9763.2.1, s9763.2.2.2.1))).bind fun (s11175 : List (List Int) × List (List Int) × Int) =>
            (idxO s11175.1 s9763.2.2.1).bind fun a11267 =>
            (idxO a11267 s9763.2.2.2.2).bind fun a11276 =>
            (F_spec_fdMul p_ s11175.2.2 a11276).bind fun y11278 =>
            (idxO s11175.1 s9763.2.2.1).bind fun a11288 =>
            (F_spec_fdInv p_ a11276).bind fun y11291 =>
            (F_spec_mxScale p_ a11288 y11291).bind fun y11294 =>
            (setO s11175.1 s9763.2.2.1 y11294).bind fun a11298 =>
            (idxO s11175.2.1 s9763.2.2.1).bind fun a11307 =>
            (F_spec_fdInv p_ a11276).bind fun y11310 =>
            (F_spec_mxScale p_ a11307 y11310).bind fun y11313 =>
            (setO s11175.2.1 s9763.2.2.1 y11313).bind fun a11317 =>
            (forS (fun (k11319 : Nat) (s11522 : List (List Int) × List (List Int)) =>
                (idxO s11522.1 ((k11319 : Nat) : Int)).bind fun a11537 =>
                (idxO a11537 s9763.2.2.2.2).bind fun a11546 =>
                ((some (!decide (((k11319 : Nat) : Int) = s9763.2.2.1))).bind fun a11560 =>
                  cond a11560
                  ((some (!decide (a11546 = 0))).bind fun a11564 =>
                    some a11564)
                  (some false)).bind fun (s11554 : Bool) =>
                cond s11554
                ((idxO s11522.1 ((k11319 : Nat) : Int)).bind fun a11577 =>
                  (idxO s11522.1 s9763.2.2.1).bind fun a11586 =>
                  (F_spec_mxLess p_ a11577 a11586 a11546).bind fun y11589 =>
                  (neqO ((k11319 : Nat) : Int) s9763.2.2.1).bind fun _ =>
                  (setO s11522.1 ((k11319 : Nat) : Int) y11589).bind fun a11598 =>
                  (idxO s11522.2 ((k11319 : Nat) : Int)).bind fun a11607 =>
                  (idxO s11522.2 s9763.2.2.1).bind fun a11616 =>
                  (F_spec_mxLess p_ a11607 a11616 a11546).bind fun y11619 =>
                  (neqO ((k11319 : Nat) : Int) s9763.2.2.1).bind fun _ =>
                  (setO s11522.2 ((k11319 : Nat) : Int) y11619).bind fun a11628 =>
                  some (a11598, a11628))
                (some (s11522.1, s11522.2))) a11298.length 0 (a11298, a11317)).bind fun (s11632 : List (List Int) × List (List Int)) =>
            (addO s9763.2.2.1 1).bind fun a11634 =>
            some (s11632.1, s11632.2, a11634, y11278))).bind fun (s10704 : List (List Int) × List (List Int) × Int × Int) =>
        (addO s9763.2.2.2.2 1).bind fun a11639 =>
        some (.inl (s10704.1, s10704.2.1, s10704.2.2.1, s10704.2.2.2, a11639)))
      (some (.inr (s9763.1, s9763.2.1, s9763.2.2.1, s9763.2.2.2.1)))) (s199.2.1, s199.2.2.2, 0, 1, 0)).bind fun (s6017 : List (List Int) × List (List Int) × Int × Int) =>
  some ((s199.1, s6017.1), (s199.2.2.1, s6017.2.1), s6017.2.2.1, s6017.2.2.2)

noncomputable def F_spec_spLead (v_ : List Int) : Option Int :=
  (whileO (fun (s226 : Int) =>
      ((some (decide (s226 < ((v_.length : Nat) : Int)))).bind fun a255 =>
        cond a255
        ((idxO v_ s226).bind fun a265 =>
          (some (decide (a265 = 0))).bind fun a267 =>
          some a267)
        (some false)).bind fun (s249 : Bool) =>
      cond s249
      ((addO s226 1).bind fun a274 =>
        some (.inl a274))
      (some (.inr s226))) 0).bind fun (s136 : Int) =>
  some s136

noncomputable def F_spec_mxSolve (p_ : Int) (m_ : Int × List (List Int)) (b_ : List Int) : Option (List Int × Bool) :=
  (F_spec_mxReduce p_ (m_.1, m_.2)).bind fun y6 =>
  ((makeO ((m_.2.length : Nat) : Int) (0 : Int)).bind fun a73 =>
    (F_spec_l1Own b_).bind fun y78 =>
    some (a73, y78)).bind fun (s54 : List Int × List Int) =>
  (whileO (fun (s391 : List Int × List Int × Int) =>
      (some (decide (s391.2.2 < y6.2.2.1))).bind fun a400 =>
      cond a400
      ((idxO y6.1.2 s391.2.2).bind fun a411 =>
        (F_spec_spLead a411).bind fun y414 =>
        (idxO s391.2.1 y414).bind fun a423 =>
        (idxO y6.1.2 s391.2.2).bind fun a431 =>
        (F_spec_mxLess p_ s391.2.1 a431 a423).bind fun y434 =>
        (idxO y6.2.1.2 s391.2.2).bind fun a444 =>
        (F_spec_fdNeg p_ a423).bind fun y447 =>
        (F_spec_mxLess p_ s391.1 a444 y447).bind fun y450 =>
        (addO s391.2.2 1).bind fun a453 =>
        some (.inl (y450, y434, a453)))
      (some (.inr (s391.1, s391.2.1)))) (s54.1, s54.2, 0)).bind fun (s273 : List Int × List Int) =>
  (F_spec_l1All s273.2 0 0).bind fun y457 =>
  some (s273.1, y457)

noncomputable def F_spec_mxTurn (m_ : Int × List (List Int)) : Option (Int × List (List Int)) :=
  (F_spec_mxZero m_.1 ((m_.2.length : Nat) : Int)).bind fun y8 =>
  (forS (fun (k17 : Nat) (s252 : List (List Int)) =>
      (idxO m_.2 ((k17 : Nat) : Int)).bind fun a267 =>
      (forS (fun (k271 : Nat) (s334 : List (List Int)) =>
          (idxO a267 ((k271 : Nat) : Int)).bind fun a349 =>
          (idxO s334 ((k271 : Nat) : Int)).bind fun a357 =>
          (setO a357 ((k17 : Nat) : Int) a349).bind fun a367 =>
          (setO s334 ((k271 : Nat) : Int) a367).bind fun a370 =>
          some a370) a267.length 0 s252).bind fun (s374 : List (List Int)) =>
      some s374) m_.2.length 0 y8.2).bind fun (s378 : List (List Int)) =>
  some (y8.1, s378)

noncomputable def F_spec_spReduce (p_ : Int) (size_ : Int) (rows_ : List (List Int)) : Option (List (List Int)) :=
  (forS (fun (k2 : Nat) (s55 : List (List Int)) =>
      (idxO rows_ ((k2 : Nat) : Int)).bind fun a72 =>
      (F_spec_l1Own a72).bind fun y76 =>
      (appO s55 [y76]).bind fun a84 =>
      some a84) rows_.length 0 []).bind fun (s91 : List (List Int)) =>
  (whileO (fun (s23898 : List (List Int) × Int × Int) =>
      ((some (decide (s23898.2.2 < size_))).bind fun a23919 =>
        cond a23919
        ((some (decide (s23898.2.1 < ((s23898.1.length : Nat) : Int)))).bind fun a23923 =>
          some a23923)
        (some false)).bind fun (s23913 : Bool) =>
      cond s23913
      (((whileO (fun (s26612 : Int) =>
              ((some (decide (s26612 < ((s23898.1.length : Nat) : Int)))).bind fun a26650 =>
                cond a26650
                ((idxO s23898.1 s26612).bind fun a26660 =>
                  (idxO a26660 s23898.2.2).bind fun a26669 =>
                  (some (decide (a26669 = 0))).bind fun a26671 =>
                  some a26671)
                (some false)).bind fun (s26644 : Bool) =>
              cond s26644
              ((addO s26612 1).bind fun a26678 =>
                some (.inl a26678))
              (some (.inr s26612))) s23898.2.1).bind fun (s26486 : Int) =>
          (some (decide (s26486 = ((s23898.1.length : Nat) : Int)))).bind fun a26682 =>
          cond a26682
          (some (s23898.1, s23898.2.1))
          ((idxO s23898.1 s23898.2.1).bind fun a26691 =>
            (idxO s23898.1 s26486).bind fun a26700 =>
            (swapO s23898.1 s23898.2.1 s26486).bind fun a26717 =>
            (idxO a26717 s23898.2.1).bind fun a26725 =>
            (idxO a26725 s23898.2.2).bind fun a26734 =>
            (F_spec_fdInv p_ a26734).bind fun y26736 =>
            (idxO a26717 s23898.2.1).bind fun a26745 =>
            (forS (fun (k26749 : Nat) (s26838 : List (List Int)) =>
                (idxO s26838 s23898.2.1).bind fun a26854 =>
                (idxO s26838 s23898.2.1).bind fun a26863 =>
                (idxO a26863 ((k26749 : Nat) : Int)).bind fun a26872 =>
                (F_spec_fdMul p_ a26872 y26736).bind fun y26874 =>
                (setO a26854 ((k26749 : Nat) : Int) y26874).bind fun a26884 =>
                (setO s26838 s23898.2.1 a26884).bind fun a26887 =>
                some a26887) a26745.length 0 a26717).bind fun (s26891 : List (List Int)) =>
            (forS (fun (k26893 : Nat) (s28062 : List (List Int)) =>
                (((some (decide (((k26893 : Nat) : Int) = s23898.2.1))).bind fun a28393 =>
                    cond a28393
                    (some true)
                    ((idxO s28062 ((k26893 : Nat) : Int)).bind fun a28402 =>
                      (idxO a28402 s23898.2.2).bind fun a28411 =>
                      (some (decide (a28411 = 0))).bind fun a28413 =>
                      some a28413)).bind fun (s28387 : Bool) =>
                  cond s28387
                  (some s28062)
                  ((idxO s28062 ((k26893 : Nat) : Int)).bind fun a28425 =>
                    (idxO a28425 s23898.2.2).bind fun a28434 =>
                    (idxO s28062 ((k26893 : Nat) : Int)).bind fun a28442 =>
                    (forS (fun (k28446 : Nat) (s28575 : List (List Int)) =>
                        (idxO s28575 ((k26893 : Nat) : Int)).bind fun a28591 =>
                        (idxO s28575 ((k26893 : Nat) : Int)).bind fun a28600 =>
                        (idxO s28575 s23898.2.1).bind fun a28609 =>
                        (idxO a28600 ((k28446 : Nat) : Int)).bind fun a28618 =>
                        (idxO a28609 ((k28446 : Nat) : Int)).bind fun a28626 =>
                        (F_spec_fdMul p_ a28434 a28626).bind fun y28628 =>
                        (F_spec_fdSub p_ a28618 y28628).bind fun y28631 =>
                        (setO a28591 ((k28446 : Nat) : Int) y28631).bind fun a28641 =>
                        (setO s28575 ((k26893 : Nat) : Int) a28641).bind fun a28644 =>
                        some a28644) a28442.length 0 s28062).bind fun (s28648 : List (List Int)) =>
                    some s28648)).bind fun (s28358 : List (List Int)) =>
                some s28358) s26891.length 0 s26891).bind fun (s28655 : List (List Int)) =>
            (addO s23898.2.1 1).bind fun a28657 =>
            some (s28655, a28657))).bind fun (s26292 : List (List Int) × Int) =>
        (addO s23898.2.2 1).bind fun a28662 =>
        some (.inl (s26292.1, s26292.2, a28662)))
      (some (.inr (s23898.1, s23898.2.1)))) (s91, 0, 0)).bind fun (s14376 : List (List Int) × Int) =>
  (sliceO s14376.1 0 s14376.2).bind fun a28666 =>
  some a28666

noncomputable def F_spec_spNull (p_ : Int) (size_ : Int) (rows_ : List (List Int)) : Option (List (List Int)) :=
  (F_spec_spReduce p_ size_ rows_).bind fun y2 =>
  (makeO size_ (0 : Int)).bind fun a7 =>
  (forS (fun (k12 : Nat) (s35 : List Int) =>
      (setO s35 ((k12 : Nat) : Int) (-1)).bind fun a50 =>
      some a50) a7.length 0 a7).bind fun (s55 : List Int) =>
  (forS (fun (k57 : Nat) (s130 : List Int) =>
      (idxO y2 ((k57 : Nat) : Int)).bind fun a145 =>
      (F_spec_spLead a145).bind fun y149 =>
      (setO s130 y149 ((k57 : Nat) : Int)).bind fun a158 =>
      some a158) y2.length 0 s55).bind fun (s163 : List Int) =>
  (whileO (fun (s2117 : List (List Int) × Int) =>
      (some (decide (s2117.2 < size_))).bind fun a2128 =>
      cond a2128
      (((idxO s163 s2117.2).bind fun a2330 =>
          (some (decide ((0 : Int) ≤ a2330))).bind fun a2332 =>
          cond a2332
          (some s2117.1)
          ((makeO size_ (0 : Int)).bind fun a2335 =>
            (setO a2335 s2117.2 1).bind fun a2346 =>
            (forS (fun (k2349 : Nat) (s2442 : List Int) =>
                (idxO y2 ((k2349 : Nat) : Int)).bind fun a2457 =>
                (idxO y2 ((k2349 : Nat) : Int)).bind fun a2468 =>
                (idxO a2457 s2117.2).bind fun a2478 =>
                (F_spec_spLead a2468).bind fun y2480 =>
                (F_spec_fdNeg p_ a2478).bind fun y2483 =>
                (setO s2442 y2480 y2483).bind fun a2492 =>
                some a2492) y2.length 0 a2346).bind fun (s2497 : List Int) =>
            (appO s2117.1 [s2497]).bind fun a2502 =>
            some a2502)).bind fun (s2317 : List (List Int)) =>
        (addO s2117.2 1).bind fun a2510 =>
        some (.inl (s2317, a2510)))
      (some (.inr s2117.1))) ([], 0)).bind fun (s1335 : List (List Int)) =>
  (F_spec_spReduce p_ size_ s1335).bind fun y2514 =>
  some y2514

noncomputable def F_spec_rzRecurrence (p_ : Int) (s_ : List Int) (m_ : Int) : Option (List Int × Bool) :=
  (makeO m_ ([] : List Int)).bind fun a2 =>
  (whileO (fun (s853 : List (List Int) × Int × List Int) =>
      (some (decide (s853.2.1 < ((s_.length : Nat) : Int)))).bind fun a864 =>
      cond a864
      ((idxO s_ s853.2.1).bind fun a875 =>
        (F_spec_fdNeg p_ a875).bind fun y877 =>
        (appO s853.2.2 [y877]).bind fun a883 =>
        (forS (fun (k888 : Nat) (s973 : List (List Int)) =>
            (idxO s973 ((k888 : Nat) : Int)).bind fun a989 =>
            (subO s853.2.1 1).bind fun a992 =>
            (subO a992 ((k888 : Nat) : Int)).bind fun a994 =>
            (idxO s_ a994).bind fun a1002 =>
            (appO a989 [a1002]).bind fun a1008 =>
            (setO s973 ((k888 : Nat) : Int) a1008).bind fun a1020 =>
            some a1020) s853.1.length 0 s853.1).bind fun (s1024 : List (List Int)) =>
        (addO s853.2.1 1).bind fun a1026 =>
        some (.inl (s1024, a1026, a883)))
      (some (.inr (s853.1, s853.2.2)))) (a2, m_, [])).bind fun (s514 : List (List Int) × List Int) =>
  (F_spec_mxSolve p_ (((s514.2.length : Nat) : Int), s514.1) s514.2).bind fun y1034 =>
  (some (!y1034.2)).bind fun a1039 =>
  cond a1039
  (some ([], false))
  ((F_spec_mxTurn (((s514.2.length : Nat) : Int), s514.1)).bind fun y1042 =>
    (F_spec_spNull p_ m_ y1042.2).bind fun y1047 =>
    (forS (fun (k1052 : Nat) (s1131 : List Int) =>
        (idxO y1047 ((k1052 : Nat) : Int)).bind fun a1146 =>
        (F_spec_spLead a1146).bind fun y1150 =>
        (idxO s1131 y1150).bind fun a1159 =>
        (F_spec_mxLess p_ s1131 a1146 a1159).bind fun y1161 =>
        some y1161) y1047.length 0 y1034.1).bind fun (s1166 : List Int) =>
    some (s1166, true))

noncomputable def F_spec_ShortestRecurrence (p_ : Int) (s_ : List Int) : Option (List Int × Bool) :=
  (F_spec_rzList p_ s_).bind fun y2 =>
  (some (!y2)).bind fun a5 =>
  cond a5
  (some ([], false))
  (seqO (whileO (fun (s98 : Int) =>
        (some (decide (s98 ≤ ((s_.length : Nat) : Int)))).bind fun a107 =>
        cond a107
        ((F_spec_rzRecurrence p_ s_ s98).bind fun y112 =>
          cond y112.2
          (some (.inr (.inr (y112.1, true))))
          ((addO s98 1).bind fun a118 =>
            some (.inl a118)))
        (some (.inr (.inl ())))) 0) fun (s62 : Unit) =>
    some ([], false))

noncomputable def F_impl_isField (p_ : Int) : Option Bool :=
  ((some (decide (p_ < 2))).bind fun a14 =>
    cond a14
    (some true)
    ((some (decide ((97 : Int) < p_))).bind fun a17 =>
      some a17)).bind fun (s8 : Bool) =>
  cond s8
  (some false)
  ((cI 4).bind fun _ =>
    seqO (forO (fun (k23 : Nat) (_ : Unit) =>
        (idxO [2, 3, 5, 7] ((k23 : Nat) : Int)).bind fun a65 =>
        ((remO p_ a65).bind fun a81 =>
          (some (decide (a81 = 0))).bind fun a83 =>
          cond a83
          ((some (!decide (p_ = a65))).bind fun a87 =>
            some a87)
          (some false)).bind fun (s75 : Bool) =>
        cond s75
        (some (.inr false))
        (some (.inl ()))) ((4 : Int).toNat) 0 ()) fun (_ : Unit) =>
    some true)

noncomputable def F_impl_isElement (p_ : Int) (a_ : Int) : Option Bool :=
  ((some (decide ((0 : Int) ≤ a_))).bind fun a13 =>
    cond a13
    ((some (decide (a_ < p_))).bind fun a17 =>
      some a17)
    (some false)).bind fun (s7 : Bool) =>
  some s7

noncomputable def F_impl_isVector (p_ : Int) (v_ : List Int) (n_ : Int) : Option Bool :=
  (some (!decide (((v_.length : Nat) : Int) = n_))).bind fun a2 =>
  cond a2
  (some false)
  (seqO (forO (fun (k5 : Nat) (_ : Unit) =>
        (idxO v_ ((k5 : Nat) : Int)).bind fun a38 =>
        (F_impl_isElement p_ a38).bind fun y40 =>
        (some (!y40)).bind fun a43 =>
        cond a43
        (some (.inr false))
        (some (.inl ()))) v_.length 0 ()) fun (_ : Unit) =>
    some true)

noncomputable def F_impl_mod (p_ : Int) (a_ : Int) : Option Int :=
  (remO a_ p_).bind fun a1 =>
  (some (decide (a1 < 0))).bind fun a3 =>
  cond a3
  ((addO a1 p_).bind fun a7 =>
    some a7)
  (some a1)

noncomputable def F_impl_zeros (n_ : Int) : Option (List Int) :=
  (makeO n_ (0 : Int)).bind fun a1 =>
  some a1

noncomputable def F_impl_clone (list_ : List Int) : Option (List Int) :=
  (appO ([] : List Int) list_).bind fun a5 =>
  some a5

noncomputable def F_impl_clones (list_ : List (List Int)) : Option (List (List Int)) :=
  (makeCO 0 ((list_.length : Nat) : Int) ([] : List Int)).bind fun a2 =>
  (forS (fun (k7 : Nat) (s59 : List (List Int)) =>
      (idxO list_ ((k7 : Nat) : Int)).bind fun a75 =>
      (F_impl_clone a75).bind fun y79 =>
      (appO s59 [y79]).bind fun a87 =>
      some a87) list_.length 0 a2).bind fun (s94 : List (List Int)) =>
  some s94

noncomputable def F_impl_bit (yes_ : Bool) : Option Int :=
  cond yes_
  (some 1)
  (some 0)

noncomputable def F_impl_power (p_ : Int) (a_ : Int) (n_ : Int) : Option Int :=
  (remO 1 p_).bind fun a1 =>
  (whileO (fun (s217 : Int × Int × Int) =>
      (some (decide ((0 : Int) < s217.2.1))).bind fun a226 =>
      cond a226
      (((remO s217.2.1 2).bind fun a247 =>
          (some (decide (a247 = 1))).bind fun a249 =>
          cond a249
          ((mulO s217.2.2 s217.1).bind fun a253 =>
            (remO a253 p_).bind fun a255 =>
            some a255)
          (some s217.2.2)).bind fun (s241 : Int) =>
        (mulO s217.1 s217.1).bind fun a259 =>
        (remO a259 p_).bind fun a261 =>
        (quoO s217.2.1 2).bind fun a263 =>
        some (.inl (a261, a263, s241)))
      (some (.inr s217.2.2))) (a_, n_, a1)).bind fun (s131 : Int) =>
  some s131

noncomputable def F_impl_inverse (p_ : Int) (a_ : Int) : Option Int :=
  (subO p_ 2).bind fun a1 =>
  (some (decide (p_ = 2))).bind fun a3 =>
  (F_impl_bit a3).bind fun y5 =>
  (addO a1 y5).bind fun a8 =>
  (F_impl_power p_ a_ a8).bind fun y10 =>
  some y10

noncomputable def F_impl_addTimes (p_ : Int) (v_ : List Int) (by_ : Int) (w_ : List Int) : Option (List Int) :=
  (forS (fun (k3 : Nat) (s72 : List Int) =>
      (idxO w_ ((k3 : Nat) : Int)).bind fun a87 =>
      (idxO s72 ((k3 : Nat) : Int)).bind fun a95 =>
      (mulO by_ a87).bind fun a97 =>
      (addO a95 a97).bind fun a99 =>
      (F_impl_mod p_ a99).bind fun y101 =>
      (setO s72 ((k3 : Nat) : Int) y101).bind fun a110 =>
      some a110) w_.length 0 v_).bind fun (s115 : List Int) =>
  some s115

noncomputable def F_impl_rowOperation_apply (o_ : Int × Int × Int × Int) (p_ : Int) (rows_ : List (List Int)) : Option (List (List Int)) :=
  (some (decide (o_.1 = 0))).bind fun a5 =>
  cond a5
  ((idxO rows_ o_.2.2.1).bind fun a173 =>
    (idxO rows_ o_.2.1).bind fun a182 =>
    (swapO rows_ o_.2.1 o_.2.2.1).bind fun a199 =>
    some a199)
  ((some (decide (o_.1 = 1))).bind fun a8 =>
    cond a8
    ((F_impl_inverse p_ o_.2.2.2).bind fun y48 =>
      (idxO rows_ o_.2.1).bind fun a57 =>
      (forS (fun (k61 : Nat) (s122 : List Int) =>
          (idxO s122 ((k61 : Nat) : Int)).bind fun a137 =>
          (mulO a137 y48).bind fun a140 =>
          (remO a140 p_).bind fun a142 =>
          (setO s122 ((k61 : Nat) : Int) a142).bind fun a156 =>
          some a156) a57.length 0 a57).bind fun (s161 : List Int) =>
      (setO rows_ o_.2.1 s161).bind fun a163 =>
      some a163)
    ((some (decide (o_.1 = 2))).bind fun a11 =>
      cond a11
      ((idxO rows_ o_.2.1).bind fun a22 =>
        (negO o_.2.2.2).bind fun a25 =>
        (idxO rows_ o_.2.2.1).bind fun a33 =>
        (F_impl_addTimes p_ a22 a25 a33).bind fun y36 =>
        (neqO o_.2.1 o_.2.2.1).bind fun _ =>
        (setO rows_ o_.2.1 y36).bind fun a45 =>
        some a45)
      (some rows_)))

noncomputable def F_impl_reduction_1 (o_ : Int × Int × Int × Int) (c0_ : Int) (c1_ : List (List Int)) (c2_ : List (List Int)) : Option (List (List Int) × List (List Int)) :=
  (some (decide (([o_.1, o_.2.1, o_.2.2.1, o_.2.2.2] : List Int) = [0, o_.2.1, o_.2.1, 0]))).bind fun a9 =>
  cond a9
  (some (c1_, c2_))
  ((F_impl_rowOperation_apply (o_.1, o_.2.1, o_.2.2.1, o_.2.2.2) c0_ c1_).bind fun y12 =>
    (F_impl_rowOperation_apply (o_.1, o_.2.1, o_.2.2.1, o_.2.2.2) c0_ c2_).bind fun y15 =>
    some (y12, y15))

noncomputable def F_impl_reduction (p_ : Int) (rows_ : List (List Int)) (n_ : Int) (also_ : List (List Int)) : Option (List (List Int) × List (List Int) × Int) :=
  (whileO (fun (s6786 : List (List Int) × List (List Int) × Int × Int) =>
      ((some (decide (s6786.2.2.1 < n_))).bind fun a6807 =>
        cond a6807
        ((some (decide (s6786.2.2.2 < ((s6786.1.length : Nat) : Int)))).bind fun a6811 =>
          some a6811)
        (some false)).bind fun (s6801 : Bool) =>
      cond s6801
      (((whileO (fun (s7797 : Int) =>
              ((some (decide (s7797 < ((s6786.1.length : Nat) : Int)))).bind fun a7835 =>
                cond a7835
                ((idxO s6786.1 s7797).bind fun a7845 =>
                  (idxO a7845 s6786.2.2.1).bind fun a7854 =>
                  (some (decide (a7854 = 0))).bind fun a7856 =>
                  some a7856)
                (some false)).bind fun (s7829 : Bool) =>
              cond s7829
              ((addO s7797 1).bind fun a7863 =>
                some (.inl a7863))
              (some (.inr s7797))) s6786.2.2.2).bind fun (s7671 : Int) =>
          (some (decide (s7671 = ((s6786.1.length : Nat) : Int)))).bind fun a7867 =>
          cond a7867
          (some (s6786.1, s6786.2.1, s6786.2.2.2))
          ((F_impl_reduction_1 (0, s6786.2.2.2, s7671, 0) p_ s6786.1 s6786.2.1).bind fun y7870 =>
            (idxO y7870.1 s6786.2.2.2).bind fun a7879 =>
            (idxO a7879 s6786.2.2.1).bind fun a7888 =>
            (F_impl_reduction_1 (1, s6786.2.2.2, 0, a7888) p_ y7870.1 y7870.2).bind fun y7890 =>
            (forS (fun (k7893 : Nat) (s8050 : List (List Int) × List (List Int)) =>
                ((some (!decide (((k7893 : Nat) : Int) = s6786.2.2.2))).bind fun a8088 =>
                  cond a8088
                  ((idxO s8050.1 ((k7893 : Nat) : Int)).bind fun a8098 =>
                    (idxO a8098 s6786.2.2.1).bind fun a8107 =>
                    (some (!decide (a8107 = 0))).bind fun a8109 =>
                    some a8109)
                  (some false)).bind fun (s8082 : Bool) =>
                cond s8082
                ((idxO s8050.1 ((k7893 : Nat) : Int)).bind fun a8121 =>
                  (idxO a8121 s6786.2.2.1).bind fun a8130 =>
                  (F_impl_reduction_1 (2, ((k7893 : Nat) : Int), s6786.2.2.2, a8130) p_ s8050.1 s8050.2).bind fun y8132 =>
                  some (y8132.1, y8132.2))
                (some (s8050.1, s8050.2))) y7890.1.length 0 (y7890.1, y7890.2)).bind fun (s8137 : List (List Int) × List (List Int)) =>
            (addO s6786.2.2.2 1).bind fun a8139 =>
            some (s8137.1, s8137.2, a8139))).bind fun (s7477 : List (List Int) × List (List Int) × Int) =>
        (addO s6786.2.2.1 1).bind fun a8144 =>
        some (.inl (s7477.1, s7477.2.1, a8144, s7477.2.2)))
      (some (.inr (s6786.1, s6786.2.1, s6786.2.2.2)))) (rows_, also_, 0, 0)).bind fun (s4076 : List (List Int) × List (List Int) × Int) =>
  some (s4076.1, s4076.2.1, s4076.2.2)

noncomputable def F_impl_reduced (p_ : Int) (rows_ : List (List Int)) (n_ : Int) : Option (List (List Int)) :=
  (F_impl_clones rows_).bind fun y2 =>
  (makeO ((y2.length : Nat) : Int) ([] : List Int)).bind fun a7 =>
  (F_impl_reduction p_ y2 n_ a7).bind fun y12 =>
  (sliceO y12.1 0 y12.2.2).bind fun a15 =>
  some a15

noncomputable def F_impl_lead (v_ : List Int) : Option Int :=
  seqO (forO (fun (k2 : Nat) (_ : Unit) =>
      (idxO v_ ((k2 : Nat) : Int)).bind fun a32 =>
      (some (!decide (a32 = 0))).bind fun a34 =>
      cond a34
      (some (.inr ((k2 : Nat) : Int)))
      (some (.inl ()))) v_.length 0 ()) fun (_ : Unit) =>
  some ((v_.length : Nat) : Int)

noncomputable def F_impl_firstSolution (p_ : Int) (equations_ : List (List Int)) (n_ : Int) : Option (List Int × Bool) :=
  (forS (fun (k5 : Nat) (s439 : List (List Int)) =>
      (idxO equations_ ((k5 : Nat) : Int)).bind fun a455 =>
      ((subO n_ 1).bind fun a553 =>
        whileO (fun (s604 : List Int × Int) =>
          (some (decide ((0 : Int) ≤ s604.2))).bind fun a614 =>
          cond a614
          ((idxO a455 s604.2).bind fun a625 =>
            (appO s604.1 [a625]).bind fun a630 =>
            (subO s604.2 1).bind fun a635 =>
            some (.inl (a630, a635)))
          (some (.inr s604.1))) (([] : List Int), a553)).bind fun (s546 : List Int) =>
      (idxO a455 n_).bind fun a645 =>
      (appO s546 [a645]).bind fun a650 =>
      (appO s439 [a650]).bind fun a658 =>
      some a658) equations_.length 0 ([] : List (List Int))).bind fun (s665 : List (List Int)) =>
  (F_impl_zeros n_).bind fun y668 =>
  (addO n_ 1).bind fun a673 =>
  (F_impl_reduced p_ s665 a673).bind fun y675 =>
  seqO (forO (fun (k680 : Nat) (s801 : List Int) =>
      (idxO y675 ((k680 : Nat) : Int)).bind fun a816 =>
      (F_impl_lead a816).bind fun y820 =>
      (some (decide (y820 = n_))).bind fun a823 =>
      cond a823
      (some (.inr ([], false)))
      ((subO n_ 1).bind fun a826 =>
        (subO a826 y820).bind fun a828 =>
        (idxO a816 n_).bind fun a836 =>
        (setO s801 a828 a836).bind fun a844 =>
        some (.inl a844))) y675.length 0 y668) fun (s852 : List Int) =>
  some (s852, true)

noncomputable def F_impl_recurrenceOfLength (p_ : Int) (s_ : List Int) (m_ : Int) : Option (List Int × Bool) :=
  (whileO (fun (s638 : List (List Int) × Int) =>
      (some (decide (s638.2 < ((s_.length : Nat) : Int)))).bind fun a648 =>
      cond a648
      ((cI m_).bind fun _ =>
        (forS (fun (k656 : Nat) (s702 : List Int) =>
            (subO s638.2 1).bind fun a714 =>
            (subO a714 ((k656 : Nat) : Int)).bind fun a716 =>
            (idxO s_ a716).bind fun a724 =>
            (appO s702 [a724]).bind fun a729 =>
            some a729) m_.toNat 0 ([] : List Int)).bind fun (s736 : List Int) =>
        (idxO s_ s638.2).bind fun a745 =>
        (negO a745).bind fun a747 =>
        (F_impl_mod p_ a747).bind fun y749 =>
        (appO s736 [y749]).bind fun a755 =>
        (appO s638.1 [a755]).bind fun a763 =>
        (addO s638.2 1).bind fun a768 =>
        some (.inl (a763, a768)))
      (some (.inr s638.1))) (([] : List (List Int)), m_)).bind fun (s384 : List (List Int)) =>
  (F_impl_firstSolution p_ s384 m_).bind fun y772 =>
  some (y772.1, y772.2)

noncomputable def F_impl_ShortestRecurrence (p_ : Int) (s_ : List Int) : Option (List Int × Bool) :=
  ((F_impl_isField p_).bind fun y25 =>
    (some (!y25)).bind fun a28 =>
    cond a28
    (some true)
    ((some (decide ((60 : Int) < ((s_.length : Nat) : Int)))).bind fun a31 =>
      cond a31
      (some true)
      ((F_impl_isVector p_ s_ ((s_.length : Nat) : Int)).bind fun y34 =>
        (some (!y34)).bind fun a37 =>
        some a37))).bind fun (s19 : Bool) =>
  cond s19
  (some ([], false))
  (whileO (fun (s66 : Int) =>
      (F_impl_recurrenceOfLength p_ s_ s66).bind fun y75 =>
      cond y75.2
      (some (.inr (y75.1, true)))
      ((addO s66 1).bind fun a81 =>
        some (.inl a81))) 0)

noncomputable def F_laws_eqIntS (a_ : List Int) (b_ : List Int) : Option Bool :=
  (some (!decide (((a_.length : Nat) : Int) = ((b_.length : Nat) : Int)))).bind fun a3 =>
  cond a3
  (some false)
  (seqO (whileO (fun (s166 : Int) =>
        (some (decide (s166 < ((a_.length : Nat) : Int)))).bind fun a175 =>
        cond a175
        ((idxO a_ s166).bind fun a187 =>
          (idxO b_ s166).bind fun a195 =>
          (some (!decide (a187 = a195))).bind fun a197 =>
          cond a197
          (some (.inr (.inr false)))
          ((addO s166 1).bind fun a200 =>
            some (.inl a200)))
        (some (.inr (.inl ())))) 0) fun (s102 : Unit) =>
    some true)

noncomputable def F_laws_markIntS (a_ : List Int) (k_ : Int) : Option (List Int × Int) :=
  (whileO (fun (s111 : List Int × Int × Int) =>
      (some (decide (s111.2.2 < ((s111.1.length : Nat) : Int)))).bind fun a120 =>
      cond a120
      ((setO s111.1 s111.2.2 s111.2.1).bind fun a131 =>
        (addO s111.2.1 1).bind fun a134 =>
        (addO s111.2.2 1).bind fun a136 =>
        some (.inl (a131, a134, a136)))
      (some (.inr (s111.1, s111.2.1)))) (a_, k_, 0)).bind fun (s67 : List Int × Int) =>
  some (s67.1, s67.2)

noncomputable def F_laws_heldIntS (a_ : List Int) (k_ : Int) : Option Int :=
  seqO (whileO (fun (s127 : Int × Int) =>
      (some (decide (s127.2 < ((a_.length : Nat) : Int)))).bind fun a136 =>
      cond a136
      ((idxO a_ s127.2).bind fun a147 =>
        (some (!decide (a147 = s127.1))).bind fun a149 =>
        cond a149
        (some (.inr (.inr (-1))))
        ((addO s127.1 1).bind fun a152 =>
          (addO s127.2 1).bind fun a154 =>
          some (.inl (a152, a154))))
      (some (.inr (.inl s127.1)))) (k_, 0)) fun (s77 : Int) =>
  some s77

noncomputable def F_laws_FnExactShortestRecurrence (aP_ : Int) (aS_ : List Int) : Option Bool :=
  (some (decide ((1048576 : Int) < ((aS_.length : Nat) : Int)))).bind fun a3 =>
  cond a3
  (some true)
  ((F_laws_toIntS aS_).bind fun y6 =>
    (F_spec_ShortestRecurrence aP_ y6).bind fun y11 =>
    (F_laws_toIntS aS_).bind fun y16 =>
    (F_impl_ShortestRecurrence aP_ y16).bind fun y21 =>
    ((F_laws_eqIntS y21.1 y11.1).bind fun y41 =>
      (some (!y41)).bind fun a44 =>
      cond a44
      (some true)
      ((some (!decide (y21.2 = y11.2))).bind fun a47 =>
        some a47)).bind fun (s35 : Bool) =>
    cond s35
    (some false)
    ((F_laws_toIntS aS_).bind fun y53 =>
      (F_laws_eqIntS y16 y53).bind fun y58 =>
      (some (!y58)).bind fun a61 =>
      cond a61
      (some false)
      ((F_laws_markIntS y16 1).bind fun y64 =>
        ((some (decide (y64.2 < 0))).bind fun a86 =>
          cond a86
          (some true)
          ((F_laws_eqIntS y21.1 y11.1).bind fun y89 =>
            (some (!y89)).bind fun a92 =>
            cond a92
            (some true)
            ((some (!decide (y21.2 = y11.2))).bind fun a95 =>
              some a95))).bind fun (s80 : Bool) =>
        cond s80
        (some false)
        ((F_laws_markIntS y21.1 1).bind fun y102 =>
          (F_laws_heldIntS y102.1 1).bind fun y105 =>
          (some (decide (y105 < 0))).bind fun a108 =>
          cond a108
          (some false)
          ((some (!decide (y105 = y102.2))).bind fun a111 =>
            cond a111
            (some false)
            ((F_laws_toIntS aS_).bind fun y114 =>
              (F_impl_ShortestRecurrence aP_ y114).bind fun y119 =>
              ((F_laws_eqIntS y119.1 y11.1).bind fun y139 =>
                (some (!y139)).bind fun a142 =>
                cond a142
                (some true)
                ((some (!decide (y119.2 = y11.2))).bind fun a145 =>
                  some a145)).bind fun (s133 : Bool) =>
              cond s133
              (some false)
              ((F_laws_heldIntS y102.1 1).bind fun y151 =>
                (some (decide (y151 < 0))).bind fun a154 =>
                cond a154
                (some false)
                ((some (!decide (y151 = y102.2))).bind fun a157 =>
                  cond a157
                  (some false)
                  (some true)))))))))
end Go.Proofs.YtnlbhdepagkjgaaDoor
