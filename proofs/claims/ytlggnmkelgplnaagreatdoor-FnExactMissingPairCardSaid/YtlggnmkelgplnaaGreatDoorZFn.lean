/-
 Partial functions, printed by a program (wip/y/gen.py): what each function of Go computes, over plain data. No program in sight. No condition.
-/
import Derived.Test.YtlggnmkelgplnaaGreatDoorZF
namespace Go.Proofs.YtlggnmkelgplnaaGreatDoor
set_option linter.unusedVariables false
noncomputable def F_laws_szNode (a_:Int × Int × ByteArray) (left_:Int):Option Int:=
 (subO left_ ((a_.2.2.size:Nat):Int)).bind fun a4=>
 (some (decide (a4 < 0))).bind fun a6=>
 cond a6
 (some (-1))
 (some a4)
noncomputable def F_laws_szNodeS (a_:List (Int × Int × ByteArray)) (left_:Int):Option Int:=
 (subO left_ ((a_.length:Nat):Int)).bind fun a2=>
 (some (decide (a2 < 0))).bind fun a4=>
 cond a4
 (some (-1))
 (seqO (whileO (fun (s0:Int × Int)=>
    (some (decide (s0.2 < ((a_.length:Nat):Int)))).bind fun a0=>
    cond a0
    ((idxO a_ s0.2).bind fun a1=>
     (F_laws_szNode (a1.1,a1.2.1,a1.2.2) s0.1).bind fun y0=>
     (some (decide (y0 < 0))).bind fun a3=>
     cond a3
     (some (.inr (.inr (-1))))
     ((addO s0.2 1).bind fun a5=>
      some (.inl (y0,a5))))
    (some (.inr (.inl s0.1)))) (a2,0)) fun (s1:Int)=>
  some s1)
noncomputable def F_laws_szTerm (a_:(List (Int × Int × ByteArray))) (left_:Int):Option Int:=
 (F_laws_szNodeS a_ left_).bind fun y5=>
 (some (decide (y5 < 0))).bind fun a8=>
 cond a8
 (some (-1))
 (some y5)
noncomputable def F_laws_toNode (a_:Int × Int × ByteArray):Option (Int × Int × ByteArray):=
 some (a_.1,a_.2.1,a_.2.2)
noncomputable def F_laws_toNodeS (a_:List (Int × Int × ByteArray)):Option (List (Int × Int × ByteArray)):=
 (makeO ((a_.length:Nat):Int) ((0,0,.empty):Int × Int × ByteArray)).bind fun a2=>
 (whileO (fun (s0:(List (Int × Int × ByteArray)) × Int)=>
   (some (decide (s0.2 < ((a_.length:Nat):Int)))).bind fun a0=>
   cond a0
   ((idxO a_ s0.2).bind fun a1=>
    (F_laws_toNode (a1.1,a1.2.1,a1.2.2)).bind fun y0=>
    (setO s0.1 s0.2 (y0.1,y0.2.1,y0.2.2)).bind fun a3=>
    (addO s0.2 1).bind fun a4=>
    some (.inl (a3,a4)))
   (some (.inr s0.1))) (a2,0)).bind fun (s1:List (Int × Int × ByteArray))=>
 some s1
noncomputable def F_laws_toTerm (a_:(List (Int × Int × ByteArray))):Option (List (Int × Int × ByteArray)):=
 (F_laws_toNodeS a_).bind fun y0=>
 some y0
noncomputable def F_spec_l1In (n_:Int) (lo_:Int) (hi_:Int):Option Bool:=
 ((some (decide (lo_ ≤ n_))).bind fun a0=>
  cond a0
  ((some (decide (n_ ≤ hi_))).bind fun a1=>
   some a1)
  (some false)).bind fun (s7:Bool)=>
 some s7
noncomputable def F_spec_tmLeaf (n_:Int × Int × ByteArray):Option Bool:=
 ((some (!decide ((n_.2.2:ByteArray) = .empty))).bind fun a0=>
  cond a0
  (some true)
  ((F_spec_l1In n_.1 1 14).bind fun y0=>
   (some (!y0)).bind fun a1=>
   some a1)).bind fun (s0:Bool)=>
 cond s0
 (some false)
 ((some (decide (n_.1 = 1))).bind fun a2=>
  cond a2
  ((F_spec_l1In n_.2.1 0 12).bind fun y1=>
   some y1)
  (((some (decide (n_.1 = 7))).bind fun a3=>
    cond a3
    (some true)
    ((some (decide (n_.1 = 13))).bind fun a4=>
     some a4)).bind fun (s1:Bool)=>
   cond s1
   ((F_spec_l1In n_.2.1 0 96).bind fun y2=>
    some y2)
   ((some (decide (n_.2.1 = 0))).bind fun a5=>
    some a5)))
noncomputable def F_spec_tmKind (kind_:Int):Option (Int × Int):=
 (some (decide (kind_ = 2))).bind fun a1=>
 cond a1
 (some (2,2))
 (((some (decide (kind_ = 3))).bind fun a0=>
   cond a0
   (some true)
   ((some (decide (kind_ = 11))).bind fun a2=>
    some a2)).bind fun (s0:Bool)=>
  cond s0
  (some (1,2))
  (((some (decide (kind_ = 4))).bind fun a3=>
    cond a3
    (some true)
    ((some (decide (kind_ = 12))).bind fun a4=>
     some a4)).bind fun (s1:Bool)=>
   cond s1
   (some (1,0))
   (((some (decide (kind_ = 5))).bind fun a5=>
     cond a5
     (some true)
     ((some (decide (kind_ = 9))).bind fun a6=>
      some a6)).bind fun (s2:Bool)=>
    cond s2
    (some (2,1))
    (((some (decide (kind_ = 6))).bind fun a7=>
      cond a7
      (some true)
      ((some (decide (kind_ = 10))).bind fun a8=>
       some a8)).bind fun (s3:Bool)=>
     cond s3
     (some (0,1))
     (some (1,1))))))
noncomputable def F_spec_tmArity (n_:Int × Int × ByteArray):Option (Int × Int):=
 (some (decide (n_.1 = 1))).bind fun a4=>
 cond a4
 (some (n_.2.1,n_.2.1))
 ((F_spec_tmKind n_.1).bind fun y7=>
  some (y7.1,y7.2))
noncomputable def F_spec_lbFind (lib_:List (ByteArray × Int × Int × (List (Int × Int × ByteArray)))) (name_:ByteArray):Option Int:=
 seqO (forO (fun (k2:Nat) (_:Unit)=>
   (idxO lib_ ((k2:Nat):Int)).bind fun a0=>
   (some (decide ((a0.1:ByteArray) = name_))).bind fun a1=>
   cond a1
   (some (.inr ((k2:Nat):Int)))
   (some (.inl ()))) lib_.length 0 ()) fun (_:Unit)=>
 some (-1)
noncomputable def F_spec_lbScan (lib_:List (ByteArray × Int × Int × (List (Int × Int × ByteArray)))) (t_:(List (Int × Int × ByteArray))):Option ((List Int × List Int × List Int) × Bool):=
 (F_spec_l1In ((t_.length:Nat):Int) 1 400).bind fun y0=>
 (some (!y0)).bind fun a0=>
 cond a0
 (some (([],[],[]),false))
 (seqO (forO (fun (k0:Nat) (s0:List Int × List Int × List Int)=>
    seqO ((idxO t_ ((k0:Nat):Int)).bind fun a1=>
     ((F_spec_tmLeaf (a1.1,a1.2.1,a1.2.2)).bind fun y1=>
      cond y1
      (some true)
      ((some (decide (a1.1 = 17))).bind fun a2=>
       some a2)).bind fun (s1:Bool)=>
     cond s1
     ((F_spec_tmArity (a1.1,a1.2.1,a1.2.2)).bind fun y2=>
      seqO ((some (decide (a1.1 = 17))).bind fun a3=>
       cond a3
       ((F_spec_lbFind lib_ a1.2.2).bind fun y3=>
        ((some (decide (y3 < 0))).bind fun a4=>
         cond a4
         (some true)
         ((some (!decide (a1.2.1 = 0))).bind fun a5=>
          some a5)).bind fun (s2:Bool)=>
        cond s2
        (some (.inr (.inr (.inr ((s0.1,s0.2.1,s0.2.2),false)))))
        ((idxO lib_ y3).bind fun a6=>
         (idxO lib_ y3).bind fun a7=>
         some (.inl (a7.2.2.1,a6.2.1))))
       (some (.inl (y2.2,y2.1)))) fun (s3:Int × Int)=>
      (appO s0.1 [((k0:Nat):Int)]).bind fun a8=>
      (appO s0.2.1 [s3.2]).bind fun a9=>
      (appO s0.2.2 [s3.1]).bind fun a10=>
      some (.inl (a8,a9,a10)))
     (((some (!decide (a1.1 = 15))).bind fun a11=>
       cond a11
       ((some (!decide (a1.1 = 16))).bind fun a12=>
        cond a12
        (some true)
        ((some (!decide ((a1.2.2:ByteArray) = .empty))).bind fun a13=>
         cond a13
         (some true)
         ((some (!decide (a1.2.1 = 0))).bind fun a14=>
          cond a14
          (some true)
          ((some (decide (((k0:Nat):Int) < 2))).bind fun a16=>
           cond a16
           (some true)
           ((subO ((k0:Nat):Int) 1).bind fun a17=>
            (idxO s0.1 a17).bind fun a18=>
            (some (decide (a18 < 1))).bind fun a19=>
            some a19)))))
       ((some (!decide ((a1.2.2:ByteArray) = .empty))).bind fun a20=>
        cond a20
        (some true)
        ((some (!decide (a1.2.1 = 0))).bind fun a21=>
         cond a21
         (some true)
         ((some (decide (((k0:Nat):Int) < 2))).bind fun a22=>
          cond a22
          (some true)
          ((subO ((k0:Nat):Int) 1).bind fun a23=>
           (idxO s0.1 a23).bind fun a24=>
           (some (decide (a24 < 1))).bind fun a25=>
           some a25))))).bind fun (s4:Bool)=>
      cond s4
      (some (.inr (.inr ((s0.1,s0.2.1,s0.2.2),false))))
      ((subO ((k0:Nat):Int) 1).bind fun a26=>
       (idxO s0.1 a26).bind fun a27=>
       (subO a27 1).bind fun a28=>
       (idxO s0.2.1 a28).bind fun a29=>
       (idxO s0.2.1 a26).bind fun a30=>
       (addO a29 a30).bind fun a31=>
       (idxO s0.2.2 a28).bind fun a32=>
       (idxO s0.2.2 a26).bind fun a33=>
       (addO a32 a33).bind fun a34=>
       seqO ((some (decide (a1.1 = 15))).bind fun a35=>
        cond a35
        ((idxO s0.2.2 a28).bind fun a36=>
         (idxO s0.2.1 a26).bind fun a37=>
         (some (!decide (a36 = a37))).bind fun a38=>
         cond a38
         (some (.inr (.inr (.inr ((s0.1,s0.2.1,s0.2.2),false)))))
         ((idxO s0.2.1 a28).bind fun a39=>
          (idxO s0.2.2 a26).bind fun a40=>
          some (.inl (a39,a40))))
        (some (.inl (a31,a34)))) fun (s5:Int × Int)=>
       ((some (decide ((12:Int) < s5.1))).bind fun a41=>
        cond a41
        (some true)
        ((some (decide ((12:Int) < s5.2))).bind fun a42=>
         some a42)).bind fun (s6:Bool)=>
       cond s6
       (some (.inr (.inr ((s0.1,s0.2.1,s0.2.2),false))))
       ((idxO s0.1 a28).bind fun a43=>
        (appO s0.1 [a43]).bind fun a44=>
        (appO s0.2.1 [s5.1]).bind fun a45=>
        (appO s0.2.2 [s5.2]).bind fun a46=>
        some (.inl (a44,a45,a46)))))) fun (s7:List Int × List Int × List Int)=>
    some (.inl (s7.1,s7.2.1,s7.2.2))) t_.length 0 ([],[],[])) fun (s8:List Int × List Int × List Int)=>
  (subO ((t_.length:Nat):Int) 1).bind fun a47=>
  (idxO s8.1 a47).bind fun a48=>
  (some (decide (a48 = 0))).bind fun a49=>
  some ((s8.1,s8.2.1,s8.2.2),a49))
noncomputable def F_spec_tmScan (t_:(List (Int × Int × ByteArray))):Option ((List Int × List Int × List Int) × Bool):=
 (F_spec_lbScan [] t_).bind fun y9=>
 some ((y9.1.1,y9.1.2.1,y9.1.2.2),y9.2)
noncomputable def F_spec_fdGood (p_:Int):Option Bool:=
 (F_spec_l1In p_ 2 97).bind fun y1=>
 (some (!y1)).bind fun a4=>
 cond a4
 (some false)
 (seqO (whileO (fun (s0:Int)=>
    (mulO s0 s0).bind fun a0=>
    (some (decide (a0 ≤ p_))).bind fun a1=>
    cond a1
    ((remO p_ s0).bind fun a2=>
     (some (decide (a2 = 0))).bind fun a3=>
     cond a3
     (some (.inr (.inr false)))
     ((addO s0 1).bind fun a5=>
      some (.inl a5)))
    (some (.inr (.inl ())))) 2) fun (s1:Unit)=>
  some true)
noncomputable def F_spec_tmGood (p_:Int) (t_:(List (Int × Int × ByteArray))):Option Bool:=
 (F_spec_tmScan t_).bind fun y5=>
 ((some (!y5.2)).bind fun a0=>
  cond a0
  (some true)
  ((F_spec_fdGood p_).bind fun y0=>
   (some (!y0)).bind fun a1=>
   some a1)).bind fun (s0:Bool)=>
 cond s0
 (some false)
 (seqO (forO (fun (k0:Nat) (_:Unit)=>
    (idxO t_ ((k0:Nat):Int)).bind fun a2=>
    ((some (decide (a2.1 = 7))).bind fun a3=>
     cond a3
     ((some (decide (p_ ≤ a2.2.1))).bind fun a4=>
      some a4)
     ((some (decide (a2.1 = 13))).bind fun a5=>
      cond a5
      ((some (decide (p_ ≤ a2.2.1))).bind fun a6=>
       some a6)
      (some false))).bind fun (s1:Bool)=>
    cond s1
    (some (.inr false))
    (some (.inl ()))) t_.length 0 ()) fun (_:Unit)=>
  some true)
noncomputable def F_spec_dnTimeless (kind_:Int):Option Bool:=
 ((some (!decide (kind_ = 8))).bind fun a0=>
  cond a0
  ((some (!decide (kind_ = 14))).bind fun a1=>
   some a1)
  (some false)).bind fun (s7:Bool)=>
 some s7
noncomputable def F_spec_hgId (n_:Int):Option (Int × (List (Int × Int × List Int × List Int)) × List Int × List Int):=
 (whileO (fun (s0:List Int × List Int × Int)=>
   (some (decide (s0.2.2 < n_))).bind fun a0=>
   cond a0
   ((appO s0.1 [s0.2.2]).bind fun a1=>
    (appO s0.2.1 [s0.2.2]).bind fun a2=>
    (addO s0.2.2 1).bind fun a3=>
    some (.inl (a1,a2,a3)))
   (some (.inr (s0.1,s0.2.1)))) ([],[],0)).bind fun (s1:List Int × List Int)=>
 some (n_,[],s1.1,s1.2)
noncomputable def F_spec_hgLeaf (x_:Int × Int × ByteArray):Option (Int × (List (Int × Int × List Int × List Int)) × List Int × List Int):=
 (some (decide (x_.1 = 1))).bind fun a7=>
 cond a7
 ((F_spec_hgId x_.2.1).bind fun y0=>
  some (y0.1,y0.2.1,y0.2.2.1,y0.2.2.2))
 ((some (decide (x_.1 = 2))).bind fun a0=>
  cond a0
  (some (2,[],[0,1],[1,0]))
  ((F_spec_tmKind x_.1).bind fun y1=>
   (addO y1.1 y1.2).bind fun a1=>
   (whileO (fun (s0:List Int × List Int × List Int × List Int × Int)=>
     (addO y1.1 y1.2).bind fun a2=>
     (some (decide (s0.2.2.2.2 < a2))).bind fun a3=>
     cond a3
     ((some (decide (s0.2.2.2.2 < y1.1))).bind fun a4=>
      cond a4
      ((appO s0.1 [s0.2.2.2.2]).bind fun a5=>
       (appO s0.2.2.1 [s0.2.2.2.2]).bind fun a6=>
       (addO s0.2.2.2.2 1).bind fun a8=>
       some (.inl (a5,s0.2.1,a6,s0.2.2.2.1,a8)))
      ((appO s0.2.1 [s0.2.2.2.2]).bind fun a9=>
       (appO s0.2.2.2.1 [s0.2.2.2.2]).bind fun a11=>
       (addO s0.2.2.2.2 1).bind fun a12=>
       some (.inl (s0.1,a9,s0.2.2.1,a11,a12))))
     (some (.inr (s0.1,s0.2.1,s0.2.2.1,s0.2.2.2.1)))) ([],[],[],[],0)).bind fun (s1:List Int × List Int × List Int × List Int)=>
   some (a1,[(x_.1,x_.2.1,s1.2.2.1,s1.2.2.2)],s1.1,s1.2.1)))
noncomputable def F_spec_l1All (l_:List Int) (lo_:Int) (hi_:Int):Option Bool:=
 seqO (forO (fun (k2:Nat) (_:Unit)=>
   (idxO l_ ((k2:Nat):Int)).bind fun a0=>
   (F_spec_l1In a0 lo_ hi_).bind fun y0=>
   (some (!y0)).bind fun a1=>
   cond a1
   (some (.inr false))
   (some (.inl ()))) l_.length 0 ()) fun (_:Unit)=>
 some true
noncomputable def F_spec_hgEdge (e_:Int × Int × List Int × List Int) (wires_:Int):Option Bool:=
 ((F_spec_l1In e_.1 3 14).bind fun y0=>
  (some (!y0)).bind fun a0=>
  cond a0
  (some true)
  ((F_spec_tmLeaf (e_.1,e_.2.1,.empty)).bind fun y1=>
   (some (!y1)).bind fun a1=>
   some a1)).bind fun (s0:Bool)=>
 cond s0
 (some false)
 ((F_spec_tmKind e_.1).bind fun y2=>
  ((some (decide (((e_.2.2.1.length:Nat):Int) = y2.1))).bind fun a2=>
   cond a2
   ((some (decide (((e_.2.2.2.length:Nat):Int) = y2.2))).bind fun a3=>
    cond a3
    ((subO wires_ 1).bind fun a4=>
     (F_spec_l1All e_.2.2.1 0 a4).bind fun y3=>
     cond y3
     ((subO wires_ 1).bind fun a5=>
      (F_spec_l1All e_.2.2.2 0 a5).bind fun y4=>
      some y4)
     (some false))
    (some false))
   (some false)).bind fun (s1:Bool)=>
  some s1)
noncomputable def F_spec_hgCounts (g_:Int × (List (Int × Int × List Int × List Int)) × List Int × List Int):Option (List Int × List Int):=
 (makeO g_.1 (0:Int)).bind fun a7=>
 (makeO g_.1 (0:Int)).bind fun a0=>
 (forS (fun (k0:Nat) (s0:List Int)=>
   (idxO g_.2.2.1 ((k0:Nat):Int)).bind fun a1=>
   (idxO s0 a1).bind fun a2=>
   (addO a2 1).bind fun a3=>
   (setO s0 a1 a3).bind fun a4=>
   some a4) g_.2.2.1.length 0 a7).bind fun (s1:List Int)=>
 (forS (fun (k1:Nat) (s2:List Int)=>
   (idxO g_.2.2.2 ((k1:Nat):Int)).bind fun a5=>
   (idxO s2 a5).bind fun a6=>
   (addO a6 1).bind fun a8=>
   (setO s2 a5 a8).bind fun a9=>
   some a9) g_.2.2.2.length 0 a0).bind fun (s3:List Int)=>
 (forS (fun (k2:Nat) (s4:List Int × List Int)=>
   (idxO g_.2.1 ((k2:Nat):Int)).bind fun a10=>
   (forS (fun (k3:Nat) (s5:List Int)=>
     (idxO a10.2.2.2 ((k3:Nat):Int)).bind fun a11=>
     (idxO s5 a11).bind fun a13=>
     (addO a13 1).bind fun a14=>
     (setO s5 a11 a14).bind fun a15=>
     some a15) a10.2.2.2.length 0 s4.1).bind fun (s6:List Int)=>
   (forS (fun (k4:Nat) (s7:List Int)=>
     (idxO a10.2.2.1 ((k4:Nat):Int)).bind fun a16=>
     (idxO s7 a16).bind fun a17=>
     (addO a17 1).bind fun a18=>
     (setO s7 a16 a18).bind fun a19=>
     some a19) a10.2.2.1.length 0 s4.2).bind fun (s8:List Int)=>
   some (s6,s8)) g_.2.1.length 0 (s1,s3)).bind fun (s9:List Int × List Int)=>
 some (s9.1,s9.2)
noncomputable def F_spec_hgValid (g_:Int × (List (Int × Int × List Int × List Int)) × List Int × List Int):Option Bool:=
 ((F_spec_l1In g_.1 0 100).bind fun y0=>
  (some (!y0)).bind fun a0=>
  cond a0
  (some true)
  ((some (decide ((60:Int) < ((g_.2.1.length:Nat):Int)))).bind fun a1=>
   cond a1
   (some true)
   ((some (decide ((12:Int) < ((g_.2.2.1.length:Nat):Int)))).bind fun a2=>
    cond a2
    (some true)
    ((some (decide ((12:Int) < ((g_.2.2.2.length:Nat):Int)))).bind fun a3=>
     cond a3
     (some true)
     ((subO g_.1 1).bind fun a4=>
      (F_spec_l1All g_.2.2.1 0 a4).bind fun y1=>
      (some (!y1)).bind fun a5=>
      cond a5
      (some true)
      ((subO g_.1 1).bind fun a6=>
       (F_spec_l1All g_.2.2.2 0 a6).bind fun y2=>
       (some (!y2)).bind fun a7=>
       some a7)))))).bind fun (s0:Bool)=>
 cond s0
 (some false)
 (seqO (forO (fun (k0:Nat) (_:Unit)=>
    (idxO g_.2.1 ((k0:Nat):Int)).bind fun a8=>
    (F_spec_hgEdge (a8.1,a8.2.1,a8.2.2.1,a8.2.2.2) g_.1).bind fun y3=>
    (some (!y3)).bind fun a9=>
    cond a9
    (some (.inr false))
    (some (.inl ()))) g_.2.1.length 0 ()) fun (_:Unit)=>
  (F_spec_hgCounts (g_.1,g_.2.1,g_.2.2.1,g_.2.2.2)).bind fun y4=>
  seqO (forO (fun (k1:Nat) (_:Unit)=>
    (idxO y4.1 ((k1:Nat):Int)).bind fun a10=>
    (idxO y4.2 ((k1:Nat):Int)).bind fun a11=>
    (addO a10 a11).bind fun a12=>
    (some (decide (a12 = 0))).bind fun a13=>
    cond a13
    (some (.inr false))
    (some (.inl ()))) y4.1.length 0 ()) fun (_:Unit)=>
  some true)
noncomputable def F_spec_hgGood (p_:Int) (g_:Int × (List (Int × Int × List Int × List Int)) × List Int × List Int):Option Bool:=
 ((F_spec_fdGood p_).bind fun y0=>
  (some (!y0)).bind fun a0=>
  cond a0
  (some true)
  ((F_spec_hgValid (g_.1,g_.2.1,g_.2.2.1,g_.2.2.2)).bind fun y1=>
   (some (!y1)).bind fun a1=>
   some a1)).bind fun (s0:Bool)=>
 cond s0
 (some false)
 (seqO (forO (fun (k0:Nat) (_:Unit)=>
    (idxO g_.2.1 ((k0:Nat):Int)).bind fun a2=>
    (some (decide (p_ ≤ a2.2.1))).bind fun a3=>
    cond a3
    (some (.inr false))
    (some (.inl ()))) g_.2.1.length 0 ()) fun (_:Unit)=>
  some true)
noncomputable def F_spec_dnAsked (p_:Int) (g_:Int × (List (Int × Int × List Int × List Int)) × List Int × List Int):Option Bool:=
 (F_spec_hgGood p_ (g_.1,g_.2.1,g_.2.2.1,g_.2.2.2)).bind fun y7=>
 (some (!y7)).bind fun a0=>
 cond a0
 (some false)
 (seqO (forO (fun (k0:Nat) (_:Unit)=>
    (idxO g_.2.1 ((k0:Nat):Int)).bind fun a1=>
    (F_spec_dnTimeless a1.1).bind fun y0=>
    (some (!y0)).bind fun a2=>
    cond a2
    (some (.inr false))
    (some (.inl ()))) g_.2.1.length 0 ()) fun (_:Unit)=>
  some true)
noncomputable def F_spec_l1Own (l_:List Int):Option (List Int):=
 (appO ([]:List Int) l_).bind fun a5=>
 some a5
noncomputable def F_spec_fdAdd (p_:Int) (a_:Int) (b_:Int):Option Int:=
 (addO a_ b_).bind fun a1=>
 (remO a1 p_).bind fun a3=>
 some a3
noncomputable def F_spec_dnRow (p_:Int) (n_:Int) (at_:List Int) (values_:List Int):Option (List Int):=
 (makeO n_ (0:Int)).bind fun a3=>
 (forS (fun (k8:Nat) (s0:List Int)=>
   (idxO at_ ((k8:Nat):Int)).bind fun a0=>
   (idxO s0 a0).bind fun a1=>
   (idxO values_ ((k8:Nat):Int)).bind fun a2=>
   (F_spec_fdAdd p_ a1 a2).bind fun y0=>
   (setO s0 a0 y0).bind fun a4=>
   some a4) at_.length 0 a3).bind fun (s1:List Int)=>
 some s1
noncomputable def F_spec_fdNeg (p_:Int) (a_:Int):Option Int:=
 (subO p_ a_).bind fun a1=>
 (remO a1 p_).bind fun a3=>
 some a3
noncomputable def F_spec_dnRows (p_:Int) (n_:Int) (e_:Int × Int × List Int × List Int):Option (List (List Int)):=
 ((some (decide ((9:Int) ≤ e_.1))).bind fun a0=>
  cond a0
  ((subO e_.1 9).bind fun a1=>
   (addO a1 3).bind fun a2=>
   some (e_.2.2.2,e_.2.2.1,a2))
  (some (e_.2.2.1,e_.2.2.2,e_.1))).bind fun (s0:List Int × List Int × Int)=>
 (some (decide (s0.2.2 = 3))).bind fun a3=>
 cond a3
 (((idxO s0.2.1 0).bind fun a4=>
   (idxO s0.1 0).bind fun a5=>
   (subO p_ 1).bind fun a6=>
   (idxO s0.2.1 1).bind fun a7=>
   (idxO s0.1 0).bind fun a8=>
   (subO p_ 1).bind fun a9=>
   (F_spec_dnRow p_ n_ [a4,a5] [1,a6]).bind fun y0=>
   (F_spec_dnRow p_ n_ [a7,a8] [1,a9]).bind fun y1=>
   some [y0,y1]).bind fun (s1:List (List Int))=>
  some s1)
 ((some (decide (s0.2.2 = 5))).bind fun a10=>
  cond a10
  (((idxO s0.2.1 0).bind fun a11=>
    (idxO s0.1 0).bind fun a12=>
    (idxO s0.1 1).bind fun a13=>
    (subO p_ 1).bind fun a14=>
    (subO p_ 1).bind fun a15=>
    (F_spec_dnRow p_ n_ [a11,a12,a13] [1,a14,a15]).bind fun y2=>
    some [y2]).bind fun (s2:List (List Int))=>
   some s2)
  ((some (decide (s0.2.2 = 6))).bind fun a16=>
   cond a16
   ((idxO s0.2.1 0).bind fun a17=>
    (F_spec_dnRow p_ n_ [a17] [1]).bind fun y3=>
    some [y3])
   ((some (decide (s0.2.2 = 7))).bind fun a18=>
    cond a18
    (((idxO s0.2.1 0).bind fun a19=>
      (idxO s0.1 0).bind fun a20=>
      (F_spec_fdNeg p_ e_.2.1).bind fun y4=>
      (F_spec_dnRow p_ n_ [a19,a20] [1,y4]).bind fun y5=>
      some [y5]).bind fun (s3:List (List Int))=>
     some s3)
    (some []))))
noncomputable def F_spec_fdInv (p_:Int) (a_:Int):Option Int:=
 seqO (whileO (fun (s0:Int)=>
   (some (decide (s0 < p_))).bind fun a0=>
   cond a0
   ((mulO a_ s0).bind fun a1=>
    (remO a1 p_).bind fun a2=>
    (some (decide (a2 = 1))).bind fun a3=>
    cond a3
    (some (.inr (.inr s0)))
    ((addO s0 1).bind fun a4=>
     some (.inl a4)))
   (some (.inr (.inl ())))) 1) fun (s1:Unit)=>
 some 0
noncomputable def F_spec_fdMul (p_:Int) (a_:Int) (b_:Int):Option Int:=
 (mulO a_ b_).bind fun a1=>
 (remO a1 p_).bind fun a3=>
 some a3
noncomputable def F_spec_fdSub (p_:Int) (a_:Int) (b_:Int):Option Int:=
 (addO a_ p_).bind fun a1=>
 (subO a1 b_).bind fun a3=>
 (remO a3 p_).bind fun a5=>
 some a5
noncomputable def F_spec_spReduce (p_:Int) (size_:Int) (rows_:List (List Int)):Option (List (List Int)):=
 (forS (fun (k2:Nat) (s0:List (List Int))=>
   (idxO rows_ ((k2:Nat):Int)).bind fun a0=>
   (F_spec_l1Own a0).bind fun y0=>
   (appO s0 [y0]).bind fun a1=>
   some a1) rows_.length 0 []).bind fun (s1:List (List Int))=>
 (whileO (fun (s2:List (List Int) × Int × Int)=>
   ((some (decide (s2.2.2 < size_))).bind fun a2=>
    cond a2
    ((some (decide (s2.2.1 < ((s2.1.length:Nat):Int)))).bind fun a3=>
     some a3)
    (some false)).bind fun (s3:Bool)=>
   cond s3
   (((whileO (fun (s4:Int)=>
       ((some (decide (s4 < ((s2.1.length:Nat):Int)))).bind fun a4=>
        cond a4
        ((idxO s2.1 s4).bind fun a5=>
         (idxO a5 s2.2.2).bind fun a6=>
         (some (decide (a6 = 0))).bind fun a7=>
         some a7)
        (some false)).bind fun (s5:Bool)=>
       cond s5
       ((addO s4 1).bind fun a8=>
        some (.inl a8))
       (some (.inr s4))) s2.2.1).bind fun (s6:Int)=>
     (some (decide (s6 = ((s2.1.length:Nat):Int)))).bind fun a9=>
     cond a9
     (some (s2.1,s2.2.1))
     ((idxO s2.1 s2.2.1).bind fun a10=>
      (idxO s2.1 s6).bind fun a11=>
      (swapO s2.1 s2.2.1 s6).bind fun a12=>
      (idxO a12 s2.2.1).bind fun a13=>
      (idxO a13 s2.2.2).bind fun a14=>
      (F_spec_fdInv p_ a14).bind fun y1=>
      (idxO a12 s2.2.1).bind fun a15=>
      (forS (fun (k0:Nat) (s7:List (List Int))=>
        (idxO s7 s2.2.1).bind fun a16=>
        (idxO s7 s2.2.1).bind fun a17=>
        (idxO a17 ((k0:Nat):Int)).bind fun a18=>
        (F_spec_fdMul p_ a18 y1).bind fun y2=>
        (setO a16 ((k0:Nat):Int) y2).bind fun a19=>
        (setO s7 s2.2.1 a19).bind fun a20=>
        some a20) a15.length 0 a12).bind fun (s8:List (List Int))=>
      (forS (fun (k1:Nat) (s9:List (List Int))=>
        (((some (decide (((k1:Nat):Int) = s2.2.1))).bind fun a21=>
          cond a21
          (some true)
          ((idxO s9 ((k1:Nat):Int)).bind fun a22=>
           (idxO a22 s2.2.2).bind fun a23=>
           (some (decide (a23 = 0))).bind fun a24=>
           some a24)).bind fun (s10:Bool)=>
         cond s10
         (some s9)
         ((idxO s9 ((k1:Nat):Int)).bind fun a25=>
          (idxO a25 s2.2.2).bind fun a26=>
          (idxO s9 ((k1:Nat):Int)).bind fun a27=>
          (forS (fun (k3:Nat) (s11:List (List Int))=>
            (idxO s11 ((k1:Nat):Int)).bind fun a28=>
            (idxO s11 ((k1:Nat):Int)).bind fun a29=>
            (idxO s11 s2.2.1).bind fun a30=>
            (idxO a29 ((k3:Nat):Int)).bind fun a31=>
            (idxO a30 ((k3:Nat):Int)).bind fun a32=>
            (F_spec_fdMul p_ a26 a32).bind fun y3=>
            (F_spec_fdSub p_ a31 y3).bind fun y4=>
            (setO a28 ((k3:Nat):Int) y4).bind fun a33=>
            (setO s11 ((k1:Nat):Int) a33).bind fun a34=>
            some a34) a27.length 0 s9).bind fun (s12:List (List Int))=>
          some s12)).bind fun (s13:List (List Int))=>
        some s13) s8.length 0 s8).bind fun (s14:List (List Int))=>
      (addO s2.2.1 1).bind fun a35=>
      some (s14,a35))).bind fun (s15:List (List Int) × Int)=>
    (addO s2.2.2 1).bind fun a36=>
    some (.inl (s15.1,s15.2,a36)))
   (some (.inr (s2.1,s2.2.1)))) (s1,0,0)).bind fun (s16:List (List Int) × Int)=>
 (sliceO s16.1 0 s16.2).bind fun a37=>
 some a37
noncomputable def F_spec_spLead (v_:List Int):Option Int:=
 (whileO (fun (s0:Int)=>
   ((some (decide (s0 < ((v_.length:Nat):Int)))).bind fun a0=>
    cond a0
    ((idxO v_ s0).bind fun a1=>
     (some (decide (a1 = 0))).bind fun a2=>
     some a2)
    (some false)).bind fun (s1:Bool)=>
   cond s1
   ((addO s0 1).bind fun a3=>
    some (.inl a3))
   (some (.inr s0))) 0).bind fun (s2:Int)=>
 some s2
noncomputable def F_spec_spNull (p_:Int) (size_:Int) (rows_:List (List Int)):Option (List (List Int)):=
 (F_spec_spReduce p_ size_ rows_).bind fun y2=>
 (makeO size_ (0:Int)).bind fun a7=>
 (forS (fun (k0:Nat) (s0:List Int)=>
   (setO s0 ((k0:Nat):Int) (-1)).bind fun a0=>
   some a0) a7.length 0 a7).bind fun (s1:List Int)=>
 (forS (fun (k1:Nat) (s2:List Int)=>
   (idxO y2 ((k1:Nat):Int)).bind fun a1=>
   (F_spec_spLead a1).bind fun y0=>
   (setO s2 y0 ((k1:Nat):Int)).bind fun a2=>
   some a2) y2.length 0 s1).bind fun (s3:List Int)=>
 (whileO (fun (s4:List (List Int) × Int)=>
   (some (decide (s4.2 < size_))).bind fun a3=>
   cond a3
   (((idxO s3 s4.2).bind fun a4=>
     (some (decide ((0:Int) ≤ a4))).bind fun a5=>
     cond a5
     (some s4.1)
     ((makeO size_ (0:Int)).bind fun a6=>
      (setO a6 s4.2 1).bind fun a8=>
      (forS (fun (k2:Nat) (s5:List Int)=>
        (idxO y2 ((k2:Nat):Int)).bind fun a9=>
        (idxO y2 ((k2:Nat):Int)).bind fun a10=>
        (idxO a9 s4.2).bind fun a11=>
        (F_spec_spLead a10).bind fun y1=>
        (F_spec_fdNeg p_ a11).bind fun y3=>
        (setO s5 y1 y3).bind fun a12=>
        some a12) y2.length 0 a8).bind fun (s6:List Int)=>
      (appO s4.1 [s6]).bind fun a13=>
      some a13)).bind fun (s7:List (List Int))=>
    (addO s4.2 1).bind fun a14=>
    some (.inl (s7,a14)))
   (some (.inr s4.1))) ([],0)).bind fun (s8:List (List Int))=>
 (F_spec_spReduce p_ size_ s8).bind fun y4=>
 some y4
noncomputable def F_spec_dnValues (p_:Int) (g_:Int × (List (Int × Int × List Int × List Int)) × List Int × List Int):Option (List (List Int)):=
 (forS (fun (k7:Nat) (s0:List (List Int))=>
   (idxO g_.2.1 ((k7:Nat):Int)).bind fun a0=>
   (F_spec_dnRows p_ g_.1 (a0.1,a0.2.1,a0.2.2.1,a0.2.2.2)).bind fun y0=>
   (appO s0 y0).bind fun a1=>
   some a1) g_.2.1.length 0 []).bind fun (s1:List (List Int))=>
 (F_spec_spNull p_ g_.1 s1).bind fun y1=>
 some y1
noncomputable def F_spec_hgList (l_:List Int) (to_:List Int):Option (List Int):=
 (forS (fun (k3:Nat) (s0:List Int)=>
   (idxO l_ ((k3:Nat):Int)).bind fun a0=>
   (idxO to_ a0).bind fun a1=>
   (appO s0 [a1]).bind fun a2=>
   some a2) l_.length 0 []).bind fun (s1:List Int)=>
 some s1
noncomputable def F_spec_rlOf (p_:Int) (left_:Int) (right_:Int) (rows_:List (List Int)):Option (Int × Int × List (List Int)):=
 (addO left_ right_).bind fun a5=>
 (F_spec_spReduce p_ a5 rows_).bind fun y7=>
 some (left_,right_,y7)
noncomputable def F_spec_dnGraph (p_:Int) (g_:Int × (List (Int × Int × List Int × List Int)) × List Int × List Int):Option ((Int × Int × List (List Int)) × Bool):=
 (F_spec_dnAsked p_ (g_.1,g_.2.1,g_.2.2.1,g_.2.2.2)).bind fun y0=>
 (some (!y0)).bind fun a0=>
 cond a0
 (some ((0,0,[]),false))
 ((F_spec_l1Own g_.2.2.1).bind fun y1=>
  (appO y1 g_.2.2.2).bind fun a1=>
  (F_spec_dnValues p_ (g_.1,g_.2.1,g_.2.2.1,g_.2.2.2)).bind fun y2=>
  (forS (fun (k0:Nat) (s0:List (List Int))=>
    (idxO y2 ((k0:Nat):Int)).bind fun a2=>
    (F_spec_hgList a1 a2).bind fun y3=>
    (appO s0 [y3]).bind fun a3=>
    some a3) y2.length 0 []).bind fun (s1:List (List Int))=>
  (F_spec_rlOf p_ ((g_.2.2.1.length:Nat):Int) ((g_.2.2.2.length:Nat):Int) s1).bind fun y4=>
  some ((y4.1,y4.2.1,y4.2.2),true))
noncomputable def F_spec_dnLeaf (p_:Int) (n_:Int × Int × ByteArray):Option (Int × Int × List (List Int)):=
 (F_spec_hgLeaf (n_.1,n_.2.1,n_.2.2)).bind fun y7=>
 (F_spec_dnGraph p_ (y7.1,y7.2.1,y7.2.2.1,y7.2.2.2)).bind fun y0=>
 some (y0.1.1,y0.1.2.1,y0.1.2.2)
noncomputable def F_spec_spSum (p_:Int) (size_:Int) (rows_:List (List Int)) (coefs_:List Int):Option (List Int):=
 (makeO size_ (0:Int)).bind fun a3=>
 (forS (fun (k8:Nat) (s0:List Int)=>
   (idxO rows_ ((k8:Nat):Int)).bind fun a0=>
   (forS (fun (k0:Nat) (s1:List Int)=>
     (idxO a0 ((k0:Nat):Int)).bind fun a1=>
     (idxO s1 ((k0:Nat):Int)).bind fun a2=>
     (idxO coefs_ ((k8:Nat):Int)).bind fun a4=>
     (mulO a4 a1).bind fun a5=>
     (addO a2 a5).bind fun a6=>
     (remO a6 p_).bind fun a7=>
     (setO s1 ((k0:Nat):Int) a7).bind fun a8=>
     some a8) a0.length 0 s0).bind fun (s2:List Int)=>
   some s2) rows_.length 0 a3).bind fun (s3:List Int)=>
 some s3
noncomputable def F_spec_rlCompose (p_:Int) (a_:Int × Int × List (List Int)) (b_:Int × Int × List (List Int)):Option (Int × Int × List (List Int)):=
 (makeO a_.2.1 ([]:List Int)).bind fun a0=>
 (forS (fun (k0:Nat) (s0:List (List Int))=>
   (forS (fun (k1:Nat) (s1:List (List Int))=>
     (idxO a_.2.2 ((k1:Nat):Int)).bind fun a1=>
     (idxO s1 ((k0:Nat):Int)).bind fun a2=>
     (addO a_.1 ((k0:Nat):Int)).bind fun a3=>
     (idxO a1 a3).bind fun a4=>
     (appO a2 [a4]).bind fun a5=>
     (setO s1 ((k0:Nat):Int) a5).bind fun a6=>
     some a6) a_.2.2.length 0 s0).bind fun (s2:List (List Int))=>
   (forS (fun (k2:Nat) (s3:List (List Int))=>
     (idxO b_.2.2 ((k2:Nat):Int)).bind fun a7=>
     (idxO s3 ((k0:Nat):Int)).bind fun a8=>
     (idxO a7 ((k0:Nat):Int)).bind fun a9=>
     (F_spec_fdNeg p_ a9).bind fun y0=>
     (appO a8 [y0]).bind fun a10=>
     (setO s3 ((k0:Nat):Int) a10).bind fun a11=>
     some a11) b_.2.2.length 0 s2).bind fun (s4:List (List Int))=>
   some s4) a0.length 0 a0).bind fun (s5:List (List Int))=>
 (addO ((a_.2.2.length:Nat):Int) ((b_.2.2.length:Nat):Int)).bind fun a13=>
 (F_spec_spNull p_ a13 s5).bind fun y1=>
 (forS (fun (k3:Nat) (s6:List (List Int))=>
   (idxO y1 ((k3:Nat):Int)).bind fun a14=>
   (addO a_.1 a_.2.1).bind fun a15=>
   (sliceO a14 0 ((a_.2.2.length:Nat):Int)).bind fun a16=>
   (F_spec_spSum p_ a15 a_.2.2 a16).bind fun y2=>
   (addO a_.2.1 b_.2.1).bind fun a17=>
   (sliceO a14 ((a_.2.2.length:Nat):Int) ((a14.length:Nat):Int)).bind fun a18=>
   (F_spec_spSum p_ a17 b_.2.2 a18).bind fun y3=>
   (sliceO y3 a_.2.1 ((y3.length:Nat):Int)).bind fun a19=>
   (sliceO y2 0 a_.1).bind fun a20=>
   (F_spec_l1Own a20).bind fun y4=>
   (appO y4 a19).bind fun a21=>
   (appO s6 [a21]).bind fun a22=>
   some a22) y1.length 0 []).bind fun (s7:List (List Int))=>
 (F_spec_rlOf p_ a_.1 b_.2.1 s7).bind fun y5=>
 some (y5.1,y5.2.1,y5.2.2)
noncomputable def F_spec_rlTensor (p_:Int) (a_:Int × Int × List (List Int)) (b_:Int × Int × List (List Int)):Option (Int × Int × List (List Int)):=
 (addO a_.1 b_.1).bind fun a0=>
 (addO a_.2.1 b_.2.1).bind fun a1=>
 (forS (fun (k0:Nat) (s0:List (List Int))=>
   (idxO a_.2.2 ((k0:Nat):Int)).bind fun a2=>
   (addO a0 a1).bind fun a3=>
   (makeO a3 (0:Int)).bind fun a4=>
   (forS (fun (k1:Nat) (s1:List Int)=>
     (idxO a2 ((k1:Nat):Int)).bind fun a5=>
     (some (decide (((k1:Nat):Int) < a_.1))).bind fun a6=>
     cond a6
     ((setO s1 ((k1:Nat):Int) a5).bind fun a7=>
      some a7)
     ((addO a0 ((k1:Nat):Int)).bind fun a8=>
      (subO a8 a_.1).bind fun a9=>
      (setO s1 a9 a5).bind fun a10=>
      some a10)) a2.length 0 a4).bind fun (s2:List Int)=>
   (appO s0 [s2]).bind fun a11=>
   some a11) a_.2.2.length 0 []).bind fun (s3:List (List Int))=>
 (forS (fun (k2:Nat) (s4:List (List Int))=>
   (idxO b_.2.2 ((k2:Nat):Int)).bind fun a12=>
   (addO a0 a1).bind fun a14=>
   (makeO a14 (0:Int)).bind fun a16=>
   (forS (fun (k3:Nat) (s5:List Int)=>
     (idxO a12 ((k3:Nat):Int)).bind fun a17=>
     (some (decide (((k3:Nat):Int) < b_.1))).bind fun a18=>
     cond a18
     ((addO a_.1 ((k3:Nat):Int)).bind fun a19=>
      (setO s5 a19 a17).bind fun a20=>
      some a20)
     ((addO a0 a_.2.1).bind fun a21=>
      (addO a21 ((k3:Nat):Int)).bind fun a22=>
      (subO a22 b_.1).bind fun a23=>
      (setO s5 a23 a17).bind fun a24=>
      some a24)) a12.length 0 a16).bind fun (s6:List Int)=>
   (appO s4 [s6]).bind fun a25=>
   some a25) b_.2.2.length 0 s3).bind fun (s7:List (List Int))=>
 (F_spec_rlOf p_ a0 a1 s7).bind fun y0=>
 some (y0.1,y0.2.1,y0.2.2)
noncomputable def F_spec_dnTerm (p_:Int) (t_:(List (Int × Int × ByteArray))):Option ((Int × Int × List (List Int)) × Bool):=
 (F_spec_tmGood p_ t_).bind fun y8=>
 (some (!y8)).bind fun a0=>
 cond a0
 (some ((0,0,[]),false))
 (seqO (forO (fun (k0:Nat) (s0:List (Int × Int × List (List Int)))=>
    seqO ((idxO t_ ((k0:Nat):Int)).bind fun a1=>
     (F_spec_dnTimeless a1.1).bind fun y0=>
     (some (!y0)).bind fun a2=>
     cond a2
     (some (.inr (.inr ((0,0,[]),false))))
     (((some (!decide (a1.1 = 15))).bind fun a3=>
       cond a3
       ((some (!decide (a1.1 = 16))).bind fun a4=>
        some a4)
       (some false)).bind fun (s1:Bool)=>
      cond s1
      ((F_spec_dnLeaf p_ (a1.1,a1.2.1,a1.2.2)).bind fun y1=>
       (appO s0 [(y1.1,y1.2.1,y1.2.2)]).bind fun a5=>
       some (.inl a5))
      (((subO ((s0.length:Nat):Int) 2).bind fun a6=>
        (idxO s0 a6).bind fun a7=>
        (subO ((s0.length:Nat):Int) 1).bind fun a8=>
        (idxO s0 a8).bind fun a9=>
        some (a9.1,a9.2.1,a9.2.2,a7.1,a7.2.1,a7.2.2)).bind fun (s2:Int × Int × List (List Int) × Int × Int × List (List Int))=>
       (subO ((s0.length:Nat):Int) 2).bind fun a10=>
       (sliceO s0 0 a10).bind fun a12=>
       (some (decide (a1.1 = 15))).bind fun a13=>
       cond a13
       ((F_spec_rlCompose p_ (s2.2.2.2.1,s2.2.2.2.2.1,s2.2.2.2.2.2) (s2.1,s2.2.1,s2.2.2.1)).bind fun y2=>
        (appO a12 [(y2.1,y2.2.1,y2.2.2)]).bind fun a14=>
        some (.inl a14))
       ((F_spec_rlTensor p_ (s2.2.2.2.1,s2.2.2.2.2.1,s2.2.2.2.2.2) (s2.1,s2.2.1,s2.2.2.1)).bind fun y3=>
        (appO a12 [(y3.1,y3.2.1,y3.2.2)]).bind fun a15=>
        some (.inl a15))))) fun (s3:List (Int × Int × List (List Int)))=>
    some (.inl s3)) t_.length 0 []) fun (s4:List (Int × Int × List (List Int)))=>
  (idxO s4 0).bind fun a16=>
  some ((a16.1,a16.2.1,a16.2.2),true))
noncomputable def F_spec_dnTwo (p_:Int) (a_:(List (Int × Int × ByteArray))) (b_:(List (Int × Int × ByteArray))):Option ((Int × Int × List (List Int)) × (Int × Int × List (List Int)) × Bool):=
 (F_spec_dnTerm p_ a_).bind fun y0=>
 (F_spec_dnTerm p_ b_).bind fun y1=>
 (cond y0.2
  (cond y1.2
   ((some (decide (y0.1.1 = y1.1.1))).bind fun a0=>
    cond a0
    ((some (decide (y0.1.2.1 = y1.1.2.1))).bind fun a1=>
     some (y0.1.1,y0.1.2.1,y0.1.2.2,y1.1.1,y1.1.2.1,y1.1.2.2,a1))
    (some (y0.1.1,y0.1.2.1,y0.1.2.2,y1.1.1,y1.1.2.1,y1.1.2.2,false)))
   (some (y0.1.1,y0.1.2.1,y0.1.2.2,y1.1.1,y1.1.2.1,y1.1.2.2,false)))
  (some (y0.1.1,y0.1.2.1,y0.1.2.2,y1.1.1,y1.1.2.1,y1.1.2.2,false))).bind fun (s0:Int × Int × List (List Int) × Int × Int × List (List Int) × Bool)=>
 some ((s0.1,s0.2.1,s0.2.2.1),(s0.2.2.2.1,s0.2.2.2.2.1,s0.2.2.2.2.2.1),s0.2.2.2.2.2.2)
noncomputable def F_spec_spCoords (basis_:List (List Int)) (v_:List Int):Option (List Int):=
 (forS (fun (k3:Nat) (s0:List Int)=>
   (idxO basis_ ((k3:Nat):Int)).bind fun a0=>
   (F_spec_spLead a0).bind fun y0=>
   (idxO v_ y0).bind fun a1=>
   (appO s0 [a1]).bind fun a2=>
   some a2) basis_.length 0 []).bind fun (s1:List Int)=>
 some s1
noncomputable def F_spec_l1Same (a_:List Int) (b_:List Int):Option Bool:=
 (some (!decide (((a_.length:Nat):Int) = ((b_.length:Nat):Int)))).bind fun a3=>
 cond a3
 (some false)
 (seqO (forO (fun (k6:Nat) (_:Unit)=>
    (idxO a_ ((k6:Nat):Int)).bind fun a0=>
    (idxO b_ ((k6:Nat):Int)).bind fun a1=>
    (some (!decide (a0 = a1))).bind fun a2=>
    cond a2
    (some (.inr false))
    (some (.inl ()))) a_.length 0 ()) fun (_:Unit)=>
  some true)
noncomputable def F_spec_spHas (p_:Int) (basis_:List (List Int)) (v_:List Int):Option Bool:=
 (F_spec_spCoords basis_ v_).bind fun y3=>
 (F_spec_spSum p_ ((v_.length:Nat):Int) basis_ y3).bind fun y8=>
 (F_spec_l1Same y8 v_).bind fun y0=>
 some y0
noncomputable def F_spec_MissingPair (p_:Int) (a_:(List (Int × Int × ByteArray))) (b_:(List (Int × Int × ByteArray))):Option (List Int × List Int × Bool):=
 (F_spec_dnTwo p_ a_ b_).bind fun y9=>
 (some (!y9.2.2)).bind fun a0=>
 cond a0
 (some ([],[],false))
 (seqO (forO (fun (k0:Nat) (_:Unit)=>
    (idxO y9.1.2.2 ((k0:Nat):Int)).bind fun a1=>
    (F_spec_spHas p_ y9.2.1.2.2 a1).bind fun y0=>
    (some (!y0)).bind fun a2=>
    cond a2
    ((sliceO a1 0 y9.1.1).bind fun a3=>
     (sliceO a1 y9.1.1 ((a1.length:Nat):Int)).bind fun a4=>
     (F_spec_l1Own a3).bind fun y1=>
     (F_spec_l1Own a4).bind fun y2=>
     some (.inr (y1,y2,true)))
    (some (.inl ()))) y9.1.2.2.length 0 ()) fun (_:Unit)=>
  some ([],[],false))
noncomputable def F_impl_isField (p_:Int):Option Bool:=
 ((some (decide (p_ < 2))).bind fun a0=>
  cond a0
  (some true)
  ((some (decide ((97:Int) < p_))).bind fun a1=>
   some a1)).bind fun (s8:Bool)=>
 cond s8
 (some false)
 ((cI 4).bind fun _=>
  seqO (forO (fun (k0:Nat) (_:Unit)=>
    (idxO [2,3,5,7] ((k0:Nat):Int)).bind fun a2=>
    ((remO p_ a2).bind fun a3=>
     (some (decide (a3 = 0))).bind fun a4=>
     cond a4
     ((some (!decide (p_ = a2))).bind fun a5=>
      some a5)
     (some false)).bind fun (s0:Bool)=>
    cond s0
    (some (.inr false))
    (some (.inl ()))) ((4:Int).toNat) 0 ()) fun (_:Unit)=>
  some true)
noncomputable def F_impl_within (n_:Int) (low_:Int) (high_:Int):Option Bool:=
 ((some (decide (low_ ≤ n_))).bind fun a0=>
  cond a0
  ((some (decide (n_ ≤ high_))).bind fun a1=>
   some a1)
  (some false)).bind fun (s7:Bool)=>
 some s7
noncomputable def F_impl_wires_fit (w_:Int × Int):Option Bool:=
 ((some (decide (w_.1 ≤ 12))).bind fun a0=>
  cond a0
  ((some (decide (w_.2 ≤ 12))).bind fun a1=>
   some a1)
  (some false)).bind fun (s0:Bool)=>
 some s0
noncomputable def F_impl_joinWires (kind_:Int) (a_:Int × Int) (b_:Int × Int):Option ((Int × Int) × Bool):=
 (some (decide (kind_ = 15))).bind fun a0=>
 cond a0
 ((some (decide (a_.2 = b_.1))).bind fun a1=>
  some ((a_.1,b_.2),a1))
 ((addO a_.1 b_.1).bind fun a2=>
  (addO a_.2 b_.2).bind fun a3=>
  (F_impl_wires_fit (a2,a3)).bind fun y0=>
  some ((a2,a3),y0))
noncomputable def F_impl_isGenerator (kind_:Int):Option Bool:=
 (F_impl_within kind_ 3 14).bind fun y1=>
 some y1
noncomputable def F_impl_generatorWires (kind_:Int):Option (Int × Int):=
 (some (decide (kind_ ≤ 8))).bind fun a8=>
 cond a8
 ((subO kind_ 3).bind fun a0=>
  (idxO ([(1,2),(1,0),(2,1),(0,1),(1,1),(1,1)]:List (Int × Int)) a0).bind fun a1=>
  some (a1.1,a1.2))
 ((subO kind_ 9).bind fun a2=>
  (idxO ([(1,2),(1,0),(2,1),(0,1),(1,1),(1,1)]:List (Int × Int)) a2).bind fun a3=>
  some (a3.2,a3.1))
noncomputable def F_impl_hasValue (kind_:Int):Option Bool:=
 ((some (decide (kind_ = 7))).bind fun a0=>
  cond a0
  (some true)
  ((some (decide (kind_ = 13))).bind fun a1=>
   some a1)).bind fun (s7:Bool)=>
 some s7
noncomputable def F_impl_isGeneratorValue (kind_:Int) (value_:Int):Option Bool:=
 (F_impl_hasValue kind_).bind fun y1=>
 cond y1
 ((F_impl_within value_ 0 96).bind fun y8=>
  some y8)
 ((some (decide (value_ = 0))).bind fun a5=>
  some a5)
noncomputable def F_impl_leafWires (n_:Int × Int × ByteArray):Option ((Int × Int) × Bool):=
 (some (!decide ((n_.2.2:ByteArray) = .empty))).bind fun a7=>
 cond a7
 (some ((0,0),false))
 ((some (decide (n_.1 = 1))).bind fun a0=>
  cond a0
  ((F_impl_within n_.2.1 0 12).bind fun y0=>
   some ((n_.2.1,n_.2.1),y0))
  ((some (decide (n_.1 = 2))).bind fun a1=>
   cond a1
   ((some (decide (n_.2.1 = 0))).bind fun a2=>
    some ((2,2),a2))
   ((F_impl_isGenerator n_.1).bind fun y1=>
    cond y1
    ((F_impl_generatorWires n_.1).bind fun y2=>
     (F_impl_isGeneratorValue n_.1 n_.2.1).bind fun y3=>
     some ((y2.1,y2.2),y3))
    (some ((0,0),false)))))
noncomputable def F_impl_typed_impl_leafWires (nodes_:List (Int × Int × ByteArray)):Option ((Int × Int) × Bool):=
 (F_impl_within ((nodes_.length:Nat):Int) 1 400).bind fun y5=>
 (some (!y5)).bind fun a8=>
 cond a8
 (some ((0,0),false))
 (seqO (forO (fun (k0:Nat) (s0:List (Int × Int))=>
    seqO ((idxO nodes_ ((k0:Nat):Int)).bind fun a0=>
     ((some (!decide (a0.1 = 15))).bind fun a1=>
      cond a1
      ((some (!decide (a0.1 = 16))).bind fun a2=>
       some a2)
      (some false)).bind fun (s1:Bool)=>
     cond s1
     ((F_impl_leafWires (a0.1,a0.2.1,a0.2.2)).bind fun y0=>
      (some (!y0.2)).bind fun a3=>
      cond a3
      (some (.inr (.inr ((0,0),false))))
      ((appO s0 [(y0.1.1,y0.1.2)]).bind fun a4=>
       some (.inl a4)))
     (((some (!decide (a0.2.1 = 0))).bind fun a5=>
       cond a5
       (some true)
       ((some (!decide ((a0.2.2:ByteArray) = .empty))).bind fun a6=>
        cond a6
        (some true)
        ((some (decide (((s0.length:Nat):Int) < 2))).bind fun a7=>
         some a7))).bind fun (s2:Bool)=>
      cond s2
      (some (.inr (.inr ((0,0),false))))
      ((subO ((s0.length:Nat):Int) 1).bind fun a9=>
       ((subO a9 1).bind fun a10=>
        (idxO s0 a10).bind fun a11=>
        (idxO s0 a9).bind fun a12=>
        (F_impl_joinWires a0.1 (a11.1,a11.2) (a12.1,a12.2)).bind fun y1=>
        some (y1.1.1,y1.1.2,y1.2)).bind fun (s3:Int × Int × Bool)=>
       (some (!s3.2.2)).bind fun a13=>
       cond a13
       (some (.inr (.inr ((0,0),false))))
       ((subO a9 1).bind fun a14=>
        (sliceO s0 0 a14).bind fun a15=>
        (appO a15 [(s3.1,s3.2.1)]).bind fun a16=>
        some (.inl a16))))) fun (s4:List (Int × Int))=>
    some (.inl s4)) nodes_.length 0 ([]:List (Int × Int))) fun (s5:List (Int × Int))=>
  (idxO s5 0).bind fun a17=>
  (some (decide (((s5.length:Nat):Int) = 1))).bind fun a18=>
  some ((a17.1,a17.2),a18))
noncomputable def F_impl_Term_wires (t_:(List (Int × Int × ByteArray))):Option ((Int × Int) × Bool):=
 (F_impl_typed_impl_leafWires t_).bind fun y8=>
 some ((y8.1.1,y8.1.2),y8.2)
noncomputable def F_impl_Term_isValid (t_:(List (Int × Int × ByteArray))):Option Bool:=
 (F_impl_Term_wires t_).bind fun y5=>
 some y5.2
noncomputable def F_impl_Term_isOver (t_:(List (Int × Int × ByteArray))) (p_:Int):Option Bool:=
 ((F_impl_isField p_).bind fun y0=>
  (some (!y0)).bind fun a0=>
  cond a0
  (some true)
  ((F_impl_Term_isValid t_).bind fun y1=>
   (some (!y1)).bind fun a1=>
   some a1)).bind fun (s0:Bool)=>
 cond s0
 (some false)
 (seqO (forO (fun (k0:Nat) (_:Unit)=>
    (idxO t_ ((k0:Nat):Int)).bind fun a2=>
    ((F_impl_hasValue a2.1).bind fun y2=>
     cond y2
     ((some (decide (p_ ≤ a2.2.1))).bind fun a3=>
      some a3)
     (some false)).bind fun (s1:Bool)=>
    cond s1
    (some (.inr false))
    (some (.inl ()))) t_.length 0 ()) fun (_:Unit)=>
  some true)
noncomputable def F_impl_isDelay (kind_:Int):Option Bool:=
 ((some (decide (kind_ = 8))).bind fun a0=>
  cond a0
  (some true)
  ((some (decide (kind_ = 14))).bind fun a1=>
   some a1)).bind fun (s7:Bool)=>
 some s7
noncomputable def F_impl_Term_isStatic (t_:(List (Int × Int × ByteArray))) (p_:Int):Option Bool:=
 (F_impl_Term_isOver t_ p_).bind fun y6=>
 (some (!y6)).bind fun a9=>
 cond a9
 (some false)
 (seqO (forO (fun (k0:Nat) (_:Unit)=>
    (idxO t_ ((k0:Nat):Int)).bind fun a0=>
    (F_impl_isDelay a0.1).bind fun y0=>
    cond y0
    (some (.inr false))
    (some (.inl ()))) t_.length 0 ()) fun (_:Unit)=>
  some true)
noncomputable def F_impl_Relation_second (r_:Int × Int × List (List Int)) (row_:List Int):Option (List Int):=
 (sliceO row_ r_.1 ((row_.length:Nat):Int)).bind fun a6=>
 some a6
noncomputable def F_impl_Relation_first (r_:Int × Int × List (List Int)) (row_:List Int):Option (List Int):=
 (sliceO row_ 0 r_.1).bind fun a6=>
 some a6
noncomputable def F_impl_zeros (n_:Int):Option (List Int):=
 (makeO n_ (0:Int)).bind fun a1=>
 some a1
noncomputable def F_impl_mod (p_:Int) (a_:Int):Option Int:=
 (remO a_ p_).bind fun a1=>
 (some (decide (a1 < 0))).bind fun a3=>
 cond a3
 ((addO a1 p_).bind fun a7=>
  some a7)
 (some a1)
noncomputable def F_impl_addTimes (p_:Int) (v_:List Int) (by_:Int) (w_:List Int):Option (List Int):=
 (forS (fun (k3:Nat) (s0:List Int)=>
   (idxO w_ ((k3:Nat):Int)).bind fun a0=>
   (idxO s0 ((k3:Nat):Int)).bind fun a1=>
   (mulO by_ a0).bind fun a2=>
   (addO a1 a2).bind fun a3=>
   (F_impl_mod p_ a3).bind fun y0=>
   (setO s0 ((k3:Nat):Int) y0).bind fun a4=>
   some a4) w_.length 0 v_).bind fun (s1:List Int)=>
 some s1
noncomputable def F_impl_clone (list_:List Int):Option (List Int):=
 (appO ([]:List Int) list_).bind fun a5=>
 some a5
noncomputable def F_impl_clones (list_:List (List Int)):Option (List (List Int)):=
 (makeCO 0 ((list_.length:Nat):Int) ([]:List Int)).bind fun a2=>
 (forS (fun (k7:Nat) (s0:List (List Int))=>
   (idxO list_ ((k7:Nat):Int)).bind fun a0=>
   (F_impl_clone a0).bind fun y0=>
   (appO s0 [y0]).bind fun a1=>
   some a1) list_.length 0 a2).bind fun (s1:List (List Int))=>
 some s1
noncomputable def F_impl_unit (n_:Int) (at_:Int):Option (List Int):=
 (F_impl_zeros n_).bind fun y1=>
 (setO y1 at_ 1).bind fun a0=>
 some a0
noncomputable def F_impl_identityRows (n_:Int):Option (List (List Int)):=
 (cI n_).bind fun _=>
 (forS (fun (k4:Nat) (s0:List (List Int))=>
   (F_impl_unit n_ ((k4:Nat):Int)).bind fun y0=>
   (appO s0 [y0]).bind fun a0=>
   some a0) n_.toNat 0 ([]:List (List Int))).bind fun (s1:List (List Int))=>
 some s1
noncomputable def F_impl_bit (yes_:Bool):Option Int:=
 cond yes_
 (some 1)
 (some 0)
noncomputable def F_impl_power (p_:Int) (a_:Int) (n_:Int):Option Int:=
 (remO 1 p_).bind fun a1=>
 (whileO (fun (s0:Int × Int × Int)=>
   (some (decide ((0:Int) < s0.2.1))).bind fun a0=>
   cond a0
   (((remO s0.2.1 2).bind fun a2=>
     (some (decide (a2 = 1))).bind fun a3=>
     cond a3
     ((mulO s0.2.2 s0.1).bind fun a4=>
      (remO a4 p_).bind fun a5=>
      some a5)
     (some s0.2.2)).bind fun (s1:Int)=>
    (mulO s0.1 s0.1).bind fun a6=>
    (remO a6 p_).bind fun a7=>
    (quoO s0.2.1 2).bind fun a8=>
    some (.inl (a7,a8,s1)))
   (some (.inr s0.2.2))) (a_,n_,a1)).bind fun (s2:Int)=>
 some s2
noncomputable def F_impl_inverse (p_:Int) (a_:Int):Option Int:=
 (subO p_ 2).bind fun a1=>
 (some (decide (p_ = 2))).bind fun a3=>
 (F_impl_bit a3).bind fun y5=>
 (addO a1 y5).bind fun a8=>
 (F_impl_power p_ a_ a8).bind fun y0=>
 some y0
noncomputable def F_impl_rowOperation_apply (o_:Int × Int × Int × Int) (p_:Int) (rows_:List (List Int)):Option (List (List Int)):=
 (some (decide (o_.1 = 0))).bind fun a5=>
 cond a5
 ((idxO rows_ o_.2.2.1).bind fun a0=>
  (idxO rows_ o_.2.1).bind fun a1=>
  (swapO rows_ o_.2.1 o_.2.2.1).bind fun a2=>
  some a2)
 ((some (decide (o_.1 = 1))).bind fun a8=>
  cond a8
  ((F_impl_inverse p_ o_.2.2.2).bind fun y0=>
   (idxO rows_ o_.2.1).bind fun a3=>
   (forS (fun (k0:Nat) (s0:List Int)=>
     (idxO s0 ((k0:Nat):Int)).bind fun a4=>
     (mulO a4 y0).bind fun a6=>
     (remO a6 p_).bind fun a7=>
     (setO s0 ((k0:Nat):Int) a7).bind fun a9=>
     some a9) a3.length 0 a3).bind fun (s1:List Int)=>
   (setO rows_ o_.2.1 s1).bind fun a10=>
   some a10)
  ((some (decide (o_.1 = 2))).bind fun a12=>
   cond a12
   ((idxO rows_ o_.2.1).bind fun a13=>
    (negO o_.2.2.2).bind fun a14=>
    (idxO rows_ o_.2.2.1).bind fun a15=>
    (F_impl_addTimes p_ a13 a14 a15).bind fun y1=>
    (neqO o_.2.1 o_.2.2.1).bind fun _=>
    (setO rows_ o_.2.1 y1).bind fun a16=>
    some a16)
   (some rows_)))
noncomputable def F_impl_reduction_1 (o_:Int × Int × Int × Int) (c0_:Int) (c1_:List (List Int)) (c2_:List (List Int)):Option (List (List Int) × List (List Int)):=
 (some (decide (([o_.1,o_.2.1,o_.2.2.1,o_.2.2.2]:List Int) = [0,o_.2.1,o_.2.1,0]))).bind fun a9=>
 cond a9
 (some (c1_,c2_))
 ((F_impl_rowOperation_apply (o_.1,o_.2.1,o_.2.2.1,o_.2.2.2) c0_ c1_).bind fun y0=>
  (F_impl_rowOperation_apply (o_.1,o_.2.1,o_.2.2.1,o_.2.2.2) c0_ c2_).bind fun y1=>
  some (y0,y1))
noncomputable def F_impl_reduction (p_:Int) (rows_:List (List Int)) (n_:Int) (also_:List (List Int)):Option (List (List Int) × List (List Int) × Int):=
 (whileO (fun (s0:List (List Int) × List (List Int) × Int × Int)=>
   ((some (decide (s0.2.2.1 < n_))).bind fun a0=>
    cond a0
    ((some (decide (s0.2.2.2 < ((s0.1.length:Nat):Int)))).bind fun a1=>
     some a1)
    (some false)).bind fun (s1:Bool)=>
   cond s1
   (((whileO (fun (s2:Int)=>
       ((some (decide (s2 < ((s0.1.length:Nat):Int)))).bind fun a2=>
        cond a2
        ((idxO s0.1 s2).bind fun a3=>
         (idxO a3 s0.2.2.1).bind fun a4=>
         (some (decide (a4 = 0))).bind fun a5=>
         some a5)
        (some false)).bind fun (s3:Bool)=>
       cond s3
       ((addO s2 1).bind fun a6=>
        some (.inl a6))
       (some (.inr s2))) s0.2.2.2).bind fun (s4:Int)=>
     (some (decide (s4 = ((s0.1.length:Nat):Int)))).bind fun a7=>
     cond a7
     (some (s0.1,s0.2.1,s0.2.2.2))
     ((F_impl_reduction_1 (0,s0.2.2.2,s4,0) p_ s0.1 s0.2.1).bind fun y0=>
      (idxO y0.1 s0.2.2.2).bind fun a8=>
      (idxO a8 s0.2.2.1).bind fun a9=>
      (F_impl_reduction_1 (1,s0.2.2.2,0,a9) p_ y0.1 y0.2).bind fun y1=>
      (forS (fun (k0:Nat) (s5:List (List Int) × List (List Int))=>
        ((some (!decide (((k0:Nat):Int) = s0.2.2.2))).bind fun a10=>
         cond a10
         ((idxO s5.1 ((k0:Nat):Int)).bind fun a11=>
          (idxO a11 s0.2.2.1).bind fun a12=>
          (some (!decide (a12 = 0))).bind fun a13=>
          some a13)
         (some false)).bind fun (s6:Bool)=>
        cond s6
        ((idxO s5.1 ((k0:Nat):Int)).bind fun a14=>
         (idxO a14 s0.2.2.1).bind fun a15=>
         (F_impl_reduction_1 (2,((k0:Nat):Int),s0.2.2.2,a15) p_ s5.1 s5.2).bind fun y2=>
         some (y2.1,y2.2))
        (some (s5.1,s5.2))) y1.1.length 0 (y1.1,y1.2)).bind fun (s7:List (List Int) × List (List Int))=>
      (addO s0.2.2.2 1).bind fun a16=>
      some (s7.1,s7.2,a16))).bind fun (s8:List (List Int) × List (List Int) × Int)=>
    (addO s0.2.2.1 1).bind fun a17=>
    some (.inl (s8.1,s8.2.1,a17,s8.2.2)))
   (some (.inr (s0.1,s0.2.1,s0.2.2.2)))) (rows_,also_,0,0)).bind fun (s9:List (List Int) × List (List Int) × Int)=>
 some (s9.1,s9.2.1,s9.2.2)
noncomputable def F_impl_reduced (p_:Int) (rows_:List (List Int)) (n_:Int):Option (List (List Int)):=
 (F_impl_clones rows_).bind fun y2=>
 (makeO ((y2.length:Nat):Int) ([]:List Int)).bind fun a7=>
 (F_impl_reduction p_ y2 n_ a7).bind fun y0=>
 (sliceO y0.1 0 y0.2.2).bind fun a0=>
 some a0
noncomputable def F_impl_kernel (p_:Int) (rows_:List (List Int)) (n_:Int):Option (List (List Int)):=
 (F_impl_clones rows_).bind fun y2=>
 (F_impl_identityRows ((rows_.length:Nat):Int)).bind fun y7=>
 (F_impl_reduction p_ y2 n_ y7).bind fun y0=>
 (sliceO y0.2.1 y0.2.2 ((y0.2.1.length:Nat):Int)).bind fun a0=>
 (F_impl_reduced p_ a0 ((rows_.length:Nat):Int)).bind fun y1=>
 some y1
noncomputable def F_impl_combine (p_:Int) (x_:List Int) (rows_:List (List Int)) (n_:Int):Option (List Int):=
 (F_impl_zeros n_).bind fun y3=>
 (forS (fun (k8:Nat) (s0:List Int)=>
   (idxO rows_ ((k8:Nat):Int)).bind fun a0=>
   (idxO x_ ((k8:Nat):Int)).bind fun a1=>
   (F_impl_addTimes p_ s0 a1 a0).bind fun y0=>
   some y0) rows_.length 0 y3).bind fun (s1:List Int)=>
 some s1
noncomputable def F_impl_joined (lists_:List (List Int)):Option (List Int):=
 (forS (fun (k5:Nat) (s0:List Int)=>
   (idxO lists_ ((k5:Nat):Int)).bind fun a0=>
   (appO s0 a0).bind fun a1=>
   some a1) lists_.length 0 ([]:List Int)).bind fun (s1:List Int)=>
 some s1
noncomputable def F_impl_relation (p_:Int) (left_:Int) (right_:Int) (rows_:List (List Int)):Option (Int × Int × List (List Int)):=
 (addO left_ right_).bind fun a5=>
 (F_impl_reduced p_ rows_ a5).bind fun y7=>
 some (left_,right_,y7)
noncomputable def F_impl_Relation_each_impl_Relation_second (r_:Int × Int × List (List Int)) (d0_:Int × Int × List (List Int)):Option (List (List Int)):=
 (forS (fun (k9:Nat) (s0:List (List Int))=>
   (idxO r_.2.2 ((k9:Nat):Int)).bind fun a0=>
   (F_impl_Relation_second (d0_.1,d0_.2.1,d0_.2.2) a0).bind fun y0=>
   (appO s0 [y0]).bind fun a1=>
   some a1) r_.2.2.length 0 ([]:List (List Int))).bind fun (s1:List (List Int))=>
 some s1
noncomputable def F_impl_Relation_each_impl_Relation_first (r_:Int × Int × List (List Int)) (d0_:Int × Int × List (List Int)):Option (List (List Int)):=
 (forS (fun (k9:Nat) (s0:List (List Int))=>
   (idxO r_.2.2 ((k9:Nat):Int)).bind fun a0=>
   (F_impl_Relation_first (d0_.1,d0_.2.1,d0_.2.2) a0).bind fun y0=>
   (appO s0 [y0]).bind fun a1=>
   some a1) r_.2.2.length 0 ([]:List (List Int))).bind fun (s1:List (List Int))=>
 some s1
noncomputable def F_impl_composed (p_:Int) (a_:Int × Int × List (List Int)) (b_:Int × Int × List (List Int)):Option (Int × Int × List (List Int)):=
 (F_impl_Relation_each_impl_Relation_second (a_.1,a_.2.1,a_.2.2) (a_.1,a_.2.1,a_.2.2)).bind fun y0=>
 (F_impl_Relation_each_impl_Relation_first (b_.1,b_.2.1,b_.2.2) (b_.1,b_.2.1,b_.2.2)).bind fun y1=>
 (forS (fun (k0:Nat) (s0:List (List Int))=>
   (idxO y1 ((k0:Nat):Int)).bind fun a0=>
   (F_impl_zeros ((a0.length:Nat):Int)).bind fun y2=>
   (F_impl_addTimes p_ y2 (-1) a0).bind fun y3=>
   (appO s0 [y3]).bind fun a1=>
   some a1) y1.length 0 y0).bind fun (s1:List (List Int))=>
 ((F_impl_Relation_each_impl_Relation_first (a_.1,a_.2.1,a_.2.2) (a_.1,a_.2.1,a_.2.2)).bind fun y4=>
  (F_impl_Relation_each_impl_Relation_second (b_.1,b_.2.1,b_.2.2) (b_.1,b_.2.1,b_.2.2)).bind fun y5=>
  some (y4,y5)).bind fun (s2:List (List Int) × List (List Int))=>
 (F_impl_kernel p_ s1 a_.2.1).bind fun y6=>
 (forS (fun (k1:Nat) (s3:List (List Int))=>
   (idxO y6 ((k1:Nat):Int)).bind fun a2=>
   (sliceO a2 0 ((s2.1.length:Nat):Int)).bind fun a3=>
   (F_impl_combine p_ a3 s2.1 a_.1).bind fun y7=>
   (sliceO a2 ((s2.1.length:Nat):Int) ((a2.length:Nat):Int)).bind fun a4=>
   (F_impl_combine p_ a4 s2.2 b_.2.1).bind fun y8=>
   (F_impl_joined [y7,y8]).bind fun y9=>
   (appO s3 [y9]).bind fun a5=>
   some a5) y6.length 0 ([]:List (List Int))).bind fun (s4:List (List Int))=>
 (F_impl_relation p_ a_.1 b_.2.1 s4).bind fun y10=>
 some (y10.1,y10.2.1,y10.2.2)
noncomputable def F_impl_tensor_1 (row_:List Int) (c0_:Int × Int × List (List Int)) (c1_:Int × Int × List (List Int)):Option (List Int):=
 (F_impl_Relation_first (c0_.1,c0_.2.1,c0_.2.2) row_).bind fun y7=>
 (F_impl_zeros c1_.1).bind fun y0=>
 (F_impl_Relation_second (c0_.1,c0_.2.1,c0_.2.2) row_).bind fun y1=>
 (F_impl_zeros c1_.2.1).bind fun y2=>
 (F_impl_joined [y7,y0,y1,y2]).bind fun y3=>
 some y3
noncomputable def F_impl_Relation_each_impl_tensor_1 (r_:Int × Int × List (List Int)) (d0_:Int × Int × List (List Int)) (d1_:Int × Int × List (List Int)):Option (List (List Int)):=
 (forS (fun (k0:Nat) (s0:List (List Int))=>
   (idxO r_.2.2 ((k0:Nat):Int)).bind fun a0=>
   (F_impl_tensor_1 a0 (d0_.1,d0_.2.1,d0_.2.2) (d1_.1,d1_.2.1,d1_.2.2)).bind fun y0=>
   (appO s0 [y0]).bind fun a1=>
   some a1) r_.2.2.length 0 ([]:List (List Int))).bind fun (s1:List (List Int))=>
 some s1
noncomputable def F_impl_tensor_2 (row_:List Int) (c0_:Int × Int × List (List Int)) (c1_:Int × Int × List (List Int)):Option (List Int):=
 (F_impl_zeros c0_.1).bind fun y7=>
 (F_impl_Relation_first (c1_.1,c1_.2.1,c1_.2.2) row_).bind fun y0=>
 (F_impl_zeros c0_.2.1).bind fun y1=>
 (F_impl_Relation_second (c1_.1,c1_.2.1,c1_.2.2) row_).bind fun y2=>
 (F_impl_joined [y7,y0,y1,y2]).bind fun y3=>
 some y3
noncomputable def F_impl_Relation_each_impl_tensor_2 (r_:Int × Int × List (List Int)) (d0_:Int × Int × List (List Int)) (d1_:Int × Int × List (List Int)):Option (List (List Int)):=
 (forS (fun (k0:Nat) (s0:List (List Int))=>
   (idxO r_.2.2 ((k0:Nat):Int)).bind fun a0=>
   (F_impl_tensor_2 a0 (d0_.1,d0_.2.1,d0_.2.2) (d1_.1,d1_.2.1,d1_.2.2)).bind fun y0=>
   (appO s0 [y0]).bind fun a1=>
   some a1) r_.2.2.length 0 ([]:List (List Int))).bind fun (s1:List (List Int))=>
 some s1
noncomputable def F_impl_tensor (p_:Int) (a_:Int × Int × List (List Int)) (b_:Int × Int × List (List Int)):Option (Int × Int × List (List Int)):=
 (F_impl_Relation_each_impl_tensor_1 (a_.1,a_.2.1,a_.2.2) (a_.1,a_.2.1,a_.2.2) (b_.1,b_.2.1,b_.2.2)).bind fun y0=>
 (F_impl_Relation_each_impl_tensor_2 (b_.1,b_.2.1,b_.2.2) (a_.1,a_.2.1,a_.2.2) (b_.1,b_.2.1,b_.2.2)).bind fun y1=>
 (appO y0 y1).bind fun a0=>
 (addO a_.1 b_.1).bind fun a1=>
 (addO a_.2.1 b_.2.1).bind fun a2=>
 (F_impl_relation p_ a1 a2 a0).bind fun y2=>
 some (y2.1,y2.2.1,y2.2.2)
noncomputable def F_impl_identityRelation (n_:Int):Option (Int × Int × List (List Int)):=
 (cI n_).bind fun _=>
 (forS (fun (k8:Nat) (s0:List (List Int))=>
   (F_impl_unit n_ ((k8:Nat):Int)).bind fun y0=>
   (F_impl_unit n_ ((k8:Nat):Int)).bind fun y1=>
   (F_impl_joined [y0,y1]).bind fun y2=>
   (appO s0 [y2]).bind fun a0=>
   some a0) n_.toNat 0 []).bind fun (s1:List (List Int))=>
 some (n_,n_,s1)
noncomputable def F_impl_mirrorKind (kind_:Int):Option Int:=
 (F_impl_within kind_ 3 8).bind fun y1=>
 cond y1
 ((addO kind_ 9).bind fun a0=>
  (subO a0 3).bind fun a1=>
  some a1)
 ((F_impl_within kind_ 9 14).bind fun y5=>
  cond y5
  ((subO kind_ 9).bind fun a2=>
   (addO a2 3).bind fun a3=>
   some a3)
  (some kind_))
noncomputable def F_impl_generatorRows (kind_:Int) (value_:Int):Option (List (List Int)):=
 (some (decide (kind_ = 3))).bind fun a1=>
 cond a1
 (some [[1,1,1]])
 ((some (decide (kind_ = 4))).bind fun a4=>
  cond a4
  (some [[1]])
  ((some (decide (kind_ = 5))).bind fun a7=>
   cond a7
   (some [[1,0,1],[0,1,1]])
   ((some (decide (kind_ = 7))).bind fun a0=>
    cond a0
    (some [[1,value_]])
    (some []))))
noncomputable def F_impl_converse_1 (row_:List Int) (c0_:Int × Int × List (List Int)):Option (List Int):=
 (F_impl_Relation_second (c0_.1,c0_.2.1,c0_.2.2) row_).bind fun y5=>
 (F_impl_Relation_first (c0_.1,c0_.2.1,c0_.2.2) row_).bind fun y0=>
 (F_impl_joined [y5,y0]).bind fun y1=>
 some y1
noncomputable def F_impl_Relation_each_impl_converse_1 (r_:Int × Int × List (List Int)) (d0_:Int × Int × List (List Int)):Option (List (List Int)):=
 (forS (fun (k0:Nat) (s0:List (List Int))=>
   (idxO r_.2.2 ((k0:Nat):Int)).bind fun a0=>
   (F_impl_converse_1 a0 (d0_.1,d0_.2.1,d0_.2.2)).bind fun y0=>
   (appO s0 [y0]).bind fun a1=>
   some a1) r_.2.2.length 0 ([]:List (List Int))).bind fun (s1:List (List Int))=>
 some s1
noncomputable def F_impl_converse (p_:Int) (r_:Int × Int × List (List Int)):Option (Int × Int × List (List Int)):=
 (F_impl_Relation_each_impl_converse_1 (r_.1,r_.2.1,r_.2.2) (r_.1,r_.2.1,r_.2.2)).bind fun y9=>
 (F_impl_relation p_ r_.2.1 r_.1 y9).bind fun y0=>
 some (y0.1,y0.2.1,y0.2.2)
noncomputable def F_impl_leafRelation (p_:Int) (n_:Int × Int × ByteArray):Option (Int × Int × List (List Int)):=
 (some (decide (n_.1 = 1))).bind fun a7=>
 cond a7
 ((F_impl_identityRelation n_.2.1).bind fun y0=>
  some (y0.1,y0.2.1,y0.2.2))
 ((some (decide (n_.1 = 2))).bind fun a0=>
  cond a0
  ((F_impl_relation p_ 2 2 [[1,0,0,1],[0,1,1,0]]).bind fun y1=>
   some (y1.1,y1.2.1,y1.2.2))
  ((some (decide ((9:Int) ≤ n_.1))).bind fun a1=>
   cond a1
   ((F_impl_mirrorKind n_.1).bind fun y2=>
    (F_impl_generatorWires y2).bind fun y3=>
    (F_impl_mirrorKind n_.1).bind fun y4=>
    (F_impl_generatorRows y4 n_.2.1).bind fun y5=>
    (F_impl_relation p_ y3.1 y3.2 y5).bind fun y6=>
    (F_impl_converse p_ (y6.1,y6.2.1,y6.2.2)).bind fun y7=>
    some (y7.1,y7.2.1,y7.2.2))
   ((F_impl_generatorWires n_.1).bind fun y8=>
    (F_impl_generatorRows n_.1 n_.2.1).bind fun y9=>
    (F_impl_relation p_ y8.1 y8.2 y9).bind fun y10=>
    some (y10.1,y10.2.1,y10.2.2))))
noncomputable def F_impl_denote (p_:Int) (t_:(List (Int × Int × ByteArray))):Option (Int × Int × List (List Int)):=
 (forS (fun (k0:Nat) (s0:List (Int × Int × List (List Int)))=>
   (idxO t_ ((k0:Nat):Int)).bind fun a0=>
   (subO ((s0.length:Nat):Int) 1).bind fun a1=>
   (some (decide (a0.1 = 15))).bind fun a2=>
   cond a2
   ((subO a1 1).bind fun a3=>
    (subO a1 1).bind fun a4=>
    (idxO s0 a4).bind fun a5=>
    (idxO s0 a1).bind fun a6=>
    (sliceO s0 0 a3).bind fun a7=>
    (F_impl_composed p_ (a5.1,a5.2.1,a5.2.2) (a6.1,a6.2.1,a6.2.2)).bind fun y0=>
    (appO a7 [(y0.1,y0.2.1,y0.2.2)]).bind fun a8=>
    some a8)
   ((some (decide (a0.1 = 16))).bind fun a9=>
    cond a9
    ((subO a1 1).bind fun a10=>
     (subO a1 1).bind fun a11=>
     (idxO s0 a11).bind fun a12=>
     (idxO s0 a1).bind fun a13=>
     (sliceO s0 0 a10).bind fun a14=>
     (F_impl_tensor p_ (a12.1,a12.2.1,a12.2.2) (a13.1,a13.2.1,a13.2.2)).bind fun y1=>
     (appO a14 [(y1.1,y1.2.1,y1.2.2)]).bind fun a15=>
     some a15)
    ((F_impl_leafRelation p_ (a0.1,a0.2.1,a0.2.2)).bind fun y2=>
     (appO s0 [(y2.1,y2.2.1,y2.2.2)]).bind fun a16=>
     some a16))) t_.length 0 ([]:List (Int × Int × List (List Int)))).bind fun (s1:List (Int × Int × List (List Int)))=>
 (idxO s1 0).bind fun a17=>
 some (a17.1,a17.2.1,a17.2.2)
noncomputable def F_impl_twoTerms (p_:Int) (a_:(List (Int × Int × ByteArray))) (b_:(List (Int × Int × ByteArray))):Option ((Int × Int × List (List Int)) × (Int × Int × List (List Int)) × Bool):=
 ((F_impl_Term_isStatic a_ p_).bind fun y0=>
  (some (!y0)).bind fun a0=>
  cond a0
  (some true)
  ((F_impl_Term_isStatic b_ p_).bind fun y1=>
   (some (!y1)).bind fun a1=>
   some a1)).bind fun (s0:Bool)=>
 cond s0
 (some ((0,0,[]),(0,0,[]),false))
 (((F_impl_denote p_ a_).bind fun y2=>
   (F_impl_denote p_ b_).bind fun y3=>
   some (y3.1,y3.2.1,y3.2.2,y2.1,y2.2.1,y2.2.2)).bind fun (s1:Int × Int × List (List Int) × Int × Int × List (List Int))=>
  ((some (decide (s1.2.2.2.1 = s1.1))).bind fun a2=>
   cond a2
   ((some (decide (s1.2.2.2.2.1 = s1.2.1))).bind fun a3=>
    some (s1.2.2.2.1,s1.2.2.2.2.1,s1.2.2.2.2.2,s1.1,s1.2.1,s1.2.2.1,a3))
   (some (s1.2.2.2.1,s1.2.2.2.2.1,s1.2.2.2.2.2,s1.1,s1.2.1,s1.2.2.1,false))).bind fun (s2:Int × Int × List (List Int) × Int × Int × List (List Int) × Bool)=>
  some ((s2.1,s2.2.1,s2.2.2.1),(s2.2.2.2.1,s2.2.2.2.2.1,s2.2.2.2.2.2.1),s2.2.2.2.2.2.2))
noncomputable def F_impl_lead (v_:List Int):Option Int:=
 seqO (forO (fun (k2:Nat) (_:Unit)=>
   (idxO v_ ((k2:Nat):Int)).bind fun a0=>
   (some (!decide (a0 = 0))).bind fun a1=>
   cond a1
   (some (.inr ((k2:Nat):Int)))
   (some (.inl ()))) v_.length 0 ()) fun (_:Unit)=>
 some ((v_.length:Nat):Int)
noncomputable def F_impl_isZero (v_:List Int):Option Bool:=
 (F_impl_lead v_).bind fun y2=>
 (some (decide (y2 = ((v_.length:Nat):Int)))).bind fun a5=>
 some a5
noncomputable def F_impl_coordinates (p_:Int) (basis_:List (List Int)) (v_:List Int):Option (List Int × Bool):=
 (F_impl_clone v_).bind fun y3=>
 (forS (fun (k0:Nat) (s0:List Int × List Int)=>
   (idxO basis_ ((k0:Nat):Int)).bind fun a0=>
   (F_impl_lead a0).bind fun y0=>
   (idxO s0.1 y0).bind fun a1=>
   (appO s0.2 [a1]).bind fun a2=>
   (negO a1).bind fun a3=>
   (F_impl_addTimes p_ s0.1 a3 a0).bind fun y1=>
   some (y1,a2)) basis_.length 0 (y3,([]:List Int))).bind fun (s1:List Int × List Int)=>
 (F_impl_isZero s1.1).bind fun y2=>
 some (s1.2,y2)
noncomputable def F_impl_hasPair (p_:Int) (r_:Int × Int × List (List Int)) (pair_:List Int):Option Bool:=
 (F_impl_coordinates p_ r_.2.2 pair_).bind fun y6=>
 some y6.2
noncomputable def F_impl_missing (p_:Int) (a_:Int × Int × List (List Int)) (b_:Int × Int × List (List Int)):Option (List Int):=
 seqO (forO (fun (k9:Nat) (_:Unit)=>
   (idxO b_.2.2 ((k9:Nat):Int)).bind fun a0=>
   (F_impl_hasPair p_ (a_.1,a_.2.1,a_.2.2) a0).bind fun y0=>
   (some (!y0)).bind fun a1=>
   cond a1
   ((neO a0).bind fun _=>
    some (.inr a0))
   (some (.inl ()))) b_.2.2.length 0 ()) fun (_:Unit)=>
 some []
noncomputable def F_impl_MissingPair (p_:Int) (a_:(List (Int × Int × ByteArray))) (b_:(List (Int × Int × ByteArray))):Option (List Int × List Int × Bool):=
 (F_impl_twoTerms p_ a_ b_).bind fun y0=>
 (some (!y0.2.2)).bind fun a0=>
 cond a0
 (some ([],[],false))
 ((F_impl_missing p_ (y0.2.1.1,y0.2.1.2.1,y0.2.1.2.2) (y0.1.1,y0.1.2.1,y0.1.2.2)).bind fun y1=>
  (some (y1.isEmpty)).bind fun a1=>
  cond a1
  (some ([],[],false))
  ((F_impl_Relation_first (y0.1.1,y0.1.2.1,y0.1.2.2) y1).bind fun y2=>
   (F_impl_clone y2).bind fun y3=>
   (F_impl_Relation_second (y0.1.1,y0.1.2.1,y0.1.2.2) y1).bind fun y4=>
   (F_impl_clone y4).bind fun y5=>
   some (y3,y5,true)))
noncomputable def F_laws_eqIntS (a_:List Int) (b_:List Int):Option Bool:=
 (some (!decide (((a_.length:Nat):Int) = ((b_.length:Nat):Int)))).bind fun a3=>
 cond a3
 (some false)
 (seqO (whileO (fun (s0:Int)=>
    (some (decide (s0 < ((a_.length:Nat):Int)))).bind fun a0=>
    cond a0
    ((idxO a_ s0).bind fun a1=>
     (idxO b_ s0).bind fun a2=>
     (some (!decide (a1 = a2))).bind fun a4=>
     cond a4
     (some (.inr (.inr false)))
     ((addO s0 1).bind fun a5=>
      some (.inl a5)))
    (some (.inr (.inl ())))) 0) fun (s1:Unit)=>
  some true)
noncomputable def F_laws_eqNode (a_:Int × Int × ByteArray) (b_:Int × Int × ByteArray):Option Bool:=
 (some (!decide (a_.1 = b_.1))).bind fun a7=>
 cond a7
 (some false)
 ((some (!decide (a_.2.1 = b_.2.1))).bind fun a0=>
  cond a0
  (some false)
  ((some (!decide ((a_.2.2:ByteArray) = b_.2.2))).bind fun a1=>
   cond a1
   (some false)
   (some true)))
noncomputable def F_laws_eqNodeS (a_:List (Int × Int × ByteArray)) (b_:List (Int × Int × ByteArray)):Option Bool:=
 (some (!decide (((a_.length:Nat):Int) = ((b_.length:Nat):Int)))).bind fun a3=>
 cond a3
 (some false)
 (seqO (whileO (fun (s0:Int)=>
    (some (decide (s0 < ((a_.length:Nat):Int)))).bind fun a0=>
    cond a0
    ((idxO a_ s0).bind fun a1=>
     (idxO b_ s0).bind fun a2=>
     (F_laws_eqNode (a1.1,a1.2.1,a1.2.2) (a2.1,a2.2.1,a2.2.2)).bind fun y0=>
     (some (!y0)).bind fun a4=>
     cond a4
     (some (.inr (.inr false)))
     ((addO s0 1).bind fun a5=>
      some (.inl a5)))
    (some (.inr (.inl ())))) 0) fun (s1:Unit)=>
  some true)
noncomputable def F_laws_eqTerm (a_:(List (Int × Int × ByteArray))) (b_:(List (Int × Int × ByteArray))):Option Bool:=
 (F_laws_eqNodeS a_ b_).bind fun y9=>
 (some (!y9)).bind fun a0=>
 cond a0
 (some false)
 (some true)
noncomputable def F_laws_markText (k_:Int):Option ByteArray:=
 (some (decide (k_ ≤ 0))).bind fun a1=>
 cond a1
 (some ⟨#[109,48]⟩)
 ((whileO (fun (s0:Int × ByteArray)=>
    (some (decide ((0:Int) < s0.1))).bind fun a0=>
    cond a0
    ((remO s0.1 10).bind fun a2=>
     (addO 48 a2).bind fun a3=>
     (some (a3 % 256)).bind fun a4=>
     (some (ofBytes ([a4]:List By))).bind fun a5=>
     (catO a5 s0.2).bind fun a6=>
     (quoO s0.1 10).bind fun a7=>
     some (.inl (a7,a6)))
    (some (.inr s0.2))) (k_,.empty)).bind fun (s1:ByteArray)=>
  (catO ⟨#[109]⟩ s1).bind fun a8=>
  some a8)
noncomputable def F_laws_markNodeS (a_:List (Int × Int × ByteArray)) (k_:Int):Option ((List (Int × Int × ByteArray)) × Int):=
 (whileO (fun (s0:(List (Int × Int × ByteArray)) × Int × Int)=>
   (some (decide (s0.2.2 < ((s0.1.length:Nat):Int)))).bind fun a0=>
   cond a0
   ((idxO s0.1 s0.2.2).bind fun a1=>
    (setO s0.1 s0.2.2 (s0.2.1,a1.2.1,a1.2.2)).bind fun a2=>
    (addO s0.2.1 1).bind fun a3=>
    (idxO a2 s0.2.2).bind fun a4=>
    (setO a2 s0.2.2 (a4.1,a3,a4.2.2)).bind fun a5=>
    (addO a3 1).bind fun a6=>
    (F_laws_markText a6).bind fun y0=>
    (idxO a5 s0.2.2).bind fun a7=>
    (setO a5 s0.2.2 (a7.1,a7.2.1,y0)).bind fun a8=>
    (addO a6 1).bind fun a9=>
    (addO s0.2.2 1).bind fun a10=>
    some (.inl (a8,a9,a10)))
   (some (.inr (s0.1,s0.2.1)))) (a_,k_,0)).bind fun (s1:(List (Int × Int × ByteArray)) × Int)=>
 some (s1.1,s1.2)
noncomputable def F_laws_markTerm (a_:(List (Int × Int × ByteArray))) (k_:Int):Option ((List (Int × Int × ByteArray)) × Int):=
 (F_laws_markNodeS a_ k_).bind fun y5=>
 some (y5.1,y5.2)
noncomputable def F_laws_markIntS (a_:List Int) (k_:Int):Option (List Int × Int):=
 (whileO (fun (s0:List Int × Int × Int)=>
   (some (decide (s0.2.2 < ((s0.1.length:Nat):Int)))).bind fun a0=>
   cond a0
   ((setO s0.1 s0.2.2 s0.2.1).bind fun a1=>
    (addO s0.2.1 1).bind fun a2=>
    (addO s0.2.2 1).bind fun a3=>
    some (.inl (a1,a2,a3)))
   (some (.inr (s0.1,s0.2.1)))) (a_,k_,0)).bind fun (s1:List Int × Int)=>
 some (s1.1,s1.2)
noncomputable def F_laws_heldIntS (a_:List Int) (k_:Int):Option Int:=
 seqO (whileO (fun (s0:Int × Int)=>
   (some (decide (s0.2 < ((a_.length:Nat):Int)))).bind fun a0=>
   cond a0
   ((idxO a_ s0.2).bind fun a1=>
    (some (!decide (a1 = s0.1))).bind fun a2=>
    cond a2
    (some (.inr (.inr (-1))))
    ((addO s0.1 1).bind fun a3=>
     (addO s0.2 1).bind fun a4=>
     some (.inl (a3,a4))))
   (some (.inr (.inl s0.1)))) (k_,0)) fun (s1:Int)=>
 some s1
noncomputable def F_laws_FnExactMissingPair (aP_:Int) (aA_:(List (Int × Int × ByteArray))) (aB_:(List (Int × Int × ByteArray))):Option Bool:=
 (F_laws_szTerm aA_ 1048576).bind fun y0=>
 (some (decide (y0 < 0))).bind fun a0=>
 cond a0
 (some true)
 ((F_laws_szTerm aB_ y0).bind fun y1=>
  (some (decide (y1 < 0))).bind fun a1=>
  cond a1
  (some true)
  ((F_laws_toTerm aA_).bind fun y2=>
   (F_laws_toTerm aB_).bind fun y3=>
   (F_spec_MissingPair aP_ y2 y3).bind fun y4=>
   (F_laws_toTerm aA_).bind fun y5=>
   (F_laws_toTerm aB_).bind fun y6=>
   (F_impl_MissingPair aP_ y5 y6).bind fun y7=>
   ((F_laws_eqIntS y7.1 y4.1).bind fun y8=>
    (some (!y8)).bind fun a2=>
    cond a2
    (some true)
    ((F_laws_eqIntS y7.2.1 y4.2.1).bind fun y9=>
     (some (!y9)).bind fun a3=>
     cond a3
     (some true)
     ((some (!decide (y7.2.2 = y4.2.2))).bind fun a4=>
      some a4))).bind fun (s0:Bool)=>
   cond s0
   (some false)
   ((F_laws_toTerm aA_).bind fun y11=>
    (F_laws_eqTerm y5 y11).bind fun y12=>
    (some (!y12)).bind fun a5=>
    cond a5
    (some false)
    ((F_laws_toTerm aB_).bind fun y13=>
     (F_laws_eqTerm y6 y13).bind fun y14=>
     (some (!y14)).bind fun a6=>
     cond a6
     (some false)
     ((F_laws_markTerm y5 1).bind fun y15=>
      (F_laws_markTerm y6 y15.2).bind fun y17=>
      ((some (decide (y17.2 < 0))).bind fun a7=>
       cond a7
       (some true)
       ((F_laws_eqIntS y7.1 y4.1).bind fun y18=>
        (some (!y18)).bind fun a8=>
        cond a8
        (some true)
        ((F_laws_eqIntS y7.2.1 y4.2.1).bind fun y19=>
         (some (!y19)).bind fun a9=>
         cond a9
         (some true)
         ((some (!decide (y7.2.2 = y4.2.2))).bind fun a10=>
          some a10)))).bind fun (s1:Bool)=>
      cond s1
      (some false)
      ((F_laws_markIntS y7.1 1).bind fun y20=>
       (F_laws_markIntS y7.2.1 y20.2).bind fun y21=>
       (F_laws_heldIntS y20.1 1).bind fun y22=>
       (some (decide (y22 < 0))).bind fun a11=>
       cond a11
       (some false)
       ((F_laws_heldIntS y21.1 y22).bind fun y24=>
        (some (decide (y24 < 0))).bind fun a12=>
        cond a12
        (some false)
        ((some (!decide (y24 = y21.2))).bind fun a14=>
         cond a14
         (some false)
         ((F_laws_toTerm aA_).bind fun y25=>
          (F_laws_toTerm aB_).bind fun y26=>
          (F_impl_MissingPair aP_ y25 y26).bind fun y27=>
          ((F_laws_eqIntS y27.1 y4.1).bind fun y29=>
           (some (!y29)).bind fun a15=>
           cond a15
           (some true)
           ((F_laws_eqIntS y27.2.1 y4.2.1).bind fun y30=>
            (some (!y30)).bind fun a16=>
            cond a16
            (some true)
            ((some (!decide (y27.2.2 = y4.2.2))).bind fun a17=>
             some a17))).bind fun (s2:Bool)=>
          cond s2
          (some false)
          ((F_laws_heldIntS y20.1 1).bind fun y31=>
           (some (decide (y31 < 0))).bind fun a18=>
           cond a18
           (some false)
           ((F_laws_heldIntS y21.1 y31).bind fun y32=>
            (some (decide (y32 < 0))).bind fun a20=>
            cond a20
            (some false)
            ((some (!decide (y32 = y21.2))).bind fun a21=>
             cond a21
             (some false)
             (some true)))))))))))))
end Go.Proofs.YtlggnmkelgplnaaGreatDoor
