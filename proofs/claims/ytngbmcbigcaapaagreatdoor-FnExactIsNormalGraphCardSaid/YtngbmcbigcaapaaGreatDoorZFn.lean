/-
 Partial functions, printed by a program (wip/y/gen.py): what each function of Go computes, over plain data. No program in sight. No condition.
-/
import Derived.Test.YtngbmcbigcaapaaGreatDoorZF
namespace Go.Proofs.YtngbmcbigcaapaaGreatDoor
set_option linter.unusedVariables false
noncomputable section
def uJ (a_:List Int) (left_:Int):Option Int:=
 (subO left_ ((a_.length:Nat):Int)).bind fun a2=>
 (some (decide (a2<0))).bind fun a4=>
 cond a4
 (some (-1))
 (some a2)
def gW (a_:Int×Int×List Int×List Int) (left_:Int):Option Int:=
 (uJ a_.2.2.1 left_).bind fun y6=>
 (some (decide (y6<0))).bind fun a9=>
 cond a9
 (some (-1))
 ((uJ a_.2.2.2 y6).bind fun y0=>
 (some (decide (y0<0))).bind fun a0=>
 cond a0
 (some (-1))
 (some y0))
def xV (a_:List (Int×Int×List Int×List Int)) (left_:Int):Option Int:=
 (subO left_ ((a_.length:Nat):Int)).bind fun a2=>
 (some (decide (a2<0))).bind fun a4=>
 cond a4
 (some (-1))
 (vC (tB (fun (s0:Int×Int)=>
 (some (decide (s0.2<((a_.length:Nat):Int)))).bind fun a0=>
 cond a0
 ((idxO a_ s0.2).bind fun a1=>
 (gW (a1.1,a1.2.1,a1.2.2.1,a1.2.2.2) s0.1).bind fun y0=>
 (some (decide (y0<0))).bind fun a3=>
 cond a3
 (some (.inr (.inr (-1))))
 ((uA s0.2 1).bind fun a5=>
 some (.inl (y0,a5))))
 (some (.inr (.inl s0.1)))) (a2,0)) fun (s1:Int)=>
 some s1)
def wV (a_:Int×(List (Int×Int×List Int×List Int))×List Int×List Int) (left_:Int):Option Int:=
 (xV a_.2.1 left_).bind fun y7=>
 (some (decide (y7<0))).bind fun a0=>
 cond a0
 (some (-1))
 ((uJ a_.2.2.1 y7).bind fun y0=>
 (some (decide (y0<0))).bind fun a1=>
 cond a1
 (some (-1))
 ((uJ a_.2.2.2 y0).bind fun y1=>
 (some (decide (y1<0))).bind fun a2=>
 cond a2
 (some (-1))
 (some y1)))
def tJ (a_:List Int):Option (List Int):=
 (cD ((a_.length:Nat):Int) (0:Int)).bind fun a2=>
 (tB (fun (s0:List Int×Int)=>
 (some (decide (s0.2<((a_.length:Nat):Int)))).bind fun a0=>
 cond a0
 ((idxO a_ s0.2).bind fun a1=>
 (iA s0.1 s0.2 a1).bind fun a3=>
 (uA s0.2 1).bind fun a4=>
 some (.inl (a3,a4)))
 (some (.inr s0.1))) (a2,0)).bind fun (s1:List Int)=>
 some s1
def fW (a_:Int×Int×List Int×List Int):Option (Int×Int×List Int×List Int):=
 (tJ a_.2.2.1).bind fun y0=>
 (tJ a_.2.2.2).bind fun y1=>
 some (a_.1,a_.2.1,y0,y1)
def vV (a_:List (Int×Int×List Int×List Int)):Option (List (Int×Int×List Int×List Int)):=
 (cD ((a_.length:Nat):Int) ((0,0,[],[]):Int×Int×List Int×List Int)).bind fun a2=>
 (tB (fun (s0:(List (Int×Int×List Int×List Int))×Int)=>
 (some (decide (s0.2<((a_.length:Nat):Int)))).bind fun a0=>
 cond a0
 ((idxO a_ s0.2).bind fun a1=>
 (fW (a1.1,a1.2.1,a1.2.2.1,a1.2.2.2)).bind fun y0=>
 (iA s0.1 s0.2 (y0.1,y0.2.1,y0.2.2.1,y0.2.2.2)).bind fun a3=>
 (uA s0.2 1).bind fun a4=>
 some (.inl (a3,a4)))
 (some (.inr s0.1))) (a2,0)).bind fun (s1:List (Int×Int×List Int×List Int))=>
 some s1
def dN (a_:Int×(List (Int×Int×List Int×List Int))×List Int×List Int):Option (Int×(List (Int×Int×List Int×List Int))×List Int×List Int):=
 (vV a_.2.1).bind fun y0=>
 (tJ a_.2.2.1).bind fun y1=>
 (tJ a_.2.2.2).bind fun y2=>
 some (a_.1,y0,y1,y2)
def bH (n_:Int) (lo_:Int) (hi_:Int):Option Bool:=
 ((some (decide (lo_≤n_))).bind fun a0=>
 cond a0
 ((some (decide (n_≤hi_))).bind fun a1=>
 some a1)
 (some false)).bind fun (s7:Bool)=>
 some s7
def mQ (p_:Int):Option Bool:=
 (bH p_ 2 97).bind fun y1=>
 (some (!y1)).bind fun a4=>
 cond a4
 (some false)
 (vC (tB (fun (s0:Int)=>
 (qF s0 s0).bind fun a0=>
 (some (decide (a0≤p_))).bind fun a1=>
 cond a1
 ((kD p_ s0).bind fun a2=>
 (some (decide (a2=0))).bind fun a3=>
 cond a3
 (some (.inr (.inr false)))
 ((uA s0 1).bind fun a5=>
 some (.inl a5)))
 (some (.inr (.inl ())))) 2) fun (s1:Unit)=>
 some true)
def qI (l_:List Int) (lo_:Int) (hi_:Int):Option Bool:=
 vC (uC (fun (k2:Nat) (_:Unit)=>
 (idxO l_ ((k2:Nat):Int)).bind fun a0=>
 (bH a0 lo_ hi_).bind fun y0=>
 (some (!y0)).bind fun a1=>
 cond a1
 (some (.inr false))
 (some (.inl ()))) l_.length 0 ()) fun (_:Unit)=>
 some true
def iQ (n_:Int×Int×ByteArray):Option Bool:=
 ((some (!decide ((n_.2.2:ByteArray)=.empty))).bind fun a0=>
 cond a0
 (some true)
 ((bH n_.1 1 14).bind fun y0=>
 (some (!y0)).bind fun a1=>
 some a1)).bind fun (s0:Bool)=>
 cond s0
 (some false)
 ((some (decide (n_.1=1))).bind fun a2=>
 cond a2
 ((bH n_.2.1 0 12).bind fun y1=>
 some y1)
 (((some (decide (n_.1=7))).bind fun a3=>
 cond a3
 (some true)
 ((some (decide (n_.1=13))).bind fun a4=>
 some a4)).bind fun (s1:Bool)=>
 cond s1
 ((bH n_.2.1 0 96).bind fun y2=>
 some y2)
 ((some (decide (n_.2.1=0))).bind fun a5=>
 some a5)))
def jQ (kind_:Int):Option (Int×Int):=
 (some (decide (kind_=2))).bind fun a1=>
 cond a1
 (some (2,2))
 (((some (decide (kind_=3))).bind fun a0=>
 cond a0
 (some true)
 ((some (decide (kind_=11))).bind fun a2=>
 some a2)).bind fun (s0:Bool)=>
 cond s0
 (some (1,2))
 (((some (decide (kind_=4))).bind fun a3=>
 cond a3
 (some true)
 ((some (decide (kind_=12))).bind fun a4=>
 some a4)).bind fun (s1:Bool)=>
 cond s1
 (some (1,0))
 (((some (decide (kind_=5))).bind fun a5=>
 cond a5
 (some true)
 ((some (decide (kind_=9))).bind fun a6=>
 some a6)).bind fun (s2:Bool)=>
 cond s2
 (some (2,1))
 (((some (decide (kind_=6))).bind fun a7=>
 cond a7
 (some true)
 ((some (decide (kind_=10))).bind fun a8=>
 some a8)).bind fun (s3:Bool)=>
 cond s3
 (some (0,1))
 (some (1,1))))))
def lQ (e_:Int×Int×List Int×List Int) (wires_:Int):Option Bool:=
 ((bH e_.1 3 14).bind fun y0=>
 (some (!y0)).bind fun a0=>
 cond a0
 (some true)
 ((iQ (e_.1,e_.2.1,.empty)).bind fun y1=>
 (some (!y1)).bind fun a1=>
 some a1)).bind fun (s0:Bool)=>
 cond s0
 (some false)
 ((jQ e_.1).bind fun y2=>
 ((some (decide (((e_.2.2.1.length:Nat):Int)=y2.1))).bind fun a2=>
 cond a2
 ((some (decide (((e_.2.2.2.length:Nat):Int)=y2.2))).bind fun a3=>
 cond a3
 ((subO wires_ 1).bind fun a4=>
 (qI e_.2.2.1 0 a4).bind fun y3=>
 cond y3
 ((subO wires_ 1).bind fun a5=>
 (qI e_.2.2.2 0 a5).bind fun y4=>
 some y4)
 (some false))
 (some false))
 (some false)).bind fun (s1:Bool)=>
 some s1)
def qV (g_:Int×(List (Int×Int×List Int×List Int))×List Int×List Int):Option (List Int×List Int):=
 (cD g_.1 (0:Int)).bind fun a7=>
 (cD g_.1 (0:Int)).bind fun a0=>
 (jA (fun (k0:Nat) (s0:List Int)=>
 (idxO g_.2.2.1 ((k0:Nat):Int)).bind fun a1=>
 (idxO s0 a1).bind fun a2=>
 (uA a2 1).bind fun a3=>
 (iA s0 a1 a3).bind fun a4=>
 some a4) g_.2.2.1.length 0 a7).bind fun (s1:List Int)=>
 (jA (fun (k1:Nat) (s2:List Int)=>
 (idxO g_.2.2.2 ((k1:Nat):Int)).bind fun a5=>
 (idxO s2 a5).bind fun a6=>
 (uA a6 1).bind fun a8=>
 (iA s2 a5 a8).bind fun a9=>
 some a9) g_.2.2.2.length 0 a0).bind fun (s3:List Int)=>
 (jA (fun (k2:Nat) (s4:List Int×List Int)=>
 (idxO g_.2.1 ((k2:Nat):Int)).bind fun a10=>
 (jA (fun (k3:Nat) (s5:List Int)=>
 (idxO a10.2.2.2 ((k3:Nat):Int)).bind fun a11=>
 (idxO s5 a11).bind fun a13=>
 (uA a13 1).bind fun a14=>
 (iA s5 a11 a14).bind fun a15=>
 some a15) a10.2.2.2.length 0 s4.1).bind fun (s6:List Int)=>
 (jA (fun (k4:Nat) (s7:List Int)=>
 (idxO a10.2.2.1 ((k4:Nat):Int)).bind fun a16=>
 (idxO s7 a16).bind fun a17=>
 (uA a17 1).bind fun a18=>
 (iA s7 a16 a18).bind fun a19=>
 some a19) a10.2.2.1.length 0 s4.2).bind fun (s8:List Int)=>
 some (s6,s8)) g_.2.1.length 0 (s1,s3)).bind fun (s9:List Int×List Int)=>
 some (s9.1,s9.2)
def bN (g_:Int×(List (Int×Int×List Int×List Int))×List Int×List Int):Option Bool:=
 ((bH g_.1 0 100).bind fun y0=>
 (some (!y0)).bind fun a0=>
 cond a0
 (some true)
 ((some (decide ((60:Int)<((g_.2.1.length:Nat):Int)))).bind fun a1=>
 cond a1
 (some true)
 ((some (decide ((12:Int)<((g_.2.2.1.length:Nat):Int)))).bind fun a2=>
 cond a2
 (some true)
 ((some (decide ((12:Int)<((g_.2.2.2.length:Nat):Int)))).bind fun a3=>
 cond a3
 (some true)
 ((subO g_.1 1).bind fun a4=>
 (qI g_.2.2.1 0 a4).bind fun y1=>
 (some (!y1)).bind fun a5=>
 cond a5
 (some true)
 ((subO g_.1 1).bind fun a6=>
 (qI g_.2.2.2 0 a6).bind fun y2=>
 (some (!y2)).bind fun a7=>
 some a7)))))).bind fun (s0:Bool)=>
 cond s0
 (some false)
 (vC (uC (fun (k0:Nat) (_:Unit)=>
 (idxO g_.2.1 ((k0:Nat):Int)).bind fun a8=>
 (lQ (a8.1,a8.2.1,a8.2.2.1,a8.2.2.2) g_.1).bind fun y3=>
 (some (!y3)).bind fun a9=>
 cond a9
 (some (.inr false))
 (some (.inl ()))) g_.2.1.length 0 ()) fun (_:Unit)=>
 (qV (g_.1,g_.2.1,g_.2.2.1,g_.2.2.2)).bind fun y4=>
 vC (uC (fun (k1:Nat) (_:Unit)=>
 (idxO y4.1 ((k1:Nat):Int)).bind fun a10=>
 (idxO y4.2 ((k1:Nat):Int)).bind fun a11=>
 (uA a10 a11).bind fun a12=>
 (some (decide (a12=0))).bind fun a13=>
 cond a13
 (some (.inr false))
 (some (.inl ()))) y4.1.length 0 ()) fun (_:Unit)=>
 some true)
def fN (p_:Int) (g_:Int×(List (Int×Int×List Int×List Int))×List Int×List Int):Option Bool:=
 ((mQ p_).bind fun y0=>
 (some (!y0)).bind fun a0=>
 cond a0
 (some true)
 ((bN (g_.1,g_.2.1,g_.2.2.1,g_.2.2.2)).bind fun y1=>
 (some (!y1)).bind fun a1=>
 some a1)).bind fun (s0:Bool)=>
 cond s0
 (some false)
 (vC (uC (fun (k0:Nat) (_:Unit)=>
 (idxO g_.2.1 ((k0:Nat):Int)).bind fun a2=>
 (some (decide (p_≤a2.2.1))).bind fun a3=>
 cond a3
 (some (.inr false))
 (some (.inl ()))) g_.2.1.length 0 ()) fun (_:Unit)=>
 some true)
def tP (kind_:Int):Option Bool:=
 ((some (!decide (kind_=8))).bind fun a0=>
 cond a0
 ((some (!decide (kind_=14))).bind fun a1=>
 some a1)
 (some false)).bind fun (s7:Bool)=>
 some s7
def xP (p_:Int) (g_:Int×(List (Int×Int×List Int×List Int))×List Int×List Int):Option Bool:=
 (fN p_ (g_.1,g_.2.1,g_.2.2.1,g_.2.2.2)).bind fun y7=>
 (some (!y7)).bind fun a0=>
 cond a0
 (some false)
 (vC (uC (fun (k0:Nat) (_:Unit)=>
 (idxO g_.2.1 ((k0:Nat):Int)).bind fun a1=>
 (tP a1.1).bind fun y0=>
 (some (!y0)).bind fun a2=>
 cond a2
 (some (.inr false))
 (some (.inl ()))) g_.2.1.length 0 ()) fun (_:Unit)=>
 some true)
def iL (l_:List Int):Option (List Int):=
 (xA ([]:List Int) l_).bind fun a5=>
 some a5
def oW (p_:Int) (a_:Int) (b_:Int):Option Int:=
 (uA a_ b_).bind fun a1=>
 (kD a1 p_).bind fun a3=>
 some a3
def zG (p_:Int) (n_:Int) (at_:List Int) (values_:List Int):Option (List Int):=
 (cD n_ (0:Int)).bind fun a3=>
 (jA (fun (k8:Nat) (s0:List Int)=>
 (idxO at_ ((k8:Nat):Int)).bind fun a0=>
 (idxO s0 a0).bind fun a1=>
 (idxO values_ ((k8:Nat):Int)).bind fun a2=>
 (oW p_ a1 a2).bind fun y0=>
 (iA s0 a0 y0).bind fun a4=>
 some a4) at_.length 0 a3).bind fun (s1:List Int)=>
 some s1
def vQ (p_:Int) (a_:Int):Option Int:=
 (subO p_ a_).bind fun a1=>
 (kD a1 p_).bind fun a3=>
 some a3
def oE (p_:Int) (n_:Int) (e_:Int×Int×List Int×List Int):Option (List (List Int)):=
 ((some (decide ((9:Int)≤e_.1))).bind fun a0=>
 cond a0
 ((subO e_.1 9).bind fun a1=>
 (uA a1 3).bind fun a2=>
 some (e_.2.2.2,e_.2.2.1,a2))
 (some (e_.2.2.1,e_.2.2.2,e_.1))).bind fun (s0:List Int×List Int×Int)=>
 (some (decide (s0.2.2=3))).bind fun a3=>
 cond a3
 (((idxO s0.2.1 0).bind fun a4=>
 (idxO s0.1 0).bind fun a5=>
 (subO p_ 1).bind fun a6=>
 (idxO s0.2.1 1).bind fun a7=>
 (idxO s0.1 0).bind fun a8=>
 (subO p_ 1).bind fun a9=>
 (zG p_ n_ [a4,a5] [1,a6]).bind fun y0=>
 (zG p_ n_ [a7,a8] [1,a9]).bind fun y1=>
 some [y0,y1]).bind fun (s1:List (List Int))=>
 some s1)
 ((some (decide (s0.2.2=5))).bind fun a10=>
 cond a10
 (((idxO s0.2.1 0).bind fun a11=>
 (idxO s0.1 0).bind fun a12=>
 (idxO s0.1 1).bind fun a13=>
 (subO p_ 1).bind fun a14=>
 (subO p_ 1).bind fun a15=>
 (zG p_ n_ [a11,a12,a13] [1,a14,a15]).bind fun y2=>
 some [y2]).bind fun (s2:List (List Int))=>
 some s2)
 ((some (decide (s0.2.2=6))).bind fun a16=>
 cond a16
 ((idxO s0.2.1 0).bind fun a17=>
 (zG p_ n_ [a17] [1]).bind fun y3=>
 some [y3])
 ((some (decide (s0.2.2=7))).bind fun a18=>
 cond a18
 (((idxO s0.2.1 0).bind fun a19=>
 (idxO s0.1 0).bind fun a20=>
 (vQ p_ e_.2.1).bind fun y4=>
 (zG p_ n_ [a19,a20] [1,y4]).bind fun y5=>
 some [y5]).bind fun (s3:List (List Int))=>
 some s3)
 (some []))))
def wQ (p_:Int) (a_:Int):Option Int:=
 vC (tB (fun (s0:Int)=>
 (some (decide (s0<p_))).bind fun a0=>
 cond a0
 ((qF a_ s0).bind fun a1=>
 (kD a1 p_).bind fun a2=>
 (some (decide (a2=1))).bind fun a3=>
 cond a3
 (some (.inr (.inr s0)))
 ((uA s0 1).bind fun a4=>
 some (.inl a4)))
 (some (.inr (.inl ())))) 1) fun (s1:Unit)=>
 some 0
def jG (p_:Int) (a_:Int) (b_:Int):Option Int:=
 (qF a_ b_).bind fun a1=>
 (kD a1 p_).bind fun a3=>
 some a3
def wJ (p_:Int) (a_:Int) (b_:Int):Option Int:=
 (uA a_ p_).bind fun a1=>
 (subO a1 b_).bind fun a3=>
 (kD a3 p_).bind fun a5=>
 some a5
def aN (p_:Int) (size_:Int) (rows_:List (List Int)):Option (List (List Int)):=
 (jA (fun (k2:Nat) (s0:List (List Int))=>
 (idxO rows_ ((k2:Nat):Int)).bind fun a0=>
 (iL a0).bind fun y0=>
 (xA s0 [y0]).bind fun a1=>
 some a1) rows_.length 0 []).bind fun (s1:List (List Int))=>
 (tB (fun (s2:List (List Int)×Int×Int)=>
 ((some (decide (s2.2.2<size_))).bind fun a2=>
 cond a2
 ((some (decide (s2.2.1<((s2.1.length:Nat):Int)))).bind fun a3=>
 some a3)
 (some false)).bind fun (s3:Bool)=>
 cond s3
 (((tB (fun (s4:Int)=>
 ((some (decide (s4<((s2.1.length:Nat):Int)))).bind fun a4=>
 cond a4
 ((idxO s2.1 s4).bind fun a5=>
 (idxO a5 s2.2.2).bind fun a6=>
 (some (decide (a6=0))).bind fun a7=>
 some a7)
 (some false)).bind fun (s5:Bool)=>
 cond s5
 ((uA s4 1).bind fun a8=>
 some (.inl a8))
 (some (.inr s4))) s2.2.1).bind fun (s6:Int)=>
 (some (decide (s6=((s2.1.length:Nat):Int)))).bind fun a9=>
 cond a9
 (some (s2.1,s2.2.1))
 ((idxO s2.1 s2.2.1).bind fun a10=>
 (idxO s2.1 s6).bind fun a11=>
 (pK s2.1 s2.2.1 s6).bind fun a12=>
 (idxO a12 s2.2.1).bind fun a13=>
 (idxO a13 s2.2.2).bind fun a14=>
 (wQ p_ a14).bind fun y1=>
 (idxO a12 s2.2.1).bind fun a15=>
 (jA (fun (k0:Nat) (s7:List (List Int))=>
 (idxO s7 s2.2.1).bind fun a16=>
 (idxO s7 s2.2.1).bind fun a17=>
 (idxO a17 ((k0:Nat):Int)).bind fun a18=>
 (jG p_ a18 y1).bind fun y2=>
 (iA a16 ((k0:Nat):Int) y2).bind fun a19=>
 (iA s7 s2.2.1 a19).bind fun a20=>
 some a20) a15.length 0 a12).bind fun (s8:List (List Int))=>
 (jA (fun (k1:Nat) (s9:List (List Int))=>
 (((some (decide (((k1:Nat):Int)=s2.2.1))).bind fun a21=>
 cond a21
 (some true)
 ((idxO s9 ((k1:Nat):Int)).bind fun a22=>
 (idxO a22 s2.2.2).bind fun a23=>
 (some (decide (a23=0))).bind fun a24=>
 some a24)).bind fun (s10:Bool)=>
 cond s10
 (some s9)
 ((idxO s9 ((k1:Nat):Int)).bind fun a25=>
 (idxO a25 s2.2.2).bind fun a26=>
 (idxO s9 ((k1:Nat):Int)).bind fun a27=>
 (jA (fun (k3:Nat) (s11:List (List Int))=>
 (idxO s11 ((k1:Nat):Int)).bind fun a28=>
 (idxO s11 ((k1:Nat):Int)).bind fun a29=>
 (idxO s11 s2.2.1).bind fun a30=>
 (idxO a29 ((k3:Nat):Int)).bind fun a31=>
 (idxO a30 ((k3:Nat):Int)).bind fun a32=>
 (jG p_ a26 a32).bind fun y3=>
 (wJ p_ a31 y3).bind fun y4=>
 (iA a28 ((k3:Nat):Int) y4).bind fun a33=>
 (iA s11 ((k1:Nat):Int) a33).bind fun a34=>
 some a34) a27.length 0 s9).bind fun (s12:List (List Int))=>
 some s12)).bind fun (s13:List (List Int))=>
 some s13) s8.length 0 s8).bind fun (s14:List (List Int))=>
 (uA s2.2.1 1).bind fun a35=>
 some (s14,a35))).bind fun (s15:List (List Int)×Int)=>
 (uA s2.2.2 1).bind fun a36=>
 some (.inl (s15.1,s15.2,a36)))
 (some (.inr (s2.1,s2.2.1)))) (s1,0,0)).bind fun (s16:List (List Int)×Int)=>
 (gC s16.1 0 s16.2).bind fun a37=>
 some a37
def kQ (v_:List Int):Option Int:=
 (tB (fun (s0:Int)=>
 ((some (decide (s0<((v_.length:Nat):Int)))).bind fun a0=>
 cond a0
 ((idxO v_ s0).bind fun a1=>
 (some (decide (a1=0))).bind fun a2=>
 some a2)
 (some false)).bind fun (s1:Bool)=>
 cond s1
 ((uA s0 1).bind fun a3=>
 some (.inl a3))
 (some (.inr s0))) 0).bind fun (s2:Int)=>
 some s2
def bW (p_:Int) (size_:Int) (rows_:List (List Int)):Option (List (List Int)):=
 (aN p_ size_ rows_).bind fun y2=>
 (cD size_ (0:Int)).bind fun a7=>
 (jA (fun (k0:Nat) (s0:List Int)=>
 (iA s0 ((k0:Nat):Int) (-1)).bind fun a0=>
 some a0) a7.length 0 a7).bind fun (s1:List Int)=>
 (jA (fun (k1:Nat) (s2:List Int)=>
 (idxO y2 ((k1:Nat):Int)).bind fun a1=>
 (kQ a1).bind fun y0=>
 (iA s2 y0 ((k1:Nat):Int)).bind fun a2=>
 some a2) y2.length 0 s1).bind fun (s3:List Int)=>
 (tB (fun (s4:List (List Int)×Int)=>
 (some (decide (s4.2<size_))).bind fun a3=>
 cond a3
 (((idxO s3 s4.2).bind fun a4=>
 (some (decide ((0:Int)≤a4))).bind fun a5=>
 cond a5
 (some s4.1)
 ((cD size_ (0:Int)).bind fun a6=>
 (iA a6 s4.2 1).bind fun a8=>
 (jA (fun (k2:Nat) (s5:List Int)=>
 (idxO y2 ((k2:Nat):Int)).bind fun a9=>
 (idxO y2 ((k2:Nat):Int)).bind fun a10=>
 (idxO a9 s4.2).bind fun a11=>
 (kQ a10).bind fun y1=>
 (vQ p_ a11).bind fun y3=>
 (iA s5 y1 y3).bind fun a12=>
 some a12) y2.length 0 a8).bind fun (s6:List Int)=>
 (xA s4.1 [s6]).bind fun a13=>
 some a13)).bind fun (s7:List (List Int))=>
 (uA s4.2 1).bind fun a14=>
 some (.inl (s7,a14)))
 (some (.inr s4.1))) ([],0)).bind fun (s8:List (List Int))=>
 (aN p_ size_ s8).bind fun y4=>
 some y4
def rV (p_:Int) (g_:Int×(List (Int×Int×List Int×List Int))×List Int×List Int):Option (List (List Int)):=
 (jA (fun (k7:Nat) (s0:List (List Int))=>
 (idxO g_.2.1 ((k7:Nat):Int)).bind fun a0=>
 (oE p_ g_.1 (a0.1,a0.2.1,a0.2.2.1,a0.2.2.2)).bind fun y0=>
 (xA s0 y0).bind fun a1=>
 some a1) g_.2.1.length 0 []).bind fun (s1:List (List Int))=>
 (bW p_ g_.1 s1).bind fun y1=>
 some y1
def sH (l_:List Int) (to_:List Int):Option (List Int):=
 (jA (fun (k3:Nat) (s0:List Int)=>
 (idxO l_ ((k3:Nat):Int)).bind fun a0=>
 (idxO to_ a0).bind fun a1=>
 (xA s0 [a1]).bind fun a2=>
 some a2) l_.length 0 []).bind fun (s1:List Int)=>
 some s1
def AA_ (p_:Int) (left_:Int) (right_:Int) (rows_:List (List Int)):Option (Int×Int×List (List Int)):=
 (uA left_ right_).bind fun a5=>
 (aN p_ a5 rows_).bind fun y7=>
 some (left_,right_,y7)
def cN (p_:Int) (g_:Int×(List (Int×Int×List Int×List Int))×List Int×List Int):Option ((Int×Int×List (List Int))×Bool):=
 (xP p_ (g_.1,g_.2.1,g_.2.2.1,g_.2.2.2)).bind fun y0=>
 (some (!y0)).bind fun a0=>
 cond a0
 (some ((0,0,[]),false))
 ((iL g_.2.2.1).bind fun y1=>
 (xA y1 g_.2.2.2).bind fun a1=>
 (rV p_ (g_.1,g_.2.1,g_.2.2.1,g_.2.2.2)).bind fun y2=>
 (jA (fun (k0:Nat) (s0:List (List Int))=>
 (idxO y2 ((k0:Nat):Int)).bind fun a2=>
 (sH a1 a2).bind fun y3=>
 (xA s0 [y3]).bind fun a3=>
 some a3) y2.length 0 []).bind fun (s1:List (List Int))=>
 (AA_ p_ ((g_.2.2.1.length:Nat):Int) ((g_.2.2.2.length:Nat):Int) s1).bind fun y4=>
 some ((y4.1,y4.2.1,y4.2.2),true))
def xE (x_:(Int×(List (Int×Int×List Int×List Int))×List Int×List Int)):Option ((Int×(List (Int×Int×List Int×List Int))×List Int×List Int)×Int):=
 (uA x_.1 1).bind fun a2=>
 (subO a2 1).bind fun a5=>
 some ((a2,x_.2.1,x_.2.2.1,x_.2.2.2),a5)
def oU (x_:(Int×(List (Int×Int×List Int×List Int))×List Int×List Int)) (n_:Int):Option (Int×(List (Int×Int×List Int×List Int))×List Int×List Int):=
 tB (fun (s0:Int×List Int×Int)=>
 (some (decide ((0:Int)<s0.2.2))).bind fun a0=>
 cond a0
 ((xE (s0.1,x_.2.1,s0.2.1,x_.2.2.2)).bind fun y0=>
 (xA s0.2.1 [y0.2]).bind fun a1=>
 (subO s0.2.2 1).bind fun a2=>
 some (.inl (y0.1.1,a1,a2)))
 (some (.inr (s0.1,x_.2.1,s0.2.1,x_.2.2.2)))) (x_.1,x_.2.2.1,n_)
def rE (x_:(Int×(List (Int×Int×List Int×List Int))×List Int×List Int)) (kind_:Int) (value_:Int) (in_:List Int) (out_:List Int):Option (Int×(List (Int×Int×List Int×List Int))×List Int×List Int):=
 (xA x_.2.1 [(kind_,value_,in_,out_)]).bind fun a0=>
 some (x_.1,a0,x_.2.2.1,x_.2.2.2)
def wK:Nat→(Int×(List (Int×Int×List Int×List Int))×List Int×List Int)→Int→Int→Option ((Int×(List (Int×Int×List Int×List Int))×List Int×List Int)×List Int)
 | 0,_,_,_=>none
 | fuel+1,x_,w_,n_=>
  (some (decide (n_=0))).bind fun a3=>
  cond a3
  ((rE (x_.1,x_.2.1,x_.2.2.1,x_.2.2.2) 4 0 [w_] []).bind fun y0=>
  some ((y0.1,y0.2.1,x_.2.2.1,x_.2.2.2),[]))
  ((some (decide (n_=1))).bind fun a6=>
  cond a6
  (some ((x_.1,x_.2.1,x_.2.2.1,x_.2.2.2),[w_]))
  ((xE (x_.1,x_.2.1,x_.2.2.1,x_.2.2.2)).bind fun y9=>
  (xE (y9.1.1,x_.2.1,x_.2.2.1,x_.2.2.2)).bind fun y1=>
  (rE (y1.1.1,x_.2.1,x_.2.2.1,x_.2.2.2) 3 0 [w_] [y9.2,y1.2]).bind fun y2=>
  (subO n_ 1).bind fun a0=>
  (wK fuel (y2.1,y2.2.1,x_.2.2.1,x_.2.2.2) y1.2 a0).bind fun y3=>
  (xA [y9.2] y3.2).bind fun a1=>
  some ((y3.1.1,y3.1.2.1,x_.2.2.1,x_.2.2.2),a1)))
def yM (x_:(Int×(List (Int×Int×List Int×List Int))×List Int×List Int)) (w_:Int) (n_:Int):Option ((Int×(List (Int×Int×List Int×List Int))×List Int×List Int)×List Int):=wK 1000000 x_ w_ n_
def rP:Nat→(Int×(List (Int×Int×List Int×List Int))×List Int×List Int)→(List Int)→Option ((Int×(List (Int×Int×List Int×List Int))×List Int×List Int)×Int)
 | 0,_,_=>none
 | fuel+1,x_,l_=>
  (some (decide (((l_.length:Nat):Int)=1))).bind fun a4=>
  cond a4
  ((idxO l_ 0).bind fun a0=>
  some ((x_.1,x_.2.1,x_.2.2.1,x_.2.2.2),a0))
  ((some (decide (((l_.length:Nat):Int)=0))).bind fun a7=>
  cond a7
  ((xE (x_.1,x_.2.1,x_.2.2.1,x_.2.2.2)).bind fun y0=>
  (rE (y0.1.1,x_.2.1,x_.2.2.1,x_.2.2.2) 6 0 [] [y0.2]).bind fun y1=>
  some ((y1.1,y1.2.1,x_.2.2.1,x_.2.2.2),y0.2))
  ((subO ((l_.length:Nat):Int) 1).bind fun a1=>
  (gC l_ 0 a1).bind fun a2=>
  (rP fuel (x_.1,x_.2.1,x_.2.2.1,x_.2.2.2) a2).bind fun y2=>
  (xE (y2.1.1,y2.1.2.1,x_.2.2.1,x_.2.2.2)).bind fun y3=>
  (idxO l_ a1).bind fun a3=>
  (rE (y3.1.1,y2.1.2.1,x_.2.2.1,x_.2.2.2) 5 0 [y2.2,a3] [y3.2]).bind fun y4=>
  some ((y4.1,y4.2.1,x_.2.2.1,x_.2.2.2),y3.2)))
def gV (x_:(Int×(List (Int×Int×List Int×List Int))×List Int×List Int)) (l_:List Int):Option ((Int×(List (Int×Int×List Int×List Int))×List Int×List Int)×Int):=rP 1000000 x_ l_
def nU (x_:(Int×(List (Int×Int×List Int×List Int))×List Int×List Int)) (in_:List Int) (rows_:List (List Int)) (cols_:Int):Option ((Int×(List (Int×Int×List Int×List Int))×List Int×List Int)×List Int):=
 (cD cols_ ([]:List Int)).bind fun a5=>
 (jA (fun (k0:Nat) (s0:Int×(List (Int×Int×List Int×List Int))×List (List Int))=>
 (idxO rows_ ((k0:Nat):Int)).bind fun a0=>
 (jA (fun (k1:Nat) (s1:List Int)=>
 (idxO a0 ((k1:Nat):Int)).bind fun a1=>
 (some (!decide (a1=0))).bind fun a2=>
 cond a2
 ((xA s1 [((k1:Nat):Int)]).bind fun a3=>
 some a3)
 (some s1)) a0.length 0 []).bind fun (s2:List Int)=>
 (idxO in_ ((k0:Nat):Int)).bind fun a4=>
 (yM (s0.1,s0.2.1,x_.2.2.1,x_.2.2.2) a4 ((s2.length:Nat):Int)).bind fun y0=>
 (jA (fun (k2:Nat) (s3:Int×(List (Int×Int×List Int×List Int))×List (List Int))=>
 (idxO y0.2 ((k2:Nat):Int)).bind fun a6=>
 (idxO s2 ((k2:Nat):Int)).bind fun a7=>
 ((idxO a0 a7).bind fun a8=>
 (some (!decide (a8=1))).bind fun a9=>
 cond a9
 ((xE (s3.1,s3.2.1,x_.2.2.1,x_.2.2.2)).bind fun y1=>
 (idxO a0 a7).bind fun a10=>
 (rE (y1.1.1,s3.2.1,x_.2.2.1,x_.2.2.2) 7 a10 [a6] [y1.2]).bind fun y2=>
 some (y2.1,y2.2.1,y1.2))
 (some (s3.1,s3.2.1,a6))).bind fun (s4:Int×(List (Int×Int×List Int×List Int))×Int)=>
 (idxO s3.2.2 a7).bind fun a11=>
 (xA a11 [s4.2.2]).bind fun a12=>
 (iA s3.2.2 a7 a12).bind fun a13=>
 some (s4.1,s4.2.1,a13)) y0.2.length 0 (y0.1.1,y0.1.2.1,s0.2.2)).bind fun (s5:Int×(List (Int×Int×List Int×List Int))×List (List Int))=>
 some (s5.1,s5.2.1,s5.2.2)) rows_.length 0 (x_.1,x_.2.1,a5)).bind fun (s6:Int×(List (Int×Int×List Int×List Int))×List (List Int))=>
 (jA (fun (k3:Nat) (s7:Int×(List (Int×Int×List Int×List Int))×List Int)=>
 (idxO s6.2.2 ((k3:Nat):Int)).bind fun a14=>
 (gV (s7.1,s7.2.1,x_.2.2.1,x_.2.2.2) a14).bind fun y3=>
 (xA s7.2.2 [y3.2]).bind fun a15=>
 some (y3.1.1,y3.1.2.1,a15)) s6.2.2.length 0 (s6.1,s6.2.1,[])).bind fun (s8:Int×(List (Int×Int×List Int×List Int))×List Int)=>
 some ((s8.1,s8.2.1,x_.2.2.1,x_.2.2.2),s8.2.2)
def oQ (n_:Int):Option (List Int):=
 (cD n_ (0:Int)).bind fun a1=>
 (jA (fun (k6:Nat) (s0:List Int)=>
 (iA s0 ((k6:Nat):Int) (-1)).bind fun a0=>
 some a0) a1.length 0 a1).bind fun (s1:List Int)=>
 some s1
def xG (wires_:List Int) (order_:List Int) (l_:List Int):Option (List Int×List Int):=
 (jA (fun (k4:Nat) (s0:List Int×List Int)=>
 (idxO l_ ((k4:Nat):Int)).bind fun a0=>
 (idxO s0.1 a0).bind fun a1=>
 (some (decide (a1<0))).bind fun a2=>
 cond a2
 ((iA s0.1 a0 ((s0.2.length:Nat):Int)).bind fun a3=>
 (xA s0.2 [a0]).bind fun a4=>
 some (a3,a4))
 (some (s0.1,s0.2))) l_.length 0 (wires_,order_)).bind fun (s1:List Int×List Int)=>
 some (s1.1,s1.2)
def mV (g_:Int×(List (Int×Int×List Int×List Int))×List Int×List Int):Option (List Int):=
 (cD g_.1 (0:Int)).bind fun a7=>
 (jA (fun (k0:Nat) (s0:List Int)=>
 (iA s0 ((k0:Nat):Int) (-1)).bind fun a0=>
 some a0) a7.length 0 a7).bind fun (s1:List Int)=>
 (jA (fun (k1:Nat) (s2:List Int)=>
 (idxO g_.2.1 ((k1:Nat):Int)).bind fun a1=>
 (jA (fun (k2:Nat) (s3:List Int)=>
 (idxO a1.2.2.2 ((k2:Nat):Int)).bind fun a2=>
 (iA s3 a2 ((k1:Nat):Int)).bind fun a3=>
 some a3) a1.2.2.2.length 0 s2).bind fun (s4:List Int)=>
 some s4) g_.2.1.length 0 s1).bind fun (s5:List Int)=>
 some s5
def cW (g_:Int×(List (Int×Int×List Int×List Int))×List Int×List Int):Option (List Int):=
 (cD g_.1 (0:Int)).bind fun a7=>
 (jA (fun (k0:Nat) (s0:List Int)=>
 (iA s0 ((k0:Nat):Int) (-1)).bind fun a0=>
 some a0) a7.length 0 a7).bind fun (s1:List Int)=>
 (jA (fun (k1:Nat) (s2:List Int)=>
 (idxO g_.2.1 ((k1:Nat):Int)).bind fun a1=>
 (jA (fun (k2:Nat) (s3:List Int)=>
 (idxO a1.2.2.1 ((k2:Nat):Int)).bind fun a2=>
 (iA s3 a2 ((k1:Nat):Int)).bind fun a3=>
 some a3) a1.2.2.1.length 0 s2).bind fun (s4:List Int)=>
 some s4) g_.2.1.length 0 s1).bind fun (s5:List Int)=>
 some s5
def dW (g_:Int×(List (Int×Int×List Int×List Int))×List Int×List Int) (wires_:List Int) (edges_:List Int) (order_:List Int) (count_:Int):Option (List Int×List Int×Int×List Int):=
 (mV (g_.1,g_.2.1,g_.2.2.1,g_.2.2.2)).bind fun y0=>
 (cW (g_.1,g_.2.1,g_.2.2.1,g_.2.2.2)).bind fun y1=>
 (tB (fun (s0:List Int×List Int×Int×List Int×Int)=>
 (some (decide (s0.2.2.1<((s0.2.2.2.1.length:Nat):Int)))).bind fun a0=>
 cond a0
 ((idxO s0.2.2.2.1 s0.2.2.1).bind fun a1=>
 (idxO s0.2.2.2.1 s0.2.2.1).bind fun a2=>
 (idxO y1 a1).bind fun a3=>
 (idxO y0 a2).bind fun a4=>
 (jA (fun (k0:Nat) (s1:List Int×List Int×List Int×Int)=>
 ((idxO [a3,a4] ((k0:Nat):Int)).bind fun a5=>
 ((some (decide (a5<0))).bind fun a6=>
 cond a6
 (some true)
 ((idxO s1.2.1 a5).bind fun a7=>
 (some (decide ((0:Int)≤a7))).bind fun a8=>
 some a8)).bind fun (s2:Bool)=>
 cond s2
 (some (s1.1,s1.2.1,s1.2.2.1,s1.2.2.2))
 ((iA s1.2.1 a5 s1.2.2.2).bind fun a9=>
 (uA s1.2.2.2 1).bind fun a10=>
 (idxO g_.2.1 a5).bind fun a11=>
 (xG s1.1 s1.2.2.1 a11.2.2.1).bind fun y2=>
 (idxO g_.2.1 a5).bind fun a12=>
 (xG y2.1 y2.2 a12.2.2.2).bind fun y3=>
 some (y3.1,a9,y3.2,a10))).bind fun (s3:List Int×List Int×List Int×Int)=>
 some (s3.1,s3.2.1,s3.2.2.1,s3.2.2.2)) ([a3,a4].length) 0 (s0.1,s0.2.1,s0.2.2.2.1,s0.2.2.2.2)).bind fun (s4:List Int×List Int×List Int×Int)=>
 (uA s0.2.2.1 1).bind fun a13=>
 some (.inl (s4.1,s4.2.1,a13,s4.2.2.1,s4.2.2.2)))
 (some (.inr (s0.1,s0.2.1,s0.2.2.2.1,s0.2.2.2.2)))) (wires_,edges_,0,order_,count_)).bind fun (s5:List Int×List Int×List Int×Int)=>
 some (s5.1,s5.2.1,s5.2.2.2,s5.2.2.1)
def nQ (g_:Int×(List (Int×Int×List Int×List Int))×List Int×List Int):Option (List Int×List Int×List Int×Int):=
 (oQ g_.1).bind fun y8=>
 (oQ ((g_.2.1.length:Nat):Int)).bind fun y0=>
 (xG y8 [] g_.2.2.1).bind fun y1=>
 (xG y1.1 y1.2 g_.2.2.2).bind fun y2=>
 (dW (g_.1,g_.2.1,g_.2.2.1,g_.2.2.2) y2.1 y0 y2.2 0).bind fun y3=>
 some (y3.1,y3.2.1,y3.2.2.2,y3.2.2.1)
def oI (a_:List Int) (b_:List Int):Option Bool:=
 (some (!decide (((a_.length:Nat):Int)=((b_.length:Nat):Int)))).bind fun a3=>
 cond a3
 (some false)
 (vC (uC (fun (k6:Nat) (_:Unit)=>
 (idxO a_ ((k6:Nat):Int)).bind fun a0=>
 (idxO b_ ((k6:Nat):Int)).bind fun a1=>
 (some (!decide (a0=a1))).bind fun a2=>
 cond a2
 (some (.inr false))
 (some (.inl ()))) a_.length 0 ()) fun (_:Unit)=>
 some true)
def Af_ (g_:Int×(List (Int×Int×List Int×List Int))×List Int×List Int):Option (List (List Int×List Int×List Int×Int)):=
 (nQ (g_.1,g_.2.1,g_.2.2.1,g_.2.2.2)).bind fun y7=>
 (jA (fun (k0:Nat) (_:Unit)=>
 ((idxO y7.2.1 ((k0:Nat):Int)).bind fun a0=>
 (some (decide ((0:Int)≤a0))).bind fun a1=>
 cond a1
 (some ())
 (none)).bind fun (s0:Unit)=>
 some ()) g_.2.1.length 0 ()).bind fun (_:Unit)=>
 some []
def nV (g_:Int×(List (Int×Int×List Int×List Int))×List Int×List Int):Option (List Int×List Int):=
 (nQ (g_.1,g_.2.1,g_.2.2.1,g_.2.2.2)).bind fun y7=>
 (Af_ (g_.1,g_.2.1,g_.2.2.1,g_.2.2.2)).bind fun y0=>
 (jA (fun (k0:Nat) (_:Unit)=>
 (idxO y0 ((k0:Nat):Int)).bind fun a0=>
 none) y0.length 0 ()).bind fun (_:Unit)=>
 some (y7.1,y7.2.1)
def nW (g_:Int×(List (Int×Int×List Int×List Int))×List Int×List Int) (to_:List Int) (wires_:Int):Option (Int×(List (Int×Int×List Int×List Int))×List Int×List Int):=
 ((sH g_.2.2.1 to_).bind fun y0=>
 (sH g_.2.2.2 to_).bind fun y1=>
 some (wires_,y0,y1)).bind fun (s0:Int×List Int×List Int)=>
 (jA (fun (k0:Nat) (s1:List (Int×Int×List Int×List Int))=>
 (idxO g_.2.1 ((k0:Nat):Int)).bind fun a0=>
 (sH a0.2.2.1 to_).bind fun y2=>
 (sH a0.2.2.2 to_).bind fun y3=>
 (xA s1 [(a0.1,a0.2.1,y2,y3)]).bind fun a1=>
 some a1) g_.2.1.length 0 []).bind fun (s2:List (Int×Int×List Int×List Int))=>
 some (s0.1,s2,s0.2.1,s0.2.2)
def eV (g_:Int×(List (Int×Int×List Int×List Int))×List Int×List Int) (wires_:List Int) (edges_:List Int):Option (Int×(List (Int×Int×List Int×List Int))×List Int×List Int):=
 (nW (g_.1,g_.2.1,g_.2.2.1,g_.2.2.2) wires_ g_.1).bind fun y0=>
 ((some (decide ((0:Int)<((edges_.length:Nat):Int)))).bind fun a0=>
 cond a0
 ((cD ((edges_.length:Nat):Int) ((0,0,[],[]):Int×Int×List Int×List Int)).bind fun a1=>
 some a1)
 (some [])).bind fun (s0:List (Int×Int×List Int×List Int))=>
 (jA (fun (k0:Nat) (s1:List (Int×Int×List Int×List Int))=>
 (idxO edges_ ((k0:Nat):Int)).bind fun a2=>
 (idxO y0.2.1 ((k0:Nat):Int)).bind fun a3=>
 (iA s1 a2 (a3.1,a3.2.1,a3.2.2.1,a3.2.2.2)).bind fun a4=>
 some a4) edges_.length 0 s0).bind fun (s2:List (Int×Int×List Int×List Int))=>
 some (g_.1,s2,y0.2.2.1,y0.2.2.2)
def yP (g_:Int×(List (Int×Int×List Int×List Int))×List Int×List Int):Option (Int×(List (Int×Int×List Int×List Int))×List Int×List Int):=
 (nV (g_.1,g_.2.1,g_.2.2.1,g_.2.2.2)).bind fun y0=>
 (eV (g_.1,g_.2.1,g_.2.2.1,g_.2.2.2) y0.1 y0.2).bind fun y1=>
 some (y1.1,y1.2.1,y1.2.2.1,y1.2.2.2)
def wU (x_:(Int×(List (Int×Int×List Int×List Int))×List Int×List Int)):Option ((Int×(List (Int×Int×List Int×List Int))×List Int×List Int)×Bool):=
 (bN (x_.1,x_.2.1,x_.2.2.1,x_.2.2.2)).bind fun y8=>
 (some (!y8)).bind fun a0=>
 cond a0
 (some ((0,[],[],[]),false))
 ((yP (x_.1,x_.2.1,x_.2.2.1,x_.2.2.2)).bind fun y0=>
 some ((y0.1,y0.2.1,y0.2.2.1,y0.2.2.2),true))
def fV (r_:Int×Int×List (List Int)):Option ((Int×(List (Int×Int×List Int×List Int))×List Int×List Int)×Bool):=
 (oU (0,[],[],[]) r_.1).bind fun y0=>
 (jA (fun (k0:Nat) (s0:Int×(List (Int×Int×List Int×List Int))×List Int)=>
 (xE (s0.1,s0.2.1,y0.2.2.1,[])).bind fun y1=>
 (rE (y1.1.1,s0.2.1,y0.2.2.1,[]) 10 0 [] [y1.2]).bind fun y2=>
 (xA s0.2.2 [y1.2]).bind fun a0=>
 some (y2.1,y2.2.1,a0)) r_.2.2.length 0 (y0.1,[],[])).bind fun (s1:Int×(List (Int×Int×List Int×List Int))×List Int)=>
 (uA r_.1 r_.2.1).bind fun a1=>
 (nU (s1.1,s1.2.1,y0.2.2.1,[]) s1.2.2 r_.2.2 a1).bind fun y3=>
 (jA (fun (k1:Nat) (s2:Int×(List (Int×Int×List Int×List Int)))=>
 (idxO y0.2.2.1 ((k1:Nat):Int)).bind fun a2=>
 (xE (s2.1,s2.2,y0.2.2.1,[])).bind fun y4=>
 (idxO y3.2 ((k1:Nat):Int)).bind fun a3=>
 (rE (y4.1.1,s2.2,y0.2.2.1,[]) 9 0 [a2,a3] [y4.2]).bind fun y5=>
 (rE (y5.1,y5.2.1,y0.2.2.1,[]) 4 0 [y4.2] []).bind fun y6=>
 some (y6.1,y6.2.1)) y0.2.2.1.length 0 (y3.1.1,y3.1.2.1)).bind fun (s3:Int×(List (Int×Int×List Int×List Int)))=>
 (gC y3.2 r_.1 ((y3.2.length:Nat):Int)).bind fun a4=>
 (iL a4).bind fun y7=>
 (wU (s3.1,s3.2,y0.2.2.1,y7)).bind fun y8=>
 some ((y8.1.1,y8.1.2.1,y8.1.2.2.1,y8.1.2.2.2),y8.2)
def eW (a_:Int×(List (Int×Int×List Int×List Int))×List Int×List Int) (b_:Int×(List (Int×Int×List Int×List Int))×List Int×List Int):Option Bool:=
 ((some (!decide (a_.1=b_.1))).bind fun a0=>
 cond a0
 (some true)
 ((some (!decide (((a_.2.1.length:Nat):Int)=((b_.2.1.length:Nat):Int)))).bind fun a1=>
 cond a1
 (some true)
 ((oI a_.2.2.1 b_.2.2.1).bind fun y0=>
 (some (!y0)).bind fun a2=>
 cond a2
 (some true)
 ((oI a_.2.2.2 b_.2.2.2).bind fun y1=>
 (some (!y1)).bind fun a3=>
 some a3)))).bind fun (s0:Bool)=>
 cond s0
 (some false)
 (vC (uC (fun (k0:Nat) (_:Unit)=>
 (idxO a_.2.1 ((k0:Nat):Int)).bind fun a4=>
 (idxO b_.2.1 ((k0:Nat):Int)).bind fun a5=>
 ((some (!decide (a4.1=a5.1))).bind fun a6=>
 cond a6
 (some true)
 ((some (!decide (a4.2.1=a5.2.1))).bind fun a7=>
 cond a7
 (some true)
 ((oI a4.2.2.1 a5.2.2.1).bind fun y2=>
 (some (!y2)).bind fun a8=>
 cond a8
 (some true)
 ((oI a4.2.2.2 a5.2.2.2).bind fun y3=>
 (some (!y3)).bind fun a9=>
 some a9)))).bind fun (s1:Bool)=>
 cond s1
 (some (.inr false))
 (some (.inl ()))) a_.2.1.length 0 ()) fun (_:Unit)=>
 some true)
def nP (p_:Int) (g_:Int×(List (Int×Int×List Int×List Int))×List Int×List Int):Option (Bool×Bool):=
 (fN p_ (g_.1,g_.2.1,g_.2.2.1,g_.2.2.2)).bind fun y7=>
 (some (!y7)).bind fun a0=>
 cond a0
 (some (false,false))
 ((cN p_ (g_.1,g_.2.1,g_.2.2.1,g_.2.2.2)).bind fun y0=>
 (some (!y0.2)).bind fun a1=>
 cond a1
 (some (false,false))
 ((fV (y0.1.1,y0.1.2.1,y0.1.2.2)).bind fun y1=>
 (cond y1.2
 ((eW (y1.1.1,y1.1.2.1,y1.1.2.2.1,y1.1.2.2.2) (g_.1,g_.2.1,g_.2.2.1,g_.2.2.2)).bind fun y2=>
 some (y2,true))
 (some (false,true))).bind fun (s0:Bool×Bool)=>
 some (s0.1,s0.2)))
def aQ (p_:Int):Option Bool:=
 ((some (decide (p_<2))).bind fun a0=>
 cond a0
 (some true)
 ((some (decide ((97:Int)<p_))).bind fun a1=>
 some a1)).bind fun (s8:Bool)=>
 cond s8
 (some false)
 ((cI 4).bind fun _=>
 vC (uC (fun (k0:Nat) (_:Unit)=>
 (idxO [2,3,5,7] ((k0:Nat):Int)).bind fun a2=>
 ((kD p_ a2).bind fun a3=>
 (some (decide (a3=0))).bind fun a4=>
 cond a4
 ((some (!decide (p_=a2))).bind fun a5=>
 some a5)
 (some false)).bind fun (s0:Bool)=>
 cond s0
 (some (.inr false))
 (some (.inl ()))) ((4:Int).toNat) 0 ()) fun (_:Unit)=>
 some true)
def yE (n_:Int) (low_:Int) (high_:Int):Option Bool:=
 ((some (decide (low_≤n_))).bind fun a0=>
 cond a0
 ((some (decide (n_≤high_))).bind fun a1=>
 some a1)
 (some false)).bind fun (s7:Bool)=>
 some s7
def zU (kind_:Int):Option Bool:=
 (yE kind_ 3 14).bind fun y1=>
 some y1
def dL (kind_:Int):Option Bool:=
 ((some (decide (kind_=7))).bind fun a0=>
 cond a0
 (some true)
 ((some (decide (kind_=13))).bind fun a1=>
 some a1)).bind fun (s7:Bool)=>
 some s7
def jP (kind_:Int) (value_:Int):Option Bool:=
 (dL kind_).bind fun y1=>
 cond y1
 ((yE value_ 0 96).bind fun y8=>
 some y8)
 ((some (decide (value_=0))).bind fun a5=>
 some a5)
def qM (kind_:Int):Option (Int×Int):=
 (some (decide (kind_≤8))).bind fun a8=>
 cond a8
 ((subO kind_ 3).bind fun a0=>
 (idxO ([(1,2),(1,0),(2,1),(0,1),(1,1),(1,1)]:List (Int×Int)) a0).bind fun a1=>
 some (a1.1,a1.2))
 ((subO kind_ 9).bind fun a2=>
 (idxO ([(1,2),(1,0),(2,1),(0,1),(1,1),(1,1)]:List (Int×Int)) a2).bind fun a3=>
 some (a3.2,a3.1))
def sP (e_:Int×Int×List Int×List Int):Option Bool:=
 ((zU e_.1).bind fun y0=>
 (some (!y0)).bind fun a0=>
 cond a0
 (some true)
 ((jP e_.1 e_.2.1).bind fun y1=>
 (some (!y1)).bind fun a1=>
 some a1)).bind fun (s0:Bool)=>
 cond s0
 (some false)
 ((qM e_.1).bind fun y2=>
 (some (decide (([y2.1,y2.2]:List Int)=[((e_.2.2.1.length:Nat):Int),((e_.2.2.2.length:Nat):Int)]))).bind fun a2=>
 some a2)
def oH (list_:List Int) (c0_:Int×(List (Int×Int×List Int×List Int))×List Int×List Int) (c1_:Bool) (c2_:List Bool) (c3_:Int):Option (Bool×List Bool×Int):=
 (jA (fun (k0:Nat) (s0:Bool×Int×List Bool)=>
 ((idxO list_ ((k0:Nat):Int)).bind fun a0=>
 (subO c0_.1 1).bind fun a1=>
 (yE a0 0 a1).bind fun y0=>
 (some (!y0)).bind fun a2=>
 cond a2
 (some (false,s0.2.1,s0.2.2))
 ((idxO s0.2.2 a0).bind fun a3=>
 (some (!a3)).bind fun a4=>
 cond a4
 ((iA s0.2.2 a0 true).bind fun a5=>
 (uA s0.2.1 1).bind fun a6=>
 some (s0.1,a6,a5))
 (some (s0.1,s0.2.1,s0.2.2)))).bind fun (s1:Bool×Int×List Bool)=>
 some (s1.1,s1.2.1,s1.2.2)) list_.length 0 (c1_,c3_,c2_)).bind fun (s2:Bool×Int×List Bool)=>
 some (s2.1,s2.2.2,s2.2.1)
def gP (g_:Int×(List (Int×Int×List Int×List Int))×List Int×List Int) (d0_:Int×(List (Int×Int×List Int×List Int))×List Int×List Int) (d1_:Bool) (d2_:List Bool) (d3_:Int):Option (Bool×List Bool×Int):=
 (oH g_.2.2.1 (d0_.1,d0_.2.1,d0_.2.2.1,d0_.2.2.2) d1_ d2_ d3_).bind fun y0=>
 (oH g_.2.2.2 (d0_.1,d0_.2.1,d0_.2.2.1,d0_.2.2.2) y0.1 y0.2.1 y0.2.2).bind fun y1=>
 (jA (fun (k0:Nat) (s0:Int×Bool×List Bool)=>
 (idxO g_.2.1 ((k0:Nat):Int)).bind fun a0=>
 (oH a0.2.2.1 (d0_.1,d0_.2.1,d0_.2.2.1,d0_.2.2.2) s0.2.1 s0.2.2 s0.1).bind fun y2=>
 (oH a0.2.2.2 (d0_.1,d0_.2.1,d0_.2.2.1,d0_.2.2.2) y2.1 y2.2.1 y2.2.2).bind fun y3=>
 some (y3.2.2,y3.1,y3.2.1)) g_.2.1.length 0 (y1.2.2,y1.1,y1.2.1)).bind fun (s1:Int×Bool×List Bool)=>
 some (s1.2.1,s1.2.2,s1.1)
def uM (g_:Int×(List (Int×Int×List Int×List Int))×List Int×List Int):Option Bool:=
 ((yE g_.1 0 100).bind fun y0=>
 (some (!y0)).bind fun a0=>
 cond a0
 (some true)
 ((some (decide ((60:Int)<((g_.2.1.length:Nat):Int)))).bind fun a1=>
 cond a1
 (some true)
 ((some (decide ((12:Int)<((g_.2.2.1.length:Nat):Int)))).bind fun a2=>
 cond a2
 (some true)
 ((some (decide ((12:Int)<((g_.2.2.2.length:Nat):Int)))).bind fun a3=>
 some a3)))).bind fun (s0:Bool)=>
 cond s0
 (some false)
 (vC (uC (fun (k0:Nat) (_:Unit)=>
 (idxO g_.2.1 ((k0:Nat):Int)).bind fun a4=>
 (sP (a4.1,a4.2.1,a4.2.2.1,a4.2.2.2)).bind fun y1=>
 (some (!y1)).bind fun a5=>
 cond a5
 (some (.inr false))
 (some (.inl ()))) g_.2.1.length 0 ()) fun (_:Unit)=>
 (cD g_.1 (false:Bool)).bind fun a6=>
 (gP (g_.1,g_.2.1,g_.2.2.1,g_.2.2.2) (g_.1,g_.2.1,g_.2.2.1,g_.2.2.2) true a6 0).bind fun y2=>
 (cond y2.1
 ((some (decide (y2.2.2=g_.1))).bind fun a7=>
 some (true,a7))
 (some (false,false))).bind fun (s1:Bool×Bool)=>
 some s1.2)
def yU (p_:Int) (g_:Int×(List (Int×Int×List Int×List Int))×List Int×List Int):Option Bool:=
 ((aQ p_).bind fun y0=>
 (some (!y0)).bind fun a0=>
 cond a0
 (some true)
 ((uM (g_.1,g_.2.1,g_.2.2.1,g_.2.2.2)).bind fun y1=>
 (some (!y1)).bind fun a1=>
 some a1)).bind fun (s0:Bool)=>
 cond s0
 (some false)
 (vC (uC (fun (k0:Nat) (_:Unit)=>
 (idxO g_.2.1 ((k0:Nat):Int)).bind fun a2=>
 ((dL a2.1).bind fun y2=>
 cond y2
 ((some (decide (p_≤a2.2.1))).bind fun a3=>
 some a3)
 (some false)).bind fun (s1:Bool)=>
 cond s1
 (some (.inr false))
 (some (.inl ()))) g_.2.1.length 0 ()) fun (_:Unit)=>
 some true)
def bQ (kind_:Int):Option Bool:=
 ((some (decide (kind_=8))).bind fun a0=>
 cond a0
 (some true)
 ((some (decide (kind_=14))).bind fun a1=>
 some a1)).bind fun (s7:Bool)=>
 some s7
def mU (g_:Int×(List (Int×Int×List Int×List Int))×List Int×List Int) (p_:Int):Option Bool:=
 (yU p_ (g_.1,g_.2.1,g_.2.2.1,g_.2.2.2)).bind fun y8=>
 (some (!y8)).bind fun a0=>
 cond a0
 (some false)
 (vC (uC (fun (k0:Nat) (_:Unit)=>
 (idxO g_.2.1 ((k0:Nat):Int)).bind fun a1=>
 (bQ a1.1).bind fun y0=>
 cond y0
 (some (.inr false))
 (some (.inl ()))) g_.2.1.length 0 ()) fun (_:Unit)=>
 some true)
def pQ (kind_:Int) (value_:Int):Option (Int×Int×ByteArray):=
 some (kind_,value_,.empty)
def aH (n_:Int):Option (List Int):=
 (cD n_ (0:Int)).bind fun a1=>
 some a1
def mN (n_:Int) (at_:Int):Option (List Int):=
 (aH n_).bind fun y1=>
 (iA y1 at_ 1).bind fun a0=>
 some a0
def xD (lists_:List (List Int)):Option (List Int):=
 (jA (fun (k5:Nat) (s0:List Int)=>
 (idxO lists_ ((k5:Nat):Int)).bind fun a0=>
 (xA s0 a0).bind fun a1=>
 some a1) lists_.length 0 ([]:List Int)).bind fun (s1:List Int)=>
 some s1
def iZ (n_:Int):Option (Int×Int×List (List Int)):=
 (cI n_).bind fun _=>
 (jA (fun (k8:Nat) (s0:List (List Int))=>
 (mN n_ ((k8:Nat):Int)).bind fun y0=>
 (mN n_ ((k8:Nat):Int)).bind fun y1=>
 (xD [y0,y1]).bind fun y2=>
 (xA s0 [y2]).bind fun a0=>
 some a0) n_.toNat 0 []).bind fun (s1:List (List Int))=>
 some (n_,n_,s1)
def pW (list_:List Int):Option (List Int):=
 (xA ([]:List Int) list_).bind fun a5=>
 some a5
def qQ (list_:List (List Int)):Option (List (List Int)):=
 (dI 0 ((list_.length:Nat):Int) ([]:List Int)).bind fun a2=>
 (jA (fun (k7:Nat) (s0:List (List Int))=>
 (idxO list_ ((k7:Nat):Int)).bind fun a0=>
 (pW a0).bind fun y0=>
 (xA s0 [y0]).bind fun a1=>
 some a1) list_.length 0 a2).bind fun (s1:List (List Int))=>
 some s1
def AQ_ (yes_:Bool):Option Int:=
 cond yes_
 (some 1)
 (some 0)
def Aw_ (p_:Int) (a_:Int) (n_:Int):Option Int:=
 (kD 1 p_).bind fun a1=>
 (tB (fun (s0:Int×Int×Int)=>
 (some (decide ((0:Int)<s0.2.1))).bind fun a0=>
 cond a0
 (((kD s0.2.1 2).bind fun a2=>
 (some (decide (a2=1))).bind fun a3=>
 cond a3
 ((qF s0.2.2 s0.1).bind fun a4=>
 (kD a4 p_).bind fun a5=>
 some a5)
 (some s0.2.2)).bind fun (s1:Int)=>
 (qF s0.1 s0.1).bind fun a6=>
 (kD a6 p_).bind fun a7=>
 (quoO s0.2.1 2).bind fun a8=>
 some (.inl (a7,a8,s1)))
 (some (.inr s0.2.2))) (a_,n_,a1)).bind fun (s2:Int)=>
 some s2
def aW (p_:Int) (a_:Int):Option Int:=
 (subO p_ 2).bind fun a1=>
 (some (decide (p_=2))).bind fun a3=>
 (AQ_ a3).bind fun y5=>
 (uA a1 y5).bind fun a8=>
 (Aw_ p_ a_ a8).bind fun y0=>
 some y0
def tH (p_:Int) (a_:Int):Option Int:=
 (kD a_ p_).bind fun a1=>
 (some (decide (a1<0))).bind fun a3=>
 cond a3
 ((uA a1 p_).bind fun a7=>
 some a7)
 (some a1)
def tV (p_:Int) (v_:List Int) (by_:Int) (w_:List Int):Option (List Int):=
 (jA (fun (k3:Nat) (s0:List Int)=>
 (idxO w_ ((k3:Nat):Int)).bind fun a0=>
 (idxO s0 ((k3:Nat):Int)).bind fun a1=>
 (qF by_ a0).bind fun a2=>
 (uA a1 a2).bind fun a3=>
 (tH p_ a3).bind fun y0=>
 (iA s0 ((k3:Nat):Int) y0).bind fun a4=>
 some a4) w_.length 0 v_).bind fun (s1:List Int)=>
 some s1
def tK (o_:Int×Int×Int×Int) (p_:Int) (rows_:List (List Int)):Option (List (List Int)):=
 (some (decide (o_.1=0))).bind fun a5=>
 cond a5
 ((idxO rows_ o_.2.2.1).bind fun a0=>
 (idxO rows_ o_.2.1).bind fun a1=>
 (pK rows_ o_.2.1 o_.2.2.1).bind fun a2=>
 some a2)
 ((some (decide (o_.1=1))).bind fun a8=>
 cond a8
 ((aW p_ o_.2.2.2).bind fun y0=>
 (idxO rows_ o_.2.1).bind fun a3=>
 (jA (fun (k0:Nat) (s0:List Int)=>
 (idxO s0 ((k0:Nat):Int)).bind fun a4=>
 (qF a4 y0).bind fun a6=>
 (kD a6 p_).bind fun a7=>
 (iA s0 ((k0:Nat):Int) a7).bind fun a9=>
 some a9) a3.length 0 a3).bind fun (s1:List Int)=>
 (iA rows_ o_.2.1 s1).bind fun a10=>
 some a10)
 ((some (decide (o_.1=2))).bind fun a12=>
 cond a12
 ((idxO rows_ o_.2.1).bind fun a13=>
 (negO o_.2.2.2).bind fun a14=>
 (idxO rows_ o_.2.2.1).bind fun a15=>
 (tV p_ a13 a14 a15).bind fun y1=>
 (neqO o_.2.1 o_.2.2.1).bind fun _=>
 (iA rows_ o_.2.1 y1).bind fun a16=>
 some a16)
 (some rows_)))
def iG (o_:Int×Int×Int×Int) (c0_:Int) (c1_:List (List Int)) (c2_:List (List Int)):Option (List (List Int)×List (List Int)):=
 (some (decide (([o_.1,o_.2.1,o_.2.2.1,o_.2.2.2]:List Int)=[0,o_.2.1,o_.2.1,0]))).bind fun a9=>
 cond a9
 (some (c1_,c2_))
 ((tK (o_.1,o_.2.1,o_.2.2.1,o_.2.2.2) c0_ c1_).bind fun y0=>
 (tK (o_.1,o_.2.1,o_.2.2.1,o_.2.2.2) c0_ c2_).bind fun y1=>
 some (y0,y1))
def vP (p_:Int) (rows_:List (List Int)) (n_:Int) (also_:List (List Int)):Option (List (List Int)×List (List Int)×Int):=
 (tB (fun (s0:List (List Int)×List (List Int)×Int×Int)=>
 ((some (decide (s0.2.2.1<n_))).bind fun a0=>
 cond a0
 ((some (decide (s0.2.2.2<((s0.1.length:Nat):Int)))).bind fun a1=>
 some a1)
 (some false)).bind fun (s1:Bool)=>
 cond s1
 (((tB (fun (s2:Int)=>
 ((some (decide (s2<((s0.1.length:Nat):Int)))).bind fun a2=>
 cond a2
 ((idxO s0.1 s2).bind fun a3=>
 (idxO a3 s0.2.2.1).bind fun a4=>
 (some (decide (a4=0))).bind fun a5=>
 some a5)
 (some false)).bind fun (s3:Bool)=>
 cond s3
 ((uA s2 1).bind fun a6=>
 some (.inl a6))
 (some (.inr s2))) s0.2.2.2).bind fun (s4:Int)=>
 (some (decide (s4=((s0.1.length:Nat):Int)))).bind fun a7=>
 cond a7
 (some (s0.1,s0.2.1,s0.2.2.2))
 ((iG (0,s0.2.2.2,s4,0) p_ s0.1 s0.2.1).bind fun y0=>
 (idxO y0.1 s0.2.2.2).bind fun a8=>
 (idxO a8 s0.2.2.1).bind fun a9=>
 (iG (1,s0.2.2.2,0,a9) p_ y0.1 y0.2).bind fun y1=>
 (jA (fun (k0:Nat) (s5:List (List Int)×List (List Int))=>
 ((some (!decide (((k0:Nat):Int)=s0.2.2.2))).bind fun a10=>
 cond a10
 ((idxO s5.1 ((k0:Nat):Int)).bind fun a11=>
 (idxO a11 s0.2.2.1).bind fun a12=>
 (some (!decide (a12=0))).bind fun a13=>
 some a13)
 (some false)).bind fun (s6:Bool)=>
 cond s6
 ((idxO s5.1 ((k0:Nat):Int)).bind fun a14=>
 (idxO a14 s0.2.2.1).bind fun a15=>
 (iG (2,((k0:Nat):Int),s0.2.2.2,a15) p_ s5.1 s5.2).bind fun y2=>
 some (y2.1,y2.2))
 (some (s5.1,s5.2))) y1.1.length 0 (y1.1,y1.2)).bind fun (s7:List (List Int)×List (List Int))=>
 (uA s0.2.2.2 1).bind fun a16=>
 some (s7.1,s7.2,a16))).bind fun (s8:List (List Int)×List (List Int)×Int)=>
 (uA s0.2.2.1 1).bind fun a17=>
 some (.inl (s8.1,s8.2.1,a17,s8.2.2)))
 (some (.inr (s0.1,s0.2.1,s0.2.2.2)))) (rows_,also_,0,0)).bind fun (s9:List (List Int)×List (List Int)×Int)=>
 some (s9.1,s9.2.1,s9.2.2)
def zP (p_:Int) (rows_:List (List Int)) (n_:Int):Option (List (List Int)):=
 (qQ rows_).bind fun y2=>
 (cD ((y2.length:Nat):Int) ([]:List Int)).bind fun a7=>
 (vP p_ y2 n_ a7).bind fun y0=>
 (gC y0.1 0 y0.2.2).bind fun a0=>
 some a0
def qJ (p_:Int) (left_:Int) (right_:Int) (rows_:List (List Int)):Option (Int×Int×List (List Int)):=
 (uA left_ right_).bind fun a5=>
 (zP p_ rows_ a5).bind fun y7=>
 some (left_,right_,y7)
def uP (kind_:Int):Option Int:=
 (yE kind_ 3 8).bind fun y1=>
 cond y1
 ((uA kind_ 9).bind fun a0=>
 (subO a0 3).bind fun a1=>
 some a1)
 ((yE kind_ 9 14).bind fun y5=>
 cond y5
 ((subO kind_ 9).bind fun a2=>
 (uA a2 3).bind fun a3=>
 some a3)
 (some kind_))
def oP (kind_:Int) (value_:Int):Option (List (List Int)):=
 (some (decide (kind_=3))).bind fun a1=>
 cond a1
 (some [[1,1,1]])
 ((some (decide (kind_=4))).bind fun a4=>
 cond a4
 (some [[1]])
 ((some (decide (kind_=5))).bind fun a7=>
 cond a7
 (some [[1,0,1],[0,1,1]])
 ((some (decide (kind_=7))).bind fun a0=>
 cond a0
 (some [[1,value_]])
 (some []))))
def gU (r_:Int×Int×List (List Int)) (row_:List Int):Option (List Int):=
 (gC row_ r_.1 ((row_.length:Nat):Int)).bind fun a6=>
 some a6
def kU (r_:Int×Int×List (List Int)) (row_:List Int):Option (List Int):=
 (gC row_ 0 r_.1).bind fun a6=>
 some a6
def vZ (row_:List Int) (c0_:Int×Int×List (List Int)):Option (List Int):=
 (gU (c0_.1,c0_.2.1,c0_.2.2) row_).bind fun y5=>
 (kU (c0_.1,c0_.2.1,c0_.2.2) row_).bind fun y0=>
 (xD [y5,y0]).bind fun y1=>
 some y1
def zT (r_:Int×Int×List (List Int)) (d0_:Int×Int×List (List Int)):Option (List (List Int)):=
 (jA (fun (k0:Nat) (s0:List (List Int))=>
 (idxO r_.2.2 ((k0:Nat):Int)).bind fun a0=>
 (vZ a0 (d0_.1,d0_.2.1,d0_.2.2)).bind fun y0=>
 (xA s0 [y0]).bind fun a1=>
 some a1) r_.2.2.length 0 ([]:List (List Int))).bind fun (s1:List (List Int))=>
 some s1
def sV (p_:Int) (r_:Int×Int×List (List Int)):Option (Int×Int×List (List Int)):=
 (zT (r_.1,r_.2.1,r_.2.2) (r_.1,r_.2.1,r_.2.2)).bind fun y9=>
 (qJ p_ r_.2.1 r_.1 y9).bind fun y0=>
 some (y0.1,y0.2.1,y0.2.2)
def wM (p_:Int) (n_:Int×Int×ByteArray):Option (Int×Int×List (List Int)):=
 (some (decide (n_.1=1))).bind fun a7=>
 cond a7
 ((iZ n_.2.1).bind fun y0=>
 some (y0.1,y0.2.1,y0.2.2))
 ((some (decide (n_.1=2))).bind fun a0=>
 cond a0
 ((qJ p_ 2 2 [[1,0,0,1],[0,1,1,0]]).bind fun y1=>
 some (y1.1,y1.2.1,y1.2.2))
 ((some (decide ((9:Int)≤n_.1))).bind fun a1=>
 cond a1
 ((uP n_.1).bind fun y2=>
 (qM y2).bind fun y3=>
 (uP n_.1).bind fun y4=>
 (oP y4 n_.2.1).bind fun y5=>
 (qJ p_ y3.1 y3.2 y5).bind fun y6=>
 (sV p_ (y6.1,y6.2.1,y6.2.2)).bind fun y7=>
 some (y7.1,y7.2.1,y7.2.2))
 ((qM n_.1).bind fun y8=>
 (oP n_.1 n_.2.1).bind fun y9=>
 (qJ p_ y8.1 y8.2 y9).bind fun y10=>
 some (y10.1,y10.2.1,y10.2.2))))
def tM (r_:Int×Int×List (List Int)):Option Int:=
 (uA r_.1 r_.2.1).bind fun a5=>
 some a5
def iV (rows_:List (List Int)) (n_:Int):Option (List (List Int)):=
 (cD n_ ([]:List Int)).bind fun a2=>
 (jA (fun (k7:Nat) (s0:List (List Int))=>
 (aH ((rows_.length:Nat):Int)).bind fun y0=>
 (iA s0 ((k7:Nat):Int) y0).bind fun a0=>
 (jA (fun (k0:Nat) (s1:List (List Int))=>
 (idxO rows_ ((k0:Nat):Int)).bind fun a1=>
 (idxO s1 ((k7:Nat):Int)).bind fun a3=>
 (idxO a1 ((k7:Nat):Int)).bind fun a4=>
 (iA a3 ((k0:Nat):Int) a4).bind fun a5=>
 (iA s1 ((k7:Nat):Int) a5).bind fun a6=>
 some a6) rows_.length 0 a0).bind fun (s2:List (List Int))=>
 some s2) a2.length 0 a2).bind fun (s3:List (List Int))=>
 some s3
def tU (n_:Int):Option (List (List Int)):=
 (cI n_).bind fun _=>
 (jA (fun (k4:Nat) (s0:List (List Int))=>
 (mN n_ ((k4:Nat):Int)).bind fun y0=>
 (xA s0 [y0]).bind fun a0=>
 some a0) n_.toNat 0 ([]:List (List Int))).bind fun (s1:List (List Int))=>
 some s1
def jW (p_:Int) (rows_:List (List Int)) (n_:Int):Option (List (List Int)):=
 (qQ rows_).bind fun y2=>
 (tU ((rows_.length:Nat):Int)).bind fun y7=>
 (vP p_ y2 n_ y7).bind fun y0=>
 (gC y0.2.1 y0.2.2 ((y0.2.1.length:Nat):Int)).bind fun a0=>
 (zP p_ a0 ((rows_.length:Nat):Int)).bind fun y1=>
 some y1
def bL (p_:Int) (rows_:List (List Int)) (n_:Int):Option (List (List Int)):=
 (iV rows_ n_).bind fun y2=>
 (jW p_ y2 ((rows_.length:Nat):Int)).bind fun y7=>
 some y7
def iP (acc_:List (List Int)) (c0_:Int×(List (Int×Int×List Int×List Int))×List Int×List Int) (c1_:Int):Option (List (List Int)):=
 (jA (fun (k7:Nat) (s0:List (List Int))=>
 (idxO c0_.2.1 ((k7:Nat):Int)).bind fun a0=>
 ((pQ a0.1 a0.2.1).bind fun y0=>
 (wM c1_ (y0.1,y0.2.1,y0.2.2)).bind fun y1=>
 some (y1.1,y1.2.1,y1.2.2)).bind fun (s1:Int×Int×List (List Int))=>
 (xD [a0.2.2.1,a0.2.2.2]).bind fun y2=>
 (tM (s1.1,s1.2.1,s1.2.2)).bind fun y3=>
 (bL c1_ s1.2.2 y3).bind fun y4=>
 (jA (fun (k0:Nat) (s2:List (List Int))=>
 (idxO y4 ((k0:Nat):Int)).bind fun a1=>
 (aH c0_.1).bind fun y5=>
 (jA (fun (k1:Nat) (s3:List Int)=>
 (idxO y2 ((k1:Nat):Int)).bind fun a2=>
 (idxO s3 a2).bind fun a3=>
 (idxO a1 ((k1:Nat):Int)).bind fun a4=>
 (uA a3 a4).bind fun a5=>
 (tH c1_ a5).bind fun y6=>
 (iA s3 a2 y6).bind fun a6=>
 some a6) y2.length 0 y5).bind fun (s4:List Int)=>
 (xA s2 [s4]).bind fun a7=>
 some a7) y4.length 0 s0).bind fun (s5:List (List Int))=>
 some s5) c0_.2.1.length 0 acc_).bind fun (s6:List (List Int))=>
 some s6
def hZ (g_:Int×(List (Int×Int×List Int×List Int))×List Int×List Int) (p_:Int):Option (List (List Int)):=iP [] g_ p_
def gN (v_:List Int) (at_:List Int):Option (List Int):=
 (dI 0 ((at_.length:Nat):Int) (0:Int)).bind fun a3=>
 (jA (fun (k8:Nat) (s0:List Int)=>
 (idxO at_ ((k8:Nat):Int)).bind fun a0=>
 (idxO v_ a0).bind fun a1=>
 (xA s0 [a1]).bind fun a2=>
 some a2) at_.length 0 a3).bind fun (s1:List Int)=>
 some s1
def xZ (rows_:List (List Int)) (at_:List Int):Option (List (List Int)):=
 (jA (fun (k6:Nat) (s0:List (List Int))=>
 (idxO rows_ ((k6:Nat):Int)).bind fun a0=>
 (gN a0 at_).bind fun y0=>
 (xA s0 [y0]).bind fun a1=>
 some a1) rows_.length 0 ([]:List (List Int))).bind fun (s1:List (List Int))=>
 some s1
def cV (p_:Int) (g_:Int×(List (Int×Int×List Int×List Int))×List Int×List Int):Option (Int×Int×List (List Int)):=
 (hZ (g_.1,g_.2.1,g_.2.2.1,g_.2.2.2) p_).bind fun y0=>
 (bL p_ y0 g_.1).bind fun y1=>
 (xD [g_.2.2.1,g_.2.2.2]).bind fun y2=>
 (xZ y1 y2).bind fun y3=>
 (qJ p_ ((g_.2.2.1.length:Nat):Int) ((g_.2.2.2.length:Nat):Int) y3).bind fun y4=>
 some (y4.1,y4.2.1,y4.2.2)
def dG (d_:(Int×(List (Int×Int×List Int×List Int))×List Int×List Int)):Option ((Int×(List (Int×Int×List Int×List Int))×List Int×List Int)×Int):=
 (uA d_.1 1).bind fun a2=>
 (subO a2 1).bind fun a5=>
 some ((a2,d_.2.1,d_.2.2.1,d_.2.2.2),a5)
def sM (d_:(Int×(List (Int×Int×List Int×List Int))×List Int×List Int)) (n_:Int):Option ((Int×(List (Int×Int×List Int×List Int))×List Int×List Int)×List Int):=
 (cI n_).bind fun _=>
 (jA (fun (k5:Nat) (s0:Int×List Int)=>
 (dG (s0.1,d_.2.1,d_.2.2.1,d_.2.2.2)).bind fun y0=>
 (xA s0.2 [y0.2]).bind fun a0=>
 some (y0.1.1,a0)) n_.toNat 0 (d_.1,([]:List Int))).bind fun (s1:Int×List Int)=>
 some ((s1.1,d_.2.1,d_.2.2.1,d_.2.2.2),s1.2)
def qE (d_:(Int×(List (Int×Int×List Int×List Int))×List Int×List Int)) (kind_:Int) (value_:Int) (in_:List Int) (out_:List Int):Option (Int×(List (Int×Int×List Int×List Int))×List Int×List Int):=
 (xA d_.2.1 [(kind_,value_,in_,out_)]).bind fun a0=>
 some (d_.1,a0,d_.2.2.1,d_.2.2.2)
def uK:Nat→(Int×(List (Int×Int×List Int×List Int))×List Int×List Int)→Int→Int→Option ((Int×(List (Int×Int×List Int×List Int))×List Int×List Int)×List Int)
 | 0,_,_,_=>none
 | fuel+1,d_,w_,n_=>
  (some (decide (n_=0))).bind fun a3=>
  cond a3
  ((qE (d_.1,d_.2.1,d_.2.2.1,d_.2.2.2) 4 0 [w_] []).bind fun y0=>
  some ((y0.1,y0.2.1,d_.2.2.1,d_.2.2.2),[]))
  ((some (decide (n_=1))).bind fun a6=>
  cond a6
  (some ((d_.1,d_.2.1,d_.2.2.1,d_.2.2.2),[w_]))
  ((sM (d_.1,d_.2.1,d_.2.2.1,d_.2.2.2) 2).bind fun y9=>
  (qE (y9.1.1,d_.2.1,d_.2.2.1,d_.2.2.2) 3 0 [w_] y9.2).bind fun y1=>
  ((subO n_ 1).bind fun a0=>
  (idxO y9.2 0).bind fun a1=>
  (idxO y9.2 1).bind fun a2=>
  (uK fuel (y1.1,y1.2.1,d_.2.2.1,d_.2.2.2) a2 a0).bind fun y2=>
  (xA [a1] y2.2).bind fun a4=>
  some (y2.1.1,y2.1.2.1,a4)).bind fun (s0:Int×(List (Int×Int×List Int×List Int))×List Int)=>
  some ((s0.1,s0.2.1,d_.2.2.1,d_.2.2.2),s0.2.2)))
def rM (d_:(Int×(List (Int×Int×List Int×List Int))×List Int×List Int)) (w_:Int) (n_:Int):Option ((Int×(List (Int×Int×List Int×List Int))×List Int×List Int)×List Int):=uK 1000000 d_ w_ n_
def pP:Nat→(Int×(List (Int×Int×List Int×List Int))×List Int×List Int)→(List Int)→Option ((Int×(List (Int×Int×List Int×List Int))×List Int×List Int)×Int)
 | 0,_,_=>none
 | fuel+1,d_,list_=>
  (subO ((list_.length:Nat):Int) 1).bind fun a4=>
  (some (decide (a4=0))).bind fun a6=>
  cond a6
  ((idxO list_ 0).bind fun a0=>
  some ((d_.1,d_.2.1,d_.2.2.1,d_.2.2.2),a0))
  ((dG (d_.1,d_.2.1,d_.2.2.1,d_.2.2.2)).bind fun y9=>
  (some (decide (a4<0))).bind fun a1=>
  cond a1
  ((qE (y9.1.1,d_.2.1,d_.2.2.1,d_.2.2.2) 6 0 [] [y9.2]).bind fun y0=>
  some ((y0.1,y0.2.1,d_.2.2.1,d_.2.2.2),y9.2))
  (((gC list_ 0 a4).bind fun a2=>
  (pP fuel (y9.1.1,d_.2.1,d_.2.2.1,d_.2.2.2) a2).bind fun y1=>
  (idxO list_ a4).bind fun a3=>
  (qE (y1.1.1,y1.1.2.1,d_.2.2.1,d_.2.2.2) 5 0 [y1.2,a3] [y9.2]).bind fun y2=>
  some (y2.1,y2.2.1)).bind fun (s0:Int×(List (Int×Int×List Int×List Int)))=>
  some ((s0.1,s0.2,d_.2.2.1,d_.2.2.2),y9.2)))
def bV (d_:(Int×(List (Int×Int×List Int×List Int))×List Int×List Int)) (list_:List Int):Option ((Int×(List (Int×Int×List Int×List Int))×List Int×List Int)×Int):=pP 1000000 d_ list_
def iU (d_:(Int×(List (Int×Int×List Int×List Int))×List Int×List Int)) (ins_:List Int) (rows_:List (List Int)) (cols_:Int):Option ((Int×(List (Int×Int×List Int×List Int))×List Int×List Int)×List Int):=
 (cD cols_ ([]:List Int)).bind fun a5=>
 (jA (fun (k0:Nat) (s0:Int×(List (Int×Int×List Int×List Int))×List (List Int))=>
 (idxO rows_ ((k0:Nat):Int)).bind fun a0=>
 (jA (fun (k1:Nat) (s1:List Int)=>
 (idxO a0 ((k1:Nat):Int)).bind fun a1=>
 (some (!decide (a1=0))).bind fun a2=>
 cond a2
 ((xA s1 [((k1:Nat):Int)]).bind fun a3=>
 some a3)
 (some s1)) a0.length 0 ([]:List Int)).bind fun (s2:List Int)=>
 (idxO ins_ ((k0:Nat):Int)).bind fun a4=>
 (rM (s0.1,s0.2.1,d_.2.2.1,d_.2.2.2) a4 ((s2.length:Nat):Int)).bind fun y0=>
 (jA (fun (k2:Nat) (s3:Int×(List (Int×Int×List Int×List Int))×List (List Int))=>
 (idxO y0.2 ((k2:Nat):Int)).bind fun a6=>
 (idxO s2 ((k2:Nat):Int)).bind fun a7=>
 ((idxO a0 a7).bind fun a8=>
 (some (!decide (a8=1))).bind fun a9=>
 cond a9
 ((dG (s3.1,s3.2.1,d_.2.2.1,d_.2.2.2)).bind fun y1=>
 (qE (y1.1.1,s3.2.1,d_.2.2.1,d_.2.2.2) 7 a8 [a6] [y1.2]).bind fun y2=>
 some (y2.1,y2.2.1,y1.2))
 (some (s3.1,s3.2.1,a6))).bind fun (s4:Int×(List (Int×Int×List Int×List Int))×Int)=>
 (idxO s3.2.2 a7).bind fun a10=>
 (xA a10 [s4.2.2]).bind fun a11=>
 (iA s3.2.2 a7 a11).bind fun a12=>
 some (s4.1,s4.2.1,a12)) y0.2.length 0 (y0.1.1,y0.1.2.1,s0.2.2)).bind fun (s5:Int×(List (Int×Int×List Int×List Int))×List (List Int))=>
 some (s5.1,s5.2.1,s5.2.2)) rows_.length 0 (d_.1,d_.2.1,a5)).bind fun (s6:Int×(List (Int×Int×List Int×List Int))×List (List Int))=>
 (jA (fun (k3:Nat) (s7:Int×(List (Int×Int×List Int×List Int))×List Int)=>
 (idxO s6.2.2 ((k3:Nat):Int)).bind fun a13=>
 (bV (s7.1,s7.2.1,d_.2.2.1,d_.2.2.2) a13).bind fun y3=>
 (xA s7.2.2 [y3.2]).bind fun a14=>
 some (y3.1.1,y3.1.2.1,a14)) s6.2.2.length 0 (s6.1,s6.2.1,([]:List Int))).bind fun (s8:Int×(List (Int×Int×List Int×List Int))×List Int)=>
 some ((s8.1,s8.2.1,d_.2.2.1,d_.2.2.2),s8.2.2)
def qU (list_:List Int) (n_:Int):Option Bool:=
 (some (!decide (((list_.length:Nat):Int)=n_))).bind fun a2=>
 cond a2
 (some false)
 ((cD n_ (false:Bool)).bind fun a5=>
 vC (uC (fun (k0:Nat) (s0:List Bool)=>
 (idxO list_ ((k0:Nat):Int)).bind fun a0=>
 ((subO n_ 1).bind fun a1=>
 (yE a0 0 a1).bind fun y0=>
 (some (!y0)).bind fun a3=>
 cond a3
 (some true)
 ((idxO s0 a0).bind fun a4=>
 some a4)).bind fun (s1:Bool)=>
 cond s1
 (some (.inr false))
 ((iA s0 a0 true).bind fun a6=>
 some (.inl a6))) list_.length 0 a5) fun (s2:List Bool)=>
 some true)
def jV (n_:Int) (lists_:List (List Int)):Option Bool:=
 (xD lists_).bind fun y2=>
 (qU y2 n_).bind fun y7=>
 some y7
def cU (g_:Int×(List (Int×Int×List Int×List Int))×List Int×List Int):Option Bool:=
 (uM (g_.1,g_.2.1,g_.2.2.1,g_.2.2.2)).bind fun y7=>
 (some (!y7)).bind fun a0=>
 cond a0
 (some false)
 ((some ([g_.2.2.1],[g_.2.2.2])).bind fun (s0:List (List Int)×List (List Int))=>
 (jA (fun (k0:Nat) (s1:List (List Int)×List (List Int))=>
 (idxO g_.2.1 ((k0:Nat):Int)).bind fun a1=>
 (xA s1.1 [a1.2.2.2]).bind fun a2=>
 (xA s1.2 [a1.2.2.1]).bind fun a3=>
 some (a2,a3)) g_.2.1.length 0 (s0.1,s0.2)).bind fun (s2:List (List Int)×List (List Int))=>
 ((jV g_.1 s2.1).bind fun y0=>
 cond y0
 ((jV g_.1 s2.2).bind fun y1=>
 some y1)
 (some false)).bind fun (s3:Bool)=>
 some s3)
def cL (a_:Int) (n_:Int):Option (List Int):=
 (aH n_).bind fun y1=>
 (jA (fun (k6:Nat) (s0:List Int)=>
 (iA s0 ((k6:Nat):Int) a_).bind fun a0=>
 some a0) y1.length 0 y1).bind fun (s1:List Int)=>
 some s1
def lV (g_:Int×(List (Int×Int×List Int×List Int))×List Int×List Int):Option (List Int×List Int):=
 ((cL (-1) g_.1).bind fun y0=>
 (cL (-1) g_.1).bind fun y1=>
 some (y0,y1)).bind fun (s0:List Int×List Int)=>
 (jA (fun (k0:Nat) (s1:List Int×List Int)=>
 (idxO g_.2.1 ((k0:Nat):Int)).bind fun a0=>
 (jA (fun (k1:Nat) (s2:List Int)=>
 (idxO a0.2.2.2 ((k1:Nat):Int)).bind fun a1=>
 (iA s2 a1 ((k0:Nat):Int)).bind fun a2=>
 some a2) a0.2.2.2.length 0 s1.1).bind fun (s3:List Int)=>
 (jA (fun (k2:Nat) (s4:List Int)=>
 (idxO a0.2.2.1 ((k2:Nat):Int)).bind fun a3=>
 (iA s4 a3 ((k0:Nat):Int)).bind fun a4=>
 some a4) a0.2.2.1.length 0 s1.2).bind fun (s5:List Int)=>
 some (s3,s5)) g_.2.1.length 0 (s0.1,s0.2)).bind fun (s6:List Int×List Int)=>
 some (s6.1,s6.2)
def zZ (g_:Int×(List (Int×Int×List Int×List Int))×List Int×List Int):Option ((Int×(List (Int×Int×List Int×List Int))×List Int×List Int)×(List Int×List Int)×MI×MI×List Int×List Int):=
 ((lV (g_.1,g_.2.1,g_.2.2.1,g_.2.2.2)).bind fun y0=>
 some (g_.1,y0.1,y0.2,(⟨[]⟩:MI),(⟨[]⟩:MI))).bind fun (s0:Int×List Int×List Int×MI×MI)=>
 some ((s0.1,g_.2.1,g_.2.2.1,g_.2.2.2),(s0.2.1,s0.2.2.1),s0.2.2.2.1,s0.2.2.2.2,[],[])
def zK (k_:(Int×(List (Int×Int×List Int×List Int))×List Int×List Int)×(List Int×List Int)×MI×MI×List Int×List Int) (w_:Int):Option ((Int×(List (Int×Int×List Int×List Int))×List Int×List Int)×(List Int×List Int)×MI×MI×List Int×List Int):=
 (some (lJ k_.2.2.1 w_)).bind fun a4=>
 (some (!a4)).bind fun a6=>
 cond a6
 ((xA k_.2.2.2.2.1 [w_]).bind fun a0=>
 some ((k_.1.1,k_.1.2.1,k_.1.2.2.1,k_.1.2.2.2),(k_.2.1.1,k_.2.1.2),(lH k_.2.2.1 w_ ((k_.2.2.1.kvs.length:Nat):Int)),k_.2.2.2.1,a0,k_.2.2.2.2.2))
 (some ((k_.1.1,k_.1.2.1,k_.1.2.2.1,k_.1.2.2.2),(k_.2.1.1,k_.2.1.2),k_.2.2.1,k_.2.2.2.1,k_.2.2.2.2.1,k_.2.2.2.2.2))
def aL (k_:(Int×(List (Int×Int×List Int×List Int))×List Int×List Int)×(List Int×List Int)×MI×MI×List Int×List Int) (e_:Int):Option ((Int×(List (Int×Int×List Int×List Int))×List Int×List Int)×(List Int×List Int)×MI×MI×List Int×List Int):=
 (some (decide (e_<0))).bind fun a0=>
 cond a0
 (some ((k_.1.1,k_.1.2.1,k_.1.2.2.1,k_.1.2.2.2),(k_.2.1.1,k_.2.1.2),k_.2.2.1,k_.2.2.2.1,k_.2.2.2.2.1,k_.2.2.2.2.2))
 ((some (lJ k_.2.2.2.1 e_)).bind fun a1=>
 cond a1
 (some ((k_.1.1,k_.1.2.1,k_.1.2.2.1,k_.1.2.2.2),(k_.2.1.1,k_.2.1.2),k_.2.2.1,k_.2.2.2.1,k_.2.2.2.2.1,k_.2.2.2.2.2))
 ((xA k_.2.2.2.2.2 [e_]).bind fun a2=>
 (idxO k_.1.2.1 e_).bind fun a3=>
 (idxO k_.1.2.1 e_).bind fun a4=>
 (xD [a3.2.2.1,a4.2.2.2]).bind fun y0=>
 (jA (fun (k0:Nat) (s0:Int×MI×List Int)=>
 (idxO y0 ((k0:Nat):Int)).bind fun a5=>
 (zK ((s0.1,k_.1.2.1,k_.1.2.2.1,k_.1.2.2.2),(k_.2.1.1,k_.2.1.2),s0.2.1,(lH k_.2.2.2.1 e_ ((k_.2.2.2.1.kvs.length:Nat):Int)),s0.2.2,a2) a5).bind fun y1=>
 some (y1.1.1,y1.2.2.1,y1.2.2.2.2.1)) y0.length 0 (k_.1.1,k_.2.2.1,k_.2.2.2.2.1)).bind fun (s1:Int×MI×List Int)=>
 some ((s1.1,k_.1.2.1,k_.1.2.2.1,k_.1.2.2.2),(k_.2.1.1,k_.2.1.2),s1.2.1,(lH k_.2.2.2.1 e_ ((k_.2.2.2.1.kvs.length:Nat):Int)),s1.2.2,a2)))
def xU (k_:(Int×(List (Int×Int×List Int×List Int))×List Int×List Int)×(List Int×List Int)×MI×MI×List Int×List Int):Option ((Int×(List (Int×Int×List Int×List Int))×List Int×List Int)×(List Int×List Int)×MI×MI×List Int×List Int):=
 tB (fun (s0:Int×MI×MI×List Int×List Int)=>
 (some (decide ((0:Int)<((s0.2.2.2.1.length:Nat):Int)))).bind fun a0=>
 cond a0
 ((idxO s0.2.2.2.1 0).bind fun a1=>
 (gC s0.2.2.2.1 1 ((s0.2.2.2.1.length:Nat):Int)).bind fun a2=>
 (idxO k_.2.1.2 a1).bind fun a3=>
 (aL ((s0.1,k_.1.2.1,k_.1.2.2.1,k_.1.2.2.2),(k_.2.1.1,k_.2.1.2),s0.2.1,s0.2.2.1,a2,s0.2.2.2.2) a3).bind fun y0=>
 (idxO k_.2.1.1 a1).bind fun a4=>
 (aL ((y0.1.1,k_.1.2.1,k_.1.2.2.1,k_.1.2.2.2),(k_.2.1.1,k_.2.1.2),y0.2.2.1,y0.2.2.2.1,y0.2.2.2.2.1,y0.2.2.2.2.2) a4).bind fun y1=>
 some (.inl (y1.1.1,y1.2.2.1,y1.2.2.2.1,y1.2.2.2.2.1,y1.2.2.2.2.2)))
 (some (.inr ((s0.1,k_.1.2.1,k_.1.2.2.1,k_.1.2.2.2),(k_.2.1.1,k_.2.1.2),s0.2.1,s0.2.2.1,s0.2.2.2.1,s0.2.2.2.2)))) (k_.1.1,k_.2.2.1,k_.2.2.2.1,k_.2.2.2.2.1,k_.2.2.2.2.2)
def lU (g_:Int×(List (Int×Int×List Int×List Int))×List Int×List Int):Option ((Int×(List (Int×Int×List Int×List Int))×List Int×List Int)×(List Int×List Int)×MI×MI×List Int×List Int):=
 (zZ (g_.1,g_.2.1,g_.2.2.1,g_.2.2.2)).bind fun y7=>
 (xD [g_.2.2.1,g_.2.2.2]).bind fun y0=>
 (jA (fun (k0:Nat) (s0:Int×MI×List Int)=>
 (idxO y0 ((k0:Nat):Int)).bind fun a0=>
 (zK ((s0.1,g_.2.1,g_.2.2.1,g_.2.2.2),(y7.2.1.1,y7.2.1.2),s0.2.1,y7.2.2.2.1,s0.2.2,y7.2.2.2.2.2) a0).bind fun y1=>
 some (y1.1.1,y1.2.2.1,y1.2.2.2.2.1)) y0.length 0 (y7.1.1,y7.2.2.1,y7.2.2.2.2.1)).bind fun (s1:Int×MI×List Int)=>
 (xU ((s1.1,g_.2.1,g_.2.2.1,g_.2.2.2),(y7.2.1.1,y7.2.1.2),s1.2.1,y7.2.2.2.1,s1.2.2,y7.2.2.2.2.2)).bind fun y2=>
 some ((y2.1.1,g_.2.1,g_.2.2.1,g_.2.2.2),(y7.2.1.1,y7.2.1.2),y2.2.2.1,y2.2.2.2.1,y2.2.2.2.2.1,y2.2.2.2.2.2)
def sW (n_:Int):Option (List Int):=
 (aH n_).bind fun y1=>
 (jA (fun (k6:Nat) (s0:List Int)=>
 (iA s0 ((k6:Nat):Int) ((k6:Nat):Int)).bind fun a0=>
 some a0) y1.length 0 y1).bind fun (s1:List Int)=>
 some s1
def xK (c_:List Int) (w_:Int):Option Int:=
 (tB (fun (s0:Int)=>
 (idxO c_ s0).bind fun a0=>
 (some (!decide (a0=s0))).bind fun a1=>
 cond a1
 ((idxO c_ s0).bind fun a2=>
 some (.inl a2))
 (some (.inr s0))) w_).bind fun (s1:Int)=>
 some s1
def yK (c_:List Int) (v_:Int) (w_:Int):Option (List Int):=
 (xK c_ v_).bind fun y2=>
 (xK c_ w_).bind fun y5=>
 (some (mM y2 y5)).bind fun a8=>
 (some (lM y2 y5)).bind fun a0=>
 (iA c_ a8 a0).bind fun a1=>
 some a1
def fU (g_:Int×(List (Int×Int×List Int×List Int))×List Int×List Int):Option (List Int×Int):=
 (sW g_.1).bind fun y7=>
 (jA (fun (k0:Nat) (s0:List Int)=>
 (idxO g_.2.1 ((k0:Nat):Int)).bind fun a0=>
 (xD [a0.2.2.1,a0.2.2.2]).bind fun y0=>
 (jA (fun (k1:Nat) (s1:List Int)=>
 (idxO y0 ((k1:Nat):Int)).bind fun a1=>
 (idxO y0 0).bind fun a2=>
 (yK s1 a2 a1).bind fun y1=>
 some y1) y0.length 0 s0).bind fun (s2:List Int)=>
 some s2) g_.2.1.length 0 y7).bind fun (s3:List Int)=>
 (aH g_.1).bind fun y2=>
 (jA (fun (k2:Nat) (s4:List Int×Int)=>
 ((xK s3 ((k2:Nat):Int)).bind fun y3=>
 (some (decide (y3<((k2:Nat):Int)))).bind fun a3=>
 cond a3
 ((idxO s4.1 y3).bind fun a4=>
 (iA s4.1 ((k2:Nat):Int) a4).bind fun a5=>
 some (a5,s4.2))
 ((iA s4.1 ((k2:Nat):Int) s4.2).bind fun a6=>
 (uA s4.2 1).bind fun a7=>
 some (a6,a7))).bind fun (s5:List Int×Int)=>
 some (s5.1,s5.2)) y2.length 0 (y2,0)).bind fun (s6:List Int×Int)=>
 some (s6.1,s6.2)
def dU (g_:Int×(List (Int×Int×List Int×List Int))×List Int×List Int) (open_:(Int×(List (Int×Int×List Int×List Int))×List Int×List Int)×(List Int×List Int)×MI×MI×List Int×List Int):Option (List Int):=
 (fU g_).bind fun y=>
 (jA (fun (k:Nat) (s:List Int)=>
 (idxO g_.2.1 ((k:Nat):Int)).bind fun e=>
 (xD [e.2.2.1,e.2.2.2]).bind fun j=>
 (idxO j 0).bind fun a=>
 (idxO y.1 a).bind fun c=>
 some (s++[c])) g_.2.1.length 0 ([]:List Int)).bind fun (cs:List Int)=>
 cond (decide (g_.2.1.length≤aB)&&open_.2.2.1.kvs.all (fun p=>(idxO y.1 p.1).isSome)&&cs.all (fun c=>open_.2.2.1.kvs.any fun p=>decide (idxO y.1 p.1=some c)))
 (some [])
 none
def aU (k_:(Int×(List (Int×Int×List Int×List Int))×List Int×List Int)×(List Int×List Int)×MI×MI×List Int×List Int) (c0_:Int) (c1_:List Int) (c2_:Int) (c3_:List Int):Option (Int×List Int×Int×List Int):=
 ((kvO (fun (s0:List Int) (k0 v0:Int)=>
 (uA c0_ v0).bind fun a0=>
 (iA s0 k0 a0).bind fun a1=>
 some a1) k_.2.2.1.kvs c1_).bind fun (s1:List Int)=>
 some s1).bind fun (s2:List Int)=>
 ((kvO (fun (s3:List Int) (k1 v1:Int)=>
 (uA c2_ v1).bind fun a2=>
 (iA s3 k1 a2).bind fun a3=>
 some a3) k_.2.2.2.1.kvs c3_).bind fun (s4:List Int)=>
 some s4).bind fun (s5:List Int)=>
 (uA c0_ ((k_.2.2.1.kvs.length:Nat):Int)).bind fun a4=>
 (uA c2_ ((k_.2.2.2.1.kvs.length:Nat):Int)).bind fun a5=>
 some (a4,s2,a5,s5)
def bU (g_:Int×(List (Int×Int×List Int×List Int))×List Int×List Int):Option (List Int×List Int):=
 (lU (g_.1,g_.2.1,g_.2.2.1,g_.2.2.2)).bind fun y7=>
 ((cL (-1) g_.1).bind fun y0=>
 (cL (-1) ((g_.2.1.length:Nat):Int)).bind fun y1=>
 some (y0,y1)).bind fun (s0:List Int×List Int)=>
 (aU ((y7.1.1,g_.2.1,g_.2.2.1,g_.2.2.2),(y7.2.1.1,y7.2.1.2),y7.2.2.1,y7.2.2.2.1,y7.2.2.2.2.1,y7.2.2.2.2.2) 0 s0.1 0 s0.2).bind fun y2=>
 (dU (g_.1,g_.2.1,g_.2.2.1,g_.2.2.2) ((y7.1.1,g_.2.1,g_.2.2.1,g_.2.2.2),(y7.2.1.1,y7.2.1.2),y7.2.2.1,y7.2.2.2.1,y7.2.2.2.2.1,y7.2.2.2.2.2)).bind fun y3=>
 (jA (fun (k0:Nat) (_:Unit)=>
 none) y3.length 0 ()).bind fun (_:Unit)=>
 some (y2.2.1,y2.2.2.2)
def eL (list_:List Int) (to_:List Int):Option (List Int):=
 (gN to_ list_).bind fun y3=>
 some y3
def dV (g_:Int×(List (Int×Int×List Int×List Int))×List Int×List Int) (count_:Int) (to_:List Int):Option (Int×(List (Int×Int×List Int×List Int))×List Int×List Int):=
 ((eL g_.2.2.1 to_).bind fun y0=>
 (eL g_.2.2.2 to_).bind fun y1=>
 some (count_,y0,y1)).bind fun (s0:Int×List Int×List Int)=>
 (jA (fun (k0:Nat) (s1:List (Int×Int×List Int×List Int))=>
 (idxO g_.2.1 ((k0:Nat):Int)).bind fun a0=>
 (eL a0.2.2.1 to_).bind fun y2=>
 (eL a0.2.2.2 to_).bind fun y3=>
 (xA s1 [(a0.1,a0.2.1,y2,y3)]).bind fun a1=>
 some a1) g_.2.1.length 0 []).bind fun (s2:List (Int×Int×List Int×List Int))=>
 some (s0.1,s2,s0.2.1,s0.2.2)
def eU (g_:Int×(List (Int×Int×List Int×List Int))×List Int×List Int) (wires_:List Int) (edges_:List Int):Option (Int×(List (Int×Int×List Int×List Int))×List Int×List Int):=
 (dV (g_.1,g_.2.1,g_.2.2.1,g_.2.2.2) g_.1 wires_).bind fun y0=>
 ((cD ((y0.2.1.length:Nat):Int) ((0,0,[],[]):Int×Int×List Int×List Int)).bind fun a0=>
 some (y0.1,a0)).bind fun (s0:Int×(List (Int×Int×List Int×List Int)))=>
 (jA (fun (k0:Nat) (s1:List (Int×Int×List Int×List Int))=>
 (idxO y0.2.1 ((k0:Nat):Int)).bind fun a1=>
 (idxO edges_ ((k0:Nat):Int)).bind fun a2=>
 (iA s1 a2 (a1.1,a1.2.1,a1.2.2.1,a1.2.2.2)).bind fun a3=>
 some a3) y0.2.1.length 0 s0.2).bind fun (s2:List (Int×Int×List Int×List Int))=>
 some (s0.1,s2,y0.2.2.1,y0.2.2.2)
def mP (g_:Int×(List (Int×Int×List Int×List Int))×List Int×List Int):Option (Int×(List (Int×Int×List Int×List Int))×List Int×List Int):=
 (bU (g_.1,g_.2.1,g_.2.2.1,g_.2.2.2)).bind fun y0=>
 (eU (g_.1,g_.2.1,g_.2.2.1,g_.2.2.2) y0.1 y0.2).bind fun y1=>
 some (y1.1,y1.2.1,y1.2.2.1,y1.2.2.2)
def jU (d_:(Int×(List (Int×Int×List Int×List Int))×List Int×List Int)):Option ((Int×(List (Int×Int×List Int×List Int))×List Int×List Int)×Bool):=
 (cU (d_.1,d_.2.1,d_.2.2.1,d_.2.2.2)).bind fun y8=>
 (some (!y8)).bind fun a0=>
 cond a0
 (some ((0,[],[],[]),false))
 ((mP (d_.1,d_.2.1,d_.2.2.1,d_.2.2.2)).bind fun y0=>
 some ((y0.1,y0.2.1,y0.2.2.1,y0.2.2.2),true))
def pU (r_:Int×Int×List (List Int)):Option ((Int×(List (Int×Int×List Int×List Int))×List Int×List Int)×Bool):=
 ((some (decide ((12:Int)<r_.1))).bind fun a0=>
 cond a0
 (some true)
 ((some (decide ((12:Int)<r_.2.1))).bind fun a1=>
 some a1)).bind fun (s0:Bool)=>
 cond s0
 (some ((0,[],[],[]),false))
 ((sM (0,[],[],[]) ((r_.2.2.length:Nat):Int)).bind fun y0=>
 (jA (fun (k0:Nat) (s1:Int×(List (Int×Int×List Int×List Int)))=>
 (idxO y0.2 ((k0:Nat):Int)).bind fun a2=>
 (qE (s1.1,s1.2,[],[]) 10 0 [] [a2]).bind fun y1=>
 some (y1.1,y1.2.1)) y0.2.length 0 (y0.1.1,[])).bind fun (s2:Int×(List (Int×Int×List Int×List Int)))=>
 (tM (r_.1,r_.2.1,r_.2.2)).bind fun y2=>
 (iU (s2.1,s2.2,[],[]) y0.2 r_.2.2 y2).bind fun y3=>
 (gC y3.2 0 r_.1).bind fun a3=>
 (jA (fun (k1:Nat) (s3:Int×(List (Int×Int×List Int×List Int))×List Int)=>
 (idxO a3 ((k1:Nat):Int)).bind fun a4=>
 (dG (s3.1,s3.2.1,s3.2.2,[])).bind fun y4=>
 (dG (y4.1.1,s3.2.1,s3.2.2,[])).bind fun y5=>
 (xA s3.2.2 [y4.2]).bind fun a5=>
 (qE (y5.1.1,s3.2.1,a5,[]) 9 0 [y4.2,a4] [y5.2]).bind fun y6=>
 (qE (y6.1,y6.2.1,a5,[]) 4 0 [y5.2] []).bind fun y7=>
 some (y7.1,y7.2.1,a5)) a3.length 0 (y3.1.1,y3.1.2.1,[])).bind fun (s4:Int×(List (Int×Int×List Int×List Int))×List Int)=>
 (gC y3.2 r_.1 ((y3.2.length:Nat):Int)).bind fun a6=>
 (jU (s4.1,s4.2.1,s4.2.2,a6)).bind fun y8=>
 some ((y8.1.1,y8.1.2.1,y8.1.2.2.1,y8.1.2.2.2),y8.2))
def vK (s1_:List Int) (s2_:List Int):Option Bool:=
 (some (!decide (((s1_.length:Nat):Int)=((s2_.length:Nat):Int)))).bind fun a3=>
 cond a3
 (some false)
 (vC (uC (fun (k6:Nat) (_:Unit)=>
 (idxO s1_ ((k6:Nat):Int)).bind fun a0=>
 (idxO s2_ ((k6:Nat):Int)).bind fun a1=>
 (some (!decide (a0=a1))).bind fun a2=>
 cond a2
 (some (.inr false))
 (some (.inl ()))) s1_.length 0 ()) fun (_:Unit)=>
 some true)
def kV (a_:Int×Int×List Int×List Int) (b_:Int×Int×List Int×List Int):Option Bool:=
 ((some (decide (a_.1=b_.1))).bind fun a0=>
 cond a0
 ((some (decide (a_.2.1=b_.2.1))).bind fun a1=>
 cond a1
 ((vK a_.2.2.1 b_.2.2.1).bind fun y0=>
 cond y0
 ((vK a_.2.2.2 b_.2.2.2).bind fun y1=>
 some y1)
 (some false))
 (some false))
 (some false)).bind fun (s0:Bool)=>
 some s0
def eZ (s1_:List (Int×Int×List Int×List Int)) (s2_:List (Int×Int×List Int×List Int)):Option Bool:=
 (some (!decide (((s1_.length:Nat):Int)=((s2_.length:Nat):Int)))).bind fun a3=>
 cond a3
 (some false)
 (vC (uC (fun (k6:Nat) (_:Unit)=>
 (idxO s1_ ((k6:Nat):Int)).bind fun a0=>
 (idxO s2_ ((k6:Nat):Int)).bind fun a1=>
 (kV (a0.1,a0.2.1,a0.2.2.1,a0.2.2.2) (a1.1,a1.2.1,a1.2.2.1,a1.2.2.2)).bind fun y0=>
 (some (!y0)).bind fun a2=>
 cond a2
 (some (.inr false))
 (some (.inl ()))) s1_.length 0 ()) fun (_:Unit)=>
 some true)
def aV (a_:Int×(List (Int×Int×List Int×List Int))×List Int×List Int) (b_:Int×(List (Int×Int×List Int×List Int))×List Int×List Int):Option Bool:=
 ((some (decide (a_.1=b_.1))).bind fun a0=>
 cond a0
 ((vK a_.2.2.1 b_.2.2.1).bind fun y0=>
 cond y0
 ((vK a_.2.2.2 b_.2.2.2).bind fun y1=>
 cond y1
 ((eZ a_.2.1 b_.2.1).bind fun y2=>
 some y2)
 (some false))
 (some false))
 (some false)).bind fun (s0:Bool)=>
 some s0
def qP (p_:Int) (g_:Int×(List (Int×Int×List Int×List Int))×List Int×List Int):Option (Bool×Bool):=
 (mU (g_.1,g_.2.1,g_.2.2.1,g_.2.2.2) p_).bind fun y8=>
 (some (!y8)).bind fun a0=>
 cond a0
 (some (false,false))
 ((cV p_ (g_.1,g_.2.1,g_.2.2.1,g_.2.2.2)).bind fun y0=>
 (pU (y0.1,y0.2.1,y0.2.2)).bind fun y1=>
 (cond y1.2
 ((aV (y1.1.1,y1.1.2.1,y1.1.2.2.1,y1.1.2.2.2) (g_.1,g_.2.1,g_.2.2.1,g_.2.2.2)).bind fun y2=>
 some (y2,true))
 (some (false,true))).bind fun (s0:Bool×Bool)=>
 some (s0.1,s0.2))
def vJ (a_:List Int) (b_:List Int):Option Bool:=
 (some (!decide (((a_.length:Nat):Int)=((b_.length:Nat):Int)))).bind fun a3=>
 cond a3
 (some false)
 (vC (tB (fun (s0:Int)=>
 (some (decide (s0<((a_.length:Nat):Int)))).bind fun a0=>
 cond a0
 ((idxO a_ s0).bind fun a1=>
 (idxO b_ s0).bind fun a2=>
 (some (!decide (a1=a2))).bind fun a4=>
 cond a4
 (some (.inr (.inr false)))
 ((uA s0 1).bind fun a5=>
 some (.inl a5)))
 (some (.inr (.inl ())))) 0) fun (s1:Unit)=>
 some true)
def iW (a_:Int×Int×List Int×List Int) (b_:Int×Int×List Int×List Int):Option Bool:=
 (some (!decide (a_.1=b_.1))).bind fun a0=>
 cond a0
 (some false)
 ((some (!decide (a_.2.1=b_.2.1))).bind fun a1=>
 cond a1
 (some false)
 ((vJ a_.2.2.1 b_.2.2.1).bind fun y0=>
 (some (!y0)).bind fun a2=>
 cond a2
 (some false)
 ((vJ a_.2.2.2 b_.2.2.2).bind fun y1=>
 (some (!y1)).bind fun a3=>
 cond a3
 (some false)
 (some true))))
def zV (a_:List (Int×Int×List Int×List Int)) (b_:List (Int×Int×List Int×List Int)):Option Bool:=
 (some (!decide (((a_.length:Nat):Int)=((b_.length:Nat):Int)))).bind fun a3=>
 cond a3
 (some false)
 (vC (tB (fun (s0:Int)=>
 (some (decide (s0<((a_.length:Nat):Int)))).bind fun a0=>
 cond a0
 ((idxO a_ s0).bind fun a1=>
 (idxO b_ s0).bind fun a2=>
 (iW (a1.1,a1.2.1,a1.2.2.1,a1.2.2.2) (a2.1,a2.2.1,a2.2.2.1,a2.2.2.2)).bind fun y0=>
 (some (!y0)).bind fun a4=>
 cond a4
 (some (.inr (.inr false)))
 ((uA s0 1).bind fun a5=>
 some (.inl a5)))
 (some (.inr (.inl ())))) 0) fun (s1:Unit)=>
 some true)
def yV (a_:Int×(List (Int×Int×List Int×List Int))×List Int×List Int) (b_:Int×(List (Int×Int×List Int×List Int))×List Int×List Int):Option Bool:=
 (some (!decide (a_.1=b_.1))).bind fun a0=>
 cond a0
 (some false)
 ((zV a_.2.1 b_.2.1).bind fun y0=>
 (some (!y0)).bind fun a1=>
 cond a1
 (some false)
 ((vJ a_.2.2.1 b_.2.2.1).bind fun y1=>
 (some (!y1)).bind fun a2=>
 cond a2
 (some false)
 ((vJ a_.2.2.2 b_.2.2.2).bind fun y2=>
 (some (!y2)).bind fun a3=>
 cond a3
 (some false)
 (some true))))
def fZ (aP_:Int) (aG_:Int×(List (Int×Int×List Int×List Int))×List Int×List Int):Option Bool:=
 (wV (aG_.1,aG_.2.1,aG_.2.2.1,aG_.2.2.2) 1048576).bind fun y8=>
 (some (decide (y8<0))).bind fun a0=>
 cond a0
 (some true)
 ((dN (aG_.1,aG_.2.1,aG_.2.2.1,aG_.2.2.2)).bind fun y0=>
 (nP aP_ (y0.1,y0.2.1,y0.2.2.1,y0.2.2.2)).bind fun y1=>
 (dN (aG_.1,aG_.2.1,aG_.2.2.1,aG_.2.2.2)).bind fun y2=>
 (qP aP_ (y2.1,y2.2.1,y2.2.2.1,y2.2.2.2)).bind fun y3=>
 ((some (!decide (y3.1=y1.1))).bind fun a1=>
 cond a1
 (some true)
 ((some (!decide (y3.2=y1.2))).bind fun a2=>
 some a2)).bind fun (s0:Bool)=>
 cond s0
 (some false)
 ((dN (aG_.1,aG_.2.1,aG_.2.2.1,aG_.2.2.2)).bind fun y4=>
 (yV (y2.1,y2.2.1,y2.2.2.1,y2.2.2.2) (y4.1,y4.2.1,y4.2.2.1,y4.2.2.2)).bind fun y5=>
 (some (!y5)).bind fun a3=>
 cond a3
 (some false)
 (some true)))
end
end Go.Proofs.YtngbmcbigcaapaaGreatDoor
