/-
 Partial functions, printed by a program (wip/y/gen.py): what each function of Go computes, over plain data. No program in sight. No condition.
-/
import Derived.Test.YtemcakhocdchiaaGreatDoorZF
namespace Go.Proofs.YtemcakhocdchiaaGreatDoor
set_option linter.unusedVariables false
noncomputable section
def qZ (a_:Int×Int×ByteArray) (left_:Int):Option Int:=
 (subO left_ ((a_.2.2.size:Nat):Int)).bind fun a4=>
 (some (decide (a4<0))).bind fun a6=>
 cond a6
 (some (-1))
 (some a4)
def gZ (a_:List (Int×Int×ByteArray)) (left_:Int):Option Int:=
 (subO left_ ((a_.length:Nat):Int)).bind fun a2=>
 (some (decide (a2<0))).bind fun a4=>
 cond a4
 (some (-1))
 (uB (nB (fun (s0:Int×Int)=>
 (some (decide (s0.2<((a_.length:Nat):Int)))).bind fun a0=>
 cond a0
 ((idxO a_ s0.2).bind fun a1=>
 (qZ (a1.1,a1.2.1,a1.2.2) s0.1).bind fun y0=>
 (some (decide (y0<0))).bind fun a3=>
 cond a3
 (some (.inr (.inr (-1))))
 ((mA s0.2 1).bind fun a5=>
 some (.inl (y0,a5))))
 (some (.inr (.inl s0.1)))) (a2,0)) fun (s1:Int)=>
 some s1)
def pZ (a_:(List (Int×Int×ByteArray))) (left_:Int):Option Int:=
 (gZ a_ left_).bind fun y5=>
 (some (decide (y5<0))).bind fun a8=>
 cond a8
 (some (-1))
 (some y5)
def fZ (a_:List (List (Int×Int×ByteArray))) (left_:Int):Option Int:=
 (subO left_ ((a_.length:Nat):Int)).bind fun a2=>
 (some (decide (a2<0))).bind fun a4=>
 cond a4
 (some (-1))
 (uB (nB (fun (s0:Int×Int)=>
 (some (decide (s0.2<((a_.length:Nat):Int)))).bind fun a0=>
 cond a0
 ((idxO a_ s0.2).bind fun a1=>
 (pZ a1 s0.1).bind fun y0=>
 (some (decide (y0<0))).bind fun a3=>
 cond a3
 (some (.inr (.inr (-1))))
 ((mA s0.2 1).bind fun a5=>
 some (.inl (y0,a5))))
 (some (.inr (.inl s0.1)))) (a2,0)) fun (s1:Int)=>
 some s1)
def oZ (a_:Int×Int×ByteArray):Option (Int×Int×ByteArray):=
 some (a_.1,a_.2.1,a_.2.2)
def eZ (a_:List (Int×Int×ByteArray)):Option (List (Int×Int×ByteArray)):=
 (aD ((a_.length:Nat):Int) ((0,0,.empty):Int×Int×ByteArray)).bind fun a2=>
 (nB (fun (s0:(List (Int×Int×ByteArray))×Int)=>
 (some (decide (s0.2<((a_.length:Nat):Int)))).bind fun a0=>
 cond a0
 ((idxO a_ s0.2).bind fun a1=>
 (oZ (a1.1,a1.2.1,a1.2.2)).bind fun y0=>
 (setO s0.1 s0.2 (y0.1,y0.2.1,y0.2.2)).bind fun a3=>
 (mA s0.2 1).bind fun a4=>
 some (.inl (a3,a4)))
 (some (.inr s0.1))) (a2,0)).bind fun (s1:List (Int×Int×ByteArray))=>
 some s1
def nZ (a_:(List (Int×Int×ByteArray))):Option (List (Int×Int×ByteArray)):=
 (eZ a_).bind fun y0=>
 some y0
def xN (a_:List (List (Int×Int×ByteArray))):Option (List (List (Int×Int×ByteArray))):=
 (aD ((a_.length:Nat):Int) ([]:(List (Int×Int×ByteArray)))).bind fun a2=>
 (nB (fun (s0:(List (List (Int×Int×ByteArray)))×Int)=>
 (some (decide (s0.2<((a_.length:Nat):Int)))).bind fun a0=>
 cond a0
 ((idxO a_ s0.2).bind fun a1=>
 (nZ a1).bind fun y0=>
 (setO s0.1 s0.2 y0).bind fun a3=>
 (mA s0.2 1).bind fun a4=>
 some (.inl (a3,a4)))
 (some (.inr s0.1))) (a2,0)).bind fun (s1:List (List (Int×Int×ByteArray)))=>
 some s1
def lH (n_:Int) (lo_:Int) (hi_:Int):Option Bool:=
 ((some (decide (lo_≤n_))).bind fun a0=>
 cond a0
 ((some (decide (n_≤hi_))).bind fun a1=>
 some a1)
 (some false)).bind fun (s7:Bool)=>
 some s7
def kH (n_:Int×Int×ByteArray):Option Bool:=
 ((some (!decide ((n_.2.2:ByteArray)=.empty))).bind fun a0=>
 cond a0
 (some true)
 ((lH n_.1 1 14).bind fun y0=>
 (some (!y0)).bind fun a1=>
 some a1)).bind fun (s0:Bool)=>
 cond s0
 (some false)
 ((some (decide (n_.1=1))).bind fun a2=>
 cond a2
 ((lH n_.2.1 0 12).bind fun y1=>
 some y1)
 (((some (decide (n_.1=7))).bind fun a3=>
 cond a3
 (some true)
 ((some (decide (n_.1=13))).bind fun a4=>
 some a4)).bind fun (s1:Bool)=>
 cond s1
 ((lH n_.2.1 0 96).bind fun y2=>
 some y2)
 ((some (decide (n_.2.1=0))).bind fun a5=>
 some a5)))
def zN (kind_:Int):Option (Int×Int):=
 (some (decide (kind_=2))).bind fun a1=>
 cond a1
 (some (2,2))
 (((some (decide (kind_=3))).bind fun a0=>
 cond a0
 (some true)
 ((some (decide (kind_=11))).bind fun a2=>
 some a2)).bind fun (s0:Bool)=>
 cond s0
 (some (1,2))
 (((some (decide (kind_=4))).bind fun a3=>
 cond a3
 (some true)
 ((some (decide (kind_=12))).bind fun a4=>
 some a4)).bind fun (s1:Bool)=>
 cond s1
 (some (1,0))
 (((some (decide (kind_=5))).bind fun a5=>
 cond a5
 (some true)
 ((some (decide (kind_=9))).bind fun a6=>
 some a6)).bind fun (s2:Bool)=>
 cond s2
 (some (2,1))
 (((some (decide (kind_=6))).bind fun a7=>
 cond a7
 (some true)
 ((some (decide (kind_=10))).bind fun a8=>
 some a8)).bind fun (s3:Bool)=>
 cond s3
 (some (0,1))
 (some (1,1))))))
def fQ (n_:Int×Int×ByteArray):Option (Int×Int):=
 (some (decide (n_.1=1))).bind fun a4=>
 cond a4
 (some (n_.2.1,n_.2.1))
 ((zN n_.1).bind fun y7=>
 some (y7.1,y7.2))
def xT (lib_:List (ByteArray×Int×Int×(List (Int×Int×ByteArray)))) (name_:ByteArray):Option Int:=
 uB (dC (fun (k2:Nat) (_:Unit)=>
 (idxO lib_ ((k2:Nat):Int)).bind fun a0=>
 (some (decide ((a0.1:ByteArray)=name_))).bind fun a1=>
 cond a1
 (some (.inr ((k2:Nat):Int)))
 (some (.inl ()))) lib_.length 0 ()) fun (_:Unit)=>
 some (-1)
def wT (lib_:List (ByteArray×Int×Int×(List (Int×Int×ByteArray)))) (t_:(List (Int×Int×ByteArray))):Option ((List Int×List Int×List Int)×Bool):=
 (lH ((t_.length:Nat):Int) 1 400).bind fun y0=>
 (some (!y0)).bind fun a0=>
 cond a0
 (some (([],[],[]),false))
 (uB (dC (fun (k0:Nat) (s0:List Int×List Int×List Int)=>
 uB ((idxO t_ ((k0:Nat):Int)).bind fun a1=>
 ((kH (a1.1,a1.2.1,a1.2.2)).bind fun y1=>
 cond y1
 (some true)
 ((some (decide (a1.1=17))).bind fun a2=>
 some a2)).bind fun (s1:Bool)=>
 cond s1
 ((fQ (a1.1,a1.2.1,a1.2.2)).bind fun y2=>
 uB ((some (decide (a1.1=17))).bind fun a3=>
 cond a3
 ((xT lib_ a1.2.2).bind fun y3=>
 ((some (decide (y3<0))).bind fun a4=>
 cond a4
 (some true)
 ((some (!decide (a1.2.1=0))).bind fun a5=>
 some a5)).bind fun (s2:Bool)=>
 cond s2
 (some (.inr (.inr (.inr ((s0.1,s0.2.1,s0.2.2),false)))))
 ((idxO lib_ y3).bind fun a6=>
 (idxO lib_ y3).bind fun a7=>
 some (.inl (a7.2.2.1,a6.2.1))))
 (some (.inl (y2.2,y2.1)))) fun (s3:Int×Int)=>
 (nA s0.1 [((k0:Nat):Int)]).bind fun a8=>
 (nA s0.2.1 [s3.2]).bind fun a9=>
 (nA s0.2.2 [s3.1]).bind fun a10=>
 some (.inl (a8,a9,a10)))
 (((some (!decide (a1.1=15))).bind fun a11=>
 cond a11
 ((some (!decide (a1.1=16))).bind fun a12=>
 cond a12
 (some true)
 ((some (!decide ((a1.2.2:ByteArray)=.empty))).bind fun a13=>
 cond a13
 (some true)
 ((some (!decide (a1.2.1=0))).bind fun a14=>
 cond a14
 (some true)
 ((some (decide (((k0:Nat):Int)<2))).bind fun a16=>
 cond a16
 (some true)
 ((subO ((k0:Nat):Int) 1).bind fun a17=>
 (idxO s0.1 a17).bind fun a18=>
 (some (decide (a18<1))).bind fun a19=>
 some a19)))))
 ((some (!decide ((a1.2.2:ByteArray)=.empty))).bind fun a20=>
 cond a20
 (some true)
 ((some (!decide (a1.2.1=0))).bind fun a21=>
 cond a21
 (some true)
 ((some (decide (((k0:Nat):Int)<2))).bind fun a22=>
 cond a22
 (some true)
 ((subO ((k0:Nat):Int) 1).bind fun a23=>
 (idxO s0.1 a23).bind fun a24=>
 (some (decide (a24<1))).bind fun a25=>
 some a25))))).bind fun (s4:Bool)=>
 cond s4
 (some (.inr (.inr ((s0.1,s0.2.1,s0.2.2),false))))
 ((subO ((k0:Nat):Int) 1).bind fun a26=>
 (idxO s0.1 a26).bind fun a27=>
 (subO a27 1).bind fun a28=>
 (idxO s0.2.1 a28).bind fun a29=>
 (idxO s0.2.1 a26).bind fun a30=>
 (mA a29 a30).bind fun a31=>
 (idxO s0.2.2 a28).bind fun a32=>
 (idxO s0.2.2 a26).bind fun a33=>
 (mA a32 a33).bind fun a34=>
 uB ((some (decide (a1.1=15))).bind fun a35=>
 cond a35
 ((idxO s0.2.2 a28).bind fun a36=>
 (idxO s0.2.1 a26).bind fun a37=>
 (some (!decide (a36=a37))).bind fun a38=>
 cond a38
 (some (.inr (.inr (.inr ((s0.1,s0.2.1,s0.2.2),false)))))
 ((idxO s0.2.1 a28).bind fun a39=>
 (idxO s0.2.2 a26).bind fun a40=>
 some (.inl (a39,a40))))
 (some (.inl (a31,a34)))) fun (s5:Int×Int)=>
 ((some (decide ((12:Int)<s5.1))).bind fun a41=>
 cond a41
 (some true)
 ((some (decide ((12:Int)<s5.2))).bind fun a42=>
 some a42)).bind fun (s6:Bool)=>
 cond s6
 (some (.inr (.inr ((s0.1,s0.2.1,s0.2.2),false))))
 ((idxO s0.1 a28).bind fun a43=>
 (nA s0.1 [a43]).bind fun a44=>
 (nA s0.2.1 [s5.1]).bind fun a45=>
 (nA s0.2.2 [s5.2]).bind fun a46=>
 some (.inl (a44,a45,a46)))))) fun (s7:List Int×List Int×List Int)=>
 some (.inl (s7.1,s7.2.1,s7.2.2))) t_.length 0 ([],[],[])) fun (s8:List Int×List Int×List Int)=>
 (subO ((t_.length:Nat):Int) 1).bind fun a47=>
 (idxO s8.1 a47).bind fun a48=>
 (some (decide (a48=0))).bind fun a49=>
 some ((s8.1,s8.2.1,s8.2.2),a49))
def rT (t_:(List (Int×Int×ByteArray))):Option ((List Int×List Int×List Int)×Bool):=
 (wT [] t_).bind fun y9=>
 some ((y9.1.1,y9.1.2.1,y9.1.2.2),y9.2)
def oQ (p_:Int):Option Bool:=
 (lH p_ 2 97).bind fun y1=>
 (some (!y1)).bind fun a4=>
 cond a4
 (some false)
 (uB (nB (fun (s0:Int)=>
 (zF s0 s0).bind fun a0=>
 (some (decide (a0≤p_))).bind fun a1=>
 cond a1
 ((qD p_ s0).bind fun a2=>
 (some (decide (a2=0))).bind fun a3=>
 cond a3
 (some (.inr (.inr false)))
 ((mA s0 1).bind fun a5=>
 some (.inl a5)))
 (some (.inr (.inl ())))) 2) fun (s1:Unit)=>
 some true)
def sT (p_:Int) (t_:(List (Int×Int×ByteArray))):Option Bool:=
 (rT t_).bind fun y5=>
 ((some (!y5.2)).bind fun a0=>
 cond a0
 (some true)
 ((oQ p_).bind fun y0=>
 (some (!y0)).bind fun a1=>
 some a1)).bind fun (s0:Bool)=>
 cond s0
 (some false)
 (uB (dC (fun (k0:Nat) (_:Unit)=>
 (idxO t_ ((k0:Nat):Int)).bind fun a2=>
 ((some (decide (a2.1=7))).bind fun a3=>
 cond a3
 ((some (decide (p_≤a2.2.1))).bind fun a4=>
 some a4)
 ((some (decide (a2.1=13))).bind fun a5=>
 cond a5
 ((some (decide (p_≤a2.2.1))).bind fun a6=>
 some a6)
 (some false))).bind fun (s1:Bool)=>
 cond s1
 (some (.inr false))
 (some (.inl ()))) t_.length 0 ()) fun (_:Unit)=>
 some true)
def fU (t_:(List (Int×Int×ByteArray))):Option Int:=
 (subO ((t_.length:Nat):Int) 1).bind fun a5=>
 (idxO t_ a5).bind fun a0=>
 some a0.1
def Ab_ (n_:Int):Option (Int×(List (Int×Int×List Int×List Int))×List Int×List Int):=
 (nB (fun (s0:List Int×List Int×Int)=>
 (some (decide (s0.2.2<n_))).bind fun a0=>
 cond a0
 ((nA s0.1 [s0.2.2]).bind fun a1=>
 (nA s0.2.1 [s0.2.2]).bind fun a2=>
 (mA s0.2.2 1).bind fun a3=>
 some (.inl (a1,a2,a3)))
 (some (.inr (s0.1,s0.2.1)))) ([],[],0)).bind fun (s1:List Int×List Int)=>
 some (n_,[],s1.1,s1.2)
def nQ (x_:Int×Int×ByteArray):Option (Int×(List (Int×Int×List Int×List Int))×List Int×List Int):=
 (some (decide (x_.1=1))).bind fun a7=>
 cond a7
 ((Ab_ x_.2.1).bind fun y0=>
 some (y0.1,y0.2.1,y0.2.2.1,y0.2.2.2))
 ((some (decide (x_.1=2))).bind fun a0=>
 cond a0
 (some (2,[],[0,1],[1,0]))
 ((zN x_.1).bind fun y1=>
 (mA y1.1 y1.2).bind fun a1=>
 (nB (fun (s0:List Int×List Int×List Int×List Int×Int)=>
 (mA y1.1 y1.2).bind fun a2=>
 (some (decide (s0.2.2.2.2<a2))).bind fun a3=>
 cond a3
 ((some (decide (s0.2.2.2.2<y1.1))).bind fun a4=>
 cond a4
 ((nA s0.1 [s0.2.2.2.2]).bind fun a5=>
 (nA s0.2.2.1 [s0.2.2.2.2]).bind fun a6=>
 (mA s0.2.2.2.2 1).bind fun a8=>
 some (.inl (a5,s0.2.1,a6,s0.2.2.2.1,a8)))
 ((nA s0.2.1 [s0.2.2.2.2]).bind fun a9=>
 (nA s0.2.2.2.1 [s0.2.2.2.2]).bind fun a11=>
 (mA s0.2.2.2.2 1).bind fun a12=>
 some (.inl (s0.1,a9,s0.2.2.1,a11,a12))))
 (some (.inr (s0.1,s0.2.1,s0.2.2.1,s0.2.2.2.1)))) ([],[],[],[],0)).bind fun (s1:List Int×List Int×List Int×List Int)=>
 some (a1,[(x_.1,x_.2.1,s1.2.2.1,s1.2.2.2)],s1.1,s1.2.1)))
def gU (nodes_:List (Int×Int×ByteArray)):Option (List (Int×Int×ByteArray)):=
 (nA ([]:List (Int×Int×ByteArray)) nodes_).bind fun a8=>
 some a8
def bZ (t_:(List (Int×Int×ByteArray))):Option ((List (Int×Int×ByteArray))×(List (Int×Int×ByteArray))):=
 (rT t_).bind fun y0=>
 (subO ((t_.length:Nat):Int) 1).bind fun a0=>
 (subO a0 1).bind fun a1=>
 (idxO y0.1.1 a1).bind fun a2=>
 (dB t_ 0 a2).bind fun a3=>
 (dB t_ a2 a0).bind fun a4=>
 (gU a3).bind fun y1=>
 (gU a4).bind fun y2=>
 some (y1,y2)
def wJ (l_:List Int) (to_:List Int):Option (List Int):=
 (forS (fun (k3:Nat) (s0:List Int)=>
 (idxO l_ ((k3:Nat):Int)).bind fun a0=>
 (idxO to_ a0).bind fun a1=>
 (nA s0 [a1]).bind fun a2=>
 some a2) l_.length 0 []).bind fun (s1:List Int)=>
 some s1
def sQ (g_:Int×(List (Int×Int×List Int×List Int))×List Int×List Int) (to_:List Int) (wires_:Int):Option (Int×(List (Int×Int×List Int×List Int))×List Int×List Int):=
 ((wJ g_.2.2.1 to_).bind fun y0=>
 (wJ g_.2.2.2 to_).bind fun y1=>
 some (wires_,y0,y1)).bind fun (s0:Int×List Int×List Int)=>
 (forS (fun (k0:Nat) (s1:List (Int×Int×List Int×List Int))=>
 (idxO g_.2.1 ((k0:Nat):Int)).bind fun a0=>
 (wJ a0.2.2.1 to_).bind fun y2=>
 (wJ a0.2.2.2 to_).bind fun y3=>
 (nA s1 [(a0.1,a0.2.1,y2,y3)]).bind fun a1=>
 some a1) g_.2.1.length 0 []).bind fun (s2:List (Int×Int×List Int×List Int))=>
 some (s0.1,s2,s0.2.1,s0.2.2)
def iU (g_:Int×(List (Int×Int×List Int×List Int))×List Int×List Int):Option (Int×(List (Int×Int×List Int×List Int))×List Int×List Int):=
 (aD g_.1 (0:Int)).bind fun a0=>
 (forS (fun (k0:Nat) (s0:List Int)=>
 (setO s0 ((k0:Nat):Int) ((k0:Nat):Int)).bind fun a1=>
 some a1) a0.length 0 a0).bind fun (s1:List Int)=>
 (sQ (g_.1,g_.2.1,g_.2.2.1,g_.2.2.2) s1 g_.1).bind fun y0=>
 some (y0.1,y0.2.1,y0.2.2.1,y0.2.2.2)
def kT (a_:Int×(List (Int×Int×List Int×List Int))×List Int×List Int) (b_:Int×(List (Int×Int×List Int×List Int))×List Int×List Int):Option (Int×(List (Int×Int×List Int×List Int))×List Int×List Int):=
 (aD b_.1 (0:Int)).bind fun a0=>
 (forS (fun (k0:Nat) (s0:List Int)=>
 (mA ((k0:Nat):Int) a_.1).bind fun a1=>
 (setO s0 ((k0:Nat):Int) a1).bind fun a2=>
 some a2) a0.length 0 a0).bind fun (s1:List Int)=>
 (iU (a_.1,a_.2.1,a_.2.2.1,a_.2.2.2)).bind fun y0=>
 (sQ (b_.1,b_.2.1,b_.2.2.1,b_.2.2.2) s1 b_.1).bind fun y1=>
 (mA y0.1 b_.1).bind fun a3=>
 (nA y0.2.2.1 y1.2.2.1).bind fun a4=>
 (nA y0.2.2.2 y1.2.2.2).bind fun a5=>
 (nA y0.2.1 y1.2.1).bind fun a6=>
 some (a3,a6,a4,a5)
def yI (l_:List Int):Option (List Int):=
 (nA ([]:List Int) l_).bind fun a5=>
 some a5
def mQ (a_:Int) (b_:Int):Option Int:=
 (some (decide (b_<a_))).bind fun a1=>
 cond a1
 (some a_)
 (some b_)
def gQ (a_:Int) (b_:Int):Option Int:=
 (some (decide (a_<b_))).bind fun a1=>
 cond a1
 (some a_)
 (some b_)
def jT (g_:Int×(List (Int×Int×List Int×List Int))×List Int×List Int):Option (List Int×List Int):=
 (aD g_.1 (0:Int)).bind fun a7=>
 (aD g_.1 (0:Int)).bind fun a0=>
 (forS (fun (k0:Nat) (s0:List Int)=>
 (idxO g_.2.2.1 ((k0:Nat):Int)).bind fun a1=>
 (idxO s0 a1).bind fun a2=>
 (mA a2 1).bind fun a3=>
 (setO s0 a1 a3).bind fun a4=>
 some a4) g_.2.2.1.length 0 a7).bind fun (s1:List Int)=>
 (forS (fun (k1:Nat) (s2:List Int)=>
 (idxO g_.2.2.2 ((k1:Nat):Int)).bind fun a5=>
 (idxO s2 a5).bind fun a6=>
 (mA a6 1).bind fun a8=>
 (setO s2 a5 a8).bind fun a9=>
 some a9) g_.2.2.2.length 0 a0).bind fun (s3:List Int)=>
 (forS (fun (k2:Nat) (s4:List Int×List Int)=>
 (idxO g_.2.1 ((k2:Nat):Int)).bind fun a10=>
 (forS (fun (k3:Nat) (s5:List Int)=>
 (idxO a10.2.2.2 ((k3:Nat):Int)).bind fun a11=>
 (idxO s5 a11).bind fun a13=>
 (mA a13 1).bind fun a14=>
 (setO s5 a11 a14).bind fun a15=>
 some a15) a10.2.2.2.length 0 s4.1).bind fun (s6:List Int)=>
 (forS (fun (k4:Nat) (s7:List Int)=>
 (idxO a10.2.2.1 ((k4:Nat):Int)).bind fun a16=>
 (idxO s7 a16).bind fun a17=>
 (mA a17 1).bind fun a18=>
 (setO s7 a16 a18).bind fun a19=>
 some a19) a10.2.2.1.length 0 s4.2).bind fun (s8:List Int)=>
 some (s6,s8)) g_.2.1.length 0 (s1,s3)).bind fun (s9:List Int×List Int)=>
 some (s9.1,s9.2)
def cZ (g_:Int×(List (Int×Int×List Int×List Int))×List Int×List Int) (a_:List Int) (b_:List Int):Option ((Int×(List (Int×Int×List Int×List Int))×List Int×List Int)×List Int):=
 (aD g_.1 (0:Int)).bind fun a0=>
 (forS (fun (k0:Nat) (s0:List Int)=>
 (setO s0 ((k0:Nat):Int) ((k0:Nat):Int)).bind fun a1=>
 some a1) a0.length 0 a0).bind fun (s1:List Int)=>
 (forS (fun (k1:Nat) (s2:List Int)=>
 (idxO a_ ((k1:Nat):Int)).bind fun a2=>
 (idxO b_ ((k1:Nat):Int)).bind fun a3=>
 (idxO s2 a2).bind fun a4=>
 (idxO s2 a3).bind fun a5=>
 (forS (fun (k2:Nat) (s3:List Int)=>
 (idxO s3 ((k2:Nat):Int)).bind fun a6=>
 (mQ a4 a5).bind fun y0=>
 (some (decide (a6=y0))).bind fun a7=>
 cond a7
 ((gQ a4 a5).bind fun y1=>
 (setO s3 ((k2:Nat):Int) y1).bind fun a8=>
 some a8)
 (some s3)) s2.length 0 s2).bind fun (s4:List Int)=>
 some s4) a_.length 0 s1).bind fun (s5:List Int)=>
 (jT (g_.1,g_.2.1,g_.2.2.1,g_.2.2.2)).bind fun y2=>
 (aD g_.1 (false:Bool)).bind fun a9=>
 (forS (fun (k3:Nat) (s6:List Bool)=>
 (idxO s5 ((k3:Nat):Int)).bind fun a10=>
 (idxO y2.1 ((k3:Nat):Int)).bind fun a11=>
 (idxO y2.2 ((k3:Nat):Int)).bind fun a13=>
 (mA a11 a13).bind fun a14=>
 (some (decide ((0:Int)<a14))).bind fun a15=>
 cond a15
 ((setO s6 a10 true).bind fun a16=>
 some a16)
 (some s6)) s5.length 0 a9).bind fun (s7:List Bool)=>
 (aD g_.1 (0:Int)).bind fun a17=>
 (forS (fun (k4:Nat) (s8:List Int×Int)=>
 ((idxO s5 ((k4:Nat):Int)).bind fun a18=>
 (some (decide (a18=((k4:Nat):Int)))).bind fun a19=>
 cond a19
 ((idxO s7 ((k4:Nat):Int)).bind fun a20=>
 some a20)
 (some false)).bind fun (s9:Bool)=>
 cond s9
 ((setO s8.1 ((k4:Nat):Int) s8.2).bind fun a21=>
 (mA s8.2 1).bind fun a22=>
 some (a21,a22))
 (some (s8.1,s8.2))) a17.length 0 (a17,0)).bind fun (s10:List Int×Int)=>
 (forS (fun (k5:Nat) (s11:List Int)=>
 (idxO s5 ((k5:Nat):Int)).bind fun a23=>
 (idxO s11 a23).bind fun a24=>
 (setO s11 ((k5:Nat):Int) a24).bind fun a25=>
 (idxO s5 ((k5:Nat):Int)).bind fun a26=>
 (idxO s7 a26).bind fun a27=>
 (some (!a27)).bind fun a28=>
 cond a28
 ((setO a25 ((k5:Nat):Int) (-1)).bind fun a29=>
 some a29)
 (some a25)) s10.1.length 0 s10.1).bind fun (s12:List Int)=>
 (sQ (g_.1,g_.2.1,g_.2.2.1,g_.2.2.2) s12 s10.2).bind fun y3=>
 some ((y3.1,y3.2.1,y3.2.2.1,y3.2.2.2),s12)
def Co_ (g_:Int×(List (Int×Int×List Int×List Int))×List Int×List Int) (a_:List Int) (b_:List Int):Option (Int×(List (Int×Int×List Int×List Int))×List Int×List Int):=
 (cZ (g_.1,g_.2.1,g_.2.2.1,g_.2.2.2) a_ b_).bind fun y0=>
 some (y0.1.1,y0.1.2.1,y0.1.2.2.1,y0.1.2.2.2)
def hU (a_:Int×(List (Int×Int×List Int×List Int))×List Int×List Int) (b_:Int×(List (Int×Int×List Int×List Int))×List Int×List Int):Option (Int×(List (Int×Int×List Int×List Int))×List Int×List Int):=
 (kT (a_.1,a_.2.1,a_.2.2.1,a_.2.2.2) (b_.1,b_.2.1,b_.2.2.1,b_.2.2.2)).bind fun y0=>
 (dB y0.2.2.2 0 ((a_.2.2.2.length:Nat):Int)).bind fun a0=>
 (dB y0.2.2.1 ((a_.2.2.1.length:Nat):Int) ((y0.2.2.1.length:Nat):Int)).bind fun a1=>
 (yI a0).bind fun y1=>
 (yI a1).bind fun y2=>
 (dB y0.2.2.1 0 ((a_.2.2.1.length:Nat):Int)).bind fun a2=>
 (dB y0.2.2.2 ((a_.2.2.2.length:Nat):Int) ((y0.2.2.2.length:Nat):Int)).bind fun a3=>
 (Co_ (y0.1,y0.2.1,a2,a3) y1 y2).bind fun y3=>
 some (y3.1,y3.2.1,y3.2.2.1,y3.2.2.2)
def lL (l_:List Int) (lo_:Int) (hi_:Int):Option Bool:=
 uB (dC (fun (k2:Nat) (_:Unit)=>
 (idxO l_ ((k2:Nat):Int)).bind fun a0=>
 (lH a0 lo_ hi_).bind fun y0=>
 (some (!y0)).bind fun a1=>
 cond a1
 (some (.inr false))
 (some (.inl ()))) l_.length 0 ()) fun (_:Unit)=>
 some true
def zT (e_:Int×Int×List Int×List Int) (wires_:Int):Option Bool:=
 ((lH e_.1 3 14).bind fun y0=>
 (some (!y0)).bind fun a0=>
 cond a0
 (some true)
 ((kH (e_.1,e_.2.1,.empty)).bind fun y1=>
 (some (!y1)).bind fun a1=>
 some a1)).bind fun (s0:Bool)=>
 cond s0
 (some false)
 ((zN e_.1).bind fun y2=>
 ((some (decide (((e_.2.2.1.length:Nat):Int)=y2.1))).bind fun a2=>
 cond a2
 ((some (decide (((e_.2.2.2.length:Nat):Int)=y2.2))).bind fun a3=>
 cond a3
 ((subO wires_ 1).bind fun a4=>
 (lL e_.2.2.1 0 a4).bind fun y3=>
 cond y3
 ((subO wires_ 1).bind fun a5=>
 (lL e_.2.2.2 0 a5).bind fun y4=>
 some y4)
 (some false))
 (some false))
 (some false)).bind fun (s1:Bool)=>
 some s1)
def iQ (g_:Int×(List (Int×Int×List Int×List Int))×List Int×List Int):Option Bool:=
 ((lH g_.1 0 100).bind fun y0=>
 (some (!y0)).bind fun a0=>
 cond a0
 (some true)
 ((some (decide ((60:Int)<((g_.2.1.length:Nat):Int)))).bind fun a1=>
 cond a1
 (some true)
 ((some (decide ((12:Int)<((g_.2.2.1.length:Nat):Int)))).bind fun a2=>
 cond a2
 (some true)
 ((some (decide ((12:Int)<((g_.2.2.2.length:Nat):Int)))).bind fun a3=>
 cond a3
 (some true)
 ((subO g_.1 1).bind fun a4=>
 (lL g_.2.2.1 0 a4).bind fun y1=>
 (some (!y1)).bind fun a5=>
 cond a5
 (some true)
 ((subO g_.1 1).bind fun a6=>
 (lL g_.2.2.2 0 a6).bind fun y2=>
 (some (!y2)).bind fun a7=>
 some a7)))))).bind fun (s0:Bool)=>
 cond s0
 (some false)
 (uB (dC (fun (k0:Nat) (_:Unit)=>
 (idxO g_.2.1 ((k0:Nat):Int)).bind fun a8=>
 (zT (a8.1,a8.2.1,a8.2.2.1,a8.2.2.2) g_.1).bind fun y3=>
 (some (!y3)).bind fun a9=>
 cond a9
 (some (.inr false))
 (some (.inl ()))) g_.2.1.length 0 ()) fun (_:Unit)=>
 (jT (g_.1,g_.2.1,g_.2.2.1,g_.2.2.2)).bind fun y4=>
 uB (dC (fun (k1:Nat) (_:Unit)=>
 (idxO y4.1 ((k1:Nat):Int)).bind fun a10=>
 (idxO y4.2 ((k1:Nat):Int)).bind fun a11=>
 (mA a10 a11).bind fun a12=>
 (some (decide (a12=0))).bind fun a13=>
 cond a13
 (some (.inr false))
 (some (.inl ()))) y4.1.length 0 ()) fun (_:Unit)=>
 some true)
def pU (g_:Int×(List (Int×Int×List Int×List Int))×List Int×List Int):Option ((Int×(List (Int×Int×List Int×List Int))×List Int×List Int)×Bool):=
 (iQ (g_.1,g_.2.1,g_.2.2.1,g_.2.2.2)).bind fun y0=>
 (some (!y0)).bind fun a0=>
 cond a0
 (some ((0,[],[],[]),false))
 (some ((g_.1,g_.2.1,g_.2.2.1,g_.2.2.2),true))
def yZ (a_:Int×(List (Int×Int×List Int×List Int))×List Int×List Int) (b_:Int×(List (Int×Int×List Int×List Int))×List Int×List Int):Option (Int×(List (Int×Int×List Int×List Int))×List Int×List Int):=
 (kT (a_.1,a_.2.1,a_.2.2.1,a_.2.2.2) (b_.1,b_.2.1,b_.2.2.1,b_.2.2.2)).bind fun y0=>
 some (y0.1,y0.2.1,y0.2.2.1,y0.2.2.2)
def cQ:Nat→(List (Int×Int×ByteArray))→Option ((Int×(List (Int×Int×List Int×List Int))×List Int×List Int)×Bool)
 | 0,_=>none
 | fuel+1,t_=>
  (fU t_).bind fun y8=>
  (some (decide (y8<15))).bind fun a0=>
  cond a0
  ((idxO t_ 0).bind fun a1=>
  (nQ (a1.1,a1.2.1,a1.2.2)).bind fun y0=>
  some ((y0.1,y0.2.1,y0.2.2.1,y0.2.2.2),true))
  ((bZ t_).bind fun y1=>
  (cQ fuel y1.1).bind fun y2=>
  (cQ fuel y1.2).bind fun y3=>
  ((some (!y2.2)).bind fun a2=>
  cond a2
  (some true)
  ((some (!y3.2)).bind fun a3=>
  some a3)).bind fun (s0:Bool)=>
  cond s0
  (some ((0,[],[],[]),false))
  ((some (decide (y8=15))).bind fun a4=>
  cond a4
  ((hU (y2.1.1,y2.1.2.1,y2.1.2.2.1,y2.1.2.2.2) (y3.1.1,y3.1.2.1,y3.1.2.2.1,y3.1.2.2.2)).bind fun y4=>
  (pU (y4.1,y4.2.1,y4.2.2.1,y4.2.2.2)).bind fun y5=>
  some ((y5.1.1,y5.1.2.1,y5.1.2.2.1,y5.1.2.2.2),y5.2))
  ((yZ (y2.1.1,y2.1.2.1,y2.1.2.2.1,y2.1.2.2.2) (y3.1.1,y3.1.2.1,y3.1.2.2.1,y3.1.2.2.2)).bind fun y6=>
  (pU (y6.1,y6.2.1,y6.2.2.1,y6.2.2.2)).bind fun y7=>
  some ((y7.1.1,y7.1.2.1,y7.1.2.2.1,y7.1.2.2.2),y7.2))))
def mZ (t_:(List (Int×Int×ByteArray))):Option ((Int×(List (Int×Int×List Int×List Int))×List Int×List Int)×Bool):=cQ 1000000 t_
def yT (p_:Int) (g_:Int×(List (Int×Int×List Int×List Int))×List Int×List Int):Option Bool:=
 ((oQ p_).bind fun y0=>
 (some (!y0)).bind fun a0=>
 cond a0
 (some true)
 ((iQ (g_.1,g_.2.1,g_.2.2.1,g_.2.2.2)).bind fun y1=>
 (some (!y1)).bind fun a1=>
 some a1)).bind fun (s0:Bool)=>
 cond s0
 (some false)
 (uB (dC (fun (k0:Nat) (_:Unit)=>
 (idxO g_.2.1 ((k0:Nat):Int)).bind fun a2=>
 (some (decide (p_≤a2.2.1))).bind fun a3=>
 cond a3
 (some (.inr false))
 (some (.inl ()))) g_.2.1.length 0 ()) fun (_:Unit)=>
 some true)
def fL (kind_:Int):Option Bool:=
 ((some (!decide (kind_=8))).bind fun a0=>
 cond a0
 ((some (!decide (kind_=14))).bind fun a1=>
 some a1)
 (some false)).bind fun (s7:Bool)=>
 some s7
def jQ (p_:Int) (g_:Int×(List (Int×Int×List Int×List Int))×List Int×List Int):Option Bool:=
 (yT p_ (g_.1,g_.2.1,g_.2.2.1,g_.2.2.2)).bind fun y7=>
 (some (!y7)).bind fun a0=>
 cond a0
 (some false)
 (uB (dC (fun (k0:Nat) (_:Unit)=>
 (idxO g_.2.1 ((k0:Nat):Int)).bind fun a1=>
 (fL a1.1).bind fun y0=>
 (some (!y0)).bind fun a2=>
 cond a2
 (some (.inr false))
 (some (.inl ()))) g_.2.1.length 0 ()) fun (_:Unit)=>
 some true)
def kU (p_:Int) (a_:Int) (b_:Int):Option Int:=
 (mA a_ b_).bind fun a1=>
 (qD a1 p_).bind fun a3=>
 some a3
def tE (p_:Int) (n_:Int) (at_:List Int) (values_:List Int):Option (List Int):=
 (aD n_ (0:Int)).bind fun a3=>
 (forS (fun (k8:Nat) (s0:List Int)=>
 (idxO at_ ((k8:Nat):Int)).bind fun a0=>
 (idxO s0 a0).bind fun a1=>
 (idxO values_ ((k8:Nat):Int)).bind fun a2=>
 (kU p_ a1 a2).bind fun y0=>
 (setO s0 a0 y0).bind fun a4=>
 some a4) at_.length 0 a3).bind fun (s1:List Int)=>
 some s1
def eO (p_:Int) (a_:Int):Option Int:=
 (subO p_ a_).bind fun a1=>
 (qD a1 p_).bind fun a3=>
 some a3
def kL (p_:Int) (n_:Int) (e_:Int×Int×List Int×List Int):Option (List (List Int)):=
 ((some (decide ((9:Int)≤e_.1))).bind fun a0=>
 cond a0
 ((subO e_.1 9).bind fun a1=>
 (mA a1 3).bind fun a2=>
 some (e_.2.2.2,e_.2.2.1,a2))
 (some (e_.2.2.1,e_.2.2.2,e_.1))).bind fun (s0:List Int×List Int×Int)=>
 (some (decide (s0.2.2=3))).bind fun a3=>
 cond a3
 (((idxO s0.2.1 0).bind fun a4=>
 (idxO s0.1 0).bind fun a5=>
 (subO p_ 1).bind fun a6=>
 (idxO s0.2.1 1).bind fun a7=>
 (idxO s0.1 0).bind fun a8=>
 (subO p_ 1).bind fun a9=>
 (tE p_ n_ [a4,a5] [1,a6]).bind fun y0=>
 (tE p_ n_ [a7,a8] [1,a9]).bind fun y1=>
 some [y0,y1]).bind fun (s1:List (List Int))=>
 some s1)
 ((some (decide (s0.2.2=5))).bind fun a10=>
 cond a10
 (((idxO s0.2.1 0).bind fun a11=>
 (idxO s0.1 0).bind fun a12=>
 (idxO s0.1 1).bind fun a13=>
 (subO p_ 1).bind fun a14=>
 (subO p_ 1).bind fun a15=>
 (tE p_ n_ [a11,a12,a13] [1,a14,a15]).bind fun y2=>
 some [y2]).bind fun (s2:List (List Int))=>
 some s2)
 ((some (decide (s0.2.2=6))).bind fun a16=>
 cond a16
 ((idxO s0.2.1 0).bind fun a17=>
 (tE p_ n_ [a17] [1]).bind fun y3=>
 some [y3])
 ((some (decide (s0.2.2=7))).bind fun a18=>
 cond a18
 (((idxO s0.2.1 0).bind fun a19=>
 (idxO s0.1 0).bind fun a20=>
 (eO p_ e_.2.1).bind fun y4=>
 (tE p_ n_ [a19,a20] [1,y4]).bind fun y5=>
 some [y5]).bind fun (s3:List (List Int))=>
 some s3)
 (some []))))
def nU (p_:Int) (g_:Int×(List (Int×Int×List Int×List Int))×List Int×List Int):Option (Int×Int×List (List Int)):=
 (yI g_.2.2.1).bind fun y0=>
 (nA y0 g_.2.2.2).bind fun a0=>
 (forS (fun (k0:Nat) (s0:List (List Int))=>
 (idxO a0 ((k0:Nat):Int)).bind fun a1=>
 (subO p_ 1).bind fun a2=>
 (mA ((a0.length:Nat):Int) g_.1).bind fun a3=>
 (mA ((a0.length:Nat):Int) a1).bind fun a4=>
 (tE p_ a3 [((k0:Nat):Int),a4] [1,a2]).bind fun y1=>
 (nA s0 [y1]).bind fun a5=>
 some a5) a0.length 0 []).bind fun (s1:List (List Int))=>
 (forS (fun (k1:Nat) (s2:List (List Int))=>
 (idxO g_.2.1 ((k1:Nat):Int)).bind fun a6=>
 (kL p_ g_.1 (a6.1,a6.2.1,a6.2.2.1,a6.2.2.2)).bind fun y2=>
 (forS (fun (k2:Nat) (s3:List (List Int))=>
 (idxO y2 ((k2:Nat):Int)).bind fun a7=>
 (aD ((a0.length:Nat):Int) (0:Int)).bind fun a8=>
 (nA a8 a7).bind fun a9=>
 (nA s3 [a9]).bind fun a10=>
 some a10) y2.length 0 s2).bind fun (s4:List (List Int))=>
 some s4) g_.2.1.length 0 s1).bind fun (s5:List (List Int))=>
 some (((a0.length:Nat):Int),g_.1,s5)
def vT (p_:Int) (t_:(List (Int×Int×ByteArray))):Option ((Int×(List (Int×Int×List Int×List Int))×List Int×List Int)×(Int×Int×List (List Int))×Bool):=
 (sT p_ t_).bind fun y0=>
 (some (!y0)).bind fun a0=>
 cond a0
 (some ((0,[],[],[]),(0,0,[]),false))
 ((mZ t_).bind fun y1=>
 ((some (!y1.2)).bind fun a1=>
 cond a1
 (some true)
 ((jQ p_ (y1.1.1,y1.1.2.1,y1.1.2.2.1,y1.1.2.2.2)).bind fun y2=>
 (some (!y2)).bind fun a2=>
 some a2)).bind fun (s0:Bool)=>
 cond s0
 (some ((0,[],[],[]),(0,0,[]),false))
 ((nU p_ (y1.1.1,y1.1.2.1,y1.1.2.2.1,y1.1.2.2.2)).bind fun y3=>
 some ((y1.1.1,y1.1.2.1,y1.1.2.2.1,y1.1.2.2.2),(y3.1,y3.2.1,y3.2.2),true)))
def xZ (p_:Int) (a_:(List (Int×Int×ByteArray))) (b_:(List (Int×Int×ByteArray))):Option (((Int×(List (Int×Int×List Int×List Int))×List Int×List Int)×(Int×(List (Int×Int×List Int×List Int))×List Int×List Int)×(Int×Int×List (List Int))×(Int×Int×List (List Int)))×Bool):=
 (vT p_ a_).bind fun y0=>
 (vT p_ b_).bind fun y1=>
 ((some (!y0.2.2)).bind fun a0=>
 cond a0
 (some true)
 ((some (!y1.2.2)).bind fun a1=>
 cond a1
 (some true)
 ((some (!decide (((y0.1.2.2.1.length:Nat):Int)=((y1.1.2.2.1.length:Nat):Int)))).bind fun a2=>
 cond a2
 (some true)
 ((some (!decide (((y0.1.2.2.2.length:Nat):Int)=((y1.1.2.2.2.length:Nat):Int)))).bind fun a3=>
 some a3)))).bind fun (s0:Bool)=>
 cond s0
 (some (((0,[],[],[]),(0,[],[],[]),(0,0,[]),(0,0,[])),false))
 (some (((y0.1.1,y0.1.2.1,y0.1.2.2.1,y0.1.2.2.2),(y1.1.1,y1.1.2.1,y1.1.2.2.1,y1.1.2.2.2),(y0.2.1.1,y0.2.1.2.1,y0.2.1.2.2),(y1.2.1.1,y1.2.1.2.1,y1.2.1.2.2)),true))
def jU (p_:Int) (a_:Int):Option Int:=
 uB (nB (fun (s0:Int)=>
 (some (decide (s0<p_))).bind fun a0=>
 cond a0
 ((zF a_ s0).bind fun a1=>
 (qD a1 p_).bind fun a2=>
 (some (decide (a2=1))).bind fun a3=>
 cond a3
 (some (.inr (.inr s0)))
 ((mA s0 1).bind fun a4=>
 some (.inl a4)))
 (some (.inr (.inl ())))) 1) fun (s1:Unit)=>
 some 0
def aI (p_:Int) (a_:Int) (b_:Int):Option Int:=
 (zF a_ b_).bind fun a1=>
 (qD a1 p_).bind fun a3=>
 some a3
def xM (p_:Int) (a_:Int) (b_:Int):Option Int:=
 (mA a_ p_).bind fun a1=>
 (subO a1 b_).bind fun a3=>
 (qD a3 p_).bind fun a5=>
 some a5
def aQ (p_:Int) (size_:Int) (rows_:List (List Int)):Option (List (List Int)):=
 (forS (fun (k2:Nat) (s0:List (List Int))=>
 (idxO rows_ ((k2:Nat):Int)).bind fun a0=>
 (yI a0).bind fun y0=>
 (nA s0 [y0]).bind fun a1=>
 some a1) rows_.length 0 []).bind fun (s1:List (List Int))=>
 (nB (fun (s2:List (List Int)×Int×Int)=>
 ((some (decide (s2.2.2<size_))).bind fun a2=>
 cond a2
 ((some (decide (s2.2.1<((s2.1.length:Nat):Int)))).bind fun a3=>
 some a3)
 (some false)).bind fun (s3:Bool)=>
 cond s3
 (((nB (fun (s4:Int)=>
 ((some (decide (s4<((s2.1.length:Nat):Int)))).bind fun a4=>
 cond a4
 ((idxO s2.1 s4).bind fun a5=>
 (idxO a5 s2.2.2).bind fun a6=>
 (some (decide (a6=0))).bind fun a7=>
 some a7)
 (some false)).bind fun (s5:Bool)=>
 cond s5
 ((mA s4 1).bind fun a8=>
 some (.inl a8))
 (some (.inr s4))) s2.2.1).bind fun (s6:Int)=>
 (some (decide (s6=((s2.1.length:Nat):Int)))).bind fun a9=>
 cond a9
 (some (s2.1,s2.2.1))
 ((idxO s2.1 s2.2.1).bind fun a10=>
 (idxO s2.1 s6).bind fun a11=>
 (nN s2.1 s2.2.1 s6).bind fun a12=>
 (idxO a12 s2.2.1).bind fun a13=>
 (idxO a13 s2.2.2).bind fun a14=>
 (jU p_ a14).bind fun y1=>
 (idxO a12 s2.2.1).bind fun a15=>
 (forS (fun (k0:Nat) (s7:List (List Int))=>
 (idxO s7 s2.2.1).bind fun a16=>
 (idxO s7 s2.2.1).bind fun a17=>
 (idxO a17 ((k0:Nat):Int)).bind fun a18=>
 (aI p_ a18 y1).bind fun y2=>
 (setO a16 ((k0:Nat):Int) y2).bind fun a19=>
 (setO s7 s2.2.1 a19).bind fun a20=>
 some a20) a15.length 0 a12).bind fun (s8:List (List Int))=>
 (forS (fun (k1:Nat) (s9:List (List Int))=>
 (((some (decide (((k1:Nat):Int)=s2.2.1))).bind fun a21=>
 cond a21
 (some true)
 ((idxO s9 ((k1:Nat):Int)).bind fun a22=>
 (idxO a22 s2.2.2).bind fun a23=>
 (some (decide (a23=0))).bind fun a24=>
 some a24)).bind fun (s10:Bool)=>
 cond s10
 (some s9)
 ((idxO s9 ((k1:Nat):Int)).bind fun a25=>
 (idxO a25 s2.2.2).bind fun a26=>
 (idxO s9 ((k1:Nat):Int)).bind fun a27=>
 (forS (fun (k3:Nat) (s11:List (List Int))=>
 (idxO s11 ((k1:Nat):Int)).bind fun a28=>
 (idxO s11 ((k1:Nat):Int)).bind fun a29=>
 (idxO s11 s2.2.1).bind fun a30=>
 (idxO a29 ((k3:Nat):Int)).bind fun a31=>
 (idxO a30 ((k3:Nat):Int)).bind fun a32=>
 (aI p_ a26 a32).bind fun y3=>
 (xM p_ a31 y3).bind fun y4=>
 (setO a28 ((k3:Nat):Int) y4).bind fun a33=>
 (setO s11 ((k1:Nat):Int) a33).bind fun a34=>
 some a34) a27.length 0 s9).bind fun (s12:List (List Int))=>
 some s12)).bind fun (s13:List (List Int))=>
 some s13) s8.length 0 s8).bind fun (s14:List (List Int))=>
 (mA s2.2.1 1).bind fun a35=>
 some (s14,a35))).bind fun (s15:List (List Int)×Int)=>
 (mA s2.2.2 1).bind fun a36=>
 some (.inl (s15.1,s15.2,a36)))
 (some (.inr (s2.1,s2.2.1)))) (s1,0,0)).bind fun (s16:List (List Int)×Int)=>
 (dB s16.1 0 s16.2).bind fun a37=>
 some a37
def uT (v_:List Int):Option Int:=
 (nB (fun (s0:Int)=>
 ((some (decide (s0<((v_.length:Nat):Int)))).bind fun a0=>
 cond a0
 ((idxO v_ s0).bind fun a1=>
 (some (decide (a1=0))).bind fun a2=>
 some a2)
 (some false)).bind fun (s1:Bool)=>
 cond s1
 ((mA s0 1).bind fun a3=>
 some (.inl a3))
 (some (.inr s0))) 0).bind fun (s2:Int)=>
 some s2
def tT (p_:Int) (size_:Int) (rows_:List (List Int)):Option (List (List Int)):=
 (aQ p_ size_ rows_).bind fun y2=>
 (aD size_ (0:Int)).bind fun a7=>
 (forS (fun (k0:Nat) (s0:List Int)=>
 (setO s0 ((k0:Nat):Int) (-1)).bind fun a0=>
 some a0) a7.length 0 a7).bind fun (s1:List Int)=>
 (forS (fun (k1:Nat) (s2:List Int)=>
 (idxO y2 ((k1:Nat):Int)).bind fun a1=>
 (uT a1).bind fun y0=>
 (setO s2 y0 ((k1:Nat):Int)).bind fun a2=>
 some a2) y2.length 0 s1).bind fun (s3:List Int)=>
 (nB (fun (s4:List (List Int)×Int)=>
 (some (decide (s4.2<size_))).bind fun a3=>
 cond a3
 (((idxO s3 s4.2).bind fun a4=>
 (some (decide ((0:Int)≤a4))).bind fun a5=>
 cond a5
 (some s4.1)
 ((aD size_ (0:Int)).bind fun a6=>
 (setO a6 s4.2 1).bind fun a8=>
 (forS (fun (k2:Nat) (s5:List Int)=>
 (idxO y2 ((k2:Nat):Int)).bind fun a9=>
 (idxO y2 ((k2:Nat):Int)).bind fun a10=>
 (idxO a9 s4.2).bind fun a11=>
 (uT a10).bind fun y1=>
 (eO p_ a11).bind fun y3=>
 (setO s5 y1 y3).bind fun a12=>
 some a12) y2.length 0 a8).bind fun (s6:List Int)=>
 (nA s4.1 [s6]).bind fun a13=>
 some a13)).bind fun (s7:List (List Int))=>
 (mA s4.2 1).bind fun a14=>
 some (.inl (s7,a14)))
 (some (.inr s4.1))) ([],0)).bind fun (s8:List (List Int))=>
 (aQ p_ size_ s8).bind fun y4=>
 some y4
def uY (p_:Int) (g_:Int×(List (Int×Int×List Int×List Int))×List Int×List Int):Option (List (List Int)):=
 (forS (fun (k7:Nat) (s0:List (List Int))=>
 (idxO g_.2.1 ((k7:Nat):Int)).bind fun a0=>
 (kL p_ g_.1 (a0.1,a0.2.1,a0.2.2.1,a0.2.2.2)).bind fun y0=>
 (nA s0 y0).bind fun a1=>
 some a1) g_.2.1.length 0 []).bind fun (s1:List (List Int))=>
 (tT p_ g_.1 s1).bind fun y1=>
 some y1
def oU (p_:Int) (left_:Int) (right_:Int) (rows_:List (List Int)):Option (Int×Int×List (List Int)):=
 (mA left_ right_).bind fun a5=>
 (aQ p_ a5 rows_).bind fun y7=>
 some (left_,right_,y7)
def dZ (p_:Int) (g_:Int×(List (Int×Int×List Int×List Int))×List Int×List Int):Option ((Int×Int×List (List Int))×Bool):=
 (jQ p_ (g_.1,g_.2.1,g_.2.2.1,g_.2.2.2)).bind fun y0=>
 (some (!y0)).bind fun a0=>
 cond a0
 (some ((0,0,[]),false))
 ((yI g_.2.2.1).bind fun y1=>
 (nA y1 g_.2.2.2).bind fun a1=>
 (uY p_ (g_.1,g_.2.1,g_.2.2.1,g_.2.2.2)).bind fun y2=>
 (forS (fun (k0:Nat) (s0:List (List Int))=>
 (idxO y2 ((k0:Nat):Int)).bind fun a2=>
 (wJ a1 a2).bind fun y3=>
 (nA s0 [y3]).bind fun a3=>
 some a3) y2.length 0 []).bind fun (s1:List (List Int))=>
 (oU p_ ((g_.2.2.1.length:Nat):Int) ((g_.2.2.2.length:Nat):Int) s1).bind fun y4=>
 some ((y4.1,y4.2.1,y4.2.2),true))
def uM (p_:Int) (n_:Int×Int×ByteArray):Option (Int×Int×List (List Int)):=
 (nQ (n_.1,n_.2.1,n_.2.2)).bind fun y7=>
 (dZ p_ (y7.1,y7.2.1,y7.2.2.1,y7.2.2.2)).bind fun y0=>
 some (y0.1.1,y0.1.2.1,y0.1.2.2)
def dO (p_:Int) (size_:Int) (rows_:List (List Int)) (coefs_:List Int):Option (List Int):=
 (aD size_ (0:Int)).bind fun a3=>
 (forS (fun (k8:Nat) (s0:List Int)=>
 (idxO rows_ ((k8:Nat):Int)).bind fun a0=>
 (forS (fun (k0:Nat) (s1:List Int)=>
 (idxO a0 ((k0:Nat):Int)).bind fun a1=>
 (idxO s1 ((k0:Nat):Int)).bind fun a2=>
 (idxO coefs_ ((k8:Nat):Int)).bind fun a4=>
 (zF a4 a1).bind fun a5=>
 (mA a2 a5).bind fun a6=>
 (qD a6 p_).bind fun a7=>
 (setO s1 ((k0:Nat):Int) a7).bind fun a8=>
 some a8) a0.length 0 s0).bind fun (s2:List Int)=>
 some s2) rows_.length 0 a3).bind fun (s3:List Int)=>
 some s3
def uP (p_:Int) (a_:Int×Int×List (List Int)) (b_:Int×Int×List (List Int)):Option (Int×Int×List (List Int)):=
 (aD a_.2.1 ([]:List Int)).bind fun a0=>
 (forS (fun (k0:Nat) (s0:List (List Int))=>
 (forS (fun (k1:Nat) (s1:List (List Int))=>
 (idxO a_.2.2 ((k1:Nat):Int)).bind fun a1=>
 (idxO s1 ((k0:Nat):Int)).bind fun a2=>
 (mA a_.1 ((k0:Nat):Int)).bind fun a3=>
 (idxO a1 a3).bind fun a4=>
 (nA a2 [a4]).bind fun a5=>
 (setO s1 ((k0:Nat):Int) a5).bind fun a6=>
 some a6) a_.2.2.length 0 s0).bind fun (s2:List (List Int))=>
 (forS (fun (k2:Nat) (s3:List (List Int))=>
 (idxO b_.2.2 ((k2:Nat):Int)).bind fun a7=>
 (idxO s3 ((k0:Nat):Int)).bind fun a8=>
 (idxO a7 ((k0:Nat):Int)).bind fun a9=>
 (eO p_ a9).bind fun y0=>
 (nA a8 [y0]).bind fun a10=>
 (setO s3 ((k0:Nat):Int) a10).bind fun a11=>
 some a11) b_.2.2.length 0 s2).bind fun (s4:List (List Int))=>
 some s4) a0.length 0 a0).bind fun (s5:List (List Int))=>
 (mA ((a_.2.2.length:Nat):Int) ((b_.2.2.length:Nat):Int)).bind fun a13=>
 (tT p_ a13 s5).bind fun y1=>
 (forS (fun (k3:Nat) (s6:List (List Int))=>
 (idxO y1 ((k3:Nat):Int)).bind fun a14=>
 (mA a_.1 a_.2.1).bind fun a15=>
 (dB a14 0 ((a_.2.2.length:Nat):Int)).bind fun a16=>
 (dO p_ a15 a_.2.2 a16).bind fun y2=>
 (mA a_.2.1 b_.2.1).bind fun a17=>
 (dB a14 ((a_.2.2.length:Nat):Int) ((a14.length:Nat):Int)).bind fun a18=>
 (dO p_ a17 b_.2.2 a18).bind fun y3=>
 (dB y3 a_.2.1 ((y3.length:Nat):Int)).bind fun a19=>
 (dB y2 0 a_.1).bind fun a20=>
 (yI a20).bind fun y4=>
 (nA y4 a19).bind fun a21=>
 (nA s6 [a21]).bind fun a22=>
 some a22) y1.length 0 []).bind fun (s7:List (List Int))=>
 (oU p_ a_.1 b_.2.1 s7).bind fun y5=>
 some (y5.1,y5.2.1,y5.2.2)
def bQ (p_:Int) (a_:Int×Int×List (List Int)) (b_:Int×Int×List (List Int)):Option (Int×Int×List (List Int)):=
 (mA a_.1 b_.1).bind fun a0=>
 (mA a_.2.1 b_.2.1).bind fun a1=>
 (forS (fun (k0:Nat) (s0:List (List Int))=>
 (idxO a_.2.2 ((k0:Nat):Int)).bind fun a2=>
 (mA a0 a1).bind fun a3=>
 (aD a3 (0:Int)).bind fun a4=>
 (forS (fun (k1:Nat) (s1:List Int)=>
 (idxO a2 ((k1:Nat):Int)).bind fun a5=>
 (some (decide (((k1:Nat):Int)<a_.1))).bind fun a6=>
 cond a6
 ((setO s1 ((k1:Nat):Int) a5).bind fun a7=>
 some a7)
 ((mA a0 ((k1:Nat):Int)).bind fun a8=>
 (subO a8 a_.1).bind fun a9=>
 (setO s1 a9 a5).bind fun a10=>
 some a10)) a2.length 0 a4).bind fun (s2:List Int)=>
 (nA s0 [s2]).bind fun a11=>
 some a11) a_.2.2.length 0 []).bind fun (s3:List (List Int))=>
 (forS (fun (k2:Nat) (s4:List (List Int))=>
 (idxO b_.2.2 ((k2:Nat):Int)).bind fun a12=>
 (mA a0 a1).bind fun a14=>
 (aD a14 (0:Int)).bind fun a16=>
 (forS (fun (k3:Nat) (s5:List Int)=>
 (idxO a12 ((k3:Nat):Int)).bind fun a17=>
 (some (decide (((k3:Nat):Int)<b_.1))).bind fun a18=>
 cond a18
 ((mA a_.1 ((k3:Nat):Int)).bind fun a19=>
 (setO s5 a19 a17).bind fun a20=>
 some a20)
 ((mA a0 a_.2.1).bind fun a21=>
 (mA a21 ((k3:Nat):Int)).bind fun a22=>
 (subO a22 b_.1).bind fun a23=>
 (setO s5 a23 a17).bind fun a24=>
 some a24)) a12.length 0 a16).bind fun (s6:List Int)=>
 (nA s4 [s6]).bind fun a25=>
 some a25) b_.2.2.length 0 s3).bind fun (s7:List (List Int))=>
 (oU p_ a0 a1 s7).bind fun y0=>
 some (y0.1,y0.2.1,y0.2.2)
def uI (p_:Int) (t_:(List (Int×Int×ByteArray))):Option ((Int×Int×List (List Int))×Bool):=
 (sT p_ t_).bind fun y8=>
 (some (!y8)).bind fun a0=>
 cond a0
 (some ((0,0,[]),false))
 (uB (dC (fun (k0:Nat) (s0:List (Int×Int×List (List Int)))=>
 uB ((idxO t_ ((k0:Nat):Int)).bind fun a1=>
 (fL a1.1).bind fun y0=>
 (some (!y0)).bind fun a2=>
 cond a2
 (some (.inr (.inr ((0,0,[]),false))))
 (((some (!decide (a1.1=15))).bind fun a3=>
 cond a3
 ((some (!decide (a1.1=16))).bind fun a4=>
 some a4)
 (some false)).bind fun (s1:Bool)=>
 cond s1
 ((uM p_ (a1.1,a1.2.1,a1.2.2)).bind fun y1=>
 (nA s0 [(y1.1,y1.2.1,y1.2.2)]).bind fun a5=>
 some (.inl a5))
 (((subO ((s0.length:Nat):Int) 2).bind fun a6=>
 (idxO s0 a6).bind fun a7=>
 (subO ((s0.length:Nat):Int) 1).bind fun a8=>
 (idxO s0 a8).bind fun a9=>
 some (a9.1,a9.2.1,a9.2.2,a7.1,a7.2.1,a7.2.2)).bind fun (s2:Int×Int×List (List Int)×Int×Int×List (List Int))=>
 (subO ((s0.length:Nat):Int) 2).bind fun a10=>
 (dB s0 0 a10).bind fun a12=>
 (some (decide (a1.1=15))).bind fun a13=>
 cond a13
 ((uP p_ (s2.2.2.2.1,s2.2.2.2.2.1,s2.2.2.2.2.2) (s2.1,s2.2.1,s2.2.2.1)).bind fun y2=>
 (nA a12 [(y2.1,y2.2.1,y2.2.2)]).bind fun a14=>
 some (.inl a14))
 ((bQ p_ (s2.2.2.2.1,s2.2.2.2.2.1,s2.2.2.2.2.2) (s2.1,s2.2.1,s2.2.2.1)).bind fun y3=>
 (nA a12 [(y3.1,y3.2.1,y3.2.2)]).bind fun a15=>
 some (.inl a15))))) fun (s3:List (Int×Int×List (List Int)))=>
 some (.inl s3)) t_.length 0 []) fun (s4:List (Int×Int×List (List Int)))=>
 (idxO s4 0).bind fun a16=>
 some ((a16.1,a16.2.1,a16.2.2),true))
def lZ (a_:List Int) (b_:List Int):Option Bool:=
 (some (!decide (((a_.length:Nat):Int)=((b_.length:Nat):Int)))).bind fun a3=>
 cond a3
 (some false)
 (uB (dC (fun (k6:Nat) (_:Unit)=>
 (idxO a_ ((k6:Nat):Int)).bind fun a0=>
 (idxO b_ ((k6:Nat):Int)).bind fun a1=>
 (some (!decide (a0=a1))).bind fun a2=>
 cond a2
 (some (.inr false))
 (some (.inl ()))) a_.length 0 ()) fun (_:Unit)=>
 some true)
def tM (a_:List (List Int)) (b_:List (List Int)):Option Bool:=
 (some (!decide (((a_.length:Nat):Int)=((b_.length:Nat):Int)))).bind fun a3=>
 cond a3
 (some false)
 (uB (dC (fun (k6:Nat) (_:Unit)=>
 (idxO a_ ((k6:Nat):Int)).bind fun a0=>
 (idxO b_ ((k6:Nat):Int)).bind fun a1=>
 (lZ a0 a1).bind fun y0=>
 (some (!y0)).bind fun a2=>
 cond a2
 (some (.inr false))
 (some (.inl ()))) a_.length 0 ()) fun (_:Unit)=>
 some true)
def eY (p_:Int) (terms_:List (List (Int×Int×ByteArray))):Option (List (List Int)×Bool):=
 (lH ((terms_.length:Nat):Int) 1 10).bind fun y2=>
 (some (!y2)).bind fun a5=>
 cond a5
 (some ([],false))
 (uB (dC (fun (k8:Nat) (_:Unit)=>
 (idxO terms_ ((k8:Nat):Int)).bind fun a0=>
 ((idxO terms_ 0).bind fun a1=>
 (xZ p_ a1 a0).bind fun y0=>
 some y0.2).bind fun (s0:Bool)=>
 (some (!s0)).bind fun a2=>
 cond a2
 (some (.inr ([],false)))
 (some (.inl ()))) terms_.length 0 ()) fun (_:Unit)=>
 (forS (fun (k0:Nat) (s1:List (List Int))=>
 (idxO terms_ ((k0:Nat):Int)).bind fun a3=>
 (uI p_ a3).bind fun y1=>
 (forS (fun (k1:Nat) (s2:Int)=>
 (idxO s1 ((k1:Nat):Int)).bind fun a4=>
 (idxO a4 0).bind fun a6=>
 (idxO terms_ a6).bind fun a7=>
 (uI p_ a7).bind fun y3=>
 (tM y1.1.2.2 y3.1.2.2).bind fun y4=>
 cond y4
 (some ((k1:Nat):Int))
 (some s2)) s1.length 0 (-1)).bind fun (s3:Int)=>
 (some (decide (s3<0))).bind fun a8=>
 cond a8
 ((nA s1 [[((k0:Nat):Int)]]).bind fun a9=>
 some a9)
 ((idxO s1 s3).bind fun a10=>
 (nA a10 [((k0:Nat):Int)]).bind fun a11=>
 (setO s1 s3 a11).bind fun a12=>
 some a12)) terms_.length 0 []).bind fun (s4:List (List Int))=>
 some (s4,true))
def dH (n_:Int) (low_:Int) (high_:Int):Option Bool:=
 ((some (decide (low_≤n_))).bind fun a0=>
 cond a0
 ((some (decide (n_≤high_))).bind fun a1=>
 some a1)
 (some false)).bind fun (s7:Bool)=>
 some s7
def pT (p_:Int):Option Bool:=
 ((some (decide (p_<2))).bind fun a0=>
 cond a0
 (some true)
 ((some (decide ((97:Int)<p_))).bind fun a1=>
 some a1)).bind fun (s8:Bool)=>
 cond s8
 (some false)
 ((cI 4).bind fun _=>
 uB (dC (fun (k0:Nat) (_:Unit)=>
 (idxO [2,3,5,7] ((k0:Nat):Int)).bind fun a2=>
 ((qD p_ a2).bind fun a3=>
 (some (decide (a3=0))).bind fun a4=>
 cond a4
 ((some (!decide (p_=a2))).bind fun a5=>
 some a5)
 (some false)).bind fun (s0:Bool)=>
 cond s0
 (some (.inr false))
 (some (.inl ()))) ((4:Int).toNat) 0 ()) fun (_:Unit)=>
 some true)
def rY (w_:Int×Int):Option Bool:=
 ((some (decide (w_.1≤12))).bind fun a0=>
 cond a0
 ((some (decide (w_.2≤12))).bind fun a1=>
 some a1)
 (some false)).bind fun (s0:Bool)=>
 some s0
def rM (kind_:Int) (a_:Int×Int) (b_:Int×Int):Option ((Int×Int)×Bool):=
 (some (decide (kind_=15))).bind fun a0=>
 cond a0
 ((some (decide (a_.2=b_.1))).bind fun a1=>
 some ((a_.1,b_.2),a1))
 ((mA a_.1 b_.1).bind fun a2=>
 (mA a_.2 b_.2).bind fun a3=>
 (rY (a2,a3)).bind fun y0=>
 some ((a2,a3),y0))
def uN (kind_:Int):Option Bool:=
 (dH kind_ 3 14).bind fun y1=>
 some y1
def nM (kind_:Int):Option (Int×Int):=
 (some (decide (kind_≤8))).bind fun a8=>
 cond a8
 ((subO kind_ 3).bind fun a0=>
 (idxO ([(1,2),(1,0),(2,1),(0,1),(1,1),(1,1)]:List (Int×Int)) a0).bind fun a1=>
 some (a1.1,a1.2))
 ((subO kind_ 9).bind fun a2=>
 (idxO ([(1,2),(1,0),(2,1),(0,1),(1,1),(1,1)]:List (Int×Int)) a2).bind fun a3=>
 some (a3.2,a3.1))
def wN (kind_:Int):Option Bool:=
 ((some (decide (kind_=7))).bind fun a0=>
 cond a0
 (some true)
 ((some (decide (kind_=13))).bind fun a1=>
 some a1)).bind fun (s7:Bool)=>
 some s7
def qP (kind_:Int) (value_:Int):Option Bool:=
 (wN kind_).bind fun y1=>
 cond y1
 ((dH value_ 0 96).bind fun y8=>
 some y8)
 ((some (decide (value_=0))).bind fun a5=>
 some a5)
def tJ (n_:Int×Int×ByteArray):Option ((Int×Int)×Bool):=
 (some (!decide ((n_.2.2:ByteArray)=.empty))).bind fun a7=>
 cond a7
 (some ((0,0),false))
 ((some (decide (n_.1=1))).bind fun a0=>
 cond a0
 ((dH n_.2.1 0 12).bind fun y0=>
 some ((n_.2.1,n_.2.1),y0))
 ((some (decide (n_.1=2))).bind fun a1=>
 cond a1
 ((some (decide (n_.2.1=0))).bind fun a2=>
 some ((2,2),a2))
 ((uN n_.1).bind fun y1=>
 cond y1
 ((nM n_.1).bind fun y2=>
 (qP n_.1 n_.2.1).bind fun y3=>
 some ((y2.1,y2.2),y3))
 (some ((0,0),false)))))
def aY (nodes_:List (Int×Int×ByteArray)):Option ((Int×Int)×Bool):=
 (dH ((nodes_.length:Nat):Int) 1 400).bind fun y5=>
 (some (!y5)).bind fun a8=>
 cond a8
 (some ((0,0),false))
 (uB (dC (fun (k0:Nat) (s0:List (Int×Int))=>
 uB ((idxO nodes_ ((k0:Nat):Int)).bind fun a0=>
 ((some (!decide (a0.1=15))).bind fun a1=>
 cond a1
 ((some (!decide (a0.1=16))).bind fun a2=>
 some a2)
 (some false)).bind fun (s1:Bool)=>
 cond s1
 ((tJ (a0.1,a0.2.1,a0.2.2)).bind fun y0=>
 (some (!y0.2)).bind fun a3=>
 cond a3
 (some (.inr (.inr ((0,0),false))))
 ((nA s0 [(y0.1.1,y0.1.2)]).bind fun a4=>
 some (.inl a4)))
 (((some (!decide (a0.2.1=0))).bind fun a5=>
 cond a5
 (some true)
 ((some (!decide ((a0.2.2:ByteArray)=.empty))).bind fun a6=>
 cond a6
 (some true)
 ((some (decide (((s0.length:Nat):Int)<2))).bind fun a7=>
 some a7))).bind fun (s2:Bool)=>
 cond s2
 (some (.inr (.inr ((0,0),false))))
 ((subO ((s0.length:Nat):Int) 1).bind fun a9=>
 ((subO a9 1).bind fun a10=>
 (idxO s0 a10).bind fun a11=>
 (idxO s0 a9).bind fun a12=>
 (rM a0.1 (a11.1,a11.2) (a12.1,a12.2)).bind fun y1=>
 some (y1.1.1,y1.1.2,y1.2)).bind fun (s3:Int×Int×Bool)=>
 (some (!s3.2.2)).bind fun a13=>
 cond a13
 (some (.inr (.inr ((0,0),false))))
 ((subO a9 1).bind fun a14=>
 (dB s0 0 a14).bind fun a15=>
 (nA a15 [(s3.1,s3.2.1)]).bind fun a16=>
 some (.inl a16))))) fun (s4:List (Int×Int))=>
 some (.inl s4)) nodes_.length 0 ([]:List (Int×Int))) fun (s5:List (Int×Int))=>
 (idxO s5 0).bind fun a17=>
 (some (decide (((s5.length:Nat):Int)=1))).bind fun a18=>
 some ((a17.1,a17.2),a18))
def BX_ (t_:(List (Int×Int×ByteArray))):Option ((Int×Int)×Bool):=
 (aY t_).bind fun y8=>
 some ((y8.1.1,y8.1.2),y8.2)
def gY (t_:(List (Int×Int×ByteArray))):Option Bool:=
 (BX_ t_).bind fun y5=>
 some y5.2
def jY (t_:(List (Int×Int×ByteArray))) (p_:Int):Option Bool:=
 ((pT p_).bind fun y0=>
 (some (!y0)).bind fun a0=>
 cond a0
 (some true)
 ((gY t_).bind fun y1=>
 (some (!y1)).bind fun a1=>
 some a1)).bind fun (s0:Bool)=>
 cond s0
 (some false)
 (uB (dC (fun (k0:Nat) (_:Unit)=>
 (idxO t_ ((k0:Nat):Int)).bind fun a2=>
 ((wN a2.1).bind fun y2=>
 cond y2
 ((some (decide (p_≤a2.2.1))).bind fun a3=>
 some a3)
 (some false)).bind fun (s1:Bool)=>
 cond s1
 (some (.inr false))
 (some (.inl ()))) t_.length 0 ()) fun (_:Unit)=>
 some true)
def qT (kind_:Int):Option Bool:=
 ((some (decide (kind_=8))).bind fun a0=>
 cond a0
 (some true)
 ((some (decide (kind_=14))).bind fun a1=>
 some a1)).bind fun (s7:Bool)=>
 some s7
def dY (t_:(List (Int×Int×ByteArray))) (p_:Int):Option Bool:=
 (jY t_ p_).bind fun y6=>
 (some (!y6)).bind fun a9=>
 cond a9
 (some false)
 (uB (dC (fun (k0:Nat) (_:Unit)=>
 (idxO t_ ((k0:Nat):Int)).bind fun a0=>
 (qT a0.1).bind fun y0=>
 cond y0
 (some (.inr false))
 (some (.inl ()))) t_.length 0 ()) fun (_:Unit)=>
 some true)
def dG (n_:Int):Option (List Int):=
 (aD n_ (0:Int)).bind fun a1=>
 some a1
def zJ (n_:Int):Option (List Int):=
 (dG n_).bind fun y1=>
 (forS (fun (k6:Nat) (s0:List Int)=>
 (setO s0 ((k6:Nat):Int) ((k6:Nat):Int)).bind fun a0=>
 some a0) y1.length 0 y1).bind fun (s1:List Int)=>
 some s1
def Cp_ (v_:List Int) (at_:List Int):Option (List Int):=
 (oK 0 ((at_.length:Nat):Int) (0:Int)).bind fun a3=>
 (forS (fun (k8:Nat) (s0:List Int)=>
 (idxO at_ ((k8:Nat):Int)).bind fun a0=>
 (idxO v_ a0).bind fun a1=>
 (nA s0 [a1]).bind fun a2=>
 some a2) at_.length 0 a3).bind fun (s1:List Int)=>
 some s1
def xJ (list_:List Int) (to_:List Int):Option (List Int):=
 (Cp_ to_ list_).bind fun y3=>
 some y3
def tP (g_:Int×(List (Int×Int×List Int×List Int))×List Int×List Int) (count_:Int) (to_:List Int):Option (Int×(List (Int×Int×List Int×List Int))×List Int×List Int):=
 ((xJ g_.2.2.1 to_).bind fun y0=>
 (xJ g_.2.2.2 to_).bind fun y1=>
 some (count_,y0,y1)).bind fun (s0:Int×List Int×List Int)=>
 (forS (fun (k0:Nat) (s1:List (Int×Int×List Int×List Int))=>
 (idxO g_.2.1 ((k0:Nat):Int)).bind fun a0=>
 (xJ a0.2.2.1 to_).bind fun y2=>
 (xJ a0.2.2.2 to_).bind fun y3=>
 (nA s1 [(a0.1,a0.2.1,y2,y3)]).bind fun a1=>
 some a1) g_.2.1.length 0 []).bind fun (s2:List (Int×Int×List Int×List Int))=>
 some (s0.1,s2,s0.2.1,s0.2.2)
def gO (first_:Int) (n_:Int):Option (List Int):=
 (zJ n_).bind fun y1=>
 (forS (fun (k6:Nat) (s0:List Int)=>
 (idxO s0 ((k6:Nat):Int)).bind fun a0=>
 (mA a0 first_).bind fun a1=>
 (setO s0 ((k6:Nat):Int) a1).bind fun a2=>
 some a2) y1.length 0 y1).bind fun (s1:List Int)=>
 some s1
def bT (g_:Int×(List (Int×Int×List Int×List Int))×List Int×List Int) (h_:Int×(List (Int×Int×List Int×List Int))×List Int×List Int):Option (Int×(List (Int×Int×List Int×List Int))×List Int×List Int):=
 (mA g_.1 h_.1).bind fun a0=>
 ((zJ g_.1).bind fun y0=>
 (tP (g_.1,g_.2.1,g_.2.2.1,g_.2.2.2) g_.1 y0).bind fun y1=>
 some (y1.1,y1.2.1,y1.2.2.1,y1.2.2.2)).bind fun (s0:Int×(List (Int×Int×List Int×List Int))×List Int×List Int)=>
 ((gO g_.1 h_.1).bind fun y2=>
 (tP (h_.1,h_.2.1,h_.2.2.1,h_.2.2.2) h_.1 y2).bind fun y3=>
 some (y3.1,y3.2.1,y3.2.2.1,y3.2.2.2)).bind fun (s1:Int×(List (Int×Int×List Int×List Int))×List Int×List Int)=>
 (nA s0.2.1 s1.2.1).bind fun a1=>
 some (a0,a1,[],[])
def mL (list_:List Int):Option (List Int):=
 (nA ([]:List Int) list_).bind fun a5=>
 some a5
def cL (c_:List Int) (w_:Int):Option Int:=
 (nB (fun (s0:Int)=>
 (idxO c_ s0).bind fun a0=>
 (some (!decide (a0=s0))).bind fun a1=>
 cond a1
 ((idxO c_ s0).bind fun a2=>
 some (.inl a2))
 (some (.inr s0))) w_).bind fun (s1:Int)=>
 some s1
def aT (c_:List Int) (v_:Int) (w_:Int):Option (List Int):=
 (cL c_ v_).bind fun y2=>
 (cL c_ w_).bind fun y5=>
 (some (mP y2 y5)).bind fun a8=>
 (some (uH y2 y5)).bind fun a0=>
 (setO c_ a8 a0).bind fun a1=>
 some a1
def dL (list_:List Int) (c0_:List Bool) (c1_:List Int):Option (List Bool):=
 (forS (fun (k6:Nat) (s0:List Bool)=>
 (idxO list_ ((k6:Nat):Int)).bind fun a0=>
 (cL c1_ a0).bind fun y0=>
 (setO s0 y0 true).bind fun a1=>
 some a1) list_.length 0 c0_).bind fun (s1:List Bool)=>
 some s1
def xX (g_:Int×(List (Int×Int×List Int×List Int))×List Int×List Int) (d0_:List Bool) (d1_:List Int):Option (List Bool):=
 (dL g_.2.2.1 d0_ d1_).bind fun y0=>
 (dL g_.2.2.2 y0 d1_).bind fun y1=>
 (forS (fun (k0:Nat) (s0:List Bool)=>
 (idxO g_.2.1 ((k0:Nat):Int)).bind fun a0=>
 (dL a0.2.2.1 s0 d1_).bind fun y2=>
 (dL a0.2.2.2 y2 d1_).bind fun y3=>
 some y3) g_.2.1.length 0 y1).bind fun (s1:List Bool)=>
 some s1
def nY (g_:Int×(List (Int×Int×List Int×List Int))×List Int×List Int) (pairs_:List (Int×Int)):Option ((Int×(List (Int×Int×List Int×List Int))×List Int×List Int)×List Int):=
 (zJ g_.1).bind fun y0=>
 (forS (fun (k0:Nat) (s0:List Int)=>
 (idxO pairs_ ((k0:Nat):Int)).bind fun a0=>
 (aT s0 a0.1 a0.2).bind fun y1=>
 some y1) pairs_.length 0 y0).bind fun (s1:List Int)=>
 (aD g_.1 (false:Bool)).bind fun a1=>
 (xX (g_.1,g_.2.1,g_.2.2.1,g_.2.2.2) a1 s1).bind fun y2=>
 (dG g_.1).bind fun y3=>
 (forS (fun (k1:Nat) (s2:List Int×Int)=>
 (cL s1 ((k1:Nat):Int)).bind fun y4=>
 (idxO y2 y4).bind fun a2=>
 (some (!a2)).bind fun a3=>
 cond a3
 ((setO s2.1 ((k1:Nat):Int) (-1)).bind fun a4=>
 some (a4,s2.2))
 ((some (decide (y4<((k1:Nat):Int)))).bind fun a5=>
 cond a5
 ((idxO s2.1 y4).bind fun a6=>
 (setO s2.1 ((k1:Nat):Int) a6).bind fun a7=>
 some (a7,s2.2))
 ((setO s2.1 ((k1:Nat):Int) s2.2).bind fun a8=>
 (mA s2.2 1).bind fun a9=>
 some (a8,a9)))) y3.length 0 (y3,0)).bind fun (s3:List Int×Int)=>
 (tP (g_.1,g_.2.1,g_.2.2.1,g_.2.2.2) s3.2 s3.1).bind fun y5=>
 some ((y5.1,y5.2.1,y5.2.2.1,y5.2.2.2),s3.1)
def wP (a_:Int×(List (Int×Int×List Int×List Int))×List Int×List Int) (b_:Int×(List (Int×Int×List Int×List Int))×List Int×List Int):Option (Int×(List (Int×Int×List Int×List Int))×List Int×List Int):=
 (bT (a_.1,a_.2.1,a_.2.2.1,a_.2.2.2) (b_.1,b_.2.1,b_.2.2.1,b_.2.2.2)).bind fun y0=>
 (forS (fun (k0:Nat) (s0:List (Int×Int))=>
 (idxO a_.2.2.2 ((k0:Nat):Int)).bind fun a0=>
 (idxO b_.2.2.1 ((k0:Nat):Int)).bind fun a1=>
 (mA a_.1 a1).bind fun a2=>
 (nA s0 [(a0,a2)]).bind fun a3=>
 some a3) a_.2.2.2.length 0 ([]:List (Int×Int))).bind fun (s1:List (Int×Int))=>
 (mL a_.2.2.1).bind fun y1=>
 (gO a_.1 b_.1).bind fun y2=>
 (xJ b_.2.2.2 y2).bind fun y3=>
 (nY (y0.1,y0.2.1,y1,y3) s1).bind fun y4=>
 some (y4.1.1,y4.1.2.1,y4.1.2.2.1,y4.1.2.2.2)
def eH (lists_:List (List Int)):Option (List Int):=
 (forS (fun (k5:Nat) (s0:List Int)=>
 (idxO lists_ ((k5:Nat):Int)).bind fun a0=>
 (nA s0 a0).bind fun a1=>
 some a1) lists_.length 0 ([]:List Int)).bind fun (s1:List Int)=>
 some s1
def xP (a_:Int×(List (Int×Int×List Int×List Int))×List Int×List Int) (b_:Int×(List (Int×Int×List Int×List Int))×List Int×List Int):Option (Int×(List (Int×Int×List Int×List Int))×List Int×List Int):=
 (bT (a_.1,a_.2.1,a_.2.2.1,a_.2.2.2) (b_.1,b_.2.1,b_.2.2.1,b_.2.2.2)).bind fun y0=>
 (gO a_.1 b_.1).bind fun y1=>
 (xJ b_.2.2.1 y1).bind fun y2=>
 (eH [a_.2.2.1,y2]).bind fun y3=>
 (xJ b_.2.2.2 y1).bind fun y4=>
 (eH [a_.2.2.2,y4]).bind fun y5=>
 some (y0.1,y0.2.1,y3,y5)
def cY (n_:Int):Option (Int×(List (Int×Int×List Int×List Int))×List Int×List Int):=
 (zJ n_).bind fun y4=>
 (zJ n_).bind fun y9=>
 some (n_,[],y4,y9)
def yP (n_:Int×Int×ByteArray):Option (Int×(List (Int×Int×List Int×List Int))×List Int×List Int):=
 (some (decide (n_.1=1))).bind fun a7=>
 cond a7
 ((cY n_.2.1).bind fun y0=>
 some (y0.1,y0.2.1,y0.2.2.1,y0.2.2.2))
 ((some (decide (n_.1=2))).bind fun a0=>
 cond a0
 (some (2,[],[0,1],[1,0]))
 ((nM n_.1).bind fun y1=>
 (zJ y1.1).bind fun y2=>
 (gO y1.1 y1.2).bind fun y3=>
 ((mA y1.1 y1.2).bind fun a1=>
 (mL y2).bind fun y4=>
 (mL y3).bind fun y5=>
 some (a1,[(n_.1,n_.2.1,y2,y3)],y4,y5)).bind fun (s0:Int×(List (Int×Int×List Int×List Int))×List Int×List Int)=>
 some (s0.1,s0.2.1,s0.2.2.1,s0.2.2.2)))
def fT (e_:Int×Int×List Int×List Int):Option Bool:=
 ((uN e_.1).bind fun y0=>
 (some (!y0)).bind fun a0=>
 cond a0
 (some true)
 ((qP e_.1 e_.2.1).bind fun y1=>
 (some (!y1)).bind fun a1=>
 some a1)).bind fun (s0:Bool)=>
 cond s0
 (some false)
 ((nM e_.1).bind fun y2=>
 (some (decide (([y2.1,y2.2]:List Int)=[((e_.2.2.1.length:Nat):Int),((e_.2.2.2.length:Nat):Int)]))).bind fun a2=>
 some a2)
def rJ (list_:List Int) (c0_:Int×(List (Int×Int×List Int×List Int))×List Int×List Int) (c1_:Bool) (c2_:List Bool) (c3_:Int):Option (Bool×List Bool×Int):=
 (forS (fun (k0:Nat) (s0:Bool×Int×List Bool)=>
 ((idxO list_ ((k0:Nat):Int)).bind fun a0=>
 (subO c0_.1 1).bind fun a1=>
 (dH a0 0 a1).bind fun y0=>
 (some (!y0)).bind fun a2=>
 cond a2
 (some (false,s0.2.1,s0.2.2))
 ((idxO s0.2.2 a0).bind fun a3=>
 (some (!a3)).bind fun a4=>
 cond a4
 ((setO s0.2.2 a0 true).bind fun a5=>
 (mA s0.2.1 1).bind fun a6=>
 some (s0.1,a6,a5))
 (some (s0.1,s0.2.1,s0.2.2)))).bind fun (s1:Bool×Int×List Bool)=>
 some (s1.1,s1.2.1,s1.2.2)) list_.length 0 (c1_,c3_,c2_)).bind fun (s2:Bool×Int×List Bool)=>
 some (s2.1,s2.2.2,s2.2.1)
def sS (g_:Int×(List (Int×Int×List Int×List Int))×List Int×List Int) (d0_:Int×(List (Int×Int×List Int×List Int))×List Int×List Int) (d1_:Bool) (d2_:List Bool) (d3_:Int):Option (Bool×List Bool×Int):=
 (rJ g_.2.2.1 (d0_.1,d0_.2.1,d0_.2.2.1,d0_.2.2.2) d1_ d2_ d3_).bind fun y0=>
 (rJ g_.2.2.2 (d0_.1,d0_.2.1,d0_.2.2.1,d0_.2.2.2) y0.1 y0.2.1 y0.2.2).bind fun y1=>
 (forS (fun (k0:Nat) (s0:Int×Bool×List Bool)=>
 (idxO g_.2.1 ((k0:Nat):Int)).bind fun a0=>
 (rJ a0.2.2.1 (d0_.1,d0_.2.1,d0_.2.2.1,d0_.2.2.2) s0.2.1 s0.2.2 s0.1).bind fun y2=>
 (rJ a0.2.2.2 (d0_.1,d0_.2.1,d0_.2.2.1,d0_.2.2.2) y2.1 y2.2.1 y2.2.2).bind fun y3=>
 some (y3.2.2,y3.1,y3.2.1)) g_.2.1.length 0 (y1.2.2,y1.1,y1.2.1)).bind fun (s1:Int×Bool×List Bool)=>
 some (s1.2.1,s1.2.2,s1.1)
def sJ (g_:Int×(List (Int×Int×List Int×List Int))×List Int×List Int):Option Bool:=
 ((dH g_.1 0 100).bind fun y0=>
 (some (!y0)).bind fun a0=>
 cond a0
 (some true)
 ((some (decide ((60:Int)<((g_.2.1.length:Nat):Int)))).bind fun a1=>
 cond a1
 (some true)
 ((some (decide ((12:Int)<((g_.2.2.1.length:Nat):Int)))).bind fun a2=>
 cond a2
 (some true)
 ((some (decide ((12:Int)<((g_.2.2.2.length:Nat):Int)))).bind fun a3=>
 some a3)))).bind fun (s0:Bool)=>
 cond s0
 (some false)
 (uB (dC (fun (k0:Nat) (_:Unit)=>
 (idxO g_.2.1 ((k0:Nat):Int)).bind fun a4=>
 (fT (a4.1,a4.2.1,a4.2.2.1,a4.2.2.2)).bind fun y1=>
 (some (!y1)).bind fun a5=>
 cond a5
 (some (.inr false))
 (some (.inl ()))) g_.2.1.length 0 ()) fun (_:Unit)=>
 (aD g_.1 (false:Bool)).bind fun a6=>
 (sS (g_.1,g_.2.1,g_.2.2.1,g_.2.2.2) (g_.1,g_.2.1,g_.2.2.1,g_.2.2.2) true a6 0).bind fun y2=>
 (cond y2.1
 ((some (decide (y2.2.2=g_.1))).bind fun a7=>
 some (true,a7))
 (some (false,false))).bind fun (s1:Bool×Bool)=>
 some s1.2)
def kQ (t_:(List (Int×Int×ByteArray))):Option ((Int×(List (Int×Int×List Int×List Int))×List Int×List Int)×Bool):=
 uB (dC (fun (k0:Nat) (s0:List (Int×(List (Int×Int×List Int×List Int))×List Int×List Int))=>
 (idxO t_ ((k0:Nat):Int)).bind fun a0=>
 (subO ((s0.length:Nat):Int) 1).bind fun a1=>
 (some (decide (a0.1=15))).bind fun a2=>
 cond a2
 ((subO a1 1).bind fun a3=>
 (idxO s0 a3).bind fun a4=>
 (idxO s0 a1).bind fun a5=>
 (wP (a4.1,a4.2.1,a4.2.2.1,a4.2.2.2) (a5.1,a5.2.1,a5.2.2.1,a5.2.2.2)).bind fun y0=>
 (subO a1 1).bind fun a6=>
 (dB s0 0 a6).bind fun a7=>
 (sJ (y0.1,y0.2.1,y0.2.2.1,y0.2.2.2)).bind fun y1=>
 (some (!y1)).bind fun a8=>
 cond a8
 (some (.inr ((0,[],[],[]),false)))
 ((nA a7 [(y0.1,y0.2.1,y0.2.2.1,y0.2.2.2)]).bind fun a9=>
 some (.inl a9)))
 ((some (decide (a0.1=16))).bind fun a10=>
 cond a10
 ((subO a1 1).bind fun a11=>
 (idxO s0 a11).bind fun a12=>
 (idxO s0 a1).bind fun a13=>
 (xP (a12.1,a12.2.1,a12.2.2.1,a12.2.2.2) (a13.1,a13.2.1,a13.2.2.1,a13.2.2.2)).bind fun y2=>
 (subO a1 1).bind fun a14=>
 (dB s0 0 a14).bind fun a15=>
 (sJ (y2.1,y2.2.1,y2.2.2.1,y2.2.2.2)).bind fun y3=>
 (some (!y3)).bind fun a16=>
 cond a16
 (some (.inr ((0,[],[],[]),false)))
 ((nA a15 [(y2.1,y2.2.1,y2.2.2.1,y2.2.2.2)]).bind fun a17=>
 some (.inl a17)))
 ((yP (a0.1,a0.2.1,a0.2.2)).bind fun y4=>
 (sJ (y4.1,y4.2.1,y4.2.2.1,y4.2.2.2)).bind fun y5=>
 (some (!y5)).bind fun a18=>
 cond a18
 (some (.inr ((0,[],[],[]),false)))
 ((nA s0 [(y4.1,y4.2.1,y4.2.2.1,y4.2.2.2)]).bind fun a19=>
 some (.inl a19))))) t_.length 0 ([]:List (Int×(List (Int×Int×List Int×List Int))×List Int×List Int))) fun (s1:List (Int×(List (Int×Int×List Int×List Int))×List Int×List Int))=>
 (idxO s1 0).bind fun a20=>
 some ((a20.1,a20.2.1,a20.2.2.1,a20.2.2.2),true)
def sP (s_:Int×Int×List (List Int)):Option Int:=
 (mA s_.1 s_.2.1).bind fun a5=>
 some a5
def bI (n_:Int) (at_:Int):Option (List Int):=
 (dG n_).bind fun y1=>
 (setO y1 at_ 1).bind fun a0=>
 some a0
def qM (one_:Int) (others_:List Int) (by_:Int):Option MI:=
 (forS (fun (k6:Nat) (s0:MI)=>
 (idxO others_ ((k6:Nat):Int)).bind fun a0=>
 (mA (kM s0 a0) by_).bind fun a1=>
 some (oJ s0 a0 a1)) others_.length 0 (oJ (⟨[]⟩:MI) one_ 1)).bind fun (s1:MI)=>
 some s1
def rI (kind_:Int):Option Int:=
 (dH kind_ 3 8).bind fun y1=>
 cond y1
 ((mA kind_ 9).bind fun a0=>
 (subO a0 3).bind fun a1=>
 some a1)
 ((dH kind_ 9 14).bind fun y5=>
 cond y5
 ((subO kind_ 9).bind fun a2=>
 (mA a2 3).bind fun a3=>
 some a3)
 (some kind_))
def lT (e_:Int×Int×List Int×List Int):Option (List MI):=
 ((some (decide ((9:Int)≤e_.1))).bind fun a0=>
 cond a0
 (some (e_.2.2.2,e_.2.2.1))
 (some (e_.2.2.1,e_.2.2.2))).bind fun (s0:List Int×List Int)=>
 (rI e_.1).bind fun y0=>
 (some (uH e_.1 y0)).bind fun a1=>
 (some (decide (a1=3))).bind fun a2=>
 cond a2
 ((idxO s0.2 0).bind fun a3=>
 (qM a3 s0.1 (-1)).bind fun y1=>
 (idxO s0.2 1).bind fun a4=>
 (qM a4 s0.1 (-1)).bind fun y2=>
 some [y1,y2])
 ((some (decide (a1=5))).bind fun a5=>
 cond a5
 ((idxO s0.2 0).bind fun a6=>
 (qM a6 s0.1 (-1)).bind fun y3=>
 some [y3])
 ((some (decide (a1=6))).bind fun a7=>
 cond a7
 ((idxO s0.2 0).bind fun a8=>
 (qM a8 [] 0).bind fun y4=>
 some [y4])
 ((some (decide (a1=7))).bind fun a9=>
 cond a9
 ((idxO s0.2 0).bind fun a10=>
 (negO e_.2.1).bind fun a11=>
 (qM a10 s0.1 a11).bind fun y5=>
 some [y5])
 (some []))))
def rF (p_:Int) (a_:Int):Option Int:=
 (qD a_ p_).bind fun a1=>
 (some (decide (a1<0))).bind fun a3=>
 cond a3
 ((mA a1 p_).bind fun a7=>
 some a7)
 (some a1)
def wS (p_:Int) (g_:Int×(List (Int×Int×List Int×List Int))×List Int×List Int):Option (Int×Int×List (List Int)):=
 (eH [g_.2.2.1,g_.2.2.2]).bind fun y0=>
 (forS (fun (k0:Nat) (s0:List (List Int))=>
 (idxO y0 ((k0:Nat):Int)).bind fun a0=>
 (sP (((y0.length:Nat):Int),g_.1,s0)).bind fun y1=>
 (bI y1 ((k0:Nat):Int)).bind fun y2=>
 (mA ((y0.length:Nat):Int) a0).bind fun a1=>
 (subO p_ 1).bind fun a2=>
 (setO y2 a1 a2).bind fun a3=>
 (nA s0 [a3]).bind fun a4=>
 some a4) y0.length 0 []).bind fun (s1:List (List Int))=>
 (forS (fun (k1:Nat) (s2:List (List Int))=>
 (idxO g_.2.1 ((k1:Nat):Int)).bind fun a5=>
 (lT (a5.1,a5.2.1,a5.2.2.1,a5.2.2.2)).bind fun y3=>
 (forS (fun (k2:Nat) (s3:List (List Int))=>
 (idxO y3 ((k2:Nat):Int)).bind fun a6=>
 (sP (((y0.length:Nat):Int),g_.1,s3)).bind fun y4=>
 (dG y4).bind fun y5=>
 ((kvO (fun (s4:List Int) (k3 v0:Int)=>
 (mA ((y0.length:Nat):Int) k3).bind fun a7=>
 (rF p_ v0).bind fun y6=>
 (setO s4 a7 y6).bind fun a8=>
 some a8) a6.kvs y5).bind fun (s5:List Int)=>
 some s5).bind fun (s6:List Int)=>
 (nA s3 [s6]).bind fun a9=>
 some a9) y3.length 0 s2).bind fun (s7:List (List Int))=>
 some s7) g_.2.1.length 0 s1).bind fun (s8:List (List Int))=>
 some (((y0.length:Nat):Int),g_.1,s8)
def sN (r_:Int×Int×List (List Int)) (row_:List Int):Option (List Int):=
 (dB row_ r_.1 ((row_.length:Nat):Int)).bind fun a6=>
 some a6
def tN (r_:Int×Int×List (List Int)) (row_:List Int):Option (List Int):=
 (dB row_ 0 r_.1).bind fun a6=>
 some a6
def sI (p_:Int) (v_:List Int) (by_:Int) (w_:List Int):Option (List Int):=
 (forS (fun (k3:Nat) (s0:List Int)=>
 (idxO w_ ((k3:Nat):Int)).bind fun a0=>
 (idxO s0 ((k3:Nat):Int)).bind fun a1=>
 (zF by_ a0).bind fun a2=>
 (mA a1 a2).bind fun a3=>
 (rF p_ a3).bind fun y0=>
 (setO s0 ((k3:Nat):Int) y0).bind fun a4=>
 some a4) w_.length 0 v_).bind fun (s1:List Int)=>
 some s1
def aU (list_:List (List Int)):Option (List (List Int)):=
 (oK 0 ((list_.length:Nat):Int) ([]:List Int)).bind fun a2=>
 (forS (fun (k7:Nat) (s0:List (List Int))=>
 (idxO list_ ((k7:Nat):Int)).bind fun a0=>
 (mL a0).bind fun y0=>
 (nA s0 [y0]).bind fun a1=>
 some a1) list_.length 0 a2).bind fun (s1:List (List Int))=>
 some s1
def fY (n_:Int):Option (List (List Int)):=
 (cI n_).bind fun _=>
 (forS (fun (k4:Nat) (s0:List (List Int))=>
 (bI n_ ((k4:Nat):Int)).bind fun y0=>
 (nA s0 [y0]).bind fun a0=>
 some a0) n_.toNat 0 ([]:List (List Int))).bind fun (s1:List (List Int))=>
 some s1
def C7_ (yes_:Bool):Option Int:=
 cond yes_
 (some 1)
 (some 0)
def CF_ (p_:Int) (a_:Int) (n_:Int):Option Int:=
 (qD 1 p_).bind fun a1=>
 (nB (fun (s0:Int×Int×Int)=>
 (some (decide ((0:Int)<s0.2.1))).bind fun a0=>
 cond a0
 (((qD s0.2.1 2).bind fun a2=>
 (some (decide (a2=1))).bind fun a3=>
 cond a3
 ((zF s0.2.2 s0.1).bind fun a4=>
 (qD a4 p_).bind fun a5=>
 some a5)
 (some s0.2.2)).bind fun (s1:Int)=>
 (zF s0.1 s0.1).bind fun a6=>
 (qD a6 p_).bind fun a7=>
 (gM s0.2.1 2).bind fun a8=>
 some (.inl (a7,a8,s1)))
 (some (.inr s0.2.2))) (a_,n_,a1)).bind fun (s2:Int)=>
 some s2
def jZ (p_:Int) (a_:Int):Option Int:=
 (subO p_ 2).bind fun a1=>
 (some (decide (p_=2))).bind fun a3=>
 (C7_ a3).bind fun y5=>
 (mA a1 y5).bind fun a8=>
 (CF_ p_ a_ a8).bind fun y0=>
 some y0
def rN (o_:Int×Int×Int×Int) (p_:Int) (rows_:List (List Int)):Option (List (List Int)):=
 (some (decide (o_.1=0))).bind fun a5=>
 cond a5
 ((idxO rows_ o_.2.2.1).bind fun a0=>
 (idxO rows_ o_.2.1).bind fun a1=>
 (nN rows_ o_.2.1 o_.2.2.1).bind fun a2=>
 some a2)
 ((some (decide (o_.1=1))).bind fun a8=>
 cond a8
 ((jZ p_ o_.2.2.2).bind fun y0=>
 (idxO rows_ o_.2.1).bind fun a3=>
 (forS (fun (k0:Nat) (s0:List Int)=>
 (idxO s0 ((k0:Nat):Int)).bind fun a4=>
 (zF a4 y0).bind fun a6=>
 (qD a6 p_).bind fun a7=>
 (setO s0 ((k0:Nat):Int) a7).bind fun a9=>
 some a9) a3.length 0 a3).bind fun (s1:List Int)=>
 (setO rows_ o_.2.1 s1).bind fun a10=>
 some a10)
 ((some (decide (o_.1=2))).bind fun a12=>
 cond a12
 ((idxO rows_ o_.2.1).bind fun a13=>
 (negO o_.2.2.2).bind fun a14=>
 (idxO rows_ o_.2.2.1).bind fun a15=>
 (sI p_ a13 a14 a15).bind fun y1=>
 (neqO o_.2.1 o_.2.2.1).bind fun _=>
 (setO rows_ o_.2.1 y1).bind fun a16=>
 some a16)
 (some rows_)))
def yH (o_:Int×Int×Int×Int) (c0_:Int) (c1_:List (List Int)) (c2_:List (List Int)):Option (List (List Int)×List (List Int)):=
 (some (decide (([o_.1,o_.2.1,o_.2.2.1,o_.2.2.2]:List Int)=[0,o_.2.1,o_.2.1,0]))).bind fun a9=>
 cond a9
 (some (c1_,c2_))
 ((rN (o_.1,o_.2.1,o_.2.2.1,o_.2.2.2) c0_ c1_).bind fun y0=>
 (rN (o_.1,o_.2.1,o_.2.2.1,o_.2.2.2) c0_ c2_).bind fun y1=>
 some (y0,y1))
def iT (p_:Int) (rows_:List (List Int)) (n_:Int) (also_:List (List Int)):Option (List (List Int)×List (List Int)×Int):=
 (nB (fun (s0:List (List Int)×List (List Int)×Int×Int)=>
 ((some (decide (s0.2.2.1<n_))).bind fun a0=>
 cond a0
 ((some (decide (s0.2.2.2<((s0.1.length:Nat):Int)))).bind fun a1=>
 some a1)
 (some false)).bind fun (s1:Bool)=>
 cond s1
 (((nB (fun (s2:Int)=>
 ((some (decide (s2<((s0.1.length:Nat):Int)))).bind fun a2=>
 cond a2
 ((idxO s0.1 s2).bind fun a3=>
 (idxO a3 s0.2.2.1).bind fun a4=>
 (some (decide (a4=0))).bind fun a5=>
 some a5)
 (some false)).bind fun (s3:Bool)=>
 cond s3
 ((mA s2 1).bind fun a6=>
 some (.inl a6))
 (some (.inr s2))) s0.2.2.2).bind fun (s4:Int)=>
 (some (decide (s4=((s0.1.length:Nat):Int)))).bind fun a7=>
 cond a7
 (some (s0.1,s0.2.1,s0.2.2.2))
 ((yH (0,s0.2.2.2,s4,0) p_ s0.1 s0.2.1).bind fun y0=>
 (idxO y0.1 s0.2.2.2).bind fun a8=>
 (idxO a8 s0.2.2.1).bind fun a9=>
 (yH (1,s0.2.2.2,0,a9) p_ y0.1 y0.2).bind fun y1=>
 (forS (fun (k0:Nat) (s5:List (List Int)×List (List Int))=>
 ((some (!decide (((k0:Nat):Int)=s0.2.2.2))).bind fun a10=>
 cond a10
 ((idxO s5.1 ((k0:Nat):Int)).bind fun a11=>
 (idxO a11 s0.2.2.1).bind fun a12=>
 (some (!decide (a12=0))).bind fun a13=>
 some a13)
 (some false)).bind fun (s6:Bool)=>
 cond s6
 ((idxO s5.1 ((k0:Nat):Int)).bind fun a14=>
 (idxO a14 s0.2.2.1).bind fun a15=>
 (yH (2,((k0:Nat):Int),s0.2.2.2,a15) p_ s5.1 s5.2).bind fun y2=>
 some (y2.1,y2.2))
 (some (s5.1,s5.2))) y1.1.length 0 (y1.1,y1.2)).bind fun (s7:List (List Int)×List (List Int))=>
 (mA s0.2.2.2 1).bind fun a16=>
 some (s7.1,s7.2,a16))).bind fun (s8:List (List Int)×List (List Int)×Int)=>
 (mA s0.2.2.1 1).bind fun a17=>
 some (.inl (s8.1,s8.2.1,a17,s8.2.2)))
 (some (.inr (s0.1,s0.2.1,s0.2.2.2)))) (rows_,also_,0,0)).bind fun (s9:List (List Int)×List (List Int)×Int)=>
 some (s9.1,s9.2.1,s9.2.2)
def oT (p_:Int) (rows_:List (List Int)) (n_:Int):Option (List (List Int)):=
 (aU rows_).bind fun y2=>
 (aD ((y2.length:Nat):Int) ([]:List Int)).bind fun a7=>
 (iT p_ y2 n_ a7).bind fun y0=>
 (dB y0.1 0 y0.2.2).bind fun a0=>
 some a0
def uZ (p_:Int) (rows_:List (List Int)) (n_:Int):Option (List (List Int)):=
 (aU rows_).bind fun y2=>
 (fY ((rows_.length:Nat):Int)).bind fun y7=>
 (iT p_ y2 n_ y7).bind fun y0=>
 (dB y0.2.1 y0.2.2 ((y0.2.1.length:Nat):Int)).bind fun a0=>
 (oT p_ a0 ((rows_.length:Nat):Int)).bind fun y1=>
 some y1
def yN (p_:Int) (x_:List Int) (rows_:List (List Int)) (n_:Int):Option (List Int):=
 (dG n_).bind fun y3=>
 (forS (fun (k8:Nat) (s0:List Int)=>
 (idxO rows_ ((k8:Nat):Int)).bind fun a0=>
 (idxO x_ ((k8:Nat):Int)).bind fun a1=>
 (sI p_ s0 a1 a0).bind fun y0=>
 some y0) rows_.length 0 y3).bind fun (s1:List Int)=>
 some s1
def gL (p_:Int) (left_:Int) (right_:Int) (rows_:List (List Int)):Option (Int×Int×List (List Int)):=
 (mA left_ right_).bind fun a5=>
 (oT p_ rows_ a5).bind fun y7=>
 some (left_,right_,y7)
def pS (r_:Int×Int×List (List Int)) (d0_:Int×Int×List (List Int)):Option (List (List Int)):=
 (forS (fun (k9:Nat) (s0:List (List Int))=>
 (idxO r_.2.2 ((k9:Nat):Int)).bind fun a0=>
 (sN (d0_.1,d0_.2.1,d0_.2.2) a0).bind fun y0=>
 (nA s0 [y0]).bind fun a1=>
 some a1) r_.2.2.length 0 ([]:List (List Int))).bind fun (s1:List (List Int))=>
 some s1
def rS (r_:Int×Int×List (List Int)) (d0_:Int×Int×List (List Int)):Option (List (List Int)):=
 (forS (fun (k9:Nat) (s0:List (List Int))=>
 (idxO r_.2.2 ((k9:Nat):Int)).bind fun a0=>
 (tN (d0_.1,d0_.2.1,d0_.2.2) a0).bind fun y0=>
 (nA s0 [y0]).bind fun a1=>
 some a1) r_.2.2.length 0 ([]:List (List Int))).bind fun (s1:List (List Int))=>
 some s1
def eQ (p_:Int) (a_:Int×Int×List (List Int)) (b_:Int×Int×List (List Int)):Option (Int×Int×List (List Int)):=
 (pS (a_.1,a_.2.1,a_.2.2) (a_.1,a_.2.1,a_.2.2)).bind fun y0=>
 (rS (b_.1,b_.2.1,b_.2.2) (b_.1,b_.2.1,b_.2.2)).bind fun y1=>
 (forS (fun (k0:Nat) (s0:List (List Int))=>
 (idxO y1 ((k0:Nat):Int)).bind fun a0=>
 (dG ((a0.length:Nat):Int)).bind fun y2=>
 (sI p_ y2 (-1) a0).bind fun y3=>
 (nA s0 [y3]).bind fun a1=>
 some a1) y1.length 0 y0).bind fun (s1:List (List Int))=>
 ((rS (a_.1,a_.2.1,a_.2.2) (a_.1,a_.2.1,a_.2.2)).bind fun y4=>
 (pS (b_.1,b_.2.1,b_.2.2) (b_.1,b_.2.1,b_.2.2)).bind fun y5=>
 some (y4,y5)).bind fun (s2:List (List Int)×List (List Int))=>
 (uZ p_ s1 a_.2.1).bind fun y6=>
 (forS (fun (k1:Nat) (s3:List (List Int))=>
 (idxO y6 ((k1:Nat):Int)).bind fun a2=>
 (dB a2 0 ((s2.1.length:Nat):Int)).bind fun a3=>
 (yN p_ a3 s2.1 a_.1).bind fun y7=>
 (dB a2 ((s2.1.length:Nat):Int) ((a2.length:Nat):Int)).bind fun a4=>
 (yN p_ a4 s2.2 b_.2.1).bind fun y8=>
 (eH [y7,y8]).bind fun y9=>
 (nA s3 [y9]).bind fun a5=>
 some a5) y6.length 0 ([]:List (List Int))).bind fun (s4:List (List Int))=>
 (gL p_ a_.1 b_.2.1 s4).bind fun y10=>
 some (y10.1,y10.2.1,y10.2.2)
def B6_ (row_:List Int) (c0_:Int×Int×List (List Int)) (c1_:Int×Int×List (List Int)):Option (List Int):=
 (tN (c0_.1,c0_.2.1,c0_.2.2) row_).bind fun y7=>
 (dG c1_.1).bind fun y0=>
 (sN (c0_.1,c0_.2.1,c0_.2.2) row_).bind fun y1=>
 (dG c1_.2.1).bind fun y2=>
 (eH [y7,y0,y1,y2]).bind fun y3=>
 some y3
def zX (r_:Int×Int×List (List Int)) (d0_:Int×Int×List (List Int)) (d1_:Int×Int×List (List Int)):Option (List (List Int)):=
 (forS (fun (k0:Nat) (s0:List (List Int))=>
 (idxO r_.2.2 ((k0:Nat):Int)).bind fun a0=>
 (B6_ a0 (d0_.1,d0_.2.1,d0_.2.2) (d1_.1,d1_.2.1,d1_.2.2)).bind fun y0=>
 (nA s0 [y0]).bind fun a1=>
 some a1) r_.2.2.length 0 ([]:List (List Int))).bind fun (s1:List (List Int))=>
 some s1
def B5_ (row_:List Int) (c0_:Int×Int×List (List Int)) (c1_:Int×Int×List (List Int)):Option (List Int):=
 (dG c0_.1).bind fun y7=>
 (tN (c1_.1,c1_.2.1,c1_.2.2) row_).bind fun y0=>
 (dG c0_.2.1).bind fun y1=>
 (sN (c1_.1,c1_.2.1,c1_.2.2) row_).bind fun y2=>
 (eH [y7,y0,y1,y2]).bind fun y3=>
 some y3
def yX (r_:Int×Int×List (List Int)) (d0_:Int×Int×List (List Int)) (d1_:Int×Int×List (List Int)):Option (List (List Int)):=
 (forS (fun (k0:Nat) (s0:List (List Int))=>
 (idxO r_.2.2 ((k0:Nat):Int)).bind fun a0=>
 (B5_ a0 (d0_.1,d0_.2.1,d0_.2.2) (d1_.1,d1_.2.1,d1_.2.2)).bind fun y0=>
 (nA s0 [y0]).bind fun a1=>
 some a1) r_.2.2.length 0 ([]:List (List Int))).bind fun (s1:List (List Int))=>
 some s1
def pQ (p_:Int) (a_:Int×Int×List (List Int)) (b_:Int×Int×List (List Int)):Option (Int×Int×List (List Int)):=
 (zX (a_.1,a_.2.1,a_.2.2) (a_.1,a_.2.1,a_.2.2) (b_.1,b_.2.1,b_.2.2)).bind fun y0=>
 (yX (b_.1,b_.2.1,b_.2.2) (a_.1,a_.2.1,a_.2.2) (b_.1,b_.2.1,b_.2.2)).bind fun y1=>
 (nA y0 y1).bind fun a0=>
 (mA a_.1 b_.1).bind fun a1=>
 (mA a_.2.1 b_.2.1).bind fun a2=>
 (gL p_ a1 a2 a0).bind fun y2=>
 some (y2.1,y2.2.1,y2.2.2)
def BO_ (n_:Int):Option (Int×Int×List (List Int)):=
 (cI n_).bind fun _=>
 (forS (fun (k8:Nat) (s0:List (List Int))=>
 (bI n_ ((k8:Nat):Int)).bind fun y0=>
 (bI n_ ((k8:Nat):Int)).bind fun y1=>
 (eH [y0,y1]).bind fun y2=>
 (nA s0 [y2]).bind fun a0=>
 some a0) n_.toNat 0 []).bind fun (s1:List (List Int))=>
 some (n_,n_,s1)
def xS (kind_:Int) (value_:Int):Option (List (List Int)):=
 (some (decide (kind_=3))).bind fun a1=>
 cond a1
 (some [[1,1,1]])
 ((some (decide (kind_=4))).bind fun a4=>
 cond a4
 (some [[1]])
 ((some (decide (kind_=5))).bind fun a7=>
 cond a7
 (some [[1,0,1],[0,1,1]])
 ((some (decide (kind_=7))).bind fun a0=>
 cond a0
 (some [[1,value_]])
 (some []))))
def BW_ (row_:List Int) (c0_:Int×Int×List (List Int)):Option (List Int):=
 (sN (c0_.1,c0_.2.1,c0_.2.2) row_).bind fun y5=>
 (tN (c0_.1,c0_.2.1,c0_.2.2) row_).bind fun y0=>
 (eH [y5,y0]).bind fun y1=>
 some y1
def wX (r_:Int×Int×List (List Int)) (d0_:Int×Int×List (List Int)):Option (List (List Int)):=
 (forS (fun (k0:Nat) (s0:List (List Int))=>
 (idxO r_.2.2 ((k0:Nat):Int)).bind fun a0=>
 (BW_ a0 (d0_.1,d0_.2.1,d0_.2.2)).bind fun y0=>
 (nA s0 [y0]).bind fun a1=>
 some a1) r_.2.2.length 0 ([]:List (List Int))).bind fun (s1:List (List Int))=>
 some s1
def yY (p_:Int) (r_:Int×Int×List (List Int)):Option (Int×Int×List (List Int)):=
 (wX (r_.1,r_.2.1,r_.2.2) (r_.1,r_.2.1,r_.2.2)).bind fun y9=>
 (gL p_ r_.2.1 r_.1 y9).bind fun y0=>
 some (y0.1,y0.2.1,y0.2.2)
def oM (p_:Int) (n_:Int×Int×ByteArray):Option (Int×Int×List (List Int)):=
 (some (decide (n_.1=1))).bind fun a7=>
 cond a7
 ((BO_ n_.2.1).bind fun y0=>
 some (y0.1,y0.2.1,y0.2.2))
 ((some (decide (n_.1=2))).bind fun a0=>
 cond a0
 ((gL p_ 2 2 [[1,0,0,1],[0,1,1,0]]).bind fun y1=>
 some (y1.1,y1.2.1,y1.2.2))
 ((some (decide ((9:Int)≤n_.1))).bind fun a1=>
 cond a1
 ((rI n_.1).bind fun y2=>
 (nM y2).bind fun y3=>
 (rI n_.1).bind fun y4=>
 (xS y4 n_.2.1).bind fun y5=>
 (gL p_ y3.1 y3.2 y5).bind fun y6=>
 (yY p_ (y6.1,y6.2.1,y6.2.2)).bind fun y7=>
 some (y7.1,y7.2.1,y7.2.2))
 ((nM n_.1).bind fun y8=>
 (xS n_.1 n_.2.1).bind fun y9=>
 (gL p_ y8.1 y8.2 y9).bind fun y10=>
 some (y10.1,y10.2.1,y10.2.2))))
def qQ (p_:Int) (t_:(List (Int×Int×ByteArray))):Option (Int×Int×List (List Int)):=
 (forS (fun (k0:Nat) (s0:List (Int×Int×List (List Int)))=>
 (idxO t_ ((k0:Nat):Int)).bind fun a0=>
 (subO ((s0.length:Nat):Int) 1).bind fun a1=>
 (some (decide (a0.1=15))).bind fun a2=>
 cond a2
 ((subO a1 1).bind fun a3=>
 (subO a1 1).bind fun a4=>
 (idxO s0 a4).bind fun a5=>
 (idxO s0 a1).bind fun a6=>
 (dB s0 0 a3).bind fun a7=>
 (eQ p_ (a5.1,a5.2.1,a5.2.2) (a6.1,a6.2.1,a6.2.2)).bind fun y0=>
 (nA a7 [(y0.1,y0.2.1,y0.2.2)]).bind fun a8=>
 some a8)
 ((some (decide (a0.1=16))).bind fun a9=>
 cond a9
 ((subO a1 1).bind fun a10=>
 (subO a1 1).bind fun a11=>
 (idxO s0 a11).bind fun a12=>
 (idxO s0 a1).bind fun a13=>
 (dB s0 0 a10).bind fun a14=>
 (pQ p_ (a12.1,a12.2.1,a12.2.2) (a13.1,a13.2.1,a13.2.2)).bind fun y1=>
 (nA a14 [(y1.1,y1.2.1,y1.2.2)]).bind fun a15=>
 some a15)
 ((oM p_ (a0.1,a0.2.1,a0.2.2)).bind fun y2=>
 (nA s0 [(y2.1,y2.2.1,y2.2.2)]).bind fun a16=>
 some a16))) t_.length 0 ([]:List (Int×Int×List (List Int)))).bind fun (s1:List (Int×Int×List (List Int)))=>
 (idxO s1 0).bind fun a17=>
 some (a17.1,a17.2.1,a17.2.2)
def lU (p_:Int) (t_:(List (Int×Int×ByteArray))):Option (((Int×(List (Int×Int×List Int×List Int))×List Int×List Int)×(Int×Int×List (List Int))×(Int×Int×List (List Int)))×Bool):=
 (dY t_ p_).bind fun y9=>
 (some (!y9)).bind fun a0=>
 cond a0
 (some (((0,[],[],[]),(0,0,[]),(0,0,[])),false))
 ((kQ t_).bind fun y0=>
 (some (!y0.2)).bind fun a1=>
 cond a1
 (some (((0,[],[],[]),(0,0,[]),(0,0,[])),false))
 ((wS p_ (y0.1.1,y0.1.2.1,y0.1.2.2.1,y0.1.2.2.2)).bind fun y1=>
 (qQ p_ t_).bind fun y2=>
 some (((y0.1.1,y0.1.2.1,y0.1.2.2.1,y0.1.2.2.2),(y1.1,y1.2.1,y1.2.2),(y2.1,y2.2.1,y2.2.2)),true)))
def cK (p_:Int) (a_:(List (Int×Int×ByteArray))) (b_:(List (Int×Int×ByteArray))):Option ((Int×((Int×(List (Int×Int×List Int×List Int))×List Int×List Int)×(Int×Int×List (List Int))×(Int×Int×List (List Int)))×((Int×(List (Int×Int×List Int×List Int))×List Int×List Int)×(Int×Int×List (List Int))×(Int×Int×List (List Int))))×Bool):=
 (lU p_ a_).bind fun y0=>
 (lU p_ b_).bind fun y1=>
 (cond y0.2
 (cond y1.2
 ((some (decide (y0.1.2.2.1=y1.1.2.2.1))).bind fun a0=>
 cond a0
 ((some (decide (y0.1.2.2.2.1=y1.1.2.2.2.1))).bind fun a1=>
 some (p_,y0.1.1.1,y0.1.2.2.2.2,y1.1.1.1,y1.1.1.2.1,y1.1.1.2.2.1,y1.1.1.2.2.2,y1.1.2.1.1,y1.1.2.1.2.1,y1.1.2.1.2.2,y1.1.2.2.1,y1.1.2.2.2.1,y0.1.1.2.1,y1.1.2.2.2.2,y0.1.1.2.2.1,y0.1.1.2.2.2,y0.1.2.1.1,y0.1.2.1.2.1,y0.1.2.1.2.2,y0.1.2.2.1,y0.1.2.2.2.1,a1))
 (some (p_,y0.1.1.1,y0.1.2.2.2.2,y1.1.1.1,y1.1.1.2.1,y1.1.1.2.2.1,y1.1.1.2.2.2,y1.1.2.1.1,y1.1.2.1.2.1,y1.1.2.1.2.2,y1.1.2.2.1,y1.1.2.2.2.1,y0.1.1.2.1,y1.1.2.2.2.2,y0.1.1.2.2.1,y0.1.1.2.2.2,y0.1.2.1.1,y0.1.2.1.2.1,y0.1.2.1.2.2,y0.1.2.2.1,y0.1.2.2.2.1,false)))
 (some (p_,y0.1.1.1,y0.1.2.2.2.2,y1.1.1.1,y1.1.1.2.1,y1.1.1.2.2.1,y1.1.1.2.2.2,y1.1.2.1.1,y1.1.2.1.2.1,y1.1.2.1.2.2,y1.1.2.2.1,y1.1.2.2.2.1,y0.1.1.2.1,y1.1.2.2.2.2,y0.1.1.2.2.1,y0.1.1.2.2.2,y0.1.2.1.1,y0.1.2.1.2.1,y0.1.2.1.2.2,y0.1.2.2.1,y0.1.2.2.2.1,false)))
 (some (p_,y0.1.1.1,y0.1.2.2.2.2,y1.1.1.1,y1.1.1.2.1,y1.1.1.2.2.1,y1.1.1.2.2.2,y1.1.2.1.1,y1.1.2.1.2.1,y1.1.2.1.2.2,y1.1.2.2.1,y1.1.2.2.2.1,y0.1.1.2.1,y1.1.2.2.2.2,y0.1.1.2.2.1,y0.1.1.2.2.2,y0.1.2.1.1,y0.1.2.1.2.1,y0.1.2.1.2.2,y0.1.2.2.1,y0.1.2.2.2.1,false))).bind fun (s0:Int×Int×List (List Int)×Int×(List (Int×Int×List Int×List Int))×List Int×List Int×Int×Int×List (List Int)×Int×Int×(List (Int×Int×List Int×List Int))×List (List Int)×List Int×List Int×Int×Int×List (List Int)×Int×Int×Bool)=>
 some ((s0.1,((s0.2.1,s0.2.2.2.2.2.2.2.2.2.2.2.2.1,s0.2.2.2.2.2.2.2.2.2.2.2.2.2.2.1,s0.2.2.2.2.2.2.2.2.2.2.2.2.2.2.2.1),(s0.2.2.2.2.2.2.2.2.2.2.2.2.2.2.2.2.1,s0.2.2.2.2.2.2.2.2.2.2.2.2.2.2.2.2.2.1,s0.2.2.2.2.2.2.2.2.2.2.2.2.2.2.2.2.2.2.1),(s0.2.2.2.2.2.2.2.2.2.2.2.2.2.2.2.2.2.2.2.1,s0.2.2.2.2.2.2.2.2.2.2.2.2.2.2.2.2.2.2.2.2.1,s0.2.2.1)),((s0.2.2.2.1,s0.2.2.2.2.1,s0.2.2.2.2.2.1,s0.2.2.2.2.2.2.1),(s0.2.2.2.2.2.2.2.1,s0.2.2.2.2.2.2.2.2.1,s0.2.2.2.2.2.2.2.2.2.1),(s0.2.2.2.2.2.2.2.2.2.2.1,s0.2.2.2.2.2.2.2.2.2.2.2.1,s0.2.2.2.2.2.2.2.2.2.2.2.2.2.1))),s0.2.2.2.2.2.2.2.2.2.2.2.2.2.2.2.2.2.2.2.2.2)
def BP_ (s1_:List Int) (s2_:List Int):Option Bool:=
 (some (!decide (((s1_.length:Nat):Int)=((s2_.length:Nat):Int)))).bind fun a3=>
 cond a3
 (some false)
 (uB (dC (fun (k6:Nat) (_:Unit)=>
 (idxO s1_ ((k6:Nat):Int)).bind fun a0=>
 (idxO s2_ ((k6:Nat):Int)).bind fun a1=>
 (some (!decide (a0=a1))).bind fun a2=>
 cond a2
 (some (.inr false))
 (some (.inl ()))) s1_.length 0 ()) fun (_:Unit)=>
 some true)
def BK_ (s1_:List (List Int)) (s2_:List (List Int)):Option Bool:=
 (some (!decide (((s1_.length:Nat):Int)=((s2_.length:Nat):Int)))).bind fun a3=>
 cond a3
 (some false)
 (uB (dC (fun (k6:Nat) (_:Unit)=>
 (idxO s1_ ((k6:Nat):Int)).bind fun a0=>
 (idxO s2_ ((k6:Nat):Int)).bind fun a1=>
 (BP_ a0 a1).bind fun y0=>
 (some (!y0)).bind fun a2=>
 cond a2
 (some (.inr false))
 (some (.inl ()))) s1_.length 0 ()) fun (_:Unit)=>
 some true)
def dQ (a_:List (List Int)) (b_:List (List Int)):Option Bool:=
 (BK_ a_ b_).bind fun y3=>
 some y3
def cT (p_:Int) (terms_:List (List (Int×Int×ByteArray))):Option (List (List Int)×Bool):=
 (dH ((terms_.length:Nat):Int) 1 10).bind fun y5=>
 (some (!y5)).bind fun a8=>
 cond a8
 (some ([],false))
 (nB (fun (_:Unit)=>
 uB (dC (fun (k0:Nat) (s0:List (List Int))=>
 uB ((idxO terms_ ((k0:Nat):Int)).bind fun a0=>
 ((idxO terms_ 0).bind fun a1=>
 (cK p_ a1 a0).bind fun y0=>
 some y0.2).bind fun (s1:Bool)=>
 (some (!s1)).bind fun a2=>
 cond a2
 (some (.inr (.inr (.inr ([],false)))))
 (uB (dC (fun (k1:Nat) (_:Unit)=>
 (idxO s0 ((k1:Nat):Int)).bind fun a3=>
 ((idxO a3 0).bind fun a4=>
 (idxO terms_ a4).bind fun a5=>
 (cK p_ a5 a0).bind fun y1=>
 some (y1.1.1,y1.1.2.1.1.1,y1.1.2.1.2.2.2.2,y1.1.2.2.1.1,y1.1.2.2.1.2.1,y1.1.2.2.1.2.2.1,y1.1.2.2.1.2.2.2,y1.1.2.2.2.1.1,y1.1.2.2.2.1.2.1,y1.1.2.2.2.1.2.2,y1.1.2.2.2.2.1,y1.1.2.2.2.2.2.1,y1.1.2.1.1.2.1,y1.1.2.2.2.2.2.2,y1.1.2.1.1.2.2.1,y1.1.2.1.1.2.2.2,y1.1.2.1.2.1.1,y1.1.2.1.2.1.2.1,y1.1.2.1.2.1.2.2,y1.1.2.1.2.2.1,y1.1.2.1.2.2.2.1)).bind fun (s2:Int×Int×List (List Int)×Int×(List (Int×Int×List Int×List Int))×List Int×List Int×Int×Int×List (List Int)×Int×Int×(List (Int×Int×List Int×List Int))×List (List Int)×List Int×List Int×Int×Int×List (List Int)×Int×Int)=>
 (dQ s2.2.2.1 s2.2.2.2.2.2.2.2.2.2.2.2.2.2.1).bind fun y2=>
 cond y2
 ((nA a3 [((k0:Nat):Int)]).bind fun a6=>
 (setO s0 ((k1:Nat):Int) a6).bind fun a7=>
 some (.inr (.inl (a7,a7))))
 (some (.inl ()))) s0.length 0 ()) fun (_:Unit)=>
 (nA s0 [[((k0:Nat):Int)]]).bind fun a9=>
 some (.inl (s0,a9)))) fun (s3:List (List Int)×List (List Int))=>
 some (.inl s3.2)) terms_.length 0 ([]:List (List Int))) fun (s4:List (List Int))=>
 some (.inr (s4,true))) ())
def tZ (a_:List Int) (b_:List Int):Option Bool:=
 (some (!decide (((a_.length:Nat):Int)=((b_.length:Nat):Int)))).bind fun a3=>
 cond a3
 (some false)
 (uB (nB (fun (s0:Int)=>
 (some (decide (s0<((a_.length:Nat):Int)))).bind fun a0=>
 cond a0
 ((idxO a_ s0).bind fun a1=>
 (idxO b_ s0).bind fun a2=>
 (some (!decide (a1=a2))).bind fun a4=>
 cond a4
 (some (.inr (.inr false)))
 ((mA s0 1).bind fun a5=>
 some (.inl a5)))
 (some (.inr (.inl ())))) 0) fun (s1:Unit)=>
 some true)
def sM (a_:List (List Int)) (b_:List (List Int)):Option Bool:=
 (some (!decide (((a_.length:Nat):Int)=((b_.length:Nat):Int)))).bind fun a3=>
 cond a3
 (some false)
 (uB (nB (fun (s0:Int)=>
 (some (decide (s0<((a_.length:Nat):Int)))).bind fun a0=>
 cond a0
 ((idxO a_ s0).bind fun a1=>
 (idxO b_ s0).bind fun a2=>
 (tZ a1 a2).bind fun y0=>
 (some (!y0)).bind fun a4=>
 cond a4
 (some (.inr (.inr false)))
 ((mA s0 1).bind fun a5=>
 some (.inl a5)))
 (some (.inr (.inl ())))) 0) fun (s1:Unit)=>
 some true)
def sZ (a_:Int×Int×ByteArray) (b_:Int×Int×ByteArray):Option Bool:=
 (some (!decide (a_.1=b_.1))).bind fun a7=>
 cond a7
 (some false)
 ((some (!decide (a_.2.1=b_.2.1))).bind fun a0=>
 cond a0
 (some false)
 ((some (!decide ((a_.2.2:ByteArray)=b_.2.2))).bind fun a1=>
 cond a1
 (some false)
 (some true)))
def iZ (a_:List (Int×Int×ByteArray)) (b_:List (Int×Int×ByteArray)):Option Bool:=
 (some (!decide (((a_.length:Nat):Int)=((b_.length:Nat):Int)))).bind fun a3=>
 cond a3
 (some false)
 (uB (nB (fun (s0:Int)=>
 (some (decide (s0<((a_.length:Nat):Int)))).bind fun a0=>
 cond a0
 ((idxO a_ s0).bind fun a1=>
 (idxO b_ s0).bind fun a2=>
 (sZ (a1.1,a1.2.1,a1.2.2) (a2.1,a2.2.1,a2.2.2)).bind fun y0=>
 (some (!y0)).bind fun a4=>
 cond a4
 (some (.inr (.inr false)))
 ((mA s0 1).bind fun a5=>
 some (.inl a5)))
 (some (.inr (.inl ())))) 0) fun (s1:Unit)=>
 some true)
def rZ (a_:(List (Int×Int×ByteArray))) (b_:(List (Int×Int×ByteArray))):Option Bool:=
 (iZ a_ b_).bind fun y9=>
 (some (!y9)).bind fun a0=>
 cond a0
 (some false)
 (some true)
def hZ (a_:List (List (Int×Int×ByteArray))) (b_:List (List (Int×Int×ByteArray))):Option Bool:=
 (some (!decide (((a_.length:Nat):Int)=((b_.length:Nat):Int)))).bind fun a3=>
 cond a3
 (some false)
 (uB (nB (fun (s0:Int)=>
 (some (decide (s0<((a_.length:Nat):Int)))).bind fun a0=>
 cond a0
 ((idxO a_ s0).bind fun a1=>
 (idxO b_ s0).bind fun a2=>
 (rZ a1 a2).bind fun y0=>
 (some (!y0)).bind fun a4=>
 cond a4
 (some (.inr (.inr false)))
 ((mA s0 1).bind fun a5=>
 some (.inl a5)))
 (some (.inr (.inl ())))) 0) fun (s1:Unit)=>
 some true)
def vY (k_:Int):Option ByteArray:=
 (some (decide (k_≤0))).bind fun a1=>
 cond a1
 (some ⟨#[109,48]⟩)
 ((nB (fun (s0:Int×ByteArray)=>
 (some (decide ((0:Int)<s0.1))).bind fun a0=>
 cond a0
 ((qD s0.1 10).bind fun a2=>
 (mA 48 a2).bind fun a3=>
 (some (a3 % 256)).bind fun a4=>
 (some (tO ([a4]:List By))).bind fun a5=>
 (catO a5 s0.2).bind fun a6=>
 (gM s0.1 10).bind fun a7=>
 some (.inl (a7,a6)))
 (some (.inr s0.2))) (k_,.empty)).bind fun (s1:ByteArray)=>
 (catO ⟨#[109]⟩ s1).bind fun a8=>
 some a8)
def qY (a_:List (Int×Int×ByteArray)) (k_:Int):Option ((List (Int×Int×ByteArray))×Int):=
 (nB (fun (s0:(List (Int×Int×ByteArray))×Int×Int)=>
 (some (decide (s0.2.2<((s0.1.length:Nat):Int)))).bind fun a0=>
 cond a0
 ((idxO s0.1 s0.2.2).bind fun a1=>
 (setO s0.1 s0.2.2 (s0.2.1,a1.2.1,a1.2.2)).bind fun a2=>
 (mA s0.2.1 1).bind fun a3=>
 (idxO a2 s0.2.2).bind fun a4=>
 (setO a2 s0.2.2 (a4.1,a3,a4.2.2)).bind fun a5=>
 (mA a3 1).bind fun a6=>
 (vY a6).bind fun y0=>
 (idxO a5 s0.2.2).bind fun a7=>
 (setO a5 s0.2.2 (a7.1,a7.2.1,y0)).bind fun a8=>
 (mA a6 1).bind fun a9=>
 (mA s0.2.2 1).bind fun a10=>
 some (.inl (a8,a9,a10)))
 (some (.inr (s0.1,s0.2.1)))) (a_,k_,0)).bind fun (s1:(List (Int×Int×ByteArray))×Int)=>
 some (s1.1,s1.2)
def pY (a_:List (List (Int×Int×ByteArray))) (k_:Int):Option ((List (List (Int×Int×ByteArray)))×Int):=
 (nB (fun (s0:(List (List (Int×Int×ByteArray)))×Int×Int)=>
 (some (decide (s0.2.2<((s0.1.length:Nat):Int)))).bind fun a0=>
 cond a0
 ((idxO s0.1 s0.2.2).bind fun a1=>
 (qY a1 s0.2.1).bind fun y0=>
 (setO s0.1 s0.2.2 y0.1).bind fun a2=>
 (mA s0.2.2 1).bind fun a3=>
 some (.inl (a2,y0.2,a3)))
 (some (.inr (s0.1,s0.2.1)))) (a_,k_,0)).bind fun (s1:(List (List (Int×Int×ByteArray)))×Int)=>
 some (s1.1,s1.2)
def wY (a_:List Int) (k_:Int):Option (List Int×Int):=
 (nB (fun (s0:List Int×Int×Int)=>
 (some (decide (s0.2.2<((s0.1.length:Nat):Int)))).bind fun a0=>
 cond a0
 ((setO s0.1 s0.2.2 s0.2.1).bind fun a1=>
 (mA s0.2.1 1).bind fun a2=>
 (mA s0.2.2 1).bind fun a3=>
 some (.inl (a1,a2,a3)))
 (some (.inr (s0.1,s0.2.1)))) (a_,k_,0)).bind fun (s1:List Int×Int)=>
 some (s1.1,s1.2)
def gT (a_:List (List Int)) (k_:Int):Option (List (List Int)×Int):=
 (nB (fun (s0:List (List Int)×Int×Int)=>
 (some (decide (s0.2.2<((s0.1.length:Nat):Int)))).bind fun a0=>
 cond a0
 ((idxO s0.1 s0.2.2).bind fun a1=>
 (wY a1 s0.2.1).bind fun y0=>
 (setO s0.1 s0.2.2 y0.1).bind fun a2=>
 (mA s0.2.2 1).bind fun a3=>
 some (.inl (a2,y0.2,a3)))
 (some (.inr (s0.1,s0.2.1)))) (a_,k_,0)).bind fun (s1:List (List Int)×Int)=>
 some (s1.1,s1.2)
def xY (a_:List Int) (k_:Int):Option Int:=
 uB (nB (fun (s0:Int×Int)=>
 (some (decide (s0.2<((a_.length:Nat):Int)))).bind fun a0=>
 cond a0
 ((idxO a_ s0.2).bind fun a1=>
 (some (!decide (a1=s0.1))).bind fun a2=>
 cond a2
 (some (.inr (.inr (-1))))
 ((mA s0.1 1).bind fun a3=>
 (mA s0.2 1).bind fun a4=>
 some (.inl (a3,a4))))
 (some (.inr (.inl s0.1)))) (k_,0)) fun (s1:Int)=>
 some s1
def vP (a_:List (List Int)) (k_:Int):Option Int:=
 uB (nB (fun (s0:Int×Int)=>
 (some (decide (s0.2<((a_.length:Nat):Int)))).bind fun a0=>
 cond a0
 ((idxO a_ s0.2).bind fun a1=>
 (xY a1 s0.1).bind fun y0=>
 (some (decide (y0<0))).bind fun a2=>
 cond a2
 (some (.inr (.inr (-1))))
 ((mA s0.2 1).bind fun a3=>
 some (.inl (y0,a3))))
 (some (.inr (.inl s0.1)))) (k_,0)) fun (s1:Int)=>
 some s1
def BL_ (aP_:Int) (aTerms_:List (List (Int×Int×ByteArray))):Option Bool:=
 (fZ aTerms_ 1048576).bind fun y3=>
 (some (decide (y3<0))).bind fun a6=>
 cond a6
 (some true)
 ((xN aTerms_).bind fun y9=>
 (eY aP_ y9).bind fun y0=>
 (xN aTerms_).bind fun y1=>
 (cT aP_ y1).bind fun y2=>
 ((sM y2.1 y0.1).bind fun y4=>
 (some (!y4)).bind fun a0=>
 cond a0
 (some true)
 ((some (!decide (y2.2=y0.2))).bind fun a1=>
 some a1)).bind fun (s0:Bool)=>
 cond s0
 (some false)
 ((xN aTerms_).bind fun y5=>
 (hZ y1 y5).bind fun y6=>
 (some (!y6)).bind fun a2=>
 cond a2
 (some false)
 ((pY y1 1).bind fun y7=>
 ((some (decide (y7.2<0))).bind fun a3=>
 cond a3
 (some true)
 ((sM y2.1 y0.1).bind fun y8=>
 (some (!y8)).bind fun a4=>
 cond a4
 (some true)
 ((some (!decide (y2.2=y0.2))).bind fun a5=>
 some a5))).bind fun (s1:Bool)=>
 cond s1
 (some false)
 ((gT y2.1 1).bind fun y10=>
 (vP y10.1 1).bind fun y11=>
 (some (decide (y11<0))).bind fun a7=>
 cond a7
 (some false)
 ((some (!decide (y11=y10.2))).bind fun a8=>
 cond a8
 (some false)
 ((xN aTerms_).bind fun y12=>
 (cT aP_ y12).bind fun y13=>
 ((sM y13.1 y0.1).bind fun y15=>
 (some (!y15)).bind fun a9=>
 cond a9
 (some true)
 ((some (!decide (y13.2=y0.2))).bind fun a10=>
 some a10)).bind fun (s2:Bool)=>
 cond s2
 (some false)
 ((vP y10.1 1).bind fun y16=>
 (some (decide (y16<0))).bind fun a11=>
 cond a11
 (some false)
 ((some (!decide (y16=y10.2))).bind fun a12=>
 cond a12
 (some false)
 (some true)))))))))
end
end Go.Proofs.YtemcakhocdchiaaGreatDoor
