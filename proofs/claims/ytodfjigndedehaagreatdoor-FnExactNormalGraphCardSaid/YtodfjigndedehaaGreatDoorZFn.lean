/-
 Partial functions, printed by a program (wip/y/gen.py): what each function of Go computes, over plain data. No program in sight. No condition.
-/
import Derived.Test.YtodfjigndedehaaGreatDoorZF
namespace Go.Proofs.YtodfjigndedehaaGreatDoor
set_option linter.unusedVariables false
noncomputable section
def Af_ (a_:Int×Int×ByteArray) (left_:Int):Option Int:=
 (subO left_ ((a_.2.2.size:Nat):Int)).bind fun a4=>
 (some (decide (a4<0))).bind fun a6=>
 cond a6
 (some (-1))
 (some a4)
def tZ (a_:List (Int×Int×ByteArray)) (left_:Int):Option Int:=
 (subO left_ ((a_.length:Nat):Int)).bind fun a2=>
 (some (decide (a2<0))).bind fun a4=>
 cond a4
 (some (-1))
 (pC (qB (fun (s0:Int×Int)=>
 (some (decide (s0.2<((a_.length:Nat):Int)))).bind fun a0=>
 cond a0
 ((idxO a_ s0.2).bind fun a1=>
 (Af_ (a1.1,a1.2.1,a1.2.2) s0.1).bind fun y0=>
 (some (decide (y0<0))).bind fun a3=>
 cond a3
 (some (.inr (.inr (-1))))
 ((nA s0.2 1).bind fun a5=>
 some (.inl (y0,a5))))
 (some (.inr (.inl s0.1)))) (a2,0)) fun (s1:Int)=>
 some s1)
def Ae_ (a_:(List (Int×Int×ByteArray))) (left_:Int):Option Int:=
 (tZ a_ left_).bind fun y5=>
 (some (decide (y5<0))).bind fun a8=>
 cond a8
 (some (-1))
 (some y5)
def Ad_ (a_:Int×Int×ByteArray):Option (Int×Int×ByteArray):=
 some (a_.1,a_.2.1,a_.2.2)
def sZ (a_:List (Int×Int×ByteArray)):Option (List (Int×Int×ByteArray)):=
 (bD ((a_.length:Nat):Int) ((0,0,.empty):Int×Int×ByteArray)).bind fun a2=>
 (qB (fun (s0:(List (Int×Int×ByteArray))×Int)=>
 (some (decide (s0.2<((a_.length:Nat):Int)))).bind fun a0=>
 cond a0
 ((idxO a_ s0.2).bind fun a1=>
 (Ad_ (a1.1,a1.2.1,a1.2.2)).bind fun y0=>
 (setO s0.1 s0.2 (y0.1,y0.2.1,y0.2.2)).bind fun a3=>
 (nA s0.2 1).bind fun a4=>
 some (.inl (a3,a4)))
 (some (.inr s0.1))) (a2,0)).bind fun (s1:List (Int×Int×ByteArray))=>
 some s1
def wN (a_:(List (Int×Int×ByteArray))):Option (List (Int×Int×ByteArray)):=
 (sZ a_).bind fun y0=>
 some y0
def wH (n_:Int) (lo_:Int) (hi_:Int):Option Bool:=
 ((some (decide (lo_≤n_))).bind fun a0=>
 cond a0
 ((some (decide (n_≤hi_))).bind fun a1=>
 some a1)
 (some false)).bind fun (s7:Bool)=>
 some s7
def jH (n_:Int×Int×ByteArray):Option Bool:=
 ((some (!decide ((n_.2.2:ByteArray)=.empty))).bind fun a0=>
 cond a0
 (some true)
 ((wH n_.1 1 14).bind fun y0=>
 (some (!y0)).bind fun a1=>
 some a1)).bind fun (s0:Bool)=>
 cond s0
 (some false)
 ((some (decide (n_.1=1))).bind fun a2=>
 cond a2
 ((wH n_.2.1 0 12).bind fun y1=>
 some y1)
 (((some (decide (n_.1=7))).bind fun a3=>
 cond a3
 (some true)
 ((some (decide (n_.1=13))).bind fun a4=>
 some a4)).bind fun (s1:Bool)=>
 cond s1
 ((wH n_.2.1 0 96).bind fun y2=>
 some y2)
 ((some (decide (n_.2.1=0))).bind fun a5=>
 some a5)))
def vN (kind_:Int):Option (Int×Int):=
 (some (decide (kind_=2))).bind fun a1=>
 cond a1
 (some (2,2))
 (((some (decide (kind_=3))).bind fun a0=>
 cond a0
 (some true)
 ((some (decide (kind_=11))).bind fun a2=>
 some a2)).bind fun (s0:Bool)=>
 cond s0
 (some (1,2))
 (((some (decide (kind_=4))).bind fun a3=>
 cond a3
 (some true)
 ((some (decide (kind_=12))).bind fun a4=>
 some a4)).bind fun (s1:Bool)=>
 cond s1
 (some (1,0))
 (((some (decide (kind_=5))).bind fun a5=>
 cond a5
 (some true)
 ((some (decide (kind_=9))).bind fun a6=>
 some a6)).bind fun (s2:Bool)=>
 cond s2
 (some (2,1))
 (((some (decide (kind_=6))).bind fun a7=>
 cond a7
 (some true)
 ((some (decide (kind_=10))).bind fun a8=>
 some a8)).bind fun (s3:Bool)=>
 cond s3
 (some (0,1))
 (some (1,1))))))
def xP (n_:Int×Int×ByteArray):Option (Int×Int):=
 (some (decide (n_.1=1))).bind fun a4=>
 cond a4
 (some (n_.2.1,n_.2.1))
 ((vN n_.1).bind fun y7=>
 some (y7.1,y7.2))
def wT (lib_:List (ByteArray×Int×Int×(List (Int×Int×ByteArray)))) (name_:ByteArray):Option Int:=
 pC (zC (fun (k2:Nat) (_:Unit)=>
 (idxO lib_ ((k2:Nat):Int)).bind fun a0=>
 (some (decide ((a0.1:ByteArray)=name_))).bind fun a1=>
 cond a1
 (some (.inr ((k2:Nat):Int)))
 (some (.inl ()))) lib_.length 0 ()) fun (_:Unit)=>
 some (-1)
def vT (lib_:List (ByteArray×Int×Int×(List (Int×Int×ByteArray)))) (t_:(List (Int×Int×ByteArray))):Option ((List Int×List Int×List Int)×Bool):=
 (wH ((t_.length:Nat):Int) 1 400).bind fun y0=>
 (some (!y0)).bind fun a0=>
 cond a0
 (some (([],[],[]),false))
 (pC (zC (fun (k0:Nat) (s0:List Int×List Int×List Int)=>
 pC ((idxO t_ ((k0:Nat):Int)).bind fun a1=>
 ((jH (a1.1,a1.2.1,a1.2.2)).bind fun y1=>
 cond y1
 (some true)
 ((some (decide (a1.1=17))).bind fun a2=>
 some a2)).bind fun (s1:Bool)=>
 cond s1
 ((xP (a1.1,a1.2.1,a1.2.2)).bind fun y2=>
 pC ((some (decide (a1.1=17))).bind fun a3=>
 cond a3
 ((wT lib_ a1.2.2).bind fun y3=>
 ((some (decide (y3<0))).bind fun a4=>
 cond a4
 (some true)
 ((some (!decide (a1.2.1=0))).bind fun a5=>
 some a5)).bind fun (s2:Bool)=>
 cond s2
 (some (.inr (.inr (.inr ((s0.1,s0.2.1,s0.2.2),false)))))
 ((idxO lib_ y3).bind fun a6=>
 (idxO lib_ y3).bind fun a7=>
 some (.inl (a7.2.2.1,a6.2.1))))
 (some (.inl (y2.2,y2.1)))) fun (s3:Int×Int)=>
 (oA s0.1 [((k0:Nat):Int)]).bind fun a8=>
 (oA s0.2.1 [s3.2]).bind fun a9=>
 (oA s0.2.2 [s3.1]).bind fun a10=>
 some (.inl (a8,a9,a10)))
 (((some (!decide (a1.1=15))).bind fun a11=>
 cond a11
 ((some (!decide (a1.1=16))).bind fun a12=>
 cond a12
 (some true)
 ((some (!decide ((a1.2.2:ByteArray)=.empty))).bind fun a13=>
 cond a13
 (some true)
 ((some (!decide (a1.2.1=0))).bind fun a14=>
 cond a14
 (some true)
 ((some (decide (((k0:Nat):Int)<2))).bind fun a16=>
 cond a16
 (some true)
 ((subO ((k0:Nat):Int) 1).bind fun a17=>
 (idxO s0.1 a17).bind fun a18=>
 (some (decide (a18<1))).bind fun a19=>
 some a19)))))
 ((some (!decide ((a1.2.2:ByteArray)=.empty))).bind fun a20=>
 cond a20
 (some true)
 ((some (!decide (a1.2.1=0))).bind fun a21=>
 cond a21
 (some true)
 ((some (decide (((k0:Nat):Int)<2))).bind fun a22=>
 cond a22
 (some true)
 ((subO ((k0:Nat):Int) 1).bind fun a23=>
 (idxO s0.1 a23).bind fun a24=>
 (some (decide (a24<1))).bind fun a25=>
 some a25))))).bind fun (s4:Bool)=>
 cond s4
 (some (.inr (.inr ((s0.1,s0.2.1,s0.2.2),false))))
 ((subO ((k0:Nat):Int) 1).bind fun a26=>
 (idxO s0.1 a26).bind fun a27=>
 (subO a27 1).bind fun a28=>
 (idxO s0.2.1 a28).bind fun a29=>
 (idxO s0.2.1 a26).bind fun a30=>
 (nA a29 a30).bind fun a31=>
 (idxO s0.2.2 a28).bind fun a32=>
 (idxO s0.2.2 a26).bind fun a33=>
 (nA a32 a33).bind fun a34=>
 pC ((some (decide (a1.1=15))).bind fun a35=>
 cond a35
 ((idxO s0.2.2 a28).bind fun a36=>
 (idxO s0.2.1 a26).bind fun a37=>
 (some (!decide (a36=a37))).bind fun a38=>
 cond a38
 (some (.inr (.inr (.inr ((s0.1,s0.2.1,s0.2.2),false)))))
 ((idxO s0.2.1 a28).bind fun a39=>
 (idxO s0.2.2 a26).bind fun a40=>
 some (.inl (a39,a40))))
 (some (.inl (a31,a34)))) fun (s5:Int×Int)=>
 ((some (decide ((12:Int)<s5.1))).bind fun a41=>
 cond a41
 (some true)
 ((some (decide ((12:Int)<s5.2))).bind fun a42=>
 some a42)).bind fun (s6:Bool)=>
 cond s6
 (some (.inr (.inr ((s0.1,s0.2.1,s0.2.2),false))))
 ((idxO s0.1 a28).bind fun a43=>
 (oA s0.1 [a43]).bind fun a44=>
 (oA s0.2.1 [s5.1]).bind fun a45=>
 (oA s0.2.2 [s5.2]).bind fun a46=>
 some (.inl (a44,a45,a46)))))) fun (s7:List Int×List Int×List Int)=>
 some (.inl (s7.1,s7.2.1,s7.2.2))) t_.length 0 ([],[],[])) fun (s8:List Int×List Int×List Int)=>
 (subO ((t_.length:Nat):Int) 1).bind fun a47=>
 (idxO s8.1 a47).bind fun a48=>
 (some (decide (a48=0))).bind fun a49=>
 some ((s8.1,s8.2.1,s8.2.2),a49))
def yZ (t_:(List (Int×Int×ByteArray))):Option ((List Int×List Int×List Int)×Bool):=
 (vT [] t_).bind fun y9=>
 some ((y9.1.1,y9.1.2.1,y9.1.2.2),y9.2)
def cQ (p_:Int):Option Bool:=
 (wH p_ 2 97).bind fun y1=>
 (some (!y1)).bind fun a4=>
 cond a4
 (some false)
 (pC (qB (fun (s0:Int)=>
 (sF s0 s0).bind fun a0=>
 (some (decide (a0≤p_))).bind fun a1=>
 cond a1
 ((nD p_ s0).bind fun a2=>
 (some (decide (a2=0))).bind fun a3=>
 cond a3
 (some (.inr (.inr false)))
 ((nA s0 1).bind fun a5=>
 some (.inl a5)))
 (some (.inr (.inl ())))) 2) fun (s1:Unit)=>
 some true)
def sT (p_:Int) (t_:(List (Int×Int×ByteArray))):Option Bool:=
 (yZ t_).bind fun y5=>
 ((some (!y5.2)).bind fun a0=>
 cond a0
 (some true)
 ((cQ p_).bind fun y0=>
 (some (!y0)).bind fun a1=>
 some a1)).bind fun (s0:Bool)=>
 cond s0
 (some false)
 (pC (zC (fun (k0:Nat) (_:Unit)=>
 (idxO t_ ((k0:Nat):Int)).bind fun a2=>
 ((some (decide (a2.1=7))).bind fun a3=>
 cond a3
 ((some (decide (p_≤a2.2.1))).bind fun a4=>
 some a4)
 ((some (decide (a2.1=13))).bind fun a5=>
 cond a5
 ((some (decide (p_≤a2.2.1))).bind fun a6=>
 some a6)
 (some false))).bind fun (s1:Bool)=>
 cond s1
 (some (.inr false))
 (some (.inl ()))) t_.length 0 ()) fun (_:Unit)=>
 some true)
def uK (kind_:Int):Option Bool:=
 ((some (!decide (kind_=8))).bind fun a0=>
 cond a0
 ((some (!decide (kind_=14))).bind fun a1=>
 some a1)
 (some false)).bind fun (s7:Bool)=>
 some s7
def As_ (n_:Int):Option (Int×(List (Int×Int×List Int×List Int))×List Int×List Int):=
 (qB (fun (s0:List Int×List Int×Int)=>
 (some (decide (s0.2.2<n_))).bind fun a0=>
 cond a0
 ((oA s0.1 [s0.2.2]).bind fun a1=>
 (oA s0.2.1 [s0.2.2]).bind fun a2=>
 (nA s0.2.2 1).bind fun a3=>
 some (.inl (a1,a2,a3)))
 (some (.inr (s0.1,s0.2.1)))) ([],[],0)).bind fun (s1:List Int×List Int)=>
 some (n_,[],s1.1,s1.2)
def xT (x_:Int×Int×ByteArray):Option (Int×(List (Int×Int×List Int×List Int))×List Int×List Int):=
 (some (decide (x_.1=1))).bind fun a7=>
 cond a7
 ((As_ x_.2.1).bind fun y0=>
 some (y0.1,y0.2.1,y0.2.2.1,y0.2.2.2))
 ((some (decide (x_.1=2))).bind fun a0=>
 cond a0
 (some (2,[],[0,1],[1,0]))
 ((vN x_.1).bind fun y1=>
 (nA y1.1 y1.2).bind fun a1=>
 (qB (fun (s0:List Int×List Int×List Int×List Int×Int)=>
 (nA y1.1 y1.2).bind fun a2=>
 (some (decide (s0.2.2.2.2<a2))).bind fun a3=>
 cond a3
 ((some (decide (s0.2.2.2.2<y1.1))).bind fun a4=>
 cond a4
 ((oA s0.1 [s0.2.2.2.2]).bind fun a5=>
 (oA s0.2.2.1 [s0.2.2.2.2]).bind fun a6=>
 (nA s0.2.2.2.2 1).bind fun a8=>
 some (.inl (a5,s0.2.1,a6,s0.2.2.2.1,a8)))
 ((oA s0.2.1 [s0.2.2.2.2]).bind fun a9=>
 (oA s0.2.2.2.1 [s0.2.2.2.2]).bind fun a11=>
 (nA s0.2.2.2.2 1).bind fun a12=>
 some (.inl (s0.1,a9,s0.2.2.1,a11,a12))))
 (some (.inr (s0.1,s0.2.1,s0.2.2.1,s0.2.2.2.1)))) ([],[],[],[],0)).bind fun (s1:List Int×List Int×List Int×List Int)=>
 some (a1,[(x_.1,x_.2.1,s1.2.2.1,s1.2.2.2)],s1.1,s1.2.1)))
def aL (l_:List Int) (lo_:Int) (hi_:Int):Option Bool:=
 pC (zC (fun (k2:Nat) (_:Unit)=>
 (idxO l_ ((k2:Nat):Int)).bind fun a0=>
 (wH a0 lo_ hi_).bind fun y0=>
 (some (!y0)).bind fun a1=>
 cond a1
 (some (.inr false))
 (some (.inl ()))) l_.length 0 ()) fun (_:Unit)=>
 some true
def yT (e_:Int×Int×List Int×List Int) (wires_:Int):Option Bool:=
 ((wH e_.1 3 14).bind fun y0=>
 (some (!y0)).bind fun a0=>
 cond a0
 (some true)
 ((jH (e_.1,e_.2.1,.empty)).bind fun y1=>
 (some (!y1)).bind fun a1=>
 some a1)).bind fun (s0:Bool)=>
 cond s0
 (some false)
 ((vN e_.1).bind fun y2=>
 ((some (decide (((e_.2.2.1.length:Nat):Int)=y2.1))).bind fun a2=>
 cond a2
 ((some (decide (((e_.2.2.2.length:Nat):Int)=y2.2))).bind fun a3=>
 cond a3
 ((subO wires_ 1).bind fun a4=>
 (aL e_.2.2.1 0 a4).bind fun y3=>
 cond y3
 ((subO wires_ 1).bind fun a5=>
 (aL e_.2.2.2 0 a5).bind fun y4=>
 some y4)
 (some false))
 (some false))
 (some false)).bind fun (s1:Bool)=>
 some s1)
def kZ (g_:Int×(List (Int×Int×List Int×List Int))×List Int×List Int):Option (List Int×List Int):=
 (bD g_.1 (0:Int)).bind fun a7=>
 (bD g_.1 (0:Int)).bind fun a0=>
 (forS (fun (k0:Nat) (s0:List Int)=>
 (idxO g_.2.2.1 ((k0:Nat):Int)).bind fun a1=>
 (idxO s0 a1).bind fun a2=>
 (nA a2 1).bind fun a3=>
 (setO s0 a1 a3).bind fun a4=>
 some a4) g_.2.2.1.length 0 a7).bind fun (s1:List Int)=>
 (forS (fun (k1:Nat) (s2:List Int)=>
 (idxO g_.2.2.2 ((k1:Nat):Int)).bind fun a5=>
 (idxO s2 a5).bind fun a6=>
 (nA a6 1).bind fun a8=>
 (setO s2 a5 a8).bind fun a9=>
 some a9) g_.2.2.2.length 0 a0).bind fun (s3:List Int)=>
 (forS (fun (k2:Nat) (s4:List Int×List Int)=>
 (idxO g_.2.1 ((k2:Nat):Int)).bind fun a10=>
 (forS (fun (k3:Nat) (s5:List Int)=>
 (idxO a10.2.2.2 ((k3:Nat):Int)).bind fun a11=>
 (idxO s5 a11).bind fun a13=>
 (nA a13 1).bind fun a14=>
 (setO s5 a11 a14).bind fun a15=>
 some a15) a10.2.2.2.length 0 s4.1).bind fun (s6:List Int)=>
 (forS (fun (k4:Nat) (s7:List Int)=>
 (idxO a10.2.2.1 ((k4:Nat):Int)).bind fun a16=>
 (idxO s7 a16).bind fun a17=>
 (nA a17 1).bind fun a18=>
 (setO s7 a16 a18).bind fun a19=>
 some a19) a10.2.2.1.length 0 s4.2).bind fun (s8:List Int)=>
 some (s6,s8)) g_.2.1.length 0 (s1,s3)).bind fun (s9:List Int×List Int)=>
 some (s9.1,s9.2)
def yP (g_:Int×(List (Int×Int×List Int×List Int))×List Int×List Int):Option Bool:=
 ((wH g_.1 0 100).bind fun y0=>
 (some (!y0)).bind fun a0=>
 cond a0
 (some true)
 ((some (decide ((60:Int)<((g_.2.1.length:Nat):Int)))).bind fun a1=>
 cond a1
 (some true)
 ((some (decide ((12:Int)<((g_.2.2.1.length:Nat):Int)))).bind fun a2=>
 cond a2
 (some true)
 ((some (decide ((12:Int)<((g_.2.2.2.length:Nat):Int)))).bind fun a3=>
 cond a3
 (some true)
 ((subO g_.1 1).bind fun a4=>
 (aL g_.2.2.1 0 a4).bind fun y1=>
 (some (!y1)).bind fun a5=>
 cond a5
 (some true)
 ((subO g_.1 1).bind fun a6=>
 (aL g_.2.2.2 0 a6).bind fun y2=>
 (some (!y2)).bind fun a7=>
 some a7)))))).bind fun (s0:Bool)=>
 cond s0
 (some false)
 (pC (zC (fun (k0:Nat) (_:Unit)=>
 (idxO g_.2.1 ((k0:Nat):Int)).bind fun a8=>
 (yT (a8.1,a8.2.1,a8.2.2.1,a8.2.2.2) g_.1).bind fun y3=>
 (some (!y3)).bind fun a9=>
 cond a9
 (some (.inr false))
 (some (.inl ()))) g_.2.1.length 0 ()) fun (_:Unit)=>
 (kZ (g_.1,g_.2.1,g_.2.2.1,g_.2.2.2)).bind fun y4=>
 pC (zC (fun (k1:Nat) (_:Unit)=>
 (idxO y4.1 ((k1:Nat):Int)).bind fun a10=>
 (idxO y4.2 ((k1:Nat):Int)).bind fun a11=>
 (nA a10 a11).bind fun a12=>
 (some (decide (a12=0))).bind fun a13=>
 cond a13
 (some (.inr false))
 (some (.inl ()))) y4.1.length 0 ()) fun (_:Unit)=>
 some true)
def Aa_ (p_:Int) (g_:Int×(List (Int×Int×List Int×List Int))×List Int×List Int):Option Bool:=
 ((cQ p_).bind fun y0=>
 (some (!y0)).bind fun a0=>
 cond a0
 (some true)
 ((yP (g_.1,g_.2.1,g_.2.2.1,g_.2.2.2)).bind fun y1=>
 (some (!y1)).bind fun a1=>
 some a1)).bind fun (s0:Bool)=>
 cond s0
 (some false)
 (pC (zC (fun (k0:Nat) (_:Unit)=>
 (idxO g_.2.1 ((k0:Nat):Int)).bind fun a2=>
 (some (decide (p_≤a2.2.1))).bind fun a3=>
 cond a3
 (some (.inr false))
 (some (.inl ()))) g_.2.1.length 0 ()) fun (_:Unit)=>
 some true)
def rZ (p_:Int) (g_:Int×(List (Int×Int×List Int×List Int))×List Int×List Int):Option Bool:=
 (Aa_ p_ (g_.1,g_.2.1,g_.2.2.1,g_.2.2.2)).bind fun y7=>
 (some (!y7)).bind fun a0=>
 cond a0
 (some false)
 (pC (zC (fun (k0:Nat) (_:Unit)=>
 (idxO g_.2.1 ((k0:Nat):Int)).bind fun a1=>
 (uK a1.1).bind fun y0=>
 (some (!y0)).bind fun a2=>
 cond a2
 (some (.inr false))
 (some (.inl ()))) g_.2.1.length 0 ()) fun (_:Unit)=>
 some true)
def zK (l_:List Int):Option (List Int):=
 (oA ([]:List Int) l_).bind fun a5=>
 some a5
def An_ (p_:Int) (a_:Int) (b_:Int):Option Int:=
 (nA a_ b_).bind fun a1=>
 (nD a1 p_).bind fun a3=>
 some a3
def kF (p_:Int) (n_:Int) (at_:List Int) (values_:List Int):Option (List Int):=
 (bD n_ (0:Int)).bind fun a3=>
 (forS (fun (k8:Nat) (s0:List Int)=>
 (idxO at_ ((k8:Nat):Int)).bind fun a0=>
 (idxO s0 a0).bind fun a1=>
 (idxO values_ ((k8:Nat):Int)).bind fun a2=>
 (An_ p_ a1 a2).bind fun y0=>
 (setO s0 a0 y0).bind fun a4=>
 some a4) at_.length 0 a3).bind fun (s1:List Int)=>
 some s1
def aO (p_:Int) (a_:Int):Option Int:=
 (subO p_ a_).bind fun a1=>
 (nD a1 p_).bind fun a3=>
 some a3
def dQ (p_:Int) (n_:Int) (e_:Int×Int×List Int×List Int):Option (List (List Int)):=
 ((some (decide ((9:Int)≤e_.1))).bind fun a0=>
 cond a0
 ((subO e_.1 9).bind fun a1=>
 (nA a1 3).bind fun a2=>
 some (e_.2.2.2,e_.2.2.1,a2))
 (some (e_.2.2.1,e_.2.2.2,e_.1))).bind fun (s0:List Int×List Int×Int)=>
 (some (decide (s0.2.2=3))).bind fun a3=>
 cond a3
 (((idxO s0.2.1 0).bind fun a4=>
 (idxO s0.1 0).bind fun a5=>
 (subO p_ 1).bind fun a6=>
 (idxO s0.2.1 1).bind fun a7=>
 (idxO s0.1 0).bind fun a8=>
 (subO p_ 1).bind fun a9=>
 (kF p_ n_ [a4,a5] [1,a6]).bind fun y0=>
 (kF p_ n_ [a7,a8] [1,a9]).bind fun y1=>
 some [y0,y1]).bind fun (s1:List (List Int))=>
 some s1)
 ((some (decide (s0.2.2=5))).bind fun a10=>
 cond a10
 (((idxO s0.2.1 0).bind fun a11=>
 (idxO s0.1 0).bind fun a12=>
 (idxO s0.1 1).bind fun a13=>
 (subO p_ 1).bind fun a14=>
 (subO p_ 1).bind fun a15=>
 (kF p_ n_ [a11,a12,a13] [1,a14,a15]).bind fun y2=>
 some [y2]).bind fun (s2:List (List Int))=>
 some s2)
 ((some (decide (s0.2.2=6))).bind fun a16=>
 cond a16
 ((idxO s0.2.1 0).bind fun a17=>
 (kF p_ n_ [a17] [1]).bind fun y3=>
 some [y3])
 ((some (decide (s0.2.2=7))).bind fun a18=>
 cond a18
 (((idxO s0.2.1 0).bind fun a19=>
 (idxO s0.1 0).bind fun a20=>
 (aO p_ e_.2.1).bind fun y4=>
 (kF p_ n_ [a19,a20] [1,y4]).bind fun y5=>
 some [y5]).bind fun (s3:List (List Int))=>
 some s3)
 (some []))))
def hU (p_:Int) (a_:Int):Option Int:=
 pC (qB (fun (s0:Int)=>
 (some (decide (s0<p_))).bind fun a0=>
 cond a0
 ((sF a_ s0).bind fun a1=>
 (nD a1 p_).bind fun a2=>
 (some (decide (a2=1))).bind fun a3=>
 cond a3
 (some (.inr (.inr s0)))
 ((nA s0 1).bind fun a4=>
 some (.inl a4)))
 (some (.inr (.inl ())))) 1) fun (s1:Unit)=>
 some 0
def vH (p_:Int) (a_:Int) (b_:Int):Option Int:=
 (sF a_ b_).bind fun a1=>
 (nD a1 p_).bind fun a3=>
 some a3
def pM (p_:Int) (a_:Int) (b_:Int):Option Int:=
 (nA a_ p_).bind fun a1=>
 (subO a1 b_).bind fun a3=>
 (nD a3 p_).bind fun a5=>
 some a5
def uP (p_:Int) (size_:Int) (rows_:List (List Int)):Option (List (List Int)):=
 (forS (fun (k2:Nat) (s0:List (List Int))=>
 (idxO rows_ ((k2:Nat):Int)).bind fun a0=>
 (zK a0).bind fun y0=>
 (oA s0 [y0]).bind fun a1=>
 some a1) rows_.length 0 []).bind fun (s1:List (List Int))=>
 (qB (fun (s2:List (List Int)×Int×Int)=>
 ((some (decide (s2.2.2<size_))).bind fun a2=>
 cond a2
 ((some (decide (s2.2.1<((s2.1.length:Nat):Int)))).bind fun a3=>
 some a3)
 (some false)).bind fun (s3:Bool)=>
 cond s3
 (((qB (fun (s4:Int)=>
 ((some (decide (s4<((s2.1.length:Nat):Int)))).bind fun a4=>
 cond a4
 ((idxO s2.1 s4).bind fun a5=>
 (idxO a5 s2.2.2).bind fun a6=>
 (some (decide (a6=0))).bind fun a7=>
 some a7)
 (some false)).bind fun (s5:Bool)=>
 cond s5
 ((nA s4 1).bind fun a8=>
 some (.inl a8))
 (some (.inr s4))) s2.2.1).bind fun (s6:Int)=>
 (some (decide (s6=((s2.1.length:Nat):Int)))).bind fun a9=>
 cond a9
 (some (s2.1,s2.2.1))
 ((idxO s2.1 s2.2.1).bind fun a10=>
 (idxO s2.1 s6).bind fun a11=>
 (dN s2.1 s2.2.1 s6).bind fun a12=>
 (idxO a12 s2.2.1).bind fun a13=>
 (idxO a13 s2.2.2).bind fun a14=>
 (hU p_ a14).bind fun y1=>
 (idxO a12 s2.2.1).bind fun a15=>
 (forS (fun (k0:Nat) (s7:List (List Int))=>
 (idxO s7 s2.2.1).bind fun a16=>
 (idxO s7 s2.2.1).bind fun a17=>
 (idxO a17 ((k0:Nat):Int)).bind fun a18=>
 (vH p_ a18 y1).bind fun y2=>
 (setO a16 ((k0:Nat):Int) y2).bind fun a19=>
 (setO s7 s2.2.1 a19).bind fun a20=>
 some a20) a15.length 0 a12).bind fun (s8:List (List Int))=>
 (forS (fun (k1:Nat) (s9:List (List Int))=>
 (((some (decide (((k1:Nat):Int)=s2.2.1))).bind fun a21=>
 cond a21
 (some true)
 ((idxO s9 ((k1:Nat):Int)).bind fun a22=>
 (idxO a22 s2.2.2).bind fun a23=>
 (some (decide (a23=0))).bind fun a24=>
 some a24)).bind fun (s10:Bool)=>
 cond s10
 (some s9)
 ((idxO s9 ((k1:Nat):Int)).bind fun a25=>
 (idxO a25 s2.2.2).bind fun a26=>
 (idxO s9 ((k1:Nat):Int)).bind fun a27=>
 (forS (fun (k3:Nat) (s11:List (List Int))=>
 (idxO s11 ((k1:Nat):Int)).bind fun a28=>
 (idxO s11 ((k1:Nat):Int)).bind fun a29=>
 (idxO s11 s2.2.1).bind fun a30=>
 (idxO a29 ((k3:Nat):Int)).bind fun a31=>
 (idxO a30 ((k3:Nat):Int)).bind fun a32=>
 (vH p_ a26 a32).bind fun y3=>
 (pM p_ a31 y3).bind fun y4=>
 (setO a28 ((k3:Nat):Int) y4).bind fun a33=>
 (setO s11 ((k1:Nat):Int) a33).bind fun a34=>
 some a34) a27.length 0 s9).bind fun (s12:List (List Int))=>
 some s12)).bind fun (s13:List (List Int))=>
 some s13) s8.length 0 s8).bind fun (s14:List (List Int))=>
 (nA s2.2.1 1).bind fun a35=>
 some (s14,a35))).bind fun (s15:List (List Int)×Int)=>
 (nA s2.2.2 1).bind fun a36=>
 some (.inl (s15.1,s15.2,a36)))
 (some (.inr (s2.1,s2.2.1)))) (s1,0,0)).bind fun (s16:List (List Int)×Int)=>
 (iB s16.1 0 s16.2).bind fun a37=>
 some a37
def uT (v_:List Int):Option Int:=
 (qB (fun (s0:Int)=>
 ((some (decide (s0<((v_.length:Nat):Int)))).bind fun a0=>
 cond a0
 ((idxO v_ s0).bind fun a1=>
 (some (decide (a1=0))).bind fun a2=>
 some a2)
 (some false)).bind fun (s1:Bool)=>
 cond s1
 ((nA s0 1).bind fun a3=>
 some (.inl a3))
 (some (.inr s0))) 0).bind fun (s2:Int)=>
 some s2
def tT (p_:Int) (size_:Int) (rows_:List (List Int)):Option (List (List Int)):=
 (uP p_ size_ rows_).bind fun y2=>
 (bD size_ (0:Int)).bind fun a7=>
 (forS (fun (k0:Nat) (s0:List Int)=>
 (setO s0 ((k0:Nat):Int) (-1)).bind fun a0=>
 some a0) a7.length 0 a7).bind fun (s1:List Int)=>
 (forS (fun (k1:Nat) (s2:List Int)=>
 (idxO y2 ((k1:Nat):Int)).bind fun a1=>
 (uT a1).bind fun y0=>
 (setO s2 y0 ((k1:Nat):Int)).bind fun a2=>
 some a2) y2.length 0 s1).bind fun (s3:List Int)=>
 (qB (fun (s4:List (List Int)×Int)=>
 (some (decide (s4.2<size_))).bind fun a3=>
 cond a3
 (((idxO s3 s4.2).bind fun a4=>
 (some (decide ((0:Int)≤a4))).bind fun a5=>
 cond a5
 (some s4.1)
 ((bD size_ (0:Int)).bind fun a6=>
 (setO a6 s4.2 1).bind fun a8=>
 (forS (fun (k2:Nat) (s5:List Int)=>
 (idxO y2 ((k2:Nat):Int)).bind fun a9=>
 (idxO y2 ((k2:Nat):Int)).bind fun a10=>
 (idxO a9 s4.2).bind fun a11=>
 (uT a10).bind fun y1=>
 (aO p_ a11).bind fun y3=>
 (setO s5 y1 y3).bind fun a12=>
 some a12) y2.length 0 a8).bind fun (s6:List Int)=>
 (oA s4.1 [s6]).bind fun a13=>
 some a13)).bind fun (s7:List (List Int))=>
 (nA s4.2 1).bind fun a14=>
 some (.inl (s7,a14)))
 (some (.inr s4.1))) ([],0)).bind fun (s8:List (List Int))=>
 (uP p_ size_ s8).bind fun y4=>
 some y4
def lZ (p_:Int) (g_:Int×(List (Int×Int×List Int×List Int))×List Int×List Int):Option (List (List Int)):=
 (forS (fun (k7:Nat) (s0:List (List Int))=>
 (idxO g_.2.1 ((k7:Nat):Int)).bind fun a0=>
 (dQ p_ g_.1 (a0.1,a0.2.1,a0.2.2.1,a0.2.2.2)).bind fun y0=>
 (oA s0 y0).bind fun a1=>
 some a1) g_.2.1.length 0 []).bind fun (s1:List (List Int))=>
 (tT p_ g_.1 s1).bind fun y1=>
 some y1
def qJ (l_:List Int) (to_:List Int):Option (List Int):=
 (forS (fun (k3:Nat) (s0:List Int)=>
 (idxO l_ ((k3:Nat):Int)).bind fun a0=>
 (idxO to_ a0).bind fun a1=>
 (oA s0 [a1]).bind fun a2=>
 some a2) l_.length 0 []).bind fun (s1:List Int)=>
 some s1
def jU (p_:Int) (left_:Int) (right_:Int) (rows_:List (List Int)):Option (Int×Int×List (List Int)):=
 (nA left_ right_).bind fun a5=>
 (uP p_ a5 rows_).bind fun y7=>
 some (left_,right_,y7)
def qZ (p_:Int) (g_:Int×(List (Int×Int×List Int×List Int))×List Int×List Int):Option ((Int×Int×List (List Int))×Bool):=
 (rZ p_ (g_.1,g_.2.1,g_.2.2.1,g_.2.2.2)).bind fun y0=>
 (some (!y0)).bind fun a0=>
 cond a0
 (some ((0,0,[]),false))
 ((zK g_.2.2.1).bind fun y1=>
 (oA y1 g_.2.2.2).bind fun a1=>
 (lZ p_ (g_.1,g_.2.1,g_.2.2.1,g_.2.2.2)).bind fun y2=>
 (forS (fun (k0:Nat) (s0:List (List Int))=>
 (idxO y2 ((k0:Nat):Int)).bind fun a2=>
 (qJ a1 a2).bind fun y3=>
 (oA s0 [y3]).bind fun a3=>
 some a3) y2.length 0 []).bind fun (s1:List (List Int))=>
 (jU p_ ((g_.2.2.1.length:Nat):Int) ((g_.2.2.2.length:Nat):Int) s1).bind fun y4=>
 some ((y4.1,y4.2.1,y4.2.2),true))
def nM (p_:Int) (n_:Int×Int×ByteArray):Option (Int×Int×List (List Int)):=
 (xT (n_.1,n_.2.1,n_.2.2)).bind fun y7=>
 (qZ p_ (y7.1,y7.2.1,y7.2.2.1,y7.2.2.2)).bind fun y0=>
 some (y0.1.1,y0.1.2.1,y0.1.2.2)
def zN (p_:Int) (size_:Int) (rows_:List (List Int)) (coefs_:List Int):Option (List Int):=
 (bD size_ (0:Int)).bind fun a3=>
 (forS (fun (k8:Nat) (s0:List Int)=>
 (idxO rows_ ((k8:Nat):Int)).bind fun a0=>
 (forS (fun (k0:Nat) (s1:List Int)=>
 (idxO a0 ((k0:Nat):Int)).bind fun a1=>
 (idxO s1 ((k0:Nat):Int)).bind fun a2=>
 (idxO coefs_ ((k8:Nat):Int)).bind fun a4=>
 (sF a4 a1).bind fun a5=>
 (nA a2 a5).bind fun a6=>
 (nD a6 p_).bind fun a7=>
 (setO s1 ((k0:Nat):Int) a7).bind fun a8=>
 some a8) a0.length 0 s0).bind fun (s2:List Int)=>
 some s2) rows_.length 0 a3).bind fun (s3:List Int)=>
 some s3
def tP (p_:Int) (a_:Int×Int×List (List Int)) (b_:Int×Int×List (List Int)):Option (Int×Int×List (List Int)):=
 (bD a_.2.1 ([]:List Int)).bind fun a0=>
 (forS (fun (k0:Nat) (s0:List (List Int))=>
 (forS (fun (k1:Nat) (s1:List (List Int))=>
 (idxO a_.2.2 ((k1:Nat):Int)).bind fun a1=>
 (idxO s1 ((k0:Nat):Int)).bind fun a2=>
 (nA a_.1 ((k0:Nat):Int)).bind fun a3=>
 (idxO a1 a3).bind fun a4=>
 (oA a2 [a4]).bind fun a5=>
 (setO s1 ((k0:Nat):Int) a5).bind fun a6=>
 some a6) a_.2.2.length 0 s0).bind fun (s2:List (List Int))=>
 (forS (fun (k2:Nat) (s3:List (List Int))=>
 (idxO b_.2.2 ((k2:Nat):Int)).bind fun a7=>
 (idxO s3 ((k0:Nat):Int)).bind fun a8=>
 (idxO a7 ((k0:Nat):Int)).bind fun a9=>
 (aO p_ a9).bind fun y0=>
 (oA a8 [y0]).bind fun a10=>
 (setO s3 ((k0:Nat):Int) a10).bind fun a11=>
 some a11) b_.2.2.length 0 s2).bind fun (s4:List (List Int))=>
 some s4) a0.length 0 a0).bind fun (s5:List (List Int))=>
 (nA ((a_.2.2.length:Nat):Int) ((b_.2.2.length:Nat):Int)).bind fun a13=>
 (tT p_ a13 s5).bind fun y1=>
 (forS (fun (k3:Nat) (s6:List (List Int))=>
 (idxO y1 ((k3:Nat):Int)).bind fun a14=>
 (nA a_.1 a_.2.1).bind fun a15=>
 (iB a14 0 ((a_.2.2.length:Nat):Int)).bind fun a16=>
 (zN p_ a15 a_.2.2 a16).bind fun y2=>
 (nA a_.2.1 b_.2.1).bind fun a17=>
 (iB a14 ((a_.2.2.length:Nat):Int) ((a14.length:Nat):Int)).bind fun a18=>
 (zN p_ a17 b_.2.2 a18).bind fun y3=>
 (iB y3 a_.2.1 ((y3.length:Nat):Int)).bind fun a19=>
 (iB y2 0 a_.1).bind fun a20=>
 (zK a20).bind fun y4=>
 (oA y4 a19).bind fun a21=>
 (oA s6 [a21]).bind fun a22=>
 some a22) y1.length 0 []).bind fun (s7:List (List Int))=>
 (jU p_ a_.1 b_.2.1 s7).bind fun y5=>
 some (y5.1,y5.2.1,y5.2.2)
def vP (p_:Int) (a_:Int×Int×List (List Int)) (b_:Int×Int×List (List Int)):Option (Int×Int×List (List Int)):=
 (nA a_.1 b_.1).bind fun a0=>
 (nA a_.2.1 b_.2.1).bind fun a1=>
 (forS (fun (k0:Nat) (s0:List (List Int))=>
 (idxO a_.2.2 ((k0:Nat):Int)).bind fun a2=>
 (nA a0 a1).bind fun a3=>
 (bD a3 (0:Int)).bind fun a4=>
 (forS (fun (k1:Nat) (s1:List Int)=>
 (idxO a2 ((k1:Nat):Int)).bind fun a5=>
 (some (decide (((k1:Nat):Int)<a_.1))).bind fun a6=>
 cond a6
 ((setO s1 ((k1:Nat):Int) a5).bind fun a7=>
 some a7)
 ((nA a0 ((k1:Nat):Int)).bind fun a8=>
 (subO a8 a_.1).bind fun a9=>
 (setO s1 a9 a5).bind fun a10=>
 some a10)) a2.length 0 a4).bind fun (s2:List Int)=>
 (oA s0 [s2]).bind fun a11=>
 some a11) a_.2.2.length 0 []).bind fun (s3:List (List Int))=>
 (forS (fun (k2:Nat) (s4:List (List Int))=>
 (idxO b_.2.2 ((k2:Nat):Int)).bind fun a12=>
 (nA a0 a1).bind fun a14=>
 (bD a14 (0:Int)).bind fun a16=>
 (forS (fun (k3:Nat) (s5:List Int)=>
 (idxO a12 ((k3:Nat):Int)).bind fun a17=>
 (some (decide (((k3:Nat):Int)<b_.1))).bind fun a18=>
 cond a18
 ((nA a_.1 ((k3:Nat):Int)).bind fun a19=>
 (setO s5 a19 a17).bind fun a20=>
 some a20)
 ((nA a0 a_.2.1).bind fun a21=>
 (nA a21 ((k3:Nat):Int)).bind fun a22=>
 (subO a22 b_.1).bind fun a23=>
 (setO s5 a23 a17).bind fun a24=>
 some a24)) a12.length 0 a16).bind fun (s6:List Int)=>
 (oA s4 [s6]).bind fun a25=>
 some a25) b_.2.2.length 0 s3).bind fun (s7:List (List Int))=>
 (jU p_ a0 a1 s7).bind fun y0=>
 some (y0.1,y0.2.1,y0.2.2)
def Ab_ (p_:Int) (t_:(List (Int×Int×ByteArray))):Option ((Int×Int×List (List Int))×Bool):=
 (sT p_ t_).bind fun y8=>
 (some (!y8)).bind fun a0=>
 cond a0
 (some ((0,0,[]),false))
 (pC (zC (fun (k0:Nat) (s0:List (Int×Int×List (List Int)))=>
 pC ((idxO t_ ((k0:Nat):Int)).bind fun a1=>
 (uK a1.1).bind fun y0=>
 (some (!y0)).bind fun a2=>
 cond a2
 (some (.inr (.inr ((0,0,[]),false))))
 (((some (!decide (a1.1=15))).bind fun a3=>
 cond a3
 ((some (!decide (a1.1=16))).bind fun a4=>
 some a4)
 (some false)).bind fun (s1:Bool)=>
 cond s1
 ((nM p_ (a1.1,a1.2.1,a1.2.2)).bind fun y1=>
 (oA s0 [(y1.1,y1.2.1,y1.2.2)]).bind fun a5=>
 some (.inl a5))
 (((subO ((s0.length:Nat):Int) 2).bind fun a6=>
 (idxO s0 a6).bind fun a7=>
 (subO ((s0.length:Nat):Int) 1).bind fun a8=>
 (idxO s0 a8).bind fun a9=>
 some (a9.1,a9.2.1,a9.2.2,a7.1,a7.2.1,a7.2.2)).bind fun (s2:Int×Int×List (List Int)×Int×Int×List (List Int))=>
 (subO ((s0.length:Nat):Int) 2).bind fun a10=>
 (iB s0 0 a10).bind fun a12=>
 (some (decide (a1.1=15))).bind fun a13=>
 cond a13
 ((tP p_ (s2.2.2.2.1,s2.2.2.2.2.1,s2.2.2.2.2.2) (s2.1,s2.2.1,s2.2.2.1)).bind fun y2=>
 (oA a12 [(y2.1,y2.2.1,y2.2.2)]).bind fun a14=>
 some (.inl a14))
 ((vP p_ (s2.2.2.2.1,s2.2.2.2.2.1,s2.2.2.2.2.2) (s2.1,s2.2.1,s2.2.2.1)).bind fun y3=>
 (oA a12 [(y3.1,y3.2.1,y3.2.2)]).bind fun a15=>
 some (.inl a15))))) fun (s3:List (Int×Int×List (List Int)))=>
 some (.inl s3)) t_.length 0 []) fun (s4:List (Int×Int×List (List Int)))=>
 (idxO s4 0).bind fun a16=>
 some ((a16.1,a16.2.1,a16.2.2),true))
def vF (x_:(Int×(List (Int×Int×List Int×List Int))×List Int×List Int)):Option ((Int×(List (Int×Int×List Int×List Int))×List Int×List Int)×Int):=
 (nA x_.1 1).bind fun a2=>
 (subO a2 1).bind fun a5=>
 some ((a2,x_.2.1,x_.2.2.1,x_.2.2.2),a5)
def gY (x_:(Int×(List (Int×Int×List Int×List Int))×List Int×List Int)) (n_:Int):Option (Int×(List (Int×Int×List Int×List Int))×List Int×List Int):=
 qB (fun (s0:Int×List Int×Int)=>
 (some (decide ((0:Int)<s0.2.2))).bind fun a0=>
 cond a0
 ((vF (s0.1,x_.2.1,s0.2.1,x_.2.2.2)).bind fun y0=>
 (oA s0.2.1 [y0.2]).bind fun a1=>
 (subO s0.2.2 1).bind fun a2=>
 some (.inl (y0.1.1,a1,a2)))
 (some (.inr (s0.1,x_.2.1,s0.2.1,x_.2.2.2)))) (x_.1,x_.2.2.1,n_)
def jF (x_:(Int×(List (Int×Int×List Int×List Int))×List Int×List Int)) (kind_:Int) (value_:Int) (in_:List Int) (out_:List Int):Option (Int×(List (Int×Int×List Int×List Int))×List Int×List Int):=
 (oA x_.2.1 [(kind_,value_,in_,out_)]).bind fun a0=>
 some (x_.1,a0,x_.2.2.1,x_.2.2.2)
def kN:Nat→(Int×(List (Int×Int×List Int×List Int))×List Int×List Int)→Int→Int→Option ((Int×(List (Int×Int×List Int×List Int))×List Int×List Int)×List Int)
 | 0,_,_,_=>none
 | fuel+1,x_,w_,n_=>
  (some (decide (n_=0))).bind fun a3=>
  cond a3
  ((jF (x_.1,x_.2.1,x_.2.2.1,x_.2.2.2) 4 0 [w_] []).bind fun y0=>
  some ((y0.1,y0.2.1,x_.2.2.1,x_.2.2.2),[]))
  ((some (decide (n_=1))).bind fun a6=>
  cond a6
  (some ((x_.1,x_.2.1,x_.2.2.1,x_.2.2.2),[w_]))
  ((vF (x_.1,x_.2.1,x_.2.2.1,x_.2.2.2)).bind fun y9=>
  (vF (y9.1.1,x_.2.1,x_.2.2.1,x_.2.2.2)).bind fun y1=>
  (jF (y1.1.1,x_.2.1,x_.2.2.1,x_.2.2.2) 3 0 [w_] [y9.2,y1.2]).bind fun y2=>
  (subO n_ 1).bind fun a0=>
  (kN fuel (y2.1,y2.2.1,x_.2.2.1,x_.2.2.2) y1.2 a0).bind fun y3=>
  (oA [y9.2] y3.2).bind fun a1=>
  some ((y3.1.1,y3.1.2.1,x_.2.2.1,x_.2.2.2),a1)))
def sP (x_:(Int×(List (Int×Int×List Int×List Int))×List Int×List Int)) (w_:Int) (n_:Int):Option ((Int×(List (Int×Int×List Int×List Int))×List Int×List Int)×List Int):=kN 1000000 x_ w_ n_
def vS:Nat→(Int×(List (Int×Int×List Int×List Int))×List Int×List Int)→(List Int)→Option ((Int×(List (Int×Int×List Int×List Int))×List Int×List Int)×Int)
 | 0,_,_=>none
 | fuel+1,x_,l_=>
  (some (decide (((l_.length:Nat):Int)=1))).bind fun a4=>
  cond a4
  ((idxO l_ 0).bind fun a0=>
  some ((x_.1,x_.2.1,x_.2.2.1,x_.2.2.2),a0))
  ((some (decide (((l_.length:Nat):Int)=0))).bind fun a7=>
  cond a7
  ((vF (x_.1,x_.2.1,x_.2.2.1,x_.2.2.2)).bind fun y0=>
  (jF (y0.1.1,x_.2.1,x_.2.2.1,x_.2.2.2) 6 0 [] [y0.2]).bind fun y1=>
  some ((y1.1,y1.2.1,x_.2.2.1,x_.2.2.2),y0.2))
  ((subO ((l_.length:Nat):Int) 1).bind fun a1=>
  (iB l_ 0 a1).bind fun a2=>
  (vS fuel (x_.1,x_.2.1,x_.2.2.1,x_.2.2.2) a2).bind fun y2=>
  (vF (y2.1.1,y2.1.2.1,x_.2.2.1,x_.2.2.2)).bind fun y3=>
  (idxO l_ a1).bind fun a3=>
  (jF (y3.1.1,y2.1.2.1,x_.2.2.1,x_.2.2.2) 5 0 [y2.2,a3] [y3.2]).bind fun y4=>
  some ((y4.1,y4.2.1,x_.2.2.1,x_.2.2.2),y3.2)))
def yY (x_:(Int×(List (Int×Int×List Int×List Int))×List Int×List Int)) (l_:List Int):Option ((Int×(List (Int×Int×List Int×List Int))×List Int×List Int)×Int):=vS 1000000 x_ l_
def fY (x_:(Int×(List (Int×Int×List Int×List Int))×List Int×List Int)) (in_:List Int) (rows_:List (List Int)) (cols_:Int):Option ((Int×(List (Int×Int×List Int×List Int))×List Int×List Int)×List Int):=
 (bD cols_ ([]:List Int)).bind fun a5=>
 (forS (fun (k0:Nat) (s0:Int×(List (Int×Int×List Int×List Int))×List (List Int))=>
 (idxO rows_ ((k0:Nat):Int)).bind fun a0=>
 (forS (fun (k1:Nat) (s1:List Int)=>
 (idxO a0 ((k1:Nat):Int)).bind fun a1=>
 (some (!decide (a1=0))).bind fun a2=>
 cond a2
 ((oA s1 [((k1:Nat):Int)]).bind fun a3=>
 some a3)
 (some s1)) a0.length 0 []).bind fun (s2:List Int)=>
 (idxO in_ ((k0:Nat):Int)).bind fun a4=>
 (sP (s0.1,s0.2.1,x_.2.2.1,x_.2.2.2) a4 ((s2.length:Nat):Int)).bind fun y0=>
 (forS (fun (k2:Nat) (s3:Int×(List (Int×Int×List Int×List Int))×List (List Int))=>
 (idxO y0.2 ((k2:Nat):Int)).bind fun a6=>
 (idxO s2 ((k2:Nat):Int)).bind fun a7=>
 ((idxO a0 a7).bind fun a8=>
 (some (!decide (a8=1))).bind fun a9=>
 cond a9
 ((vF (s3.1,s3.2.1,x_.2.2.1,x_.2.2.2)).bind fun y1=>
 (idxO a0 a7).bind fun a10=>
 (jF (y1.1.1,s3.2.1,x_.2.2.1,x_.2.2.2) 7 a10 [a6] [y1.2]).bind fun y2=>
 some (y2.1,y2.2.1,y1.2))
 (some (s3.1,s3.2.1,a6))).bind fun (s4:Int×(List (Int×Int×List Int×List Int))×Int)=>
 (idxO s3.2.2 a7).bind fun a11=>
 (oA a11 [s4.2.2]).bind fun a12=>
 (setO s3.2.2 a7 a12).bind fun a13=>
 some (s4.1,s4.2.1,a13)) y0.2.length 0 (y0.1.1,y0.1.2.1,s0.2.2)).bind fun (s5:Int×(List (Int×Int×List Int×List Int))×List (List Int))=>
 some (s5.1,s5.2.1,s5.2.2)) rows_.length 0 (x_.1,x_.2.1,a5)).bind fun (s6:Int×(List (Int×Int×List Int×List Int))×List (List Int))=>
 (forS (fun (k3:Nat) (s7:Int×(List (Int×Int×List Int×List Int))×List Int)=>
 (idxO s6.2.2 ((k3:Nat):Int)).bind fun a14=>
 (yY (s7.1,s7.2.1,x_.2.2.1,x_.2.2.2) a14).bind fun y3=>
 (oA s7.2.2 [y3.2]).bind fun a15=>
 some (y3.1.1,y3.1.2.1,a15)) s6.2.2.length 0 (s6.1,s6.2.1,[])).bind fun (s8:Int×(List (Int×Int×List Int×List Int))×List Int)=>
 some ((s8.1,s8.2.1,x_.2.2.1,x_.2.2.2),s8.2.2)
def aU (n_:Int):Option (List Int):=
 (bD n_ (0:Int)).bind fun a1=>
 (forS (fun (k6:Nat) (s0:List Int)=>
 (setO s0 ((k6:Nat):Int) (-1)).bind fun a0=>
 some a0) a1.length 0 a1).bind fun (s1:List Int)=>
 some s1
def oI (wires_:List Int) (order_:List Int) (l_:List Int):Option (List Int×List Int):=
 (forS (fun (k4:Nat) (s0:List Int×List Int)=>
 (idxO l_ ((k4:Nat):Int)).bind fun a0=>
 (idxO s0.1 a0).bind fun a1=>
 (some (decide (a1<0))).bind fun a2=>
 cond a2
 ((setO s0.1 a0 ((s0.2.length:Nat):Int)).bind fun a3=>
 (oA s0.2 [a0]).bind fun a4=>
 some (a3,a4))
 (some (s0.1,s0.2))) l_.length 0 (wires_,order_)).bind fun (s1:List Int×List Int)=>
 some (s1.1,s1.2)
def bZ (g_:Int×(List (Int×Int×List Int×List Int))×List Int×List Int):Option (List Int):=
 (bD g_.1 (0:Int)).bind fun a7=>
 (forS (fun (k0:Nat) (s0:List Int)=>
 (setO s0 ((k0:Nat):Int) (-1)).bind fun a0=>
 some a0) a7.length 0 a7).bind fun (s1:List Int)=>
 (forS (fun (k1:Nat) (s2:List Int)=>
 (idxO g_.2.1 ((k1:Nat):Int)).bind fun a1=>
 (forS (fun (k2:Nat) (s3:List Int)=>
 (idxO a1.2.2.2 ((k2:Nat):Int)).bind fun a2=>
 (setO s3 a2 ((k1:Nat):Int)).bind fun a3=>
 some a3) a1.2.2.2.length 0 s2).bind fun (s4:List Int)=>
 some s4) g_.2.1.length 0 s1).bind fun (s5:List Int)=>
 some s5
def zZ (g_:Int×(List (Int×Int×List Int×List Int))×List Int×List Int):Option (List Int):=
 (bD g_.1 (0:Int)).bind fun a7=>
 (forS (fun (k0:Nat) (s0:List Int)=>
 (setO s0 ((k0:Nat):Int) (-1)).bind fun a0=>
 some a0) a7.length 0 a7).bind fun (s1:List Int)=>
 (forS (fun (k1:Nat) (s2:List Int)=>
 (idxO g_.2.1 ((k1:Nat):Int)).bind fun a1=>
 (forS (fun (k2:Nat) (s3:List Int)=>
 (idxO a1.2.2.1 ((k2:Nat):Int)).bind fun a2=>
 (setO s3 a2 ((k1:Nat):Int)).bind fun a3=>
 some a3) a1.2.2.1.length 0 s2).bind fun (s4:List Int)=>
 some s4) g_.2.1.length 0 s1).bind fun (s5:List Int)=>
 some s5
def Ac_ (g_:Int×(List (Int×Int×List Int×List Int))×List Int×List Int) (wires_:List Int) (edges_:List Int) (order_:List Int) (count_:Int):Option (List Int×List Int×Int×List Int):=
 (bZ (g_.1,g_.2.1,g_.2.2.1,g_.2.2.2)).bind fun y0=>
 (zZ (g_.1,g_.2.1,g_.2.2.1,g_.2.2.2)).bind fun y1=>
 (qB (fun (s0:List Int×List Int×Int×List Int×Int)=>
 (some (decide (s0.2.2.1<((s0.2.2.2.1.length:Nat):Int)))).bind fun a0=>
 cond a0
 ((idxO s0.2.2.2.1 s0.2.2.1).bind fun a1=>
 (idxO s0.2.2.2.1 s0.2.2.1).bind fun a2=>
 (idxO y1 a1).bind fun a3=>
 (idxO y0 a2).bind fun a4=>
 (forS (fun (k0:Nat) (s1:List Int×List Int×List Int×Int)=>
 ((idxO [a3,a4] ((k0:Nat):Int)).bind fun a5=>
 ((some (decide (a5<0))).bind fun a6=>
 cond a6
 (some true)
 ((idxO s1.2.1 a5).bind fun a7=>
 (some (decide ((0:Int)≤a7))).bind fun a8=>
 some a8)).bind fun (s2:Bool)=>
 cond s2
 (some (s1.1,s1.2.1,s1.2.2.1,s1.2.2.2))
 ((setO s1.2.1 a5 s1.2.2.2).bind fun a9=>
 (nA s1.2.2.2 1).bind fun a10=>
 (idxO g_.2.1 a5).bind fun a11=>
 (oI s1.1 s1.2.2.1 a11.2.2.1).bind fun y2=>
 (idxO g_.2.1 a5).bind fun a12=>
 (oI y2.1 y2.2 a12.2.2.2).bind fun y3=>
 some (y3.1,a9,y3.2,a10))).bind fun (s3:List Int×List Int×List Int×Int)=>
 some (s3.1,s3.2.1,s3.2.2.1,s3.2.2.2)) ([a3,a4].length) 0 (s0.1,s0.2.1,s0.2.2.2.1,s0.2.2.2.2)).bind fun (s4:List Int×List Int×List Int×Int)=>
 (nA s0.2.2.1 1).bind fun a13=>
 some (.inl (s4.1,s4.2.1,a13,s4.2.2.1,s4.2.2.2)))
 (some (.inr (s0.1,s0.2.1,s0.2.2.2.1,s0.2.2.2.2)))) (wires_,edges_,0,order_,count_)).bind fun (s5:List Int×List Int×List Int×Int)=>
 some (s5.1,s5.2.1,s5.2.2.2,s5.2.2.1)
def zT (g_:Int×(List (Int×Int×List Int×List Int))×List Int×List Int):Option (List Int×List Int×List Int×Int):=
 (aU g_.1).bind fun y8=>
 (aU ((g_.2.1.length:Nat):Int)).bind fun y0=>
 (oI y8 [] g_.2.2.1).bind fun y1=>
 (oI y1.1 y1.2 g_.2.2.2).bind fun y2=>
 (Ac_ (g_.1,g_.2.1,g_.2.2.1,g_.2.2.2) y2.1 y0 y2.2 0).bind fun y3=>
 some (y3.1,y3.2.1,y3.2.2.2,y3.2.2.1)
def Co_ (g_:Int×(List (Int×Int×List Int×List Int))×List Int×List Int):Option (List (List Int×List Int×List Int×Int)):=
 (zT (g_.1,g_.2.1,g_.2.2.1,g_.2.2.2)).bind fun y7=>
 (forS (fun (k0:Nat) (_:Unit)=>
 ((idxO y7.2.1 ((k0:Nat):Int)).bind fun a0=>
 (some (decide ((0:Int)≤a0))).bind fun a1=>
 cond a1
 (some ())
 (none)).bind fun (s0:Unit)=>
 some ()) g_.2.1.length 0 ()).bind fun (_:Unit)=>
 some []
def cZ (g_:Int×(List (Int×Int×List Int×List Int))×List Int×List Int):Option (List Int×List Int):=
 (zT (g_.1,g_.2.1,g_.2.2.1,g_.2.2.2)).bind fun y7=>
 (Co_ (g_.1,g_.2.1,g_.2.2.1,g_.2.2.2)).bind fun y0=>
 (forS (fun (k0:Nat) (_:Unit)=>
 (idxO y0 ((k0:Nat):Int)).bind fun a0=>
 none) y0.length 0 ()).bind fun (_:Unit)=>
 some (y7.1,y7.2.1)
def Am_ (g_:Int×(List (Int×Int×List Int×List Int))×List Int×List Int) (to_:List Int) (wires_:Int):Option (Int×(List (Int×Int×List Int×List Int))×List Int×List Int):=
 ((qJ g_.2.2.1 to_).bind fun y0=>
 (qJ g_.2.2.2 to_).bind fun y1=>
 some (wires_,y0,y1)).bind fun (s0:Int×List Int×List Int)=>
 (forS (fun (k0:Nat) (s1:List (Int×Int×List Int×List Int))=>
 (idxO g_.2.1 ((k0:Nat):Int)).bind fun a0=>
 (qJ a0.2.2.1 to_).bind fun y2=>
 (qJ a0.2.2.2 to_).bind fun y3=>
 (oA s1 [(a0.1,a0.2.1,y2,y3)]).bind fun a1=>
 some a1) g_.2.1.length 0 []).bind fun (s2:List (Int×Int×List Int×List Int))=>
 some (s0.1,s2,s0.2.1,s0.2.2)
def wY (g_:Int×(List (Int×Int×List Int×List Int))×List Int×List Int) (wires_:List Int) (edges_:List Int):Option (Int×(List (Int×Int×List Int×List Int))×List Int×List Int):=
 (Am_ (g_.1,g_.2.1,g_.2.2.1,g_.2.2.2) wires_ g_.1).bind fun y0=>
 ((some (decide ((0:Int)<((edges_.length:Nat):Int)))).bind fun a0=>
 cond a0
 ((bD ((edges_.length:Nat):Int) ((0,0,[],[]):Int×Int×List Int×List Int)).bind fun a1=>
 some a1)
 (some [])).bind fun (s0:List (Int×Int×List Int×List Int))=>
 (forS (fun (k0:Nat) (s1:List (Int×Int×List Int×List Int))=>
 (idxO edges_ ((k0:Nat):Int)).bind fun a2=>
 (idxO y0.2.1 ((k0:Nat):Int)).bind fun a3=>
 (setO s1 a2 (a3.1,a3.2.1,a3.2.2.1,a3.2.2.2)).bind fun a4=>
 some a4) edges_.length 0 s0).bind fun (s2:List (Int×Int×List Int×List Int))=>
 some (g_.1,s2,y0.2.2.1,y0.2.2.2)
def kT (g_:Int×(List (Int×Int×List Int×List Int))×List Int×List Int):Option (Int×(List (Int×Int×List Int×List Int))×List Int×List Int):=
 (cZ (g_.1,g_.2.1,g_.2.2.1,g_.2.2.2)).bind fun y0=>
 (wY (g_.1,g_.2.1,g_.2.2.1,g_.2.2.2) y0.1 y0.2).bind fun y1=>
 some (y1.1,y1.2.1,y1.2.2.1,y1.2.2.2)
def pY (x_:(Int×(List (Int×Int×List Int×List Int))×List Int×List Int)):Option ((Int×(List (Int×Int×List Int×List Int))×List Int×List Int)×Bool):=
 (yP (x_.1,x_.2.1,x_.2.2.1,x_.2.2.2)).bind fun y8=>
 (some (!y8)).bind fun a0=>
 cond a0
 (some ((0,[],[],[]),false))
 ((kT (x_.1,x_.2.1,x_.2.2.1,x_.2.2.2)).bind fun y0=>
 some ((y0.1,y0.2.1,y0.2.2.1,y0.2.2.2),true))
def xY (r_:Int×Int×List (List Int)):Option ((Int×(List (Int×Int×List Int×List Int))×List Int×List Int)×Bool):=
 (gY (0,[],[],[]) r_.1).bind fun y0=>
 (forS (fun (k0:Nat) (s0:Int×(List (Int×Int×List Int×List Int))×List Int)=>
 (vF (s0.1,s0.2.1,y0.2.2.1,[])).bind fun y1=>
 (jF (y1.1.1,s0.2.1,y0.2.2.1,[]) 10 0 [] [y1.2]).bind fun y2=>
 (oA s0.2.2 [y1.2]).bind fun a0=>
 some (y2.1,y2.2.1,a0)) r_.2.2.length 0 (y0.1,[],[])).bind fun (s1:Int×(List (Int×Int×List Int×List Int))×List Int)=>
 (nA r_.1 r_.2.1).bind fun a1=>
 (fY (s1.1,s1.2.1,y0.2.2.1,[]) s1.2.2 r_.2.2 a1).bind fun y3=>
 (forS (fun (k1:Nat) (s2:Int×(List (Int×Int×List Int×List Int)))=>
 (idxO y0.2.2.1 ((k1:Nat):Int)).bind fun a2=>
 (vF (s2.1,s2.2,y0.2.2.1,[])).bind fun y4=>
 (idxO y3.2 ((k1:Nat):Int)).bind fun a3=>
 (jF (y4.1.1,s2.2,y0.2.2.1,[]) 9 0 [a2,a3] [y4.2]).bind fun y5=>
 (jF (y5.1,y5.2.1,y0.2.2.1,[]) 4 0 [y4.2] []).bind fun y6=>
 some (y6.1,y6.2.1)) y0.2.2.1.length 0 (y3.1.1,y3.1.2.1)).bind fun (s3:Int×(List (Int×Int×List Int×List Int)))=>
 (iB y3.2 r_.1 ((y3.2.length:Nat):Int)).bind fun a4=>
 (zK a4).bind fun y7=>
 (pY (s3.1,s3.2,y0.2.2.1,y7)).bind fun y8=>
 some ((y8.1.1,y8.1.2.1,y8.1.2.2.1,y8.1.2.2.2),y8.2)
def wS (p_:Int) (t_:(List (Int×Int×ByteArray))):Option ((Int×(List (Int×Int×List Int×List Int))×List Int×List Int)×Bool):=
 (sT p_ t_).bind fun y8=>
 (some (!y8)).bind fun a0=>
 cond a0
 (some ((0,[],[],[]),false))
 ((Ab_ p_ t_).bind fun y0=>
 (some (!y0.2)).bind fun a1=>
 cond a1
 (some ((0,[],[],[]),false))
 ((xY (y0.1.1,y0.1.2.1,y0.1.2.2)).bind fun y1=>
 some ((y1.1.1,y1.1.2.1,y1.1.2.2.1,y1.1.2.2.2),y1.2)))
def mT (p_:Int):Option Bool:=
 ((some (decide (p_<2))).bind fun a0=>
 cond a0
 (some true)
 ((some (decide ((97:Int)<p_))).bind fun a1=>
 some a1)).bind fun (s8:Bool)=>
 cond s8
 (some false)
 ((cI 4).bind fun _=>
 pC (zC (fun (k0:Nat) (_:Unit)=>
 (idxO [2,3,5,7] ((k0:Nat):Int)).bind fun a2=>
 ((nD p_ a2).bind fun a3=>
 (some (decide (a3=0))).bind fun a4=>
 cond a4
 ((some (!decide (p_=a2))).bind fun a5=>
 some a5)
 (some false)).bind fun (s0:Bool)=>
 cond s0
 (some (.inr false))
 (some (.inl ()))) ((4:Int).toNat) 0 ()) fun (_:Unit)=>
 some true)
def aF (n_:Int) (low_:Int) (high_:Int):Option Bool:=
 ((some (decide (low_≤n_))).bind fun a0=>
 cond a0
 ((some (decide (n_≤high_))).bind fun a1=>
 some a1)
 (some false)).bind fun (s7:Bool)=>
 some s7
def gZ (w_:Int×Int):Option Bool:=
 ((some (decide (w_.1≤12))).bind fun a0=>
 cond a0
 ((some (decide (w_.2≤12))).bind fun a1=>
 some a1)
 (some false)).bind fun (s0:Bool)=>
 some s0
def jM (kind_:Int) (a_:Int×Int) (b_:Int×Int):Option ((Int×Int)×Bool):=
 (some (decide (kind_=15))).bind fun a0=>
 cond a0
 ((some (decide (a_.2=b_.1))).bind fun a1=>
 some ((a_.1,b_.2),a1))
 ((nA a_.1 b_.1).bind fun a2=>
 (nA a_.2 b_.2).bind fun a3=>
 (gZ (a2,a3)).bind fun y0=>
 some ((a2,a3),y0))
def pN (kind_:Int):Option Bool:=
 (aF kind_ 3 14).bind fun y1=>
 some y1
def iN (kind_:Int):Option (Int×Int):=
 (some (decide (kind_≤8))).bind fun a8=>
 cond a8
 ((subO kind_ 3).bind fun a0=>
 (idxO ([(1,2),(1,0),(2,1),(0,1),(1,1),(1,1)]:List (Int×Int)) a0).bind fun a1=>
 some (a1.1,a1.2))
 ((subO kind_ 9).bind fun a2=>
 (idxO ([(1,2),(1,0),(2,1),(0,1),(1,1),(1,1)]:List (Int×Int)) a2).bind fun a3=>
 some (a3.2,a3.1))
def tN (kind_:Int):Option Bool:=
 ((some (decide (kind_=7))).bind fun a0=>
 cond a0
 (some true)
 ((some (decide (kind_=13))).bind fun a1=>
 some a1)).bind fun (s7:Bool)=>
 some s7
def mP (kind_:Int) (value_:Int):Option Bool:=
 (tN kind_).bind fun y1=>
 cond y1
 ((aF value_ 0 96).bind fun y8=>
 some y8)
 ((some (decide (value_=0))).bind fun a5=>
 some a5)
def mJ (n_:Int×Int×ByteArray):Option ((Int×Int)×Bool):=
 (some (!decide ((n_.2.2:ByteArray)=.empty))).bind fun a7=>
 cond a7
 (some ((0,0),false))
 ((some (decide (n_.1=1))).bind fun a0=>
 cond a0
 ((aF n_.2.1 0 12).bind fun y0=>
 some ((n_.2.1,n_.2.1),y0))
 ((some (decide (n_.1=2))).bind fun a1=>
 cond a1
 ((some (decide (n_.2.1=0))).bind fun a2=>
 some ((2,2),a2))
 ((pN n_.1).bind fun y1=>
 cond y1
 ((iN n_.1).bind fun y2=>
 (mP n_.1 n_.2.1).bind fun y3=>
 some ((y2.1,y2.2),y3))
 (some ((0,0),false)))))
def xX (nodes_:List (Int×Int×ByteArray)):Option ((Int×Int)×Bool):=
 (aF ((nodes_.length:Nat):Int) 1 400).bind fun y5=>
 (some (!y5)).bind fun a8=>
 cond a8
 (some ((0,0),false))
 (pC (zC (fun (k0:Nat) (s0:List (Int×Int))=>
 pC ((idxO nodes_ ((k0:Nat):Int)).bind fun a0=>
 ((some (!decide (a0.1=15))).bind fun a1=>
 cond a1
 ((some (!decide (a0.1=16))).bind fun a2=>
 some a2)
 (some false)).bind fun (s1:Bool)=>
 cond s1
 ((mJ (a0.1,a0.2.1,a0.2.2)).bind fun y0=>
 (some (!y0.2)).bind fun a3=>
 cond a3
 (some (.inr (.inr ((0,0),false))))
 ((oA s0 [(y0.1.1,y0.1.2)]).bind fun a4=>
 some (.inl a4)))
 (((some (!decide (a0.2.1=0))).bind fun a5=>
 cond a5
 (some true)
 ((some (!decide ((a0.2.2:ByteArray)=.empty))).bind fun a6=>
 cond a6
 (some true)
 ((some (decide (((s0.length:Nat):Int)<2))).bind fun a7=>
 some a7))).bind fun (s2:Bool)=>
 cond s2
 (some (.inr (.inr ((0,0),false))))
 ((subO ((s0.length:Nat):Int) 1).bind fun a9=>
 ((subO a9 1).bind fun a10=>
 (idxO s0 a10).bind fun a11=>
 (idxO s0 a9).bind fun a12=>
 (jM a0.1 (a11.1,a11.2) (a12.1,a12.2)).bind fun y1=>
 some (y1.1.1,y1.1.2,y1.2)).bind fun (s3:Int×Int×Bool)=>
 (some (!s3.2.2)).bind fun a13=>
 cond a13
 (some (.inr (.inr ((0,0),false))))
 ((subO a9 1).bind fun a14=>
 (iB s0 0 a14).bind fun a15=>
 (oA a15 [(s3.1,s3.2.1)]).bind fun a16=>
 some (.inl a16))))) fun (s4:List (Int×Int))=>
 some (.inl s4)) nodes_.length 0 ([]:List (Int×Int))) fun (s5:List (Int×Int))=>
 (idxO s5 0).bind fun a17=>
 (some (decide (((s5.length:Nat):Int)=1))).bind fun a18=>
 some ((a17.1,a17.2),a18))
def Ca_ (t_:(List (Int×Int×ByteArray))):Option ((Int×Int)×Bool):=
 (xX t_).bind fun y8=>
 some ((y8.1.1,y8.1.2),y8.2)
def nY (t_:(List (Int×Int×ByteArray))):Option Bool:=
 (Ca_ t_).bind fun y5=>
 some y5.2
def sY (t_:(List (Int×Int×ByteArray))) (p_:Int):Option Bool:=
 ((mT p_).bind fun y0=>
 (some (!y0)).bind fun a0=>
 cond a0
 (some true)
 ((nY t_).bind fun y1=>
 (some (!y1)).bind fun a1=>
 some a1)).bind fun (s0:Bool)=>
 cond s0
 (some false)
 (pC (zC (fun (k0:Nat) (_:Unit)=>
 (idxO t_ ((k0:Nat):Int)).bind fun a2=>
 ((tN a2.1).bind fun y2=>
 cond y2
 ((some (decide (p_≤a2.2.1))).bind fun a3=>
 some a3)
 (some false)).bind fun (s1:Bool)=>
 cond s1
 (some (.inr false))
 (some (.inl ()))) t_.length 0 ()) fun (_:Unit)=>
 some true)
def oT (kind_:Int):Option Bool:=
 ((some (decide (kind_=8))).bind fun a0=>
 cond a0
 (some true)
 ((some (decide (kind_=14))).bind fun a1=>
 some a1)).bind fun (s7:Bool)=>
 some s7
def kY (t_:(List (Int×Int×ByteArray))) (p_:Int):Option Bool:=
 (sY t_ p_).bind fun y6=>
 (some (!y6)).bind fun a9=>
 cond a9
 (some false)
 (pC (zC (fun (k0:Nat) (_:Unit)=>
 (idxO t_ ((k0:Nat):Int)).bind fun a0=>
 (oT a0.1).bind fun y0=>
 cond y0
 (some (.inr false))
 (some (.inl ()))) t_.length 0 ()) fun (_:Unit)=>
 some true)
def gN (r_:Int×Int×List (List Int)) (row_:List Int):Option (List Int):=
 (iB row_ r_.1 ((row_.length:Nat):Int)).bind fun a6=>
 some a6
def jN (r_:Int×Int×List (List Int)) (row_:List Int):Option (List Int):=
 (iB row_ 0 r_.1).bind fun a6=>
 some a6
def xG (n_:Int):Option (List Int):=
 (bD n_ (0:Int)).bind fun a1=>
 some a1
def dO (p_:Int) (a_:Int):Option Int:=
 (nD a_ p_).bind fun a1=>
 (some (decide (a1<0))).bind fun a3=>
 cond a3
 ((nA a1 p_).bind fun a7=>
 some a7)
 (some a1)
def mI (p_:Int) (v_:List Int) (by_:Int) (w_:List Int):Option (List Int):=
 (forS (fun (k3:Nat) (s0:List Int)=>
 (idxO w_ ((k3:Nat):Int)).bind fun a0=>
 (idxO s0 ((k3:Nat):Int)).bind fun a1=>
 (sF by_ a0).bind fun a2=>
 (nA a1 a2).bind fun a3=>
 (dO p_ a3).bind fun y0=>
 (setO s0 ((k3:Nat):Int) y0).bind fun a4=>
 some a4) w_.length 0 v_).bind fun (s1:List Int)=>
 some s1
def Ao_ (list_:List Int):Option (List Int):=
 (oA ([]:List Int) list_).bind fun a5=>
 some a5
def bU (list_:List (List Int)):Option (List (List Int)):=
 (gK 0 ((list_.length:Nat):Int) ([]:List Int)).bind fun a2=>
 (forS (fun (k7:Nat) (s0:List (List Int))=>
 (idxO list_ ((k7:Nat):Int)).bind fun a0=>
 (Ao_ a0).bind fun y0=>
 (oA s0 [y0]).bind fun a1=>
 some a1) list_.length 0 a2).bind fun (s1:List (List Int))=>
 some s1
def qM (n_:Int) (at_:Int):Option (List Int):=
 (xG n_).bind fun y1=>
 (setO y1 at_ 1).bind fun a0=>
 some a0
def mY (n_:Int):Option (List (List Int)):=
 (cI n_).bind fun _=>
 (forS (fun (k4:Nat) (s0:List (List Int))=>
 (qM n_ ((k4:Nat):Int)).bind fun y0=>
 (oA s0 [y0]).bind fun a0=>
 some a0) n_.toNat 0 ([]:List (List Int))).bind fun (s1:List (List Int))=>
 some s1
def Dc_ (yes_:Bool):Option Int:=
 cond yes_
 (some 1)
 (some 0)
def CK_ (p_:Int) (a_:Int) (n_:Int):Option Int:=
 (nD 1 p_).bind fun a1=>
 (qB (fun (s0:Int×Int×Int)=>
 (some (decide ((0:Int)<s0.2.1))).bind fun a0=>
 cond a0
 (((nD s0.2.1 2).bind fun a2=>
 (some (decide (a2=1))).bind fun a3=>
 cond a3
 ((sF s0.2.2 s0.1).bind fun a4=>
 (nD a4 p_).bind fun a5=>
 some a5)
 (some s0.2.2)).bind fun (s1:Int)=>
 (sF s0.1 s0.1).bind fun a6=>
 (nD a6 p_).bind fun a7=>
 (bM s0.2.1 2).bind fun a8=>
 some (.inl (a7,a8,s1)))
 (some (.inr s0.2.2))) (a_,n_,a1)).bind fun (s2:Int)=>
 some s2
def wZ (p_:Int) (a_:Int):Option Int:=
 (subO p_ 2).bind fun a1=>
 (some (decide (p_=2))).bind fun a3=>
 (Dc_ a3).bind fun y5=>
 (nA a1 y5).bind fun a8=>
 (CK_ p_ a_ a8).bind fun y0=>
 some y0
def eN (o_:Int×Int×Int×Int) (p_:Int) (rows_:List (List Int)):Option (List (List Int)):=
 (some (decide (o_.1=0))).bind fun a5=>
 cond a5
 ((idxO rows_ o_.2.2.1).bind fun a0=>
 (idxO rows_ o_.2.1).bind fun a1=>
 (dN rows_ o_.2.1 o_.2.2.1).bind fun a2=>
 some a2)
 ((some (decide (o_.1=1))).bind fun a8=>
 cond a8
 ((wZ p_ o_.2.2.2).bind fun y0=>
 (idxO rows_ o_.2.1).bind fun a3=>
 (forS (fun (k0:Nat) (s0:List Int)=>
 (idxO s0 ((k0:Nat):Int)).bind fun a4=>
 (sF a4 y0).bind fun a6=>
 (nD a6 p_).bind fun a7=>
 (setO s0 ((k0:Nat):Int) a7).bind fun a9=>
 some a9) a3.length 0 a3).bind fun (s1:List Int)=>
 (setO rows_ o_.2.1 s1).bind fun a10=>
 some a10)
 ((some (decide (o_.1=2))).bind fun a12=>
 cond a12
 ((idxO rows_ o_.2.1).bind fun a13=>
 (negO o_.2.2.2).bind fun a14=>
 (idxO rows_ o_.2.2.1).bind fun a15=>
 (mI p_ a13 a14 a15).bind fun y1=>
 (neqO o_.2.1 o_.2.2.1).bind fun _=>
 (setO rows_ o_.2.1 y1).bind fun a16=>
 some a16)
 (some rows_)))
def uH (o_:Int×Int×Int×Int) (c0_:Int) (c1_:List (List Int)) (c2_:List (List Int)):Option (List (List Int)×List (List Int)):=
 (some (decide (([o_.1,o_.2.1,o_.2.2.1,o_.2.2.2]:List Int)=[0,o_.2.1,o_.2.1,0]))).bind fun a9=>
 cond a9
 (some (c1_,c2_))
 ((eN (o_.1,o_.2.1,o_.2.2.1,o_.2.2.2) c0_ c1_).bind fun y0=>
 (eN (o_.1,o_.2.1,o_.2.2.1,o_.2.2.2) c0_ c2_).bind fun y1=>
 some (y0,y1))
def cT (p_:Int) (rows_:List (List Int)) (n_:Int) (also_:List (List Int)):Option (List (List Int)×List (List Int)×Int):=
 (qB (fun (s0:List (List Int)×List (List Int)×Int×Int)=>
 ((some (decide (s0.2.2.1<n_))).bind fun a0=>
 cond a0
 ((some (decide (s0.2.2.2<((s0.1.length:Nat):Int)))).bind fun a1=>
 some a1)
 (some false)).bind fun (s1:Bool)=>
 cond s1
 (((qB (fun (s2:Int)=>
 ((some (decide (s2<((s0.1.length:Nat):Int)))).bind fun a2=>
 cond a2
 ((idxO s0.1 s2).bind fun a3=>
 (idxO a3 s0.2.2.1).bind fun a4=>
 (some (decide (a4=0))).bind fun a5=>
 some a5)
 (some false)).bind fun (s3:Bool)=>
 cond s3
 ((nA s2 1).bind fun a6=>
 some (.inl a6))
 (some (.inr s2))) s0.2.2.2).bind fun (s4:Int)=>
 (some (decide (s4=((s0.1.length:Nat):Int)))).bind fun a7=>
 cond a7
 (some (s0.1,s0.2.1,s0.2.2.2))
 ((uH (0,s0.2.2.2,s4,0) p_ s0.1 s0.2.1).bind fun y0=>
 (idxO y0.1 s0.2.2.2).bind fun a8=>
 (idxO a8 s0.2.2.1).bind fun a9=>
 (uH (1,s0.2.2.2,0,a9) p_ y0.1 y0.2).bind fun y1=>
 (forS (fun (k0:Nat) (s5:List (List Int)×List (List Int))=>
 ((some (!decide (((k0:Nat):Int)=s0.2.2.2))).bind fun a10=>
 cond a10
 ((idxO s5.1 ((k0:Nat):Int)).bind fun a11=>
 (idxO a11 s0.2.2.1).bind fun a12=>
 (some (!decide (a12=0))).bind fun a13=>
 some a13)
 (some false)).bind fun (s6:Bool)=>
 cond s6
 ((idxO s5.1 ((k0:Nat):Int)).bind fun a14=>
 (idxO a14 s0.2.2.1).bind fun a15=>
 (uH (2,((k0:Nat):Int),s0.2.2.2,a15) p_ s5.1 s5.2).bind fun y2=>
 some (y2.1,y2.2))
 (some (s5.1,s5.2))) y1.1.length 0 (y1.1,y1.2)).bind fun (s7:List (List Int)×List (List Int))=>
 (nA s0.2.2.2 1).bind fun a16=>
 some (s7.1,s7.2,a16))).bind fun (s8:List (List Int)×List (List Int)×Int)=>
 (nA s0.2.2.1 1).bind fun a17=>
 some (.inl (s8.1,s8.2.1,a17,s8.2.2)))
 (some (.inr (s0.1,s0.2.1,s0.2.2.2)))) (rows_,also_,0,0)).bind fun (s9:List (List Int)×List (List Int)×Int)=>
 some (s9.1,s9.2.1,s9.2.2)
def lT (p_:Int) (rows_:List (List Int)) (n_:Int):Option (List (List Int)):=
 (bU rows_).bind fun y2=>
 (bD ((y2.length:Nat):Int) ([]:List Int)).bind fun a7=>
 (cT p_ y2 n_ a7).bind fun y0=>
 (iB y0.1 0 y0.2.2).bind fun a0=>
 some a0
def Aj_ (p_:Int) (rows_:List (List Int)) (n_:Int):Option (List (List Int)):=
 (bU rows_).bind fun y2=>
 (mY ((rows_.length:Nat):Int)).bind fun y7=>
 (cT p_ y2 n_ y7).bind fun y0=>
 (iB y0.2.1 y0.2.2 ((y0.2.1.length:Nat):Int)).bind fun a0=>
 (lT p_ a0 ((rows_.length:Nat):Int)).bind fun y1=>
 some y1
def uN (p_:Int) (x_:List Int) (rows_:List (List Int)) (n_:Int):Option (List Int):=
 (xG n_).bind fun y3=>
 (forS (fun (k8:Nat) (s0:List Int)=>
 (idxO rows_ ((k8:Nat):Int)).bind fun a0=>
 (idxO x_ ((k8:Nat):Int)).bind fun a1=>
 (mI p_ s0 a1 a0).bind fun y0=>
 some y0) rows_.length 0 y3).bind fun (s1:List Int)=>
 some s1
def rE (lists_:List (List Int)):Option (List Int):=
 (forS (fun (k5:Nat) (s0:List Int)=>
 (idxO lists_ ((k5:Nat):Int)).bind fun a0=>
 (oA s0 a0).bind fun a1=>
 some a1) lists_.length 0 ([]:List Int)).bind fun (s1:List Int)=>
 some s1
def vK (p_:Int) (left_:Int) (right_:Int) (rows_:List (List Int)):Option (Int×Int×List (List Int)):=
 (nA left_ right_).bind fun a5=>
 (lT p_ rows_ a5).bind fun y7=>
 some (left_,right_,y7)
def jS (r_:Int×Int×List (List Int)) (d0_:Int×Int×List (List Int)):Option (List (List Int)):=
 (forS (fun (k9:Nat) (s0:List (List Int))=>
 (idxO r_.2.2 ((k9:Nat):Int)).bind fun a0=>
 (gN (d0_.1,d0_.2.1,d0_.2.2) a0).bind fun y0=>
 (oA s0 [y0]).bind fun a1=>
 some a1) r_.2.2.length 0 ([]:List (List Int))).bind fun (s1:List (List Int))=>
 some s1
def lS (r_:Int×Int×List (List Int)) (d0_:Int×Int×List (List Int)):Option (List (List Int)):=
 (forS (fun (k9:Nat) (s0:List (List Int))=>
 (idxO r_.2.2 ((k9:Nat):Int)).bind fun a0=>
 (jN (d0_.1,d0_.2.1,d0_.2.2) a0).bind fun y0=>
 (oA s0 [y0]).bind fun a1=>
 some a1) r_.2.2.length 0 ([]:List (List Int))).bind fun (s1:List (List Int))=>
 some s1
def wP (p_:Int) (a_:Int×Int×List (List Int)) (b_:Int×Int×List (List Int)):Option (Int×Int×List (List Int)):=
 (jS (a_.1,a_.2.1,a_.2.2) (a_.1,a_.2.1,a_.2.2)).bind fun y0=>
 (lS (b_.1,b_.2.1,b_.2.2) (b_.1,b_.2.1,b_.2.2)).bind fun y1=>
 (forS (fun (k0:Nat) (s0:List (List Int))=>
 (idxO y1 ((k0:Nat):Int)).bind fun a0=>
 (xG ((a0.length:Nat):Int)).bind fun y2=>
 (mI p_ y2 (-1) a0).bind fun y3=>
 (oA s0 [y3]).bind fun a1=>
 some a1) y1.length 0 y0).bind fun (s1:List (List Int))=>
 ((lS (a_.1,a_.2.1,a_.2.2) (a_.1,a_.2.1,a_.2.2)).bind fun y4=>
 (jS (b_.1,b_.2.1,b_.2.2) (b_.1,b_.2.1,b_.2.2)).bind fun y5=>
 some (y4,y5)).bind fun (s2:List (List Int)×List (List Int))=>
 (Aj_ p_ s1 a_.2.1).bind fun y6=>
 (forS (fun (k1:Nat) (s3:List (List Int))=>
 (idxO y6 ((k1:Nat):Int)).bind fun a2=>
 (iB a2 0 ((s2.1.length:Nat):Int)).bind fun a3=>
 (uN p_ a3 s2.1 a_.1).bind fun y7=>
 (iB a2 ((s2.1.length:Nat):Int) ((a2.length:Nat):Int)).bind fun a4=>
 (uN p_ a4 s2.2 b_.2.1).bind fun y8=>
 (rE [y7,y8]).bind fun y9=>
 (oA s3 [y9]).bind fun a5=>
 some a5) y6.length 0 ([]:List (List Int))).bind fun (s4:List (List Int))=>
 (vK p_ a_.1 b_.2.1 s4).bind fun y10=>
 some (y10.1,y10.2.1,y10.2.2)
def Ci_ (row_:List Int) (c0_:Int×Int×List (List Int)) (c1_:Int×Int×List (List Int)):Option (List Int):=
 (jN (c0_.1,c0_.2.1,c0_.2.2) row_).bind fun y7=>
 (xG c1_.1).bind fun y0=>
 (gN (c0_.1,c0_.2.1,c0_.2.2) row_).bind fun y1=>
 (xG c1_.2.1).bind fun y2=>
 (rE [y7,y0,y1,y2]).bind fun y3=>
 some y3
def uX (r_:Int×Int×List (List Int)) (d0_:Int×Int×List (List Int)) (d1_:Int×Int×List (List Int)):Option (List (List Int)):=
 (forS (fun (k0:Nat) (s0:List (List Int))=>
 (idxO r_.2.2 ((k0:Nat):Int)).bind fun a0=>
 (Ci_ a0 (d0_.1,d0_.2.1,d0_.2.2) (d1_.1,d1_.2.1,d1_.2.2)).bind fun y0=>
 (oA s0 [y0]).bind fun a1=>
 some a1) r_.2.2.length 0 ([]:List (List Int))).bind fun (s1:List (List Int))=>
 some s1
def Ch_ (row_:List Int) (c0_:Int×Int×List (List Int)) (c1_:Int×Int×List (List Int)):Option (List Int):=
 (xG c0_.1).bind fun y7=>
 (jN (c1_.1,c1_.2.1,c1_.2.2) row_).bind fun y0=>
 (xG c0_.2.1).bind fun y1=>
 (gN (c1_.1,c1_.2.1,c1_.2.2) row_).bind fun y2=>
 (rE [y7,y0,y1,y2]).bind fun y3=>
 some y3
def tX (r_:Int×Int×List (List Int)) (d0_:Int×Int×List (List Int)) (d1_:Int×Int×List (List Int)):Option (List (List Int)):=
 (forS (fun (k0:Nat) (s0:List (List Int))=>
 (idxO r_.2.2 ((k0:Nat):Int)).bind fun a0=>
 (Ch_ a0 (d0_.1,d0_.2.1,d0_.2.2) (d1_.1,d1_.2.1,d1_.2.2)).bind fun y0=>
 (oA s0 [y0]).bind fun a1=>
 some a1) r_.2.2.length 0 ([]:List (List Int))).bind fun (s1:List (List Int))=>
 some s1
def eQ (p_:Int) (a_:Int×Int×List (List Int)) (b_:Int×Int×List (List Int)):Option (Int×Int×List (List Int)):=
 (uX (a_.1,a_.2.1,a_.2.2) (a_.1,a_.2.1,a_.2.2) (b_.1,b_.2.1,b_.2.2)).bind fun y0=>
 (tX (b_.1,b_.2.1,b_.2.2) (a_.1,a_.2.1,a_.2.2) (b_.1,b_.2.1,b_.2.2)).bind fun y1=>
 (oA y0 y1).bind fun a0=>
 (nA a_.1 b_.1).bind fun a1=>
 (nA a_.2.1 b_.2.1).bind fun a2=>
 (vK p_ a1 a2 a0).bind fun y2=>
 some (y2.1,y2.2.1,y2.2.2)
def BY_ (n_:Int):Option (Int×Int×List (List Int)):=
 (cI n_).bind fun _=>
 (forS (fun (k8:Nat) (s0:List (List Int))=>
 (qM n_ ((k8:Nat):Int)).bind fun y0=>
 (qM n_ ((k8:Nat):Int)).bind fun y1=>
 (rE [y0,y1]).bind fun y2=>
 (oA s0 [y2]).bind fun a0=>
 some a0) n_.toNat 0 []).bind fun (s1:List (List Int))=>
 some (n_,n_,s1)
def yS (kind_:Int):Option Int:=
 (aF kind_ 3 8).bind fun y1=>
 cond y1
 ((nA kind_ 9).bind fun a0=>
 (subO a0 3).bind fun a1=>
 some a1)
 ((aF kind_ 9 14).bind fun y5=>
 cond y5
 ((subO kind_ 9).bind fun a2=>
 (nA a2 3).bind fun a3=>
 some a3)
 (some kind_))
def sS (kind_:Int) (value_:Int):Option (List (List Int)):=
 (some (decide (kind_=3))).bind fun a1=>
 cond a1
 (some [[1,1,1]])
 ((some (decide (kind_=4))).bind fun a4=>
 cond a4
 (some [[1]])
 ((some (decide (kind_=5))).bind fun a7=>
 cond a7
 (some [[1,0,1],[0,1,1]])
 ((some (decide (kind_=7))).bind fun a0=>
 cond a0
 (some [[1,value_]])
 (some []))))
def B9_ (row_:List Int) (c0_:Int×Int×List (List Int)):Option (List Int):=
 (gN (c0_.1,c0_.2.1,c0_.2.2) row_).bind fun y5=>
 (jN (c0_.1,c0_.2.1,c0_.2.2) row_).bind fun y0=>
 (rE [y5,y0]).bind fun y1=>
 some y1
def sX (r_:Int×Int×List (List Int)) (d0_:Int×Int×List (List Int)):Option (List (List Int)):=
 (forS (fun (k0:Nat) (s0:List (List Int))=>
 (idxO r_.2.2 ((k0:Nat):Int)).bind fun a0=>
 (B9_ a0 (d0_.1,d0_.2.1,d0_.2.2)).bind fun y0=>
 (oA s0 [y0]).bind fun a1=>
 some a1) r_.2.2.length 0 ([]:List (List Int))).bind fun (s1:List (List Int))=>
 some s1
def oZ (p_:Int) (r_:Int×Int×List (List Int)):Option (Int×Int×List (List Int)):=
 (sX (r_.1,r_.2.1,r_.2.2) (r_.1,r_.2.1,r_.2.2)).bind fun y9=>
 (vK p_ r_.2.1 r_.1 y9).bind fun y0=>
 some (y0.1,y0.2.1,y0.2.2)
def iM (p_:Int) (n_:Int×Int×ByteArray):Option (Int×Int×List (List Int)):=
 (some (decide (n_.1=1))).bind fun a7=>
 cond a7
 ((BY_ n_.2.1).bind fun y0=>
 some (y0.1,y0.2.1,y0.2.2))
 ((some (decide (n_.1=2))).bind fun a0=>
 cond a0
 ((vK p_ 2 2 [[1,0,0,1],[0,1,1,0]]).bind fun y1=>
 some (y1.1,y1.2.1,y1.2.2))
 ((some (decide ((9:Int)≤n_.1))).bind fun a1=>
 cond a1
 ((yS n_.1).bind fun y2=>
 (iN y2).bind fun y3=>
 (yS n_.1).bind fun y4=>
 (sS y4 n_.2.1).bind fun y5=>
 (vK p_ y3.1 y3.2 y5).bind fun y6=>
 (oZ p_ (y6.1,y6.2.1,y6.2.2)).bind fun y7=>
 some (y7.1,y7.2.1,y7.2.2))
 ((iN n_.1).bind fun y8=>
 (sS n_.1 n_.2.1).bind fun y9=>
 (vK p_ y8.1 y8.2 y9).bind fun y10=>
 some (y10.1,y10.2.1,y10.2.2))))
def fQ (p_:Int) (t_:(List (Int×Int×ByteArray))):Option (Int×Int×List (List Int)):=
 (forS (fun (k0:Nat) (s0:List (Int×Int×List (List Int)))=>
 (idxO t_ ((k0:Nat):Int)).bind fun a0=>
 (subO ((s0.length:Nat):Int) 1).bind fun a1=>
 (some (decide (a0.1=15))).bind fun a2=>
 cond a2
 ((subO a1 1).bind fun a3=>
 (subO a1 1).bind fun a4=>
 (idxO s0 a4).bind fun a5=>
 (idxO s0 a1).bind fun a6=>
 (iB s0 0 a3).bind fun a7=>
 (wP p_ (a5.1,a5.2.1,a5.2.2) (a6.1,a6.2.1,a6.2.2)).bind fun y0=>
 (oA a7 [(y0.1,y0.2.1,y0.2.2)]).bind fun a8=>
 some a8)
 ((some (decide (a0.1=16))).bind fun a9=>
 cond a9
 ((subO a1 1).bind fun a10=>
 (subO a1 1).bind fun a11=>
 (idxO s0 a11).bind fun a12=>
 (idxO s0 a1).bind fun a13=>
 (iB s0 0 a10).bind fun a14=>
 (eQ p_ (a12.1,a12.2.1,a12.2.2) (a13.1,a13.2.1,a13.2.2)).bind fun y1=>
 (oA a14 [(y1.1,y1.2.1,y1.2.2)]).bind fun a15=>
 some a15)
 ((iM p_ (a0.1,a0.2.1,a0.2.2)).bind fun y2=>
 (oA s0 [(y2.1,y2.2.1,y2.2.2)]).bind fun a16=>
 some a16))) t_.length 0 ([]:List (Int×Int×List (List Int)))).bind fun (s1:List (Int×Int×List (List Int)))=>
 (idxO s1 0).bind fun a17=>
 some (a17.1,a17.2.1,a17.2.2)
def iH (d_:(Int×(List (Int×Int×List Int×List Int))×List Int×List Int)):Option ((Int×(List (Int×Int×List Int×List Int))×List Int×List Int)×Int):=
 (nA d_.1 1).bind fun a2=>
 (subO a2 1).bind fun a5=>
 some ((a2,d_.2.1,d_.2.2.1,d_.2.2.2),a5)
def oP (d_:(Int×(List (Int×Int×List Int×List Int))×List Int×List Int)) (n_:Int):Option ((Int×(List (Int×Int×List Int×List Int))×List Int×List Int)×List Int):=
 (cI n_).bind fun _=>
 (forS (fun (k5:Nat) (s0:Int×List Int)=>
 (iH (s0.1,d_.2.1,d_.2.2.1,d_.2.2.2)).bind fun y0=>
 (oA s0.2 [y0.2]).bind fun a0=>
 some (y0.1.1,a0)) n_.toNat 0 (d_.1,([]:List Int))).bind fun (s1:Int×List Int)=>
 some ((s1.1,d_.2.1,d_.2.2.1,d_.2.2.2),s1.2)
def iF (d_:(Int×(List (Int×Int×List Int×List Int))×List Int×List Int)) (kind_:Int) (value_:Int) (in_:List Int) (out_:List Int):Option (Int×(List (Int×Int×List Int×List Int))×List Int×List Int):=
 (oA d_.2.1 [(kind_,value_,in_,out_)]).bind fun a0=>
 some (d_.1,a0,d_.2.2.1,d_.2.2.2)
def B1_ (r_:Int×Int×List (List Int)):Option Int:=
 (nA r_.1 r_.2.1).bind fun a5=>
 some a5
def fN:Nat→(Int×(List (Int×Int×List Int×List Int))×List Int×List Int)→Int→Int→Option ((Int×(List (Int×Int×List Int×List Int))×List Int×List Int)×List Int)
 | 0,_,_,_=>none
 | fuel+1,d_,w_,n_=>
  (some (decide (n_=0))).bind fun a3=>
  cond a3
  ((iF (d_.1,d_.2.1,d_.2.2.1,d_.2.2.2) 4 0 [w_] []).bind fun y0=>
  some ((y0.1,y0.2.1,d_.2.2.1,d_.2.2.2),[]))
  ((some (decide (n_=1))).bind fun a6=>
  cond a6
  (some ((d_.1,d_.2.1,d_.2.2.1,d_.2.2.2),[w_]))
  ((oP (d_.1,d_.2.1,d_.2.2.1,d_.2.2.2) 2).bind fun y9=>
  (iF (y9.1.1,d_.2.1,d_.2.2.1,d_.2.2.2) 3 0 [w_] y9.2).bind fun y1=>
  ((subO n_ 1).bind fun a0=>
  (idxO y9.2 0).bind fun a1=>
  (idxO y9.2 1).bind fun a2=>
  (fN fuel (y1.1,y1.2.1,d_.2.2.1,d_.2.2.2) a2 a0).bind fun y2=>
  (oA [a1] y2.2).bind fun a4=>
  some (y2.1.1,y2.1.2.1,a4)).bind fun (s0:Int×(List (Int×Int×List Int×List Int))×List Int)=>
  some ((s0.1,s0.2.1,d_.2.2.1,d_.2.2.2),s0.2.2)))
def nP (d_:(Int×(List (Int×Int×List Int×List Int))×List Int×List Int)) (w_:Int) (n_:Int):Option ((Int×(List (Int×Int×List Int×List Int))×List Int×List Int)×List Int):=fN 1000000 d_ w_ n_
def tS:Nat→(Int×(List (Int×Int×List Int×List Int))×List Int×List Int)→(List Int)→Option ((Int×(List (Int×Int×List Int×List Int))×List Int×List Int)×Int)
 | 0,_,_=>none
 | fuel+1,d_,list_=>
  (subO ((list_.length:Nat):Int) 1).bind fun a4=>
  (some (decide (a4=0))).bind fun a6=>
  cond a6
  ((idxO list_ 0).bind fun a0=>
  some ((d_.1,d_.2.1,d_.2.2.1,d_.2.2.2),a0))
  ((iH (d_.1,d_.2.1,d_.2.2.1,d_.2.2.2)).bind fun y9=>
  (some (decide (a4<0))).bind fun a1=>
  cond a1
  ((iF (y9.1.1,d_.2.1,d_.2.2.1,d_.2.2.2) 6 0 [] [y9.2]).bind fun y0=>
  some ((y0.1,y0.2.1,d_.2.2.1,d_.2.2.2),y9.2))
  (((iB list_ 0 a4).bind fun a2=>
  (tS fuel (y9.1.1,d_.2.1,d_.2.2.1,d_.2.2.2) a2).bind fun y1=>
  (idxO list_ a4).bind fun a3=>
  (iF (y1.1.1,y1.1.2.1,d_.2.2.1,d_.2.2.2) 5 0 [y1.2,a3] [y9.2]).bind fun y2=>
  some (y2.1,y2.2.1)).bind fun (s0:Int×(List (Int×Int×List Int×List Int)))=>
  some ((s0.1,s0.2,d_.2.2.1,d_.2.2.2),y9.2)))
def rY (d_:(Int×(List (Int×Int×List Int×List Int))×List Int×List Int)) (list_:List Int):Option ((Int×(List (Int×Int×List Int×List Int))×List Int×List Int)×Int):=tS 1000000 d_ list_
def cY (d_:(Int×(List (Int×Int×List Int×List Int))×List Int×List Int)) (ins_:List Int) (rows_:List (List Int)) (cols_:Int):Option ((Int×(List (Int×Int×List Int×List Int))×List Int×List Int)×List Int):=
 (bD cols_ ([]:List Int)).bind fun a5=>
 (forS (fun (k0:Nat) (s0:Int×(List (Int×Int×List Int×List Int))×List (List Int))=>
 (idxO rows_ ((k0:Nat):Int)).bind fun a0=>
 (forS (fun (k1:Nat) (s1:List Int)=>
 (idxO a0 ((k1:Nat):Int)).bind fun a1=>
 (some (!decide (a1=0))).bind fun a2=>
 cond a2
 ((oA s1 [((k1:Nat):Int)]).bind fun a3=>
 some a3)
 (some s1)) a0.length 0 ([]:List Int)).bind fun (s2:List Int)=>
 (idxO ins_ ((k0:Nat):Int)).bind fun a4=>
 (nP (s0.1,s0.2.1,d_.2.2.1,d_.2.2.2) a4 ((s2.length:Nat):Int)).bind fun y0=>
 (forS (fun (k2:Nat) (s3:Int×(List (Int×Int×List Int×List Int))×List (List Int))=>
 (idxO y0.2 ((k2:Nat):Int)).bind fun a6=>
 (idxO s2 ((k2:Nat):Int)).bind fun a7=>
 ((idxO a0 a7).bind fun a8=>
 (some (!decide (a8=1))).bind fun a9=>
 cond a9
 ((iH (s3.1,s3.2.1,d_.2.2.1,d_.2.2.2)).bind fun y1=>
 (iF (y1.1.1,s3.2.1,d_.2.2.1,d_.2.2.2) 7 a8 [a6] [y1.2]).bind fun y2=>
 some (y2.1,y2.2.1,y1.2))
 (some (s3.1,s3.2.1,a6))).bind fun (s4:Int×(List (Int×Int×List Int×List Int))×Int)=>
 (idxO s3.2.2 a7).bind fun a10=>
 (oA a10 [s4.2.2]).bind fun a11=>
 (setO s3.2.2 a7 a11).bind fun a12=>
 some (s4.1,s4.2.1,a12)) y0.2.length 0 (y0.1.1,y0.1.2.1,s0.2.2)).bind fun (s5:Int×(List (Int×Int×List Int×List Int))×List (List Int))=>
 some (s5.1,s5.2.1,s5.2.2)) rows_.length 0 (d_.1,d_.2.1,a5)).bind fun (s6:Int×(List (Int×Int×List Int×List Int))×List (List Int))=>
 (forS (fun (k3:Nat) (s7:Int×(List (Int×Int×List Int×List Int))×List Int)=>
 (idxO s6.2.2 ((k3:Nat):Int)).bind fun a13=>
 (rY (s7.1,s7.2.1,d_.2.2.1,d_.2.2.2) a13).bind fun y3=>
 (oA s7.2.2 [y3.2]).bind fun a14=>
 some (y3.1.1,y3.1.2.1,a14)) s6.2.2.length 0 (s6.1,s6.2.1,([]:List Int))).bind fun (s8:Int×(List (Int×Int×List Int×List Int))×List Int)=>
 some ((s8.1,s8.2.1,d_.2.2.1,d_.2.2.2),s8.2.2)
def xS (e_:Int×Int×List Int×List Int):Option Bool:=
 ((pN e_.1).bind fun y0=>
 (some (!y0)).bind fun a0=>
 cond a0
 (some true)
 ((mP e_.1 e_.2.1).bind fun y1=>
 (some (!y1)).bind fun a1=>
 some a1)).bind fun (s0:Bool)=>
 cond s0
 (some false)
 ((iN e_.1).bind fun y2=>
 (some (decide (([y2.1,y2.2]:List Int)=[((e_.2.2.1.length:Nat):Int),((e_.2.2.2.length:Nat):Int)]))).bind fun a2=>
 some a2)
def kJ (list_:List Int) (c0_:Int×(List (Int×Int×List Int×List Int))×List Int×List Int) (c1_:Bool) (c2_:List Bool) (c3_:Int):Option (Bool×List Bool×Int):=
 (forS (fun (k0:Nat) (s0:Bool×Int×List Bool)=>
 ((idxO list_ ((k0:Nat):Int)).bind fun a0=>
 (subO c0_.1 1).bind fun a1=>
 (aF a0 0 a1).bind fun y0=>
 (some (!y0)).bind fun a2=>
 cond a2
 (some (false,s0.2.1,s0.2.2))
 ((idxO s0.2.2 a0).bind fun a3=>
 (some (!a3)).bind fun a4=>
 cond a4
 ((setO s0.2.2 a0 true).bind fun a5=>
 (nA s0.2.1 1).bind fun a6=>
 some (s0.1,a6,a5))
 (some (s0.1,s0.2.1,s0.2.2)))).bind fun (s1:Bool×Int×List Bool)=>
 some (s1.1,s1.2.1,s1.2.2)) list_.length 0 (c1_,c3_,c2_)).bind fun (s2:Bool×Int×List Bool)=>
 some (s2.1,s2.2.2,s2.2.1)
def mS (g_:Int×(List (Int×Int×List Int×List Int))×List Int×List Int) (d0_:Int×(List (Int×Int×List Int×List Int))×List Int×List Int) (d1_:Bool) (d2_:List Bool) (d3_:Int):Option (Bool×List Bool×Int):=
 (kJ g_.2.2.1 (d0_.1,d0_.2.1,d0_.2.2.1,d0_.2.2.2) d1_ d2_ d3_).bind fun y0=>
 (kJ g_.2.2.2 (d0_.1,d0_.2.1,d0_.2.2.1,d0_.2.2.2) y0.1 y0.2.1 y0.2.2).bind fun y1=>
 (forS (fun (k0:Nat) (s0:Int×Bool×List Bool)=>
 (idxO g_.2.1 ((k0:Nat):Int)).bind fun a0=>
 (kJ a0.2.2.1 (d0_.1,d0_.2.1,d0_.2.2.1,d0_.2.2.2) s0.2.1 s0.2.2 s0.1).bind fun y2=>
 (kJ a0.2.2.2 (d0_.1,d0_.2.1,d0_.2.2.1,d0_.2.2.2) y2.1 y2.2.1 y2.2.2).bind fun y3=>
 some (y3.2.2,y3.1,y3.2.1)) g_.2.1.length 0 (y1.2.2,y1.1,y1.2.1)).bind fun (s1:Int×Bool×List Bool)=>
 some (s1.2.1,s1.2.2,s1.1)
def uS (g_:Int×(List (Int×Int×List Int×List Int))×List Int×List Int):Option Bool:=
 ((aF g_.1 0 100).bind fun y0=>
 (some (!y0)).bind fun a0=>
 cond a0
 (some true)
 ((some (decide ((60:Int)<((g_.2.1.length:Nat):Int)))).bind fun a1=>
 cond a1
 (some true)
 ((some (decide ((12:Int)<((g_.2.2.1.length:Nat):Int)))).bind fun a2=>
 cond a2
 (some true)
 ((some (decide ((12:Int)<((g_.2.2.2.length:Nat):Int)))).bind fun a3=>
 some a3)))).bind fun (s0:Bool)=>
 cond s0
 (some false)
 (pC (zC (fun (k0:Nat) (_:Unit)=>
 (idxO g_.2.1 ((k0:Nat):Int)).bind fun a4=>
 (xS (a4.1,a4.2.1,a4.2.2.1,a4.2.2.2)).bind fun y1=>
 (some (!y1)).bind fun a5=>
 cond a5
 (some (.inr false))
 (some (.inl ()))) g_.2.1.length 0 ()) fun (_:Unit)=>
 (bD g_.1 (false:Bool)).bind fun a6=>
 (mS (g_.1,g_.2.1,g_.2.2.1,g_.2.2.2) (g_.1,g_.2.1,g_.2.2.1,g_.2.2.2) true a6 0).bind fun y2=>
 (cond y2.1
 ((some (decide (y2.2.2=g_.1))).bind fun a7=>
 some (true,a7))
 (some (false,false))).bind fun (s1:Bool×Bool)=>
 some s1.2)
def jY (list_:List Int) (n_:Int):Option Bool:=
 (some (!decide (((list_.length:Nat):Int)=n_))).bind fun a2=>
 cond a2
 (some false)
 ((bD n_ (false:Bool)).bind fun a5=>
 pC (zC (fun (k0:Nat) (s0:List Bool)=>
 (idxO list_ ((k0:Nat):Int)).bind fun a0=>
 ((subO n_ 1).bind fun a1=>
 (aF a0 0 a1).bind fun y0=>
 (some (!y0)).bind fun a3=>
 cond a3
 (some true)
 ((idxO s0 a0).bind fun a4=>
 some a4)).bind fun (s1:Bool)=>
 cond s1
 (some (.inr false))
 ((setO s0 a0 true).bind fun a6=>
 some (.inl a6))) list_.length 0 a5) fun (s2:List Bool)=>
 some true)
def zY (n_:Int) (lists_:List (List Int)):Option Bool:=
 (rE lists_).bind fun y2=>
 (jY y2 n_).bind fun y7=>
 some y7
def yX (g_:Int×(List (Int×Int×List Int×List Int))×List Int×List Int):Option Bool:=
 (uS (g_.1,g_.2.1,g_.2.2.1,g_.2.2.2)).bind fun y7=>
 (some (!y7)).bind fun a0=>
 cond a0
 (some false)
 ((some ([g_.2.2.1],[g_.2.2.2])).bind fun (s0:List (List Int)×List (List Int))=>
 (forS (fun (k0:Nat) (s1:List (List Int)×List (List Int))=>
 (idxO g_.2.1 ((k0:Nat):Int)).bind fun a1=>
 (oA s1.1 [a1.2.2.2]).bind fun a2=>
 (oA s1.2 [a1.2.2.1]).bind fun a3=>
 some (a2,a3)) g_.2.1.length 0 (s0.1,s0.2)).bind fun (s2:List (List Int)×List (List Int))=>
 ((zY g_.1 s2.1).bind fun y0=>
 cond y0
 ((zY g_.1 s2.2).bind fun y1=>
 some y1)
 (some false)).bind fun (s3:Bool)=>
 some s3)
def sN (a_:Int) (n_:Int):Option (List Int):=
 (xG n_).bind fun y1=>
 (forS (fun (k6:Nat) (s0:List Int)=>
 (setO s0 ((k6:Nat):Int) a_).bind fun a0=>
 some a0) y1.length 0 y1).bind fun (s1:List Int)=>
 some s1
def aZ (g_:Int×(List (Int×Int×List Int×List Int))×List Int×List Int):Option (List Int×List Int):=
 ((sN (-1) g_.1).bind fun y0=>
 (sN (-1) g_.1).bind fun y1=>
 some (y0,y1)).bind fun (s0:List Int×List Int)=>
 (forS (fun (k0:Nat) (s1:List Int×List Int)=>
 (idxO g_.2.1 ((k0:Nat):Int)).bind fun a0=>
 (forS (fun (k1:Nat) (s2:List Int)=>
 (idxO a0.2.2.2 ((k1:Nat):Int)).bind fun a1=>
 (setO s2 a1 ((k0:Nat):Int)).bind fun a2=>
 some a2) a0.2.2.2.length 0 s1.1).bind fun (s3:List Int)=>
 (forS (fun (k2:Nat) (s4:List Int)=>
 (idxO a0.2.2.1 ((k2:Nat):Int)).bind fun a3=>
 (setO s4 a3 ((k0:Nat):Int)).bind fun a4=>
 some a4) a0.2.2.1.length 0 s1.2).bind fun (s5:List Int)=>
 some (s3,s5)) g_.2.1.length 0 (s0.1,s0.2)).bind fun (s6:List Int×List Int)=>
 some (s6.1,s6.2)
def Cg_ (g_:Int×(List (Int×Int×List Int×List Int))×List Int×List Int):Option ((Int×(List (Int×Int×List Int×List Int))×List Int×List Int)×(List Int×List Int)×MI×MI×List Int×List Int):=
 ((aZ (g_.1,g_.2.1,g_.2.2.1,g_.2.2.2)).bind fun y0=>
 some (g_.1,y0.1,y0.2,(⟨[]⟩:MI),(⟨[]⟩:MI))).bind fun (s0:Int×List Int×List Int×MI×MI)=>
 some ((s0.1,g_.2.1,g_.2.2.1,g_.2.2.2),(s0.2.1,s0.2.2.1),s0.2.2.2.1,s0.2.2.2.2,[],[])
def nN (k_:(Int×(List (Int×Int×List Int×List Int))×List Int×List Int)×(List Int×List Int)×MI×MI×List Int×List Int) (w_:Int):Option ((Int×(List (Int×Int×List Int×List Int))×List Int×List Int)×(List Int×List Int)×MI×MI×List Int×List Int):=
 (some (dM k_.2.2.1 w_)).bind fun a4=>
 (some (!a4)).bind fun a6=>
 cond a6
 ((oA k_.2.2.2.2.1 [w_]).bind fun a0=>
 some ((k_.1.1,k_.1.2.1,k_.1.2.2.1,k_.1.2.2.2),(k_.2.1.1,k_.2.1.2),(eJ k_.2.2.1 w_ ((k_.2.2.1.kvs.length:Nat):Int)),k_.2.2.2.1,a0,k_.2.2.2.2.2))
 (some ((k_.1.1,k_.1.2.1,k_.1.2.2.1,k_.1.2.2.2),(k_.2.1.1,k_.2.1.2),k_.2.2.1,k_.2.2.2.1,k_.2.2.2.2.1,k_.2.2.2.2.2))
def oN (k_:(Int×(List (Int×Int×List Int×List Int))×List Int×List Int)×(List Int×List Int)×MI×MI×List Int×List Int) (e_:Int):Option ((Int×(List (Int×Int×List Int×List Int))×List Int×List Int)×(List Int×List Int)×MI×MI×List Int×List Int):=
 (some (decide (e_<0))).bind fun a0=>
 cond a0
 (some ((k_.1.1,k_.1.2.1,k_.1.2.2.1,k_.1.2.2.2),(k_.2.1.1,k_.2.1.2),k_.2.2.1,k_.2.2.2.1,k_.2.2.2.2.1,k_.2.2.2.2.2))
 ((some (dM k_.2.2.2.1 e_)).bind fun a1=>
 cond a1
 (some ((k_.1.1,k_.1.2.1,k_.1.2.2.1,k_.1.2.2.2),(k_.2.1.1,k_.2.1.2),k_.2.2.1,k_.2.2.2.1,k_.2.2.2.2.1,k_.2.2.2.2.2))
 ((oA k_.2.2.2.2.2 [e_]).bind fun a2=>
 (idxO k_.1.2.1 e_).bind fun a3=>
 (idxO k_.1.2.1 e_).bind fun a4=>
 (rE [a3.2.2.1,a4.2.2.2]).bind fun y0=>
 (forS (fun (k0:Nat) (s0:Int×MI×List Int)=>
 (idxO y0 ((k0:Nat):Int)).bind fun a5=>
 (nN ((s0.1,k_.1.2.1,k_.1.2.2.1,k_.1.2.2.2),(k_.2.1.1,k_.2.1.2),s0.2.1,(eJ k_.2.2.2.1 e_ ((k_.2.2.2.1.kvs.length:Nat):Int)),s0.2.2,a2) a5).bind fun y1=>
 some (y1.1.1,y1.2.2.1,y1.2.2.2.2.1)) y0.length 0 (k_.1.1,k_.2.2.1,k_.2.2.2.2.1)).bind fun (s1:Int×MI×List Int)=>
 some ((s1.1,k_.1.2.1,k_.1.2.2.1,k_.1.2.2.2),(k_.2.1.1,k_.2.1.2),s1.2.1,(eJ k_.2.2.2.1 e_ ((k_.2.2.2.1.kvs.length:Nat):Int)),s1.2.2,a2)))
def qY (k_:(Int×(List (Int×Int×List Int×List Int))×List Int×List Int)×(List Int×List Int)×MI×MI×List Int×List Int):Option ((Int×(List (Int×Int×List Int×List Int))×List Int×List Int)×(List Int×List Int)×MI×MI×List Int×List Int):=
 qB (fun (s0:Int×MI×MI×List Int×List Int)=>
 (some (decide ((0:Int)<((s0.2.2.2.1.length:Nat):Int)))).bind fun a0=>
 cond a0
 ((idxO s0.2.2.2.1 0).bind fun a1=>
 (iB s0.2.2.2.1 1 ((s0.2.2.2.1.length:Nat):Int)).bind fun a2=>
 (idxO k_.2.1.2 a1).bind fun a3=>
 (oN ((s0.1,k_.1.2.1,k_.1.2.2.1,k_.1.2.2.2),(k_.2.1.1,k_.2.1.2),s0.2.1,s0.2.2.1,a2,s0.2.2.2.2) a3).bind fun y0=>
 (idxO k_.2.1.1 a1).bind fun a4=>
 (oN ((y0.1.1,k_.1.2.1,k_.1.2.2.1,k_.1.2.2.2),(k_.2.1.1,k_.2.1.2),y0.2.2.1,y0.2.2.2.1,y0.2.2.2.2.1,y0.2.2.2.2.2) a4).bind fun y1=>
 some (.inl (y1.1.1,y1.2.2.1,y1.2.2.2.1,y1.2.2.2.2.1,y1.2.2.2.2.2)))
 (some (.inr ((s0.1,k_.1.2.1,k_.1.2.2.1,k_.1.2.2.2),(k_.2.1.1,k_.2.1.2),s0.2.1,s0.2.2.1,s0.2.2.2.1,s0.2.2.2.2)))) (k_.1.1,k_.2.2.1,k_.2.2.2.1,k_.2.2.2.2.1,k_.2.2.2.2.2)
def eY (g_:Int×(List (Int×Int×List Int×List Int))×List Int×List Int):Option ((Int×(List (Int×Int×List Int×List Int))×List Int×List Int)×(List Int×List Int)×MI×MI×List Int×List Int):=
 (Cg_ (g_.1,g_.2.1,g_.2.2.1,g_.2.2.2)).bind fun y7=>
 (rE [g_.2.2.1,g_.2.2.2]).bind fun y0=>
 (forS (fun (k0:Nat) (s0:Int×MI×List Int)=>
 (idxO y0 ((k0:Nat):Int)).bind fun a0=>
 (nN ((s0.1,g_.2.1,g_.2.2.1,g_.2.2.2),(y7.2.1.1,y7.2.1.2),s0.2.1,y7.2.2.2.1,s0.2.2,y7.2.2.2.2.2) a0).bind fun y1=>
 some (y1.1.1,y1.2.2.1,y1.2.2.2.2.1)) y0.length 0 (y7.1.1,y7.2.2.1,y7.2.2.2.2.1)).bind fun (s1:Int×MI×List Int)=>
 (qY ((s1.1,g_.2.1,g_.2.2.1,g_.2.2.2),(y7.2.1.1,y7.2.1.2),s1.2.1,y7.2.2.2.1,s1.2.2,y7.2.2.2.2.2)).bind fun y2=>
 some ((y2.1.1,g_.2.1,g_.2.2.1,g_.2.2.2),(y7.2.1.1,y7.2.1.2),y2.2.2.1,y2.2.2.2.1,y2.2.2.2.2.1,y2.2.2.2.2.2)
def At_ (n_:Int):Option (List Int):=
 (xG n_).bind fun y1=>
 (forS (fun (k6:Nat) (s0:List Int)=>
 (setO s0 ((k6:Nat):Int) ((k6:Nat):Int)).bind fun a0=>
 some a0) y1.length 0 y1).bind fun (s1:List Int)=>
 some s1
def lN (c_:List Int) (w_:Int):Option Int:=
 (qB (fun (s0:Int)=>
 (idxO c_ s0).bind fun a0=>
 (some (!decide (a0=s0))).bind fun a1=>
 cond a1
 ((idxO c_ s0).bind fun a2=>
 some (.inl a2))
 (some (.inr s0))) w_).bind fun (s1:Int)=>
 some s1
def mN (c_:List Int) (v_:Int) (w_:Int):Option (List Int):=
 (lN c_ v_).bind fun y2=>
 (lN c_ w_).bind fun y5=>
 (some (iP y2 y5)).bind fun a8=>
 (some (gP y2 y5)).bind fun a0=>
 (setO c_ a8 a0).bind fun a1=>
 some a1
def bY (g_:Int×(List (Int×Int×List Int×List Int))×List Int×List Int):Option (List Int×Int):=
 (At_ g_.1).bind fun y7=>
 (forS (fun (k0:Nat) (s0:List Int)=>
 (idxO g_.2.1 ((k0:Nat):Int)).bind fun a0=>
 (rE [a0.2.2.1,a0.2.2.2]).bind fun y0=>
 (forS (fun (k1:Nat) (s1:List Int)=>
 (idxO y0 ((k1:Nat):Int)).bind fun a1=>
 (idxO y0 0).bind fun a2=>
 (mN s1 a2 a1).bind fun y1=>
 some y1) y0.length 0 s0).bind fun (s2:List Int)=>
 some s2) g_.2.1.length 0 y7).bind fun (s3:List Int)=>
 (xG g_.1).bind fun y2=>
 (forS (fun (k2:Nat) (s4:List Int×Int)=>
 ((lN s3 ((k2:Nat):Int)).bind fun y3=>
 (some (decide (y3<((k2:Nat):Int)))).bind fun a3=>
 cond a3
 ((idxO s4.1 y3).bind fun a4=>
 (setO s4.1 ((k2:Nat):Int) a4).bind fun a5=>
 some (a5,s4.2))
 ((setO s4.1 ((k2:Nat):Int) s4.2).bind fun a6=>
 (nA s4.2 1).bind fun a7=>
 some (a6,a7))).bind fun (s5:List Int×Int)=>
 some (s5.1,s5.2)) y2.length 0 (y2,0)).bind fun (s6:List Int×Int)=>
 some (s6.1,s6.2)
def zX (g_:Int×(List (Int×Int×List Int×List Int))×List Int×List Int) (open_:(Int×(List (Int×Int×List Int×List Int))×List Int×List Int)×(List Int×List Int)×MI×MI×List Int×List Int):Option (List Int):=
 (bY g_).bind fun y=>
 (forS (fun (k:Nat) (s:List Int)=>
 (idxO g_.2.1 ((k:Nat):Int)).bind fun e=>
 (rE [e.2.2.1,e.2.2.2]).bind fun j=>
 (idxO j 0).bind fun a=>
 (idxO y.1 a).bind fun c=>
 some (s++[c])) g_.2.1.length 0 ([]:List Int)).bind fun (cs:List Int)=>
 cond (decide (g_.2.1.length≤bB)&&open_.2.2.1.kvs.all (fun p=>(idxO y.1 p.1).isSome)&&cs.all (fun c=>open_.2.2.1.kvs.any fun p=>decide (idxO y.1 p.1=some c)))
 (some [])
 none
def vX (k_:(Int×(List (Int×Int×List Int×List Int))×List Int×List Int)×(List Int×List Int)×MI×MI×List Int×List Int) (c0_:Int) (c1_:List Int) (c2_:Int) (c3_:List Int):Option (Int×List Int×Int×List Int):=
 ((kvO (fun (s0:List Int) (k0 v0:Int)=>
 (nA c0_ v0).bind fun a0=>
 (setO s0 k0 a0).bind fun a1=>
 some a1) k_.2.2.1.kvs c1_).bind fun (s1:List Int)=>
 some s1).bind fun (s2:List Int)=>
 ((kvO (fun (s3:List Int) (k1 v1:Int)=>
 (nA c2_ v1).bind fun a2=>
 (setO s3 k1 a2).bind fun a3=>
 some a3) k_.2.2.2.1.kvs c3_).bind fun (s4:List Int)=>
 some s4).bind fun (s5:List Int)=>
 (nA c0_ ((k_.2.2.1.kvs.length:Nat):Int)).bind fun a4=>
 (nA c2_ ((k_.2.2.2.1.kvs.length:Nat):Int)).bind fun a5=>
 some (a4,s2,a5,s5)
def wX (g_:Int×(List (Int×Int×List Int×List Int))×List Int×List Int):Option (List Int×List Int):=
 (eY (g_.1,g_.2.1,g_.2.2.1,g_.2.2.2)).bind fun y7=>
 ((sN (-1) g_.1).bind fun y0=>
 (sN (-1) ((g_.2.1.length:Nat):Int)).bind fun y1=>
 some (y0,y1)).bind fun (s0:List Int×List Int)=>
 (vX ((y7.1.1,g_.2.1,g_.2.2.1,g_.2.2.2),(y7.2.1.1,y7.2.1.2),y7.2.2.1,y7.2.2.2.1,y7.2.2.2.2.1,y7.2.2.2.2.2) 0 s0.1 0 s0.2).bind fun y2=>
 (zX (g_.1,g_.2.1,g_.2.2.1,g_.2.2.2) ((y7.1.1,g_.2.1,g_.2.2.1,g_.2.2.2),(y7.2.1.1,y7.2.1.2),y7.2.2.1,y7.2.2.2.1,y7.2.2.2.2.1,y7.2.2.2.2.2)).bind fun y3=>
 (forS (fun (k0:Nat) (_:Unit)=>
 none) y3.length 0 ()).bind fun (_:Unit)=>
 some (y2.2.1,y2.2.2.2)
def Cy_ (v_:List Int) (at_:List Int):Option (List Int):=
 (gK 0 ((at_.length:Nat):Int) (0:Int)).bind fun a3=>
 (forS (fun (k8:Nat) (s0:List Int)=>
 (idxO at_ ((k8:Nat):Int)).bind fun a0=>
 (idxO v_ a0).bind fun a1=>
 (oA s0 [a1]).bind fun a2=>
 some a2) at_.length 0 a3).bind fun (s1:List Int)=>
 some s1
def xN (list_:List Int) (to_:List Int):Option (List Int):=
 (Cy_ to_ list_).bind fun y3=>
 some y3
def tY (g_:Int×(List (Int×Int×List Int×List Int))×List Int×List Int) (count_:Int) (to_:List Int):Option (Int×(List (Int×Int×List Int×List Int))×List Int×List Int):=
 ((xN g_.2.2.1 to_).bind fun y0=>
 (xN g_.2.2.2 to_).bind fun y1=>
 some (count_,y0,y1)).bind fun (s0:Int×List Int×List Int)=>
 (forS (fun (k0:Nat) (s1:List (Int×Int×List Int×List Int))=>
 (idxO g_.2.1 ((k0:Nat):Int)).bind fun a0=>
 (xN a0.2.2.1 to_).bind fun y2=>
 (xN a0.2.2.2 to_).bind fun y3=>
 (oA s1 [(a0.1,a0.2.1,y2,y3)]).bind fun a1=>
 some a1) g_.2.1.length 0 []).bind fun (s2:List (Int×Int×List Int×List Int))=>
 some (s0.1,s2,s0.2.1,s0.2.2)
def aY (g_:Int×(List (Int×Int×List Int×List Int))×List Int×List Int) (wires_:List Int) (edges_:List Int):Option (Int×(List (Int×Int×List Int×List Int))×List Int×List Int):=
 (tY (g_.1,g_.2.1,g_.2.2.1,g_.2.2.2) g_.1 wires_).bind fun y0=>
 ((bD ((y0.2.1.length:Nat):Int) ((0,0,[],[]):Int×Int×List Int×List Int)).bind fun a0=>
 some (y0.1,a0)).bind fun (s0:Int×(List (Int×Int×List Int×List Int)))=>
 (forS (fun (k0:Nat) (s1:List (Int×Int×List Int×List Int))=>
 (idxO y0.2.1 ((k0:Nat):Int)).bind fun a1=>
 (idxO edges_ ((k0:Nat):Int)).bind fun a2=>
 (setO s1 a2 (a1.1,a1.2.1,a1.2.2.1,a1.2.2.2)).bind fun a3=>
 some a3) y0.2.1.length 0 s0.2).bind fun (s2:List (Int×Int×List Int×List Int))=>
 some (s0.1,s2,y0.2.2.1,y0.2.2.2)
def pS (g_:Int×(List (Int×Int×List Int×List Int))×List Int×List Int):Option (Int×(List (Int×Int×List Int×List Int))×List Int×List Int):=
 (wX (g_.1,g_.2.1,g_.2.2.1,g_.2.2.2)).bind fun y0=>
 (aY (g_.1,g_.2.1,g_.2.2.1,g_.2.2.2) y0.1 y0.2).bind fun y1=>
 some (y1.1,y1.2.1,y1.2.2.1,y1.2.2.2)
def dY (d_:(Int×(List (Int×Int×List Int×List Int))×List Int×List Int)):Option ((Int×(List (Int×Int×List Int×List Int))×List Int×List Int)×Bool):=
 (yX (d_.1,d_.2.1,d_.2.2.1,d_.2.2.2)).bind fun y8=>
 (some (!y8)).bind fun a0=>
 cond a0
 (some ((0,[],[],[]),false))
 ((pS (d_.1,d_.2.1,d_.2.2.1,d_.2.2.2)).bind fun y0=>
 some ((y0.1,y0.2.1,y0.2.2.1,y0.2.2.2),true))
def iY (r_:Int×Int×List (List Int)):Option ((Int×(List (Int×Int×List Int×List Int))×List Int×List Int)×Bool):=
 ((some (decide ((12:Int)<r_.1))).bind fun a0=>
 cond a0
 (some true)
 ((some (decide ((12:Int)<r_.2.1))).bind fun a1=>
 some a1)).bind fun (s0:Bool)=>
 cond s0
 (some ((0,[],[],[]),false))
 ((oP (0,[],[],[]) ((r_.2.2.length:Nat):Int)).bind fun y0=>
 (forS (fun (k0:Nat) (s1:Int×(List (Int×Int×List Int×List Int)))=>
 (idxO y0.2 ((k0:Nat):Int)).bind fun a2=>
 (iF (s1.1,s1.2,[],[]) 10 0 [] [a2]).bind fun y1=>
 some (y1.1,y1.2.1)) y0.2.length 0 (y0.1.1,[])).bind fun (s2:Int×(List (Int×Int×List Int×List Int)))=>
 (B1_ (r_.1,r_.2.1,r_.2.2)).bind fun y2=>
 (cY (s2.1,s2.2,[],[]) y0.2 r_.2.2 y2).bind fun y3=>
 (iB y3.2 0 r_.1).bind fun a3=>
 (forS (fun (k1:Nat) (s3:Int×(List (Int×Int×List Int×List Int))×List Int)=>
 (idxO a3 ((k1:Nat):Int)).bind fun a4=>
 (iH (s3.1,s3.2.1,s3.2.2,[])).bind fun y4=>
 (iH (y4.1.1,s3.2.1,s3.2.2,[])).bind fun y5=>
 (oA s3.2.2 [y4.2]).bind fun a5=>
 (iF (y5.1.1,s3.2.1,a5,[]) 9 0 [y4.2,a4] [y5.2]).bind fun y6=>
 (iF (y6.1,y6.2.1,a5,[]) 4 0 [y5.2] []).bind fun y7=>
 some (y7.1,y7.2.1,a5)) a3.length 0 (y3.1.1,y3.1.2.1,[])).bind fun (s4:Int×(List (Int×Int×List Int×List Int))×List Int)=>
 (iB y3.2 r_.1 ((y3.2.length:Nat):Int)).bind fun a6=>
 (dY (s4.1,s4.2.1,s4.2.2,a6)).bind fun y8=>
 some ((y8.1.1,y8.1.2.1,y8.1.2.2.1,y8.1.2.2.2),y8.2))
def qP (p_:Int) (t_:(List (Int×Int×ByteArray))):Option ((Int×(List (Int×Int×List Int×List Int))×List Int×List Int)×Bool):=
 (kY t_ p_).bind fun y9=>
 (some (!y9)).bind fun a0=>
 cond a0
 (some ((0,[],[],[]),false))
 ((fQ p_ t_).bind fun y0=>
 (iY (y0.1,y0.2.1,y0.2.2)).bind fun y1=>
 some ((y1.1.1,y1.1.2.1,y1.1.2.2.1,y1.1.2.2.2),y1.2))
def oM (a_:List Int) (b_:List Int):Option Bool:=
 (some (!decide (((a_.length:Nat):Int)=((b_.length:Nat):Int)))).bind fun a3=>
 cond a3
 (some false)
 (pC (qB (fun (s0:Int)=>
 (some (decide (s0<((a_.length:Nat):Int)))).bind fun a0=>
 cond a0
 ((idxO a_ s0).bind fun a1=>
 (idxO b_ s0).bind fun a2=>
 (some (!decide (a1=a2))).bind fun a4=>
 cond a4
 (some (.inr (.inr false)))
 ((nA s0 1).bind fun a5=>
 some (.inl a5)))
 (some (.inr (.inl ())))) 0) fun (s1:Unit)=>
 some true)
def Ai_ (a_:Int×Int×List Int×List Int) (b_:Int×Int×List Int×List Int):Option Bool:=
 (some (!decide (a_.1=b_.1))).bind fun a0=>
 cond a0
 (some false)
 ((some (!decide (a_.2.1=b_.2.1))).bind fun a1=>
 cond a1
 (some false)
 ((oM a_.2.2.1 b_.2.2.1).bind fun y0=>
 (some (!y0)).bind fun a2=>
 cond a2
 (some false)
 ((oM a_.2.2.2 b_.2.2.2).bind fun y1=>
 (some (!y1)).bind fun a3=>
 cond a3
 (some false)
 (some true))))
def vZ (a_:List (Int×Int×List Int×List Int)) (b_:List (Int×Int×List Int×List Int)):Option Bool:=
 (some (!decide (((a_.length:Nat):Int)=((b_.length:Nat):Int)))).bind fun a3=>
 cond a3
 (some false)
 (pC (qB (fun (s0:Int)=>
 (some (decide (s0<((a_.length:Nat):Int)))).bind fun a0=>
 cond a0
 ((idxO a_ s0).bind fun a1=>
 (idxO b_ s0).bind fun a2=>
 (Ai_ (a1.1,a1.2.1,a1.2.2.1,a1.2.2.2) (a2.1,a2.2.1,a2.2.2.1,a2.2.2.2)).bind fun y0=>
 (some (!y0)).bind fun a4=>
 cond a4
 (some (.inr (.inr false)))
 ((nA s0 1).bind fun a5=>
 some (.inl a5)))
 (some (.inr (.inl ())))) 0) fun (s1:Unit)=>
 some true)
def zP (a_:Int×(List (Int×Int×List Int×List Int))×List Int×List Int) (b_:Int×(List (Int×Int×List Int×List Int))×List Int×List Int):Option Bool:=
 (some (!decide (a_.1=b_.1))).bind fun a0=>
 cond a0
 (some false)
 ((vZ a_.2.1 b_.2.1).bind fun y0=>
 (some (!y0)).bind fun a1=>
 cond a1
 (some false)
 ((oM a_.2.2.1 b_.2.2.1).bind fun y1=>
 (some (!y1)).bind fun a2=>
 cond a2
 (some false)
 ((oM a_.2.2.2 b_.2.2.2).bind fun y2=>
 (some (!y2)).bind fun a3=>
 cond a3
 (some false)
 (some true))))
def Ah_ (a_:Int×Int×ByteArray) (b_:Int×Int×ByteArray):Option Bool:=
 (some (!decide (a_.1=b_.1))).bind fun a7=>
 cond a7
 (some false)
 ((some (!decide (a_.2.1=b_.2.1))).bind fun a0=>
 cond a0
 (some false)
 ((some (!decide ((a_.2.2:ByteArray)=b_.2.2))).bind fun a1=>
 cond a1
 (some false)
 (some true)))
def uZ (a_:List (Int×Int×ByteArray)) (b_:List (Int×Int×ByteArray)):Option Bool:=
 (some (!decide (((a_.length:Nat):Int)=((b_.length:Nat):Int)))).bind fun a3=>
 cond a3
 (some false)
 (pC (qB (fun (s0:Int)=>
 (some (decide (s0<((a_.length:Nat):Int)))).bind fun a0=>
 cond a0
 ((idxO a_ s0).bind fun a1=>
 (idxO b_ s0).bind fun a2=>
 (Ah_ (a1.1,a1.2.1,a1.2.2) (a2.1,a2.2.1,a2.2.2)).bind fun y0=>
 (some (!y0)).bind fun a4=>
 cond a4
 (some (.inr (.inr false)))
 ((nA s0 1).bind fun a5=>
 some (.inl a5)))
 (some (.inr (.inl ())))) 0) fun (s1:Unit)=>
 some true)
def Ag_ (a_:(List (Int×Int×ByteArray))) (b_:(List (Int×Int×ByteArray))):Option Bool:=
 (uZ a_ b_).bind fun y9=>
 (some (!y9)).bind fun a0=>
 cond a0
 (some false)
 (some true)
def mZ (k_:Int):Option ByteArray:=
 (some (decide (k_≤0))).bind fun a1=>
 cond a1
 (some ⟨#[109,48]⟩)
 ((qB (fun (s0:Int×ByteArray)=>
 (some (decide ((0:Int)<s0.1))).bind fun a0=>
 cond a0
 ((nD s0.1 10).bind fun a2=>
 (nA 48 a2).bind fun a3=>
 (some (a3 % 256)).bind fun a4=>
 (some (nO ([a4]:List By))).bind fun a5=>
 (catO a5 s0.2).bind fun a6=>
 (bM s0.1 10).bind fun a7=>
 some (.inl (a7,a6)))
 (some (.inr s0.2))) (k_,.empty)).bind fun (s1:ByteArray)=>
 (catO ⟨#[109]⟩ s1).bind fun a8=>
 some a8)
def dZ (a_:List (Int×Int×ByteArray)) (k_:Int):Option ((List (Int×Int×ByteArray))×Int):=
 (qB (fun (s0:(List (Int×Int×ByteArray))×Int×Int)=>
 (some (decide (s0.2.2<((s0.1.length:Nat):Int)))).bind fun a0=>
 cond a0
 ((idxO s0.1 s0.2.2).bind fun a1=>
 (setO s0.1 s0.2.2 (s0.2.1,a1.2.1,a1.2.2)).bind fun a2=>
 (nA s0.2.1 1).bind fun a3=>
 (idxO a2 s0.2.2).bind fun a4=>
 (setO a2 s0.2.2 (a4.1,a3,a4.2.2)).bind fun a5=>
 (nA a3 1).bind fun a6=>
 (mZ a6).bind fun y0=>
 (idxO a5 s0.2.2).bind fun a7=>
 (setO a5 s0.2.2 (a7.1,a7.2.1,y0)).bind fun a8=>
 (nA a6 1).bind fun a9=>
 (nA s0.2.2 1).bind fun a10=>
 some (.inl (a8,a9,a10)))
 (some (.inr (s0.1,s0.2.1)))) (a_,k_,0)).bind fun (s1:(List (Int×Int×ByteArray))×Int)=>
 some (s1.1,s1.2)
def nZ (a_:(List (Int×Int×ByteArray))) (k_:Int):Option ((List (Int×Int×ByteArray))×Int):=
 (dZ a_ k_).bind fun y5=>
 some (y5.1,y5.2)
def kM (a_:List Int) (k_:Int):Option (List Int×Int):=
 (qB (fun (s0:List Int×Int×Int)=>
 (some (decide (s0.2.2<((s0.1.length:Nat):Int)))).bind fun a0=>
 cond a0
 ((setO s0.1 s0.2.2 s0.2.1).bind fun a1=>
 (nA s0.2.1 1).bind fun a2=>
 (nA s0.2.2 1).bind fun a3=>
 some (.inl (a1,a2,a3)))
 (some (.inr (s0.1,s0.2.1)))) (a_,k_,0)).bind fun (s1:List Int×Int)=>
 some (s1.1,s1.2)
def fZ (a_:List (Int×Int×List Int×List Int)) (k_:Int):Option ((List (Int×Int×List Int×List Int))×Int):=
 (qB (fun (s0:(List (Int×Int×List Int×List Int))×Int×Int)=>
 (some (decide (s0.2.2<((s0.1.length:Nat):Int)))).bind fun a0=>
 cond a0
 ((idxO s0.1 s0.2.2).bind fun a1=>
 (setO s0.1 s0.2.2 (s0.2.1,a1.2.1,a1.2.2.1,a1.2.2.2)).bind fun a2=>
 (nA s0.2.1 1).bind fun a3=>
 (idxO a2 s0.2.2).bind fun a4=>
 (setO a2 s0.2.2 (a4.1,a3,a4.2.2.1,a4.2.2.2)).bind fun a5=>
 (nA a3 1).bind fun a6=>
 (idxO a5 s0.2.2).bind fun a7=>
 (kM a7.2.2.1 a6).bind fun y0=>
 (setO a5 s0.2.2 (a7.1,a7.2.1,y0.1,a7.2.2.2)).bind fun a8=>
 (idxO a8 s0.2.2).bind fun a9=>
 (kM a9.2.2.2 y0.2).bind fun y1=>
 (setO a8 s0.2.2 (a9.1,a9.2.1,a9.2.2.1,y1.1)).bind fun a10=>
 (nA s0.2.2 1).bind fun a11=>
 some (.inl (a10,y1.2,a11)))
 (some (.inr (s0.1,s0.2.1)))) (a_,k_,0)).bind fun (s1:(List (Int×Int×List Int×List Int))×Int)=>
 some (s1.1,s1.2)
def eZ (a_:Int×(List (Int×Int×List Int×List Int))×List Int×List Int) (k_:Int):Option ((Int×(List (Int×Int×List Int×List Int))×List Int×List Int)×Int):=
 (fZ a_.2.1 k_).bind fun y7=>
 (kM a_.2.2.1 y7.2).bind fun y0=>
 (kM a_.2.2.2 y0.2).bind fun y1=>
 some ((a_.1,y7.1,y0.1,y1.1),y1.2)
def nJ (a_:List Int) (k_:Int):Option Int:=
 pC (qB (fun (s0:Int×Int)=>
 (some (decide (s0.2<((a_.length:Nat):Int)))).bind fun a0=>
 cond a0
 ((idxO a_ s0.2).bind fun a1=>
 (some (!decide (a1=s0.1))).bind fun a2=>
 cond a2
 (some (.inr (.inr (-1))))
 ((nA s0.1 1).bind fun a3=>
 (nA s0.2 1).bind fun a4=>
 some (.inl (a3,a4))))
 (some (.inr (.inl s0.1)))) (k_,0)) fun (s1:Int)=>
 some s1
def bT (a_:List (Int×Int×List Int×List Int)) (k_:Int):Option Int:=
 pC (qB (fun (s0:Int×Int)=>
 (some (decide (s0.2<((a_.length:Nat):Int)))).bind fun a0=>
 cond a0
 ((idxO a_ s0.2).bind fun a1=>
 (some (!decide (a1.1=s0.1))).bind fun a2=>
 cond a2
 (some (.inr (.inr (-1))))
 ((nA s0.1 1).bind fun a3=>
 (idxO a_ s0.2).bind fun a4=>
 (some (!decide (a4.2.1=a3))).bind fun a5=>
 cond a5
 (some (.inr (.inr (-1))))
 ((nA a3 1).bind fun a6=>
 (idxO a_ s0.2).bind fun a7=>
 (nJ a7.2.2.1 a6).bind fun y0=>
 (some (decide (y0<0))).bind fun a8=>
 cond a8
 (some (.inr (.inr (-1))))
 ((idxO a_ s0.2).bind fun a9=>
 (nJ a9.2.2.2 y0).bind fun y1=>
 (some (decide (y1<0))).bind fun a10=>
 cond a10
 (some (.inr (.inr (-1))))
 ((nA s0.2 1).bind fun a11=>
 some (.inl (y1,a11)))))))
 (some (.inr (.inl s0.1)))) (k_,0)) fun (s1:Int)=>
 some s1
def aT (a_:Int×(List (Int×Int×List Int×List Int))×List Int×List Int) (k_:Int):Option Int:=
 (bT a_.2.1 k_).bind fun y7=>
 (some (decide (y7<0))).bind fun a0=>
 cond a0
 (some (-1))
 ((nJ a_.2.2.1 y7).bind fun y0=>
 (some (decide (y0<0))).bind fun a1=>
 cond a1
 (some (-1))
 ((nJ a_.2.2.2 y0).bind fun y1=>
 (some (decide (y1<0))).bind fun a2=>
 cond a2
 (some (-1))
 (some y1)))
def BW_ (aP_:Int) (aT_:(List (Int×Int×ByteArray))):Option Bool:=
 (Ae_ aT_ 1048576).bind fun y6=>
 (some (decide (y6<0))).bind fun a9=>
 cond a9
 (some true)
 ((wN aT_).bind fun y0=>
 (wS aP_ y0).bind fun y1=>
 (wN aT_).bind fun y2=>
 (qP aP_ y2).bind fun y3=>
 ((zP (y3.1.1,y3.1.2.1,y3.1.2.2.1,y3.1.2.2.2) (y1.1.1,y1.1.2.1,y1.1.2.2.1,y1.1.2.2.2)).bind fun y4=>
 (some (!y4)).bind fun a0=>
 cond a0
 (some true)
 ((some (!decide (y3.2=y1.2))).bind fun a1=>
 some a1)).bind fun (s0:Bool)=>
 cond s0
 (some false)
 ((wN aT_).bind fun y5=>
 (Ag_ y2 y5).bind fun y7=>
 (some (!y7)).bind fun a2=>
 cond a2
 (some false)
 ((nZ y2 1).bind fun y8=>
 ((some (decide (y8.2<0))).bind fun a3=>
 cond a3
 (some true)
 ((zP (y3.1.1,y3.1.2.1,y3.1.2.2.1,y3.1.2.2.2) (y1.1.1,y1.1.2.1,y1.1.2.2.1,y1.1.2.2.2)).bind fun y9=>
 (some (!y9)).bind fun a4=>
 cond a4
 (some true)
 ((some (!decide (y3.2=y1.2))).bind fun a5=>
 some a5))).bind fun (s1:Bool)=>
 cond s1
 (some false)
 ((eZ (y3.1.1,y3.1.2.1,y3.1.2.2.1,y3.1.2.2.2) 1).bind fun y10=>
 (aT (y3.1.1,y10.1.2.1,y10.1.2.2.1,y10.1.2.2.2) 1).bind fun y11=>
 (some (decide (y11<0))).bind fun a6=>
 cond a6
 (some false)
 ((some (!decide (y11=y10.2))).bind fun a7=>
 cond a7
 (some false)
 ((wN aT_).bind fun y13=>
 (qP aP_ y13).bind fun y14=>
 ((zP (y14.1.1,y14.1.2.1,y14.1.2.2.1,y14.1.2.2.2) (y1.1.1,y1.1.2.1,y1.1.2.2.1,y1.1.2.2.2)).bind fun y15=>
 (some (!y15)).bind fun a8=>
 cond a8
 (some true)
 ((some (!decide (y14.2=y1.2))).bind fun a10=>
 some a10)).bind fun (s2:Bool)=>
 cond s2
 (some false)
 ((aT (y3.1.1,y10.1.2.1,y10.1.2.2.1,y10.1.2.2.2) 1).bind fun y16=>
 (some (decide (y16<0))).bind fun a11=>
 cond a11
 (some false)
 ((some (!decide (y16=y10.2))).bind fun a12=>
 cond a12
 (some false)
 (some true)))))))))
end
end Go.Proofs.YtodfjigndedehaaGreatDoor
