/-
 Partial functions, printed by a program (wip/y/gen.py): what each function of Go computes, over plain data. No program in sight. No condition.
-/
import Derived.Test.YtlggnmkelgplnaaGreatDoorZF
namespace Go.Proofs.YtlggnmkelgplnaaGreatDoor
set_option linter.unusedVariables false
noncomputable section
def yZ (a_:Int×Int×ByteArray) (left_:Int):Option Int:=
 (subO left_ ((a_.2.2.size:Nat):Int)).bind fun a4=>
 (some (decide (a4<0))).bind fun a6=>
 cond a6
 (some (-1))
 (some a4)
def hZ (a_:List (Int×Int×ByteArray)) (left_:Int):Option Int:=
 (subO left_ ((a_.length:Nat):Int)).bind fun a2=>
 (some (decide (a2<0))).bind fun a4=>
 cond a4
 (some (-1))
 (fC (zB (fun (s0:Int×Int)=>
 (some (decide (s0.2<((a_.length:Nat):Int)))).bind fun a0=>
 cond a0
 ((idxO a_ s0.2).bind fun a1=>
 (yZ (a1.1,a1.2.1,a1.2.2) s0.1).bind fun y0=>
 (some (decide (y0<0))).bind fun a3=>
 cond a3
 (some (.inr (.inr (-1))))
 ((qA s0.2 1).bind fun a5=>
 some (.inl (y0,a5))))
 (some (.inr (.inl s0.1)))) (a2,0)) fun (s1:Int)=>
 some s1)
def cU (a_:(List (Int×Int×ByteArray))) (left_:Int):Option Int:=
 (hZ a_ left_).bind fun y5=>
 (some (decide (y5<0))).bind fun a8=>
 cond a8
 (some (-1))
 (some y5)
def xZ (a_:ByteArray×(List (Int×Int×ByteArray))×(List (Int×Int×ByteArray))) (left_:Int):Option Int:=
 (subO left_ ((a_.1.size:Nat):Int)).bind fun a6=>
 (some (decide (a6<0))).bind fun a8=>
 cond a8
 (some (-1))
 ((cU a_.2.1 a6).bind fun y0=>
 (some (decide (y0<0))).bind fun a0=>
 cond a0
 (some (-1))
 ((cU a_.2.2 y0).bind fun y1=>
 (some (decide (y1<0))).bind fun a1=>
 cond a1
 (some (-1))
 (some y1)))
def wZ (a_:Int×Int×ByteArray):Option (Int×Int×ByteArray):=
 some (a_.1,a_.2.1,a_.2.2)
def gZ (a_:List (Int×Int×ByteArray)):Option (List (Int×Int×ByteArray)):=
 (nD ((a_.length:Nat):Int) ((0,0,.empty):Int×Int×ByteArray)).bind fun a2=>
 (zB (fun (s0:(List (Int×Int×ByteArray))×Int)=>
 (some (decide (s0.2<((a_.length:Nat):Int)))).bind fun a0=>
 cond a0
 ((idxO a_ s0.2).bind fun a1=>
 (wZ (a1.1,a1.2.1,a1.2.2)).bind fun y0=>
 (setO s0.1 s0.2 (y0.1,y0.2.1,y0.2.2)).bind fun a3=>
 (qA s0.2 1).bind fun a4=>
 some (.inl (a3,a4)))
 (some (.inr s0.1))) (a2,0)).bind fun (s1:List (Int×Int×ByteArray))=>
 some s1
def bU (a_:(List (Int×Int×ByteArray))):Option (List (Int×Int×ByteArray)):=
 (gZ a_).bind fun y0=>
 some y0
def sN (a_:ByteArray×(List (Int×Int×ByteArray))×(List (Int×Int×ByteArray))):Option (ByteArray×(List (Int×Int×ByteArray))×(List (Int×Int×ByteArray))):=
 (bU a_.2.1).bind fun y0=>
 (bU a_.2.2).bind fun y1=>
 some (a_.1,y0,y1)
def lH (n_:Int) (lo_:Int) (hi_:Int):Option Bool:=
 ((some (decide (lo_≤n_))).bind fun a0=>
 cond a0
 ((some (decide (n_≤hi_))).bind fun a1=>
 some a1)
 (some false)).bind fun (s7:Bool)=>
 some s7
def iH (n_:Int×Int×ByteArray):Option Bool:=
 ((some (!decide ((n_.2.2:ByteArray)=.empty))).bind fun a0=>
 cond a0
 (some true)
 ((lH n_.1 1 14).bind fun y0=>
 (some (!y0)).bind fun a1=>
 some a1)).bind fun (s0:Bool)=>
 cond s0
 (some false)
 ((some (decide (n_.1=1))).bind fun a2=>
 cond a2
 ((lH n_.2.1 0 12).bind fun y1=>
 some y1)
 (((some (decide (n_.1=7))).bind fun a3=>
 cond a3
 (some true)
 ((some (decide (n_.1=13))).bind fun a4=>
 some a4)).bind fun (s1:Bool)=>
 cond s1
 ((lH n_.2.1 0 96).bind fun y2=>
 some y2)
 ((some (decide (n_.2.1=0))).bind fun a5=>
 some a5)))
def rN (kind_:Int):Option (Int×Int):=
 (some (decide (kind_=2))).bind fun a1=>
 cond a1
 (some (2,2))
 (((some (decide (kind_=3))).bind fun a0=>
 cond a0
 (some true)
 ((some (decide (kind_=11))).bind fun a2=>
 some a2)).bind fun (s0:Bool)=>
 cond s0
 (some (1,2))
 (((some (decide (kind_=4))).bind fun a3=>
 cond a3
 (some true)
 ((some (decide (kind_=12))).bind fun a4=>
 some a4)).bind fun (s1:Bool)=>
 cond s1
 (some (1,0))
 (((some (decide (kind_=5))).bind fun a5=>
 cond a5
 (some true)
 ((some (decide (kind_=9))).bind fun a6=>
 some a6)).bind fun (s2:Bool)=>
 cond s2
 (some (2,1))
 (((some (decide (kind_=6))).bind fun a7=>
 cond a7
 (some true)
 ((some (decide (kind_=10))).bind fun a8=>
 some a8)).bind fun (s3:Bool)=>
 cond s3
 (some (0,1))
 (some (1,1))))))
def uP (n_:Int×Int×ByteArray):Option (Int×Int):=
 (some (decide (n_.1=1))).bind fun a4=>
 cond a4
 (some (n_.2.1,n_.2.1))
 ((rN n_.1).bind fun y7=>
 some (y7.1,y7.2))
def xT (lib_:List (ByteArray×Int×Int×(List (Int×Int×ByteArray)))) (name_:ByteArray):Option Int:=
 fC (nC (fun (k2:Nat) (_:Unit)=>
 (idxO lib_ ((k2:Nat):Int)).bind fun a0=>
 (some (decide ((a0.1:ByteArray)=name_))).bind fun a1=>
 cond a1
 (some (.inr ((k2:Nat):Int)))
 (some (.inl ()))) lib_.length 0 ()) fun (_:Unit)=>
 some (-1)
def wT (lib_:List (ByteArray×Int×Int×(List (Int×Int×ByteArray)))) (t_:(List (Int×Int×ByteArray))):Option ((List Int×List Int×List Int)×Bool):=
 (lH ((t_.length:Nat):Int) 1 400).bind fun y0=>
 (some (!y0)).bind fun a0=>
 cond a0
 (some (([],[],[]),false))
 (fC (nC (fun (k0:Nat) (s0:List Int×List Int×List Int)=>
 fC ((idxO t_ ((k0:Nat):Int)).bind fun a1=>
 ((iH (a1.1,a1.2.1,a1.2.2)).bind fun y1=>
 cond y1
 (some true)
 ((some (decide (a1.1=17))).bind fun a2=>
 some a2)).bind fun (s1:Bool)=>
 cond s1
 ((uP (a1.1,a1.2.1,a1.2.2)).bind fun y2=>
 fC ((some (decide (a1.1=17))).bind fun a3=>
 cond a3
 ((xT lib_ a1.2.2).bind fun y3=>
 ((some (decide (y3<0))).bind fun a4=>
 cond a4
 (some true)
 ((some (!decide (a1.2.1=0))).bind fun a5=>
 some a5)).bind fun (s2:Bool)=>
 cond s2
 (some (.inr (.inr (.inr ((s0.1,s0.2.1,s0.2.2),false)))))
 ((idxO lib_ y3).bind fun a6=>
 (idxO lib_ y3).bind fun a7=>
 some (.inl (a7.2.2.1,a6.2.1))))
 (some (.inl (y2.2,y2.1)))) fun (s3:Int×Int)=>
 (tA s0.1 [((k0:Nat):Int)]).bind fun a8=>
 (tA s0.2.1 [s3.2]).bind fun a9=>
 (tA s0.2.2 [s3.1]).bind fun a10=>
 some (.inl (a8,a9,a10)))
 (((some (!decide (a1.1=15))).bind fun a11=>
 cond a11
 ((some (!decide (a1.1=16))).bind fun a12=>
 cond a12
 (some true)
 ((some (!decide ((a1.2.2:ByteArray)=.empty))).bind fun a13=>
 cond a13
 (some true)
 ((some (!decide (a1.2.1=0))).bind fun a14=>
 cond a14
 (some true)
 ((some (decide (((k0:Nat):Int)<2))).bind fun a16=>
 cond a16
 (some true)
 ((subO ((k0:Nat):Int) 1).bind fun a17=>
 (idxO s0.1 a17).bind fun a18=>
 (some (decide (a18<1))).bind fun a19=>
 some a19)))))
 ((some (!decide ((a1.2.2:ByteArray)=.empty))).bind fun a20=>
 cond a20
 (some true)
 ((some (!decide (a1.2.1=0))).bind fun a21=>
 cond a21
 (some true)
 ((some (decide (((k0:Nat):Int)<2))).bind fun a22=>
 cond a22
 (some true)
 ((subO ((k0:Nat):Int) 1).bind fun a23=>
 (idxO s0.1 a23).bind fun a24=>
 (some (decide (a24<1))).bind fun a25=>
 some a25))))).bind fun (s4:Bool)=>
 cond s4
 (some (.inr (.inr ((s0.1,s0.2.1,s0.2.2),false))))
 ((subO ((k0:Nat):Int) 1).bind fun a26=>
 (idxO s0.1 a26).bind fun a27=>
 (subO a27 1).bind fun a28=>
 (idxO s0.2.1 a28).bind fun a29=>
 (idxO s0.2.1 a26).bind fun a30=>
 (qA a29 a30).bind fun a31=>
 (idxO s0.2.2 a28).bind fun a32=>
 (idxO s0.2.2 a26).bind fun a33=>
 (qA a32 a33).bind fun a34=>
 fC ((some (decide (a1.1=15))).bind fun a35=>
 cond a35
 ((idxO s0.2.2 a28).bind fun a36=>
 (idxO s0.2.1 a26).bind fun a37=>
 (some (!decide (a36=a37))).bind fun a38=>
 cond a38
 (some (.inr (.inr (.inr ((s0.1,s0.2.1,s0.2.2),false)))))
 ((idxO s0.2.1 a28).bind fun a39=>
 (idxO s0.2.2 a26).bind fun a40=>
 some (.inl (a39,a40))))
 (some (.inl (a31,a34)))) fun (s5:Int×Int)=>
 ((some (decide ((12:Int)<s5.1))).bind fun a41=>
 cond a41
 (some true)
 ((some (decide ((12:Int)<s5.2))).bind fun a42=>
 some a42)).bind fun (s6:Bool)=>
 cond s6
 (some (.inr (.inr ((s0.1,s0.2.1,s0.2.2),false))))
 ((idxO s0.1 a28).bind fun a43=>
 (tA s0.1 [a43]).bind fun a44=>
 (tA s0.2.1 [s5.1]).bind fun a45=>
 (tA s0.2.2 [s5.2]).bind fun a46=>
 some (.inl (a44,a45,a46)))))) fun (s7:List Int×List Int×List Int)=>
 some (.inl (s7.1,s7.2.1,s7.2.2))) t_.length 0 ([],[],[])) fun (s8:List Int×List Int×List Int)=>
 (subO ((t_.length:Nat):Int) 1).bind fun a47=>
 (idxO s8.1 a47).bind fun a48=>
 (some (decide (a48=0))).bind fun a49=>
 some ((s8.1,s8.2.1,s8.2.2),a49))
def yP (t_:(List (Int×Int×ByteArray))):Option ((List Int×List Int×List Int)×Bool):=
 (wT [] t_).bind fun y9=>
 some ((y9.1.1,y9.1.2.1,y9.1.2.2),y9.2)
def uT (t_:(List (Int×Int×ByteArray))):Option (Int×Int×Bool):=
 (yP t_).bind fun y5=>
 (some (!y5.2)).bind fun a0=>
 cond a0
 (some (0,0,false))
 ((subO ((t_.length:Nat):Int) 1).bind fun a1=>
 (idxO y5.1.2.1 a1).bind fun a2=>
 (idxO y5.1.2.2 a1).bind fun a3=>
 some (a2,a3,true))
def qZ (s_:ByteArray):Option Bool:=
 ((lH ((s_.size:Nat):Int) 1 8).bind fun y0=>
 (some (!y0)).bind fun a0=>
 cond a0
 (some true)
 ((yC s_ 0).bind fun a1=>
 (some (decide ((a1:Int)<97))).bind fun a2=>
 cond a2
 (some true)
 ((yC s_ 0).bind fun a3=>
 (some (decide ((122:Int)<a3))).bind fun a4=>
 some a4))).bind fun (s0:Bool)=>
 cond s0
 (some false)
 (fC (zB (fun (s1:Int)=>
 (some (decide (s1<((s_.size:Nat):Int)))).bind fun a5=>
 cond a5
 (((yC s_ s1).bind fun a6=>
 (some (decide ((a6:Int)<97))).bind fun a7=>
 cond a7
 ((yC s_ s1).bind fun a8=>
 (some (decide ((a8:Int)<48))).bind fun a9=>
 cond a9
 (some true)
 ((yC s_ s1).bind fun a10=>
 (some (decide ((57:Int)<a10))).bind fun a11=>
 some a11))
 ((yC s_ s1).bind fun a12=>
 (some (decide ((122:Int)<a12))).bind fun a13=>
 cond a13
 ((yC s_ s1).bind fun a14=>
 (some (decide ((a14:Int)<48))).bind fun a15=>
 cond a15
 (some true)
 ((yC s_ s1).bind fun a16=>
 (some (decide ((57:Int)<a16))).bind fun a17=>
 some a17))
 (some false))).bind fun (s2:Bool)=>
 cond s2
 (some (.inr (.inr false)))
 ((qA s1 1).bind fun a18=>
 some (.inl a18)))
 (some (.inr (.inl ())))) 1) fun (s3:Unit)=>
 some true)
def B8_ :Option (List ByteArray):=
 some [⟨#[105,100]⟩,⟨#[115,119,97,112]⟩,⟨#[99,111,112,121]⟩,⟨#[100,105,115,99,97,114,100]⟩,⟨#[97,100,100]⟩,⟨#[122,101,114,111]⟩,⟨#[115,99,97,108,101]⟩,⟨#[100,101,108,97,121]⟩,⟨#[99,111,99,111,112,121]⟩,⟨#[99,111,100,105,115,99,97,114,100]⟩,⟨#[99,111,97,100,100]⟩,⟨#[99,111,122,101,114,111]⟩,⟨#[99,111,115,99,97,108,101]⟩,⟨#[99,111,100,101,108,97,121]⟩]
def tZ (l_:List ByteArray) (s_:ByteArray):Option Bool:=
 fC (nC (fun (k2:Nat) (_:Unit)=>
 (idxO l_ ((k2:Nat):Int)).bind fun a0=>
 (some (decide ((a0:ByteArray)=s_))).bind fun a1=>
 cond a1
 (some (.inr true))
 (some (.inl ()))) l_.length 0 ()) fun (_:Unit)=>
 some false
def rZ (s_:ByteArray):Option Bool:=
 ((qZ s_).bind fun y0=>
 cond y0
 ((B8_).bind fun y1=>
 (tZ y1 s_).bind fun y2=>
 (some (!y2)).bind fun a0=>
 some a0)
 (some false)).bind fun (s0:Bool)=>
 some s0
def lU (t_:(List (Int×Int×ByteArray))):Option Int:=
 (subO ((t_.length:Nat):Int) 1).bind fun a5=>
 (idxO t_ a5).bind fun a0=>
 some a0.1
def At_ (n_:Int):Option (Int×(List (Int×Int×List Int×List Int))×List Int×List Int):=
 (zB (fun (s0:List Int×List Int×Int)=>
 (some (decide (s0.2.2<n_))).bind fun a0=>
 cond a0
 ((tA s0.1 [s0.2.2]).bind fun a1=>
 (tA s0.2.1 [s0.2.2]).bind fun a2=>
 (qA s0.2.2 1).bind fun a3=>
 some (.inl (a1,a2,a3)))
 (some (.inr (s0.1,s0.2.1)))) ([],[],0)).bind fun (s1:List Int×List Int)=>
 some (n_,[],s1.1,s1.2)
def cQ (x_:Int×Int×ByteArray):Option (Int×(List (Int×Int×List Int×List Int))×List Int×List Int):=
 (some (decide (x_.1=1))).bind fun a7=>
 cond a7
 ((At_ x_.2.1).bind fun y0=>
 some (y0.1,y0.2.1,y0.2.2.1,y0.2.2.2))
 ((some (decide (x_.1=2))).bind fun a0=>
 cond a0
 (some (2,[],[0,1],[1,0]))
 ((rN x_.1).bind fun y1=>
 (qA y1.1 y1.2).bind fun a1=>
 (zB (fun (s0:List Int×List Int×List Int×List Int×Int)=>
 (qA y1.1 y1.2).bind fun a2=>
 (some (decide (s0.2.2.2.2<a2))).bind fun a3=>
 cond a3
 ((some (decide (s0.2.2.2.2<y1.1))).bind fun a4=>
 cond a4
 ((tA s0.1 [s0.2.2.2.2]).bind fun a5=>
 (tA s0.2.2.1 [s0.2.2.2.2]).bind fun a6=>
 (qA s0.2.2.2.2 1).bind fun a8=>
 some (.inl (a5,s0.2.1,a6,s0.2.2.2.1,a8)))
 ((tA s0.2.1 [s0.2.2.2.2]).bind fun a9=>
 (tA s0.2.2.2.1 [s0.2.2.2.2]).bind fun a11=>
 (qA s0.2.2.2.2 1).bind fun a12=>
 some (.inl (s0.1,a9,s0.2.2.1,a11,a12))))
 (some (.inr (s0.1,s0.2.1,s0.2.2.1,s0.2.2.2.1)))) ([],[],[],[],0)).bind fun (s1:List Int×List Int×List Int×List Int)=>
 some (a1,[(x_.1,x_.2.1,s1.2.2.1,s1.2.2.2)],s1.1,s1.2.1)))
def mU (nodes_:List (Int×Int×ByteArray)):Option (List (Int×Int×ByteArray)):=
 (tA ([]:List (Int×Int×ByteArray)) nodes_).bind fun a8=>
 some a8
def bZ (t_:(List (Int×Int×ByteArray))):Option ((List (Int×Int×ByteArray))×(List (Int×Int×ByteArray))):=
 (yP t_).bind fun y0=>
 (subO ((t_.length:Nat):Int) 1).bind fun a0=>
 (subO a0 1).bind fun a1=>
 (idxO y0.1.1 a1).bind fun a2=>
 (aB t_ 0 a2).bind fun a3=>
 (aB t_ a2 a0).bind fun a4=>
 (mU a3).bind fun y1=>
 (mU a4).bind fun y2=>
 some (y1,y2)
def pJ (l_:List Int) (to_:List Int):Option (List Int):=
 (forS (fun (k3:Nat) (s0:List Int)=>
 (idxO l_ ((k3:Nat):Int)).bind fun a0=>
 (idxO to_ a0).bind fun a1=>
 (tA s0 [a1]).bind fun a2=>
 some a2) l_.length 0 []).bind fun (s1:List Int)=>
 some s1
def jQ (g_:Int×(List (Int×Int×List Int×List Int))×List Int×List Int) (to_:List Int) (wires_:Int):Option (Int×(List (Int×Int×List Int×List Int))×List Int×List Int):=
 ((pJ g_.2.2.1 to_).bind fun y0=>
 (pJ g_.2.2.2 to_).bind fun y1=>
 some (wires_,y0,y1)).bind fun (s0:Int×List Int×List Int)=>
 (forS (fun (k0:Nat) (s1:List (Int×Int×List Int×List Int))=>
 (idxO g_.2.1 ((k0:Nat):Int)).bind fun a0=>
 (pJ a0.2.2.1 to_).bind fun y2=>
 (pJ a0.2.2.2 to_).bind fun y3=>
 (tA s1 [(a0.1,a0.2.1,y2,y3)]).bind fun a1=>
 some a1) g_.2.1.length 0 []).bind fun (s2:List (Int×Int×List Int×List Int))=>
 some (s0.1,s2,s0.2.1,s0.2.2)
def pU (g_:Int×(List (Int×Int×List Int×List Int))×List Int×List Int):Option (Int×(List (Int×Int×List Int×List Int))×List Int×List Int):=
 (nD g_.1 (0:Int)).bind fun a0=>
 (forS (fun (k0:Nat) (s0:List Int)=>
 (setO s0 ((k0:Nat):Int) ((k0:Nat):Int)).bind fun a1=>
 some a1) a0.length 0 a0).bind fun (s1:List Int)=>
 (jQ (g_.1,g_.2.1,g_.2.2.1,g_.2.2.2) s1 g_.1).bind fun y0=>
 some (y0.1,y0.2.1,y0.2.2.1,y0.2.2.2)
def lT (a_:Int×(List (Int×Int×List Int×List Int))×List Int×List Int) (b_:Int×(List (Int×Int×List Int×List Int))×List Int×List Int):Option (Int×(List (Int×Int×List Int×List Int))×List Int×List Int):=
 (nD b_.1 (0:Int)).bind fun a0=>
 (forS (fun (k0:Nat) (s0:List Int)=>
 (qA ((k0:Nat):Int) a_.1).bind fun a1=>
 (setO s0 ((k0:Nat):Int) a1).bind fun a2=>
 some a2) a0.length 0 a0).bind fun (s1:List Int)=>
 (pU (a_.1,a_.2.1,a_.2.2.1,a_.2.2.2)).bind fun y0=>
 (jQ (b_.1,b_.2.1,b_.2.2.1,b_.2.2.2) s1 b_.1).bind fun y1=>
 (qA y0.1 b_.1).bind fun a3=>
 (tA y0.2.2.1 y1.2.2.1).bind fun a4=>
 (tA y0.2.2.2 y1.2.2.2).bind fun a5=>
 (tA y0.2.1 y1.2.1).bind fun a6=>
 some (a3,a6,a4,a5)
def vG (l_:List Int):Option (List Int):=
 (tA ([]:List Int) l_).bind fun a5=>
 some a5
def bQ (a_:Int) (b_:Int):Option Int:=
 (some (decide (b_<a_))).bind fun a1=>
 cond a1
 (some a_)
 (some b_)
def vP (a_:Int) (b_:Int):Option Int:=
 (some (decide (a_<b_))).bind fun a1=>
 cond a1
 (some a_)
 (some b_)
def kT (g_:Int×(List (Int×Int×List Int×List Int))×List Int×List Int):Option (List Int×List Int):=
 (nD g_.1 (0:Int)).bind fun a7=>
 (nD g_.1 (0:Int)).bind fun a0=>
 (forS (fun (k0:Nat) (s0:List Int)=>
 (idxO g_.2.2.1 ((k0:Nat):Int)).bind fun a1=>
 (idxO s0 a1).bind fun a2=>
 (qA a2 1).bind fun a3=>
 (setO s0 a1 a3).bind fun a4=>
 some a4) g_.2.2.1.length 0 a7).bind fun (s1:List Int)=>
 (forS (fun (k1:Nat) (s2:List Int)=>
 (idxO g_.2.2.2 ((k1:Nat):Int)).bind fun a5=>
 (idxO s2 a5).bind fun a6=>
 (qA a6 1).bind fun a8=>
 (setO s2 a5 a8).bind fun a9=>
 some a9) g_.2.2.2.length 0 a0).bind fun (s3:List Int)=>
 (forS (fun (k2:Nat) (s4:List Int×List Int)=>
 (idxO g_.2.1 ((k2:Nat):Int)).bind fun a10=>
 (forS (fun (k3:Nat) (s5:List Int)=>
 (idxO a10.2.2.2 ((k3:Nat):Int)).bind fun a11=>
 (idxO s5 a11).bind fun a13=>
 (qA a13 1).bind fun a14=>
 (setO s5 a11 a14).bind fun a15=>
 some a15) a10.2.2.2.length 0 s4.1).bind fun (s6:List Int)=>
 (forS (fun (k4:Nat) (s7:List Int)=>
 (idxO a10.2.2.1 ((k4:Nat):Int)).bind fun a16=>
 (idxO s7 a16).bind fun a17=>
 (qA a17 1).bind fun a18=>
 (setO s7 a16 a18).bind fun a19=>
 some a19) a10.2.2.1.length 0 s4.2).bind fun (s8:List Int)=>
 some (s6,s8)) g_.2.1.length 0 (s1,s3)).bind fun (s9:List Int×List Int)=>
 some (s9.1,s9.2)
def dZ (g_:Int×(List (Int×Int×List Int×List Int))×List Int×List Int) (a_:List Int) (b_:List Int):Option ((Int×(List (Int×Int×List Int×List Int))×List Int×List Int)×List Int):=
 (nD g_.1 (0:Int)).bind fun a0=>
 (forS (fun (k0:Nat) (s0:List Int)=>
 (setO s0 ((k0:Nat):Int) ((k0:Nat):Int)).bind fun a1=>
 some a1) a0.length 0 a0).bind fun (s1:List Int)=>
 (forS (fun (k1:Nat) (s2:List Int)=>
 (idxO a_ ((k1:Nat):Int)).bind fun a2=>
 (idxO b_ ((k1:Nat):Int)).bind fun a3=>
 (idxO s2 a2).bind fun a4=>
 (idxO s2 a3).bind fun a5=>
 (forS (fun (k2:Nat) (s3:List Int)=>
 (idxO s3 ((k2:Nat):Int)).bind fun a6=>
 (bQ a4 a5).bind fun y0=>
 (some (decide (a6=y0))).bind fun a7=>
 cond a7
 ((vP a4 a5).bind fun y1=>
 (setO s3 ((k2:Nat):Int) y1).bind fun a8=>
 some a8)
 (some s3)) s2.length 0 s2).bind fun (s4:List Int)=>
 some s4) a_.length 0 s1).bind fun (s5:List Int)=>
 (kT (g_.1,g_.2.1,g_.2.2.1,g_.2.2.2)).bind fun y2=>
 (nD g_.1 (false:Bool)).bind fun a9=>
 (forS (fun (k3:Nat) (s6:List Bool)=>
 (idxO s5 ((k3:Nat):Int)).bind fun a10=>
 (idxO y2.1 ((k3:Nat):Int)).bind fun a11=>
 (idxO y2.2 ((k3:Nat):Int)).bind fun a13=>
 (qA a11 a13).bind fun a14=>
 (some (decide ((0:Int)<a14))).bind fun a15=>
 cond a15
 ((setO s6 a10 true).bind fun a16=>
 some a16)
 (some s6)) s5.length 0 a9).bind fun (s7:List Bool)=>
 (nD g_.1 (0:Int)).bind fun a17=>
 (forS (fun (k4:Nat) (s8:List Int×Int)=>
 ((idxO s5 ((k4:Nat):Int)).bind fun a18=>
 (some (decide (a18=((k4:Nat):Int)))).bind fun a19=>
 cond a19
 ((idxO s7 ((k4:Nat):Int)).bind fun a20=>
 some a20)
 (some false)).bind fun (s9:Bool)=>
 cond s9
 ((setO s8.1 ((k4:Nat):Int) s8.2).bind fun a21=>
 (qA s8.2 1).bind fun a22=>
 some (a21,a22))
 (some (s8.1,s8.2))) a17.length 0 (a17,0)).bind fun (s10:List Int×Int)=>
 (forS (fun (k5:Nat) (s11:List Int)=>
 (idxO s5 ((k5:Nat):Int)).bind fun a23=>
 (idxO s11 a23).bind fun a24=>
 (setO s11 ((k5:Nat):Int) a24).bind fun a25=>
 (idxO s5 ((k5:Nat):Int)).bind fun a26=>
 (idxO s7 a26).bind fun a27=>
 (some (!a27)).bind fun a28=>
 cond a28
 ((setO a25 ((k5:Nat):Int) (-1)).bind fun a29=>
 some a29)
 (some a25)) s10.1.length 0 s10.1).bind fun (s12:List Int)=>
 (jQ (g_.1,g_.2.1,g_.2.2.1,g_.2.2.2) s12 s10.2).bind fun y3=>
 some ((y3.1,y3.2.1,y3.2.2.1,y3.2.2.2),s12)
def CF_ (g_:Int×(List (Int×Int×List Int×List Int))×List Int×List Int) (a_:List Int) (b_:List Int):Option (Int×(List (Int×Int×List Int×List Int))×List Int×List Int):=
 (dZ (g_.1,g_.2.1,g_.2.2.1,g_.2.2.2) a_ b_).bind fun y0=>
 some (y0.1.1,y0.1.2.1,y0.1.2.2.1,y0.1.2.2.2)
def oU (a_:Int×(List (Int×Int×List Int×List Int))×List Int×List Int) (b_:Int×(List (Int×Int×List Int×List Int))×List Int×List Int):Option (Int×(List (Int×Int×List Int×List Int))×List Int×List Int):=
 (lT (a_.1,a_.2.1,a_.2.2.1,a_.2.2.2) (b_.1,b_.2.1,b_.2.2.1,b_.2.2.2)).bind fun y0=>
 (aB y0.2.2.2 0 ((a_.2.2.2.length:Nat):Int)).bind fun a0=>
 (aB y0.2.2.1 ((a_.2.2.1.length:Nat):Int) ((y0.2.2.1.length:Nat):Int)).bind fun a1=>
 (vG a0).bind fun y1=>
 (vG a1).bind fun y2=>
 (aB y0.2.2.1 0 ((a_.2.2.1.length:Nat):Int)).bind fun a2=>
 (aB y0.2.2.2 ((a_.2.2.2.length:Nat):Int) ((y0.2.2.2.length:Nat):Int)).bind fun a3=>
 (CF_ (y0.1,y0.2.1,a2,a3) y1 y2).bind fun y3=>
 some (y3.1,y3.2.1,y3.2.2.1,y3.2.2.2)
def yK (l_:List Int) (lo_:Int) (hi_:Int):Option Bool:=
 fC (nC (fun (k2:Nat) (_:Unit)=>
 (idxO l_ ((k2:Nat):Int)).bind fun a0=>
 (lH a0 lo_ hi_).bind fun y0=>
 (some (!y0)).bind fun a1=>
 cond a1
 (some (.inr false))
 (some (.inl ()))) l_.length 0 ()) fun (_:Unit)=>
 some true
def zT (e_:Int×Int×List Int×List Int) (wires_:Int):Option Bool:=
 ((lH e_.1 3 14).bind fun y0=>
 (some (!y0)).bind fun a0=>
 cond a0
 (some true)
 ((iH (e_.1,e_.2.1,.empty)).bind fun y1=>
 (some (!y1)).bind fun a1=>
 some a1)).bind fun (s0:Bool)=>
 cond s0
 (some false)
 ((rN e_.1).bind fun y2=>
 ((some (decide (((e_.2.2.1.length:Nat):Int)=y2.1))).bind fun a2=>
 cond a2
 ((some (decide (((e_.2.2.2.length:Nat):Int)=y2.2))).bind fun a3=>
 cond a3
 ((subO wires_ 1).bind fun a4=>
 (yK e_.2.2.1 0 a4).bind fun y3=>
 cond y3
 ((subO wires_ 1).bind fun a5=>
 (yK e_.2.2.2 0 a5).bind fun y4=>
 some y4)
 (some false))
 (some false))
 (some false)).bind fun (s1:Bool)=>
 some s1)
def wP (g_:Int×(List (Int×Int×List Int×List Int))×List Int×List Int):Option Bool:=
 ((lH g_.1 0 100).bind fun y0=>
 (some (!y0)).bind fun a0=>
 cond a0
 (some true)
 ((some (decide ((60:Int)<((g_.2.1.length:Nat):Int)))).bind fun a1=>
 cond a1
 (some true)
 ((some (decide ((12:Int)<((g_.2.2.1.length:Nat):Int)))).bind fun a2=>
 cond a2
 (some true)
 ((some (decide ((12:Int)<((g_.2.2.2.length:Nat):Int)))).bind fun a3=>
 cond a3
 (some true)
 ((subO g_.1 1).bind fun a4=>
 (yK g_.2.2.1 0 a4).bind fun y1=>
 (some (!y1)).bind fun a5=>
 cond a5
 (some true)
 ((subO g_.1 1).bind fun a6=>
 (yK g_.2.2.2 0 a6).bind fun y2=>
 (some (!y2)).bind fun a7=>
 some a7)))))).bind fun (s0:Bool)=>
 cond s0
 (some false)
 (fC (nC (fun (k0:Nat) (_:Unit)=>
 (idxO g_.2.1 ((k0:Nat):Int)).bind fun a8=>
 (zT (a8.1,a8.2.1,a8.2.2.1,a8.2.2.2) g_.1).bind fun y3=>
 (some (!y3)).bind fun a9=>
 cond a9
 (some (.inr false))
 (some (.inl ()))) g_.2.1.length 0 ()) fun (_:Unit)=>
 (kT (g_.1,g_.2.1,g_.2.2.1,g_.2.2.2)).bind fun y4=>
 fC (nC (fun (k1:Nat) (_:Unit)=>
 (idxO y4.1 ((k1:Nat):Int)).bind fun a10=>
 (idxO y4.2 ((k1:Nat):Int)).bind fun a11=>
 (qA a10 a11).bind fun a12=>
 (some (decide (a12=0))).bind fun a13=>
 cond a13
 (some (.inr false))
 (some (.inl ()))) y4.1.length 0 ()) fun (_:Unit)=>
 some true)
def sU (g_:Int×(List (Int×Int×List Int×List Int))×List Int×List Int):Option ((Int×(List (Int×Int×List Int×List Int))×List Int×List Int)×Bool):=
 (wP (g_.1,g_.2.1,g_.2.2.1,g_.2.2.2)).bind fun y0=>
 (some (!y0)).bind fun a0=>
 cond a0
 (some ((0,[],[],[]),false))
 (some ((g_.1,g_.2.1,g_.2.2.1,g_.2.2.2),true))
def Al_ (a_:Int×(List (Int×Int×List Int×List Int))×List Int×List Int) (b_:Int×(List (Int×Int×List Int×List Int))×List Int×List Int):Option (Int×(List (Int×Int×List Int×List Int))×List Int×List Int):=
 (lT (a_.1,a_.2.1,a_.2.2.1,a_.2.2.2) (b_.1,b_.2.1,b_.2.2.1,b_.2.2.2)).bind fun y0=>
 some (y0.1,y0.2.1,y0.2.2.1,y0.2.2.2)
def sP:Nat→(List (Int×Int×ByteArray))→Option ((Int×(List (Int×Int×List Int×List Int))×List Int×List Int)×Bool)
 | 0,_=>none
 | fuel+1,t_=>
  (lU t_).bind fun y8=>
  (some (decide (y8<15))).bind fun a0=>
  cond a0
  ((idxO t_ 0).bind fun a1=>
  (cQ (a1.1,a1.2.1,a1.2.2)).bind fun y0=>
  some ((y0.1,y0.2.1,y0.2.2.1,y0.2.2.2),true))
  ((bZ t_).bind fun y1=>
  (sP fuel y1.1).bind fun y2=>
  (sP fuel y1.2).bind fun y3=>
  ((some (!y2.2)).bind fun a2=>
  cond a2
  (some true)
  ((some (!y3.2)).bind fun a3=>
  some a3)).bind fun (s0:Bool)=>
  cond s0
  (some ((0,[],[],[]),false))
  ((some (decide (y8=15))).bind fun a4=>
  cond a4
  ((oU (y2.1.1,y2.1.2.1,y2.1.2.2.1,y2.1.2.2.2) (y3.1.1,y3.1.2.1,y3.1.2.2.1,y3.1.2.2.2)).bind fun y4=>
  (sU (y4.1,y4.2.1,y4.2.2.1,y4.2.2.2)).bind fun y5=>
  some ((y5.1.1,y5.1.2.1,y5.1.2.2.1,y5.1.2.2.2),y5.2))
  ((Al_ (y2.1.1,y2.1.2.1,y2.1.2.2.1,y2.1.2.2.2) (y3.1.1,y3.1.2.1,y3.1.2.2.1,y3.1.2.2.2)).bind fun y6=>
  (sU (y6.1,y6.2.1,y6.2.2.1,y6.2.2.2)).bind fun y7=>
  some ((y7.1.1,y7.1.2.1,y7.1.2.2.1,y7.1.2.2.2),y7.2))))
def yT (t_:(List (Int×Int×ByteArray))):Option ((Int×(List (Int×Int×List Int×List Int))×List Int×List Int)×Bool):=sP 1000000 t_
def cZ (r_:ByteArray×(List (Int×Int×ByteArray))×(List (Int×Int×ByteArray))):Option ((Int×(List (Int×Int×List Int×List Int))×List Int×List Int)×(Int×(List (Int×Int×List Int×List Int))×List Int×List Int)×Bool):=
 (uT r_.2.1).bind fun y0=>
 (uT r_.2.2).bind fun y1=>
 ((rZ r_.1).bind fun y2=>
 (some (!y2)).bind fun a0=>
 cond a0
 (some true)
 ((some (!y0.2.2)).bind fun a1=>
 cond a1
 (some true)
 ((some (!y1.2.2)).bind fun a2=>
 cond a2
 (some true)
 ((some (!decide (y0.1=y1.1))).bind fun a3=>
 cond a3
 (some true)
 ((some (!decide (y0.2.1=y1.2.1))).bind fun a4=>
 some a4))))).bind fun (s0:Bool)=>
 cond s0
 (some ((0,[],[],[]),(0,[],[],[]),false))
 ((yT r_.2.1).bind fun y3=>
 (yT r_.2.2).bind fun y4=>
 (cond y3.2
 (some (y4.1.1,y4.1.2.1,y4.1.2.2.1,y4.1.2.2.2,y3.1.1,y3.1.2.1,y3.1.2.2.1,y3.1.2.2.2,y4.2))
 (some (y4.1.1,y4.1.2.1,y4.1.2.2.1,y4.1.2.2.2,y3.1.1,y3.1.2.1,y3.1.2.2.1,y3.1.2.2.2,false))).bind fun (s1:Int×(List (Int×Int×List Int×List Int))×List Int×List Int×Int×(List (Int×Int×List Int×List Int))×List Int×List Int×Bool)=>
 some ((s1.2.2.2.2.1,s1.2.2.2.2.2.1,s1.2.2.2.2.2.2.1,s1.2.2.2.2.2.2.2.1),(s1.1,s1.2.1,s1.2.2.1,s1.2.2.2.1),s1.2.2.2.2.2.2.2.2))
def As_ (r_:ByteArray×(List (Int×Int×ByteArray))×(List (Int×Int×ByteArray))):Option Bool:=
 (cZ (r_.1,r_.2.1,r_.2.2)).bind fun y6=>
 some y6.2.2
def dQ (p_:Int):Option Bool:=
 (lH p_ 2 97).bind fun y1=>
 (some (!y1)).bind fun a4=>
 cond a4
 (some false)
 (fC (zB (fun (s0:Int)=>
 (vF s0 s0).bind fun a0=>
 (some (decide (a0≤p_))).bind fun a1=>
 cond a1
 ((tD p_ s0).bind fun a2=>
 (some (decide (a2=0))).bind fun a3=>
 cond a3
 (some (.inr (.inr false)))
 ((qA s0 1).bind fun a5=>
 some (.inl a5)))
 (some (.inr (.inl ())))) 2) fun (s1:Unit)=>
 some true)
def zP (p_:Int) (t_:(List (Int×Int×ByteArray))):Option Bool:=
 (yP t_).bind fun y5=>
 ((some (!y5.2)).bind fun a0=>
 cond a0
 (some true)
 ((dQ p_).bind fun y0=>
 (some (!y0)).bind fun a1=>
 some a1)).bind fun (s0:Bool)=>
 cond s0
 (some false)
 (fC (nC (fun (k0:Nat) (_:Unit)=>
 (idxO t_ ((k0:Nat):Int)).bind fun a2=>
 ((some (decide (a2.1=7))).bind fun a3=>
 cond a3
 ((some (decide (p_≤a2.2.1))).bind fun a4=>
 some a4)
 ((some (decide (a2.1=13))).bind fun a5=>
 cond a5
 ((some (decide (p_≤a2.2.1))).bind fun a6=>
 some a6)
 (some false))).bind fun (s1:Bool)=>
 cond s1
 (some (.inr false))
 (some (.inl ()))) t_.length 0 ()) fun (_:Unit)=>
 some true)
def pZ (p_:Int) (r_:ByteArray×(List (Int×Int×ByteArray))×(List (Int×Int×ByteArray))):Option Bool:=
 ((As_ (r_.1,r_.2.1,r_.2.2)).bind fun y0=>
 cond y0
 ((zP p_ r_.2.1).bind fun y1=>
 cond y1
 ((zP p_ r_.2.2).bind fun y2=>
 some y2)
 (some false))
 (some false)).bind fun (s0:Bool)=>
 some s0
def uK (kind_:Int):Option Bool:=
 ((some (!decide (kind_=8))).bind fun a0=>
 cond a0
 ((some (!decide (kind_=14))).bind fun a1=>
 some a1)
 (some false)).bind fun (s7:Bool)=>
 some s7
def uZ (p_:Int) (g_:Int×(List (Int×Int×List Int×List Int))×List Int×List Int):Option Bool:=
 ((dQ p_).bind fun y0=>
 (some (!y0)).bind fun a0=>
 cond a0
 (some true)
 ((wP (g_.1,g_.2.1,g_.2.2.1,g_.2.2.2)).bind fun y1=>
 (some (!y1)).bind fun a1=>
 some a1)).bind fun (s0:Bool)=>
 cond s0
 (some false)
 (fC (nC (fun (k0:Nat) (_:Unit)=>
 (idxO g_.2.1 ((k0:Nat):Int)).bind fun a2=>
 (some (decide (p_≤a2.2.1))).bind fun a3=>
 cond a3
 (some (.inr false))
 (some (.inl ()))) g_.2.1.length 0 ()) fun (_:Unit)=>
 some true)
def fZ (p_:Int) (g_:Int×(List (Int×Int×List Int×List Int))×List Int×List Int):Option Bool:=
 (uZ p_ (g_.1,g_.2.1,g_.2.2.1,g_.2.2.2)).bind fun y7=>
 (some (!y7)).bind fun a0=>
 cond a0
 (some false)
 (fC (nC (fun (k0:Nat) (_:Unit)=>
 (idxO g_.2.1 ((k0:Nat):Int)).bind fun a1=>
 (uK a1.1).bind fun y0=>
 (some (!y0)).bind fun a2=>
 cond a2
 (some (.inr false))
 (some (.inl ()))) g_.2.1.length 0 ()) fun (_:Unit)=>
 some true)
def Am_ (p_:Int) (a_:Int) (b_:Int):Option Int:=
 (qA a_ b_).bind fun a1=>
 (tD a1 p_).bind fun a3=>
 some a3
def pF (p_:Int) (n_:Int) (at_:List Int) (values_:List Int):Option (List Int):=
 (nD n_ (0:Int)).bind fun a3=>
 (forS (fun (k8:Nat) (s0:List Int)=>
 (idxO at_ ((k8:Nat):Int)).bind fun a0=>
 (idxO s0 a0).bind fun a1=>
 (idxO values_ ((k8:Nat):Int)).bind fun a2=>
 (Am_ p_ a1 a2).bind fun y0=>
 (setO s0 a0 y0).bind fun a4=>
 some a4) at_.length 0 a3).bind fun (s1:List Int)=>
 some s1
def vN (p_:Int) (a_:Int):Option Int:=
 (subO p_ a_).bind fun a1=>
 (tD a1 p_).bind fun a3=>
 some a3
def eQ (p_:Int) (n_:Int) (e_:Int×Int×List Int×List Int):Option (List (List Int)):=
 ((some (decide ((9:Int)≤e_.1))).bind fun a0=>
 cond a0
 ((subO e_.1 9).bind fun a1=>
 (qA a1 3).bind fun a2=>
 some (e_.2.2.2,e_.2.2.1,a2))
 (some (e_.2.2.1,e_.2.2.2,e_.1))).bind fun (s0:List Int×List Int×Int)=>
 (some (decide (s0.2.2=3))).bind fun a3=>
 cond a3
 (((idxO s0.2.1 0).bind fun a4=>
 (idxO s0.1 0).bind fun a5=>
 (subO p_ 1).bind fun a6=>
 (idxO s0.2.1 1).bind fun a7=>
 (idxO s0.1 0).bind fun a8=>
 (subO p_ 1).bind fun a9=>
 (pF p_ n_ [a4,a5] [1,a6]).bind fun y0=>
 (pF p_ n_ [a7,a8] [1,a9]).bind fun y1=>
 some [y0,y1]).bind fun (s1:List (List Int))=>
 some s1)
 ((some (decide (s0.2.2=5))).bind fun a10=>
 cond a10
 (((idxO s0.2.1 0).bind fun a11=>
 (idxO s0.1 0).bind fun a12=>
 (idxO s0.1 1).bind fun a13=>
 (subO p_ 1).bind fun a14=>
 (subO p_ 1).bind fun a15=>
 (pF p_ n_ [a11,a12,a13] [1,a14,a15]).bind fun y2=>
 some [y2]).bind fun (s2:List (List Int))=>
 some s2)
 ((some (decide (s0.2.2=6))).bind fun a16=>
 cond a16
 ((idxO s0.2.1 0).bind fun a17=>
 (pF p_ n_ [a17] [1]).bind fun y3=>
 some [y3])
 ((some (decide (s0.2.2=7))).bind fun a18=>
 cond a18
 (((idxO s0.2.1 0).bind fun a19=>
 (idxO s0.1 0).bind fun a20=>
 (vN p_ e_.2.1).bind fun y4=>
 (pF p_ n_ [a19,a20] [1,y4]).bind fun y5=>
 some [y5]).bind fun (s3:List (List Int))=>
 some s3)
 (some []))))
def qU (p_:Int) (a_:Int):Option Int:=
 fC (zB (fun (s0:Int)=>
 (some (decide (s0<p_))).bind fun a0=>
 cond a0
 ((vF a_ s0).bind fun a1=>
 (tD a1 p_).bind fun a2=>
 (some (decide (a2=1))).bind fun a3=>
 cond a3
 (some (.inr (.inr s0)))
 ((qA s0 1).bind fun a4=>
 some (.inl a4)))
 (some (.inr (.inl ())))) 1) fun (s1:Unit)=>
 some 0
def yH (p_:Int) (a_:Int) (b_:Int):Option Int:=
 (vF a_ b_).bind fun a1=>
 (tD a1 p_).bind fun a3=>
 some a3
def jM (p_:Int) (a_:Int) (b_:Int):Option Int:=
 (qA a_ p_).bind fun a1=>
 (subO a1 b_).bind fun a3=>
 (tD a3 p_).bind fun a5=>
 some a5
def qP (p_:Int) (size_:Int) (rows_:List (List Int)):Option (List (List Int)):=
 (forS (fun (k2:Nat) (s0:List (List Int))=>
 (idxO rows_ ((k2:Nat):Int)).bind fun a0=>
 (vG a0).bind fun y0=>
 (tA s0 [y0]).bind fun a1=>
 some a1) rows_.length 0 []).bind fun (s1:List (List Int))=>
 (zB (fun (s2:List (List Int)×Int×Int)=>
 ((some (decide (s2.2.2<size_))).bind fun a2=>
 cond a2
 ((some (decide (s2.2.1<((s2.1.length:Nat):Int)))).bind fun a3=>
 some a3)
 (some false)).bind fun (s3:Bool)=>
 cond s3
 (((zB (fun (s4:Int)=>
 ((some (decide (s4<((s2.1.length:Nat):Int)))).bind fun a4=>
 cond a4
 ((idxO s2.1 s4).bind fun a5=>
 (idxO a5 s2.2.2).bind fun a6=>
 (some (decide (a6=0))).bind fun a7=>
 some a7)
 (some false)).bind fun (s5:Bool)=>
 cond s5
 ((qA s4 1).bind fun a8=>
 some (.inl a8))
 (some (.inr s4))) s2.2.1).bind fun (s6:Int)=>
 (some (decide (s6=((s2.1.length:Nat):Int)))).bind fun a9=>
 cond a9
 (some (s2.1,s2.2.1))
 ((idxO s2.1 s2.2.1).bind fun a10=>
 (idxO s2.1 s6).bind fun a11=>
 (cN s2.1 s2.2.1 s6).bind fun a12=>
 (idxO a12 s2.2.1).bind fun a13=>
 (idxO a13 s2.2.2).bind fun a14=>
 (qU p_ a14).bind fun y1=>
 (idxO a12 s2.2.1).bind fun a15=>
 (forS (fun (k0:Nat) (s7:List (List Int))=>
 (idxO s7 s2.2.1).bind fun a16=>
 (idxO s7 s2.2.1).bind fun a17=>
 (idxO a17 ((k0:Nat):Int)).bind fun a18=>
 (yH p_ a18 y1).bind fun y2=>
 (setO a16 ((k0:Nat):Int) y2).bind fun a19=>
 (setO s7 s2.2.1 a19).bind fun a20=>
 some a20) a15.length 0 a12).bind fun (s8:List (List Int))=>
 (forS (fun (k1:Nat) (s9:List (List Int))=>
 (((some (decide (((k1:Nat):Int)=s2.2.1))).bind fun a21=>
 cond a21
 (some true)
 ((idxO s9 ((k1:Nat):Int)).bind fun a22=>
 (idxO a22 s2.2.2).bind fun a23=>
 (some (decide (a23=0))).bind fun a24=>
 some a24)).bind fun (s10:Bool)=>
 cond s10
 (some s9)
 ((idxO s9 ((k1:Nat):Int)).bind fun a25=>
 (idxO a25 s2.2.2).bind fun a26=>
 (idxO s9 ((k1:Nat):Int)).bind fun a27=>
 (forS (fun (k3:Nat) (s11:List (List Int))=>
 (idxO s11 ((k1:Nat):Int)).bind fun a28=>
 (idxO s11 ((k1:Nat):Int)).bind fun a29=>
 (idxO s11 s2.2.1).bind fun a30=>
 (idxO a29 ((k3:Nat):Int)).bind fun a31=>
 (idxO a30 ((k3:Nat):Int)).bind fun a32=>
 (yH p_ a26 a32).bind fun y3=>
 (jM p_ a31 y3).bind fun y4=>
 (setO a28 ((k3:Nat):Int) y4).bind fun a33=>
 (setO s11 ((k1:Nat):Int) a33).bind fun a34=>
 some a34) a27.length 0 s9).bind fun (s12:List (List Int))=>
 some s12)).bind fun (s13:List (List Int))=>
 some s13) s8.length 0 s8).bind fun (s14:List (List Int))=>
 (qA s2.2.1 1).bind fun a35=>
 some (s14,a35))).bind fun (s15:List (List Int)×Int)=>
 (qA s2.2.2 1).bind fun a36=>
 some (.inl (s15.1,s15.2,a36)))
 (some (.inr (s2.1,s2.2.1)))) (s1,0,0)).bind fun (s16:List (List Int)×Int)=>
 (aB s16.1 0 s16.2).bind fun a37=>
 some a37
def aQ (v_:List Int):Option Int:=
 (zB (fun (s0:Int)=>
 ((some (decide (s0<((v_.length:Nat):Int)))).bind fun a0=>
 cond a0
 ((idxO v_ s0).bind fun a1=>
 (some (decide (a1=0))).bind fun a2=>
 some a2)
 (some false)).bind fun (s1:Bool)=>
 cond s1
 ((qA s0 1).bind fun a3=>
 some (.inl a3))
 (some (.inr s0))) 0).bind fun (s2:Int)=>
 some s2
def vT (p_:Int) (size_:Int) (rows_:List (List Int)):Option (List (List Int)):=
 (qP p_ size_ rows_).bind fun y2=>
 (nD size_ (0:Int)).bind fun a7=>
 (forS (fun (k0:Nat) (s0:List Int)=>
 (setO s0 ((k0:Nat):Int) (-1)).bind fun a0=>
 some a0) a7.length 0 a7).bind fun (s1:List Int)=>
 (forS (fun (k1:Nat) (s2:List Int)=>
 (idxO y2 ((k1:Nat):Int)).bind fun a1=>
 (aQ a1).bind fun y0=>
 (setO s2 y0 ((k1:Nat):Int)).bind fun a2=>
 some a2) y2.length 0 s1).bind fun (s3:List Int)=>
 (zB (fun (s4:List (List Int)×Int)=>
 (some (decide (s4.2<size_))).bind fun a3=>
 cond a3
 (((idxO s3 s4.2).bind fun a4=>
 (some (decide ((0:Int)≤a4))).bind fun a5=>
 cond a5
 (some s4.1)
 ((nD size_ (0:Int)).bind fun a6=>
 (setO a6 s4.2 1).bind fun a8=>
 (forS (fun (k2:Nat) (s5:List Int)=>
 (idxO y2 ((k2:Nat):Int)).bind fun a9=>
 (idxO y2 ((k2:Nat):Int)).bind fun a10=>
 (idxO a9 s4.2).bind fun a11=>
 (aQ a10).bind fun y1=>
 (vN p_ a11).bind fun y3=>
 (setO s5 y1 y3).bind fun a12=>
 some a12) y2.length 0 a8).bind fun (s6:List Int)=>
 (tA s4.1 [s6]).bind fun a13=>
 some a13)).bind fun (s7:List (List Int))=>
 (qA s4.2 1).bind fun a14=>
 some (.inl (s7,a14)))
 (some (.inr s4.1))) ([],0)).bind fun (s8:List (List Int))=>
 (qP p_ size_ s8).bind fun y4=>
 some y4
def vY (p_:Int) (g_:Int×(List (Int×Int×List Int×List Int))×List Int×List Int):Option (List (List Int)):=
 (forS (fun (k7:Nat) (s0:List (List Int))=>
 (idxO g_.2.1 ((k7:Nat):Int)).bind fun a0=>
 (eQ p_ g_.1 (a0.1,a0.2.1,a0.2.2.1,a0.2.2.2)).bind fun y0=>
 (tA s0 y0).bind fun a1=>
 some a1) g_.2.1.length 0 []).bind fun (s1:List (List Int))=>
 (vT p_ g_.1 s1).bind fun y1=>
 some y1
def rU (p_:Int) (left_:Int) (right_:Int) (rows_:List (List Int)):Option (Int×Int×List (List Int)):=
 (qA left_ right_).bind fun a5=>
 (qP p_ a5 rows_).bind fun y7=>
 some (left_,right_,y7)
def eZ (p_:Int) (g_:Int×(List (Int×Int×List Int×List Int))×List Int×List Int):Option ((Int×Int×List (List Int))×Bool):=
 (fZ p_ (g_.1,g_.2.1,g_.2.2.1,g_.2.2.2)).bind fun y0=>
 (some (!y0)).bind fun a0=>
 cond a0
 (some ((0,0,[]),false))
 ((vG g_.2.2.1).bind fun y1=>
 (tA y1 g_.2.2.2).bind fun a1=>
 (vY p_ (g_.1,g_.2.1,g_.2.2.1,g_.2.2.2)).bind fun y2=>
 (forS (fun (k0:Nat) (s0:List (List Int))=>
 (idxO y2 ((k0:Nat):Int)).bind fun a2=>
 (pJ a1 a2).bind fun y3=>
 (tA s0 [y3]).bind fun a3=>
 some a3) y2.length 0 []).bind fun (s1:List (List Int))=>
 (rU p_ ((g_.2.2.1.length:Nat):Int) ((g_.2.2.2.length:Nat):Int) s1).bind fun y4=>
 some ((y4.1,y4.2.1,y4.2.2),true))
def fM (p_:Int) (n_:Int×Int×ByteArray):Option (Int×Int×List (List Int)):=
 (cQ (n_.1,n_.2.1,n_.2.2)).bind fun y7=>
 (eZ p_ (y7.1,y7.2.1,y7.2.2.1,y7.2.2.2)).bind fun y0=>
 some (y0.1.1,y0.1.2.1,y0.1.2.2)
def iM (p_:Int) (size_:Int) (rows_:List (List Int)) (coefs_:List Int):Option (List Int):=
 (nD size_ (0:Int)).bind fun a3=>
 (forS (fun (k8:Nat) (s0:List Int)=>
 (idxO rows_ ((k8:Nat):Int)).bind fun a0=>
 (forS (fun (k0:Nat) (s1:List Int)=>
 (idxO a0 ((k0:Nat):Int)).bind fun a1=>
 (idxO s1 ((k0:Nat):Int)).bind fun a2=>
 (idxO coefs_ ((k8:Nat):Int)).bind fun a4=>
 (vF a4 a1).bind fun a5=>
 (qA a2 a5).bind fun a6=>
 (tD a6 p_).bind fun a7=>
 (setO s1 ((k0:Nat):Int) a7).bind fun a8=>
 some a8) a0.length 0 s0).bind fun (s2:List Int)=>
 some s2) rows_.length 0 a3).bind fun (s3:List Int)=>
 some s3
def lP (p_:Int) (a_:Int×Int×List (List Int)) (b_:Int×Int×List (List Int)):Option (Int×Int×List (List Int)):=
 (nD a_.2.1 ([]:List Int)).bind fun a0=>
 (forS (fun (k0:Nat) (s0:List (List Int))=>
 (forS (fun (k1:Nat) (s1:List (List Int))=>
 (idxO a_.2.2 ((k1:Nat):Int)).bind fun a1=>
 (idxO s1 ((k0:Nat):Int)).bind fun a2=>
 (qA a_.1 ((k0:Nat):Int)).bind fun a3=>
 (idxO a1 a3).bind fun a4=>
 (tA a2 [a4]).bind fun a5=>
 (setO s1 ((k0:Nat):Int) a5).bind fun a6=>
 some a6) a_.2.2.length 0 s0).bind fun (s2:List (List Int))=>
 (forS (fun (k2:Nat) (s3:List (List Int))=>
 (idxO b_.2.2 ((k2:Nat):Int)).bind fun a7=>
 (idxO s3 ((k0:Nat):Int)).bind fun a8=>
 (idxO a7 ((k0:Nat):Int)).bind fun a9=>
 (vN p_ a9).bind fun y0=>
 (tA a8 [y0]).bind fun a10=>
 (setO s3 ((k0:Nat):Int) a10).bind fun a11=>
 some a11) b_.2.2.length 0 s2).bind fun (s4:List (List Int))=>
 some s4) a0.length 0 a0).bind fun (s5:List (List Int))=>
 (qA ((a_.2.2.length:Nat):Int) ((b_.2.2.length:Nat):Int)).bind fun a13=>
 (vT p_ a13 s5).bind fun y1=>
 (forS (fun (k3:Nat) (s6:List (List Int))=>
 (idxO y1 ((k3:Nat):Int)).bind fun a14=>
 (qA a_.1 a_.2.1).bind fun a15=>
 (aB a14 0 ((a_.2.2.length:Nat):Int)).bind fun a16=>
 (iM p_ a15 a_.2.2 a16).bind fun y2=>
 (qA a_.2.1 b_.2.1).bind fun a17=>
 (aB a14 ((a_.2.2.length:Nat):Int) ((a14.length:Nat):Int)).bind fun a18=>
 (iM p_ a17 b_.2.2 a18).bind fun y3=>
 (aB y3 a_.2.1 ((y3.length:Nat):Int)).bind fun a19=>
 (aB y2 0 a_.1).bind fun a20=>
 (vG a20).bind fun y4=>
 (tA y4 a19).bind fun a21=>
 (tA s6 [a21]).bind fun a22=>
 some a22) y1.length 0 []).bind fun (s7:List (List Int))=>
 (rU p_ a_.1 b_.2.1 s7).bind fun y5=>
 some (y5.1,y5.2.1,y5.2.2)
def rP (p_:Int) (a_:Int×Int×List (List Int)) (b_:Int×Int×List (List Int)):Option (Int×Int×List (List Int)):=
 (qA a_.1 b_.1).bind fun a0=>
 (qA a_.2.1 b_.2.1).bind fun a1=>
 (forS (fun (k0:Nat) (s0:List (List Int))=>
 (idxO a_.2.2 ((k0:Nat):Int)).bind fun a2=>
 (qA a0 a1).bind fun a3=>
 (nD a3 (0:Int)).bind fun a4=>
 (forS (fun (k1:Nat) (s1:List Int)=>
 (idxO a2 ((k1:Nat):Int)).bind fun a5=>
 (some (decide (((k1:Nat):Int)<a_.1))).bind fun a6=>
 cond a6
 ((setO s1 ((k1:Nat):Int) a5).bind fun a7=>
 some a7)
 ((qA a0 ((k1:Nat):Int)).bind fun a8=>
 (subO a8 a_.1).bind fun a9=>
 (setO s1 a9 a5).bind fun a10=>
 some a10)) a2.length 0 a4).bind fun (s2:List Int)=>
 (tA s0 [s2]).bind fun a11=>
 some a11) a_.2.2.length 0 []).bind fun (s3:List (List Int))=>
 (forS (fun (k2:Nat) (s4:List (List Int))=>
 (idxO b_.2.2 ((k2:Nat):Int)).bind fun a12=>
 (qA a0 a1).bind fun a14=>
 (nD a14 (0:Int)).bind fun a16=>
 (forS (fun (k3:Nat) (s5:List Int)=>
 (idxO a12 ((k3:Nat):Int)).bind fun a17=>
 (some (decide (((k3:Nat):Int)<b_.1))).bind fun a18=>
 cond a18
 ((qA a_.1 ((k3:Nat):Int)).bind fun a19=>
 (setO s5 a19 a17).bind fun a20=>
 some a20)
 ((qA a0 a_.2.1).bind fun a21=>
 (qA a21 ((k3:Nat):Int)).bind fun a22=>
 (subO a22 b_.1).bind fun a23=>
 (setO s5 a23 a17).bind fun a24=>
 some a24)) a12.length 0 a16).bind fun (s6:List Int)=>
 (tA s4 [s6]).bind fun a25=>
 some a25) b_.2.2.length 0 s3).bind fun (s7:List (List Int))=>
 (rU p_ a0 a1 s7).bind fun y0=>
 some (y0.1,y0.2.1,y0.2.2)
def aU (p_:Int) (t_:(List (Int×Int×ByteArray))):Option ((Int×Int×List (List Int))×Bool):=
 (zP p_ t_).bind fun y8=>
 (some (!y8)).bind fun a0=>
 cond a0
 (some ((0,0,[]),false))
 (fC (nC (fun (k0:Nat) (s0:List (Int×Int×List (List Int)))=>
 fC ((idxO t_ ((k0:Nat):Int)).bind fun a1=>
 (uK a1.1).bind fun y0=>
 (some (!y0)).bind fun a2=>
 cond a2
 (some (.inr (.inr ((0,0,[]),false))))
 (((some (!decide (a1.1=15))).bind fun a3=>
 cond a3
 ((some (!decide (a1.1=16))).bind fun a4=>
 some a4)
 (some false)).bind fun (s1:Bool)=>
 cond s1
 ((fM p_ (a1.1,a1.2.1,a1.2.2)).bind fun y1=>
 (tA s0 [(y1.1,y1.2.1,y1.2.2)]).bind fun a5=>
 some (.inl a5))
 (((subO ((s0.length:Nat):Int) 2).bind fun a6=>
 (idxO s0 a6).bind fun a7=>
 (subO ((s0.length:Nat):Int) 1).bind fun a8=>
 (idxO s0 a8).bind fun a9=>
 some (a9.1,a9.2.1,a9.2.2,a7.1,a7.2.1,a7.2.2)).bind fun (s2:Int×Int×List (List Int)×Int×Int×List (List Int))=>
 (subO ((s0.length:Nat):Int) 2).bind fun a10=>
 (aB s0 0 a10).bind fun a12=>
 (some (decide (a1.1=15))).bind fun a13=>
 cond a13
 ((lP p_ (s2.2.2.2.1,s2.2.2.2.2.1,s2.2.2.2.2.2) (s2.1,s2.2.1,s2.2.2.1)).bind fun y2=>
 (tA a12 [(y2.1,y2.2.1,y2.2.2)]).bind fun a14=>
 some (.inl a14))
 ((rP p_ (s2.2.2.2.1,s2.2.2.2.2.1,s2.2.2.2.2.2) (s2.1,s2.2.1,s2.2.2.1)).bind fun y3=>
 (tA a12 [(y3.1,y3.2.1,y3.2.2)]).bind fun a15=>
 some (.inl a15))))) fun (s3:List (Int×Int×List (List Int)))=>
 some (.inl s3)) t_.length 0 []) fun (s4:List (Int×Int×List (List Int)))=>
 (idxO s4 0).bind fun a16=>
 some ((a16.1,a16.2.1,a16.2.2),true))
def vZ (p_:Int) (r_:ByteArray×(List (Int×Int×ByteArray))×(List (Int×Int×ByteArray))):Option ((Int×Int×List (List Int))×(Int×Int×List (List Int))×Bool):=
 (pZ p_ (r_.1,r_.2.1,r_.2.2)).bind fun y0=>
 (some (!y0)).bind fun a0=>
 cond a0
 (some ((0,0,[]),(0,0,[]),false))
 ((aU p_ r_.2.1).bind fun y1=>
 (aU p_ r_.2.2).bind fun y2=>
 (cond y1.2
 (some (y2.1.1,y2.1.2.1,y2.1.2.2,y1.1.1,y1.1.2.1,y1.1.2.2,y2.2))
 (some (y2.1.1,y2.1.2.1,y2.1.2.2,y1.1.1,y1.1.2.1,y1.1.2.2,false))).bind fun (s0:Int×Int×List (List Int)×Int×Int×List (List Int)×Bool)=>
 some ((s0.2.2.2.1,s0.2.2.2.2.1,s0.2.2.2.2.2.1),(s0.1,s0.2.1,s0.2.2.1),s0.2.2.2.2.2.2))
def uY (basis_:List (List Int)) (v_:List Int):Option (List Int):=
 (forS (fun (k3:Nat) (s0:List Int)=>
 (idxO basis_ ((k3:Nat):Int)).bind fun a0=>
 (aQ a0).bind fun y0=>
 (idxO v_ y0).bind fun a1=>
 (tA s0 [a1]).bind fun a2=>
 some a2) basis_.length 0 []).bind fun (s1:List Int)=>
 some s1
def sZ (a_:List Int) (b_:List Int):Option Bool:=
 (some (!decide (((a_.length:Nat):Int)=((b_.length:Nat):Int)))).bind fun a3=>
 cond a3
 (some false)
 (fC (nC (fun (k6:Nat) (_:Unit)=>
 (idxO a_ ((k6:Nat):Int)).bind fun a0=>
 (idxO b_ ((k6:Nat):Int)).bind fun a1=>
 (some (!decide (a0=a1))).bind fun a2=>
 cond a2
 (some (.inr false))
 (some (.inl ()))) a_.length 0 ()) fun (_:Unit)=>
 some true)
def nU (p_:Int) (basis_:List (List Int)) (v_:List Int):Option Bool:=
 (uY basis_ v_).bind fun y3=>
 (iM p_ ((v_.length:Nat):Int) basis_ y3).bind fun y8=>
 (sZ y8 v_).bind fun y0=>
 some y0
def fT (p_:Int) (a_:List (List Int)) (b_:List (List Int)):Option (List Int):=
 fC (nC (fun (k3:Nat) (_:Unit)=>
 (idxO a_ ((k3:Nat):Int)).bind fun a0=>
 (nU p_ b_ a0).bind fun y0=>
 (some (!y0)).bind fun a1=>
 cond a1
 (some (.inr a0))
 (some (.inl ()))) a_.length 0 ()) fun (_:Unit)=>
 some []
def jY (p_:Int) (r_:ByteArray×(List (Int×Int×ByteArray))×(List (Int×Int×ByteArray))):Option (List Int×List Int×Int×Bool):=
 (vZ p_ (r_.1,r_.2.1,r_.2.2)).bind fun y6=>
 (some (!y6.2.2)).bind fun a0=>
 cond a0
 (some ([],[],0,false))
 ((fT p_ y6.1.2.2 y6.2.1.2.2).bind fun y0=>
 ((some (decide (((y0.length:Nat):Int)=0))).bind fun a1=>
 cond a1
 ((fT p_ y6.2.1.2.2 y6.1.2.2).bind fun y1=>
 some (2,y1))
 (some (1,y0))).bind fun (s0:Int×List Int)=>
 (some (decide (((s0.2.length:Nat):Int)=0))).bind fun a2=>
 cond a2
 (some ([],[],0,false))
 ((aB s0.2 0 y6.1.1).bind fun a3=>
 (aB s0.2 y6.1.1 ((s0.2.length:Nat):Int)).bind fun a4=>
 (vG a3).bind fun y2=>
 (vG a4).bind fun y3=>
 some (y2,y3,s0.1,true)))
def uG (n_:Int) (low_:Int) (high_:Int):Option Bool:=
 ((some (decide (low_≤n_))).bind fun a0=>
 cond a0
 ((some (decide (n_≤high_))).bind fun a1=>
 some a1)
 (some false)).bind fun (s7:Bool)=>
 some s7
def qY (w_:Int×Int):Option Bool:=
 ((some (decide (w_.1≤12))).bind fun a0=>
 cond a0
 ((some (decide (w_.2≤12))).bind fun a1=>
 some a1)
 (some false)).bind fun (s0:Bool)=>
 some s0
def bM (kind_:Int) (a_:Int×Int) (b_:Int×Int):Option ((Int×Int)×Bool):=
 (some (decide (kind_=15))).bind fun a0=>
 cond a0
 ((some (decide (a_.2=b_.1))).bind fun a1=>
 some ((a_.1,b_.2),a1))
 ((qA a_.1 b_.1).bind fun a2=>
 (qA a_.2 b_.2).bind fun a3=>
 (qY (a2,a3)).bind fun y0=>
 some ((a2,a3),y0))
def iN (kind_:Int):Option Bool:=
 (uG kind_ 3 14).bind fun y1=>
 some y1
def yL (kind_:Int):Option (Int×Int):=
 (some (decide (kind_≤8))).bind fun a8=>
 cond a8
 ((subO kind_ 3).bind fun a0=>
 (idxO ([(1,2),(1,0),(2,1),(0,1),(1,1),(1,1)]:List (Int×Int)) a0).bind fun a1=>
 some (a1.1,a1.2))
 ((subO kind_ 9).bind fun a2=>
 (idxO ([(1,2),(1,0),(2,1),(0,1),(1,1),(1,1)]:List (Int×Int)) a2).bind fun a3=>
 some (a3.2,a3.1))
def lN (kind_:Int):Option Bool:=
 ((some (decide (kind_=7))).bind fun a0=>
 cond a0
 (some true)
 ((some (decide (kind_=13))).bind fun a1=>
 some a1)).bind fun (s7:Bool)=>
 some s7
def fP (kind_:Int) (value_:Int):Option Bool:=
 (lN kind_).bind fun y1=>
 cond y1
 ((uG value_ 0 96).bind fun y8=>
 some y8)
 ((some (decide (value_=0))).bind fun a5=>
 some a5)
def mJ (n_:Int×Int×ByteArray):Option ((Int×Int)×Bool):=
 (some (!decide ((n_.2.2:ByteArray)=.empty))).bind fun a7=>
 cond a7
 (some ((0,0),false))
 ((some (decide (n_.1=1))).bind fun a0=>
 cond a0
 ((uG n_.2.1 0 12).bind fun y0=>
 some ((n_.2.1,n_.2.1),y0))
 ((some (decide (n_.1=2))).bind fun a1=>
 cond a1
 ((some (decide (n_.2.1=0))).bind fun a2=>
 some ((2,2),a2))
 ((iN n_.1).bind fun y1=>
 cond y1
 ((yL n_.1).bind fun y2=>
 (fP n_.1 n_.2.1).bind fun y3=>
 some ((y2.1,y2.2),y3))
 (some ((0,0),false)))))
def bY (nodes_:List (Int×Int×ByteArray)):Option ((Int×Int)×Bool):=
 (uG ((nodes_.length:Nat):Int) 1 400).bind fun y5=>
 (some (!y5)).bind fun a8=>
 cond a8
 (some ((0,0),false))
 (fC (nC (fun (k0:Nat) (s0:List (Int×Int))=>
 fC ((idxO nodes_ ((k0:Nat):Int)).bind fun a0=>
 ((some (!decide (a0.1=15))).bind fun a1=>
 cond a1
 ((some (!decide (a0.1=16))).bind fun a2=>
 some a2)
 (some false)).bind fun (s1:Bool)=>
 cond s1
 ((mJ (a0.1,a0.2.1,a0.2.2)).bind fun y0=>
 (some (!y0.2)).bind fun a3=>
 cond a3
 (some (.inr (.inr ((0,0),false))))
 ((tA s0 [(y0.1.1,y0.1.2)]).bind fun a4=>
 some (.inl a4)))
 (((some (!decide (a0.2.1=0))).bind fun a5=>
 cond a5
 (some true)
 ((some (!decide ((a0.2.2:ByteArray)=.empty))).bind fun a6=>
 cond a6
 (some true)
 ((some (decide (((s0.length:Nat):Int)<2))).bind fun a7=>
 some a7))).bind fun (s2:Bool)=>
 cond s2
 (some (.inr (.inr ((0,0),false))))
 ((subO ((s0.length:Nat):Int) 1).bind fun a9=>
 ((subO a9 1).bind fun a10=>
 (idxO s0 a10).bind fun a11=>
 (idxO s0 a9).bind fun a12=>
 (bM a0.1 (a11.1,a11.2) (a12.1,a12.2)).bind fun y1=>
 some (y1.1.1,y1.1.2,y1.2)).bind fun (s3:Int×Int×Bool)=>
 (some (!s3.2.2)).bind fun a13=>
 cond a13
 (some (.inr (.inr ((0,0),false))))
 ((subO a9 1).bind fun a14=>
 (aB s0 0 a14).bind fun a15=>
 (tA a15 [(s3.1,s3.2.1)]).bind fun a16=>
 some (.inl a16))))) fun (s4:List (Int×Int))=>
 some (.inl s4)) nodes_.length 0 ([]:List (Int×Int))) fun (s5:List (Int×Int))=>
 (idxO s5 0).bind fun a17=>
 (some (decide (((s5.length:Nat):Int)=1))).bind fun a18=>
 some ((a17.1,a17.2),a18))
def kP (t_:(List (Int×Int×ByteArray))):Option ((Int×Int)×Bool):=
 (bY t_).bind fun y8=>
 some ((y8.1.1,y8.1.2),y8.2)
def dM (b_:Int):Option Bool:=
 ((some (decide ((97:Int)≤b_))).bind fun a0=>
 cond a0
 ((some (decide ((b_:Int)≤122))).bind fun a1=>
 some a1)
 (some false)).bind fun (s7:Bool)=>
 some s7
def rY :Option (List ByteArray):=
 some [.empty,⟨#[105,100]⟩,⟨#[115,119,97,112]⟩,⟨#[99,111,112,121]⟩,⟨#[100,105,115,99,97,114,100]⟩,⟨#[97,100,100]⟩,⟨#[122,101,114,111]⟩,⟨#[115,99,97,108,101]⟩,⟨#[100,101,108,97,121]⟩,⟨#[99,111,99,111,112,121]⟩,⟨#[99,111,100,105,115,99,97,114,100]⟩,⟨#[99,111,97,100,100]⟩,⟨#[99,111,122,101,114,111]⟩,⟨#[99,111,115,99,97,108,101]⟩,⟨#[99,111,100,101,108,97,121]⟩]
def Ab_ (word_:ByteArray):Option Int:=
 (rY).bind fun y1=>
 fC (nC (fun (k6:Nat) (_:Unit)=>
 (idxO y1 ((k6:Nat):Int)).bind fun a0=>
 (some (decide ((a0:ByteArray)=word_))).bind fun a1=>
 cond a1
 (some (.inr ((k6:Nat):Int)))
 (some (.inl ()))) y1.length 0 ()) fun (_:Unit)=>
 some 17
def mN (b_:Int):Option Bool:=
 ((some (decide ((48:Int)≤b_))).bind fun a0=>
 cond a0
 ((some (decide ((b_:Int)≤57))).bind fun a1=>
 some a1)
 (some false)).bind fun (s7:Bool)=>
 some s7
def eU (s_:ByteArray):Option Bool:=
 ((uG ((s_.size:Nat):Int) 1 8).bind fun y0=>
 (some (!y0)).bind fun a0=>
 cond a0
 (some true)
 ((yC s_ 0).bind fun a1=>
 (dM a1).bind fun y1=>
 (some (!y1)).bind fun a2=>
 cond a2
 (some true)
 ((Ab_ s_).bind fun y2=>
 (some (!decide (y2=17))).bind fun a3=>
 some a3))).bind fun (s0:Bool)=>
 cond s0
 (some false)
 ((cI ((s_.size:Nat):Int)).bind fun _=>
 fC (nC (fun (k0:Nat) (_:Unit)=>
 ((yC s_ ((k0:Nat):Int)).bind fun a4=>
 (dM a4).bind fun y3=>
 (some (!y3)).bind fun a5=>
 cond a5
 ((yC s_ ((k0:Nat):Int)).bind fun a6=>
 (mN a6).bind fun y4=>
 (some (!y4)).bind fun a7=>
 some a7)
 (some false)).bind fun (s1:Bool)=>
 cond s1
 (some (.inr false))
 (some (.inl ()))) (((s_.size:Nat):Int).toNat) 0 ()) fun (_:Unit)=>
 some true)
def wG (n_:Int):Option (List Int):=
 (nD n_ (0:Int)).bind fun a1=>
 some a1
def uJ (n_:Int):Option (List Int):=
 (wG n_).bind fun y1=>
 (forS (fun (k6:Nat) (s0:List Int)=>
 (setO s0 ((k6:Nat):Int) ((k6:Nat):Int)).bind fun a0=>
 some a0) y1.length 0 y1).bind fun (s1:List Int)=>
 some s1
def CG_ (v_:List Int) (at_:List Int):Option (List Int):=
 (fK 0 ((at_.length:Nat):Int) (0:Int)).bind fun a3=>
 (forS (fun (k8:Nat) (s0:List Int)=>
 (idxO at_ ((k8:Nat):Int)).bind fun a0=>
 (idxO v_ a0).bind fun a1=>
 (tA s0 [a1]).bind fun a2=>
 some a2) at_.length 0 a3).bind fun (s1:List Int)=>
 some s1
def rJ (list_:List Int) (to_:List Int):Option (List Int):=
 (CG_ to_ list_).bind fun y3=>
 some y3
def jP (g_:Int×(List (Int×Int×List Int×List Int))×List Int×List Int) (count_:Int) (to_:List Int):Option (Int×(List (Int×Int×List Int×List Int))×List Int×List Int):=
 ((rJ g_.2.2.1 to_).bind fun y0=>
 (rJ g_.2.2.2 to_).bind fun y1=>
 some (count_,y0,y1)).bind fun (s0:Int×List Int×List Int)=>
 (forS (fun (k0:Nat) (s1:List (Int×Int×List Int×List Int))=>
 (idxO g_.2.1 ((k0:Nat):Int)).bind fun a0=>
 (rJ a0.2.2.1 to_).bind fun y2=>
 (rJ a0.2.2.2 to_).bind fun y3=>
 (tA s1 [(a0.1,a0.2.1,y2,y3)]).bind fun a1=>
 some a1) g_.2.1.length 0 []).bind fun (s2:List (Int×Int×List Int×List Int))=>
 some (s0.1,s2,s0.2.1,s0.2.2)
def xN (first_:Int) (n_:Int):Option (List Int):=
 (uJ n_).bind fun y1=>
 (forS (fun (k6:Nat) (s0:List Int)=>
 (idxO s0 ((k6:Nat):Int)).bind fun a0=>
 (qA a0 first_).bind fun a1=>
 (setO s0 ((k6:Nat):Int) a1).bind fun a2=>
 some a2) y1.length 0 y1).bind fun (s1:List Int)=>
 some s1
def zS (g_:Int×(List (Int×Int×List Int×List Int))×List Int×List Int) (h_:Int×(List (Int×Int×List Int×List Int))×List Int×List Int):Option (Int×(List (Int×Int×List Int×List Int))×List Int×List Int):=
 (qA g_.1 h_.1).bind fun a0=>
 ((uJ g_.1).bind fun y0=>
 (jP (g_.1,g_.2.1,g_.2.2.1,g_.2.2.2) g_.1 y0).bind fun y1=>
 some (y1.1,y1.2.1,y1.2.2.1,y1.2.2.2)).bind fun (s0:Int×(List (Int×Int×List Int×List Int))×List Int×List Int)=>
 ((xN g_.1 h_.1).bind fun y2=>
 (jP (h_.1,h_.2.1,h_.2.2.1,h_.2.2.2) h_.1 y2).bind fun y3=>
 some (y3.1,y3.2.1,y3.2.2.1,y3.2.2.2)).bind fun (s1:Int×(List (Int×Int×List Int×List Int))×List Int×List Int)=>
 (tA s0.2.1 s1.2.1).bind fun a1=>
 some (a0,a1,[],[])
def xG (list_:List Int):Option (List Int):=
 (tA ([]:List Int) list_).bind fun a5=>
 some a5
def sK (c_:List Int) (w_:Int):Option Int:=
 (zB (fun (s0:Int)=>
 (idxO c_ s0).bind fun a0=>
 (some (!decide (a0=s0))).bind fun a1=>
 cond a1
 ((idxO c_ s0).bind fun a2=>
 some (.inl a2))
 (some (.inr s0))) w_).bind fun (s1:Int)=>
 some s1
def yS (c_:List Int) (v_:Int) (w_:Int):Option (List Int):=
 (sK c_ v_).bind fun y2=>
 (sK c_ w_).bind fun y5=>
 (some (bP y2 y5)).bind fun a8=>
 (some (aP y2 y5)).bind fun a0=>
 (setO c_ a8 a0).bind fun a1=>
 some a1
def tK (list_:List Int) (c0_:List Bool) (c1_:List Int):Option (List Bool):=
 (forS (fun (k6:Nat) (s0:List Bool)=>
 (idxO list_ ((k6:Nat):Int)).bind fun a0=>
 (sK c1_ a0).bind fun y0=>
 (setO s0 y0 true).bind fun a1=>
 some a1) list_.length 0 c0_).bind fun (s1:List Bool)=>
 some s1
def yX (g_:Int×(List (Int×Int×List Int×List Int))×List Int×List Int) (d0_:List Bool) (d1_:List Int):Option (List Bool):=
 (tK g_.2.2.1 d0_ d1_).bind fun y0=>
 (tK g_.2.2.2 y0 d1_).bind fun y1=>
 (forS (fun (k0:Nat) (s0:List Bool)=>
 (idxO g_.2.1 ((k0:Nat):Int)).bind fun a0=>
 (tK a0.2.2.1 s0 d1_).bind fun y2=>
 (tK a0.2.2.2 y2 d1_).bind fun y3=>
 some y3) g_.2.1.length 0 y1).bind fun (s1:List Bool)=>
 some s1
def oY (g_:Int×(List (Int×Int×List Int×List Int))×List Int×List Int) (pairs_:List (Int×Int)):Option ((Int×(List (Int×Int×List Int×List Int))×List Int×List Int)×List Int):=
 (uJ g_.1).bind fun y0=>
 (forS (fun (k0:Nat) (s0:List Int)=>
 (idxO pairs_ ((k0:Nat):Int)).bind fun a0=>
 (yS s0 a0.1 a0.2).bind fun y1=>
 some y1) pairs_.length 0 y0).bind fun (s1:List Int)=>
 (nD g_.1 (false:Bool)).bind fun a1=>
 (yX (g_.1,g_.2.1,g_.2.2.1,g_.2.2.2) a1 s1).bind fun y2=>
 (wG g_.1).bind fun y3=>
 (forS (fun (k1:Nat) (s2:List Int×Int)=>
 (sK s1 ((k1:Nat):Int)).bind fun y4=>
 (idxO y2 y4).bind fun a2=>
 (some (!a2)).bind fun a3=>
 cond a3
 ((setO s2.1 ((k1:Nat):Int) (-1)).bind fun a4=>
 some (a4,s2.2))
 ((some (decide (y4<((k1:Nat):Int)))).bind fun a5=>
 cond a5
 ((idxO s2.1 y4).bind fun a6=>
 (setO s2.1 ((k1:Nat):Int) a6).bind fun a7=>
 some (a7,s2.2))
 ((setO s2.1 ((k1:Nat):Int) s2.2).bind fun a8=>
 (qA s2.2 1).bind fun a9=>
 some (a8,a9)))) y3.length 0 (y3,0)).bind fun (s3:List Int×Int)=>
 (jP (g_.1,g_.2.1,g_.2.2.1,g_.2.2.2) s3.2 s3.1).bind fun y5=>
 some ((y5.1,y5.2.1,y5.2.2.1,y5.2.2.2),s3.1)
def mP (a_:Int×(List (Int×Int×List Int×List Int))×List Int×List Int) (b_:Int×(List (Int×Int×List Int×List Int))×List Int×List Int):Option (Int×(List (Int×Int×List Int×List Int))×List Int×List Int):=
 (zS (a_.1,a_.2.1,a_.2.2.1,a_.2.2.2) (b_.1,b_.2.1,b_.2.2.1,b_.2.2.2)).bind fun y0=>
 (forS (fun (k0:Nat) (s0:List (Int×Int))=>
 (idxO a_.2.2.2 ((k0:Nat):Int)).bind fun a0=>
 (idxO b_.2.2.1 ((k0:Nat):Int)).bind fun a1=>
 (qA a_.1 a1).bind fun a2=>
 (tA s0 [(a0,a2)]).bind fun a3=>
 some a3) a_.2.2.2.length 0 ([]:List (Int×Int))).bind fun (s1:List (Int×Int))=>
 (xG a_.2.2.1).bind fun y1=>
 (xN a_.1 b_.1).bind fun y2=>
 (rJ b_.2.2.2 y2).bind fun y3=>
 (oY (y0.1,y0.2.1,y1,y3) s1).bind fun y4=>
 some (y4.1.1,y4.1.2.1,y4.1.2.2.1,y4.1.2.2.2)
def jH (lists_:List (List Int)):Option (List Int):=
 (forS (fun (k5:Nat) (s0:List Int)=>
 (idxO lists_ ((k5:Nat):Int)).bind fun a0=>
 (tA s0 a0).bind fun a1=>
 some a1) lists_.length 0 ([]:List Int)).bind fun (s1:List Int)=>
 some s1
def nP (a_:Int×(List (Int×Int×List Int×List Int))×List Int×List Int) (b_:Int×(List (Int×Int×List Int×List Int))×List Int×List Int):Option (Int×(List (Int×Int×List Int×List Int))×List Int×List Int):=
 (zS (a_.1,a_.2.1,a_.2.2.1,a_.2.2.2) (b_.1,b_.2.1,b_.2.2.1,b_.2.2.2)).bind fun y0=>
 (xN a_.1 b_.1).bind fun y1=>
 (rJ b_.2.2.1 y1).bind fun y2=>
 (jH [a_.2.2.1,y2]).bind fun y3=>
 (rJ b_.2.2.2 y1).bind fun y4=>
 (jH [a_.2.2.2,y4]).bind fun y5=>
 some (y0.1,y0.2.1,y3,y5)
def dY (n_:Int):Option (Int×(List (Int×Int×List Int×List Int))×List Int×List Int):=
 (uJ n_).bind fun y4=>
 (uJ n_).bind fun y9=>
 some (n_,[],y4,y9)
def oP (n_:Int×Int×ByteArray):Option (Int×(List (Int×Int×List Int×List Int))×List Int×List Int):=
 (some (decide (n_.1=1))).bind fun a7=>
 cond a7
 ((dY n_.2.1).bind fun y0=>
 some (y0.1,y0.2.1,y0.2.2.1,y0.2.2.2))
 ((some (decide (n_.1=2))).bind fun a0=>
 cond a0
 (some (2,[],[0,1],[1,0]))
 ((yL n_.1).bind fun y1=>
 (uJ y1.1).bind fun y2=>
 (xN y1.1 y1.2).bind fun y3=>
 ((qA y1.1 y1.2).bind fun a1=>
 (xG y2).bind fun y4=>
 (xG y3).bind fun y5=>
 some (a1,[(n_.1,n_.2.1,y2,y3)],y4,y5)).bind fun (s0:Int×(List (Int×Int×List Int×List Int))×List Int×List Int)=>
 some (s0.1,s0.2.1,s0.2.2.1,s0.2.2.2)))
def bT (e_:Int×Int×List Int×List Int):Option Bool:=
 ((iN e_.1).bind fun y0=>
 (some (!y0)).bind fun a0=>
 cond a0
 (some true)
 ((fP e_.1 e_.2.1).bind fun y1=>
 (some (!y1)).bind fun a1=>
 some a1)).bind fun (s0:Bool)=>
 cond s0
 (some false)
 ((yL e_.1).bind fun y2=>
 (some (decide (([y2.1,y2.2]:List Int)=[((e_.2.2.1.length:Nat):Int),((e_.2.2.2.length:Nat):Int)]))).bind fun a2=>
 some a2)
def kJ (list_:List Int) (c0_:Int×(List (Int×Int×List Int×List Int))×List Int×List Int) (c1_:Bool) (c2_:List Bool) (c3_:Int):Option (Bool×List Bool×Int):=
 (forS (fun (k0:Nat) (s0:Bool×Int×List Bool)=>
 ((idxO list_ ((k0:Nat):Int)).bind fun a0=>
 (subO c0_.1 1).bind fun a1=>
 (uG a0 0 a1).bind fun y0=>
 (some (!y0)).bind fun a2=>
 cond a2
 (some (false,s0.2.1,s0.2.2))
 ((idxO s0.2.2 a0).bind fun a3=>
 (some (!a3)).bind fun a4=>
 cond a4
 ((setO s0.2.2 a0 true).bind fun a5=>
 (qA s0.2.1 1).bind fun a6=>
 some (s0.1,a6,a5))
 (some (s0.1,s0.2.1,s0.2.2)))).bind fun (s1:Bool×Int×List Bool)=>
 some (s1.1,s1.2.1,s1.2.2)) list_.length 0 (c1_,c3_,c2_)).bind fun (s2:Bool×Int×List Bool)=>
 some (s2.1,s2.2.2,s2.2.1)
def sS (g_:Int×(List (Int×Int×List Int×List Int))×List Int×List Int) (d0_:Int×(List (Int×Int×List Int×List Int))×List Int×List Int) (d1_:Bool) (d2_:List Bool) (d3_:Int):Option (Bool×List Bool×Int):=
 (kJ g_.2.2.1 (d0_.1,d0_.2.1,d0_.2.2.1,d0_.2.2.2) d1_ d2_ d3_).bind fun y0=>
 (kJ g_.2.2.2 (d0_.1,d0_.2.1,d0_.2.2.1,d0_.2.2.2) y0.1 y0.2.1 y0.2.2).bind fun y1=>
 (forS (fun (k0:Nat) (s0:Int×Bool×List Bool)=>
 (idxO g_.2.1 ((k0:Nat):Int)).bind fun a0=>
 (kJ a0.2.2.1 (d0_.1,d0_.2.1,d0_.2.2.1,d0_.2.2.2) s0.2.1 s0.2.2 s0.1).bind fun y2=>
 (kJ a0.2.2.2 (d0_.1,d0_.2.1,d0_.2.2.1,d0_.2.2.2) y2.1 y2.2.1 y2.2.2).bind fun y3=>
 some (y3.2.2,y3.1,y3.2.1)) g_.2.1.length 0 (y1.2.2,y1.1,y1.2.1)).bind fun (s1:Int×Bool×List Bool)=>
 some (s1.2.1,s1.2.2,s1.1)
def lJ (g_:Int×(List (Int×Int×List Int×List Int))×List Int×List Int):Option Bool:=
 ((uG g_.1 0 100).bind fun y0=>
 (some (!y0)).bind fun a0=>
 cond a0
 (some true)
 ((some (decide ((60:Int)<((g_.2.1.length:Nat):Int)))).bind fun a1=>
 cond a1
 (some true)
 ((some (decide ((12:Int)<((g_.2.2.1.length:Nat):Int)))).bind fun a2=>
 cond a2
 (some true)
 ((some (decide ((12:Int)<((g_.2.2.2.length:Nat):Int)))).bind fun a3=>
 some a3)))).bind fun (s0:Bool)=>
 cond s0
 (some false)
 (fC (nC (fun (k0:Nat) (_:Unit)=>
 (idxO g_.2.1 ((k0:Nat):Int)).bind fun a4=>
 (bT (a4.1,a4.2.1,a4.2.2.1,a4.2.2.2)).bind fun y1=>
 (some (!y1)).bind fun a5=>
 cond a5
 (some (.inr false))
 (some (.inl ()))) g_.2.1.length 0 ()) fun (_:Unit)=>
 (nD g_.1 (false:Bool)).bind fun a6=>
 (sS (g_.1,g_.2.1,g_.2.2.1,g_.2.2.2) (g_.1,g_.2.1,g_.2.2.1,g_.2.2.2) true a6 0).bind fun y2=>
 (cond y2.1
 ((some (decide (y2.2.2=g_.1))).bind fun a7=>
 some (true,a7))
 (some (false,false))).bind fun (s1:Bool×Bool)=>
 some s1.2)
def nN (t_:(List (Int×Int×ByteArray))):Option ((Int×(List (Int×Int×List Int×List Int))×List Int×List Int)×Bool):=
 fC (nC (fun (k0:Nat) (s0:List (Int×(List (Int×Int×List Int×List Int))×List Int×List Int))=>
 (idxO t_ ((k0:Nat):Int)).bind fun a0=>
 (subO ((s0.length:Nat):Int) 1).bind fun a1=>
 (some (decide (a0.1=15))).bind fun a2=>
 cond a2
 ((subO a1 1).bind fun a3=>
 (idxO s0 a3).bind fun a4=>
 (idxO s0 a1).bind fun a5=>
 (mP (a4.1,a4.2.1,a4.2.2.1,a4.2.2.2) (a5.1,a5.2.1,a5.2.2.1,a5.2.2.2)).bind fun y0=>
 (subO a1 1).bind fun a6=>
 (aB s0 0 a6).bind fun a7=>
 (lJ (y0.1,y0.2.1,y0.2.2.1,y0.2.2.2)).bind fun y1=>
 (some (!y1)).bind fun a8=>
 cond a8
 (some (.inr ((0,[],[],[]),false)))
 ((tA a7 [(y0.1,y0.2.1,y0.2.2.1,y0.2.2.2)]).bind fun a9=>
 some (.inl a9)))
 ((some (decide (a0.1=16))).bind fun a10=>
 cond a10
 ((subO a1 1).bind fun a11=>
 (idxO s0 a11).bind fun a12=>
 (idxO s0 a1).bind fun a13=>
 (nP (a12.1,a12.2.1,a12.2.2.1,a12.2.2.2) (a13.1,a13.2.1,a13.2.2.1,a13.2.2.2)).bind fun y2=>
 (subO a1 1).bind fun a14=>
 (aB s0 0 a14).bind fun a15=>
 (lJ (y2.1,y2.2.1,y2.2.2.1,y2.2.2.2)).bind fun y3=>
 (some (!y3)).bind fun a16=>
 cond a16
 (some (.inr ((0,[],[],[]),false)))
 ((tA a15 [(y2.1,y2.2.1,y2.2.2.1,y2.2.2.2)]).bind fun a17=>
 some (.inl a17)))
 ((oP (a0.1,a0.2.1,a0.2.2)).bind fun y4=>
 (lJ (y4.1,y4.2.1,y4.2.2.1,y4.2.2.2)).bind fun y5=>
 (some (!y5)).bind fun a18=>
 cond a18
 (some (.inr ((0,[],[],[]),false)))
 ((tA s0 [(y4.1,y4.2.1,y4.2.2.1,y4.2.2.2)]).bind fun a19=>
 some (.inl a19))))) t_.length 0 ([]:List (Int×(List (Int×Int×List Int×List Int))×List Int×List Int))) fun (s1:List (Int×(List (Int×Int×List Int×List Int))×List Int×List Int))=>
 (idxO s1 0).bind fun a20=>
 some ((a20.1,a20.2.1,a20.2.2.1,a20.2.2.2),true)
def Ae_ (r_:ByteArray×(List (Int×Int×ByteArray))×(List (Int×Int×ByteArray))):Option Bool:=
 (kP r_.2.1).bind fun y6=>
 (kP r_.2.2).bind fun y0=>
 ((some (!y6.2)).bind fun a0=>
 cond a0
 (some true)
 ((some (!y0.2)).bind fun a1=>
 cond a1
 (some true)
 ((some (!decide (([y6.1.1,y6.1.2]:List Int)=[y0.1.1,y0.1.2]))).bind fun a2=>
 cond a2
 (some true)
 ((eU r_.1).bind fun y1=>
 (some (!y1)).bind fun a3=>
 some a3)))).bind fun (s0:Bool)=>
 cond s0
 (some false)
 ((nN r_.2.1).bind fun y2=>
 (nN r_.2.2).bind fun y3=>
 (cond y2.2
 (some y3.2)
 (some false)).bind fun (s1:Bool)=>
 some s1)
def qT (p_:Int):Option Bool:=
 ((some (decide (p_<2))).bind fun a0=>
 cond a0
 (some true)
 ((some (decide ((97:Int)<p_))).bind fun a1=>
 some a1)).bind fun (s8:Bool)=>
 cond s8
 (some false)
 ((cI 4).bind fun _=>
 fC (nC (fun (k0:Nat) (_:Unit)=>
 (idxO [2,3,5,7] ((k0:Nat):Int)).bind fun a2=>
 ((tD p_ a2).bind fun a3=>
 (some (decide (a3=0))).bind fun a4=>
 cond a4
 ((some (!decide (p_=a2))).bind fun a5=>
 some a5)
 (some false)).bind fun (s0:Bool)=>
 cond s0
 (some (.inr false))
 (some (.inl ()))) ((4:Int).toNat) 0 ()) fun (_:Unit)=>
 some true)
def fY (t_:(List (Int×Int×ByteArray))):Option Bool:=
 (kP t_).bind fun y5=>
 some y5.2
def iP (t_:(List (Int×Int×ByteArray))) (p_:Int):Option Bool:=
 ((qT p_).bind fun y0=>
 (some (!y0)).bind fun a0=>
 cond a0
 (some true)
 ((fY t_).bind fun y1=>
 (some (!y1)).bind fun a1=>
 some a1)).bind fun (s0:Bool)=>
 cond s0
 (some false)
 (fC (nC (fun (k0:Nat) (_:Unit)=>
 (idxO t_ ((k0:Nat):Int)).bind fun a2=>
 ((lN a2.1).bind fun y2=>
 cond y2
 ((some (decide (p_≤a2.2.1))).bind fun a3=>
 some a3)
 (some false)).bind fun (s1:Bool)=>
 cond s1
 (some (.inr false))
 (some (.inl ()))) t_.length 0 ()) fun (_:Unit)=>
 some true)
def Af_ (p_:Int) (r_:ByteArray×(List (Int×Int×ByteArray))×(List (Int×Int×ByteArray))):Option Bool:=
 ((Ae_ (r_.1,r_.2.1,r_.2.2)).bind fun y0=>
 cond y0
 ((iP r_.2.1 p_).bind fun y1=>
 cond y1
 ((iP r_.2.2 p_).bind fun y2=>
 some y2)
 (some false))
 (some false)).bind fun (s0:Bool)=>
 some s0
def rT (kind_:Int):Option Bool:=
 ((some (decide (kind_=8))).bind fun a0=>
 cond a0
 (some true)
 ((some (decide (kind_=14))).bind fun a1=>
 some a1)).bind fun (s7:Bool)=>
 some s7
def vS (t_:(List (Int×Int×ByteArray))) (p_:Int):Option Bool:=
 (iP t_ p_).bind fun y6=>
 (some (!y6)).bind fun a9=>
 cond a9
 (some false)
 (fC (nC (fun (k0:Nat) (_:Unit)=>
 (idxO t_ ((k0:Nat):Int)).bind fun a0=>
 (rT a0.1).bind fun y0=>
 cond y0
 (some (.inr false))
 (some (.inl ()))) t_.length 0 ()) fun (_:Unit)=>
 some true)
def pK (r_:Int×Int×List (List Int)) (row_:List Int):Option (List Int):=
 (aB row_ r_.1 ((row_.length:Nat):Int)).bind fun a6=>
 some a6
def qK (r_:Int×Int×List (List Int)) (row_:List Int):Option (List Int):=
 (aB row_ 0 r_.1).bind fun a6=>
 some a6
def zN (p_:Int) (a_:Int):Option Int:=
 (tD a_ p_).bind fun a1=>
 (some (decide (a1<0))).bind fun a3=>
 cond a3
 ((qA a1 p_).bind fun a7=>
 some a7)
 (some a1)
def gH (p_:Int) (v_:List Int) (by_:Int) (w_:List Int):Option (List Int):=
 (forS (fun (k3:Nat) (s0:List Int)=>
 (idxO w_ ((k3:Nat):Int)).bind fun a0=>
 (idxO s0 ((k3:Nat):Int)).bind fun a1=>
 (vF by_ a0).bind fun a2=>
 (qA a1 a2).bind fun a3=>
 (zN p_ a3).bind fun y0=>
 (setO s0 ((k3:Nat):Int) y0).bind fun a4=>
 some a4) w_.length 0 v_).bind fun (s1:List Int)=>
 some s1
def fU (list_:List (List Int)):Option (List (List Int)):=
 (fK 0 ((list_.length:Nat):Int) ([]:List Int)).bind fun a2=>
 (forS (fun (k7:Nat) (s0:List (List Int))=>
 (idxO list_ ((k7:Nat):Int)).bind fun a0=>
 (xG a0).bind fun y0=>
 (tA s0 [y0]).bind fun a1=>
 some a1) list_.length 0 a2).bind fun (s1:List (List Int))=>
 some s1
def mM (n_:Int) (at_:Int):Option (List Int):=
 (wG n_).bind fun y1=>
 (setO y1 at_ 1).bind fun a0=>
 some a0
def eY (n_:Int):Option (List (List Int)):=
 (cI n_).bind fun _=>
 (forS (fun (k4:Nat) (s0:List (List Int))=>
 (mM n_ ((k4:Nat):Int)).bind fun y0=>
 (tA s0 [y0]).bind fun a0=>
 some a0) n_.toNat 0 ([]:List (List Int))).bind fun (s1:List (List Int))=>
 some s1
def Di_ (yes_:Bool):Option Int:=
 cond yes_
 (some 1)
 (some 0)
def CP_ (p_:Int) (a_:Int) (n_:Int):Option Int:=
 (tD 1 p_).bind fun a1=>
 (zB (fun (s0:Int×Int×Int)=>
 (some (decide ((0:Int)<s0.2.1))).bind fun a0=>
 cond a0
 (((tD s0.2.1 2).bind fun a2=>
 (some (decide (a2=1))).bind fun a3=>
 cond a3
 ((vF s0.2.2 s0.1).bind fun a4=>
 (tD a4 p_).bind fun a5=>
 some a5)
 (some s0.2.2)).bind fun (s1:Int)=>
 (vF s0.1 s0.1).bind fun a6=>
 (tD a6 p_).bind fun a7=>
 (tL s0.2.1 2).bind fun a8=>
 some (.inl (a7,a8,s1)))
 (some (.inr s0.2.2))) (a_,n_,a1)).bind fun (s2:Int)=>
 some s2
def jZ (p_:Int) (a_:Int):Option Int:=
 (subO p_ 2).bind fun a1=>
 (some (decide (p_=2))).bind fun a3=>
 (Di_ a3).bind fun y5=>
 (qA a1 y5).bind fun a8=>
 (CP_ p_ a_ a8).bind fun y0=>
 some y0
def eN (o_:Int×Int×Int×Int) (p_:Int) (rows_:List (List Int)):Option (List (List Int)):=
 (some (decide (o_.1=0))).bind fun a5=>
 cond a5
 ((idxO rows_ o_.2.2.1).bind fun a0=>
 (idxO rows_ o_.2.1).bind fun a1=>
 (cN rows_ o_.2.1 o_.2.2.1).bind fun a2=>
 some a2)
 ((some (decide (o_.1=1))).bind fun a8=>
 cond a8
 ((jZ p_ o_.2.2.2).bind fun y0=>
 (idxO rows_ o_.2.1).bind fun a3=>
 (forS (fun (k0:Nat) (s0:List Int)=>
 (idxO s0 ((k0:Nat):Int)).bind fun a4=>
 (vF a4 y0).bind fun a6=>
 (tD a6 p_).bind fun a7=>
 (setO s0 ((k0:Nat):Int) a7).bind fun a9=>
 some a9) a3.length 0 a3).bind fun (s1:List Int)=>
 (setO rows_ o_.2.1 s1).bind fun a10=>
 some a10)
 ((some (decide (o_.1=2))).bind fun a12=>
 cond a12
 ((idxO rows_ o_.2.1).bind fun a13=>
 (negO o_.2.2.2).bind fun a14=>
 (idxO rows_ o_.2.2.1).bind fun a15=>
 (gH p_ a13 a14 a15).bind fun y1=>
 (neqO o_.2.1 o_.2.2.1).bind fun _=>
 (setO rows_ o_.2.1 y1).bind fun a16=>
 some a16)
 (some rows_)))
def xH (o_:Int×Int×Int×Int) (c0_:Int) (c1_:List (List Int)) (c2_:List (List Int)):Option (List (List Int)×List (List Int)):=
 (some (decide (([o_.1,o_.2.1,o_.2.2.1,o_.2.2.2]:List Int)=[0,o_.2.1,o_.2.1,0]))).bind fun a9=>
 cond a9
 (some (c1_,c2_))
 ((eN (o_.1,o_.2.1,o_.2.2.1,o_.2.2.2) c0_ c1_).bind fun y0=>
 (eN (o_.1,o_.2.1,o_.2.2.1,o_.2.2.2) c0_ c2_).bind fun y1=>
 some (y0,y1))
def gT (p_:Int) (rows_:List (List Int)) (n_:Int) (also_:List (List Int)):Option (List (List Int)×List (List Int)×Int):=
 (zB (fun (s0:List (List Int)×List (List Int)×Int×Int)=>
 ((some (decide (s0.2.2.1<n_))).bind fun a0=>
 cond a0
 ((some (decide (s0.2.2.2<((s0.1.length:Nat):Int)))).bind fun a1=>
 some a1)
 (some false)).bind fun (s1:Bool)=>
 cond s1
 (((zB (fun (s2:Int)=>
 ((some (decide (s2<((s0.1.length:Nat):Int)))).bind fun a2=>
 cond a2
 ((idxO s0.1 s2).bind fun a3=>
 (idxO a3 s0.2.2.1).bind fun a4=>
 (some (decide (a4=0))).bind fun a5=>
 some a5)
 (some false)).bind fun (s3:Bool)=>
 cond s3
 ((qA s2 1).bind fun a6=>
 some (.inl a6))
 (some (.inr s2))) s0.2.2.2).bind fun (s4:Int)=>
 (some (decide (s4=((s0.1.length:Nat):Int)))).bind fun a7=>
 cond a7
 (some (s0.1,s0.2.1,s0.2.2.2))
 ((xH (0,s0.2.2.2,s4,0) p_ s0.1 s0.2.1).bind fun y0=>
 (idxO y0.1 s0.2.2.2).bind fun a8=>
 (idxO a8 s0.2.2.1).bind fun a9=>
 (xH (1,s0.2.2.2,0,a9) p_ y0.1 y0.2).bind fun y1=>
 (forS (fun (k0:Nat) (s5:List (List Int)×List (List Int))=>
 ((some (!decide (((k0:Nat):Int)=s0.2.2.2))).bind fun a10=>
 cond a10
 ((idxO s5.1 ((k0:Nat):Int)).bind fun a11=>
 (idxO a11 s0.2.2.1).bind fun a12=>
 (some (!decide (a12=0))).bind fun a13=>
 some a13)
 (some false)).bind fun (s6:Bool)=>
 cond s6
 ((idxO s5.1 ((k0:Nat):Int)).bind fun a14=>
 (idxO a14 s0.2.2.1).bind fun a15=>
 (xH (2,((k0:Nat):Int),s0.2.2.2,a15) p_ s5.1 s5.2).bind fun y2=>
 some (y2.1,y2.2))
 (some (s5.1,s5.2))) y1.1.length 0 (y1.1,y1.2)).bind fun (s7:List (List Int)×List (List Int))=>
 (qA s0.2.2.2 1).bind fun a16=>
 some (s7.1,s7.2,a16))).bind fun (s8:List (List Int)×List (List Int)×Int)=>
 (qA s0.2.2.1 1).bind fun a17=>
 some (.inl (s8.1,s8.2.1,a17,s8.2.2)))
 (some (.inr (s0.1,s0.2.1,s0.2.2.2)))) (rows_,also_,0,0)).bind fun (s9:List (List Int)×List (List Int)×Int)=>
 some (s9.1,s9.2.1,s9.2.2)
def oT (p_:Int) (rows_:List (List Int)) (n_:Int):Option (List (List Int)):=
 (fU rows_).bind fun y2=>
 (nD ((y2.length:Nat):Int) ([]:List Int)).bind fun a7=>
 (gT p_ y2 n_ a7).bind fun y0=>
 (aB y0.1 0 y0.2.2).bind fun a0=>
 some a0
def Ac_ (p_:Int) (rows_:List (List Int)) (n_:Int):Option (List (List Int)):=
 (fU rows_).bind fun y2=>
 (eY ((rows_.length:Nat):Int)).bind fun y7=>
 (gT p_ y2 n_ y7).bind fun y0=>
 (aB y0.2.1 y0.2.2 ((y0.2.1.length:Nat):Int)).bind fun a0=>
 (oT p_ a0 ((rows_.length:Nat):Int)).bind fun y1=>
 some y1
def oN (p_:Int) (x_:List Int) (rows_:List (List Int)) (n_:Int):Option (List Int):=
 (wG n_).bind fun y3=>
 (forS (fun (k8:Nat) (s0:List Int)=>
 (idxO rows_ ((k8:Nat):Int)).bind fun a0=>
 (idxO x_ ((k8:Nat):Int)).bind fun a1=>
 (gH p_ s0 a1 a0).bind fun y0=>
 some y0) rows_.length 0 y3).bind fun (s1:List Int)=>
 some s1
def vK (p_:Int) (left_:Int) (right_:Int) (rows_:List (List Int)):Option (Int×Int×List (List Int)):=
 (qA left_ right_).bind fun a5=>
 (oT p_ rows_ a5).bind fun y7=>
 some (left_,right_,y7)
def pS (r_:Int×Int×List (List Int)) (d0_:Int×Int×List (List Int)):Option (List (List Int)):=
 (forS (fun (k9:Nat) (s0:List (List Int))=>
 (idxO r_.2.2 ((k9:Nat):Int)).bind fun a0=>
 (pK (d0_.1,d0_.2.1,d0_.2.2) a0).bind fun y0=>
 (tA s0 [y0]).bind fun a1=>
 some a1) r_.2.2.length 0 ([]:List (List Int))).bind fun (s1:List (List Int))=>
 some s1
def rS (r_:Int×Int×List (List Int)) (d0_:Int×Int×List (List Int)):Option (List (List Int)):=
 (forS (fun (k9:Nat) (s0:List (List Int))=>
 (idxO r_.2.2 ((k9:Nat):Int)).bind fun a0=>
 (qK (d0_.1,d0_.2.1,d0_.2.2) a0).bind fun y0=>
 (tA s0 [y0]).bind fun a1=>
 some a1) r_.2.2.length 0 ([]:List (List Int))).bind fun (s1:List (List Int))=>
 some s1
def tP (p_:Int) (a_:Int×Int×List (List Int)) (b_:Int×Int×List (List Int)):Option (Int×Int×List (List Int)):=
 (pS (a_.1,a_.2.1,a_.2.2) (a_.1,a_.2.1,a_.2.2)).bind fun y0=>
 (rS (b_.1,b_.2.1,b_.2.2) (b_.1,b_.2.1,b_.2.2)).bind fun y1=>
 (forS (fun (k0:Nat) (s0:List (List Int))=>
 (idxO y1 ((k0:Nat):Int)).bind fun a0=>
 (wG ((a0.length:Nat):Int)).bind fun y2=>
 (gH p_ y2 (-1) a0).bind fun y3=>
 (tA s0 [y3]).bind fun a1=>
 some a1) y1.length 0 y0).bind fun (s1:List (List Int))=>
 ((rS (a_.1,a_.2.1,a_.2.2) (a_.1,a_.2.1,a_.2.2)).bind fun y4=>
 (pS (b_.1,b_.2.1,b_.2.2) (b_.1,b_.2.1,b_.2.2)).bind fun y5=>
 some (y4,y5)).bind fun (s2:List (List Int)×List (List Int))=>
 (Ac_ p_ s1 a_.2.1).bind fun y6=>
 (forS (fun (k1:Nat) (s3:List (List Int))=>
 (idxO y6 ((k1:Nat):Int)).bind fun a2=>
 (aB a2 0 ((s2.1.length:Nat):Int)).bind fun a3=>
 (oN p_ a3 s2.1 a_.1).bind fun y7=>
 (aB a2 ((s2.1.length:Nat):Int) ((a2.length:Nat):Int)).bind fun a4=>
 (oN p_ a4 s2.2 b_.2.1).bind fun y8=>
 (jH [y7,y8]).bind fun y9=>
 (tA s3 [y9]).bind fun a5=>
 some a5) y6.length 0 ([]:List (List Int))).bind fun (s4:List (List Int))=>
 (vK p_ a_.1 b_.2.1 s4).bind fun y10=>
 some (y10.1,y10.2.1,y10.2.2)
def Ck_ (row_:List Int) (c0_:Int×Int×List (List Int)) (c1_:Int×Int×List (List Int)):Option (List Int):=
 (qK (c0_.1,c0_.2.1,c0_.2.2) row_).bind fun y7=>
 (wG c1_.1).bind fun y0=>
 (pK (c0_.1,c0_.2.1,c0_.2.2) row_).bind fun y1=>
 (wG c1_.2.1).bind fun y2=>
 (jH [y7,y0,y1,y2]).bind fun y3=>
 some y3
def aY (r_:Int×Int×List (List Int)) (d0_:Int×Int×List (List Int)) (d1_:Int×Int×List (List Int)):Option (List (List Int)):=
 (forS (fun (k0:Nat) (s0:List (List Int))=>
 (idxO r_.2.2 ((k0:Nat):Int)).bind fun a0=>
 (Ck_ a0 (d0_.1,d0_.2.1,d0_.2.2) (d1_.1,d1_.2.1,d1_.2.2)).bind fun y0=>
 (tA s0 [y0]).bind fun a1=>
 some a1) r_.2.2.length 0 ([]:List (List Int))).bind fun (s1:List (List Int))=>
 some s1
def Cj_ (row_:List Int) (c0_:Int×Int×List (List Int)) (c1_:Int×Int×List (List Int)):Option (List Int):=
 (wG c0_.1).bind fun y7=>
 (qK (c1_.1,c1_.2.1,c1_.2.2) row_).bind fun y0=>
 (wG c0_.2.1).bind fun y1=>
 (pK (c1_.1,c1_.2.1,c1_.2.2) row_).bind fun y2=>
 (jH [y7,y0,y1,y2]).bind fun y3=>
 some y3
def zX (r_:Int×Int×List (List Int)) (d0_:Int×Int×List (List Int)) (d1_:Int×Int×List (List Int)):Option (List (List Int)):=
 (forS (fun (k0:Nat) (s0:List (List Int))=>
 (idxO r_.2.2 ((k0:Nat):Int)).bind fun a0=>
 (Cj_ a0 (d0_.1,d0_.2.1,d0_.2.2) (d1_.1,d1_.2.1,d1_.2.2)).bind fun y0=>
 (tA s0 [y0]).bind fun a1=>
 some a1) r_.2.2.length 0 ([]:List (List Int))).bind fun (s1:List (List Int))=>
 some s1
def fQ (p_:Int) (a_:Int×Int×List (List Int)) (b_:Int×Int×List (List Int)):Option (Int×Int×List (List Int)):=
 (aY (a_.1,a_.2.1,a_.2.2) (a_.1,a_.2.1,a_.2.2) (b_.1,b_.2.1,b_.2.2)).bind fun y0=>
 (zX (b_.1,b_.2.1,b_.2.2) (a_.1,a_.2.1,a_.2.2) (b_.1,b_.2.1,b_.2.2)).bind fun y1=>
 (tA y0 y1).bind fun a0=>
 (qA a_.1 b_.1).bind fun a1=>
 (qA a_.2.1 b_.2.1).bind fun a2=>
 (vK p_ a1 a2 a0).bind fun y2=>
 some (y2.1,y2.2.1,y2.2.2)
def B0_ (n_:Int):Option (Int×Int×List (List Int)):=
 (cI n_).bind fun _=>
 (forS (fun (k8:Nat) (s0:List (List Int))=>
 (mM n_ ((k8:Nat):Int)).bind fun y0=>
 (mM n_ ((k8:Nat):Int)).bind fun y1=>
 (jH [y0,y1]).bind fun y2=>
 (tA s0 [y2]).bind fun a0=>
 some a0) n_.toNat 0 []).bind fun (s1:List (List Int))=>
 some (n_,n_,s1)
def cT (kind_:Int):Option Int:=
 (uG kind_ 3 8).bind fun y1=>
 cond y1
 ((qA kind_ 9).bind fun a0=>
 (subO a0 3).bind fun a1=>
 some a1)
 ((uG kind_ 9 14).bind fun y5=>
 cond y5
 ((subO kind_ 9).bind fun a2=>
 (qA a2 3).bind fun a3=>
 some a3)
 (some kind_))
def uS (kind_:Int) (value_:Int):Option (List (List Int)):=
 (some (decide (kind_=3))).bind fun a1=>
 cond a1
 (some [[1,1,1]])
 ((some (decide (kind_=4))).bind fun a4=>
 cond a4
 (some [[1]])
 ((some (decide (kind_=5))).bind fun a7=>
 cond a7
 (some [[1,0,1],[0,1,1]])
 ((some (decide (kind_=7))).bind fun a0=>
 cond a0
 (some [[1,value_]])
 (some []))))
def B9_ (row_:List Int) (c0_:Int×Int×List (List Int)):Option (List Int):=
 (pK (c0_.1,c0_.2.1,c0_.2.2) row_).bind fun y5=>
 (qK (c0_.1,c0_.2.1,c0_.2.2) row_).bind fun y0=>
 (jH [y5,y0]).bind fun y1=>
 some y1
def xX (r_:Int×Int×List (List Int)) (d0_:Int×Int×List (List Int)):Option (List (List Int)):=
 (forS (fun (k0:Nat) (s0:List (List Int))=>
 (idxO r_.2.2 ((k0:Nat):Int)).bind fun a0=>
 (B9_ a0 (d0_.1,d0_.2.1,d0_.2.2)).bind fun y0=>
 (tA s0 [y0]).bind fun a1=>
 some a1) r_.2.2.length 0 ([]:List (List Int))).bind fun (s1:List (List Int))=>
 some s1
def zY (p_:Int) (r_:Int×Int×List (List Int)):Option (Int×Int×List (List Int)):=
 (xX (r_.1,r_.2.1,r_.2.2) (r_.1,r_.2.1,r_.2.2)).bind fun y9=>
 (vK p_ r_.2.1 r_.1 y9).bind fun y0=>
 some (y0.1,y0.2.1,y0.2.2)
def zL (p_:Int) (n_:Int×Int×ByteArray):Option (Int×Int×List (List Int)):=
 (some (decide (n_.1=1))).bind fun a7=>
 cond a7
 ((B0_ n_.2.1).bind fun y0=>
 some (y0.1,y0.2.1,y0.2.2))
 ((some (decide (n_.1=2))).bind fun a0=>
 cond a0
 ((vK p_ 2 2 [[1,0,0,1],[0,1,1,0]]).bind fun y1=>
 some (y1.1,y1.2.1,y1.2.2))
 ((some (decide ((9:Int)≤n_.1))).bind fun a1=>
 cond a1
 ((cT n_.1).bind fun y2=>
 (yL y2).bind fun y3=>
 (cT n_.1).bind fun y4=>
 (uS y4 n_.2.1).bind fun y5=>
 (vK p_ y3.1 y3.2 y5).bind fun y6=>
 (zY p_ (y6.1,y6.2.1,y6.2.2)).bind fun y7=>
 some (y7.1,y7.2.1,y7.2.2))
 ((yL n_.1).bind fun y8=>
 (uS n_.1 n_.2.1).bind fun y9=>
 (vK p_ y8.1 y8.2 y9).bind fun y10=>
 some (y10.1,y10.2.1,y10.2.2))))
def tN (p_:Int) (t_:(List (Int×Int×ByteArray))):Option (Int×Int×List (List Int)):=
 (forS (fun (k0:Nat) (s0:List (Int×Int×List (List Int)))=>
 (idxO t_ ((k0:Nat):Int)).bind fun a0=>
 (subO ((s0.length:Nat):Int) 1).bind fun a1=>
 (some (decide (a0.1=15))).bind fun a2=>
 cond a2
 ((subO a1 1).bind fun a3=>
 (subO a1 1).bind fun a4=>
 (idxO s0 a4).bind fun a5=>
 (idxO s0 a1).bind fun a6=>
 (aB s0 0 a3).bind fun a7=>
 (tP p_ (a5.1,a5.2.1,a5.2.2) (a6.1,a6.2.1,a6.2.2)).bind fun y0=>
 (tA a7 [(y0.1,y0.2.1,y0.2.2)]).bind fun a8=>
 some a8)
 ((some (decide (a0.1=16))).bind fun a9=>
 cond a9
 ((subO a1 1).bind fun a10=>
 (subO a1 1).bind fun a11=>
 (idxO s0 a11).bind fun a12=>
 (idxO s0 a1).bind fun a13=>
 (aB s0 0 a10).bind fun a14=>
 (fQ p_ (a12.1,a12.2.1,a12.2.2) (a13.1,a13.2.1,a13.2.2)).bind fun y1=>
 (tA a14 [(y1.1,y1.2.1,y1.2.2)]).bind fun a15=>
 some a15)
 ((zL p_ (a0.1,a0.2.1,a0.2.2)).bind fun y2=>
 (tA s0 [(y2.1,y2.2.1,y2.2.2)]).bind fun a16=>
 some a16))) t_.length 0 ([]:List (Int×Int×List (List Int)))).bind fun (s1:List (Int×Int×List (List Int)))=>
 (idxO s1 0).bind fun a17=>
 some (a17.1,a17.2.1,a17.2.2)
def yY (p_:Int) (a_:(List (Int×Int×ByteArray))) (b_:(List (Int×Int×ByteArray))):Option ((Int×Int×List (List Int))×(Int×Int×List (List Int))×Bool):=
 ((vS a_ p_).bind fun y0=>
 (some (!y0)).bind fun a0=>
 cond a0
 (some true)
 ((vS b_ p_).bind fun y1=>
 (some (!y1)).bind fun a1=>
 some a1)).bind fun (s0:Bool)=>
 cond s0
 (some ((0,0,[]),(0,0,[]),false))
 (((tN p_ a_).bind fun y2=>
 (tN p_ b_).bind fun y3=>
 some (y3.1,y3.2.1,y3.2.2,y2.1,y2.2.1,y2.2.2)).bind fun (s1:Int×Int×List (List Int)×Int×Int×List (List Int))=>
 ((some (decide (s1.2.2.2.1=s1.1))).bind fun a2=>
 cond a2
 ((some (decide (s1.2.2.2.2.1=s1.2.1))).bind fun a3=>
 some (s1.2.2.2.1,s1.2.2.2.2.1,s1.2.2.2.2.2,s1.1,s1.2.1,s1.2.2.1,a3))
 (some (s1.2.2.2.1,s1.2.2.2.2.1,s1.2.2.2.2.2,s1.1,s1.2.1,s1.2.2.1,false))).bind fun (s2:Int×Int×List (List Int)×Int×Int×List (List Int)×Bool)=>
 some ((s2.1,s2.2.1,s2.2.2.1),(s2.2.2.2.1,s2.2.2.2.2.1,s2.2.2.2.2.2.1),s2.2.2.2.2.2.2))
def kZ (p_:Int) (r_:ByteArray×(List (Int×Int×ByteArray))×(List (Int×Int×ByteArray))):Option ((Int×Int×List (List Int))×(Int×Int×List (List Int))×Bool):=
 (Af_ p_ (r_.1,r_.2.1,r_.2.2)).bind fun y0=>
 (some (!y0)).bind fun a0=>
 cond a0
 (some ((0,0,[]),(0,0,[]),false))
 ((yY p_ r_.2.1 r_.2.2).bind fun y1=>
 some ((y1.1.1,y1.1.2.1,y1.1.2.2),(y1.2.1.1,y1.2.1.2.1,y1.2.1.2.2),y1.2.2))
def rQ (v_:List Int):Option Int:=
 fC (nC (fun (k2:Nat) (_:Unit)=>
 (idxO v_ ((k2:Nat):Int)).bind fun a0=>
 (some (!decide (a0=0))).bind fun a1=>
 cond a1
 (some (.inr ((k2:Nat):Int)))
 (some (.inl ()))) v_.length 0 ()) fun (_:Unit)=>
 some ((v_.length:Nat):Int)
def Ad_ (v_:List Int):Option Bool:=
 (rQ v_).bind fun y2=>
 (some (decide (y2=((v_.length:Nat):Int)))).bind fun a5=>
 some a5
def kY (p_:Int) (basis_:List (List Int)) (v_:List Int):Option (List Int×Bool):=
 (xG v_).bind fun y3=>
 (forS (fun (k0:Nat) (s0:List Int×List Int)=>
 (idxO basis_ ((k0:Nat):Int)).bind fun a0=>
 (rQ a0).bind fun y0=>
 (idxO s0.1 y0).bind fun a1=>
 (tA s0.2 [a1]).bind fun a2=>
 (negO a1).bind fun a3=>
 (gH p_ s0.1 a3 a0).bind fun y1=>
 some (y1,a2)) basis_.length 0 (y3,([]:List Int))).bind fun (s1:List Int×List Int)=>
 (Ad_ s1.1).bind fun y2=>
 some (s1.2,y2)
def sT (p_:Int) (r_:Int×Int×List (List Int)) (pair_:List Int):Option Bool:=
 (kY p_ r_.2.2 pair_).bind fun y6=>
 some y6.2
def pT (p_:Int) (a_:Int×Int×List (List Int)) (b_:Int×Int×List (List Int)):Option (List Int):=
 fC (nC (fun (k9:Nat) (_:Unit)=>
 (idxO b_.2.2 ((k9:Nat):Int)).bind fun a0=>
 (sT p_ (a_.1,a_.2.1,a_.2.2) a0).bind fun y0=>
 (some (!y0)).bind fun a1=>
 cond a1
 ((neO a0).bind fun _=>
 some (.inr a0))
 (some (.inl ()))) b_.2.2.length 0 ()) fun (_:Unit)=>
 some []
def aT (p_:Int) (r_:ByteArray×(List (Int×Int×ByteArray))×(List (Int×Int×ByteArray))):Option (List Int×List Int×Int×Bool):=
 (kZ p_ (r_.1,r_.2.1,r_.2.2)).bind fun y7=>
 (some (!y7.2.2)).bind fun a0=>
 cond a0
 (some ([],[],0,false))
 ((pT p_ (y7.2.1.1,y7.2.1.2.1,y7.2.1.2.2) (y7.1.1,y7.1.2.1,y7.1.2.2)).bind fun y0=>
 (some (!y0.isEmpty)).bind fun a1=>
 cond a1
 ((qK (y7.1.1,y7.1.2.1,y7.1.2.2) y0).bind fun y1=>
 (xG y1).bind fun y2=>
 (pK (y7.1.1,y7.1.2.1,y7.1.2.2) y0).bind fun y3=>
 (xG y3).bind fun y4=>
 some (y2,y4,1,true))
 ((pT p_ (y7.1.1,y7.1.2.1,y7.1.2.2) (y7.2.1.1,y7.2.1.2.1,y7.2.1.2.2)).bind fun y5=>
 (some (!y5.isEmpty)).bind fun a2=>
 cond a2
 ((qK (y7.2.1.1,y7.2.1.2.1,y7.2.1.2.2) y5).bind fun y6=>
 (xG y6).bind fun y8=>
 (pK (y7.2.1.1,y7.2.1.2.1,y7.2.1.2.2) y5).bind fun y9=>
 (xG y9).bind fun y10=>
 some (y8,y10,2,true))
 (some ([],[],0,false))))
def qJ (a_:List Int) (b_:List Int):Option Bool:=
 (some (!decide (((a_.length:Nat):Int)=((b_.length:Nat):Int)))).bind fun a3=>
 cond a3
 (some false)
 (fC (zB (fun (s0:Int)=>
 (some (decide (s0<((a_.length:Nat):Int)))).bind fun a0=>
 cond a0
 ((idxO a_ s0).bind fun a1=>
 (idxO b_ s0).bind fun a2=>
 (some (!decide (a1=a2))).bind fun a4=>
 cond a4
 (some (.inr (.inr false)))
 ((qA s0 1).bind fun a5=>
 some (.inl a5)))
 (some (.inr (.inl ())))) 0) fun (s1:Unit)=>
 some true)
def Aa_ (a_:Int×Int×ByteArray) (b_:Int×Int×ByteArray):Option Bool:=
 (some (!decide (a_.1=b_.1))).bind fun a7=>
 cond a7
 (some false)
 ((some (!decide (a_.2.1=b_.2.1))).bind fun a0=>
 cond a0
 (some false)
 ((some (!decide ((a_.2.2:ByteArray)=b_.2.2))).bind fun a1=>
 cond a1
 (some false)
 (some true)))
def iZ (a_:List (Int×Int×ByteArray)) (b_:List (Int×Int×ByteArray)):Option Bool:=
 (some (!decide (((a_.length:Nat):Int)=((b_.length:Nat):Int)))).bind fun a3=>
 cond a3
 (some false)
 (fC (zB (fun (s0:Int)=>
 (some (decide (s0<((a_.length:Nat):Int)))).bind fun a0=>
 cond a0
 ((idxO a_ s0).bind fun a1=>
 (idxO b_ s0).bind fun a2=>
 (Aa_ (a1.1,a1.2.1,a1.2.2) (a2.1,a2.2.1,a2.2.2)).bind fun y0=>
 (some (!y0)).bind fun a4=>
 cond a4
 (some (.inr (.inr false)))
 ((qA s0 1).bind fun a5=>
 some (.inl a5)))
 (some (.inr (.inl ())))) 0) fun (s1:Unit)=>
 some true)
def dU (a_:(List (Int×Int×ByteArray))) (b_:(List (Int×Int×ByteArray))):Option Bool:=
 (iZ a_ b_).bind fun y9=>
 (some (!y9)).bind fun a0=>
 cond a0
 (some false)
 (some true)
def zZ (a_:ByteArray×(List (Int×Int×ByteArray))×(List (Int×Int×ByteArray))) (b_:ByteArray×(List (Int×Int×ByteArray))×(List (Int×Int×ByteArray))):Option Bool:=
 (some (!decide ((a_.1:ByteArray)=b_.1))).bind fun a0=>
 cond a0
 (some false)
 ((dU a_.2.1 b_.2.1).bind fun y0=>
 (some (!y0)).bind fun a1=>
 cond a1
 (some false)
 ((dU a_.2.2 b_.2.2).bind fun y1=>
 (some (!y1)).bind fun a2=>
 cond a2
 (some false)
 (some true)))
def wY (k_:Int):Option ByteArray:=
 (some (decide (k_≤0))).bind fun a1=>
 cond a1
 (some ⟨#[109,48]⟩)
 ((zB (fun (s0:Int×ByteArray)=>
 (some (decide ((0:Int)<s0.1))).bind fun a0=>
 cond a0
 ((tD s0.1 10).bind fun a2=>
 (qA 48 a2).bind fun a3=>
 (some (a3 % 256)).bind fun a4=>
 (some (kO ([a4]:List By))).bind fun a5=>
 (catO a5 s0.2).bind fun a6=>
 (tL s0.1 10).bind fun a7=>
 some (.inl (a7,a6)))
 (some (.inr s0.2))) (k_,.empty)).bind fun (s1:ByteArray)=>
 (catO ⟨#[109]⟩ s1).bind fun a8=>
 some a8)
def pY (a_:List (Int×Int×ByteArray)) (k_:Int):Option ((List (Int×Int×ByteArray))×Int):=
 (zB (fun (s0:(List (Int×Int×ByteArray))×Int×Int)=>
 (some (decide (s0.2.2<((s0.1.length:Nat):Int)))).bind fun a0=>
 cond a0
 ((idxO s0.1 s0.2.2).bind fun a1=>
 (setO s0.1 s0.2.2 (s0.2.1,a1.2.1,a1.2.2)).bind fun a2=>
 (qA s0.2.1 1).bind fun a3=>
 (idxO a2 s0.2.2).bind fun a4=>
 (setO a2 s0.2.2 (a4.1,a3,a4.2.2)).bind fun a5=>
 (qA a3 1).bind fun a6=>
 (wY a6).bind fun y0=>
 (idxO a5 s0.2.2).bind fun a7=>
 (setO a5 s0.2.2 (a7.1,a7.2.1,y0)).bind fun a8=>
 (qA a6 1).bind fun a9=>
 (qA s0.2.2 1).bind fun a10=>
 some (.inl (a8,a9,a10)))
 (some (.inr (s0.1,s0.2.1)))) (a_,k_,0)).bind fun (s1:(List (Int×Int×ByteArray))×Int)=>
 some (s1.1,s1.2)
def mT (a_:(List (Int×Int×ByteArray))) (k_:Int):Option ((List (Int×Int×ByteArray))×Int):=
 (pY a_ k_).bind fun y5=>
 some (y5.1,y5.2)
def xY (a_:ByteArray×(List (Int×Int×ByteArray))×(List (Int×Int×ByteArray))) (k_:Int):Option ((ByteArray×(List (Int×Int×ByteArray))×(List (Int×Int×ByteArray)))×Int):=
 (mT a_.2.1 k_).bind fun y6=>
 (mT a_.2.2 y6.2).bind fun y9=>
 some ((a_.1,y6.1,y9.1),y9.2)
def kN (a_:List Int) (k_:Int):Option (List Int×Int):=
 (zB (fun (s0:List Int×Int×Int)=>
 (some (decide (s0.2.2<((s0.1.length:Nat):Int)))).bind fun a0=>
 cond a0
 ((setO s0.1 s0.2.2 s0.2.1).bind fun a1=>
 (qA s0.2.1 1).bind fun a2=>
 (qA s0.2.2 1).bind fun a3=>
 some (.inl (a1,a2,a3)))
 (some (.inr (s0.1,s0.2.1)))) (a_,k_,0)).bind fun (s1:List Int×Int)=>
 some (s1.1,s1.2)
def cM (a_:List Int) (k_:Int):Option Int:=
 fC (zB (fun (s0:Int×Int)=>
 (some (decide (s0.2<((a_.length:Nat):Int)))).bind fun a0=>
 cond a0
 ((idxO a_ s0.2).bind fun a1=>
 (some (!decide (a1=s0.1))).bind fun a2=>
 cond a2
 (some (.inr (.inr (-1))))
 ((qA s0.1 1).bind fun a3=>
 (qA s0.2 1).bind fun a4=>
 some (.inl (a3,a4))))
 (some (.inr (.inl s0.1)))) (k_,0)) fun (s1:Int)=>
 some s1
def BY_ (aP_:Int) (aR_:ByteArray×(List (Int×Int×ByteArray))×(List (Int×Int×ByteArray))):Option Bool:=
 (xZ (aR_.1,aR_.2.1,aR_.2.2) 1048576).bind fun y7=>
 (some (decide (y7<0))).bind fun a0=>
 cond a0
 (some true)
 ((sN (aR_.1,aR_.2.1,aR_.2.2)).bind fun y0=>
 (jY aP_ (y0.1,y0.2.1,y0.2.2)).bind fun y1=>
 (sN (aR_.1,aR_.2.1,aR_.2.2)).bind fun y2=>
 (aT aP_ (y2.1,y2.2.1,y2.2.2)).bind fun y3=>
 ((qJ y3.1 y1.1).bind fun y4=>
 (some (!y4)).bind fun a1=>
 cond a1
 (some true)
 ((qJ y3.2.1 y1.2.1).bind fun y5=>
 (some (!y5)).bind fun a2=>
 cond a2
 (some true)
 ((some (!decide (y3.2.2.1=y1.2.2.1))).bind fun a3=>
 cond a3
 (some true)
 ((some (!decide (y3.2.2.2=y1.2.2.2))).bind fun a4=>
 some a4)))).bind fun (s0:Bool)=>
 cond s0
 (some false)
 ((sN (aR_.1,aR_.2.1,aR_.2.2)).bind fun y6=>
 (zZ (y2.1,y2.2.1,y2.2.2) (y6.1,y6.2.1,y6.2.2)).bind fun y8=>
 (some (!y8)).bind fun a5=>
 cond a5
 (some false)
 ((xY (y2.1,y2.2.1,y2.2.2) 1).bind fun y9=>
 ((some (decide (y9.2<0))).bind fun a6=>
 cond a6
 (some true)
 ((qJ y3.1 y1.1).bind fun y10=>
 (some (!y10)).bind fun a7=>
 cond a7
 (some true)
 ((qJ y3.2.1 y1.2.1).bind fun y11=>
 (some (!y11)).bind fun a8=>
 cond a8
 (some true)
 ((some (!decide (y3.2.2.1=y1.2.2.1))).bind fun a9=>
 cond a9
 (some true)
 ((some (!decide (y3.2.2.2=y1.2.2.2))).bind fun a11=>
 some a11))))).bind fun (s1:Bool)=>
 cond s1
 (some false)
 ((kN y3.1 1).bind fun y12=>
 (kN y3.2.1 y12.2).bind fun y14=>
 (cM y12.1 1).bind fun y15=>
 (some (decide (y15<0))).bind fun a12=>
 cond a12
 (some false)
 ((cM y14.1 y15).bind fun y16=>
 (some (decide (y16<0))).bind fun a13=>
 cond a13
 (some false)
 ((some (!decide (y16=y14.2))).bind fun a14=>
 cond a14
 (some false)
 ((sN (aR_.1,aR_.2.1,aR_.2.2)).bind fun y17=>
 (aT aP_ (y17.1,y17.2.1,y17.2.2)).bind fun y18=>
 ((qJ y18.1 y1.1).bind fun y19=>
 (some (!y19)).bind fun a15=>
 cond a15
 (some true)
 ((qJ y18.2.1 y1.2.1).bind fun y21=>
 (some (!y21)).bind fun a16=>
 cond a16
 (some true)
 ((some (!decide (y18.2.2.1=y1.2.2.1))).bind fun a17=>
 cond a17
 (some true)
 ((some (!decide (y18.2.2.2=y1.2.2.2))).bind fun a18=>
 some a18)))).bind fun (s2:Bool)=>
 cond s2
 (some false)
 ((cM y12.1 1).bind fun y22=>
 (some (decide (y22<0))).bind fun a19=>
 cond a19
 (some false)
 ((cM y14.1 y22).bind fun y23=>
 (some (decide (y23<0))).bind fun a20=>
 cond a20
 (some false)
 ((some (!decide (y23=y14.2))).bind fun a21=>
 cond a21
 (some false)
 (some true)))))))))))
end
end Go.Proofs.YtlggnmkelgplnaaGreatDoor
