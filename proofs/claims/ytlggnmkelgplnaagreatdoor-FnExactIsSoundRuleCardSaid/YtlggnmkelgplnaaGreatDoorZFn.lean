/-
 Partial functions, printed by a program (wip/y/gen.py): what each function of Go computes, over plain data. No program in sight. No condition.
-/
import Derived.Test.YtlggnmkelgplnaaGreatDoorZF
namespace Go.Proofs.YtlggnmkelgplnaaGreatDoor
set_option linter.unusedVariables false
noncomputable section
def bY (a_:Int×Int×ByteArray) (left_:Int):Option Int:=
 (subO left_ ((a_.2.2.size:Nat):Int)).bind fun a4=>
 (some (decide (a4<0))).bind fun a6=>
 cond a6
 (some (-1))
 (some a4)
def jX (a_:List (Int×Int×ByteArray)) (left_:Int):Option Int:=
 (subO left_ ((a_.length:Nat):Int)).bind fun a2=>
 (some (decide (a2<0))).bind fun a4=>
 cond a4
 (some (-1))
 (eC (mC (fun (s0:Int×Int)=>
 (some (decide (s0.2<((a_.length:Nat):Int)))).bind fun a0=>
 cond a0
 ((idxO a_ s0.2).bind fun a1=>
 (bY (a1.1,a1.2.1,a1.2.2) s0.1).bind fun y0=>
 (some (decide (y0<0))).bind fun a3=>
 cond a3
 (some (.inr (.inr (-1))))
 ((sA s0.2 1).bind fun a5=>
 some (.inl (y0,a5))))
 (some (.inr (.inl s0.1)))) (a2,0)) fun (s1:Int)=>
 some s1)
def kS (a_:(List (Int×Int×ByteArray))) (left_:Int):Option Int:=
 (jX a_ left_).bind fun y5=>
 (some (decide (y5<0))).bind fun a8=>
 cond a8
 (some (-1))
 (some y5)
def aY (a_:ByteArray×(List (Int×Int×ByteArray))×(List (Int×Int×ByteArray))) (left_:Int):Option Int:=
 (subO left_ ((a_.1.size:Nat):Int)).bind fun a6=>
 (some (decide (a6<0))).bind fun a8=>
 cond a8
 (some (-1))
 ((kS a_.2.1 a6).bind fun y0=>
 (some (decide (y0<0))).bind fun a0=>
 cond a0
 (some (-1))
 ((kS a_.2.2 y0).bind fun y1=>
 (some (decide (y1<0))).bind fun a1=>
 cond a1
 (some (-1))
 (some y1)))
def zX (a_:Int×Int×ByteArray):Option (Int×Int×ByteArray):=
 some (a_.1,a_.2.1,a_.2.2)
def iX (a_:List (Int×Int×ByteArray)):Option (List (Int×Int×ByteArray)):=
 (mD ((a_.length:Nat):Int) ((0,0,.empty):Int×Int×ByteArray)).bind fun a2=>
 (mC (fun (s0:(List (Int×Int×ByteArray))×Int)=>
 (some (decide (s0.2<((a_.length:Nat):Int)))).bind fun a0=>
 cond a0
 ((idxO a_ s0.2).bind fun a1=>
 (zX (a1.1,a1.2.1,a1.2.2)).bind fun y0=>
 (setO s0.1 s0.2 (y0.1,y0.2.1,y0.2.2)).bind fun a3=>
 (sA s0.2 1).bind fun a4=>
 some (.inl (a3,a4)))
 (some (.inr s0.1))) (a2,0)).bind fun (s1:List (Int×Int×ByteArray))=>
 some s1
def jS (a_:(List (Int×Int×ByteArray))):Option (List (Int×Int×ByteArray)):=
 (iX a_).bind fun y0=>
 some y0
def cP (a_:ByteArray×(List (Int×Int×ByteArray))×(List (Int×Int×ByteArray))):Option (ByteArray×(List (Int×Int×ByteArray))×(List (Int×Int×ByteArray))):=
 (jS a_.2.1).bind fun y0=>
 (jS a_.2.2).bind fun y1=>
 some (a_.1,y0,y1)
def wG (n_:Int) (lo_:Int) (hi_:Int):Option Bool:=
 ((some (decide (lo_≤n_))).bind fun a0=>
 cond a0
 ((some (decide (n_≤hi_))).bind fun a1=>
 some a1)
 (some false)).bind fun (s7:Bool)=>
 some s7
def uG (n_:Int×Int×ByteArray):Option Bool:=
 ((some (!decide ((n_.2.2:ByteArray)=.empty))).bind fun a0=>
 cond a0
 (some true)
 ((wG n_.1 1 14).bind fun y0=>
 (some (!y0)).bind fun a1=>
 some a1)).bind fun (s0:Bool)=>
 cond s0
 (some false)
 ((some (decide (n_.1=1))).bind fun a2=>
 cond a2
 ((wG n_.2.1 0 12).bind fun y1=>
 some y1)
 (((some (decide (n_.1=7))).bind fun a3=>
 cond a3
 (some true)
 ((some (decide (n_.1=13))).bind fun a4=>
 some a4)).bind fun (s1:Bool)=>
 cond s1
 ((wG n_.2.1 0 96).bind fun y2=>
 some y2)
 ((some (decide (n_.2.1=0))).bind fun a5=>
 some a5)))
def pM (kind_:Int):Option (Int×Int):=
 (some (decide (kind_=2))).bind fun a1=>
 cond a1
 (some (2,2))
 (((some (decide (kind_=3))).bind fun a0=>
 cond a0
 (some true)
 ((some (decide (kind_=11))).bind fun a2=>
 some a2)).bind fun (s0:Bool)=>
 cond s0
 (some (1,2))
 (((some (decide (kind_=4))).bind fun a3=>
 cond a3
 (some true)
 ((some (decide (kind_=12))).bind fun a4=>
 some a4)).bind fun (s1:Bool)=>
 cond s1
 (some (1,0))
 (((some (decide (kind_=5))).bind fun a5=>
 cond a5
 (some true)
 ((some (decide (kind_=9))).bind fun a6=>
 some a6)).bind fun (s2:Bool)=>
 cond s2
 (some (2,1))
 (((some (decide (kind_=6))).bind fun a7=>
 cond a7
 (some true)
 ((some (decide (kind_=10))).bind fun a8=>
 some a8)).bind fun (s3:Bool)=>
 cond s3
 (some (0,1))
 (some (1,1))))))
def sO (n_:Int×Int×ByteArray):Option (Int×Int):=
 (some (decide (n_.1=1))).bind fun a4=>
 cond a4
 (some (n_.2.1,n_.2.1))
 ((pM n_.1).bind fun y7=>
 some (y7.1,y7.2))
def eS (lib_:List (ByteArray×Int×Int×(List (Int×Int×ByteArray)))) (name_:ByteArray):Option Int:=
 eC (lC (fun (k2:Nat) (_:Unit)=>
 (idxO lib_ ((k2:Nat):Int)).bind fun a0=>
 (some (decide ((a0.1:ByteArray)=name_))).bind fun a1=>
 cond a1
 (some (.inr ((k2:Nat):Int)))
 (some (.inl ()))) lib_.length 0 ()) fun (_:Unit)=>
 some (-1)
def dS (lib_:List (ByteArray×Int×Int×(List (Int×Int×ByteArray)))) (t_:(List (Int×Int×ByteArray))):Option ((List Int×List Int×List Int)×Bool):=
 (wG ((t_.length:Nat):Int) 1 400).bind fun y0=>
 (some (!y0)).bind fun a0=>
 cond a0
 (some (([],[],[]),false))
 (eC (lC (fun (k0:Nat) (s0:List Int×List Int×List Int)=>
 eC ((idxO t_ ((k0:Nat):Int)).bind fun a1=>
 ((uG (a1.1,a1.2.1,a1.2.2)).bind fun y1=>
 cond y1
 (some true)
 ((some (decide (a1.1=17))).bind fun a2=>
 some a2)).bind fun (s1:Bool)=>
 cond s1
 ((sO (a1.1,a1.2.1,a1.2.2)).bind fun y2=>
 eC ((some (decide (a1.1=17))).bind fun a3=>
 cond a3
 ((eS lib_ a1.2.2).bind fun y3=>
 ((some (decide (y3<0))).bind fun a4=>
 cond a4
 (some true)
 ((some (!decide (a1.2.1=0))).bind fun a5=>
 some a5)).bind fun (s2:Bool)=>
 cond s2
 (some (.inr (.inr (.inr ((s0.1,s0.2.1,s0.2.2),false)))))
 ((idxO lib_ y3).bind fun a6=>
 (idxO lib_ y3).bind fun a7=>
 some (.inl (a7.2.2.1,a6.2.1))))
 (some (.inl (y2.2,y2.1)))) fun (s3:Int×Int)=>
 (tA s0.1 [((k0:Nat):Int)]).bind fun a8=>
 (tA s0.2.1 [s3.2]).bind fun a9=>
 (tA s0.2.2 [s3.1]).bind fun a10=>
 some (.inl (a8,a9,a10)))
 (((some (!decide (a1.1=15))).bind fun a11=>
 cond a11
 ((some (!decide (a1.1=16))).bind fun a12=>
 cond a12
 (some true)
 ((some (!decide ((a1.2.2:ByteArray)=.empty))).bind fun a13=>
 cond a13
 (some true)
 ((some (!decide (a1.2.1=0))).bind fun a14=>
 cond a14
 (some true)
 ((some (decide (((k0:Nat):Int)<2))).bind fun a16=>
 cond a16
 (some true)
 ((subO ((k0:Nat):Int) 1).bind fun a17=>
 (idxO s0.1 a17).bind fun a18=>
 (some (decide (a18<1))).bind fun a19=>
 some a19)))))
 ((some (!decide ((a1.2.2:ByteArray)=.empty))).bind fun a20=>
 cond a20
 (some true)
 ((some (!decide (a1.2.1=0))).bind fun a21=>
 cond a21
 (some true)
 ((some (decide (((k0:Nat):Int)<2))).bind fun a22=>
 cond a22
 (some true)
 ((subO ((k0:Nat):Int) 1).bind fun a23=>
 (idxO s0.1 a23).bind fun a24=>
 (some (decide (a24<1))).bind fun a25=>
 some a25))))).bind fun (s4:Bool)=>
 cond s4
 (some (.inr (.inr ((s0.1,s0.2.1,s0.2.2),false))))
 ((subO ((k0:Nat):Int) 1).bind fun a26=>
 (idxO s0.1 a26).bind fun a27=>
 (subO a27 1).bind fun a28=>
 (idxO s0.2.1 a28).bind fun a29=>
 (idxO s0.2.1 a26).bind fun a30=>
 (sA a29 a30).bind fun a31=>
 (idxO s0.2.2 a28).bind fun a32=>
 (idxO s0.2.2 a26).bind fun a33=>
 (sA a32 a33).bind fun a34=>
 eC ((some (decide (a1.1=15))).bind fun a35=>
 cond a35
 ((idxO s0.2.2 a28).bind fun a36=>
 (idxO s0.2.1 a26).bind fun a37=>
 (some (!decide (a36=a37))).bind fun a38=>
 cond a38
 (some (.inr (.inr (.inr ((s0.1,s0.2.1,s0.2.2),false)))))
 ((idxO s0.2.1 a28).bind fun a39=>
 (idxO s0.2.2 a26).bind fun a40=>
 some (.inl (a39,a40))))
 (some (.inl (a31,a34)))) fun (s5:Int×Int)=>
 ((some (decide ((12:Int)<s5.1))).bind fun a41=>
 cond a41
 (some true)
 ((some (decide ((12:Int)<s5.2))).bind fun a42=>
 some a42)).bind fun (s6:Bool)=>
 cond s6
 (some (.inr (.inr ((s0.1,s0.2.1,s0.2.2),false))))
 ((idxO s0.1 a28).bind fun a43=>
 (tA s0.1 [a43]).bind fun a44=>
 (tA s0.2.1 [s5.1]).bind fun a45=>
 (tA s0.2.2 [s5.2]).bind fun a46=>
 some (.inl (a44,a45,a46)))))) fun (s7:List Int×List Int×List Int)=>
 some (.inl (s7.1,s7.2.1,s7.2.2))) t_.length 0 ([],[],[])) fun (s8:List Int×List Int×List Int)=>
 (subO ((t_.length:Nat):Int) 1).bind fun a47=>
 (idxO s8.1 a47).bind fun a48=>
 (some (decide (a48=0))).bind fun a49=>
 some ((s8.1,s8.2.1,s8.2.2),a49))
def wO (t_:(List (Int×Int×ByteArray))):Option ((List Int×List Int×List Int)×Bool):=
 (dS [] t_).bind fun y9=>
 some ((y9.1.1,y9.1.2.1,y9.1.2.2),y9.2)
def aS (t_:(List (Int×Int×ByteArray))):Option (Int×Int×Bool):=
 (wO t_).bind fun y5=>
 (some (!y5.2)).bind fun a0=>
 cond a0
 (some (0,0,false))
 ((subO ((t_.length:Nat):Int) 1).bind fun a1=>
 (idxO y5.1.2.1 a1).bind fun a2=>
 (idxO y5.1.2.2 a1).bind fun a3=>
 some (a2,a3,true))
def tX (s_:ByteArray):Option Bool:=
 ((wG ((s_.size:Nat):Int) 1 8).bind fun y0=>
 (some (!y0)).bind fun a0=>
 cond a0
 (some true)
 ((vC s_ 0).bind fun a1=>
 (some (decide ((a1:Int)<97))).bind fun a2=>
 cond a2
 (some true)
 ((vC s_ 0).bind fun a3=>
 (some (decide ((122:Int)<a3))).bind fun a4=>
 some a4))).bind fun (s0:Bool)=>
 cond s0
 (some false)
 (eC (mC (fun (s1:Int)=>
 (some (decide (s1<((s_.size:Nat):Int)))).bind fun a5=>
 cond a5
 (((vC s_ s1).bind fun a6=>
 (some (decide ((a6:Int)<97))).bind fun a7=>
 cond a7
 ((vC s_ s1).bind fun a8=>
 (some (decide ((a8:Int)<48))).bind fun a9=>
 cond a9
 (some true)
 ((vC s_ s1).bind fun a10=>
 (some (decide ((57:Int)<a10))).bind fun a11=>
 some a11))
 ((vC s_ s1).bind fun a12=>
 (some (decide ((122:Int)<a12))).bind fun a13=>
 cond a13
 ((vC s_ s1).bind fun a14=>
 (some (decide ((a14:Int)<48))).bind fun a15=>
 cond a15
 (some true)
 ((vC s_ s1).bind fun a16=>
 (some (decide ((57:Int)<a16))).bind fun a17=>
 some a17))
 (some false))).bind fun (s2:Bool)=>
 cond s2
 (some (.inr (.inr false)))
 ((sA s1 1).bind fun a18=>
 some (.inl a18)))
 (some (.inr (.inl ())))) 1) fun (s3:Unit)=>
 some true)
def Bc_ :Option (List ByteArray):=
 some [⟨#[105,100]⟩,⟨#[115,119,97,112]⟩,⟨#[99,111,112,121]⟩,⟨#[100,105,115,99,97,114,100]⟩,⟨#[97,100,100]⟩,⟨#[122,101,114,111]⟩,⟨#[115,99,97,108,101]⟩,⟨#[100,101,108,97,121]⟩,⟨#[99,111,99,111,112,121]⟩,⟨#[99,111,100,105,115,99,97,114,100]⟩,⟨#[99,111,97,100,100]⟩,⟨#[99,111,122,101,114,111]⟩,⟨#[99,111,115,99,97,108,101]⟩,⟨#[99,111,100,101,108,97,121]⟩]
def wX (l_:List ByteArray) (s_:ByteArray):Option Bool:=
 eC (lC (fun (k2:Nat) (_:Unit)=>
 (idxO l_ ((k2:Nat):Int)).bind fun a0=>
 (some (decide ((a0:ByteArray)=s_))).bind fun a1=>
 cond a1
 (some (.inr true))
 (some (.inl ()))) l_.length 0 ()) fun (_:Unit)=>
 some false
def uX (s_:ByteArray):Option Bool:=
 ((tX s_).bind fun y0=>
 cond y0
 ((Bc_).bind fun y1=>
 (wX y1 s_).bind fun y2=>
 (some (!y2)).bind fun a0=>
 some a0)
 (some false)).bind fun (s0:Bool)=>
 some s0
def uS (t_:(List (Int×Int×ByteArray))):Option Int:=
 (subO ((t_.length:Nat):Int) 1).bind fun a5=>
 (idxO t_ a5).bind fun a0=>
 some a0.1
def tY (n_:Int):Option (Int×(List (Int×Int×List Int×List Int))×List Int×List Int):=
 (mC (fun (s0:List Int×List Int×Int)=>
 (some (decide (s0.2.2<n_))).bind fun a0=>
 cond a0
 ((tA s0.1 [s0.2.2]).bind fun a1=>
 (tA s0.2.1 [s0.2.2]).bind fun a2=>
 (sA s0.2.2 1).bind fun a3=>
 some (.inl (a1,a2,a3)))
 (some (.inr (s0.1,s0.2.1)))) ([],[],0)).bind fun (s1:List Int×List Int)=>
 some (n_,[],s1.1,s1.2)
def zO (x_:Int×Int×ByteArray):Option (Int×(List (Int×Int×List Int×List Int))×List Int×List Int):=
 (some (decide (x_.1=1))).bind fun a7=>
 cond a7
 ((tY x_.2.1).bind fun y0=>
 some (y0.1,y0.2.1,y0.2.2.1,y0.2.2.2))
 ((some (decide (x_.1=2))).bind fun a0=>
 cond a0
 (some (2,[],[0,1],[1,0]))
 ((pM x_.1).bind fun y1=>
 (sA y1.1 y1.2).bind fun a1=>
 (mC (fun (s0:List Int×List Int×List Int×List Int×Int)=>
 (sA y1.1 y1.2).bind fun a2=>
 (some (decide (s0.2.2.2.2<a2))).bind fun a3=>
 cond a3
 ((some (decide (s0.2.2.2.2<y1.1))).bind fun a4=>
 cond a4
 ((tA s0.1 [s0.2.2.2.2]).bind fun a5=>
 (tA s0.2.2.1 [s0.2.2.2.2]).bind fun a6=>
 (sA s0.2.2.2.2 1).bind fun a8=>
 some (.inl (a5,s0.2.1,a6,s0.2.2.2.1,a8)))
 ((tA s0.2.1 [s0.2.2.2.2]).bind fun a9=>
 (tA s0.2.2.2.1 [s0.2.2.2.2]).bind fun a11=>
 (sA s0.2.2.2.2 1).bind fun a12=>
 some (.inl (s0.1,a9,s0.2.2.1,a11,a12))))
 (some (.inr (s0.1,s0.2.1,s0.2.2.1,s0.2.2.2.1)))) ([],[],[],[],0)).bind fun (s1:List Int×List Int×List Int×List Int)=>
 some (a1,[(x_.1,x_.2.1,s1.2.2.1,s1.2.2.2)],s1.1,s1.2.1)))
def vS (nodes_:List (Int×Int×ByteArray)):Option (List (Int×Int×ByteArray)):=
 (tA ([]:List (Int×Int×ByteArray)) nodes_).bind fun a8=>
 some a8
def cX (t_:(List (Int×Int×ByteArray))):Option ((List (Int×Int×ByteArray))×(List (Int×Int×ByteArray))):=
 (wO t_).bind fun y0=>
 (subO ((t_.length:Nat):Int) 1).bind fun a0=>
 (subO a0 1).bind fun a1=>
 (idxO y0.1.1 a1).bind fun a2=>
 (fB t_ 0 a2).bind fun a3=>
 (fB t_ a2 a0).bind fun a4=>
 (vS a3).bind fun y1=>
 (vS a4).bind fun y2=>
 some (y1,y2)
def sI (l_:List Int) (to_:List Int):Option (List Int):=
 (forS (fun (k3:Nat) (s0:List Int)=>
 (idxO l_ ((k3:Nat):Int)).bind fun a0=>
 (idxO to_ a0).bind fun a1=>
 (tA s0 [a1]).bind fun a2=>
 some a2) l_.length 0 []).bind fun (s1:List Int)=>
 some s1
def iP (g_:Int×(List (Int×Int×List Int×List Int))×List Int×List Int) (to_:List Int) (wires_:Int):Option (Int×(List (Int×Int×List Int×List Int))×List Int×List Int):=
 ((sI g_.2.2.1 to_).bind fun y0=>
 (sI g_.2.2.2 to_).bind fun y1=>
 some (wires_,y0,y1)).bind fun (s0:Int×List Int×List Int)=>
 (forS (fun (k0:Nat) (s1:List (Int×Int×List Int×List Int))=>
 (idxO g_.2.1 ((k0:Nat):Int)).bind fun a0=>
 (sI a0.2.2.1 to_).bind fun y2=>
 (sI a0.2.2.2 to_).bind fun y3=>
 (tA s1 [(a0.1,a0.2.1,y2,y3)]).bind fun a1=>
 some a1) g_.2.1.length 0 []).bind fun (s2:List (Int×Int×List Int×List Int))=>
 some (s0.1,s2,s0.2.1,s0.2.2)
def xS (g_:Int×(List (Int×Int×List Int×List Int))×List Int×List Int):Option (Int×(List (Int×Int×List Int×List Int))×List Int×List Int):=
 (mD g_.1 (0:Int)).bind fun a0=>
 (forS (fun (k0:Nat) (s0:List Int)=>
 (setO s0 ((k0:Nat):Int) ((k0:Nat):Int)).bind fun a1=>
 some a1) a0.length 0 a0).bind fun (s1:List Int)=>
 (iP (g_.1,g_.2.1,g_.2.2.1,g_.2.2.2) s1 g_.1).bind fun y0=>
 some (y0.1,y0.2.1,y0.2.2.1,y0.2.2.2)
def wR (a_:Int×(List (Int×Int×List Int×List Int))×List Int×List Int) (b_:Int×(List (Int×Int×List Int×List Int))×List Int×List Int):Option (Int×(List (Int×Int×List Int×List Int))×List Int×List Int):=
 (mD b_.1 (0:Int)).bind fun a0=>
 (forS (fun (k0:Nat) (s0:List Int)=>
 (sA ((k0:Nat):Int) a_.1).bind fun a1=>
 (setO s0 ((k0:Nat):Int) a1).bind fun a2=>
 some a2) a0.length 0 a0).bind fun (s1:List Int)=>
 (xS (a_.1,a_.2.1,a_.2.2.1,a_.2.2.2)).bind fun y0=>
 (iP (b_.1,b_.2.1,b_.2.2.1,b_.2.2.2) s1 b_.1).bind fun y1=>
 (sA y0.1 b_.1).bind fun a3=>
 (tA y0.2.2.1 y1.2.2.1).bind fun a4=>
 (tA y0.2.2.2 y1.2.2.2).bind fun a5=>
 (tA y0.2.1 y1.2.1).bind fun a6=>
 some (a3,a6,a4,a5)
def vI (l_:List Int):Option (List Int):=
 (tA ([]:List Int) l_).bind fun a5=>
 some a5
def yO (a_:Int) (b_:Int):Option Int:=
 (some (decide (b_<a_))).bind fun a1=>
 cond a1
 (some a_)
 (some b_)
def tO (a_:Int) (b_:Int):Option Int:=
 (some (decide (a_<b_))).bind fun a1=>
 cond a1
 (some a_)
 (some b_)
def vR (g_:Int×(List (Int×Int×List Int×List Int))×List Int×List Int):Option (List Int×List Int):=
 (mD g_.1 (0:Int)).bind fun a7=>
 (mD g_.1 (0:Int)).bind fun a0=>
 (forS (fun (k0:Nat) (s0:List Int)=>
 (idxO g_.2.2.1 ((k0:Nat):Int)).bind fun a1=>
 (idxO s0 a1).bind fun a2=>
 (sA a2 1).bind fun a3=>
 (setO s0 a1 a3).bind fun a4=>
 some a4) g_.2.2.1.length 0 a7).bind fun (s1:List Int)=>
 (forS (fun (k1:Nat) (s2:List Int)=>
 (idxO g_.2.2.2 ((k1:Nat):Int)).bind fun a5=>
 (idxO s2 a5).bind fun a6=>
 (sA a6 1).bind fun a8=>
 (setO s2 a5 a8).bind fun a9=>
 some a9) g_.2.2.2.length 0 a0).bind fun (s3:List Int)=>
 (forS (fun (k2:Nat) (s4:List Int×List Int)=>
 (idxO g_.2.1 ((k2:Nat):Int)).bind fun a10=>
 (forS (fun (k3:Nat) (s5:List Int)=>
 (idxO a10.2.2.2 ((k3:Nat):Int)).bind fun a11=>
 (idxO s5 a11).bind fun a13=>
 (sA a13 1).bind fun a14=>
 (setO s5 a11 a14).bind fun a15=>
 some a15) a10.2.2.2.length 0 s4.1).bind fun (s6:List Int)=>
 (forS (fun (k4:Nat) (s7:List Int)=>
 (idxO a10.2.2.1 ((k4:Nat):Int)).bind fun a16=>
 (idxO s7 a16).bind fun a17=>
 (sA a17 1).bind fun a18=>
 (setO s7 a16 a18).bind fun a19=>
 some a19) a10.2.2.1.length 0 s4.2).bind fun (s8:List Int)=>
 some (s6,s8)) g_.2.1.length 0 (s1,s3)).bind fun (s9:List Int×List Int)=>
 some (s9.1,s9.2)
def eX (g_:Int×(List (Int×Int×List Int×List Int))×List Int×List Int) (a_:List Int) (b_:List Int):Option ((Int×(List (Int×Int×List Int×List Int))×List Int×List Int)×List Int):=
 (mD g_.1 (0:Int)).bind fun a0=>
 (forS (fun (k0:Nat) (s0:List Int)=>
 (setO s0 ((k0:Nat):Int) ((k0:Nat):Int)).bind fun a1=>
 some a1) a0.length 0 a0).bind fun (s1:List Int)=>
 (forS (fun (k1:Nat) (s2:List Int)=>
 (idxO a_ ((k1:Nat):Int)).bind fun a2=>
 (idxO b_ ((k1:Nat):Int)).bind fun a3=>
 (idxO s2 a2).bind fun a4=>
 (idxO s2 a3).bind fun a5=>
 (forS (fun (k2:Nat) (s3:List Int)=>
 (idxO s3 ((k2:Nat):Int)).bind fun a6=>
 (yO a4 a5).bind fun y0=>
 (some (decide (a6=y0))).bind fun a7=>
 cond a7
 ((tO a4 a5).bind fun y1=>
 (setO s3 ((k2:Nat):Int) y1).bind fun a8=>
 some a8)
 (some s3)) s2.length 0 s2).bind fun (s4:List Int)=>
 some s4) a_.length 0 s1).bind fun (s5:List Int)=>
 (vR (g_.1,g_.2.1,g_.2.2.1,g_.2.2.2)).bind fun y2=>
 (mD g_.1 (false:Bool)).bind fun a9=>
 (forS (fun (k3:Nat) (s6:List Bool)=>
 (idxO s5 ((k3:Nat):Int)).bind fun a10=>
 (idxO y2.1 ((k3:Nat):Int)).bind fun a11=>
 (idxO y2.2 ((k3:Nat):Int)).bind fun a13=>
 (sA a11 a13).bind fun a14=>
 (some (decide ((0:Int)<a14))).bind fun a15=>
 cond a15
 ((setO s6 a10 true).bind fun a16=>
 some a16)
 (some s6)) s5.length 0 a9).bind fun (s7:List Bool)=>
 (mD g_.1 (0:Int)).bind fun a17=>
 (forS (fun (k4:Nat) (s8:List Int×Int)=>
 ((idxO s5 ((k4:Nat):Int)).bind fun a18=>
 (some (decide (a18=((k4:Nat):Int)))).bind fun a19=>
 cond a19
 ((idxO s7 ((k4:Nat):Int)).bind fun a20=>
 some a20)
 (some false)).bind fun (s9:Bool)=>
 cond s9
 ((setO s8.1 ((k4:Nat):Int) s8.2).bind fun a21=>
 (sA s8.2 1).bind fun a22=>
 some (a21,a22))
 (some (s8.1,s8.2))) a17.length 0 (a17,0)).bind fun (s10:List Int×Int)=>
 (forS (fun (k5:Nat) (s11:List Int)=>
 (idxO s5 ((k5:Nat):Int)).bind fun a23=>
 (idxO s11 a23).bind fun a24=>
 (setO s11 ((k5:Nat):Int) a24).bind fun a25=>
 (idxO s5 ((k5:Nat):Int)).bind fun a26=>
 (idxO s7 a26).bind fun a27=>
 (some (!a27)).bind fun a28=>
 cond a28
 ((setO a25 ((k5:Nat):Int) (-1)).bind fun a29=>
 some a29)
 (some a25)) s10.1.length 0 s10.1).bind fun (s12:List Int)=>
 (iP (g_.1,g_.2.1,g_.2.2.1,g_.2.2.2) s12 s10.2).bind fun y3=>
 some ((y3.1,y3.2.1,y3.2.2.1,y3.2.2.2),s12)
def BG_ (g_:Int×(List (Int×Int×List Int×List Int))×List Int×List Int) (a_:List Int) (b_:List Int):Option (Int×(List (Int×Int×List Int×List Int))×List Int×List Int):=
 (eX (g_.1,g_.2.1,g_.2.2.1,g_.2.2.2) a_ b_).bind fun y0=>
 some (y0.1.1,y0.1.2.1,y0.1.2.2.1,y0.1.2.2.2)
def wS (a_:Int×(List (Int×Int×List Int×List Int))×List Int×List Int) (b_:Int×(List (Int×Int×List Int×List Int))×List Int×List Int):Option (Int×(List (Int×Int×List Int×List Int))×List Int×List Int):=
 (wR (a_.1,a_.2.1,a_.2.2.1,a_.2.2.2) (b_.1,b_.2.1,b_.2.2.1,b_.2.2.2)).bind fun y0=>
 (fB y0.2.2.2 0 ((a_.2.2.2.length:Nat):Int)).bind fun a0=>
 (fB y0.2.2.1 ((a_.2.2.1.length:Nat):Int) ((y0.2.2.1.length:Nat):Int)).bind fun a1=>
 (vI a0).bind fun y1=>
 (vI a1).bind fun y2=>
 (fB y0.2.2.1 0 ((a_.2.2.1.length:Nat):Int)).bind fun a2=>
 (fB y0.2.2.2 ((a_.2.2.2.length:Nat):Int) ((y0.2.2.2.length:Nat):Int)).bind fun a3=>
 (BG_ (y0.1,y0.2.1,a2,a3) y1 y2).bind fun y3=>
 some (y3.1,y3.2.1,y3.2.2.1,y3.2.2.2)
def xJ (l_:List Int) (lo_:Int) (hi_:Int):Option Bool:=
 eC (lC (fun (k2:Nat) (_:Unit)=>
 (idxO l_ ((k2:Nat):Int)).bind fun a0=>
 (wG a0 lo_ hi_).bind fun y0=>
 (some (!y0)).bind fun a1=>
 cond a1
 (some (.inr false))
 (some (.inl ()))) l_.length 0 ()) fun (_:Unit)=>
 some true
def gS (e_:Int×Int×List Int×List Int) (wires_:Int):Option Bool:=
 ((wG e_.1 3 14).bind fun y0=>
 (some (!y0)).bind fun a0=>
 cond a0
 (some true)
 ((uG (e_.1,e_.2.1,.empty)).bind fun y1=>
 (some (!y1)).bind fun a1=>
 some a1)).bind fun (s0:Bool)=>
 cond s0
 (some false)
 ((pM e_.1).bind fun y2=>
 ((some (decide (((e_.2.2.1.length:Nat):Int)=y2.1))).bind fun a2=>
 cond a2
 ((some (decide (((e_.2.2.2.length:Nat):Int)=y2.2))).bind fun a3=>
 cond a3
 ((subO wires_ 1).bind fun a4=>
 (xJ e_.2.2.1 0 a4).bind fun y3=>
 cond y3
 ((subO wires_ 1).bind fun a5=>
 (xJ e_.2.2.2 0 a5).bind fun y4=>
 some y4)
 (some false))
 (some false))
 (some false)).bind fun (s1:Bool)=>
 some s1)
def uO (g_:Int×(List (Int×Int×List Int×List Int))×List Int×List Int):Option Bool:=
 ((wG g_.1 0 100).bind fun y0=>
 (some (!y0)).bind fun a0=>
 cond a0
 (some true)
 ((some (decide ((60:Int)<((g_.2.1.length:Nat):Int)))).bind fun a1=>
 cond a1
 (some true)
 ((some (decide ((12:Int)<((g_.2.2.1.length:Nat):Int)))).bind fun a2=>
 cond a2
 (some true)
 ((some (decide ((12:Int)<((g_.2.2.2.length:Nat):Int)))).bind fun a3=>
 cond a3
 (some true)
 ((subO g_.1 1).bind fun a4=>
 (xJ g_.2.2.1 0 a4).bind fun y1=>
 (some (!y1)).bind fun a5=>
 cond a5
 (some true)
 ((subO g_.1 1).bind fun a6=>
 (xJ g_.2.2.2 0 a6).bind fun y2=>
 (some (!y2)).bind fun a7=>
 some a7)))))).bind fun (s0:Bool)=>
 cond s0
 (some false)
 (eC (lC (fun (k0:Nat) (_:Unit)=>
 (idxO g_.2.1 ((k0:Nat):Int)).bind fun a8=>
 (gS (a8.1,a8.2.1,a8.2.2.1,a8.2.2.2) g_.1).bind fun y3=>
 (some (!y3)).bind fun a9=>
 cond a9
 (some (.inr false))
 (some (.inl ()))) g_.2.1.length 0 ()) fun (_:Unit)=>
 (vR (g_.1,g_.2.1,g_.2.2.1,g_.2.2.2)).bind fun y4=>
 eC (lC (fun (k1:Nat) (_:Unit)=>
 (idxO y4.1 ((k1:Nat):Int)).bind fun a10=>
 (idxO y4.2 ((k1:Nat):Int)).bind fun a11=>
 (sA a10 a11).bind fun a12=>
 (some (decide (a12=0))).bind fun a13=>
 cond a13
 (some (.inr false))
 (some (.inl ()))) y4.1.length 0 ()) fun (_:Unit)=>
 some true)
def aT (g_:Int×(List (Int×Int×List Int×List Int))×List Int×List Int):Option ((Int×(List (Int×Int×List Int×List Int))×List Int×List Int)×Bool):=
 (uO (g_.1,g_.2.1,g_.2.2.1,g_.2.2.2)).bind fun y0=>
 (some (!y0)).bind fun a0=>
 cond a0
 (some ((0,[],[],[]),false))
 (some ((g_.1,g_.2.1,g_.2.2.1,g_.2.2.2),true))
def nY (a_:Int×(List (Int×Int×List Int×List Int))×List Int×List Int) (b_:Int×(List (Int×Int×List Int×List Int))×List Int×List Int):Option (Int×(List (Int×Int×List Int×List Int))×List Int×List Int):=
 (wR (a_.1,a_.2.1,a_.2.2.1,a_.2.2.2) (b_.1,b_.2.1,b_.2.2.1,b_.2.2.2)).bind fun y0=>
 some (y0.1,y0.2.1,y0.2.2.1,y0.2.2.2)
def qO:Nat→(List (Int×Int×ByteArray))→Option ((Int×(List (Int×Int×List Int×List Int))×List Int×List Int)×Bool)
 | 0,_=>none
 | fuel+1,t_=>
  (uS t_).bind fun y8=>
  (some (decide (y8<15))).bind fun a0=>
  cond a0
  ((idxO t_ 0).bind fun a1=>
  (zO (a1.1,a1.2.1,a1.2.2)).bind fun y0=>
  some ((y0.1,y0.2.1,y0.2.2.1,y0.2.2.2),true))
  ((cX t_).bind fun y1=>
  (qO fuel y1.1).bind fun y2=>
  (qO fuel y1.2).bind fun y3=>
  ((some (!y2.2)).bind fun a2=>
  cond a2
  (some true)
  ((some (!y3.2)).bind fun a3=>
  some a3)).bind fun (s0:Bool)=>
  cond s0
  (some ((0,[],[],[]),false))
  ((some (decide (y8=15))).bind fun a4=>
  cond a4
  ((wS (y2.1.1,y2.1.2.1,y2.1.2.2.1,y2.1.2.2.2) (y3.1.1,y3.1.2.1,y3.1.2.2.1,y3.1.2.2.2)).bind fun y4=>
  (aT (y4.1,y4.2.1,y4.2.2.1,y4.2.2.2)).bind fun y5=>
  some ((y5.1.1,y5.1.2.1,y5.1.2.2.1,y5.1.2.2.2),y5.2))
  ((nY (y2.1.1,y2.1.2.1,y2.1.2.2.1,y2.1.2.2.2) (y3.1.1,y3.1.2.1,y3.1.2.2.1,y3.1.2.2.2)).bind fun y6=>
  (aT (y6.1,y6.2.1,y6.2.2.1,y6.2.2.2)).bind fun y7=>
  some ((y7.1.1,y7.1.2.1,y7.1.2.2.1,y7.1.2.2.2),y7.2))))
def fS (t_:(List (Int×Int×ByteArray))):Option ((Int×(List (Int×Int×List Int×List Int))×List Int×List Int)×Bool):=qO 1000000 t_
def dX (r_:ByteArray×(List (Int×Int×ByteArray))×(List (Int×Int×ByteArray))):Option ((Int×(List (Int×Int×List Int×List Int))×List Int×List Int)×(Int×(List (Int×Int×List Int×List Int))×List Int×List Int)×Bool):=
 (aS r_.2.1).bind fun y0=>
 (aS r_.2.2).bind fun y1=>
 ((uX r_.1).bind fun y2=>
 (some (!y2)).bind fun a0=>
 cond a0
 (some true)
 ((some (!y0.2.2)).bind fun a1=>
 cond a1
 (some true)
 ((some (!y1.2.2)).bind fun a2=>
 cond a2
 (some true)
 ((some (!decide (y0.1=y1.1))).bind fun a3=>
 cond a3
 (some true)
 ((some (!decide (y0.2.1=y1.2.1))).bind fun a4=>
 some a4))))).bind fun (s0:Bool)=>
 cond s0
 (some ((0,[],[],[]),(0,[],[],[]),false))
 ((fS r_.2.1).bind fun y3=>
 (fS r_.2.2).bind fun y4=>
 (cond y3.2
 (some (y4.1.1,y4.1.2.1,y4.1.2.2.1,y4.1.2.2.2,y3.1.1,y3.1.2.1,y3.1.2.2.1,y3.1.2.2.2,y4.2))
 (some (y4.1.1,y4.1.2.1,y4.1.2.2.1,y4.1.2.2.2,y3.1.1,y3.1.2.1,y3.1.2.2.1,y3.1.2.2.2,false))).bind fun (s1:Int×(List (Int×Int×List Int×List Int))×List Int×List Int×Int×(List (Int×Int×List Int×List Int))×List Int×List Int×Bool)=>
 some ((s1.2.2.2.2.1,s1.2.2.2.2.2.1,s1.2.2.2.2.2.2.1,s1.2.2.2.2.2.2.2.1),(s1.1,s1.2.1,s1.2.2.1,s1.2.2.2.1),s1.2.2.2.2.2.2.2.2))
def sY (r_:ByteArray×(List (Int×Int×ByteArray))×(List (Int×Int×ByteArray))):Option Bool:=
 (dX (r_.1,r_.2.1,r_.2.2)).bind fun y6=>
 some y6.2.2
def aP (p_:Int):Option Bool:=
 (wG p_ 2 97).bind fun y1=>
 (some (!y1)).bind fun a4=>
 cond a4
 (some false)
 (eC (mC (fun (s0:Int)=>
 (mF s0 s0).bind fun a0=>
 (some (decide (a0≤p_))).bind fun a1=>
 cond a1
 ((xD p_ s0).bind fun a2=>
 (some (decide (a2=0))).bind fun a3=>
 cond a3
 (some (.inr (.inr false)))
 ((sA s0 1).bind fun a5=>
 some (.inl a5)))
 (some (.inr (.inl ())))) 2) fun (s1:Unit)=>
 some true)
def xO (p_:Int) (t_:(List (Int×Int×ByteArray))):Option Bool:=
 (wO t_).bind fun y5=>
 ((some (!y5.2)).bind fun a0=>
 cond a0
 (some true)
 ((aP p_).bind fun y0=>
 (some (!y0)).bind fun a1=>
 some a1)).bind fun (s0:Bool)=>
 cond s0
 (some false)
 (eC (lC (fun (k0:Nat) (_:Unit)=>
 (idxO t_ ((k0:Nat):Int)).bind fun a2=>
 ((some (decide (a2.1=7))).bind fun a3=>
 cond a3
 ((some (decide (p_≤a2.2.1))).bind fun a4=>
 some a4)
 ((some (decide (a2.1=13))).bind fun a5=>
 cond a5
 ((some (decide (p_≤a2.2.1))).bind fun a6=>
 some a6)
 (some false))).bind fun (s1:Bool)=>
 cond s1
 (some (.inr false))
 (some (.inl ()))) t_.length 0 ()) fun (_:Unit)=>
 some true)
def sX (p_:Int) (r_:ByteArray×(List (Int×Int×ByteArray))×(List (Int×Int×ByteArray))):Option Bool:=
 ((sY (r_.1,r_.2.1,r_.2.2)).bind fun y0=>
 cond y0
 ((xO p_ r_.2.1).bind fun y1=>
 cond y1
 ((xO p_ r_.2.2).bind fun y2=>
 some y2)
 (some false))
 (some false)).bind fun (s0:Bool)=>
 some s0
def tJ (kind_:Int):Option Bool:=
 ((some (!decide (kind_=8))).bind fun a0=>
 cond a0
 ((some (!decide (kind_=14))).bind fun a1=>
 some a1)
 (some false)).bind fun (s7:Bool)=>
 some s7
def xX (p_:Int) (g_:Int×(List (Int×Int×List Int×List Int))×List Int×List Int):Option Bool:=
 ((aP p_).bind fun y0=>
 (some (!y0)).bind fun a0=>
 cond a0
 (some true)
 ((uO (g_.1,g_.2.1,g_.2.2.1,g_.2.2.2)).bind fun y1=>
 (some (!y1)).bind fun a1=>
 some a1)).bind fun (s0:Bool)=>
 cond s0
 (some false)
 (eC (lC (fun (k0:Nat) (_:Unit)=>
 (idxO g_.2.1 ((k0:Nat):Int)).bind fun a2=>
 (some (decide (p_≤a2.2.1))).bind fun a3=>
 cond a3
 (some (.inr false))
 (some (.inl ()))) g_.2.1.length 0 ()) fun (_:Unit)=>
 some true)
def gX (p_:Int) (g_:Int×(List (Int×Int×List Int×List Int))×List Int×List Int):Option Bool:=
 (xX p_ (g_.1,g_.2.1,g_.2.2.1,g_.2.2.2)).bind fun y7=>
 (some (!y7)).bind fun a0=>
 cond a0
 (some false)
 (eC (lC (fun (k0:Nat) (_:Unit)=>
 (idxO g_.2.1 ((k0:Nat):Int)).bind fun a1=>
 (tJ a1.1).bind fun y0=>
 (some (!y0)).bind fun a2=>
 cond a2
 (some (.inr false))
 (some (.inl ()))) g_.2.1.length 0 ()) fun (_:Unit)=>
 some true)
def oY (p_:Int) (a_:Int) (b_:Int):Option Int:=
 (sA a_ b_).bind fun a1=>
 (xD a1 p_).bind fun a3=>
 some a3
def gF (p_:Int) (n_:Int) (at_:List Int) (values_:List Int):Option (List Int):=
 (mD n_ (0:Int)).bind fun a3=>
 (forS (fun (k8:Nat) (s0:List Int)=>
 (idxO at_ ((k8:Nat):Int)).bind fun a0=>
 (idxO s0 a0).bind fun a1=>
 (idxO values_ ((k8:Nat):Int)).bind fun a2=>
 (oY p_ a1 a2).bind fun y0=>
 (setO s0 a0 y0).bind fun a4=>
 some a4) at_.length 0 a3).bind fun (s1:List Int)=>
 some s1
def tM (p_:Int) (a_:Int):Option Int:=
 (subO p_ a_).bind fun a1=>
 (xD a1 p_).bind fun a3=>
 some a3
def bP (p_:Int) (n_:Int) (e_:Int×Int×List Int×List Int):Option (List (List Int)):=
 ((some (decide ((9:Int)≤e_.1))).bind fun a0=>
 cond a0
 ((subO e_.1 9).bind fun a1=>
 (sA a1 3).bind fun a2=>
 some (e_.2.2.2,e_.2.2.1,a2))
 (some (e_.2.2.1,e_.2.2.2,e_.1))).bind fun (s0:List Int×List Int×Int)=>
 (some (decide (s0.2.2=3))).bind fun a3=>
 cond a3
 (((idxO s0.2.1 0).bind fun a4=>
 (idxO s0.1 0).bind fun a5=>
 (subO p_ 1).bind fun a6=>
 (idxO s0.2.1 1).bind fun a7=>
 (idxO s0.1 0).bind fun a8=>
 (subO p_ 1).bind fun a9=>
 (gF p_ n_ [a4,a5] [1,a6]).bind fun y0=>
 (gF p_ n_ [a7,a8] [1,a9]).bind fun y1=>
 some [y0,y1]).bind fun (s1:List (List Int))=>
 some s1)
 ((some (decide (s0.2.2=5))).bind fun a10=>
 cond a10
 (((idxO s0.2.1 0).bind fun a11=>
 (idxO s0.1 0).bind fun a12=>
 (idxO s0.1 1).bind fun a13=>
 (subO p_ 1).bind fun a14=>
 (subO p_ 1).bind fun a15=>
 (gF p_ n_ [a11,a12,a13] [1,a14,a15]).bind fun y2=>
 some [y2]).bind fun (s2:List (List Int))=>
 some s2)
 ((some (decide (s0.2.2=6))).bind fun a16=>
 cond a16
 ((idxO s0.2.1 0).bind fun a17=>
 (gF p_ n_ [a17] [1]).bind fun y3=>
 some [y3])
 ((some (decide (s0.2.2=7))).bind fun a18=>
 cond a18
 (((idxO s0.2.1 0).bind fun a19=>
 (idxO s0.1 0).bind fun a20=>
 (tM p_ e_.2.1).bind fun y4=>
 (gF p_ n_ [a19,a20] [1,y4]).bind fun y5=>
 some [y5]).bind fun (s3:List (List Int))=>
 some s3)
 (some []))))
def yS (p_:Int) (a_:Int):Option Int:=
 eC (mC (fun (s0:Int)=>
 (some (decide (s0<p_))).bind fun a0=>
 cond a0
 ((mF a_ s0).bind fun a1=>
 (xD a1 p_).bind fun a2=>
 (some (decide (a2=1))).bind fun a3=>
 cond a3
 (some (.inr (.inr s0)))
 ((sA s0 1).bind fun a4=>
 some (.inl a4)))
 (some (.inr (.inl ())))) 1) fun (s1:Unit)=>
 some 0
def gH (p_:Int) (a_:Int) (b_:Int):Option Int:=
 (mF a_ b_).bind fun a1=>
 (xD a1 p_).bind fun a3=>
 some a3
def lL (p_:Int) (a_:Int) (b_:Int):Option Int:=
 (sA a_ p_).bind fun a1=>
 (subO a1 b_).bind fun a3=>
 (xD a3 p_).bind fun a5=>
 some a5
def oO (p_:Int) (size_:Int) (rows_:List (List Int)):Option (List (List Int)):=
 (forS (fun (k2:Nat) (s0:List (List Int))=>
 (idxO rows_ ((k2:Nat):Int)).bind fun a0=>
 (vI a0).bind fun y0=>
 (tA s0 [y0]).bind fun a1=>
 some a1) rows_.length 0 []).bind fun (s1:List (List Int))=>
 (mC (fun (s2:List (List Int)×Int×Int)=>
 ((some (decide (s2.2.2<size_))).bind fun a2=>
 cond a2
 ((some (decide (s2.2.1<((s2.1.length:Nat):Int)))).bind fun a3=>
 some a3)
 (some false)).bind fun (s3:Bool)=>
 cond s3
 (((mC (fun (s4:Int)=>
 ((some (decide (s4<((s2.1.length:Nat):Int)))).bind fun a4=>
 cond a4
 ((idxO s2.1 s4).bind fun a5=>
 (idxO a5 s2.2.2).bind fun a6=>
 (some (decide (a6=0))).bind fun a7=>
 some a7)
 (some false)).bind fun (s5:Bool)=>
 cond s5
 ((sA s4 1).bind fun a8=>
 some (.inl a8))
 (some (.inr s4))) s2.2.1).bind fun (s6:Int)=>
 (some (decide (s6=((s2.1.length:Nat):Int)))).bind fun a9=>
 cond a9
 (some (s2.1,s2.2.1))
 ((idxO s2.1 s2.2.1).bind fun a10=>
 (idxO s2.1 s6).bind fun a11=>
 (cM s2.1 s2.2.1 s6).bind fun a12=>
 (idxO a12 s2.2.1).bind fun a13=>
 (idxO a13 s2.2.2).bind fun a14=>
 (yS p_ a14).bind fun y1=>
 (idxO a12 s2.2.1).bind fun a15=>
 (forS (fun (k0:Nat) (s7:List (List Int))=>
 (idxO s7 s2.2.1).bind fun a16=>
 (idxO s7 s2.2.1).bind fun a17=>
 (idxO a17 ((k0:Nat):Int)).bind fun a18=>
 (gH p_ a18 y1).bind fun y2=>
 (setO a16 ((k0:Nat):Int) y2).bind fun a19=>
 (setO s7 s2.2.1 a19).bind fun a20=>
 some a20) a15.length 0 a12).bind fun (s8:List (List Int))=>
 (forS (fun (k1:Nat) (s9:List (List Int))=>
 (((some (decide (((k1:Nat):Int)=s2.2.1))).bind fun a21=>
 cond a21
 (some true)
 ((idxO s9 ((k1:Nat):Int)).bind fun a22=>
 (idxO a22 s2.2.2).bind fun a23=>
 (some (decide (a23=0))).bind fun a24=>
 some a24)).bind fun (s10:Bool)=>
 cond s10
 (some s9)
 ((idxO s9 ((k1:Nat):Int)).bind fun a25=>
 (idxO a25 s2.2.2).bind fun a26=>
 (idxO s9 ((k1:Nat):Int)).bind fun a27=>
 (forS (fun (k3:Nat) (s11:List (List Int))=>
 (idxO s11 ((k1:Nat):Int)).bind fun a28=>
 (idxO s11 ((k1:Nat):Int)).bind fun a29=>
 (idxO s11 s2.2.1).bind fun a30=>
 (idxO a29 ((k3:Nat):Int)).bind fun a31=>
 (idxO a30 ((k3:Nat):Int)).bind fun a32=>
 (gH p_ a26 a32).bind fun y3=>
 (lL p_ a31 y3).bind fun y4=>
 (setO a28 ((k3:Nat):Int) y4).bind fun a33=>
 (setO s11 ((k1:Nat):Int) a33).bind fun a34=>
 some a34) a27.length 0 s9).bind fun (s12:List (List Int))=>
 some s12)).bind fun (s13:List (List Int))=>
 some s13) s8.length 0 s8).bind fun (s14:List (List Int))=>
 (sA s2.2.1 1).bind fun a35=>
 some (s14,a35))).bind fun (s15:List (List Int)×Int)=>
 (sA s2.2.2 1).bind fun a36=>
 some (.inl (s15.1,s15.2,a36)))
 (some (.inr (s2.1,s2.2.1)))) (s1,0,0)).bind fun (s16:List (List Int)×Int)=>
 (fB s16.1 0 s16.2).bind fun a37=>
 some a37
def cS (v_:List Int):Option Int:=
 (mC (fun (s0:Int)=>
 ((some (decide (s0<((v_.length:Nat):Int)))).bind fun a0=>
 cond a0
 ((idxO v_ s0).bind fun a1=>
 (some (decide (a1=0))).bind fun a2=>
 some a2)
 (some false)).bind fun (s1:Bool)=>
 cond s1
 ((sA s0 1).bind fun a3=>
 some (.inl a3))
 (some (.inr s0))) 0).bind fun (s2:Int)=>
 some s2
def bS (p_:Int) (size_:Int) (rows_:List (List Int)):Option (List (List Int)):=
 (oO p_ size_ rows_).bind fun y2=>
 (mD size_ (0:Int)).bind fun a7=>
 (forS (fun (k0:Nat) (s0:List Int)=>
 (setO s0 ((k0:Nat):Int) (-1)).bind fun a0=>
 some a0) a7.length 0 a7).bind fun (s1:List Int)=>
 (forS (fun (k1:Nat) (s2:List Int)=>
 (idxO y2 ((k1:Nat):Int)).bind fun a1=>
 (cS a1).bind fun y0=>
 (setO s2 y0 ((k1:Nat):Int)).bind fun a2=>
 some a2) y2.length 0 s1).bind fun (s3:List Int)=>
 (mC (fun (s4:List (List Int)×Int)=>
 (some (decide (s4.2<size_))).bind fun a3=>
 cond a3
 (((idxO s3 s4.2).bind fun a4=>
 (some (decide ((0:Int)≤a4))).bind fun a5=>
 cond a5
 (some s4.1)
 ((mD size_ (0:Int)).bind fun a6=>
 (setO a6 s4.2 1).bind fun a8=>
 (forS (fun (k2:Nat) (s5:List Int)=>
 (idxO y2 ((k2:Nat):Int)).bind fun a9=>
 (idxO y2 ((k2:Nat):Int)).bind fun a10=>
 (idxO a9 s4.2).bind fun a11=>
 (cS a10).bind fun y1=>
 (tM p_ a11).bind fun y3=>
 (setO s5 y1 y3).bind fun a12=>
 some a12) y2.length 0 a8).bind fun (s6:List Int)=>
 (tA s4.1 [s6]).bind fun a13=>
 some a13)).bind fun (s7:List (List Int))=>
 (sA s4.2 1).bind fun a14=>
 some (.inl (s7,a14)))
 (some (.inr s4.1))) ([],0)).bind fun (s8:List (List Int))=>
 (oO p_ size_ s8).bind fun y4=>
 some y4
def xW (p_:Int) (g_:Int×(List (Int×Int×List Int×List Int))×List Int×List Int):Option (List (List Int)):=
 (forS (fun (k7:Nat) (s0:List (List Int))=>
 (idxO g_.2.1 ((k7:Nat):Int)).bind fun a0=>
 (bP p_ g_.1 (a0.1,a0.2.1,a0.2.2.1,a0.2.2.2)).bind fun y0=>
 (tA s0 y0).bind fun a1=>
 some a1) g_.2.1.length 0 []).bind fun (s1:List (List Int))=>
 (bS p_ g_.1 s1).bind fun y1=>
 some y1
def zS (p_:Int) (left_:Int) (right_:Int) (rows_:List (List Int)):Option (Int×Int×List (List Int)):=
 (sA left_ right_).bind fun a5=>
 (oO p_ a5 rows_).bind fun y7=>
 some (left_,right_,y7)
def fX (p_:Int) (g_:Int×(List (Int×Int×List Int×List Int))×List Int×List Int):Option ((Int×Int×List (List Int))×Bool):=
 (gX p_ (g_.1,g_.2.1,g_.2.2.1,g_.2.2.2)).bind fun y0=>
 (some (!y0)).bind fun a0=>
 cond a0
 (some ((0,0,[]),false))
 ((vI g_.2.2.1).bind fun y1=>
 (tA y1 g_.2.2.2).bind fun a1=>
 (xW p_ (g_.1,g_.2.1,g_.2.2.1,g_.2.2.2)).bind fun y2=>
 (forS (fun (k0:Nat) (s0:List (List Int))=>
 (idxO y2 ((k0:Nat):Int)).bind fun a2=>
 (sI a1 a2).bind fun y3=>
 (tA s0 [y3]).bind fun a3=>
 some a3) y2.length 0 []).bind fun (s1:List (List Int))=>
 (zS p_ ((g_.2.2.1.length:Nat):Int) ((g_.2.2.2.length:Nat):Int) s1).bind fun y4=>
 some ((y4.1,y4.2.1,y4.2.2),true))
def jL (p_:Int) (n_:Int×Int×ByteArray):Option (Int×Int×List (List Int)):=
 (zO (n_.1,n_.2.1,n_.2.2)).bind fun y7=>
 (fX p_ (y7.1,y7.2.1,y7.2.2.1,y7.2.2.2)).bind fun y0=>
 some (y0.1.1,y0.1.2.1,y0.1.2.2)
def sM (p_:Int) (size_:Int) (rows_:List (List Int)) (coefs_:List Int):Option (List Int):=
 (mD size_ (0:Int)).bind fun a3=>
 (forS (fun (k8:Nat) (s0:List Int)=>
 (idxO rows_ ((k8:Nat):Int)).bind fun a0=>
 (forS (fun (k0:Nat) (s1:List Int)=>
 (idxO a0 ((k0:Nat):Int)).bind fun a1=>
 (idxO s1 ((k0:Nat):Int)).bind fun a2=>
 (idxO coefs_ ((k8:Nat):Int)).bind fun a4=>
 (mF a4 a1).bind fun a5=>
 (sA a2 a5).bind fun a6=>
 (xD a6 p_).bind fun a7=>
 (setO s1 ((k0:Nat):Int) a7).bind fun a8=>
 some a8) a0.length 0 s0).bind fun (s2:List Int)=>
 some s2) rows_.length 0 a3).bind fun (s3:List Int)=>
 some s3
def jO (p_:Int) (a_:Int×Int×List (List Int)) (b_:Int×Int×List (List Int)):Option (Int×Int×List (List Int)):=
 (mD a_.2.1 ([]:List Int)).bind fun a0=>
 (forS (fun (k0:Nat) (s0:List (List Int))=>
 (forS (fun (k1:Nat) (s1:List (List Int))=>
 (idxO a_.2.2 ((k1:Nat):Int)).bind fun a1=>
 (idxO s1 ((k0:Nat):Int)).bind fun a2=>
 (sA a_.1 ((k0:Nat):Int)).bind fun a3=>
 (idxO a1 a3).bind fun a4=>
 (tA a2 [a4]).bind fun a5=>
 (setO s1 ((k0:Nat):Int) a5).bind fun a6=>
 some a6) a_.2.2.length 0 s0).bind fun (s2:List (List Int))=>
 (forS (fun (k2:Nat) (s3:List (List Int))=>
 (idxO b_.2.2 ((k2:Nat):Int)).bind fun a7=>
 (idxO s3 ((k0:Nat):Int)).bind fun a8=>
 (idxO a7 ((k0:Nat):Int)).bind fun a9=>
 (tM p_ a9).bind fun y0=>
 (tA a8 [y0]).bind fun a10=>
 (setO s3 ((k0:Nat):Int) a10).bind fun a11=>
 some a11) b_.2.2.length 0 s2).bind fun (s4:List (List Int))=>
 some s4) a0.length 0 a0).bind fun (s5:List (List Int))=>
 (sA ((a_.2.2.length:Nat):Int) ((b_.2.2.length:Nat):Int)).bind fun a13=>
 (bS p_ a13 s5).bind fun y1=>
 (forS (fun (k3:Nat) (s6:List (List Int))=>
 (idxO y1 ((k3:Nat):Int)).bind fun a14=>
 (sA a_.1 a_.2.1).bind fun a15=>
 (fB a14 0 ((a_.2.2.length:Nat):Int)).bind fun a16=>
 (sM p_ a15 a_.2.2 a16).bind fun y2=>
 (sA a_.2.1 b_.2.1).bind fun a17=>
 (fB a14 ((a_.2.2.length:Nat):Int) ((a14.length:Nat):Int)).bind fun a18=>
 (sM p_ a17 b_.2.2 a18).bind fun y3=>
 (fB y3 a_.2.1 ((y3.length:Nat):Int)).bind fun a19=>
 (fB y2 0 a_.1).bind fun a20=>
 (vI a20).bind fun y4=>
 (tA y4 a19).bind fun a21=>
 (tA s6 [a21]).bind fun a22=>
 some a22) y1.length 0 []).bind fun (s7:List (List Int))=>
 (zS p_ a_.1 b_.2.1 s7).bind fun y5=>
 some (y5.1,y5.2.1,y5.2.2)
def pO (p_:Int) (a_:Int×Int×List (List Int)) (b_:Int×Int×List (List Int)):Option (Int×Int×List (List Int)):=
 (sA a_.1 b_.1).bind fun a0=>
 (sA a_.2.1 b_.2.1).bind fun a1=>
 (forS (fun (k0:Nat) (s0:List (List Int))=>
 (idxO a_.2.2 ((k0:Nat):Int)).bind fun a2=>
 (sA a0 a1).bind fun a3=>
 (mD a3 (0:Int)).bind fun a4=>
 (forS (fun (k1:Nat) (s1:List Int)=>
 (idxO a2 ((k1:Nat):Int)).bind fun a5=>
 (some (decide (((k1:Nat):Int)<a_.1))).bind fun a6=>
 cond a6
 ((setO s1 ((k1:Nat):Int) a5).bind fun a7=>
 some a7)
 ((sA a0 ((k1:Nat):Int)).bind fun a8=>
 (subO a8 a_.1).bind fun a9=>
 (setO s1 a9 a5).bind fun a10=>
 some a10)) a2.length 0 a4).bind fun (s2:List Int)=>
 (tA s0 [s2]).bind fun a11=>
 some a11) a_.2.2.length 0 []).bind fun (s3:List (List Int))=>
 (forS (fun (k2:Nat) (s4:List (List Int))=>
 (idxO b_.2.2 ((k2:Nat):Int)).bind fun a12=>
 (sA a0 a1).bind fun a14=>
 (mD a14 (0:Int)).bind fun a16=>
 (forS (fun (k3:Nat) (s5:List Int)=>
 (idxO a12 ((k3:Nat):Int)).bind fun a17=>
 (some (decide (((k3:Nat):Int)<b_.1))).bind fun a18=>
 cond a18
 ((sA a_.1 ((k3:Nat):Int)).bind fun a19=>
 (setO s5 a19 a17).bind fun a20=>
 some a20)
 ((sA a0 a_.2.1).bind fun a21=>
 (sA a21 ((k3:Nat):Int)).bind fun a22=>
 (subO a22 b_.1).bind fun a23=>
 (setO s5 a23 a17).bind fun a24=>
 some a24)) a12.length 0 a16).bind fun (s6:List Int)=>
 (tA s4 [s6]).bind fun a25=>
 some a25) b_.2.2.length 0 s3).bind fun (s7:List (List Int))=>
 (zS p_ a0 a1 s7).bind fun y0=>
 some (y0.1,y0.2.1,y0.2.2)
def iS (p_:Int) (t_:(List (Int×Int×ByteArray))):Option ((Int×Int×List (List Int))×Bool):=
 (xO p_ t_).bind fun y8=>
 (some (!y8)).bind fun a0=>
 cond a0
 (some ((0,0,[]),false))
 (eC (lC (fun (k0:Nat) (s0:List (Int×Int×List (List Int)))=>
 eC ((idxO t_ ((k0:Nat):Int)).bind fun a1=>
 (tJ a1.1).bind fun y0=>
 (some (!y0)).bind fun a2=>
 cond a2
 (some (.inr (.inr ((0,0,[]),false))))
 (((some (!decide (a1.1=15))).bind fun a3=>
 cond a3
 ((some (!decide (a1.1=16))).bind fun a4=>
 some a4)
 (some false)).bind fun (s1:Bool)=>
 cond s1
 ((jL p_ (a1.1,a1.2.1,a1.2.2)).bind fun y1=>
 (tA s0 [(y1.1,y1.2.1,y1.2.2)]).bind fun a5=>
 some (.inl a5))
 (((subO ((s0.length:Nat):Int) 2).bind fun a6=>
 (idxO s0 a6).bind fun a7=>
 (subO ((s0.length:Nat):Int) 1).bind fun a8=>
 (idxO s0 a8).bind fun a9=>
 some (a9.1,a9.2.1,a9.2.2,a7.1,a7.2.1,a7.2.2)).bind fun (s2:Int×Int×List (List Int)×Int×Int×List (List Int))=>
 (subO ((s0.length:Nat):Int) 2).bind fun a10=>
 (fB s0 0 a10).bind fun a12=>
 (some (decide (a1.1=15))).bind fun a13=>
 cond a13
 ((jO p_ (s2.2.2.2.1,s2.2.2.2.2.1,s2.2.2.2.2.2) (s2.1,s2.2.1,s2.2.2.1)).bind fun y2=>
 (tA a12 [(y2.1,y2.2.1,y2.2.2)]).bind fun a14=>
 some (.inl a14))
 ((pO p_ (s2.2.2.2.1,s2.2.2.2.2.1,s2.2.2.2.2.2) (s2.1,s2.2.1,s2.2.2.1)).bind fun y3=>
 (tA a12 [(y3.1,y3.2.1,y3.2.2)]).bind fun a15=>
 some (.inl a15))))) fun (s3:List (Int×Int×List (List Int)))=>
 some (.inl s3)) t_.length 0 []) fun (s4:List (Int×Int×List (List Int)))=>
 (idxO s4 0).bind fun a16=>
 some ((a16.1,a16.2.1,a16.2.2),true))
def yX (p_:Int) (r_:ByteArray×(List (Int×Int×ByteArray))×(List (Int×Int×ByteArray))):Option ((Int×Int×List (List Int))×(Int×Int×List (List Int))×Bool):=
 (sX p_ (r_.1,r_.2.1,r_.2.2)).bind fun y0=>
 (some (!y0)).bind fun a0=>
 cond a0
 (some ((0,0,[]),(0,0,[]),false))
 ((iS p_ r_.2.1).bind fun y1=>
 (iS p_ r_.2.2).bind fun y2=>
 (cond y1.2
 (some (y2.1.1,y2.1.2.1,y2.1.2.2,y1.1.1,y1.1.2.1,y1.1.2.2,y2.2))
 (some (y2.1.1,y2.1.2.1,y2.1.2.2,y1.1.1,y1.1.2.1,y1.1.2.2,false))).bind fun (s0:Int×Int×List (List Int)×Int×Int×List (List Int)×Bool)=>
 some ((s0.2.2.2.1,s0.2.2.2.2.1,s0.2.2.2.2.2.1),(s0.1,s0.2.1,s0.2.2.1),s0.2.2.2.2.2.2))
def vX (a_:List Int) (b_:List Int):Option Bool:=
 (some (!decide (((a_.length:Nat):Int)=((b_.length:Nat):Int)))).bind fun a3=>
 cond a3
 (some false)
 (eC (lC (fun (k6:Nat) (_:Unit)=>
 (idxO a_ ((k6:Nat):Int)).bind fun a0=>
 (idxO b_ ((k6:Nat):Int)).bind fun a1=>
 (some (!decide (a0=a1))).bind fun a2=>
 cond a2
 (some (.inr false))
 (some (.inl ()))) a_.length 0 ()) fun (_:Unit)=>
 some true)
def rX (a_:List (List Int)) (b_:List (List Int)):Option Bool:=
 (some (!decide (((a_.length:Nat):Int)=((b_.length:Nat):Int)))).bind fun a3=>
 cond a3
 (some false)
 (eC (lC (fun (k6:Nat) (_:Unit)=>
 (idxO a_ ((k6:Nat):Int)).bind fun a0=>
 (idxO b_ ((k6:Nat):Int)).bind fun a1=>
 (vX a0 a1).bind fun y0=>
 (some (!y0)).bind fun a2=>
 cond a2
 (some (.inr false))
 (some (.inl ()))) a_.length 0 ()) fun (_:Unit)=>
 some true)
def oW (p_:Int) (r_:ByteArray×(List (Int×Int×ByteArray))×(List (Int×Int×ByteArray))):Option (Bool×Bool):=
 (yX p_ (r_.1,r_.2.1,r_.2.2)).bind fun y6=>
 (cond y6.2.2
 ((rX y6.1.2.2 y6.2.1.2.2).bind fun y0=>
 some (y0,true))
 (some (false,false))).bind fun (s0:Bool×Bool)=>
 some (s0.1,s0.2)
def mG (n_:Int) (low_:Int) (high_:Int):Option Bool:=
 ((some (decide (low_≤n_))).bind fun a0=>
 cond a0
 ((some (decide (n_≤high_))).bind fun a1=>
 some a1)
 (some false)).bind fun (s7:Bool)=>
 some s7
def tW (w_:Int×Int):Option Bool:=
 ((some (decide (w_.1≤12))).bind fun a0=>
 cond a0
 ((some (decide (w_.2≤12))).bind fun a1=>
 some a1)
 (some false)).bind fun (s0:Bool)=>
 some s0
def fL (kind_:Int) (a_:Int×Int) (b_:Int×Int):Option ((Int×Int)×Bool):=
 (some (decide (kind_=15))).bind fun a0=>
 cond a0
 ((some (decide (a_.2=b_.1))).bind fun a1=>
 some ((a_.1,b_.2),a1))
 ((sA a_.1 b_.1).bind fun a2=>
 (sA a_.2 b_.2).bind fun a3=>
 (tW (a2,a3)).bind fun y0=>
 some ((a2,a3),y0))
def iM (kind_:Int):Option Bool:=
 (mG kind_ 3 14).bind fun y1=>
 some y1
def bL (kind_:Int):Option (Int×Int):=
 (some (decide (kind_≤8))).bind fun a8=>
 cond a8
 ((subO kind_ 3).bind fun a0=>
 (idxO ([(1,2),(1,0),(2,1),(0,1),(1,1),(1,1)]:List (Int×Int)) a0).bind fun a1=>
 some (a1.1,a1.2))
 ((subO kind_ 9).bind fun a2=>
 (idxO ([(1,2),(1,0),(2,1),(0,1),(1,1),(1,1)]:List (Int×Int)) a2).bind fun a3=>
 some (a3.2,a3.1))
def kM (kind_:Int):Option Bool:=
 ((some (decide (kind_=7))).bind fun a0=>
 cond a0
 (some true)
 ((some (decide (kind_=13))).bind fun a1=>
 some a1)).bind fun (s7:Bool)=>
 some s7
def dO (kind_:Int) (value_:Int):Option Bool:=
 (kM kind_).bind fun y1=>
 cond y1
 ((mG value_ 0 96).bind fun y8=>
 some y8)
 ((some (decide (value_=0))).bind fun a5=>
 some a5)
def pI (n_:Int×Int×ByteArray):Option ((Int×Int)×Bool):=
 (some (!decide ((n_.2.2:ByteArray)=.empty))).bind fun a7=>
 cond a7
 (some ((0,0),false))
 ((some (decide (n_.1=1))).bind fun a0=>
 cond a0
 ((mG n_.2.1 0 12).bind fun y0=>
 some ((n_.2.1,n_.2.1),y0))
 ((some (decide (n_.1=2))).bind fun a1=>
 cond a1
 ((some (decide (n_.2.1=0))).bind fun a2=>
 some ((2,2),a2))
 ((iM n_.1).bind fun y1=>
 cond y1
 ((bL n_.1).bind fun y2=>
 (dO n_.1 n_.2.1).bind fun y3=>
 some ((y2.1,y2.2),y3))
 (some ((0,0),false)))))
def gW (nodes_:List (Int×Int×ByteArray)):Option ((Int×Int)×Bool):=
 (mG ((nodes_.length:Nat):Int) 1 400).bind fun y5=>
 (some (!y5)).bind fun a8=>
 cond a8
 (some ((0,0),false))
 (eC (lC (fun (k0:Nat) (s0:List (Int×Int))=>
 eC ((idxO nodes_ ((k0:Nat):Int)).bind fun a0=>
 ((some (!decide (a0.1=15))).bind fun a1=>
 cond a1
 ((some (!decide (a0.1=16))).bind fun a2=>
 some a2)
 (some false)).bind fun (s1:Bool)=>
 cond s1
 ((pI (a0.1,a0.2.1,a0.2.2)).bind fun y0=>
 (some (!y0.2)).bind fun a3=>
 cond a3
 (some (.inr (.inr ((0,0),false))))
 ((tA s0 [(y0.1.1,y0.1.2)]).bind fun a4=>
 some (.inl a4)))
 (((some (!decide (a0.2.1=0))).bind fun a5=>
 cond a5
 (some true)
 ((some (!decide ((a0.2.2:ByteArray)=.empty))).bind fun a6=>
 cond a6
 (some true)
 ((some (decide (((s0.length:Nat):Int)<2))).bind fun a7=>
 some a7))).bind fun (s2:Bool)=>
 cond s2
 (some (.inr (.inr ((0,0),false))))
 ((subO ((s0.length:Nat):Int) 1).bind fun a9=>
 ((subO a9 1).bind fun a10=>
 (idxO s0 a10).bind fun a11=>
 (idxO s0 a9).bind fun a12=>
 (fL a0.1 (a11.1,a11.2) (a12.1,a12.2)).bind fun y1=>
 some (y1.1.1,y1.1.2,y1.2)).bind fun (s3:Int×Int×Bool)=>
 (some (!s3.2.2)).bind fun a13=>
 cond a13
 (some (.inr (.inr ((0,0),false))))
 ((subO a9 1).bind fun a14=>
 (fB s0 0 a14).bind fun a15=>
 (tA a15 [(s3.1,s3.2.1)]).bind fun a16=>
 some (.inl a16))))) fun (s4:List (Int×Int))=>
 some (.inl s4)) nodes_.length 0 ([]:List (Int×Int))) fun (s5:List (Int×Int))=>
 (idxO s5 0).bind fun a17=>
 (some (decide (((s5.length:Nat):Int)=1))).bind fun a18=>
 some ((a17.1,a17.2),a18))
def iO (t_:(List (Int×Int×ByteArray))):Option ((Int×Int)×Bool):=
 (gW t_).bind fun y8=>
 some ((y8.1.1,y8.1.2),y8.2)
def gL (b_:Int):Option Bool:=
 ((some (decide ((97:Int)≤b_))).bind fun a0=>
 cond a0
 ((some (decide ((b_:Int)≤122))).bind fun a1=>
 some a1)
 (some false)).bind fun (s7:Bool)=>
 some s7
def uW :Option (List ByteArray):=
 some [.empty,⟨#[105,100]⟩,⟨#[115,119,97,112]⟩,⟨#[99,111,112,121]⟩,⟨#[100,105,115,99,97,114,100]⟩,⟨#[97,100,100]⟩,⟨#[122,101,114,111]⟩,⟨#[115,99,97,108,101]⟩,⟨#[100,101,108,97,121]⟩,⟨#[99,111,99,111,112,121]⟩,⟨#[99,111,100,105,115,99,97,114,100]⟩,⟨#[99,111,97,100,100]⟩,⟨#[99,111,122,101,114,111]⟩,⟨#[99,111,115,99,97,108,101]⟩,⟨#[99,111,100,101,108,97,121]⟩]
def eY (word_:ByteArray):Option Int:=
 (uW).bind fun y1=>
 eC (lC (fun (k6:Nat) (_:Unit)=>
 (idxO y1 ((k6:Nat):Int)).bind fun a0=>
 (some (decide ((a0:ByteArray)=word_))).bind fun a1=>
 cond a1
 (some (.inr ((k6:Nat):Int)))
 (some (.inl ()))) y1.length 0 ()) fun (_:Unit)=>
 some 17
def mM (b_:Int):Option Bool:=
 ((some (decide ((48:Int)≤b_))).bind fun a0=>
 cond a0
 ((some (decide ((b_:Int)≤57))).bind fun a1=>
 some a1)
 (some false)).bind fun (s7:Bool)=>
 some s7
def mS (s_:ByteArray):Option Bool:=
 ((mG ((s_.size:Nat):Int) 1 8).bind fun y0=>
 (some (!y0)).bind fun a0=>
 cond a0
 (some true)
 ((vC s_ 0).bind fun a1=>
 (gL a1).bind fun y1=>
 (some (!y1)).bind fun a2=>
 cond a2
 (some true)
 ((eY s_).bind fun y2=>
 (some (!decide (y2=17))).bind fun a3=>
 some a3))).bind fun (s0:Bool)=>
 cond s0
 (some false)
 ((cI ((s_.size:Nat):Int)).bind fun _=>
 eC (lC (fun (k0:Nat) (_:Unit)=>
 ((vC s_ ((k0:Nat):Int)).bind fun a4=>
 (gL a4).bind fun y3=>
 (some (!y3)).bind fun a5=>
 cond a5
 ((vC s_ ((k0:Nat):Int)).bind fun a6=>
 (mM a6).bind fun y4=>
 (some (!y4)).bind fun a7=>
 some a7)
 (some false)).bind fun (s1:Bool)=>
 cond s1
 (some (.inr false))
 (some (.inl ()))) (((s_.size:Nat):Int).toNat) 0 ()) fun (_:Unit)=>
 some true)
def nG (n_:Int):Option (List Int):=
 (mD n_ (0:Int)).bind fun a1=>
 some a1
def yI (n_:Int):Option (List Int):=
 (nG n_).bind fun y1=>
 (forS (fun (k6:Nat) (s0:List Int)=>
 (setO s0 ((k6:Nat):Int) ((k6:Nat):Int)).bind fun a0=>
 some a0) y1.length 0 y1).bind fun (s1:List Int)=>
 some s1
def BH_ (v_:List Int) (at_:List Int):Option (List Int):=
 (iJ 0 ((at_.length:Nat):Int) (0:Int)).bind fun a3=>
 (forS (fun (k8:Nat) (s0:List Int)=>
 (idxO at_ ((k8:Nat):Int)).bind fun a0=>
 (idxO v_ a0).bind fun a1=>
 (tA s0 [a1]).bind fun a2=>
 some a2) at_.length 0 a3).bind fun (s1:List Int)=>
 some s1
def tI (list_:List Int) (to_:List Int):Option (List Int):=
 (BH_ to_ list_).bind fun y3=>
 some y3
def gO (g_:Int×(List (Int×Int×List Int×List Int))×List Int×List Int) (count_:Int) (to_:List Int):Option (Int×(List (Int×Int×List Int×List Int))×List Int×List Int):=
 ((tI g_.2.2.1 to_).bind fun y0=>
 (tI g_.2.2.2 to_).bind fun y1=>
 some (count_,y0,y1)).bind fun (s0:Int×List Int×List Int)=>
 (forS (fun (k0:Nat) (s1:List (Int×Int×List Int×List Int))=>
 (idxO g_.2.1 ((k0:Nat):Int)).bind fun a0=>
 (tI a0.2.2.1 to_).bind fun y2=>
 (tI a0.2.2.2 to_).bind fun y3=>
 (tA s1 [(a0.1,a0.2.1,y2,y3)]).bind fun a1=>
 some a1) g_.2.1.length 0 []).bind fun (s2:List (Int×Int×List Int×List Int))=>
 some (s0.1,s2,s0.2.1,s0.2.2)
def vM (first_:Int) (n_:Int):Option (List Int):=
 (yI n_).bind fun y1=>
 (forS (fun (k6:Nat) (s0:List Int)=>
 (idxO s0 ((k6:Nat):Int)).bind fun a0=>
 (sA a0 first_).bind fun a1=>
 (setO s0 ((k6:Nat):Int) a1).bind fun a2=>
 some a2) y1.length 0 y1).bind fun (s1:List Int)=>
 some s1
def rR (g_:Int×(List (Int×Int×List Int×List Int))×List Int×List Int) (h_:Int×(List (Int×Int×List Int×List Int))×List Int×List Int):Option (Int×(List (Int×Int×List Int×List Int))×List Int×List Int):=
 (sA g_.1 h_.1).bind fun a0=>
 ((yI g_.1).bind fun y0=>
 (gO (g_.1,g_.2.1,g_.2.2.1,g_.2.2.2) g_.1 y0).bind fun y1=>
 some (y1.1,y1.2.1,y1.2.2.1,y1.2.2.2)).bind fun (s0:Int×(List (Int×Int×List Int×List Int))×List Int×List Int)=>
 ((vM g_.1 h_.1).bind fun y2=>
 (gO (h_.1,h_.2.1,h_.2.2.1,h_.2.2.2) h_.1 y2).bind fun y3=>
 some (y3.1,y3.2.1,y3.2.2.1,y3.2.2.2)).bind fun (s1:Int×(List (Int×Int×List Int×List Int))×List Int×List Int)=>
 (tA s0.2.1 s1.2.1).bind fun a1=>
 some (a0,a1,[],[])
def yJ (list_:List Int):Option (List Int):=
 (tA ([]:List Int) list_).bind fun a5=>
 some a5
def rJ (c_:List Int) (w_:Int):Option Int:=
 (mC (fun (s0:Int)=>
 (idxO c_ s0).bind fun a0=>
 (some (!decide (a0=s0))).bind fun a1=>
 cond a1
 ((idxO c_ s0).bind fun a2=>
 some (.inl a2))
 (some (.inr s0))) w_).bind fun (s1:Int)=>
 some s1
def qR (c_:List Int) (v_:Int) (w_:Int):Option (List Int):=
 (rJ c_ v_).bind fun y2=>
 (rJ c_ w_).bind fun y5=>
 (some (aO y2 y5)).bind fun a8=>
 (some (zN y2 y5)).bind fun a0=>
 (setO c_ a8 a0).bind fun a1=>
 some a1
def sJ (list_:List Int) (c0_:List Bool) (c1_:List Int):Option (List Bool):=
 (forS (fun (k6:Nat) (s0:List Bool)=>
 (idxO list_ ((k6:Nat):Int)).bind fun a0=>
 (rJ c1_ a0).bind fun y0=>
 (setO s0 y0 true).bind fun a1=>
 some a1) list_.length 0 c0_).bind fun (s1:List Bool)=>
 some s1
def dW (g_:Int×(List (Int×Int×List Int×List Int))×List Int×List Int) (d0_:List Bool) (d1_:List Int):Option (List Bool):=
 (sJ g_.2.2.1 d0_ d1_).bind fun y0=>
 (sJ g_.2.2.2 y0 d1_).bind fun y1=>
 (forS (fun (k0:Nat) (s0:List Bool)=>
 (idxO g_.2.1 ((k0:Nat):Int)).bind fun a0=>
 (sJ a0.2.2.1 s0 d1_).bind fun y2=>
 (sJ a0.2.2.2 y2 d1_).bind fun y3=>
 some y3) g_.2.1.length 0 y1).bind fun (s1:List Bool)=>
 some s1
def sW (g_:Int×(List (Int×Int×List Int×List Int))×List Int×List Int) (pairs_:List (Int×Int)):Option ((Int×(List (Int×Int×List Int×List Int))×List Int×List Int)×List Int):=
 (yI g_.1).bind fun y0=>
 (forS (fun (k0:Nat) (s0:List Int)=>
 (idxO pairs_ ((k0:Nat):Int)).bind fun a0=>
 (qR s0 a0.1 a0.2).bind fun y1=>
 some y1) pairs_.length 0 y0).bind fun (s1:List Int)=>
 (mD g_.1 (false:Bool)).bind fun a1=>
 (dW (g_.1,g_.2.1,g_.2.2.1,g_.2.2.2) a1 s1).bind fun y2=>
 (nG g_.1).bind fun y3=>
 (forS (fun (k1:Nat) (s2:List Int×Int)=>
 (rJ s1 ((k1:Nat):Int)).bind fun y4=>
 (idxO y2 y4).bind fun a2=>
 (some (!a2)).bind fun a3=>
 cond a3
 ((setO s2.1 ((k1:Nat):Int) (-1)).bind fun a4=>
 some (a4,s2.2))
 ((some (decide (y4<((k1:Nat):Int)))).bind fun a5=>
 cond a5
 ((idxO s2.1 y4).bind fun a6=>
 (setO s2.1 ((k1:Nat):Int) a6).bind fun a7=>
 some (a7,s2.2))
 ((setO s2.1 ((k1:Nat):Int) s2.2).bind fun a8=>
 (sA s2.2 1).bind fun a9=>
 some (a8,a9)))) y3.length 0 (y3,0)).bind fun (s3:List Int×Int)=>
 (gO (g_.1,g_.2.1,g_.2.2.1,g_.2.2.2) s3.2 s3.1).bind fun y5=>
 some ((y5.1,y5.2.1,y5.2.2.1,y5.2.2.2),s3.1)
def kO (a_:Int×(List (Int×Int×List Int×List Int))×List Int×List Int) (b_:Int×(List (Int×Int×List Int×List Int))×List Int×List Int):Option (Int×(List (Int×Int×List Int×List Int))×List Int×List Int):=
 (rR (a_.1,a_.2.1,a_.2.2.1,a_.2.2.2) (b_.1,b_.2.1,b_.2.2.1,b_.2.2.2)).bind fun y0=>
 (forS (fun (k0:Nat) (s0:List (Int×Int))=>
 (idxO a_.2.2.2 ((k0:Nat):Int)).bind fun a0=>
 (idxO b_.2.2.1 ((k0:Nat):Int)).bind fun a1=>
 (sA a_.1 a1).bind fun a2=>
 (tA s0 [(a0,a2)]).bind fun a3=>
 some a3) a_.2.2.2.length 0 ([]:List (Int×Int))).bind fun (s1:List (Int×Int))=>
 (yJ a_.2.2.1).bind fun y1=>
 (vM a_.1 b_.1).bind fun y2=>
 (tI b_.2.2.2 y2).bind fun y3=>
 (sW (y0.1,y0.2.1,y1,y3) s1).bind fun y4=>
 some (y4.1.1,y4.1.2.1,y4.1.2.2.1,y4.1.2.2.2)
def vG (lists_:List (List Int)):Option (List Int):=
 (forS (fun (k5:Nat) (s0:List Int)=>
 (idxO lists_ ((k5:Nat):Int)).bind fun a0=>
 (tA s0 a0).bind fun a1=>
 some a1) lists_.length 0 ([]:List Int)).bind fun (s1:List Int)=>
 some s1
def lO (a_:Int×(List (Int×Int×List Int×List Int))×List Int×List Int) (b_:Int×(List (Int×Int×List Int×List Int))×List Int×List Int):Option (Int×(List (Int×Int×List Int×List Int))×List Int×List Int):=
 (rR (a_.1,a_.2.1,a_.2.2.1,a_.2.2.2) (b_.1,b_.2.1,b_.2.2.1,b_.2.2.2)).bind fun y0=>
 (vM a_.1 b_.1).bind fun y1=>
 (tI b_.2.2.1 y1).bind fun y2=>
 (vG [a_.2.2.1,y2]).bind fun y3=>
 (tI b_.2.2.2 y1).bind fun y4=>
 (vG [a_.2.2.2,y4]).bind fun y5=>
 some (y0.1,y0.2.1,y3,y5)
def jW (n_:Int):Option (Int×(List (Int×Int×List Int×List Int))×List Int×List Int):=
 (yI n_).bind fun y4=>
 (yI n_).bind fun y9=>
 some (n_,[],y4,y9)
def mO (n_:Int×Int×ByteArray):Option (Int×(List (Int×Int×List Int×List Int))×List Int×List Int):=
 (some (decide (n_.1=1))).bind fun a7=>
 cond a7
 ((jW n_.2.1).bind fun y0=>
 some (y0.1,y0.2.1,y0.2.2.1,y0.2.2.2))
 ((some (decide (n_.1=2))).bind fun a0=>
 cond a0
 (some (2,[],[0,1],[1,0]))
 ((bL n_.1).bind fun y1=>
 (yI y1.1).bind fun y2=>
 (vM y1.1 y1.2).bind fun y3=>
 ((sA y1.1 y1.2).bind fun a1=>
 (yJ y2).bind fun y4=>
 (yJ y3).bind fun y5=>
 some (a1,[(n_.1,n_.2.1,y2,y3)],y4,y5)).bind fun (s0:Int×(List (Int×Int×List Int×List Int))×List Int×List Int)=>
 some (s0.1,s0.2.1,s0.2.2.1,s0.2.2.2)))
def sR (e_:Int×Int×List Int×List Int):Option Bool:=
 ((iM e_.1).bind fun y0=>
 (some (!y0)).bind fun a0=>
 cond a0
 (some true)
 ((dO e_.1 e_.2.1).bind fun y1=>
 (some (!y1)).bind fun a1=>
 some a1)).bind fun (s0:Bool)=>
 cond s0
 (some false)
 ((bL e_.1).bind fun y2=>
 (some (decide (([y2.1,y2.2]:List Int)=[((e_.2.2.1.length:Nat):Int),((e_.2.2.2.length:Nat):Int)]))).bind fun a2=>
 some a2)
def nI (list_:List Int) (c0_:Int×(List (Int×Int×List Int×List Int))×List Int×List Int) (c1_:Bool) (c2_:List Bool) (c3_:Int):Option (Bool×List Bool×Int):=
 (forS (fun (k0:Nat) (s0:Bool×Int×List Bool)=>
 ((idxO list_ ((k0:Nat):Int)).bind fun a0=>
 (subO c0_.1 1).bind fun a1=>
 (mG a0 0 a1).bind fun y0=>
 (some (!y0)).bind fun a2=>
 cond a2
 (some (false,s0.2.1,s0.2.2))
 ((idxO s0.2.2 a0).bind fun a3=>
 (some (!a3)).bind fun a4=>
 cond a4
 ((setO s0.2.2 a0 true).bind fun a5=>
 (sA s0.2.1 1).bind fun a6=>
 some (s0.1,a6,a5))
 (some (s0.1,s0.2.1,s0.2.2)))).bind fun (s1:Bool×Int×List Bool)=>
 some (s1.1,s1.2.1,s1.2.2)) list_.length 0 (c1_,c3_,c2_)).bind fun (s2:Bool×Int×List Bool)=>
 some (s2.1,s2.2.2,s2.2.1)
def iR (g_:Int×(List (Int×Int×List Int×List Int))×List Int×List Int) (d0_:Int×(List (Int×Int×List Int×List Int))×List Int×List Int) (d1_:Bool) (d2_:List Bool) (d3_:Int):Option (Bool×List Bool×Int):=
 (nI g_.2.2.1 (d0_.1,d0_.2.1,d0_.2.2.1,d0_.2.2.2) d1_ d2_ d3_).bind fun y0=>
 (nI g_.2.2.2 (d0_.1,d0_.2.1,d0_.2.2.1,d0_.2.2.2) y0.1 y0.2.1 y0.2.2).bind fun y1=>
 (forS (fun (k0:Nat) (s0:Int×Bool×List Bool)=>
 (idxO g_.2.1 ((k0:Nat):Int)).bind fun a0=>
 (nI a0.2.2.1 (d0_.1,d0_.2.1,d0_.2.2.1,d0_.2.2.2) s0.2.1 s0.2.2 s0.1).bind fun y2=>
 (nI a0.2.2.2 (d0_.1,d0_.2.1,d0_.2.2.1,d0_.2.2.2) y2.1 y2.2.1 y2.2.2).bind fun y3=>
 some (y3.2.2,y3.1,y3.2.1)) g_.2.1.length 0 (y1.2.2,y1.1,y1.2.1)).bind fun (s1:Int×Bool×List Bool)=>
 some (s1.2.1,s1.2.2,s1.1)
def oI (g_:Int×(List (Int×Int×List Int×List Int))×List Int×List Int):Option Bool:=
 ((mG g_.1 0 100).bind fun y0=>
 (some (!y0)).bind fun a0=>
 cond a0
 (some true)
 ((some (decide ((60:Int)<((g_.2.1.length:Nat):Int)))).bind fun a1=>
 cond a1
 (some true)
 ((some (decide ((12:Int)<((g_.2.2.1.length:Nat):Int)))).bind fun a2=>
 cond a2
 (some true)
 ((some (decide ((12:Int)<((g_.2.2.2.length:Nat):Int)))).bind fun a3=>
 some a3)))).bind fun (s0:Bool)=>
 cond s0
 (some false)
 (eC (lC (fun (k0:Nat) (_:Unit)=>
 (idxO g_.2.1 ((k0:Nat):Int)).bind fun a4=>
 (sR (a4.1,a4.2.1,a4.2.2.1,a4.2.2.2)).bind fun y1=>
 (some (!y1)).bind fun a5=>
 cond a5
 (some (.inr false))
 (some (.inl ()))) g_.2.1.length 0 ()) fun (_:Unit)=>
 (mD g_.1 (false:Bool)).bind fun a6=>
 (iR (g_.1,g_.2.1,g_.2.2.1,g_.2.2.2) (g_.1,g_.2.1,g_.2.2.1,g_.2.2.2) true a6 0).bind fun y2=>
 (cond y2.1
 ((some (decide (y2.2.2=g_.1))).bind fun a7=>
 some (true,a7))
 (some (false,false))).bind fun (s1:Bool×Bool)=>
 some s1.2)
def nM (t_:(List (Int×Int×ByteArray))):Option ((Int×(List (Int×Int×List Int×List Int))×List Int×List Int)×Bool):=
 eC (lC (fun (k0:Nat) (s0:List (Int×(List (Int×Int×List Int×List Int))×List Int×List Int))=>
 (idxO t_ ((k0:Nat):Int)).bind fun a0=>
 (subO ((s0.length:Nat):Int) 1).bind fun a1=>
 (some (decide (a0.1=15))).bind fun a2=>
 cond a2
 ((subO a1 1).bind fun a3=>
 (idxO s0 a3).bind fun a4=>
 (idxO s0 a1).bind fun a5=>
 (kO (a4.1,a4.2.1,a4.2.2.1,a4.2.2.2) (a5.1,a5.2.1,a5.2.2.1,a5.2.2.2)).bind fun y0=>
 (subO a1 1).bind fun a6=>
 (fB s0 0 a6).bind fun a7=>
 (oI (y0.1,y0.2.1,y0.2.2.1,y0.2.2.2)).bind fun y1=>
 (some (!y1)).bind fun a8=>
 cond a8
 (some (.inr ((0,[],[],[]),false)))
 ((tA a7 [(y0.1,y0.2.1,y0.2.2.1,y0.2.2.2)]).bind fun a9=>
 some (.inl a9)))
 ((some (decide (a0.1=16))).bind fun a10=>
 cond a10
 ((subO a1 1).bind fun a11=>
 (idxO s0 a11).bind fun a12=>
 (idxO s0 a1).bind fun a13=>
 (lO (a12.1,a12.2.1,a12.2.2.1,a12.2.2.2) (a13.1,a13.2.1,a13.2.2.1,a13.2.2.2)).bind fun y2=>
 (subO a1 1).bind fun a14=>
 (fB s0 0 a14).bind fun a15=>
 (oI (y2.1,y2.2.1,y2.2.2.1,y2.2.2.2)).bind fun y3=>
 (some (!y3)).bind fun a16=>
 cond a16
 (some (.inr ((0,[],[],[]),false)))
 ((tA a15 [(y2.1,y2.2.1,y2.2.2.1,y2.2.2.2)]).bind fun a17=>
 some (.inl a17)))
 ((mO (a0.1,a0.2.1,a0.2.2)).bind fun y4=>
 (oI (y4.1,y4.2.1,y4.2.2.1,y4.2.2.2)).bind fun y5=>
 (some (!y5)).bind fun a18=>
 cond a18
 (some (.inr ((0,[],[],[]),false)))
 ((tA s0 [(y4.1,y4.2.1,y4.2.2.1,y4.2.2.2)]).bind fun a19=>
 some (.inl a19))))) t_.length 0 ([]:List (Int×(List (Int×Int×List Int×List Int))×List Int×List Int))) fun (s1:List (Int×(List (Int×Int×List Int×List Int))×List Int×List Int))=>
 (idxO s1 0).bind fun a20=>
 some ((a20.1,a20.2.1,a20.2.2.1,a20.2.2.2),true)
def gY (r_:ByteArray×(List (Int×Int×ByteArray))×(List (Int×Int×ByteArray))):Option Bool:=
 (iO r_.2.1).bind fun y6=>
 (iO r_.2.2).bind fun y0=>
 ((some (!y6.2)).bind fun a0=>
 cond a0
 (some true)
 ((some (!y0.2)).bind fun a1=>
 cond a1
 (some true)
 ((some (!decide (([y6.1.1,y6.1.2]:List Int)=[y0.1.1,y0.1.2]))).bind fun a2=>
 cond a2
 (some true)
 ((mS r_.1).bind fun y1=>
 (some (!y1)).bind fun a3=>
 some a3)))).bind fun (s0:Bool)=>
 cond s0
 (some false)
 ((nM r_.2.1).bind fun y2=>
 (nM r_.2.2).bind fun y3=>
 (cond y2.2
 (some y3.2)
 (some false)).bind fun (s1:Bool)=>
 some s1)
def yR (p_:Int):Option Bool:=
 ((some (decide (p_<2))).bind fun a0=>
 cond a0
 (some true)
 ((some (decide ((97:Int)<p_))).bind fun a1=>
 some a1)).bind fun (s8:Bool)=>
 cond s8
 (some false)
 ((cI 4).bind fun _=>
 eC (lC (fun (k0:Nat) (_:Unit)=>
 (idxO [2,3,5,7] ((k0:Nat):Int)).bind fun a2=>
 ((xD p_ a2).bind fun a3=>
 (some (decide (a3=0))).bind fun a4=>
 cond a4
 ((some (!decide (p_=a2))).bind fun a5=>
 some a5)
 (some false)).bind fun (s0:Bool)=>
 cond s0
 (some (.inr false))
 (some (.inl ()))) ((4:Int).toNat) 0 ()) fun (_:Unit)=>
 some true)
def lW (t_:(List (Int×Int×ByteArray))):Option Bool:=
 (iO t_).bind fun y5=>
 some y5.2
def fO (t_:(List (Int×Int×ByteArray))) (p_:Int):Option Bool:=
 ((yR p_).bind fun y0=>
 (some (!y0)).bind fun a0=>
 cond a0
 (some true)
 ((lW t_).bind fun y1=>
 (some (!y1)).bind fun a1=>
 some a1)).bind fun (s0:Bool)=>
 cond s0
 (some false)
 (eC (lC (fun (k0:Nat) (_:Unit)=>
 (idxO t_ ((k0:Nat):Int)).bind fun a2=>
 ((kM a2.1).bind fun y2=>
 cond y2
 ((some (decide (p_≤a2.2.1))).bind fun a3=>
 some a3)
 (some false)).bind fun (s1:Bool)=>
 cond s1
 (some (.inr false))
 (some (.inl ()))) t_.length 0 ()) fun (_:Unit)=>
 some true)
def iY (p_:Int) (r_:ByteArray×(List (Int×Int×ByteArray))×(List (Int×Int×ByteArray))):Option Bool:=
 ((gY (r_.1,r_.2.1,r_.2.2)).bind fun y0=>
 cond y0
 ((fO r_.2.1 p_).bind fun y1=>
 cond y1
 ((fO r_.2.2 p_).bind fun y2=>
 some y2)
 (some false))
 (some false)).bind fun (s0:Bool)=>
 some s0
def zR (kind_:Int):Option Bool:=
 ((some (decide (kind_=8))).bind fun a0=>
 cond a0
 (some true)
 ((some (decide (kind_=14))).bind fun a1=>
 some a1)).bind fun (s7:Bool)=>
 some s7
def nR (t_:(List (Int×Int×ByteArray))) (p_:Int):Option Bool:=
 (fO t_ p_).bind fun y6=>
 (some (!y6)).bind fun a9=>
 cond a9
 (some false)
 (eC (lC (fun (k0:Nat) (_:Unit)=>
 (idxO t_ ((k0:Nat):Int)).bind fun a0=>
 (zR a0.1).bind fun y0=>
 cond y0
 (some (.inr false))
 (some (.inl ()))) t_.length 0 ()) fun (_:Unit)=>
 some true)
def fM (r_:Int×Int×List (List Int)) (row_:List Int):Option (List Int):=
 (fB row_ r_.1 ((row_.length:Nat):Int)).bind fun a6=>
 some a6
def gM (r_:Int×Int×List (List Int)) (row_:List Int):Option (List Int):=
 (fB row_ 0 r_.1).bind fun a6=>
 some a6
def xM (p_:Int) (a_:Int):Option Int:=
 (xD a_ p_).bind fun a1=>
 (some (decide (a1<0))).bind fun a3=>
 cond a3
 ((sA a1 p_).bind fun a7=>
 some a7)
 (some a1)
def xH (p_:Int) (v_:List Int) (by_:Int) (w_:List Int):Option (List Int):=
 (forS (fun (k3:Nat) (s0:List Int)=>
 (idxO w_ ((k3:Nat):Int)).bind fun a0=>
 (idxO s0 ((k3:Nat):Int)).bind fun a1=>
 (mF by_ a0).bind fun a2=>
 (sA a1 a2).bind fun a3=>
 (xM p_ a3).bind fun y0=>
 (setO s0 ((k3:Nat):Int) y0).bind fun a4=>
 some a4) w_.length 0 v_).bind fun (s1:List Int)=>
 some s1
def nS (list_:List (List Int)):Option (List (List Int)):=
 (iJ 0 ((list_.length:Nat):Int) ([]:List Int)).bind fun a2=>
 (forS (fun (k7:Nat) (s0:List (List Int))=>
 (idxO list_ ((k7:Nat):Int)).bind fun a0=>
 (yJ a0).bind fun y0=>
 (tA s0 [y0]).bind fun a1=>
 some a1) list_.length 0 a2).bind fun (s1:List (List Int))=>
 some s1
def nL (n_:Int) (at_:Int):Option (List Int):=
 (nG n_).bind fun y1=>
 (setO y1 at_ 1).bind fun a0=>
 some a0
def kW (n_:Int):Option (List (List Int)):=
 (cI n_).bind fun _=>
 (forS (fun (k4:Nat) (s0:List (List Int))=>
 (nL n_ ((k4:Nat):Int)).bind fun y0=>
 (tA s0 [y0]).bind fun a0=>
 some a0) n_.toNat 0 ([]:List (List Int))).bind fun (s1:List (List Int))=>
 some s1
def Cd_ (yes_:Bool):Option Int:=
 cond yes_
 (some 1)
 (some 0)
def BQ_ (p_:Int) (a_:Int) (n_:Int):Option Int:=
 (xD 1 p_).bind fun a1=>
 (mC (fun (s0:Int×Int×Int)=>
 (some (decide ((0:Int)<s0.2.1))).bind fun a0=>
 cond a0
 (((xD s0.2.1 2).bind fun a2=>
 (some (decide (a2=1))).bind fun a3=>
 cond a3
 ((mF s0.2.2 s0.1).bind fun a4=>
 (xD a4 p_).bind fun a5=>
 some a5)
 (some s0.2.2)).bind fun (s1:Int)=>
 (mF s0.1 s0.1).bind fun a6=>
 (xD a6 p_).bind fun a7=>
 (quoO s0.2.1 2).bind fun a8=>
 some (.inl (a7,a8,s1)))
 (some (.inr s0.2.2))) (a_,n_,a1)).bind fun (s2:Int)=>
 some s2
def lX (p_:Int) (a_:Int):Option Int:=
 (subO p_ 2).bind fun a1=>
 (some (decide (p_=2))).bind fun a3=>
 (Cd_ a3).bind fun y5=>
 (sA a1 y5).bind fun a8=>
 (BQ_ p_ a_ a8).bind fun y0=>
 some y0
def eM (o_:Int×Int×Int×Int) (p_:Int) (rows_:List (List Int)):Option (List (List Int)):=
 (some (decide (o_.1=0))).bind fun a5=>
 cond a5
 ((idxO rows_ o_.2.2.1).bind fun a0=>
 (idxO rows_ o_.2.1).bind fun a1=>
 (cM rows_ o_.2.1 o_.2.2.1).bind fun a2=>
 some a2)
 ((some (decide (o_.1=1))).bind fun a8=>
 cond a8
 ((lX p_ o_.2.2.2).bind fun y0=>
 (idxO rows_ o_.2.1).bind fun a3=>
 (forS (fun (k0:Nat) (s0:List Int)=>
 (idxO s0 ((k0:Nat):Int)).bind fun a4=>
 (mF a4 y0).bind fun a6=>
 (xD a6 p_).bind fun a7=>
 (setO s0 ((k0:Nat):Int) a7).bind fun a9=>
 some a9) a3.length 0 a3).bind fun (s1:List Int)=>
 (setO rows_ o_.2.1 s1).bind fun a10=>
 some a10)
 ((some (decide (o_.1=2))).bind fun a12=>
 cond a12
 ((idxO rows_ o_.2.1).bind fun a13=>
 (negO o_.2.2.2).bind fun a14=>
 (idxO rows_ o_.2.2.1).bind fun a15=>
 (xH p_ a13 a14 a15).bind fun y1=>
 (neqO o_.2.1 o_.2.2.1).bind fun _=>
 (setO rows_ o_.2.1 y1).bind fun a16=>
 some a16)
 (some rows_)))
def fH (o_:Int×Int×Int×Int) (c0_:Int) (c1_:List (List Int)) (c2_:List (List Int)):Option (List (List Int)×List (List Int)):=
 (some (decide (([o_.1,o_.2.1,o_.2.2.1,o_.2.2.2]:List Int)=[0,o_.2.1,o_.2.1,0]))).bind fun a9=>
 cond a9
 (some (c1_,c2_))
 ((eM (o_.1,o_.2.1,o_.2.2.1,o_.2.2.2) c0_ c1_).bind fun y0=>
 (eM (o_.1,o_.2.1,o_.2.2.1,o_.2.2.2) c0_ c2_).bind fun y1=>
 some (y0,y1))
def uR (p_:Int) (rows_:List (List Int)) (n_:Int) (also_:List (List Int)):Option (List (List Int)×List (List Int)×Int):=
 (mC (fun (s0:List (List Int)×List (List Int)×Int×Int)=>
 ((some (decide (s0.2.2.1<n_))).bind fun a0=>
 cond a0
 ((some (decide (s0.2.2.2<((s0.1.length:Nat):Int)))).bind fun a1=>
 some a1)
 (some false)).bind fun (s1:Bool)=>
 cond s1
 (((mC (fun (s2:Int)=>
 ((some (decide (s2<((s0.1.length:Nat):Int)))).bind fun a2=>
 cond a2
 ((idxO s0.1 s2).bind fun a3=>
 (idxO a3 s0.2.2.1).bind fun a4=>
 (some (decide (a4=0))).bind fun a5=>
 some a5)
 (some false)).bind fun (s3:Bool)=>
 cond s3
 ((sA s2 1).bind fun a6=>
 some (.inl a6))
 (some (.inr s2))) s0.2.2.2).bind fun (s4:Int)=>
 (some (decide (s4=((s0.1.length:Nat):Int)))).bind fun a7=>
 cond a7
 (some (s0.1,s0.2.1,s0.2.2.2))
 ((fH (0,s0.2.2.2,s4,0) p_ s0.1 s0.2.1).bind fun y0=>
 (idxO y0.1 s0.2.2.2).bind fun a8=>
 (idxO a8 s0.2.2.1).bind fun a9=>
 (fH (1,s0.2.2.2,0,a9) p_ y0.1 y0.2).bind fun y1=>
 (forS (fun (k0:Nat) (s5:List (List Int)×List (List Int))=>
 ((some (!decide (((k0:Nat):Int)=s0.2.2.2))).bind fun a10=>
 cond a10
 ((idxO s5.1 ((k0:Nat):Int)).bind fun a11=>
 (idxO a11 s0.2.2.1).bind fun a12=>
 (some (!decide (a12=0))).bind fun a13=>
 some a13)
 (some false)).bind fun (s6:Bool)=>
 cond s6
 ((idxO s5.1 ((k0:Nat):Int)).bind fun a14=>
 (idxO a14 s0.2.2.1).bind fun a15=>
 (fH (2,((k0:Nat):Int),s0.2.2.2,a15) p_ s5.1 s5.2).bind fun y2=>
 some (y2.1,y2.2))
 (some (s5.1,s5.2))) y1.1.length 0 (y1.1,y1.2)).bind fun (s7:List (List Int)×List (List Int))=>
 (sA s0.2.2.2 1).bind fun a16=>
 some (s7.1,s7.2,a16))).bind fun (s8:List (List Int)×List (List Int)×Int)=>
 (sA s0.2.2.1 1).bind fun a17=>
 some (.inl (s8.1,s8.2.1,a17,s8.2.2)))
 (some (.inr (s0.1,s0.2.1,s0.2.2.2)))) (rows_,also_,0,0)).bind fun (s9:List (List Int)×List (List Int)×Int)=>
 some (s9.1,s9.2.1,s9.2.2)
def xR (p_:Int) (rows_:List (List Int)) (n_:Int):Option (List (List Int)):=
 (nS rows_).bind fun y2=>
 (mD ((y2.length:Nat):Int) ([]:List Int)).bind fun a7=>
 (uR p_ y2 n_ a7).bind fun y0=>
 (fB y0.1 0 y0.2.2).bind fun a0=>
 some a0
def fY (p_:Int) (rows_:List (List Int)) (n_:Int):Option (List (List Int)):=
 (nS rows_).bind fun y2=>
 (kW ((rows_.length:Nat):Int)).bind fun y7=>
 (uR p_ y2 n_ y7).bind fun y0=>
 (fB y0.2.1 y0.2.2 ((y0.2.1.length:Nat):Int)).bind fun a0=>
 (xR p_ a0 ((rows_.length:Nat):Int)).bind fun y1=>
 some y1
def oM (p_:Int) (x_:List Int) (rows_:List (List Int)) (n_:Int):Option (List Int):=
 (nG n_).bind fun y3=>
 (forS (fun (k8:Nat) (s0:List Int)=>
 (idxO rows_ ((k8:Nat):Int)).bind fun a0=>
 (idxO x_ ((k8:Nat):Int)).bind fun a1=>
 (xH p_ s0 a1 a0).bind fun y0=>
 some y0) rows_.length 0 y3).bind fun (s1:List Int)=>
 some s1
def uJ (p_:Int) (left_:Int) (right_:Int) (rows_:List (List Int)):Option (Int×Int×List (List Int)):=
 (sA left_ right_).bind fun a5=>
 (xR p_ rows_ a5).bind fun y7=>
 some (left_,right_,y7)
def eR (r_:Int×Int×List (List Int)) (d0_:Int×Int×List (List Int)):Option (List (List Int)):=
 (forS (fun (k9:Nat) (s0:List (List Int))=>
 (idxO r_.2.2 ((k9:Nat):Int)).bind fun a0=>
 (fM (d0_.1,d0_.2.1,d0_.2.2) a0).bind fun y0=>
 (tA s0 [y0]).bind fun a1=>
 some a1) r_.2.2.length 0 ([]:List (List Int))).bind fun (s1:List (List Int))=>
 some s1
def gR (r_:Int×Int×List (List Int)) (d0_:Int×Int×List (List Int)):Option (List (List Int)):=
 (forS (fun (k9:Nat) (s0:List (List Int))=>
 (idxO r_.2.2 ((k9:Nat):Int)).bind fun a0=>
 (gM (d0_.1,d0_.2.1,d0_.2.2) a0).bind fun y0=>
 (tA s0 [y0]).bind fun a1=>
 some a1) r_.2.2.length 0 ([]:List (List Int))).bind fun (s1:List (List Int))=>
 some s1
def rO (p_:Int) (a_:Int×Int×List (List Int)) (b_:Int×Int×List (List Int)):Option (Int×Int×List (List Int)):=
 (eR (a_.1,a_.2.1,a_.2.2) (a_.1,a_.2.1,a_.2.2)).bind fun y0=>
 (gR (b_.1,b_.2.1,b_.2.2) (b_.1,b_.2.1,b_.2.2)).bind fun y1=>
 (forS (fun (k0:Nat) (s0:List (List Int))=>
 (idxO y1 ((k0:Nat):Int)).bind fun a0=>
 (nG ((a0.length:Nat):Int)).bind fun y2=>
 (xH p_ y2 (-1) a0).bind fun y3=>
 (tA s0 [y3]).bind fun a1=>
 some a1) y1.length 0 y0).bind fun (s1:List (List Int))=>
 ((gR (a_.1,a_.2.1,a_.2.2) (a_.1,a_.2.1,a_.2.2)).bind fun y4=>
 (eR (b_.1,b_.2.1,b_.2.2) (b_.1,b_.2.1,b_.2.2)).bind fun y5=>
 some (y4,y5)).bind fun (s2:List (List Int)×List (List Int))=>
 (fY p_ s1 a_.2.1).bind fun y6=>
 (forS (fun (k1:Nat) (s3:List (List Int))=>
 (idxO y6 ((k1:Nat):Int)).bind fun a2=>
 (fB a2 0 ((s2.1.length:Nat):Int)).bind fun a3=>
 (oM p_ a3 s2.1 a_.1).bind fun y7=>
 (fB a2 ((s2.1.length:Nat):Int) ((a2.length:Nat):Int)).bind fun a4=>
 (oM p_ a4 s2.2 b_.2.1).bind fun y8=>
 (vG [y7,y8]).bind fun y9=>
 (tA s3 [y9]).bind fun a5=>
 some a5) y6.length 0 ([]:List (List Int))).bind fun (s4:List (List Int))=>
 (uJ p_ a_.1 b_.2.1 s4).bind fun y10=>
 some (y10.1,y10.2.1,y10.2.2)
def Bl_ (row_:List Int) (c0_:Int×Int×List (List Int)) (c1_:Int×Int×List (List Int)):Option (List Int):=
 (gM (c0_.1,c0_.2.1,c0_.2.2) row_).bind fun y7=>
 (nG c1_.1).bind fun y0=>
 (fM (c0_.1,c0_.2.1,c0_.2.2) row_).bind fun y1=>
 (nG c1_.2.1).bind fun y2=>
 (vG [y7,y0,y1,y2]).bind fun y3=>
 some y3
def fW (r_:Int×Int×List (List Int)) (d0_:Int×Int×List (List Int)) (d1_:Int×Int×List (List Int)):Option (List (List Int)):=
 (forS (fun (k0:Nat) (s0:List (List Int))=>
 (idxO r_.2.2 ((k0:Nat):Int)).bind fun a0=>
 (Bl_ a0 (d0_.1,d0_.2.1,d0_.2.2) (d1_.1,d1_.2.1,d1_.2.2)).bind fun y0=>
 (tA s0 [y0]).bind fun a1=>
 some a1) r_.2.2.length 0 ([]:List (List Int))).bind fun (s1:List (List Int))=>
 some s1
def Bk_ (row_:List Int) (c0_:Int×Int×List (List Int)) (c1_:Int×Int×List (List Int)):Option (List Int):=
 (nG c0_.1).bind fun y7=>
 (gM (c1_.1,c1_.2.1,c1_.2.2) row_).bind fun y0=>
 (nG c0_.2.1).bind fun y1=>
 (fM (c1_.1,c1_.2.1,c1_.2.2) row_).bind fun y2=>
 (vG [y7,y0,y1,y2]).bind fun y3=>
 some y3
def eW (r_:Int×Int×List (List Int)) (d0_:Int×Int×List (List Int)) (d1_:Int×Int×List (List Int)):Option (List (List Int)):=
 (forS (fun (k0:Nat) (s0:List (List Int))=>
 (idxO r_.2.2 ((k0:Nat):Int)).bind fun a0=>
 (Bk_ a0 (d0_.1,d0_.2.1,d0_.2.2) (d1_.1,d1_.2.1,d1_.2.2)).bind fun y0=>
 (tA s0 [y0]).bind fun a1=>
 some a1) r_.2.2.length 0 ([]:List (List Int))).bind fun (s1:List (List Int))=>
 some s1
def dP (p_:Int) (a_:Int×Int×List (List Int)) (b_:Int×Int×List (List Int)):Option (Int×Int×List (List Int)):=
 (fW (a_.1,a_.2.1,a_.2.2) (a_.1,a_.2.1,a_.2.2) (b_.1,b_.2.1,b_.2.2)).bind fun y0=>
 (eW (b_.1,b_.2.1,b_.2.2) (a_.1,a_.2.1,a_.2.2) (b_.1,b_.2.1,b_.2.2)).bind fun y1=>
 (tA y0 y1).bind fun a0=>
 (sA a_.1 b_.1).bind fun a1=>
 (sA a_.2.1 b_.2.1).bind fun a2=>
 (uJ p_ a1 a2 a0).bind fun y2=>
 some (y2.1,y2.2.1,y2.2.2)
def A3_ (n_:Int):Option (Int×Int×List (List Int)):=
 (cI n_).bind fun _=>
 (forS (fun (k8:Nat) (s0:List (List Int))=>
 (nL n_ ((k8:Nat):Int)).bind fun y0=>
 (nL n_ ((k8:Nat):Int)).bind fun y1=>
 (vG [y0,y1]).bind fun y2=>
 (tA s0 [y2]).bind fun a0=>
 some a0) n_.toNat 0 []).bind fun (s1:List (List Int))=>
 some (n_,n_,s1)
def tR (kind_:Int):Option Int:=
 (mG kind_ 3 8).bind fun y1=>
 cond y1
 ((sA kind_ 9).bind fun a0=>
 (subO a0 3).bind fun a1=>
 some a1)
 ((mG kind_ 9 14).bind fun y5=>
 cond y5
 ((subO kind_ 9).bind fun a2=>
 (sA a2 3).bind fun a3=>
 some a3)
 (some kind_))
def mR (kind_:Int) (value_:Int):Option (List (List Int)):=
 (some (decide (kind_=3))).bind fun a1=>
 cond a1
 (some [[1,1,1]])
 ((some (decide (kind_=4))).bind fun a4=>
 cond a4
 (some [[1]])
 ((some (decide (kind_=5))).bind fun a7=>
 cond a7
 (some [[1,0,1],[0,1,1]])
 ((some (decide (kind_=7))).bind fun a0=>
 cond a0
 (some [[1,value_]])
 (some []))))
def Bd_ (row_:List Int) (c0_:Int×Int×List (List Int)):Option (List Int):=
 (fM (c0_.1,c0_.2.1,c0_.2.2) row_).bind fun y5=>
 (gM (c0_.1,c0_.2.1,c0_.2.2) row_).bind fun y0=>
 (vG [y5,y0]).bind fun y1=>
 some y1
def cW (r_:Int×Int×List (List Int)) (d0_:Int×Int×List (List Int)):Option (List (List Int)):=
 (forS (fun (k0:Nat) (s0:List (List Int))=>
 (idxO r_.2.2 ((k0:Nat):Int)).bind fun a0=>
 (Bd_ a0 (d0_.1,d0_.2.1,d0_.2.2)).bind fun y0=>
 (tA s0 [y0]).bind fun a1=>
 some a1) r_.2.2.length 0 ([]:List (List Int))).bind fun (s1:List (List Int))=>
 some s1
def aX (p_:Int) (r_:Int×Int×List (List Int)):Option (Int×Int×List (List Int)):=
 (cW (r_.1,r_.2.1,r_.2.2) (r_.1,r_.2.1,r_.2.2)).bind fun y9=>
 (uJ p_ r_.2.1 r_.1 y9).bind fun y0=>
 some (y0.1,y0.2.1,y0.2.2)
def cL (p_:Int) (n_:Int×Int×ByteArray):Option (Int×Int×List (List Int)):=
 (some (decide (n_.1=1))).bind fun a7=>
 cond a7
 ((A3_ n_.2.1).bind fun y0=>
 some (y0.1,y0.2.1,y0.2.2))
 ((some (decide (n_.1=2))).bind fun a0=>
 cond a0
 ((uJ p_ 2 2 [[1,0,0,1],[0,1,1,0]]).bind fun y1=>
 some (y1.1,y1.2.1,y1.2.2))
 ((some (decide ((9:Int)≤n_.1))).bind fun a1=>
 cond a1
 ((tR n_.1).bind fun y2=>
 (bL y2).bind fun y3=>
 (tR n_.1).bind fun y4=>
 (mR y4 n_.2.1).bind fun y5=>
 (uJ p_ y3.1 y3.2 y5).bind fun y6=>
 (aX p_ (y6.1,y6.2.1,y6.2.2)).bind fun y7=>
 some (y7.1,y7.2.1,y7.2.2))
 ((bL n_.1).bind fun y8=>
 (mR n_.1 n_.2.1).bind fun y9=>
 (uJ p_ y8.1 y8.2 y9).bind fun y10=>
 some (y10.1,y10.2.1,y10.2.2))))
def qM (p_:Int) (t_:(List (Int×Int×ByteArray))):Option (Int×Int×List (List Int)):=
 (forS (fun (k0:Nat) (s0:List (Int×Int×List (List Int)))=>
 (idxO t_ ((k0:Nat):Int)).bind fun a0=>
 (subO ((s0.length:Nat):Int) 1).bind fun a1=>
 (some (decide (a0.1=15))).bind fun a2=>
 cond a2
 ((subO a1 1).bind fun a3=>
 (subO a1 1).bind fun a4=>
 (idxO s0 a4).bind fun a5=>
 (idxO s0 a1).bind fun a6=>
 (fB s0 0 a3).bind fun a7=>
 (rO p_ (a5.1,a5.2.1,a5.2.2) (a6.1,a6.2.1,a6.2.2)).bind fun y0=>
 (tA a7 [(y0.1,y0.2.1,y0.2.2)]).bind fun a8=>
 some a8)
 ((some (decide (a0.1=16))).bind fun a9=>
 cond a9
 ((subO a1 1).bind fun a10=>
 (subO a1 1).bind fun a11=>
 (idxO s0 a11).bind fun a12=>
 (idxO s0 a1).bind fun a13=>
 (fB s0 0 a10).bind fun a14=>
 (dP p_ (a12.1,a12.2.1,a12.2.2) (a13.1,a13.2.1,a13.2.2)).bind fun y1=>
 (tA a14 [(y1.1,y1.2.1,y1.2.2)]).bind fun a15=>
 some a15)
 ((cL p_ (a0.1,a0.2.1,a0.2.2)).bind fun y2=>
 (tA s0 [(y2.1,y2.2.1,y2.2.2)]).bind fun a16=>
 some a16))) t_.length 0 ([]:List (Int×Int×List (List Int)))).bind fun (s1:List (Int×Int×List (List Int)))=>
 (idxO s1 0).bind fun a17=>
 some (a17.1,a17.2.1,a17.2.2)
def yW (p_:Int) (a_:(List (Int×Int×ByteArray))) (b_:(List (Int×Int×ByteArray))):Option ((Int×Int×List (List Int))×(Int×Int×List (List Int))×Bool):=
 ((nR a_ p_).bind fun y0=>
 (some (!y0)).bind fun a0=>
 cond a0
 (some true)
 ((nR b_ p_).bind fun y1=>
 (some (!y1)).bind fun a1=>
 some a1)).bind fun (s0:Bool)=>
 cond s0
 (some ((0,0,[]),(0,0,[]),false))
 (((qM p_ a_).bind fun y2=>
 (qM p_ b_).bind fun y3=>
 some (y3.1,y3.2.1,y3.2.2,y2.1,y2.2.1,y2.2.2)).bind fun (s1:Int×Int×List (List Int)×Int×Int×List (List Int))=>
 ((some (decide (s1.2.2.2.1=s1.1))).bind fun a2=>
 cond a2
 ((some (decide (s1.2.2.2.2.1=s1.2.1))).bind fun a3=>
 some (s1.2.2.2.1,s1.2.2.2.2.1,s1.2.2.2.2.2,s1.1,s1.2.1,s1.2.2.1,a3))
 (some (s1.2.2.2.1,s1.2.2.2.2.1,s1.2.2.2.2.2,s1.1,s1.2.1,s1.2.2.1,false))).bind fun (s2:Int×Int×List (List Int)×Int×Int×List (List Int)×Bool)=>
 some ((s2.1,s2.2.1,s2.2.2.1),(s2.2.2.2.1,s2.2.2.2.2.1,s2.2.2.2.2.2.1),s2.2.2.2.2.2.2))
def mX (p_:Int) (r_:ByteArray×(List (Int×Int×ByteArray))×(List (Int×Int×ByteArray))):Option ((Int×Int×List (List Int))×(Int×Int×List (List Int))×Bool):=
 (iY p_ (r_.1,r_.2.1,r_.2.2)).bind fun y0=>
 (some (!y0)).bind fun a0=>
 cond a0
 (some ((0,0,[]),(0,0,[]),false))
 ((yW p_ r_.2.1 r_.2.2).bind fun y1=>
 some ((y1.1.1,y1.1.2.1,y1.1.2.2),(y1.2.1.1,y1.2.1.2.1,y1.2.1.2.2),y1.2.2))
def A4_ (s1_:List Int) (s2_:List Int):Option Bool:=
 (some (!decide (((s1_.length:Nat):Int)=((s2_.length:Nat):Int)))).bind fun a3=>
 cond a3
 (some false)
 (eC (lC (fun (k6:Nat) (_:Unit)=>
 (idxO s1_ ((k6:Nat):Int)).bind fun a0=>
 (idxO s2_ ((k6:Nat):Int)).bind fun a1=>
 (some (!decide (a0=a1))).bind fun a2=>
 cond a2
 (some (.inr false))
 (some (.inl ()))) s1_.length 0 ()) fun (_:Unit)=>
 some true)
def AZ_ (s1_:List (List Int)) (s2_:List (List Int)):Option Bool:=
 (some (!decide (((s1_.length:Nat):Int)=((s2_.length:Nat):Int)))).bind fun a3=>
 cond a3
 (some false)
 (eC (lC (fun (k6:Nat) (_:Unit)=>
 (idxO s1_ ((k6:Nat):Int)).bind fun a0=>
 (idxO s2_ ((k6:Nat):Int)).bind fun a1=>
 (A4_ a0 a1).bind fun y0=>
 (some (!y0)).bind fun a2=>
 cond a2
 (some (.inr false))
 (some (.inl ()))) s1_.length 0 ()) fun (_:Unit)=>
 some true)
def zW (a_:List (List Int)) (b_:List (List Int)):Option Bool:=
 (AZ_ a_ b_).bind fun y3=>
 some y3
def pW (p_:Int) (r_:ByteArray×(List (Int×Int×ByteArray))×(List (Int×Int×ByteArray))):Option (Bool×Bool):=
 (mX p_ (r_.1,r_.2.1,r_.2.2)).bind fun y7=>
 (some (!y7.2.2)).bind fun a0=>
 cond a0
 (some (false,false))
 ((zW y7.1.2.2 y7.2.1.2.2).bind fun y0=>
 some (y0,true))
def dY (a_:Int×Int×ByteArray) (b_:Int×Int×ByteArray):Option Bool:=
 (some (!decide (a_.1=b_.1))).bind fun a7=>
 cond a7
 (some false)
 ((some (!decide (a_.2.1=b_.2.1))).bind fun a0=>
 cond a0
 (some false)
 ((some (!decide ((a_.2.2:ByteArray)=b_.2.2))).bind fun a1=>
 cond a1
 (some false)
 (some true)))
def kX (a_:List (Int×Int×ByteArray)) (b_:List (Int×Int×ByteArray)):Option Bool:=
 (some (!decide (((a_.length:Nat):Int)=((b_.length:Nat):Int)))).bind fun a3=>
 cond a3
 (some false)
 (eC (mC (fun (s0:Int)=>
 (some (decide (s0<((a_.length:Nat):Int)))).bind fun a0=>
 cond a0
 ((idxO a_ s0).bind fun a1=>
 (idxO b_ s0).bind fun a2=>
 (dY (a1.1,a1.2.1,a1.2.2) (a2.1,a2.2.1,a2.2.2)).bind fun y0=>
 (some (!y0)).bind fun a4=>
 cond a4
 (some (.inr (.inr false)))
 ((sA s0 1).bind fun a5=>
 some (.inl a5)))
 (some (.inr (.inl ())))) 0) fun (s1:Unit)=>
 some true)
def lS (a_:(List (Int×Int×ByteArray))) (b_:(List (Int×Int×ByteArray))):Option Bool:=
 (kX a_ b_).bind fun y9=>
 (some (!y9)).bind fun a0=>
 cond a0
 (some false)
 (some true)
def cY (a_:ByteArray×(List (Int×Int×ByteArray))×(List (Int×Int×ByteArray))) (b_:ByteArray×(List (Int×Int×ByteArray))×(List (Int×Int×ByteArray))):Option Bool:=
 (some (!decide ((a_.1:ByteArray)=b_.1))).bind fun a0=>
 cond a0
 (some false)
 ((lS a_.2.1 b_.2.1).bind fun y0=>
 (some (!y0)).bind fun a1=>
 cond a1
 (some false)
 ((lS a_.2.2 b_.2.2).bind fun y1=>
 (some (!y1)).bind fun a2=>
 cond a2
 (some false)
 (some true)))
def A1_ (aP_:Int) (aR_:ByteArray×(List (Int×Int×ByteArray))×(List (Int×Int×ByteArray))):Option Bool:=
 (aY (aR_.1,aR_.2.1,aR_.2.2) 1048576).bind fun y7=>
 (some (decide (y7<0))).bind fun a0=>
 cond a0
 (some true)
 ((cP (aR_.1,aR_.2.1,aR_.2.2)).bind fun y0=>
 (oW aP_ (y0.1,y0.2.1,y0.2.2)).bind fun y1=>
 (cP (aR_.1,aR_.2.1,aR_.2.2)).bind fun y2=>
 (pW aP_ (y2.1,y2.2.1,y2.2.2)).bind fun y3=>
 ((some (!decide (y3.1=y1.1))).bind fun a1=>
 cond a1
 (some true)
 ((some (!decide (y3.2=y1.2))).bind fun a2=>
 some a2)).bind fun (s0:Bool)=>
 cond s0
 (some false)
 ((cP (aR_.1,aR_.2.1,aR_.2.2)).bind fun y4=>
 (cY (y2.1,y2.2.1,y2.2.2) (y4.1,y4.2.1,y4.2.2)).bind fun y5=>
 (some (!y5)).bind fun a3=>
 cond a3
 (some false)
 (some true)))
end
end Go.Proofs.YtlggnmkelgplnaaGreatDoor
