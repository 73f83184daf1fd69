/-
 Partial functions, printed by a program (wip/y/gen.py): what each function of Go computes, over plain data. No program in sight. No condition.
-/
import Derived.Test.YtbofgnbanmbopaaGreatDoorZF
namespace Go.Proofs.YtbofgnbanmbopaaGreatDoor
set_option linter.unusedVariables false
noncomputable section
def eT (v_:List Int):Option (List Int):=padO 48 v_
def jS (a_:List Int) (left_:Int):Option Int:=
 (subO left_ ((a_.length:Nat):Int)).bind fun a2=>
 (some (decide (a2<0))).bind fun a4=>
 cond a4
 (some (-1))
 (some a2)
def lN (a_:List (List Int)) (left_:Int):Option Int:=
 (subO left_ ((a_.length:Nat):Int)).bind fun a2=>
 (some (decide (a2<0))).bind fun a4=>
 cond a4
 (some (-1))
 (lC (kB (fun (s0:Int×Int)=>
 (some (decide (s0.2<((a_.length:Nat):Int)))).bind fun a0=>
 cond a0
 ((bA a_ s0.2).bind fun a1=>
 (jS a1 s0.1).bind fun y0=>
 (some (decide (y0<0))).bind fun a3=>
 cond a3
 (some (.inr (.inr (-1))))
 ((yA s0.2 1).bind fun a5=>
 some (.inl (y0,a5))))
 (some (.inr (.inl s0.1)))) (a2,0)) fun (s1:Int)=>
 some s1)
def fR (a_:Int×Int×List (List Int)) (left_:Int):Option Int:=
 (lN a_.2.2 left_).bind fun y5=>
 (some (decide (y5<0))).bind fun a8=>
 cond a8
 (some (-1))
 (some y5)
def iS (a_:List Int):Option (List Int):=
 (fD ((a_.length:Nat):Int) (0:Int)).bind fun a2=>
 (kB (fun (s0:List Int×Int)=>
 (some (decide (s0.2<((a_.length:Nat):Int)))).bind fun a0=>
 cond a0
 ((bA a_ s0.2).bind fun a1=>
 (oA s0.1 s0.2 a1).bind fun a3=>
 (yA s0.2 1).bind fun a4=>
 some (.inl (a3,a4)))
 (some (.inr s0.1))) (a2,0)).bind fun (s1:List Int)=>
 some s1
def dL (a_:List (List Int)):Option (List (List Int)):=
 (fD ((a_.length:Nat):Int) ([]:List Int)).bind fun a2=>
 (kB (fun (s0:List (List Int)×Int)=>
 (some (decide (s0.2<((a_.length:Nat):Int)))).bind fun a0=>
 cond a0
 ((bA a_ s0.2).bind fun a1=>
 (iS a1).bind fun y0=>
 (oA s0.1 s0.2 y0).bind fun a3=>
 (yA s0.2 1).bind fun a4=>
 some (.inl (a3,a4)))
 (some (.inr s0.1))) (a2,0)).bind fun (s1:List (List Int))=>
 some s1
def pJ (a_:Int×Int×List (List Int)):Option (Int×Int×List (List Int)):=
 (dL a_.2.2).bind fun y0=>
 some (a_.1,a_.2.1,y0)
def aF (n_:Int) (lo_:Int) (hi_:Int):Option Bool:=
 ((some (decide (lo_≤n_))).bind fun a0=>
 cond a0
 ((some (decide (n_≤hi_))).bind fun a1=>
 some a1)
 (some false)).bind fun (s7:Bool)=>
 some s7
def tN (p_:Int):Option Bool:=
 (aF p_ 2 97).bind fun y1=>
 (some (!y1)).bind fun a4=>
 cond a4
 (some false)
 (lC (kB (fun (s0:Int)=>
 (yE s0 s0).bind fun a0=>
 (some (decide (a0≤p_))).bind fun a1=>
 cond a1
 ((gD p_ s0).bind fun a2=>
 (some (decide (a2=0))).bind fun a3=>
 cond a3
 (some (.inr (.inr false)))
 ((yA s0 1).bind fun a5=>
 some (.inl a5)))
 (some (.inr (.inl ())))) 2) fun (s1:Unit)=>
 some true)
def uG (l_:List Int) (lo_:Int) (hi_:Int):Option Bool:=
 lC (kC (fun (k2:Nat) (_:Unit)=>
 (bA l_ ((k2:Nat):Int)).bind fun a0=>
 (aF a0 lo_ hi_).bind fun y0=>
 (some (!y0)).bind fun a1=>
 cond a1
 (some (.inr false))
 (some (.inl ()))) l_.length 0 ()) fun (_:Unit)=>
 some true
def uS (p_:Int) (l_:List Int):Option Bool:=
 (subO p_ 1).bind fun a2=>
 (uG l_ 0 a2).bind fun y4=>
 some y4
def bS (p_:Int) (size_:Int) (rows_:List (List Int)):Option Bool:=
 lC (kC (fun (k2:Nat) (_:Unit)=>
 (bA rows_ ((k2:Nat):Int)).bind fun a0=>
 ((some (!decide (((a0.length:Nat):Int)=size_))).bind fun a1=>
 cond a1
 (some true)
 ((uS p_ a0).bind fun y0=>
 (some (!y0)).bind fun a2=>
 some a2)).bind fun (s0:Bool)=>
 cond s0
 (some (.inr false))
 (some (.inl ()))) rows_.length 0 ()) fun (_:Unit)=>
 some true
def mL (l_:List Int):Option (List Int):=
 (iB ([]:List Int) l_).bind fun a5=>
 some a5
def wN (p_:Int) (a_:Int):Option Int:=
 lC (kB (fun (s0:Int)=>
 (some (decide (s0<p_))).bind fun a0=>
 cond a0
 ((yE a_ s0).bind fun a1=>
 (gD a1 p_).bind fun a2=>
 (some (decide (a2=1))).bind fun a3=>
 cond a3
 (some (.inr (.inr s0)))
 ((yA s0 1).bind fun a4=>
 some (.inl a4)))
 (some (.inr (.inl ())))) 1) fun (s1:Unit)=>
 some 0
def uF (p_:Int) (a_:Int) (b_:Int):Option Int:=
 (yE a_ b_).bind fun a1=>
 (gD a1 p_).bind fun a3=>
 some a3
def wI (p_:Int) (a_:Int) (b_:Int):Option Int:=
 (yA a_ p_).bind fun a1=>
 (subO a1 b_).bind fun a3=>
 (gD a3 p_).bind fun a5=>
 some a5
def sR (p_:Int) (size_:Int) (rows_:List (List Int)):Option (List (List Int)):=
 (sA (fun (k2:Nat) (s0:List (List Int))=>
 (bA rows_ ((k2:Nat):Int)).bind fun a0=>
 (mL a0).bind fun y0=>
 (iB s0 [y0]).bind fun a1=>
 some a1) rows_.length 0 []).bind fun (s1:List (List Int))=>
 (kB (fun (s2:List (List Int)×Int×Int)=>
 ((some (decide (s2.2.2<size_))).bind fun a2=>
 cond a2
 ((some (decide (s2.2.1<((s2.1.length:Nat):Int)))).bind fun a3=>
 some a3)
 (some false)).bind fun (s3:Bool)=>
 cond s3
 (((kB (fun (s4:Int)=>
 ((some (decide (s4<((s2.1.length:Nat):Int)))).bind fun a4=>
 cond a4
 ((bA s2.1 s4).bind fun a5=>
 (bA a5 s2.2.2).bind fun a6=>
 (some (decide (a6=0))).bind fun a7=>
 some a7)
 (some false)).bind fun (s5:Bool)=>
 cond s5
 ((yA s4 1).bind fun a8=>
 some (.inl a8))
 (some (.inr s4))) s2.2.1).bind fun (s6:Int)=>
 (some (decide (s6=((s2.1.length:Nat):Int)))).bind fun a9=>
 cond a9
 (some (s2.1,s2.2.1))
 ((bA s2.1 s2.2.1).bind fun a10=>
 (bA s2.1 s6).bind fun a11=>
 (fJ s2.1 s2.2.1 s6).bind fun a12=>
 (bA a12 s2.2.1).bind fun a13=>
 (bA a13 s2.2.2).bind fun a14=>
 (wN p_ a14).bind fun y1=>
 (bA a12 s2.2.1).bind fun a15=>
 (sA (fun (k0:Nat) (s7:List (List Int))=>
 (bA s7 s2.2.1).bind fun a16=>
 (bA s7 s2.2.1).bind fun a17=>
 (bA a17 ((k0:Nat):Int)).bind fun a18=>
 (uF p_ a18 y1).bind fun y2=>
 (oA a16 ((k0:Nat):Int) y2).bind fun a19=>
 (oA s7 s2.2.1 a19).bind fun a20=>
 some a20) a15.length 0 a12).bind fun (s8:List (List Int))=>
 (sA (fun (k1:Nat) (s9:List (List Int))=>
 (((some (decide (((k1:Nat):Int)=s2.2.1))).bind fun a21=>
 cond a21
 (some true)
 ((bA s9 ((k1:Nat):Int)).bind fun a22=>
 (bA a22 s2.2.2).bind fun a23=>
 (some (decide (a23=0))).bind fun a24=>
 some a24)).bind fun (s10:Bool)=>
 cond s10
 (some s9)
 ((bA s9 ((k1:Nat):Int)).bind fun a25=>
 (bA a25 s2.2.2).bind fun a26=>
 (bA s9 ((k1:Nat):Int)).bind fun a27=>
 (sA (fun (k3:Nat) (s11:List (List Int))=>
 (bA s11 ((k1:Nat):Int)).bind fun a28=>
 (bA s11 ((k1:Nat):Int)).bind fun a29=>
 (bA s11 s2.2.1).bind fun a30=>
 (bA a29 ((k3:Nat):Int)).bind fun a31=>
 (bA a30 ((k3:Nat):Int)).bind fun a32=>
 (uF p_ a26 a32).bind fun y3=>
 (wI p_ a31 y3).bind fun y4=>
 (oA a28 ((k3:Nat):Int) y4).bind fun a33=>
 (oA s11 ((k1:Nat):Int) a33).bind fun a34=>
 some a34) a27.length 0 s9).bind fun (s12:List (List Int))=>
 some s12)).bind fun (s13:List (List Int))=>
 some s13) s8.length 0 s8).bind fun (s14:List (List Int))=>
 (yA s2.2.1 1).bind fun a35=>
 some (s14,a35))).bind fun (s15:List (List Int)×Int)=>
 (yA s2.2.2 1).bind fun a36=>
 some (.inl (s15.1,s15.2,a36)))
 (some (.inr (s2.1,s2.2.1)))) (s1,0,0)).bind fun (s16:List (List Int)×Int)=>
 (fC s16.1 0 s16.2).bind fun a37=>
 some a37
def fS (a_:List Int) (b_:List Int):Option Bool:=
 (some (!decide (((a_.length:Nat):Int)=((b_.length:Nat):Int)))).bind fun a3=>
 cond a3
 (some false)
 (lC (kC (fun (k6:Nat) (_:Unit)=>
 (bA a_ ((k6:Nat):Int)).bind fun a0=>
 (bA b_ ((k6:Nat):Int)).bind fun a1=>
 (some (!decide (a0=a1))).bind fun a2=>
 cond a2
 (some (.inr false))
 (some (.inl ()))) a_.length 0 ()) fun (_:Unit)=>
 some true)
def aS (a_:List (List Int)) (b_:List (List Int)):Option Bool:=
 (some (!decide (((a_.length:Nat):Int)=((b_.length:Nat):Int)))).bind fun a3=>
 cond a3
 (some false)
 (lC (kC (fun (k6:Nat) (_:Unit)=>
 (bA a_ ((k6:Nat):Int)).bind fun a0=>
 (bA b_ ((k6:Nat):Int)).bind fun a1=>
 (fS a0 a1).bind fun y0=>
 (some (!y0)).bind fun a2=>
 cond a2
 (some (.inr false))
 (some (.inl ()))) a_.length 0 ()) fun (_:Unit)=>
 some true)
def cS (p_:Int) (s_:Int×List (List Int)):Option Bool:=
 ((tN p_).bind fun y0=>
 cond y0
 ((aF s_.1 0 24).bind fun y1=>
 cond y1
 ((some (decide (((s_.2.length:Nat):Int)≤s_.1))).bind fun a0=>
 cond a0
 ((bS p_ s_.1 s_.2).bind fun y2=>
 cond y2
 ((sR p_ s_.1 s_.2).bind fun y3=>
 (aS y3 s_.2).bind fun y4=>
 some y4)
 (some false))
 (some false))
 (some false))
 (some false)).bind fun (s0:Bool)=>
 some s0
def dS (p_:Int) (r_:Int×Int×List (List Int)):Option Bool:=
 ((aF r_.1 0 24).bind fun y0=>
 cond y0
 ((subO 24 r_.1).bind fun a0=>
 (aF r_.2.1 0 a0).bind fun y1=>
 cond y1
 ((yA r_.1 r_.2.1).bind fun a1=>
 (cS p_ (a1,r_.2.2)).bind fun y2=>
 some y2)
 (some false))
 (some false)).bind fun (s0:Bool)=>
 some s0
def gE (x_:(Int×(List (Int×Int×List Int×List Int))×List Int×List Int)):Option ((Int×(List (Int×Int×List Int×List Int))×List Int×List Int)×Int):=
 (yA x_.1 1).bind fun a2=>
 (subO a2 1).bind fun a5=>
 some ((a2,x_.2.1,x_.2.2.1,x_.2.2.2),a5)
def qQ (x_:(Int×(List (Int×Int×List Int×List Int))×List Int×List Int)) (n_:Int):Option (Int×(List (Int×Int×List Int×List Int))×List Int×List Int):=
 kB (fun (s0:Int×List Int×Int)=>
 (some (decide ((0:Int)<s0.2.2))).bind fun a0=>
 cond a0
 ((gE (s0.1,x_.2.1,s0.2.1,x_.2.2.2)).bind fun y0=>
 (iB s0.2.1 [y0.2]).bind fun a1=>
 (subO s0.2.2 1).bind fun a2=>
 some (.inl (y0.1.1,a1,a2)))
 (some (.inr (s0.1,x_.2.1,s0.2.1,x_.2.2.2)))) (x_.1,x_.2.2.1,n_)
def aE (x_:(Int×(List (Int×Int×List Int×List Int))×List Int×List Int)) (kind_:Int) (value_:Int) (in_:List Int) (out_:List Int):Option (Int×(List (Int×Int×List Int×List Int))×List Int×List Int):=
 (iB x_.2.1 [(kind_,value_,in_,out_)]).bind fun a0=>
 some (x_.1,a0,x_.2.2.1,x_.2.2.2)
def kJ:Nat→(Int×(List (Int×Int×List Int×List Int))×List Int×List Int)→Int→Int→Option ((Int×(List (Int×Int×List Int×List Int))×List Int×List Int)×List Int)
 | 0,_,_,_=>none
 | fuel+1,x_,w_,n_=>
  (some (decide (n_=0))).bind fun a3=>
  cond a3
  ((aE (x_.1,x_.2.1,x_.2.2.1,x_.2.2.2) 4 0 [w_] []).bind fun y0=>
  some ((y0.1,y0.2.1,x_.2.2.1,x_.2.2.2),[]))
  ((some (decide (n_=1))).bind fun a6=>
  cond a6
  (some ((x_.1,x_.2.1,x_.2.2.1,x_.2.2.2),[w_]))
  ((gE (x_.1,x_.2.1,x_.2.2.1,x_.2.2.2)).bind fun y9=>
  (gE (y9.1.1,x_.2.1,x_.2.2.1,x_.2.2.2)).bind fun y1=>
  (aE (y1.1.1,x_.2.1,x_.2.2.1,x_.2.2.2) 3 0 [w_] [y9.2,y1.2]).bind fun y2=>
  (subO n_ 1).bind fun a0=>
  (kJ fuel (y2.1,y2.2.1,x_.2.2.1,x_.2.2.2) y1.2 a0).bind fun y3=>
  (iB [y9.2] y3.2).bind fun a1=>
  some ((y3.1.1,y3.1.2.1,x_.2.2.1,x_.2.2.2),a1)))
def bL (x_:(Int×(List (Int×Int×List Int×List Int))×List Int×List Int)) (w_:Int) (n_:Int):Option ((Int×(List (Int×Int×List Int×List Int))×List Int×List Int)×List Int):=kJ 1000000 x_ w_ n_
def yM:Nat→(Int×(List (Int×Int×List Int×List Int))×List Int×List Int)→(List Int)→Option ((Int×(List (Int×Int×List Int×List Int))×List Int×List Int)×Int)
 | 0,_,_=>none
 | fuel+1,x_,l_=>
  (some (decide (((l_.length:Nat):Int)=1))).bind fun a4=>
  cond a4
  ((bA l_ 0).bind fun a0=>
  some ((x_.1,x_.2.1,x_.2.2.1,x_.2.2.2),a0))
  ((some (decide (((l_.length:Nat):Int)=0))).bind fun a7=>
  cond a7
  ((gE (x_.1,x_.2.1,x_.2.2.1,x_.2.2.2)).bind fun y0=>
  (aE (y0.1.1,x_.2.1,x_.2.2.1,x_.2.2.2) 6 0 [] [y0.2]).bind fun y1=>
  some ((y1.1,y1.2.1,x_.2.2.1,x_.2.2.2),y0.2))
  ((subO ((l_.length:Nat):Int) 1).bind fun a1=>
  (fC l_ 0 a1).bind fun a2=>
  (yM fuel (x_.1,x_.2.1,x_.2.2.1,x_.2.2.2) a2).bind fun y2=>
  (gE (y2.1.1,y2.1.2.1,x_.2.2.1,x_.2.2.2)).bind fun y3=>
  (bA l_ a1).bind fun a3=>
  (aE (y3.1.1,y2.1.2.1,x_.2.2.1,x_.2.2.2) 5 0 [y2.2,a3] [y3.2]).bind fun y4=>
  some ((y4.1,y4.2.1,x_.2.2.1,x_.2.2.2),y3.2)))
def eR (x_:(Int×(List (Int×Int×List Int×List Int))×List Int×List Int)) (l_:List Int):Option ((Int×(List (Int×Int×List Int×List Int))×List Int×List Int)×Int):=yM 1000000 x_ l_
def pQ (x_:(Int×(List (Int×Int×List Int×List Int))×List Int×List Int)) (in_:List Int) (rows_:List (List Int)) (cols_:Int):Option ((Int×(List (Int×Int×List Int×List Int))×List Int×List Int)×List Int):=
 (fD cols_ ([]:List Int)).bind fun a5=>
 (sA (fun (k0:Nat) (s0:Int×(List (Int×Int×List Int×List Int))×List (List Int))=>
 (bA rows_ ((k0:Nat):Int)).bind fun a0=>
 (sA (fun (k1:Nat) (s1:List Int)=>
 (bA a0 ((k1:Nat):Int)).bind fun a1=>
 (some (!decide (a1=0))).bind fun a2=>
 cond a2
 ((iB s1 [((k1:Nat):Int)]).bind fun a3=>
 some a3)
 (some s1)) a0.length 0 []).bind fun (s2:List Int)=>
 (bA in_ ((k0:Nat):Int)).bind fun a4=>
 (bL (s0.1,s0.2.1,x_.2.2.1,x_.2.2.2) a4 ((s2.length:Nat):Int)).bind fun y0=>
 (sA (fun (k2:Nat) (s3:Int×(List (Int×Int×List Int×List Int))×List (List Int))=>
 (bA y0.2 ((k2:Nat):Int)).bind fun a6=>
 (bA s2 ((k2:Nat):Int)).bind fun a7=>
 ((bA a0 a7).bind fun a8=>
 (some (!decide (a8=1))).bind fun a9=>
 cond a9
 ((gE (s3.1,s3.2.1,x_.2.2.1,x_.2.2.2)).bind fun y1=>
 (bA a0 a7).bind fun a10=>
 (aE (y1.1.1,s3.2.1,x_.2.2.1,x_.2.2.2) 7 a10 [a6] [y1.2]).bind fun y2=>
 some (y2.1,y2.2.1,y1.2))
 (some (s3.1,s3.2.1,a6))).bind fun (s4:Int×(List (Int×Int×List Int×List Int))×Int)=>
 (bA s3.2.2 a7).bind fun a11=>
 (iB a11 [s4.2.2]).bind fun a12=>
 (oA s3.2.2 a7 a12).bind fun a13=>
 some (s4.1,s4.2.1,a13)) y0.2.length 0 (y0.1.1,y0.1.2.1,s0.2.2)).bind fun (s5:Int×(List (Int×Int×List Int×List Int))×List (List Int))=>
 some (s5.1,s5.2.1,s5.2.2)) rows_.length 0 (x_.1,x_.2.1,a5)).bind fun (s6:Int×(List (Int×Int×List Int×List Int))×List (List Int))=>
 (sA (fun (k3:Nat) (s7:Int×(List (Int×Int×List Int×List Int))×List Int)=>
 (bA s6.2.2 ((k3:Nat):Int)).bind fun a14=>
 (eR (s7.1,s7.2.1,x_.2.2.1,x_.2.2.2) a14).bind fun y3=>
 (iB s7.2.2 [y3.2]).bind fun a15=>
 some (y3.1.1,y3.1.2.1,a15)) s6.2.2.length 0 (s6.1,s6.2.1,[])).bind fun (s8:Int×(List (Int×Int×List Int×List Int))×List Int)=>
 some ((s8.1,s8.2.1,x_.2.2.1,x_.2.2.2),s8.2.2)
def pN (n_:Int×Int×ByteArray):Option Bool:=
 ((some (!decide ((n_.2.2:ByteArray)=.empty))).bind fun a0=>
 cond a0
 (some true)
 ((aF n_.1 1 14).bind fun y0=>
 (some (!y0)).bind fun a1=>
 some a1)).bind fun (s0:Bool)=>
 cond s0
 (some false)
 ((some (decide (n_.1=1))).bind fun a2=>
 cond a2
 ((aF n_.2.1 0 12).bind fun y1=>
 some y1)
 (((some (decide (n_.1=7))).bind fun a3=>
 cond a3
 (some true)
 ((some (decide (n_.1=13))).bind fun a4=>
 some a4)).bind fun (s1:Bool)=>
 cond s1
 ((aF n_.2.1 0 96).bind fun y2=>
 some y2)
 ((some (decide (n_.2.1=0))).bind fun a5=>
 some a5)))
def rN (kind_:Int):Option (Int×Int):=
 (some (decide (kind_=2))).bind fun a1=>
 cond a1
 (some (2,2))
 (((some (decide (kind_=3))).bind fun a0=>
 cond a0
 (some true)
 ((some (decide (kind_=11))).bind fun a2=>
 some a2)).bind fun (s0:Bool)=>
 cond s0
 (some (1,2))
 (((some (decide (kind_=4))).bind fun a3=>
 cond a3
 (some true)
 ((some (decide (kind_=12))).bind fun a4=>
 some a4)).bind fun (s1:Bool)=>
 cond s1
 (some (1,0))
 (((some (decide (kind_=5))).bind fun a5=>
 cond a5
 (some true)
 ((some (decide (kind_=9))).bind fun a6=>
 some a6)).bind fun (s2:Bool)=>
 cond s2
 (some (2,1))
 (((some (decide (kind_=6))).bind fun a7=>
 cond a7
 (some true)
 ((some (decide (kind_=10))).bind fun a8=>
 some a8)).bind fun (s3:Bool)=>
 cond s3
 (some (0,1))
 (some (1,1))))))
def sN (e_:Int×Int×List Int×List Int) (wires_:Int):Option Bool:=
 ((aF e_.1 3 14).bind fun y0=>
 (some (!y0)).bind fun a0=>
 cond a0
 (some true)
 ((pN (e_.1,e_.2.1,.empty)).bind fun y1=>
 (some (!y1)).bind fun a1=>
 some a1)).bind fun (s0:Bool)=>
 cond s0
 (some false)
 ((rN e_.1).bind fun y2=>
 ((some (decide (((e_.2.2.1.length:Nat):Int)=y2.1))).bind fun a2=>
 cond a2
 ((some (decide (((e_.2.2.2.length:Nat):Int)=y2.2))).bind fun a3=>
 cond a3
 ((subO wires_ 1).bind fun a4=>
 (uG e_.2.2.1 0 a4).bind fun y3=>
 cond y3
 ((subO wires_ 1).bind fun a5=>
 (uG e_.2.2.2 0 a5).bind fun y4=>
 some y4)
 (some false))
 (some false))
 (some false)).bind fun (s1:Bool)=>
 some s1)
def tR (g_:Int×(List (Int×Int×List Int×List Int))×List Int×List Int):Option (List Int×List Int):=
 (fD g_.1 (0:Int)).bind fun a7=>
 (fD g_.1 (0:Int)).bind fun a0=>
 (sA (fun (k0:Nat) (s0:List Int)=>
 (bA g_.2.2.1 ((k0:Nat):Int)).bind fun a1=>
 (bA s0 a1).bind fun a2=>
 (yA a2 1).bind fun a3=>
 (oA s0 a1 a3).bind fun a4=>
 some a4) g_.2.2.1.length 0 a7).bind fun (s1:List Int)=>
 (sA (fun (k1:Nat) (s2:List Int)=>
 (bA g_.2.2.2 ((k1:Nat):Int)).bind fun a5=>
 (bA s2 a5).bind fun a6=>
 (yA a6 1).bind fun a8=>
 (oA s2 a5 a8).bind fun a9=>
 some a9) g_.2.2.2.length 0 a0).bind fun (s3:List Int)=>
 (sA (fun (k2:Nat) (s4:List Int×List Int)=>
 (bA g_.2.1 ((k2:Nat):Int)).bind fun a10=>
 (sA (fun (k3:Nat) (s5:List Int)=>
 (bA a10.2.2.2 ((k3:Nat):Int)).bind fun a11=>
 (bA s5 a11).bind fun a13=>
 (yA a13 1).bind fun a14=>
 (oA s5 a11 a14).bind fun a15=>
 some a15) a10.2.2.2.length 0 s4.1).bind fun (s6:List Int)=>
 (sA (fun (k4:Nat) (s7:List Int)=>
 (bA a10.2.2.1 ((k4:Nat):Int)).bind fun a16=>
 (bA s7 a16).bind fun a17=>
 (yA a17 1).bind fun a18=>
 (oA s7 a16 a18).bind fun a19=>
 some a19) a10.2.2.1.length 0 s4.2).bind fun (s8:List Int)=>
 some (s6,s8)) g_.2.1.length 0 (s1,s3)).bind fun (s9:List Int×List Int)=>
 some (s9.1,s9.2)
def jN (g_:Int×(List (Int×Int×List Int×List Int))×List Int×List Int):Option Bool:=
 ((aF g_.1 0 100).bind fun y0=>
 (some (!y0)).bind fun a0=>
 cond a0
 (some true)
 ((some (decide ((60:Int)<((g_.2.1.length:Nat):Int)))).bind fun a1=>
 cond a1
 (some true)
 ((some (decide ((12:Int)<((g_.2.2.1.length:Nat):Int)))).bind fun a2=>
 cond a2
 (some true)
 ((some (decide ((12:Int)<((g_.2.2.2.length:Nat):Int)))).bind fun a3=>
 cond a3
 (some true)
 ((subO g_.1 1).bind fun a4=>
 (uG g_.2.2.1 0 a4).bind fun y1=>
 (some (!y1)).bind fun a5=>
 cond a5
 (some true)
 ((subO g_.1 1).bind fun a6=>
 (uG g_.2.2.2 0 a6).bind fun y2=>
 (some (!y2)).bind fun a7=>
 some a7)))))).bind fun (s0:Bool)=>
 cond s0
 (some false)
 (lC (kC (fun (k0:Nat) (_:Unit)=>
 (bA g_.2.1 ((k0:Nat):Int)).bind fun a8=>
 (sN (a8.1,a8.2.1,a8.2.2.1,a8.2.2.2) g_.1).bind fun y3=>
 (some (!y3)).bind fun a9=>
 cond a9
 (some (.inr false))
 (some (.inl ()))) g_.2.1.length 0 ()) fun (_:Unit)=>
 (tR (g_.1,g_.2.1,g_.2.2.1,g_.2.2.2)).bind fun y4=>
 lC (kC (fun (k1:Nat) (_:Unit)=>
 (bA y4.1 ((k1:Nat):Int)).bind fun a10=>
 (bA y4.2 ((k1:Nat):Int)).bind fun a11=>
 (yA a10 a11).bind fun a12=>
 (some (decide (a12=0))).bind fun a13=>
 cond a13
 (some (.inr false))
 (some (.inl ()))) y4.1.length 0 ()) fun (_:Unit)=>
 some true)
def vN (n_:Int):Option (List Int):=
 (fD n_ (0:Int)).bind fun a1=>
 (sA (fun (k6:Nat) (s0:List Int)=>
 (oA s0 ((k6:Nat):Int) (-1)).bind fun a0=>
 some a0) a1.length 0 a1).bind fun (s1:List Int)=>
 some s1
def eG (wires_:List Int) (order_:List Int) (l_:List Int):Option (List Int×List Int):=
 (sA (fun (k4:Nat) (s0:List Int×List Int)=>
 (bA l_ ((k4:Nat):Int)).bind fun a0=>
 (bA s0.1 a0).bind fun a1=>
 (some (decide (a1<0))).bind fun a2=>
 cond a2
 ((oA s0.1 a0 ((s0.2.length:Nat):Int)).bind fun a3=>
 (iB s0.2 [a0]).bind fun a4=>
 some (a3,a4))
 (some (s0.1,s0.2))) l_.length 0 (wires_,order_)).bind fun (s1:List Int×List Int)=>
 some (s1.1,s1.2)
def mR (g_:Int×(List (Int×Int×List Int×List Int))×List Int×List Int):Option (List Int):=
 (fD g_.1 (0:Int)).bind fun a7=>
 (sA (fun (k0:Nat) (s0:List Int)=>
 (oA s0 ((k0:Nat):Int) (-1)).bind fun a0=>
 some a0) a7.length 0 a7).bind fun (s1:List Int)=>
 (sA (fun (k1:Nat) (s2:List Int)=>
 (bA g_.2.1 ((k1:Nat):Int)).bind fun a1=>
 (sA (fun (k2:Nat) (s3:List Int)=>
 (bA a1.2.2.2 ((k2:Nat):Int)).bind fun a2=>
 (oA s3 a2 ((k1:Nat):Int)).bind fun a3=>
 some a3) a1.2.2.2.length 0 s2).bind fun (s4:List Int)=>
 some s4) g_.2.1.length 0 s1).bind fun (s5:List Int)=>
 some s5
def eS (g_:Int×(List (Int×Int×List Int×List Int))×List Int×List Int):Option (List Int):=
 (fD g_.1 (0:Int)).bind fun a7=>
 (sA (fun (k0:Nat) (s0:List Int)=>
 (oA s0 ((k0:Nat):Int) (-1)).bind fun a0=>
 some a0) a7.length 0 a7).bind fun (s1:List Int)=>
 (sA (fun (k1:Nat) (s2:List Int)=>
 (bA g_.2.1 ((k1:Nat):Int)).bind fun a1=>
 (sA (fun (k2:Nat) (s3:List Int)=>
 (bA a1.2.2.1 ((k2:Nat):Int)).bind fun a2=>
 (oA s3 a2 ((k1:Nat):Int)).bind fun a3=>
 some a3) a1.2.2.1.length 0 s2).bind fun (s4:List Int)=>
 some s4) g_.2.1.length 0 s1).bind fun (s5:List Int)=>
 some s5
def gS (g_:Int×(List (Int×Int×List Int×List Int))×List Int×List Int) (wires_:List Int) (edges_:List Int) (order_:List Int) (count_:Int):Option (List Int×List Int×Int×List Int):=
 (mR (g_.1,g_.2.1,g_.2.2.1,g_.2.2.2)).bind fun y0=>
 (eS (g_.1,g_.2.1,g_.2.2.1,g_.2.2.2)).bind fun y1=>
 (kB (fun (s0:List Int×List Int×Int×List Int×Int)=>
 (some (decide (s0.2.2.1<((s0.2.2.2.1.length:Nat):Int)))).bind fun a0=>
 cond a0
 ((bA s0.2.2.2.1 s0.2.2.1).bind fun a1=>
 (bA s0.2.2.2.1 s0.2.2.1).bind fun a2=>
 (bA y1 a1).bind fun a3=>
 (bA y0 a2).bind fun a4=>
 (sA (fun (k0:Nat) (s1:List Int×List Int×List Int×Int)=>
 ((bA [a3,a4] ((k0:Nat):Int)).bind fun a5=>
 ((some (decide (a5<0))).bind fun a6=>
 cond a6
 (some true)
 ((bA s1.2.1 a5).bind fun a7=>
 (some (decide ((0:Int)≤a7))).bind fun a8=>
 some a8)).bind fun (s2:Bool)=>
 cond s2
 (some (s1.1,s1.2.1,s1.2.2.1,s1.2.2.2))
 ((oA s1.2.1 a5 s1.2.2.2).bind fun a9=>
 (yA s1.2.2.2 1).bind fun a10=>
 (bA g_.2.1 a5).bind fun a11=>
 (eG s1.1 s1.2.2.1 a11.2.2.1).bind fun y2=>
 (bA g_.2.1 a5).bind fun a12=>
 (eG y2.1 y2.2 a12.2.2.2).bind fun y3=>
 some (y3.1,a9,y3.2,a10))).bind fun (s3:List Int×List Int×List Int×Int)=>
 some (s3.1,s3.2.1,s3.2.2.1,s3.2.2.2)) ([a3,a4].length) 0 (s0.1,s0.2.1,s0.2.2.2.1,s0.2.2.2.2)).bind fun (s4:List Int×List Int×List Int×Int)=>
 (yA s0.2.2.1 1).bind fun a13=>
 some (.inl (s4.1,s4.2.1,a13,s4.2.2.1,s4.2.2.2)))
 (some (.inr (s0.1,s0.2.1,s0.2.2.2.1,s0.2.2.2.2)))) (wires_,edges_,0,order_,count_)).bind fun (s5:List Int×List Int×List Int×Int)=>
 some (s5.1,s5.2.1,s5.2.2.2,s5.2.2.1)
def uN (g_:Int×(List (Int×Int×List Int×List Int))×List Int×List Int):Option (List Int×List Int×List Int×Int):=
 (vN g_.1).bind fun y8=>
 (vN ((g_.2.1.length:Nat):Int)).bind fun y0=>
 (eG y8 [] g_.2.2.1).bind fun y1=>
 (eG y1.1 y1.2 g_.2.2.2).bind fun y2=>
 (gS (g_.1,g_.2.1,g_.2.2.1,g_.2.2.2) y2.1 y0 y2.2 0).bind fun y3=>
 some (y3.1,y3.2.1,y3.2.2.2,y3.2.2.1)
def rJ (l_:List Int) (to_:List Int):Option (List Int):=
 (sA (fun (k3:Nat) (s0:List Int)=>
 (bA l_ ((k3:Nat):Int)).bind fun a0=>
 (bA to_ a0).bind fun a1=>
 (iB s0 [a1]).bind fun a2=>
 some a2) l_.length 0 []).bind fun (s1:List Int)=>
 some s1
def xV (g_:Int×(List (Int×Int×List Int×List Int))×List Int×List Int):Option (List (List Int×List Int×List Int×Int)):=
 (uN (g_.1,g_.2.1,g_.2.2.1,g_.2.2.2)).bind fun y7=>
 (sA (fun (k0:Nat) (_:Unit)=>
 ((bA y7.2.1 ((k0:Nat):Int)).bind fun a0=>
 (some (decide ((0:Int)≤a0))).bind fun a1=>
 cond a1
 (some ())
 (none)).bind fun (s0:Unit)=>
 some ()) g_.2.1.length 0 ()).bind fun (_:Unit)=>
 some []
def nR (g_:Int×(List (Int×Int×List Int×List Int))×List Int×List Int):Option (List Int×List Int):=
 (uN (g_.1,g_.2.1,g_.2.2.1,g_.2.2.2)).bind fun y7=>
 (xV (g_.1,g_.2.1,g_.2.2.1,g_.2.2.2)).bind fun y0=>
 (sA (fun (k0:Nat) (_:Unit)=>
 (bA y0 ((k0:Nat):Int)).bind fun a0=>
 none) y0.length 0 ()).bind fun (_:Unit)=>
 some (y7.1,y7.2.1)
def oS (g_:Int×(List (Int×Int×List Int×List Int))×List Int×List Int) (to_:List Int) (wires_:Int):Option (Int×(List (Int×Int×List Int×List Int))×List Int×List Int):=
 ((rJ g_.2.2.1 to_).bind fun y0=>
 (rJ g_.2.2.2 to_).bind fun y1=>
 some (wires_,y0,y1)).bind fun (s0:Int×List Int×List Int)=>
 (sA (fun (k0:Nat) (s1:List (Int×Int×List Int×List Int))=>
 (bA g_.2.1 ((k0:Nat):Int)).bind fun a0=>
 (rJ a0.2.2.1 to_).bind fun y2=>
 (rJ a0.2.2.2 to_).bind fun y3=>
 (iB s1 [(a0.1,a0.2.1,y2,y3)]).bind fun a1=>
 some a1) g_.2.1.length 0 []).bind fun (s2:List (Int×Int×List Int×List Int))=>
 some (s0.1,s2,s0.2.1,s0.2.2)
def cR (g_:Int×(List (Int×Int×List Int×List Int))×List Int×List Int) (wires_:List Int) (edges_:List Int):Option (Int×(List (Int×Int×List Int×List Int))×List Int×List Int):=
 (oS (g_.1,g_.2.1,g_.2.2.1,g_.2.2.2) wires_ g_.1).bind fun y0=>
 ((some (decide ((0:Int)<((edges_.length:Nat):Int)))).bind fun a0=>
 cond a0
 ((fD ((edges_.length:Nat):Int) ((0,0,[],[]):Int×Int×List Int×List Int)).bind fun a1=>
 some a1)
 (some [])).bind fun (s0:List (Int×Int×List Int×List Int))=>
 (sA (fun (k0:Nat) (s1:List (Int×Int×List Int×List Int))=>
 (bA edges_ ((k0:Nat):Int)).bind fun a2=>
 (bA y0.2.1 ((k0:Nat):Int)).bind fun a3=>
 (oA s1 a2 (a3.1,a3.2.1,a3.2.2.1,a3.2.2.2)).bind fun a4=>
 some a4) edges_.length 0 s0).bind fun (s2:List (Int×Int×List Int×List Int))=>
 some (g_.1,s2,y0.2.2.1,y0.2.2.2)
def kN (g_:Int×(List (Int×Int×List Int×List Int))×List Int×List Int):Option (Int×(List (Int×Int×List Int×List Int))×List Int×List Int):=
 (nR (g_.1,g_.2.1,g_.2.2.1,g_.2.2.2)).bind fun y0=>
 (cR (g_.1,g_.2.1,g_.2.2.1,g_.2.2.2) y0.1 y0.2).bind fun y1=>
 some (y1.1,y1.2.1,y1.2.2.1,y1.2.2.2)
def wQ (x_:(Int×(List (Int×Int×List Int×List Int))×List Int×List Int)):Option ((Int×(List (Int×Int×List Int×List Int))×List Int×List Int)×Bool):=
 (jN (x_.1,x_.2.1,x_.2.2.1,x_.2.2.2)).bind fun y8=>
 (some (!y8)).bind fun a0=>
 cond a0
 (some ((0,[],[],[]),false))
 ((kN (x_.1,x_.2.1,x_.2.2.1,x_.2.2.2)).bind fun y0=>
 some ((y0.1,y0.2.1,y0.2.2.1,y0.2.2.2),true))
def dR (r_:Int×Int×List (List Int)):Option ((Int×(List (Int×Int×List Int×List Int))×List Int×List Int)×Bool):=
 (qQ (0,[],[],[]) r_.1).bind fun y0=>
 (sA (fun (k0:Nat) (s0:Int×(List (Int×Int×List Int×List Int))×List Int)=>
 (gE (s0.1,s0.2.1,y0.2.2.1,[])).bind fun y1=>
 (aE (y1.1.1,s0.2.1,y0.2.2.1,[]) 10 0 [] [y1.2]).bind fun y2=>
 (iB s0.2.2 [y1.2]).bind fun a0=>
 some (y2.1,y2.2.1,a0)) r_.2.2.length 0 (y0.1,[],[])).bind fun (s1:Int×(List (Int×Int×List Int×List Int))×List Int)=>
 (yA r_.1 r_.2.1).bind fun a1=>
 (pQ (s1.1,s1.2.1,y0.2.2.1,[]) s1.2.2 r_.2.2 a1).bind fun y3=>
 (sA (fun (k1:Nat) (s2:Int×(List (Int×Int×List Int×List Int)))=>
 (bA y0.2.2.1 ((k1:Nat):Int)).bind fun a2=>
 (gE (s2.1,s2.2,y0.2.2.1,[])).bind fun y4=>
 (bA y3.2 ((k1:Nat):Int)).bind fun a3=>
 (aE (y4.1.1,s2.2,y0.2.2.1,[]) 9 0 [a2,a3] [y4.2]).bind fun y5=>
 (aE (y5.1,y5.2.1,y0.2.2.1,[]) 4 0 [y4.2] []).bind fun y6=>
 some (y6.1,y6.2.1)) y0.2.2.1.length 0 (y3.1.1,y3.1.2.1)).bind fun (s3:Int×(List (Int×Int×List Int×List Int)))=>
 (fC y3.2 r_.1 ((y3.2.length:Nat):Int)).bind fun a4=>
 (mL a4).bind fun y7=>
 (wQ (s3.1,s3.2,y0.2.2.1,y7)).bind fun y8=>
 some ((y8.1.1,y8.1.2.1,y8.1.2.2.1,y8.1.2.2.2),y8.2)
def vM (p_:Int) (r_:Int×Int×List (List Int)):Option ((Int×(List (Int×Int×List Int×List Int))×List Int×List Int)×Bool):=
 ((dS p_ (r_.1,r_.2.1,r_.2.2)).bind fun y0=>
 (some (!y0)).bind fun a0=>
 cond a0
 (some true)
 ((some (decide ((12:Int)<r_.1))).bind fun a1=>
 cond a1
 (some true)
 ((some (decide ((12:Int)<r_.2.1))).bind fun a2=>
 some a2))).bind fun (s0:Bool)=>
 cond s0
 (some ((0,[],[],[]),false))
 ((dR (r_.1,r_.2.1,r_.2.2)).bind fun y1=>
 some ((y1.1.1,y1.1.2.1,y1.1.2.2.1,y1.1.2.2.2),y1.2))
def nN (p_:Int):Option Bool:=
 ((some (decide (p_<2))).bind fun a0=>
 cond a0
 (some true)
 ((some (decide ((97:Int)<p_))).bind fun a1=>
 some a1)).bind fun (s8:Bool)=>
 cond s8
 (some false)
 ((cI 4).bind fun _=>
 lC (kC (fun (k0:Nat) (_:Unit)=>
 (bA [2,3,5,7] ((k0:Nat):Int)).bind fun a2=>
 ((gD p_ a2).bind fun a3=>
 (some (decide (a3=0))).bind fun a4=>
 cond a4
 ((some (!decide (p_=a2))).bind fun a5=>
 some a5)
 (some false)).bind fun (s0:Bool)=>
 cond s0
 (some (.inr false))
 (some (.inl ()))) ((4:Int).toNat) 0 ()) fun (_:Unit)=>
 some true)
def iE (n_:Int) (low_:Int) (high_:Int):Option Bool:=
 ((some (decide (low_≤n_))).bind fun a0=>
 cond a0
 ((some (decide (n_≤high_))).bind fun a1=>
 some a1)
 (some false)).bind fun (s7:Bool)=>
 some s7
def wS (left_:Int) (right_:Int):Option Bool:=
 ((iE left_ 0 24).bind fun y0=>
 cond y0
 ((iE right_ 0 24).bind fun y1=>
 cond y1
 ((yA left_ right_).bind fun a0=>
 (some (decide (a0≤24))).bind fun a1=>
 some a1)
 (some false))
 (some false)).bind fun (s0:Bool)=>
 some s0
def fN (p_:Int) (a_:Int):Option Bool:=
 ((some (decide ((0:Int)≤a_))).bind fun a0=>
 cond a0
 ((some (decide (a_<p_))).bind fun a1=>
 some a1)
 (some false)).bind fun (s7:Bool)=>
 some s7
def uR (p_:Int) (v_:List Int) (n_:Int):Option Bool:=
 (some (!decide (((v_.length:Nat):Int)=n_))).bind fun a2=>
 cond a2
 (some false)
 (lC (kC (fun (k5:Nat) (_:Unit)=>
 (bA v_ ((k5:Nat):Int)).bind fun a0=>
 (fN p_ a0).bind fun y0=>
 (some (!y0)).bind fun a1=>
 cond a1
 (some (.inr false))
 (some (.inl ()))) v_.length 0 ()) fun (_:Unit)=>
 some true)
def kR (p_:Int) (rows_:List (List Int)) (n_:Int):Option Bool:=
 lC (kC (fun (k2:Nat) (_:Unit)=>
 (bA rows_ ((k2:Nat):Int)).bind fun a0=>
 (uR p_ a0 n_).bind fun y0=>
 (some (!y0)).bind fun a1=>
 cond a1
 (some (.inr false))
 (some (.inl ()))) rows_.length 0 ()) fun (_:Unit)=>
 some true
def pS (list_:List Int):Option (List Int):=
 (iB ([]:List Int) list_).bind fun a5=>
 some a5
def lS (list_:List (List Int)):Option (List (List Int)):=
 (iH 0 ((list_.length:Nat):Int) ([]:List Int)).bind fun a2=>
 (sA (fun (k7:Nat) (s0:List (List Int))=>
 (bA list_ ((k7:Nat):Int)).bind fun a0=>
 (pS a0).bind fun y0=>
 (iB s0 [y0]).bind fun a1=>
 some a1) list_.length 0 a2).bind fun (s1:List (List Int))=>
 some s1
def eX (yes_:Bool):Option Int:=
 cond yes_
 (some 1)
 (some 0)
def lW (p_:Int) (a_:Int) (n_:Int):Option Int:=
 (gD 1 p_).bind fun a1=>
 (kB (fun (s0:Int×Int×Int)=>
 (some (decide ((0:Int)<s0.2.1))).bind fun a0=>
 cond a0
 (((gD s0.2.1 2).bind fun a2=>
 (some (decide (a2=1))).bind fun a3=>
 cond a3
 ((yE s0.2.2 s0.1).bind fun a4=>
 (gD a4 p_).bind fun a5=>
 some a5)
 (some s0.2.2)).bind fun (s1:Int)=>
 (yE s0.1 s0.1).bind fun a6=>
 (gD a6 p_).bind fun a7=>
 (quoO s0.2.1 2).bind fun a8=>
 some (.inl (a7,a8,s1)))
 (some (.inr s0.2.2))) (a_,n_,a1)).bind fun (s2:Int)=>
 some s2
def zR (p_:Int) (a_:Int):Option Int:=
 (subO p_ 2).bind fun a1=>
 (some (decide (p_=2))).bind fun a3=>
 (eX a3).bind fun y5=>
 (yA a1 y5).bind fun a8=>
 (lW p_ a_ a8).bind fun y0=>
 some y0
def dO (p_:Int) (a_:Int):Option Int:=
 (gD a_ p_).bind fun a1=>
 (some (decide (a1<0))).bind fun a3=>
 cond a3
 ((yA a1 p_).bind fun a7=>
 some a7)
 (some a1)
def wR (p_:Int) (v_:List Int) (by_:Int) (w_:List Int):Option (List Int):=
 (sA (fun (k3:Nat) (s0:List Int)=>
 (bA w_ ((k3:Nat):Int)).bind fun a0=>
 (bA s0 ((k3:Nat):Int)).bind fun a1=>
 (yE by_ a0).bind fun a2=>
 (yA a1 a2).bind fun a3=>
 (dO p_ a3).bind fun y0=>
 (oA s0 ((k3:Nat):Int) y0).bind fun a4=>
 some a4) w_.length 0 v_).bind fun (s1:List Int)=>
 some s1
def iJ (o_:Int×Int×Int×Int) (p_:Int) (rows_:List (List Int)):Option (List (List Int)):=
 (some (decide (o_.1=0))).bind fun a5=>
 cond a5
 ((bA rows_ o_.2.2.1).bind fun a0=>
 (bA rows_ o_.2.1).bind fun a1=>
 (fJ rows_ o_.2.1 o_.2.2.1).bind fun a2=>
 some a2)
 ((some (decide (o_.1=1))).bind fun a8=>
 cond a8
 ((zR p_ o_.2.2.2).bind fun y0=>
 (bA rows_ o_.2.1).bind fun a3=>
 (sA (fun (k0:Nat) (s0:List Int)=>
 (bA s0 ((k0:Nat):Int)).bind fun a4=>
 (yE a4 y0).bind fun a6=>
 (gD a6 p_).bind fun a7=>
 (oA s0 ((k0:Nat):Int) a7).bind fun a9=>
 some a9) a3.length 0 a3).bind fun (s1:List Int)=>
 (oA rows_ o_.2.1 s1).bind fun a10=>
 some a10)
 ((some (decide (o_.1=2))).bind fun a12=>
 cond a12
 ((bA rows_ o_.2.1).bind fun a13=>
 (negO o_.2.2.2).bind fun a14=>
 (bA rows_ o_.2.2.1).bind fun a15=>
 (wR p_ a13 a14 a15).bind fun y1=>
 (neqO o_.2.1 o_.2.2.1).bind fun _=>
 (oA rows_ o_.2.1 y1).bind fun a16=>
 some a16)
 (some rows_)))
def tF (o_:Int×Int×Int×Int) (c0_:Int) (c1_:List (List Int)) (c2_:List (List Int)):Option (List (List Int)×List (List Int)):=
 (some (decide (([o_.1,o_.2.1,o_.2.2.1,o_.2.2.2]:List Int)=[0,o_.2.1,o_.2.1,0]))).bind fun a9=>
 cond a9
 (some (c1_,c2_))
 ((iJ (o_.1,o_.2.1,o_.2.2.1,o_.2.2.2) c0_ c1_).bind fun y0=>
 (iJ (o_.1,o_.2.1,o_.2.2.1,o_.2.2.2) c0_ c2_).bind fun y1=>
 some (y0,y1))
def qR (p_:Int) (rows_:List (List Int)) (n_:Int) (also_:List (List Int)):Option (List (List Int)×List (List Int)×Int):=
 (kB (fun (s0:List (List Int)×List (List Int)×Int×Int)=>
 ((some (decide (s0.2.2.1<n_))).bind fun a0=>
 cond a0
 ((some (decide (s0.2.2.2<((s0.1.length:Nat):Int)))).bind fun a1=>
 some a1)
 (some false)).bind fun (s1:Bool)=>
 cond s1
 (((kB (fun (s2:Int)=>
 ((some (decide (s2<((s0.1.length:Nat):Int)))).bind fun a2=>
 cond a2
 ((bA s0.1 s2).bind fun a3=>
 (bA a3 s0.2.2.1).bind fun a4=>
 (some (decide (a4=0))).bind fun a5=>
 some a5)
 (some false)).bind fun (s3:Bool)=>
 cond s3
 ((yA s2 1).bind fun a6=>
 some (.inl a6))
 (some (.inr s2))) s0.2.2.2).bind fun (s4:Int)=>
 (some (decide (s4=((s0.1.length:Nat):Int)))).bind fun a7=>
 cond a7
 (some (s0.1,s0.2.1,s0.2.2.2))
 ((tF (0,s0.2.2.2,s4,0) p_ s0.1 s0.2.1).bind fun y0=>
 (bA y0.1 s0.2.2.2).bind fun a8=>
 (bA a8 s0.2.2.1).bind fun a9=>
 (tF (1,s0.2.2.2,0,a9) p_ y0.1 y0.2).bind fun y1=>
 (sA (fun (k0:Nat) (s5:List (List Int)×List (List Int))=>
 ((some (!decide (((k0:Nat):Int)=s0.2.2.2))).bind fun a10=>
 cond a10
 ((bA s5.1 ((k0:Nat):Int)).bind fun a11=>
 (bA a11 s0.2.2.1).bind fun a12=>
 (some (!decide (a12=0))).bind fun a13=>
 some a13)
 (some false)).bind fun (s6:Bool)=>
 cond s6
 ((bA s5.1 ((k0:Nat):Int)).bind fun a14=>
 (bA a14 s0.2.2.1).bind fun a15=>
 (tF (2,((k0:Nat):Int),s0.2.2.2,a15) p_ s5.1 s5.2).bind fun y2=>
 some (y2.1,y2.2))
 (some (s5.1,s5.2))) y1.1.length 0 (y1.1,y1.2)).bind fun (s7:List (List Int)×List (List Int))=>
 (yA s0.2.2.2 1).bind fun a16=>
 some (s7.1,s7.2,a16))).bind fun (s8:List (List Int)×List (List Int)×Int)=>
 (yA s0.2.2.1 1).bind fun a17=>
 some (.inl (s8.1,s8.2.1,a17,s8.2.2)))
 (some (.inr (s0.1,s0.2.1,s0.2.2.2)))) (rows_,also_,0,0)).bind fun (s9:List (List Int)×List (List Int)×Int)=>
 some (s9.1,s9.2.1,s9.2.2)
def mN (p_:Int) (rows_:List (List Int)) (n_:Int):Option (List (List Int)):=
 (lS rows_).bind fun y2=>
 (fD ((y2.length:Nat):Int) ([]:List Int)).bind fun a7=>
 (qR p_ y2 n_ a7).bind fun y0=>
 (fC y0.1 0 y0.2.2).bind fun a0=>
 some a0
def rR (p_:Int) (rows_:List (List Int)) (n_:Int):Option Bool:=
 ((some (decide (n_<((rows_.length:Nat):Int)))).bind fun a0=>
 cond a0
 (some true)
 ((kR p_ rows_ n_).bind fun y0=>
 (some (!y0)).bind fun a1=>
 some a1)).bind fun (s0:Bool)=>
 cond s0
 (some false)
 ((mN p_ rows_ n_).bind fun y1=>
 lC (kC (fun (k0:Nat) (_:Unit)=>
 (bA y1 ((k0:Nat):Int)).bind fun a2=>
 (bA rows_ ((k0:Nat):Int)).bind fun a3=>
 (eT a2).bind fun y2=>
 (eT a3).bind fun y3=>
 (oM 48 y2 y3).bind fun a4=>
 cond a4
 (some (.inr false))
 (some (.inl ()))) y1.length 0 ()) fun (_:Unit)=>
 (mN p_ rows_ n_).bind fun y4=>
 (some (decide (((y4.length:Nat):Int)=((rows_.length:Nat):Int)))).bind fun a5=>
 some a5)
def jR (p_:Int) (r_:Int×Int×List (List Int)):Option Bool:=
 ((nN p_).bind fun y0=>
 cond y0
 ((wS r_.1 r_.2.1).bind fun y1=>
 cond y1
 ((yA r_.1 r_.2.1).bind fun a0=>
 (rR p_ r_.2.2 a0).bind fun y2=>
 some y2)
 (some false))
 (some false)).bind fun (s0:Bool)=>
 some s0
def jF (d_:(Int×(List (Int×Int×List Int×List Int))×List Int×List Int)):Option ((Int×(List (Int×Int×List Int×List Int))×List Int×List Int)×Int):=
 (yA d_.1 1).bind fun a2=>
 (subO a2 1).bind fun a5=>
 some ((a2,d_.2.1,d_.2.2.1,d_.2.2.2),a5)
def xK (d_:(Int×(List (Int×Int×List Int×List Int))×List Int×List Int)) (n_:Int):Option ((Int×(List (Int×Int×List Int×List Int))×List Int×List Int)×List Int):=
 (cI n_).bind fun _=>
 (sA (fun (k5:Nat) (s0:Int×List Int)=>
 (jF (s0.1,d_.2.1,d_.2.2.1,d_.2.2.2)).bind fun y0=>
 (iB s0.2 [y0.2]).bind fun a0=>
 some (y0.1.1,a0)) n_.toNat 0 (d_.1,([]:List Int))).bind fun (s1:Int×List Int)=>
 some ((s1.1,d_.2.1,d_.2.2.1,d_.2.2.2),s1.2)
def zD (d_:(Int×(List (Int×Int×List Int×List Int))×List Int×List Int)) (kind_:Int) (value_:Int) (in_:List Int) (out_:List Int):Option (Int×(List (Int×Int×List Int×List Int))×List Int×List Int):=
 (iB d_.2.1 [(kind_,value_,in_,out_)]).bind fun a0=>
 some (d_.1,a0,d_.2.2.1,d_.2.2.2)
def mV (r_:Int×Int×List (List Int)):Option Int:=
 (yA r_.1 r_.2.1).bind fun a5=>
 some a5
def jJ:Nat→(Int×(List (Int×Int×List Int×List Int))×List Int×List Int)→Int→Int→Option ((Int×(List (Int×Int×List Int×List Int))×List Int×List Int)×List Int)
 | 0,_,_,_=>none
 | fuel+1,d_,w_,n_=>
  (some (decide (n_=0))).bind fun a3=>
  cond a3
  ((zD (d_.1,d_.2.1,d_.2.2.1,d_.2.2.2) 4 0 [w_] []).bind fun y0=>
  some ((y0.1,y0.2.1,d_.2.2.1,d_.2.2.2),[]))
  ((some (decide (n_=1))).bind fun a6=>
  cond a6
  (some ((d_.1,d_.2.1,d_.2.2.1,d_.2.2.2),[w_]))
  ((xK (d_.1,d_.2.1,d_.2.2.1,d_.2.2.2) 2).bind fun y9=>
  (zD (y9.1.1,d_.2.1,d_.2.2.1,d_.2.2.2) 3 0 [w_] y9.2).bind fun y1=>
  ((subO n_ 1).bind fun a0=>
  (bA y9.2 0).bind fun a1=>
  (bA y9.2 1).bind fun a2=>
  (jJ fuel (y1.1,y1.2.1,d_.2.2.1,d_.2.2.2) a2 a0).bind fun y2=>
  (iB [a1] y2.2).bind fun a4=>
  some (y2.1.1,y2.1.2.1,a4)).bind fun (s0:Int×(List (Int×Int×List Int×List Int))×List Int)=>
  some ((s0.1,s0.2.1,d_.2.2.1,d_.2.2.2),s0.2.2)))
def wK (d_:(Int×(List (Int×Int×List Int×List Int))×List Int×List Int)) (w_:Int) (n_:Int):Option ((Int×(List (Int×Int×List Int×List Int))×List Int×List Int)×List Int):=jJ 1000000 d_ w_ n_
def wM:Nat→(Int×(List (Int×Int×List Int×List Int))×List Int×List Int)→(List Int)→Option ((Int×(List (Int×Int×List Int×List Int))×List Int×List Int)×Int)
 | 0,_,_=>none
 | fuel+1,d_,list_=>
  (subO ((list_.length:Nat):Int) 1).bind fun a4=>
  (some (decide (a4=0))).bind fun a6=>
  cond a6
  ((bA list_ 0).bind fun a0=>
  some ((d_.1,d_.2.1,d_.2.2.1,d_.2.2.2),a0))
  ((jF (d_.1,d_.2.1,d_.2.2.1,d_.2.2.2)).bind fun y9=>
  (some (decide (a4<0))).bind fun a1=>
  cond a1
  ((zD (y9.1.1,d_.2.1,d_.2.2.1,d_.2.2.2) 6 0 [] [y9.2]).bind fun y0=>
  some ((y0.1,y0.2.1,d_.2.2.1,d_.2.2.2),y9.2))
  (((fC list_ 0 a4).bind fun a2=>
  (wM fuel (y9.1.1,d_.2.1,d_.2.2.1,d_.2.2.2) a2).bind fun y1=>
  (bA list_ a4).bind fun a3=>
  (zD (y1.1.1,y1.1.2.1,d_.2.2.1,d_.2.2.2) 5 0 [y1.2,a3] [y9.2]).bind fun y2=>
  some (y2.1,y2.2.1)).bind fun (s0:Int×(List (Int×Int×List Int×List Int)))=>
  some ((s0.1,s0.2,d_.2.2.1,d_.2.2.2),y9.2)))
def zQ (d_:(Int×(List (Int×Int×List Int×List Int))×List Int×List Int)) (list_:List Int):Option ((Int×(List (Int×Int×List Int×List Int))×List Int×List Int)×Int):=wM 1000000 d_ list_
def mQ (d_:(Int×(List (Int×Int×List Int×List Int))×List Int×List Int)) (ins_:List Int) (rows_:List (List Int)) (cols_:Int):Option ((Int×(List (Int×Int×List Int×List Int))×List Int×List Int)×List Int):=
 (fD cols_ ([]:List Int)).bind fun a5=>
 (sA (fun (k0:Nat) (s0:Int×(List (Int×Int×List Int×List Int))×List (List Int))=>
 (bA rows_ ((k0:Nat):Int)).bind fun a0=>
 (sA (fun (k1:Nat) (s1:List Int)=>
 (bA a0 ((k1:Nat):Int)).bind fun a1=>
 (some (!decide (a1=0))).bind fun a2=>
 cond a2
 ((iB s1 [((k1:Nat):Int)]).bind fun a3=>
 some a3)
 (some s1)) a0.length 0 ([]:List Int)).bind fun (s2:List Int)=>
 (bA ins_ ((k0:Nat):Int)).bind fun a4=>
 (wK (s0.1,s0.2.1,d_.2.2.1,d_.2.2.2) a4 ((s2.length:Nat):Int)).bind fun y0=>
 (sA (fun (k2:Nat) (s3:Int×(List (Int×Int×List Int×List Int))×List (List Int))=>
 (bA y0.2 ((k2:Nat):Int)).bind fun a6=>
 (bA s2 ((k2:Nat):Int)).bind fun a7=>
 ((bA a0 a7).bind fun a8=>
 (some (!decide (a8=1))).bind fun a9=>
 cond a9
 ((jF (s3.1,s3.2.1,d_.2.2.1,d_.2.2.2)).bind fun y1=>
 (zD (y1.1.1,s3.2.1,d_.2.2.1,d_.2.2.2) 7 a8 [a6] [y1.2]).bind fun y2=>
 some (y2.1,y2.2.1,y1.2))
 (some (s3.1,s3.2.1,a6))).bind fun (s4:Int×(List (Int×Int×List Int×List Int))×Int)=>
 (bA s3.2.2 a7).bind fun a10=>
 (iB a10 [s4.2.2]).bind fun a11=>
 (oA s3.2.2 a7 a11).bind fun a12=>
 some (s4.1,s4.2.1,a12)) y0.2.length 0 (y0.1.1,y0.1.2.1,s0.2.2)).bind fun (s5:Int×(List (Int×Int×List Int×List Int))×List (List Int))=>
 some (s5.1,s5.2.1,s5.2.2)) rows_.length 0 (d_.1,d_.2.1,a5)).bind fun (s6:Int×(List (Int×Int×List Int×List Int))×List (List Int))=>
 (sA (fun (k3:Nat) (s7:Int×(List (Int×Int×List Int×List Int))×List Int)=>
 (bA s6.2.2 ((k3:Nat):Int)).bind fun a13=>
 (zQ (s7.1,s7.2.1,d_.2.2.1,d_.2.2.2) a13).bind fun y3=>
 (iB s7.2.2 [y3.2]).bind fun a14=>
 some (y3.1.1,y3.1.2.1,a14)) s6.2.2.length 0 (s6.1,s6.2.1,([]:List Int))).bind fun (s8:Int×(List (Int×Int×List Int×List Int))×List Int)=>
 some ((s8.1,s8.2.1,d_.2.2.1,d_.2.2.2),s8.2.2)
def yQ (kind_:Int):Option Bool:=
 (iE kind_ 3 14).bind fun y1=>
 some y1
def vR (kind_:Int):Option Bool:=
 ((some (decide (kind_=7))).bind fun a0=>
 cond a0
 (some true)
 ((some (decide (kind_=13))).bind fun a1=>
 some a1)).bind fun (s7:Bool)=>
 some s7
def sM (kind_:Int) (value_:Int):Option Bool:=
 (vR kind_).bind fun y1=>
 cond y1
 ((iE value_ 0 96).bind fun y8=>
 some y8)
 ((some (decide (value_=0))).bind fun a5=>
 some a5)
def lQ (kind_:Int):Option (Int×Int):=
 (some (decide (kind_≤8))).bind fun a8=>
 cond a8
 ((subO kind_ 3).bind fun a0=>
 (bA ([(1,2),(1,0),(2,1),(0,1),(1,1),(1,1)]:List (Int×Int)) a0).bind fun a1=>
 some (a1.1,a1.2))
 ((subO kind_ 9).bind fun a2=>
 (bA ([(1,2),(1,0),(2,1),(0,1),(1,1),(1,1)]:List (Int×Int)) a2).bind fun a3=>
 some (a3.2,a3.1))
def aN (e_:Int×Int×List Int×List Int):Option Bool:=
 ((yQ e_.1).bind fun y0=>
 (some (!y0)).bind fun a0=>
 cond a0
 (some true)
 ((sM e_.1 e_.2.1).bind fun y1=>
 (some (!y1)).bind fun a1=>
 some a1)).bind fun (s0:Bool)=>
 cond s0
 (some false)
 ((lQ e_.1).bind fun y2=>
 (some (decide (([y2.1,y2.2]:List Int)=[((e_.2.2.1.length:Nat):Int),((e_.2.2.2.length:Nat):Int)]))).bind fun a2=>
 some a2)
def rG (list_:List Int) (c0_:Int×(List (Int×Int×List Int×List Int))×List Int×List Int) (c1_:Bool) (c2_:List Bool) (c3_:Int):Option (Bool×List Bool×Int):=
 (sA (fun (k0:Nat) (s0:Bool×Int×List Bool)=>
 ((bA list_ ((k0:Nat):Int)).bind fun a0=>
 (subO c0_.1 1).bind fun a1=>
 (iE a0 0 a1).bind fun y0=>
 (some (!y0)).bind fun a2=>
 cond a2
 (some (false,s0.2.1,s0.2.2))
 ((bA s0.2.2 a0).bind fun a3=>
 (some (!a3)).bind fun a4=>
 cond a4
 ((oA s0.2.2 a0 true).bind fun a5=>
 (yA s0.2.1 1).bind fun a6=>
 some (s0.1,a6,a5))
 (some (s0.1,s0.2.1,s0.2.2)))).bind fun (s1:Bool×Int×List Bool)=>
 some (s1.1,s1.2.1,s1.2.2)) list_.length 0 (c1_,c3_,c2_)).bind fun (s2:Bool×Int×List Bool)=>
 some (s2.1,s2.2.2,s2.2.1)
def rM (g_:Int×(List (Int×Int×List Int×List Int))×List Int×List Int) (d0_:Int×(List (Int×Int×List Int×List Int))×List Int×List Int) (d1_:Bool) (d2_:List Bool) (d3_:Int):Option (Bool×List Bool×Int):=
 (rG g_.2.2.1 (d0_.1,d0_.2.1,d0_.2.2.1,d0_.2.2.2) d1_ d2_ d3_).bind fun y0=>
 (rG g_.2.2.2 (d0_.1,d0_.2.1,d0_.2.2.1,d0_.2.2.2) y0.1 y0.2.1 y0.2.2).bind fun y1=>
 (sA (fun (k0:Nat) (s0:Int×Bool×List Bool)=>
 (bA g_.2.1 ((k0:Nat):Int)).bind fun a0=>
 (rG a0.2.2.1 (d0_.1,d0_.2.1,d0_.2.2.1,d0_.2.2.2) s0.2.1 s0.2.2 s0.1).bind fun y2=>
 (rG a0.2.2.2 (d0_.1,d0_.2.1,d0_.2.2.1,d0_.2.2.2) y2.1 y2.2.1 y2.2.2).bind fun y3=>
 some (y3.2.2,y3.1,y3.2.1)) g_.2.1.length 0 (y1.2.2,y1.1,y1.2.1)).bind fun (s1:Int×Bool×List Bool)=>
 some (s1.2.1,s1.2.2,s1.1)
def xM (g_:Int×(List (Int×Int×List Int×List Int))×List Int×List Int):Option Bool:=
 ((iE g_.1 0 100).bind fun y0=>
 (some (!y0)).bind fun a0=>
 cond a0
 (some true)
 ((some (decide ((60:Int)<((g_.2.1.length:Nat):Int)))).bind fun a1=>
 cond a1
 (some true)
 ((some (decide ((12:Int)<((g_.2.2.1.length:Nat):Int)))).bind fun a2=>
 cond a2
 (some true)
 ((some (decide ((12:Int)<((g_.2.2.2.length:Nat):Int)))).bind fun a3=>
 some a3)))).bind fun (s0:Bool)=>
 cond s0
 (some false)
 (lC (kC (fun (k0:Nat) (_:Unit)=>
 (bA g_.2.1 ((k0:Nat):Int)).bind fun a4=>
 (aN (a4.1,a4.2.1,a4.2.2.1,a4.2.2.2)).bind fun y1=>
 (some (!y1)).bind fun a5=>
 cond a5
 (some (.inr false))
 (some (.inl ()))) g_.2.1.length 0 ()) fun (_:Unit)=>
 (fD g_.1 (false:Bool)).bind fun a6=>
 (rM (g_.1,g_.2.1,g_.2.2.1,g_.2.2.2) (g_.1,g_.2.1,g_.2.2.1,g_.2.2.2) true a6 0).bind fun y2=>
 (cond y2.1
 ((some (decide (y2.2.2=g_.1))).bind fun a7=>
 some (true,a7))
 (some (false,false))).bind fun (s1:Bool×Bool)=>
 some s1.2)
def fG (lists_:List (List Int)):Option (List Int):=
 (sA (fun (k5:Nat) (s0:List Int)=>
 (bA lists_ ((k5:Nat):Int)).bind fun a0=>
 (iB s0 a0).bind fun a1=>
 some a1) lists_.length 0 ([]:List Int)).bind fun (s1:List Int)=>
 some s1
def sQ (list_:List Int) (n_:Int):Option Bool:=
 (some (!decide (((list_.length:Nat):Int)=n_))).bind fun a2=>
 cond a2
 (some false)
 ((fD n_ (false:Bool)).bind fun a5=>
 lC (kC (fun (k0:Nat) (s0:List Bool)=>
 (bA list_ ((k0:Nat):Int)).bind fun a0=>
 ((subO n_ 1).bind fun a1=>
 (iE a0 0 a1).bind fun y0=>
 (some (!y0)).bind fun a3=>
 cond a3
 (some true)
 ((bA s0 a0).bind fun a4=>
 some a4)).bind fun (s1:Bool)=>
 cond s1
 (some (.inr false))
 ((oA s0 a0 true).bind fun a6=>
 some (.inl a6))) list_.length 0 a5) fun (s2:List Bool)=>
 some true)
def iR (n_:Int) (lists_:List (List Int)):Option Bool:=
 (fG lists_).bind fun y2=>
 (sQ y2 n_).bind fun y7=>
 some y7
def gQ (g_:Int×(List (Int×Int×List Int×List Int))×List Int×List Int):Option Bool:=
 (xM (g_.1,g_.2.1,g_.2.2.1,g_.2.2.2)).bind fun y7=>
 (some (!y7)).bind fun a0=>
 cond a0
 (some false)
 ((some ([g_.2.2.1],[g_.2.2.2])).bind fun (s0:List (List Int)×List (List Int))=>
 (sA (fun (k0:Nat) (s1:List (List Int)×List (List Int))=>
 (bA g_.2.1 ((k0:Nat):Int)).bind fun a1=>
 (iB s1.1 [a1.2.2.2]).bind fun a2=>
 (iB s1.2 [a1.2.2.1]).bind fun a3=>
 some (a2,a3)) g_.2.1.length 0 (s0.1,s0.2)).bind fun (s2:List (List Int)×List (List Int))=>
 ((iR g_.1 s2.1).bind fun y0=>
 cond y0
 ((iR g_.1 s2.2).bind fun y1=>
 some y1)
 (some false)).bind fun (s3:Bool)=>
 some s3)
def nL (n_:Int):Option (List Int):=
 (fD n_ (0:Int)).bind fun a1=>
 some a1
def qJ (a_:Int) (n_:Int):Option (List Int):=
 (nL n_).bind fun y1=>
 (sA (fun (k6:Nat) (s0:List Int)=>
 (oA s0 ((k6:Nat):Int) a_).bind fun a0=>
 some a0) y1.length 0 y1).bind fun (s1:List Int)=>
 some s1
def lR (g_:Int×(List (Int×Int×List Int×List Int))×List Int×List Int):Option (List Int×List Int):=
 ((qJ (-1) g_.1).bind fun y0=>
 (qJ (-1) g_.1).bind fun y1=>
 some (y0,y1)).bind fun (s0:List Int×List Int)=>
 (sA (fun (k0:Nat) (s1:List Int×List Int)=>
 (bA g_.2.1 ((k0:Nat):Int)).bind fun a0=>
 (sA (fun (k1:Nat) (s2:List Int)=>
 (bA a0.2.2.2 ((k1:Nat):Int)).bind fun a1=>
 (oA s2 a1 ((k0:Nat):Int)).bind fun a2=>
 some a2) a0.2.2.2.length 0 s1.1).bind fun (s3:List Int)=>
 (sA (fun (k2:Nat) (s4:List Int)=>
 (bA a0.2.2.1 ((k2:Nat):Int)).bind fun a3=>
 (oA s4 a3 ((k0:Nat):Int)).bind fun a4=>
 some a4) a0.2.2.1.length 0 s1.2).bind fun (s5:List Int)=>
 some (s3,s5)) g_.2.1.length 0 (s0.1,s0.2)).bind fun (s6:List Int×List Int)=>
 some (s6.1,s6.2)
def uV (g_:Int×(List (Int×Int×List Int×List Int))×List Int×List Int):Option ((Int×(List (Int×Int×List Int×List Int))×List Int×List Int)×(List Int×List Int)×MI×MI×List Int×List Int):=
 ((lR (g_.1,g_.2.1,g_.2.2.1,g_.2.2.2)).bind fun y0=>
 some (g_.1,y0.1,y0.2,(⟨[]⟩:MI),(⟨[]⟩:MI))).bind fun (s0:Int×List Int×List Int×MI×MI)=>
 some ((s0.1,g_.2.1,g_.2.2.1,g_.2.2.2),(s0.2.1,s0.2.2.1),s0.2.2.2.1,s0.2.2.2.2,[],[])
def nJ (k_:(Int×(List (Int×Int×List Int×List Int))×List Int×List Int)×(List Int×List Int)×MI×MI×List Int×List Int) (w_:Int):Option ((Int×(List (Int×Int×List Int×List Int))×List Int×List Int)×(List Int×List Int)×MI×MI×List Int×List Int):=
 (some (qI k_.2.2.1 w_)).bind fun a4=>
 (some (!a4)).bind fun a6=>
 cond a6
 ((iB k_.2.2.2.2.1 [w_]).bind fun a0=>
 some ((k_.1.1,k_.1.2.1,k_.1.2.2.1,k_.1.2.2.2),(k_.2.1.1,k_.2.1.2),(rF k_.2.2.1 w_ ((k_.2.2.1.kvs.length:Nat):Int)),k_.2.2.2.1,a0,k_.2.2.2.2.2))
 (some ((k_.1.1,k_.1.2.1,k_.1.2.2.1,k_.1.2.2.2),(k_.2.1.1,k_.2.1.2),k_.2.2.1,k_.2.2.2.1,k_.2.2.2.2.1,k_.2.2.2.2.2))
def oJ (k_:(Int×(List (Int×Int×List Int×List Int))×List Int×List Int)×(List Int×List Int)×MI×MI×List Int×List Int) (e_:Int):Option ((Int×(List (Int×Int×List Int×List Int))×List Int×List Int)×(List Int×List Int)×MI×MI×List Int×List Int):=
 (some (decide (e_<0))).bind fun a0=>
 cond a0
 (some ((k_.1.1,k_.1.2.1,k_.1.2.2.1,k_.1.2.2.2),(k_.2.1.1,k_.2.1.2),k_.2.2.1,k_.2.2.2.1,k_.2.2.2.2.1,k_.2.2.2.2.2))
 ((some (qI k_.2.2.2.1 e_)).bind fun a1=>
 cond a1
 (some ((k_.1.1,k_.1.2.1,k_.1.2.2.1,k_.1.2.2.2),(k_.2.1.1,k_.2.1.2),k_.2.2.1,k_.2.2.2.1,k_.2.2.2.2.1,k_.2.2.2.2.2))
 ((iB k_.2.2.2.2.2 [e_]).bind fun a2=>
 (bA k_.1.2.1 e_).bind fun a3=>
 (bA k_.1.2.1 e_).bind fun a4=>
 (fG [a3.2.2.1,a4.2.2.2]).bind fun y0=>
 (sA (fun (k0:Nat) (s0:Int×MI×List Int)=>
 (bA y0 ((k0:Nat):Int)).bind fun a5=>
 (nJ ((s0.1,k_.1.2.1,k_.1.2.2.1,k_.1.2.2.2),(k_.2.1.1,k_.2.1.2),s0.2.1,(rF k_.2.2.2.1 e_ ((k_.2.2.2.1.kvs.length:Nat):Int)),s0.2.2,a2) a5).bind fun y1=>
 some (y1.1.1,y1.2.2.1,y1.2.2.2.2.1)) y0.length 0 (k_.1.1,k_.2.2.1,k_.2.2.2.2.1)).bind fun (s1:Int×MI×List Int)=>
 some ((s1.1,k_.1.2.1,k_.1.2.2.1,k_.1.2.2.2),(k_.2.1.1,k_.2.1.2),s1.2.1,(rF k_.2.2.2.1 e_ ((k_.2.2.2.1.kvs.length:Nat):Int)),s1.2.2,a2)))
def xQ (k_:(Int×(List (Int×Int×List Int×List Int))×List Int×List Int)×(List Int×List Int)×MI×MI×List Int×List Int):Option ((Int×(List (Int×Int×List Int×List Int))×List Int×List Int)×(List Int×List Int)×MI×MI×List Int×List Int):=
 kB (fun (s0:Int×MI×MI×List Int×List Int)=>
 (some (decide ((0:Int)<((s0.2.2.2.1.length:Nat):Int)))).bind fun a0=>
 cond a0
 ((bA s0.2.2.2.1 0).bind fun a1=>
 (fC s0.2.2.2.1 1 ((s0.2.2.2.1.length:Nat):Int)).bind fun a2=>
 (bA k_.2.1.2 a1).bind fun a3=>
 (oJ ((s0.1,k_.1.2.1,k_.1.2.2.1,k_.1.2.2.2),(k_.2.1.1,k_.2.1.2),s0.2.1,s0.2.2.1,a2,s0.2.2.2.2) a3).bind fun y0=>
 (bA k_.2.1.1 a1).bind fun a4=>
 (oJ ((y0.1.1,k_.1.2.1,k_.1.2.2.1,k_.1.2.2.2),(k_.2.1.1,k_.2.1.2),y0.2.2.1,y0.2.2.2.1,y0.2.2.2.2.1,y0.2.2.2.2.2) a4).bind fun y1=>
 some (.inl (y1.1.1,y1.2.2.1,y1.2.2.2.1,y1.2.2.2.2.1,y1.2.2.2.2.2)))
 (some (.inr ((s0.1,k_.1.2.1,k_.1.2.2.1,k_.1.2.2.2),(k_.2.1.1,k_.2.1.2),s0.2.1,s0.2.2.1,s0.2.2.2.1,s0.2.2.2.2)))) (k_.1.1,k_.2.2.1,k_.2.2.2.1,k_.2.2.2.2.1,k_.2.2.2.2.2)
def oQ (g_:Int×(List (Int×Int×List Int×List Int))×List Int×List Int):Option ((Int×(List (Int×Int×List Int×List Int))×List Int×List Int)×(List Int×List Int)×MI×MI×List Int×List Int):=
 (uV (g_.1,g_.2.1,g_.2.2.1,g_.2.2.2)).bind fun y7=>
 (fG [g_.2.2.1,g_.2.2.2]).bind fun y0=>
 (sA (fun (k0:Nat) (s0:Int×MI×List Int)=>
 (bA y0 ((k0:Nat):Int)).bind fun a0=>
 (nJ ((s0.1,g_.2.1,g_.2.2.1,g_.2.2.2),(y7.2.1.1,y7.2.1.2),s0.2.1,y7.2.2.2.1,s0.2.2,y7.2.2.2.2.2) a0).bind fun y1=>
 some (y1.1.1,y1.2.2.1,y1.2.2.2.2.1)) y0.length 0 (y7.1.1,y7.2.2.1,y7.2.2.2.2.1)).bind fun (s1:Int×MI×List Int)=>
 (xQ ((s1.1,g_.2.1,g_.2.2.1,g_.2.2.2),(y7.2.1.1,y7.2.1.2),s1.2.1,y7.2.2.2.1,s1.2.2,y7.2.2.2.2.2)).bind fun y2=>
 some ((y2.1.1,g_.2.1,g_.2.2.1,g_.2.2.2),(y7.2.1.1,y7.2.1.2),y2.2.2.1,y2.2.2.2.1,y2.2.2.2.2.1,y2.2.2.2.2.2)
def vS (n_:Int):Option (List Int):=
 (nL n_).bind fun y1=>
 (sA (fun (k6:Nat) (s0:List Int)=>
 (oA s0 ((k6:Nat):Int) ((k6:Nat):Int)).bind fun a0=>
 some a0) y1.length 0 y1).bind fun (s1:List Int)=>
 some s1
def lJ (c_:List Int) (w_:Int):Option Int:=
 (kB (fun (s0:Int)=>
 (bA c_ s0).bind fun a0=>
 (some (!decide (a0=s0))).bind fun a1=>
 cond a1
 ((bA c_ s0).bind fun a2=>
 some (.inl a2))
 (some (.inr s0))) w_).bind fun (s1:Int)=>
 some s1
def mJ (c_:List Int) (v_:Int) (w_:Int):Option (List Int):=
 (lJ c_ v_).bind fun y2=>
 (lJ c_ w_).bind fun y5=>
 (some (rK y2 y5)).bind fun a8=>
 (some (qK y2 y5)).bind fun a0=>
 (oA c_ a8 a0).bind fun a1=>
 some a1
def kQ (g_:Int×(List (Int×Int×List Int×List Int))×List Int×List Int):Option (List Int×Int):=
 (vS g_.1).bind fun y7=>
 (sA (fun (k0:Nat) (s0:List Int)=>
 (bA g_.2.1 ((k0:Nat):Int)).bind fun a0=>
 (fG [a0.2.2.1,a0.2.2.2]).bind fun y0=>
 (sA (fun (k1:Nat) (s1:List Int)=>
 (bA y0 ((k1:Nat):Int)).bind fun a1=>
 (bA y0 0).bind fun a2=>
 (mJ s1 a2 a1).bind fun y1=>
 some y1) y0.length 0 s0).bind fun (s2:List Int)=>
 some s2) g_.2.1.length 0 y7).bind fun (s3:List Int)=>
 (nL g_.1).bind fun y2=>
 (sA (fun (k2:Nat) (s4:List Int×Int)=>
 ((lJ s3 ((k2:Nat):Int)).bind fun y3=>
 (some (decide (y3<((k2:Nat):Int)))).bind fun a3=>
 cond a3
 ((bA s4.1 y3).bind fun a4=>
 (oA s4.1 ((k2:Nat):Int) a4).bind fun a5=>
 some (a5,s4.2))
 ((oA s4.1 ((k2:Nat):Int) s4.2).bind fun a6=>
 (yA s4.2 1).bind fun a7=>
 some (a6,a7))).bind fun (s5:List Int×Int)=>
 some (s5.1,s5.2)) y2.length 0 (y2,0)).bind fun (s6:List Int×Int)=>
 some (s6.1,s6.2)
def iQ (g_:Int×(List (Int×Int×List Int×List Int))×List Int×List Int) (open_:(Int×(List (Int×Int×List Int×List Int))×List Int×List Int)×(List Int×List Int)×MI×MI×List Int×List Int):Option (List Int):=
 (kQ g_).bind fun y=>
 (sA (fun (k:Nat) (s:List Int)=>
 (bA g_.2.1 ((k:Nat):Int)).bind fun e=>
 (fG [e.2.2.1,e.2.2.2]).bind fun j=>
 (bA j 0).bind fun a=>
 (bA y.1 a).bind fun c=>
 some (s++[c])) g_.2.1.length 0 ([]:List Int)).bind fun (cs:List Int)=>
 cond (decide (g_.2.1.length≤gB)&&open_.2.2.1.kvs.all (fun p=>(bA y.1 p.1).isSome)&&cs.all (fun c=>open_.2.2.1.kvs.any fun p=>decide (bA y.1 p.1=some c)))
 (some [])
 none
def eQ (k_:(Int×(List (Int×Int×List Int×List Int))×List Int×List Int)×(List Int×List Int)×MI×MI×List Int×List Int) (c0_:Int) (c1_:List Int) (c2_:Int) (c3_:List Int):Option (Int×List Int×Int×List Int):=
 ((kvO (fun (s0:List Int) (k0 v0:Int)=>
 (yA c0_ v0).bind fun a0=>
 (oA s0 k0 a0).bind fun a1=>
 some a1) k_.2.2.1.kvs c1_).bind fun (s1:List Int)=>
 some s1).bind fun (s2:List Int)=>
 ((kvO (fun (s3:List Int) (k1 v1:Int)=>
 (yA c2_ v1).bind fun a2=>
 (oA s3 k1 a2).bind fun a3=>
 some a3) k_.2.2.2.1.kvs c3_).bind fun (s4:List Int)=>
 some s4).bind fun (s5:List Int)=>
 (yA c0_ ((k_.2.2.1.kvs.length:Nat):Int)).bind fun a4=>
 (yA c2_ ((k_.2.2.2.1.kvs.length:Nat):Int)).bind fun a5=>
 some (a4,s2,a5,s5)
def fQ (g_:Int×(List (Int×Int×List Int×List Int))×List Int×List Int):Option (List Int×List Int):=
 (oQ (g_.1,g_.2.1,g_.2.2.1,g_.2.2.2)).bind fun y7=>
 ((qJ (-1) g_.1).bind fun y0=>
 (qJ (-1) ((g_.2.1.length:Nat):Int)).bind fun y1=>
 some (y0,y1)).bind fun (s0:List Int×List Int)=>
 (eQ ((y7.1.1,g_.2.1,g_.2.2.1,g_.2.2.2),(y7.2.1.1,y7.2.1.2),y7.2.2.1,y7.2.2.2.1,y7.2.2.2.2.1,y7.2.2.2.2.2) 0 s0.1 0 s0.2).bind fun y2=>
 (iQ (g_.1,g_.2.1,g_.2.2.1,g_.2.2.2) ((y7.1.1,g_.2.1,g_.2.2.1,g_.2.2.2),(y7.2.1.1,y7.2.1.2),y7.2.2.1,y7.2.2.2.1,y7.2.2.2.2.1,y7.2.2.2.2.2)).bind fun y3=>
 (sA (fun (k0:Nat) (_:Unit)=>
 none) y3.length 0 ()).bind fun (_:Unit)=>
 some (y2.2.1,y2.2.2.2)
def bW (v_:List Int) (at_:List Int):Option (List Int):=
 (iH 0 ((at_.length:Nat):Int) (0:Int)).bind fun a3=>
 (sA (fun (k8:Nat) (s0:List Int)=>
 (bA at_ ((k8:Nat):Int)).bind fun a0=>
 (bA v_ a0).bind fun a1=>
 (iB s0 [a1]).bind fun a2=>
 some a2) at_.length 0 a3).bind fun (s1:List Int)=>
 some s1
def sJ (list_:List Int) (to_:List Int):Option (List Int):=
 (bW to_ list_).bind fun y3=>
 some y3
def aR (g_:Int×(List (Int×Int×List Int×List Int))×List Int×List Int) (count_:Int) (to_:List Int):Option (Int×(List (Int×Int×List Int×List Int))×List Int×List Int):=
 ((sJ g_.2.2.1 to_).bind fun y0=>
 (sJ g_.2.2.2 to_).bind fun y1=>
 some (count_,y0,y1)).bind fun (s0:Int×List Int×List Int)=>
 (sA (fun (k0:Nat) (s1:List (Int×Int×List Int×List Int))=>
 (bA g_.2.1 ((k0:Nat):Int)).bind fun a0=>
 (sJ a0.2.2.1 to_).bind fun y2=>
 (sJ a0.2.2.2 to_).bind fun y3=>
 (iB s1 [(a0.1,a0.2.1,y2,y3)]).bind fun a1=>
 some a1) g_.2.1.length 0 []).bind fun (s2:List (Int×Int×List Int×List Int))=>
 some (s0.1,s2,s0.2.1,s0.2.2)
def jQ (g_:Int×(List (Int×Int×List Int×List Int))×List Int×List Int) (wires_:List Int) (edges_:List Int):Option (Int×(List (Int×Int×List Int×List Int))×List Int×List Int):=
 (aR (g_.1,g_.2.1,g_.2.2.1,g_.2.2.2) g_.1 wires_).bind fun y0=>
 ((fD ((y0.2.1.length:Nat):Int) ((0,0,[],[]):Int×Int×List Int×List Int)).bind fun a0=>
 some (y0.1,a0)).bind fun (s0:Int×(List (Int×Int×List Int×List Int)))=>
 (sA (fun (k0:Nat) (s1:List (Int×Int×List Int×List Int))=>
 (bA y0.2.1 ((k0:Nat):Int)).bind fun a1=>
 (bA edges_ ((k0:Nat):Int)).bind fun a2=>
 (oA s1 a2 (a1.1,a1.2.1,a1.2.2.1,a1.2.2.2)).bind fun a3=>
 some a3) y0.2.1.length 0 s0.2).bind fun (s2:List (Int×Int×List Int×List Int))=>
 some (s0.1,s2,y0.2.2.1,y0.2.2.2)
def uM (g_:Int×(List (Int×Int×List Int×List Int))×List Int×List Int):Option (Int×(List (Int×Int×List Int×List Int))×List Int×List Int):=
 (fQ (g_.1,g_.2.1,g_.2.2.1,g_.2.2.2)).bind fun y0=>
 (jQ (g_.1,g_.2.1,g_.2.2.1,g_.2.2.2) y0.1 y0.2).bind fun y1=>
 some (y1.1,y1.2.1,y1.2.2.1,y1.2.2.2)
def nQ (d_:(Int×(List (Int×Int×List Int×List Int))×List Int×List Int)):Option ((Int×(List (Int×Int×List Int×List Int))×List Int×List Int)×Bool):=
 (gQ (d_.1,d_.2.1,d_.2.2.1,d_.2.2.2)).bind fun y8=>
 (some (!y8)).bind fun a0=>
 cond a0
 (some ((0,[],[],[]),false))
 ((uM (d_.1,d_.2.1,d_.2.2.1,d_.2.2.2)).bind fun y0=>
 some ((y0.1,y0.2.1,y0.2.2.1,y0.2.2.2),true))
def rQ (r_:Int×Int×List (List Int)):Option ((Int×(List (Int×Int×List Int×List Int))×List Int×List Int)×Bool):=
 ((some (decide ((12:Int)<r_.1))).bind fun a0=>
 cond a0
 (some true)
 ((some (decide ((12:Int)<r_.2.1))).bind fun a1=>
 some a1)).bind fun (s0:Bool)=>
 cond s0
 (some ((0,[],[],[]),false))
 ((xK (0,[],[],[]) ((r_.2.2.length:Nat):Int)).bind fun y0=>
 (sA (fun (k0:Nat) (s1:Int×(List (Int×Int×List Int×List Int)))=>
 (bA y0.2 ((k0:Nat):Int)).bind fun a2=>
 (zD (s1.1,s1.2,[],[]) 10 0 [] [a2]).bind fun y1=>
 some (y1.1,y1.2.1)) y0.2.length 0 (y0.1.1,[])).bind fun (s2:Int×(List (Int×Int×List Int×List Int)))=>
 (mV (r_.1,r_.2.1,r_.2.2)).bind fun y2=>
 (mQ (s2.1,s2.2,[],[]) y0.2 r_.2.2 y2).bind fun y3=>
 (fC y3.2 0 r_.1).bind fun a3=>
 (sA (fun (k1:Nat) (s3:Int×(List (Int×Int×List Int×List Int))×List Int)=>
 (bA a3 ((k1:Nat):Int)).bind fun a4=>
 (jF (s3.1,s3.2.1,s3.2.2,[])).bind fun y4=>
 (jF (y4.1.1,s3.2.1,s3.2.2,[])).bind fun y5=>
 (iB s3.2.2 [y4.2]).bind fun a5=>
 (zD (y5.1.1,s3.2.1,a5,[]) 9 0 [y4.2,a4] [y5.2]).bind fun y6=>
 (zD (y6.1,y6.2.1,a5,[]) 4 0 [y5.2] []).bind fun y7=>
 some (y7.1,y7.2.1,a5)) a3.length 0 (y3.1.1,y3.1.2.1,[])).bind fun (s4:Int×(List (Int×Int×List Int×List Int))×List Int)=>
 (fC y3.2 r_.1 ((y3.2.length:Nat):Int)).bind fun a6=>
 (nQ (s4.1,s4.2.1,s4.2.2,a6)).bind fun y8=>
 some ((y8.1.1,y8.1.2.1,y8.1.2.2.1,y8.1.2.2.2),y8.2))
def yK (p_:Int) (r_:Int×Int×List (List Int)):Option ((Int×(List (Int×Int×List Int×List Int))×List Int×List Int)×Bool):=
 (jR p_ (r_.1,r_.2.1,r_.2.2)).bind fun y9=>
 (some (!y9)).bind fun a0=>
 cond a0
 (some ((0,[],[],[]),false))
 ((rQ (r_.1,r_.2.1,r_.2.2)).bind fun y0=>
 some ((y0.1.1,y0.1.2.1,y0.1.2.2.1,y0.1.2.2.2),y0.2))
def tH (a_:List Int) (b_:List Int):Option Bool:=
 (some (!decide (((a_.length:Nat):Int)=((b_.length:Nat):Int)))).bind fun a3=>
 cond a3
 (some false)
 (lC (kB (fun (s0:Int)=>
 (some (decide (s0<((a_.length:Nat):Int)))).bind fun a0=>
 cond a0
 ((bA a_ s0).bind fun a1=>
 (bA b_ s0).bind fun a2=>
 (some (!decide (a1=a2))).bind fun a4=>
 cond a4
 (some (.inr (.inr false)))
 ((yA s0 1).bind fun a5=>
 some (.inl a5)))
 (some (.inr (.inl ())))) 0) fun (s1:Unit)=>
 some true)
def kS (a_:Int×Int×List Int×List Int) (b_:Int×Int×List Int×List Int):Option Bool:=
 (some (!decide (a_.1=b_.1))).bind fun a0=>
 cond a0
 (some false)
 ((some (!decide (a_.2.1=b_.2.1))).bind fun a1=>
 cond a1
 (some false)
 ((tH a_.2.2.1 b_.2.2.1).bind fun y0=>
 (some (!y0)).bind fun a2=>
 cond a2
 (some false)
 ((tH a_.2.2.2 b_.2.2.2).bind fun y1=>
 (some (!y1)).bind fun a3=>
 cond a3
 (some false)
 (some true))))
def yR (a_:List (Int×Int×List Int×List Int)) (b_:List (Int×Int×List Int×List Int)):Option Bool:=
 (some (!decide (((a_.length:Nat):Int)=((b_.length:Nat):Int)))).bind fun a3=>
 cond a3
 (some false)
 (lC (kB (fun (s0:Int)=>
 (some (decide (s0<((a_.length:Nat):Int)))).bind fun a0=>
 cond a0
 ((bA a_ s0).bind fun a1=>
 (bA b_ s0).bind fun a2=>
 (kS (a1.1,a1.2.1,a1.2.2.1,a1.2.2.2) (a2.1,a2.2.1,a2.2.2.1,a2.2.2.2)).bind fun y0=>
 (some (!y0)).bind fun a4=>
 cond a4
 (some (.inr (.inr false)))
 ((yA s0 1).bind fun a5=>
 some (.inl a5)))
 (some (.inr (.inl ())))) 0) fun (s1:Unit)=>
 some true)
def fL (a_:Int×(List (Int×Int×List Int×List Int))×List Int×List Int) (b_:Int×(List (Int×Int×List Int×List Int))×List Int×List Int):Option Bool:=
 (some (!decide (a_.1=b_.1))).bind fun a0=>
 cond a0
 (some false)
 ((yR a_.2.1 b_.2.1).bind fun y0=>
 (some (!y0)).bind fun a1=>
 cond a1
 (some false)
 ((tH a_.2.2.1 b_.2.2.1).bind fun y1=>
 (some (!y1)).bind fun a2=>
 cond a2
 (some false)
 ((tH a_.2.2.2 b_.2.2.2).bind fun y2=>
 (some (!y2)).bind fun a3=>
 cond a3
 (some false)
 (some true))))
def eL (a_:List (List Int)) (b_:List (List Int)):Option Bool:=
 (some (!decide (((a_.length:Nat):Int)=((b_.length:Nat):Int)))).bind fun a3=>
 cond a3
 (some false)
 (lC (kB (fun (s0:Int)=>
 (some (decide (s0<((a_.length:Nat):Int)))).bind fun a0=>
 cond a0
 ((bA a_ s0).bind fun a1=>
 (bA b_ s0).bind fun a2=>
 (tH a1 a2).bind fun y0=>
 (some (!y0)).bind fun a4=>
 cond a4
 (some (.inr (.inr false)))
 ((yA s0 1).bind fun a5=>
 some (.inl a5)))
 (some (.inr (.inl ())))) 0) fun (s1:Unit)=>
 some true)
def gR (a_:Int×Int×List (List Int)) (b_:Int×Int×List (List Int)):Option Bool:=
 (some (!decide (a_.1=b_.1))).bind fun a9=>
 cond a9
 (some false)
 ((some (!decide (a_.2.1=b_.2.1))).bind fun a0=>
 cond a0
 (some false)
 ((eL a_.2.2 b_.2.2).bind fun y0=>
 (some (!y0)).bind fun a1=>
 cond a1
 (some false)
 (some true)))
def rH (a_:List Int) (k_:Int):Option (List Int×Int):=
 (kB (fun (s0:List Int×Int×Int)=>
 (some (decide (s0.2.2<((s0.1.length:Nat):Int)))).bind fun a0=>
 cond a0
 ((oA s0.1 s0.2.2 s0.2.1).bind fun a1=>
 (yA s0.2.1 1).bind fun a2=>
 (yA s0.2.2 1).bind fun a3=>
 some (.inl (a1,a2,a3)))
 (some (.inr (s0.1,s0.2.1)))) (a_,k_,0)).bind fun (s1:List Int×Int)=>
 some (s1.1,s1.2)
def cN (a_:List (List Int)) (k_:Int):Option (List (List Int)×Int):=
 (kB (fun (s0:List (List Int)×Int×Int)=>
 (some (decide (s0.2.2<((s0.1.length:Nat):Int)))).bind fun a0=>
 cond a0
 ((bA s0.1 s0.2.2).bind fun a1=>
 (rH a1 s0.2.1).bind fun y0=>
 (oA s0.1 s0.2.2 y0.1).bind fun a2=>
 (yA s0.2.2 1).bind fun a3=>
 some (.inl (a2,y0.2,a3)))
 (some (.inr (s0.1,s0.2.1)))) (a_,k_,0)).bind fun (s1:List (List Int)×Int)=>
 some (s1.1,s1.2)
def uQ (a_:Int×Int×List (List Int)) (k_:Int):Option ((Int×Int×List (List Int))×Int):=
 (cN a_.2.2 k_).bind fun y5=>
 some ((a_.1,a_.2.1,y5.1),y5.2)
def pR (a_:List (Int×Int×List Int×List Int)) (k_:Int):Option ((List (Int×Int×List Int×List Int))×Int):=
 (kB (fun (s0:(List (Int×Int×List Int×List Int))×Int×Int)=>
 (some (decide (s0.2.2<((s0.1.length:Nat):Int)))).bind fun a0=>
 cond a0
 ((bA s0.1 s0.2.2).bind fun a1=>
 (oA s0.1 s0.2.2 (s0.2.1,a1.2.1,a1.2.2.1,a1.2.2.2)).bind fun a2=>
 (yA s0.2.1 1).bind fun a3=>
 (bA a2 s0.2.2).bind fun a4=>
 (oA a2 s0.2.2 (a4.1,a3,a4.2.2.1,a4.2.2.2)).bind fun a5=>
 (yA a3 1).bind fun a6=>
 (bA a5 s0.2.2).bind fun a7=>
 (rH a7.2.2.1 a6).bind fun y0=>
 (oA a5 s0.2.2 (a7.1,a7.2.1,y0.1,a7.2.2.2)).bind fun a8=>
 (bA a8 s0.2.2).bind fun a9=>
 (rH a9.2.2.2 y0.2).bind fun y1=>
 (oA a8 s0.2.2 (a9.1,a9.2.1,a9.2.2.1,y1.1)).bind fun a10=>
 (yA s0.2.2 1).bind fun a11=>
 some (.inl (a10,y1.2,a11)))
 (some (.inr (s0.1,s0.2.1)))) (a_,k_,0)).bind fun (s1:(List (Int×Int×List Int×List Int))×Int)=>
 some (s1.1,s1.2)
def oR (a_:Int×(List (Int×Int×List Int×List Int))×List Int×List Int) (k_:Int):Option ((Int×(List (Int×Int×List Int×List Int))×List Int×List Int)×Int):=
 (pR a_.2.1 k_).bind fun y7=>
 (rH a_.2.2.1 y7.2).bind fun y0=>
 (rH a_.2.2.2 y0.2).bind fun y1=>
 some ((a_.1,y7.1,y0.1,y1.1),y1.2)
def tG (a_:List Int) (k_:Int):Option Int:=
 lC (kB (fun (s0:Int×Int)=>
 (some (decide (s0.2<((a_.length:Nat):Int)))).bind fun a0=>
 cond a0
 ((bA a_ s0.2).bind fun a1=>
 (some (!decide (a1=s0.1))).bind fun a2=>
 cond a2
 (some (.inr (.inr (-1))))
 ((yA s0.1 1).bind fun a3=>
 (yA s0.2 1).bind fun a4=>
 some (.inl (a3,a4))))
 (some (.inr (.inl s0.1)))) (k_,0)) fun (s1:Int)=>
 some s1
def eN (a_:List (Int×Int×List Int×List Int)) (k_:Int):Option Int:=
 lC (kB (fun (s0:Int×Int)=>
 (some (decide (s0.2<((a_.length:Nat):Int)))).bind fun a0=>
 cond a0
 ((bA a_ s0.2).bind fun a1=>
 (some (!decide (a1.1=s0.1))).bind fun a2=>
 cond a2
 (some (.inr (.inr (-1))))
 ((yA s0.1 1).bind fun a3=>
 (bA a_ s0.2).bind fun a4=>
 (some (!decide (a4.2.1=a3))).bind fun a5=>
 cond a5
 (some (.inr (.inr (-1))))
 ((yA a3 1).bind fun a6=>
 (bA a_ s0.2).bind fun a7=>
 (tG a7.2.2.1 a6).bind fun y0=>
 (some (decide (y0<0))).bind fun a8=>
 cond a8
 (some (.inr (.inr (-1))))
 ((bA a_ s0.2).bind fun a9=>
 (tG a9.2.2.2 y0).bind fun y1=>
 (some (decide (y1<0))).bind fun a10=>
 cond a10
 (some (.inr (.inr (-1))))
 ((yA s0.2 1).bind fun a11=>
 some (.inl (y1,a11)))))))
 (some (.inr (.inl s0.1)))) (k_,0)) fun (s1:Int)=>
 some s1
def dN (a_:Int×(List (Int×Int×List Int×List Int))×List Int×List Int) (k_:Int):Option Int:=
 (eN a_.2.1 k_).bind fun y7=>
 (some (decide (y7<0))).bind fun a0=>
 cond a0
 (some (-1))
 ((tG a_.2.2.1 y7).bind fun y0=>
 (some (decide (y0<0))).bind fun a1=>
 cond a1
 (some (-1))
 ((tG a_.2.2.2 y0).bind fun y1=>
 (some (decide (y1<0))).bind fun a2=>
 cond a2
 (some (-1))
 (some y1)))
def iV (aP_:Int) (aR_:Int×Int×List (List Int)):Option Bool:=
 (fR (aR_.1,aR_.2.1,aR_.2.2) 1048576).bind fun y6=>
 (some (decide (y6<0))).bind fun a9=>
 cond a9
 (some true)
 ((pJ (aR_.1,aR_.2.1,aR_.2.2)).bind fun y0=>
 (vM aP_ (y0.1,y0.2.1,y0.2.2)).bind fun y1=>
 (pJ (aR_.1,aR_.2.1,aR_.2.2)).bind fun y2=>
 (yK aP_ (y2.1,y2.2.1,y2.2.2)).bind fun y3=>
 ((fL (y3.1.1,y3.1.2.1,y3.1.2.2.1,y3.1.2.2.2) (y1.1.1,y1.1.2.1,y1.1.2.2.1,y1.1.2.2.2)).bind fun y4=>
 (some (!y4)).bind fun a0=>
 cond a0
 (some true)
 ((some (!decide (y3.2=y1.2))).bind fun a1=>
 some a1)).bind fun (s0:Bool)=>
 cond s0
 (some false)
 ((pJ (aR_.1,aR_.2.1,aR_.2.2)).bind fun y5=>
 (gR (y2.1,y2.2.1,y2.2.2) (y5.1,y5.2.1,y5.2.2)).bind fun y7=>
 (some (!y7)).bind fun a2=>
 cond a2
 (some false)
 ((uQ (y2.1,y2.2.1,y2.2.2) 1).bind fun y8=>
 ((some (decide (y8.2<0))).bind fun a3=>
 cond a3
 (some true)
 ((fL (y3.1.1,y3.1.2.1,y3.1.2.2.1,y3.1.2.2.2) (y1.1.1,y1.1.2.1,y1.1.2.2.1,y1.1.2.2.2)).bind fun y9=>
 (some (!y9)).bind fun a4=>
 cond a4
 (some true)
 ((some (!decide (y3.2=y1.2))).bind fun a5=>
 some a5))).bind fun (s1:Bool)=>
 cond s1
 (some false)
 ((oR (y3.1.1,y3.1.2.1,y3.1.2.2.1,y3.1.2.2.2) 1).bind fun y10=>
 (dN (y3.1.1,y10.1.2.1,y10.1.2.2.1,y10.1.2.2.2) 1).bind fun y11=>
 (some (decide (y11<0))).bind fun a6=>
 cond a6
 (some false)
 ((some (!decide (y11=y10.2))).bind fun a7=>
 cond a7
 (some false)
 ((pJ (aR_.1,aR_.2.1,aR_.2.2)).bind fun y13=>
 (yK aP_ (y13.1,y13.2.1,y13.2.2)).bind fun y14=>
 ((fL (y14.1.1,y14.1.2.1,y14.1.2.2.1,y14.1.2.2.2) (y1.1.1,y1.1.2.1,y1.1.2.2.1,y1.1.2.2.2)).bind fun y15=>
 (some (!y15)).bind fun a8=>
 cond a8
 (some true)
 ((some (!decide (y14.2=y1.2))).bind fun a10=>
 some a10)).bind fun (s2:Bool)=>
 cond s2
 (some false)
 ((dN (y3.1.1,y10.1.2.1,y10.1.2.2.1,y10.1.2.2.2) 1).bind fun y16=>
 (some (decide (y16<0))).bind fun a11=>
 cond a11
 (some false)
 ((some (!decide (y16=y10.2))).bind fun a12=>
 cond a12
 (some false)
 (some true)))))))))
end
end Go.Proofs.YtbofgnbanmbopaaGreatDoor
