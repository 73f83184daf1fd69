/-
  Partial functions over plain data: the operations of Go as functions into Option, loops as iterations. No program in sight. No condition.
-/
namespace Go.Proofs.YtlggnmkelgplnaaGreatDoor
def inI (n:Int):Prop:=-9223372036854775808≤n∧n≤9223372036854775807
instance (n:Int):Decidable (inI n):=by unfold inI;infer_instance
def cI (x:Int):Option Int:=if inI x then some x else none
def qA (a b:Int):Option Int:=cI (a+b)
def subO (a b:Int):Option Int:=cI (a-b)
def vF (a b:Int):Option Int:=cI (a*b)
def negO (a:Int):Option Int:=cI (0-a)
def tL (a b:Int):Option Int:=if b=0 then none else cI (a.tdiv b)
def tD (a b:Int):Option Int:=if b=0 then none else some (a.tmod b)
def iB:Nat:=1099511627776
def idxO {α:Type} (xs:List α) (i:Int):Option α:=if 0≤i then xs[i.toNat]? else none
def setO {α:Type} (xs:List α) (i:Int) (a:α):Option (List α):=if 0≤i∧i.toNat<xs.length then some (xs.set i.toNat a) else none
def tA {α:Type} (xs ys:List α):Option (List α):=if xs.length+ys.length≤iB then some (xs++ys) else none
def nD {α:Type} (n:Int) (z:α):Option (List α):=if 0≤n∧n.toNat≤iB then some (List.replicate n.toNat z) else none
def fK {α:Type} (n m:Int) (z:α):Option (List α):=if 0≤n∧n≤m∧m.toNat≤iB then some (List.replicate n.toNat z) else none
def aB {α:Type} (xs:List α) (lo hi:Int):Option (List α):=if 0≤lo∧lo≤hi∧hi.toNat≤xs.length then some ((xs.drop lo.toNat).take (hi.toNat-lo.toNat)) else none
theorem aA {α β:Type}{m:Option α}{k:α→Option β}{y:β} (h:m.bind k=some y):∃ a,m=some a∧k a=some y:=by
 cases m with
 | none=>cases h
 | some a=>exact ⟨a,rfl,h⟩
theorem eB {α:Type}{a b:Option α}{y:α} (h:cond true a b=some y):a=some y:=h
theorem fB {α:Type}{a b:Option α}{y:α} (h:cond false a b=some y):b=some y:=h
def fC {σ τ:Type} (m:Option (σ⊕τ)) (k:σ→Option τ):Option τ:=m.bind fun
 | .inl s=>k s
 | .inr t=>some t
theorem zI {σ τ:Type}{k:σ→Option τ} (s:σ):fC (some (.inl s)) k=k s:=rfl
theorem BL_ {σ τ:Type}{k:σ→Option τ} (t:τ):fC (some (.inr t)) k=some t:=rfl
def forS {σ:Type} (f:Nat→σ→Option σ):Nat→Nat→σ→Option σ
 | 0,_,s=>some s
 | n+1,k,s=>(f k s).bind fun s'=>forS f n (k+1) s'
def nC {σ τ:Type} (f:Nat→σ→Option (σ⊕τ)):Nat→Nat→σ→Option (σ⊕τ)
 | 0,_,s=>some (.inl s)
 | n+1,k,s=>(f k s).bind fun
  | .inl s'=>nC f n (k+1) s'
  | .inr t=>some (.inr t)
def qG {σ τ:Type} (f:σ→Option (σ⊕τ)):Nat→σ→Option τ
 | 0,_=>none
 | n+1,s=>(f s).bind fun
  | .inl s'=>qG f n s'
  | .inr t=>some t
open Classical in
noncomputable def zB {σ τ:Type} (f:σ→Option (σ⊕τ)) (s:σ):Option τ:=if h:∃ n t,qG f n s=some t then some h.choose_spec.choose else none
theorem Dv_ {σ τ:Type}{f:σ→Option (σ⊕τ)}:∀ {n m:Nat}{s:σ}{t u:τ},qG f n s=some t→qG f m s=some u→t=u
 | 0,_,_,_,_,h,_=>by cases h
 | _+1,0,_,_,_,_,h=>by cases h
 | n+1,m+1,s,t,u,h,h'=>by
  unfold qG at h h'
  cases hf:f s with
  | none=>rw [hf] at h;cases h
  | some r=>
   rw [hf] at h h'
   cases r with
   | inl s'=>exact Dv_ (n:=n) (m:=m) h h'
   | inr v=>exact (Option.some.inj h).symm.trans (Option.some.inj h')
theorem whileO_iff {σ τ:Type}{f:σ→Option (σ⊕τ)}{s:σ}{t:τ}:zB f s=some t↔∃ n,qG f n s=some t:=by
 unfold zB
 constructor
 ·
  intro h
  split at h
  ·
   rename_i h'
   have:=h'.choose_spec.choose_spec
   rw [Option.some.inj h] at this
   exact ⟨_,this⟩
  · cases h
 ·
  rintro ⟨n,hn⟩
  have h':∃ n t,qG f n s=some t:=⟨n,t,hn⟩
  rw [dif_pos h']
  congr 1
  exact Dv_ h'.choose_spec.choose_spec hn
theorem Dj_ {σ τ:Type} (f:σ→Option (σ⊕τ)) (s:σ):zB f s=(f s).bind fun
  | .inl s'=>zB f s'
  | .inr t=>some t:=by
 apply Option.ext
 intro t
 show zB f s=some t↔_=some t
 rw [whileO_iff]
 constructor
 ·
  rintro ⟨n,hn⟩
  cases n with
  | zero=>cases hn
  | succ n=>
   unfold qG at hn
   cases hf:f s with
   | none=>rw [hf] at hn;cases hn
   | some r=>
    rw [hf] at hn
    cases r with
    | inl s'=>exact whileO_iff.2 ⟨n,hn⟩
    | inr v=>exact hn
 ·
  intro h
  cases hf:f s with
  | none=>rw [hf] at h;cases h
  | some r=>
   rw [hf] at h
   cases r with
   | inl s'=>
    obtain ⟨n,hn⟩:=whileO_iff.1 h
    exact ⟨n+1,by unfold qG;rw [hf];exact hn⟩
   | inr v=>exact ⟨1,by unfold qG;rw [hf];exact h⟩
theorem jG {σ τ:Type}{f:σ→Option (σ⊕τ)}{s s':σ} (h:f s=some (.inl s')):zB f s=zB f s':=by rw [Dj_,h];rfl
theorem eF {σ τ:Type}{f:σ→Option (σ⊕τ)}{s:σ}{t:τ} (h:f s=some (.inr t)):zB f s=some t:=by rw [Dj_,h];rfl
theorem oM {α:Type}{xs:List α}{i:Int}{a:α} (h:idxO xs i=some a):∃ m:Nat,i=(m:Int)∧xs[m]?=some a∧m<xs.length:=by
 unfold idxO at h
 split at h
 · exact ⟨i.toNat,by omega,h,(List.getElem?_eq_some_iff.1 h).1⟩
 · cases h
theorem bO {α:Type}{xs ys:List α}{i:Int}{a:α} (h:setO xs i a=some ys):∃ m:Nat,i=(m:Int)∧m<xs.length∧ys=xs.set m a:=by
 unfold setO at h
 split at h
 · exact ⟨i.toNat,by omega,by omega,(Option.some.inj h).symm⟩
 · cases h
theorem AS_ {α:Type}{xs ys zs:List α} (h:tA xs ys=some zs):xs.length+ys.length≤iB∧zs=xs++ys:=by
 unfold tA at h
 split at h
 · exact ⟨‹_›,(Option.some.inj h).symm⟩
 · cases h
theorem Hm_ {α:Type}{n c:Int}{z:α}{zs:List α} (h:fK n c z=some zs):∃ m k:Nat,n=(m:Int)∧c=(k:Int)∧m≤k∧k≤iB∧zs=List.replicate m z:=by
 unfold fK at h
 split at h
 · exact ⟨n.toNat,c.toNat,by omega,by omega,by omega,by omega,(Option.some.inj h).symm⟩
 · cases h
theorem nQ {α:Type}{xs zs:List α}{lo hi:Int} (h:aB xs lo hi=some zs):∃ l m:Nat,lo=(l:Int)∧hi=(m:Int)∧l≤m∧m≤xs.length∧zs=(xs.drop l).take (m-l):=by
 unfold aB at h
 split at h
 · exact ⟨lo.toNat,hi.toNat,by omega,by omega,by omega,by omega,(Option.some.inj h).symm⟩
 · cases h
def cN {α:Type} (xs:List α) (i j:Int):Option (List α):=(idxO xs i).bind fun a=>(idxO xs j).bind fun b=>(setO xs i b).bind fun ys=>setO ys j a
def neqO (i j:Int):Option Unit:=if i=j then none else some ()
theorem Ie_ {i j:Int}{u:Unit} (h:neqO i j=some u):i≠j:=by
 unfold neqO at h
 split at h
 · cases h
 · assumption
def neO {α:Type} (x:List α):Option Unit:=if x.isEmpty then none else some ()
theorem IO_ {α:Type}{x:List α}{u:Unit} (h:neO x=some u):x≠[]:=by
 rintro rfl;cases h
def By:Type:=Int
def yC (s:ByteArray) (i:Int):Option Int:=if 0≤i then (s[i.toNat]?).map (fun b=>(b.toNat:Int)) else none
def catO (a b:ByteArray):Option ByteArray:=if ((a.size+b.size:Nat):Int)≤9223372036854775807 then some (a++b) else none
def byU (x:By):UInt8:=UInt8.ofNat (Int.toNat x)
def kO (l:List By):ByteArray:=⟨(l.map byU).toArray⟩
def bP (a b:Int):Int:=if b > a then b else a
def aP (a b:Int):Int:=if b<a then b else a
end Go.Proofs.YtlggnmkelgplnaaGreatDoor
