/-
  Partial functions over plain data: the operations of Go as functions into Option, loops as iterations. No program in sight. No condition.
-/
namespace Go.Proofs.YtodfjigndedehaaGreatDoor
def inI (n:Int):Prop:=-9223372036854775808≤n∧n≤9223372036854775807
instance (n:Int):Decidable (inI n):=by unfold inI;infer_instance
def cI (x:Int):Option Int:=if inI x then some x else none
def nA (a b:Int):Option Int:=cI (a+b)
def subO (a b:Int):Option Int:=cI (a-b)
def sF (a b:Int):Option Int:=cI (a*b)
def negO (a:Int):Option Int:=cI (0-a)
def bM (a b:Int):Option Int:=if b=0 then none else cI (a.tdiv b)
def nD (a b:Int):Option Int:=if b=0 then none else some (a.tmod b)
def bB:Nat:=1099511627776
def idxO {α:Type} (xs:List α) (i:Int):Option α:=if 0≤i then xs[i.toNat]? else none
def setO {α:Type} (xs:List α) (i:Int) (a:α):Option (List α):=if 0≤i∧i.toNat<xs.length then some (xs.set i.toNat a) else none
def oA {α:Type} (xs ys:List α):Option (List α):=if xs.length+ys.length≤bB then some (xs++ys) else none
def bD {α:Type} (n:Int) (z:α):Option (List α):=if 0≤n∧n.toNat≤bB then some (List.replicate n.toNat z) else none
def gK {α:Type} (n m:Int) (z:α):Option (List α):=if 0≤n∧n≤m∧m.toNat≤bB then some (List.replicate n.toNat z) else none
def iB {α:Type} (xs:List α) (lo hi:Int):Option (List α):=if 0≤lo∧lo≤hi∧hi.toNat≤xs.length then some ((xs.drop lo.toNat).take (hi.toNat-lo.toNat)) else none
theorem nB {α β:Type}{m:Option α}{k:α→Option β}{y:β} (h:m.bind k=some y):∃ a,m=some a∧k a=some y:=by
 cases m with
 | none=>cases h
 | some a=>exact ⟨a,rfl,h⟩
theorem tB {α:Type}{a b:Option α}{y:α} (h:cond true a b=some y):a=some y:=h
theorem uB {α:Type}{a b:Option α}{y:α} (h:cond false a b=some y):b=some y:=h
def pC {σ τ:Type} (m:Option (σ⊕τ)) (k:σ→Option τ):Option τ:=m.bind fun
 | .inl s=>k s
 | .inr t=>some t
theorem vI {σ τ:Type}{k:σ→Option τ} (s:σ):pC (some (.inl s)) k=k s:=rfl
theorem BE_ {σ τ:Type}{k:σ→Option τ} (t:τ):pC (some (.inr t)) k=some t:=rfl
def forS {σ:Type} (f:Nat→σ→Option σ):Nat→Nat→σ→Option σ
 | 0,_,s=>some s
 | n+1,k,s=>(f k s).bind fun s'=>forS f n (k+1) s'
def zC {σ τ:Type} (f:Nat→σ→Option (σ⊕τ)):Nat→Nat→σ→Option (σ⊕τ)
 | 0,_,s=>some (.inl s)
 | n+1,k,s=>(f k s).bind fun
  | .inl s'=>zC f n (k+1) s'
  | .inr t=>some (.inr t)
def uG {σ τ:Type} (f:σ→Option (σ⊕τ)):Nat→σ→Option τ
 | 0,_=>none
 | n+1,s=>(f s).bind fun
  | .inl s'=>uG f n s'
  | .inr t=>some t
open Classical in
noncomputable def qB {σ τ:Type} (f:σ→Option (σ⊕τ)) (s:σ):Option τ:=if h:∃ n t,uG f n s=some t then some h.choose_spec.choose else none
theorem Du_ {σ τ:Type}{f:σ→Option (σ⊕τ)}:∀ {n m:Nat}{s:σ}{t u:τ},uG f n s=some t→uG f m s=some u→t=u
 | 0,_,_,_,_,h,_=>by cases h
 | _+1,0,_,_,_,_,h=>by cases h
 | n+1,m+1,s,t,u,h,h'=>by
  unfold uG at h h'
  cases hf:f s with
  | none=>rw [hf] at h;cases h
  | some r=>
   rw [hf] at h h'
   cases r with
   | inl s'=>exact Du_ (n:=n) (m:=m) h h'
   | inr v=>exact (Option.some.inj h).symm.trans (Option.some.inj h')
theorem whileO_iff {σ τ:Type}{f:σ→Option (σ⊕τ)}{s:σ}{t:τ}:qB f s=some t↔∃ n,uG f n s=some t:=by
 unfold qB
 constructor
 ·
  intro h
  split at h
  ·
   rename_i h'
   have:=h'.choose_spec.choose_spec
   rw [Option.some.inj h] at this
   exact ⟨_,this⟩
  · cases h
 ·
  rintro ⟨n,hn⟩
  have h':∃ n t,uG f n s=some t:=⟨n,t,hn⟩
  rw [dif_pos h']
  congr 1
  exact Du_ h'.choose_spec.choose_spec hn
theorem Dd_ {σ τ:Type} (f:σ→Option (σ⊕τ)) (s:σ):qB f s=(f s).bind fun
  | .inl s'=>qB f s'
  | .inr t=>some t:=by
 apply Option.ext
 intro t
 show qB f s=some t↔_=some t
 rw [whileO_iff]
 constructor
 ·
  rintro ⟨n,hn⟩
  cases n with
  | zero=>cases hn
  | succ n=>
   unfold uG at hn
   cases hf:f s with
   | none=>rw [hf] at hn;cases hn
   | some r=>
    rw [hf] at hn
    cases r with
    | inl s'=>exact whileO_iff.2 ⟨n,hn⟩
    | inr v=>exact hn
 ·
  intro h
  cases hf:f s with
  | none=>rw [hf] at h;cases h
  | some r=>
   rw [hf] at h
   cases r with
   | inl s'=>
    obtain ⟨n,hn⟩:=whileO_iff.1 h
    exact ⟨n+1,by unfold uG;rw [hf];exact hn⟩
   | inr v=>exact ⟨1,by unfold uG;rw [hf];exact h⟩
theorem lF {σ τ:Type}{f:σ→Option (σ⊕τ)}{s s':σ} (h:f s=some (.inl s')):qB f s=qB f s':=by rw [Dd_,h];rfl
theorem dE {σ τ:Type}{f:σ→Option (σ⊕τ)}{s:σ}{t:τ} (h:f s=some (.inr t)):qB f s=some t:=by rw [Dd_,h];rfl
theorem rJ {α:Type}{xs:List α}{i:Int}{a:α} (h:idxO xs i=some a):∃ m:Nat,i=(m:Int)∧xs[m]?=some a∧m<xs.length:=by
 unfold idxO at h
 split at h
 · exact ⟨i.toNat,by omega,h,(List.getElem?_eq_some_iff.1 h).1⟩
 · cases h
theorem eO {α:Type}{xs ys:List α}{i:Int}{a:α} (h:setO xs i a=some ys):∃ m:Nat,i=(m:Int)∧m<xs.length∧ys=xs.set m a:=by
 unfold setO at h
 split at h
 · exact ⟨i.toNat,by omega,by omega,(Option.some.inj h).symm⟩
 · cases h
theorem DF_ {α:Type}{xs ys zs:List α} (h:oA xs ys=some zs):xs.length+ys.length≤bB∧zs=xs++ys:=by
 unfold oA at h
 split at h
 · exact ⟨‹_›,(Option.some.inj h).symm⟩
 · cases h
theorem HY_ {α:Type}{n c:Int}{z:α}{zs:List α} (h:gK n c z=some zs):∃ m k:Nat,n=(m:Int)∧c=(k:Int)∧m≤k∧k≤bB∧zs=List.replicate m z:=by
 unfold gK at h
 split at h
 · exact ⟨n.toNat,c.toNat,by omega,by omega,by omega,by omega,(Option.some.inj h).symm⟩
 · cases h
theorem iQ {α:Type}{xs zs:List α}{lo hi:Int} (h:iB xs lo hi=some zs):∃ l m:Nat,lo=(l:Int)∧hi=(m:Int)∧l≤m∧m≤xs.length∧zs=(xs.drop l).take (m-l):=by
 unfold iB at h
 split at h
 · exact ⟨lo.toNat,hi.toNat,by omega,by omega,by omega,by omega,(Option.some.inj h).symm⟩
 · cases h
def dN {α:Type} (xs:List α) (i j:Int):Option (List α):=(idxO xs i).bind fun a=>(idxO xs j).bind fun b=>(setO xs i b).bind fun ys=>setO ys j a
def neqO (i j:Int):Option Unit:=if i=j then none else some ()
theorem I2_ {i j:Int}{u:Unit} (h:neqO i j=some u):i≠j:=by
 unfold neqO at h
 split at h
 · cases h
 · assumption
def By:Type:=Int
def strO (s:ByteArray) (i:Int):Option Int:=if 0≤i then (s[i.toNat]?).map (fun b=>(b.toNat:Int)) else none
def catO (a b:ByteArray):Option ByteArray:=if ((a.size+b.size:Nat):Int)≤9223372036854775807 then some (a++b) else none
def byU (x:By):UInt8:=UInt8.ofNat (Int.toNat x)
def nO (l:List By):ByteArray:=⟨(l.map byU).toArray⟩
def iP (a b:Int):Int:=if b > a then b else a
def gP (a b:Int):Int:=if b<a then b else a
structure MI where
 kvs:List (Int×Int)
def getL:List (Int×Int)→Int→Int
 | [],_=>0
 | p::l,k=>if p.1=k then p.2 else getL l k
def jG:List (Int×Int)→Int→Int→List (Int×Int)
 | [],k,v=>[(k,v)]
 | p::l,k,v=>if p.1=k then (k,v)::l else p::jG l k v
def getM (m:MI) (k:Int):Int:=getL m.kvs k
def eJ (m:MI) (k v:Int):MI:=⟨jG m.kvs k v⟩
def eM (l:List (Int×Int)) (k:Int):Bool:=l.any fun p=>decide (p.1=k)
def dM (m:MI) (k:Int):Bool:=eM m.kvs k
def kvO {σ:Type} (f:σ→Int→Int→Option σ):List (Int×Int)→σ→Option σ
 | [],s=>some s
 | p::l,s=>(f s p.1 p.2).bind (kvO f l)
def BU_ {σ:Type} (f:σ→Int→Int→Option σ):Prop:=∀ s k v k' v',k≠k'→((f s k v).bind fun t=>f t k' v')=((f s k' v').bind fun t=>f t k v)
def rH (l:List (Int×Int)):Prop:=(l.map (·.1)).Nodup
theorem JD_ {σ:Type}{f:σ→Int→Int→Option σ} (hc:BU_ f){l l':List (Int×Int)} (h:l.Perm l'):rH l→∀ s,kvO f l s=kvO f l' s:=by
 induction h with
 | nil=>intro _ s;rfl
 | cons x h ih=>
  intro hk s
  have hk':=(List.nodup_cons.1 hk).2
  show (f s x.1 x.2).bind _=(f s x.1 x.2).bind _
  cases f s x.1 x.2 with
  | none=>rfl
  | some t=>exact ih hk' t
 | swap x y l=>
  intro hk s
  have hne:y.1≠x.1:=fun e=>(List.nodup_cons.1 hk).1 (by show y.1∈_;rw [e];simp)
  have:=hc s y.1 y.2 x.1 x.2 hne
  show (f s y.1 y.2).bind (fun t=>(f t x.1 x.2).bind (kvO f l))=(f s x.1 x.2).bind fun t=>(f t y.1 y.2).bind (kvO f l)
  rw [←Option.bind_assoc,← Option.bind_assoc,this]
 | trans h1 h2 ih1 ih2=>
  intro hk s
  rw [ih1 hk s]
  exact ih2 ((h1.map _).nodup_iff.1 hk) s
theorem Dp_:∀ (l:List (Int×Int)) (k v:Int),rH l→rH (jG l k v)∧∀ x,x∈(jG l k v).map (·.1)↔x=k∨x∈l.map (·.1)
 | [],k,v,_=>⟨by simp [jG,rH],by simp [jG]⟩
 | p::l,k,v,h=>by
  obtain ⟨h1,h2⟩:=List.nodup_cons.1 h
  unfold jG
  split
  ·
   rename_i e
   subst e
   exact ⟨List.nodup_cons.2 ⟨h1,h2⟩,fun x=>by simp⟩
  ·
   rename_i e
   obtain ⟨i1,i2⟩:=Dp_ l k v h2
   refine ⟨List.nodup_cons.2 ⟨fun hm=>?_,i1⟩,fun x=>?_⟩
   ·
    rcases (i2 _).1 hm with hm | hm
    · exact e hm
    · exact h1 hm
   ·
    simp only [List.map_cons,List.mem_cons,i2]
    constructor
    ·
     rintro (h | h | h)
     · exact .inr (.inl h)
     · exact .inl h
     · exact .inr (.inr h)
    ·
     rintro (h | h | h)
     · exact .inr (.inl h)
     · exact .inl h
     · exact .inr (.inr h)
end Go.Proofs.YtodfjigndedehaaGreatDoor
