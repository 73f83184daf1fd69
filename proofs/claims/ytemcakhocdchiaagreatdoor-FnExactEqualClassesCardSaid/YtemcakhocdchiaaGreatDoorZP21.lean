/-
  Plain laws of the partial functions: loops whose states are known, lists read and written. No program in sight. No condition.
-/
import Derived.Test.YtemcakhocdchiaaGreatDoorZF
import Derived.Test.YtemcakhocdchiaaGreatDoorZFn
namespace Go.Proofs.YtemcakhocdchiaaGreatDoor
class Nice (α:Type) where
 ok:α→Prop
instance:Nice Int:=⟨inI⟩
instance:Nice Bool:=⟨fun _=>True⟩
instance {α:Type} [Nice α]:Nice (List α):=⟨fun l=>(l.length:Int)≤9223372036854775807∧∀ x∈l,Nice.ok x⟩
instance {α β:Type} [Nice α] [Nice β]:Nice (α×β):=⟨fun x=>Nice.ok x.1∧Nice.ok x.2⟩
theorem stp {α β:Type}{a:α}{k:α→Option β}{y:Option β} (h:k a=y):(some a).bind k=y:=h
theorem bnd {α β:Type}{m:Option α}{a:α}{k:α→Option β}{y:Option β} (h:m=some a) (h2:k a=y):m.bind k=y:=by rw [h];exact h2
theorem sqW {σ τ:Type}{m r:Option (σ⊕τ)}{k:σ→Option τ}{y:Option τ} (h:m=r) (h2:uB r k=y):uB m k=y:=by rw [h];exact h2
theorem bndW {α β:Type}{m r:Option α}{k:α→Option β}{y:Option β} (h:m=r) (h2:r.bind k=y):m.bind k=y:=by rw [h];exact h2
theorem cTW {α:Type}{c:Bool}{a b y:α} (h:c=true) (h2:a=y):cond c a b=y:=by rw [h];exact h2
theorem cFW {α:Type}{c:Bool}{a b y:α} (h:c=false) (h2:b=y):cond c a b=y:=by rw [h];exact h2
theorem dT {P:Prop} [Decidable P] (h:P):decide P=true:=decide_eq_true h
theorem dF {P:Prop} [Decidable P] (h:¬P):decide P=false:=decide_eq_false h
theorem nT {b:Bool} (h:b=true):(!b)=false:=by rw [h];rfl
theorem nF {b:Bool} (h:b=false):(!b)=true:=by rw [h];rfl
theorem tK {x:Int} (h:inI x):cI x=some x:=if_pos h
theorem aB {a b:Int} (h1:-9223372036854775808≤a+b) (h2:a+b≤9223372036854775807):mA a b=some (a+b):=tK ⟨h1,h2⟩
theorem wC {a b:Int} (h1:-9223372036854775808≤a-b) (h2:a-b≤9223372036854775807):subO a b=some (a-b):=tK ⟨h1,h2⟩
theorem tL {a b:Int} (h1:-9223372036854775808≤a*b) (h2:a*b≤9223372036854775807):zF a b=some (a*b):=tK ⟨h1,h2⟩
theorem wG {a b:Int} (h:b≠0):qD a b=some (a.tmod b):=if_neg h
theorem idxO_nat {α:Type} (xs:List α) (k:Nat):idxO xs (k:Int)=xs[k]?:=by
 unfold idxO;rw [if_pos (by omega)];rfl
theorem kA {α:Type}{xs:List α}{k:Nat}{a:α} (h:xs[k]?=some a):idxO xs (k:Int)=some a:=by rw [idxO_nat,h]
theorem tC {α:Type}{xs:List α}{k:Nat} (a:α) (h:k<xs.length):setO xs (k:Int) a=some (xs.set k a):=by
 unfold setO;rw [if_pos (by omega)];rfl
theorem iB {α:Type}{xs ys:List α} (h:xs.length+ys.length≤bB):nA xs ys=some (xs++ys):=if_pos h
theorem mH {α:Type}{n:Nat} (z:α) (h:n≤bB):aD (n:Int) z=some (List.replicate n z):=by
 unfold aD;rw [if_pos (by omega)];rfl
theorem CZ_ {α:Type}{n:Nat} (z:α) (h:n≤bB):oK 0 (n:Int) z=some []:=by
 unfold oK;rw [if_pos (by omega)];rfl
theorem ET_ {σ:Type}{f:Nat→σ→Option σ} (v:Nat→σ):∀ (n k:Nat),(∀ j,k≤j→j<k+n→f j (v j)=some (v (j+1)))→forS f n k (v k)=some (v (k+n))
 | 0,k,_=>rfl
 | n+1,k,h=>by
  show (f k (v k)).bind _=_
  rw [h k (Nat.le_refl _) (by omega)]
  show forS f n (k+1) (v (k+1))=_
  rw [ET_ v n (k+1) (fun j h1 h2=>h j (by omega) (by omega))]
  rw [show k+1+n=k+(n+1) by omega]
theorem xC {σ:Type}{f:Nat→σ→Option σ}{n:Nat} (v:Nat→σ) (h:∀ j,j<n→f j (v j)=some (v (j+1))):forS f n 0 (v 0)=some (v n):=by
 have:=ET_ v n 0 (fun j _ h2=>h j (by omega))
 simpa using this
theorem EV_ {σ τ:Type}{f:Nat→σ→Option (σ⊕τ)} (v:Nat→σ):∀ (n k:Nat),(∀ j,k≤j→j<k+n→f j (v j)=some (.inl (v (j+1))))→dC f n k (v k)=some (.inl (v (k+n)))
 | 0,k,_=>rfl
 | n+1,k,h=>by
  show (f k (v k)).bind _=_
  rw [h k (Nat.le_refl _) (by omega)]
  show dC f n (k+1) (v (k+1))=_
  rw [EV_ v n (k+1) (fun j h1 h2=>h j (by omega) (by omega))]
  rw [show k+1+n=k+(n+1) by omega]
theorem EU_ {σ τ:Type}{f:Nat→σ→Option (σ⊕τ)}{n:Nat} (v:Nat→σ) (h:∀ j,j<n→f j (v j)=some (.inl (v (j+1)))):dC f n 0 (v 0)=some (.inl (v n)):=by
 have:=EV_ v n 0 (fun j _ h2=>h j (by omega))
 simpa using this
theorem D6_ {σ τ:Type}{f:Nat→σ→Option (σ⊕τ)} (v:Nat→σ){t:τ}:∀ (m k n:Nat),m<n→(∀ j,k≤j→j<k+m→f j (v j)=some (.inl (v (j+1))))→f (k+m) (v (k+m))=some (.inr t)→dC f n k (v k)=some (.inr t)
 | _,_,0,hm,_,_=>by omega
 | 0,k,n+1,_,_,he=>by
  show (f k (v k)).bind _=_
  have he':f k (v k)=some (.inr t):=he
  rw [he'];rfl
 | m+1,k,n+1,hm,h,he=>by
  show (f k (v k)).bind _=_
  rw [h k (Nat.le_refl _) (by omega)]
  show dC f n (k+1) (v (k+1))=_
  refine D6_ v m (k+1) n (by omega) (fun j h1 h2=>h j (by omega) (by omega)) ?_
  rw [show k+1+m=k+(m+1) by omega];exact he
theorem Dr_ {σ τ:Type}{f:Nat→σ→Option (σ⊕τ)}{n:Nat} (v:Nat→σ){t:τ} (m:Nat) (hm:m<n) (h:∀ j,j<m→f j (v j)=some (.inl (v (j+1)))) (he:f m (v m)=some (.inr t)):dC f n 0 (v 0)=some (.inr t):=
 D6_ v m 0 n hm (fun j _ h2=>h j (by omega)) (by simpa using he)
theorem uG {α τ:Type}{f:Nat→Unit→Option (Unit⊕τ)}{t:τ} (P:α→Bool):∀ (l:List α) (k:Nat),(∀ j a,l[j]?=some a→f (k+j) ()=some (if P a then .inl () else .inr t))→dC f l.length k ()=some (if l.all P then .inl () else .inr t)
 | [],k,_=>rfl
 | a::l,k,h=>by
  show (f k ()).bind _=_
  have h0:f k ()=_:=h 0 a rfl
  rw [h0]
  cases hP:P a with
  | false=>simp [hP]
  | true=>
   have:=uG P l (k+1) (fun j b hb=>by
    have:=h (j+1) b (by simpa using hb)
    rw [show k+1+j=k+(j+1) by omega];exact this)
   simp only [hP,List.all_cons,Bool.true_and,if_true]
   exact this
theorem C9_ {σ τ:Type}{f:σ→Option (σ⊕τ)} (v:Nat→σ){t:τ}:∀ (n k:Nat),(∀ j,k≤j→j<k+n→f (v j)=some (.inl (v (j+1))))→f (v (k+n))=some (.inr t)→nB f (v k)=some t
 | 0,k,_,he=>kF he
 | n+1,k,h,he=>by
  rw [qG (h k (Nat.le_refl _) (by omega))]
  refine C9_ v n (k+1) (fun j h1 h2=>h j (by omega) (by omega)) ?_
  rw [show k+1+n=k+(n+1) by omega];exact he
theorem dK {σ τ:Type}{f:σ→Option (σ⊕τ)} (v:Nat→σ){t:τ} (n:Nat) (h:∀ j,j<n→f (v j)=some (.inl (v (j+1)))) (he:f (v n)=some (.inr t)):nB f (v 0)=some t:=
 C9_ v n 0 (fun j _ h2=>h j (by omega)) (by simpa using he)
theorem eE {α β:Type}{f:Nat→List β→Option (List β)} (g:α→β) (l:List α) (s:List β) (hb:s.length+l.length≤bB) (h:∀ j a s',l[j]?=some a→s'.length=s.length+j→f j s'=some (s'++[g a])):forS f l.length 0 s=some (s++l.map g):=by
 have:=xC (f:=f) (n:=l.length) (fun j=>s++(l.take j).map g) (fun j hj=>by
  rw [h j l[j] _ (List.getElem?_eq_getElem hj) (by simp;omega)]
  simp only [List.append_assoc]
  rw [List.take_add_one,List.getElem?_eq_getElem hj]
  simp only [List.map_append,Option.toList_some,List.map_cons,List.map_nil])
 simpa using this
theorem DI_ {α:Type} (xs:List α) (g:Nat→α→α) (j:Nat) (h:j<xs.length):((xs.take j).mapIdx g++xs.drop j).set j (g j xs[j])=(xs.take (j+1)).mapIdx g++xs.drop (j+1):=by
 rw [List.set_append_right _ _ (by simp;omega)]
 have:j-((xs.take j).mapIdx g).length=0:=by simp;omega
 rw [this,List.take_add_one,List.getElem?_eq_getElem h,List.drop_eq_getElem_cons h,List.mapIdx_append]
 simp only [Option.toList_some,List.mapIdx_cons,List.mapIdx_nil,List.length_take,Nat.min_eq_left (Nat.le_of_lt h),List.set_cons_zero,List.append_assoc,List.singleton_append,Nat.zero_add]
end Go.Proofs.YtemcakhocdchiaaGreatDoor
namespace Go.Proofs.YtemcakhocdchiaaGreatDoor
def tot {α:Type} (n:α→Nat) (l:List α):Nat:=(l.map n).sum
theorem tot_nil {α:Type} (n:α→Nat):tot n []=0:=rfl
theorem tot_cons {α:Type} (n:α→Nat) (a:α) (l:List α):tot n (a::l)=n a+tot n l:=by simp [tot]
theorem eI {α:Type} (pre rest:List α) (a:α):(pre++a::rest)[pre.length]?=some a:=by simp
theorem dW {α:Type} (pre rest:List α) (a b:α):(pre++a::rest).set pre.length b=pre++b::rest:=by simp
theorem xH {α:Type} (pre rest:List α) (a:α):pre++a::rest=(pre++[a])++rest:=by simp
theorem len1 {α:Type} (pre:List α) (a:α):(((pre++[a]).length:Nat):Int)=(pre.length:Int)+1:=by simp
def nD:Int:=4611686018427387904
theorem A6_ {α:Type} (n:α→Nat){f:Int×Int→Option ((Int×Int)⊕(Int⊕Int))} (L:List α) (B:Int)
  (hf:∀ (j:Nat) (a:α) (s:Int),L[j]?=some a→j<L.length→0≤s→s≤B→f (s,(j:Int))=some (if (n a:Int)≤s then .inl (s-n a,(j:Int)+1) else .inr (.inr (-1))))
  (he:∀ s:Int,f (s,(L.length:Int))=some (.inr (.inl s))):∀ (rest pre:List α) (s:Int),L=pre++rest→0≤s→s≤B→nB f (s,(pre.length:Int))=some (if (tot n rest:Int)≤s then .inl (s-tot n rest) else .inr (-1))
 | [],pre,s,hL,h0,_=>by
  have:=he s
  rw [hL,List.append_nil] at this
  rw [kF this,tot_nil,if_pos (by omega)];simp
 | a::rest,pre,s,hL,h0,hB=>by
  have h1:=hf pre.length a s (by rw [hL];exact eI _ _ _) (by rw [hL];simp) h0 hB
  by_cases h:(n a:Int)≤s
  ·
   rw [if_pos h] at h1
   have ih:=A6_ n L B hf he rest (pre++[a]) (s-n a) (by rw [hL,xH]) (by omega) (by omega)
   rw [len1] at ih
   rw [qG h1,ih,tot_cons]
   by_cases h2:(tot n rest:Int)≤s-n a
   · rw [if_pos h2,if_pos (by omega)];congr 2;omega
   · rw [if_neg h2,if_neg (by omega)]
  ·
   rw [if_neg h] at h1
   rw [kF h1,tot_cons,if_neg (by omega)]
theorem A4_ {α:Type} (z:α){f:List α×Int→Option ((List α×Int)⊕List α)} (L:List α)
  (hf:∀ (j:Nat) (a:α) (s:List α),L[j]?=some a→j<L.length→s.length=L.length→f (s,(j:Int))=some (.inl (s.set j a,(j:Int)+1)))
  (he:∀ s:List α,s.length=L.length→f (s,(L.length:Int))=some (.inr s)):∀ (rest pre:List α),L=pre++rest→nB f (pre++List.replicate rest.length z,(pre.length:Int))=some L
 | [],pre,hL=>by
  rw [List.append_nil] at hL
  have:=he pre (by rw [hL])
  rw [hL] at this
  have h2:pre++List.replicate ([]:List α).length z=pre:=by simp
  rw [h2,hL,kF this]
 | a::rest,pre,hL=>by
  have h1:=hf pre.length a (pre++z::List.replicate rest.length z) (by rw [hL];exact eI _ _ _) (by rw [hL];simp) (by rw [hL];simp)
  have ih:=A4_ z L hf he rest (pre++[a]) (by rw [hL,xH])
  rw [dW,xH pre _ a,← len1 pre a] at h1
  rw [List.length_cons,List.replicate_succ]
  rw [qG h1,ih]
theorem Bo_ {α:Type} [DecidableEq α] {f:Int→Option (Int⊕(Unit⊕Bool))} (L M:List α)
  (hf:∀ (j:Nat) (a b:α),L[j]?=some a→M[j]?=some b→j<L.length→f (j:Int)=some (if a=b then .inl ((j:Int)+1) else .inr (.inr false)))
  (he:f (L.length:Int)=some (.inr (.inl ()))):∀ (rest rest' pre pre':List α),L=pre++rest→M=pre'++rest'→pre.length=pre'.length→rest.length=rest'.length→nB f (pre.length:Int)=some (if rest=rest' then .inl () else .inr false)
 | [],[],pre,pre',hL,_,_,_=>by
  rw [hL,List.append_nil] at he
  rw [kF he];rfl
 | [],_::_,_,_,_,_,_,h=>by simp at h
 | _::_,[],_,_,_,_,_,h=>by simp at h
 | a::rest,b::rest',pre,pre',hL,hM,hp,hr=>by
  have h1:=hf pre.length a b (by rw [hL];exact eI _ _ _) (by rw [hM,hp];exact eI _ _ _) (by rw [hL];simp)
  by_cases h:a=b
  ·
   rw [if_pos h] at h1
   have ih:=Bo_ L M hf he rest rest' (pre++[a]) (pre'++[b]) (by rw [hL,xH]) (by rw [hM,xH]) (by simp [hp]) (by simpa using hr)
   rw [len1] at ih
   rw [qG h1,ih]
   by_cases h2:rest=rest'
   · rw [if_pos h2,if_pos (by rw [h,h2])]
   · rw [if_neg h2,if_neg (by intro h3;exact h2 (List.cons.inj h3).2)]
  ·
   rw [if_neg h] at h1
   rw [kF h1,if_neg (by intro h3;exact h (List.cons.inj h3).1)]
def mkL {α:Type} (mk:α→Int→α×Int):List α→Int→List α×Int
 | [],k=>([],k)
 | a::l,k=>((mk a k).1::(mkL mk l (mk a k).2).1,(mkL mk l (mk a k).2).2)
theorem Bf_ {α:Type} (mk:α→Int→α×Int):∀ (l:List α) (k:Int),(mkL mk l k).1.length=l.length
 | [],_=>rfl
 | a::l,k=>by show (mkL mk l _).1.length+1=l.length+1;rw [Bf_ mk l]
theorem wR {α:Type} (mk:α→Int→α×Int) (n:α→Nat) (hmk:∀ a k,(mk a k).2=k+n a):∀ (l:List α) (k:Int),(mkL mk l k).2=k+tot n l
 | [],k=>by simp [mkL,tot]
 | a::l,k=>by
  show (mkL mk l (mk a k).2).2=_
  rw [wR mk n hmk l,hmk,tot_cons];omega
theorem Au_ {α:Type} (Pr:α→Prop) (mk:α→Int→α×Int) (n:α→Nat) (hmk:∀ a k,(mk a k).2=k+n a){f:List α×Int×Int→Option ((List α×Int×Int)⊕(List α×Int))} (N:Nat) (B:Int)
  (hf:∀ (j:Nat) (a:α) (s:List α) (q:Int),s[j]?=some a→Pr a→s.length=N→j<N→0≤q→q+n a≤B→f (s,q,(j:Int))=some (.inl (s.set j (mk a q).1,(mk a q).2,(j:Int)+1)))
  (he:∀ (s:List α) (q:Int),s.length=N→f (s,q,(N:Int))=some (.inr (s,q))):∀ (rest pre:List α) (q:Int),pre.length+rest.length=N→(∀ a∈rest,Pr a)→0≤q→q+tot n rest≤B→nB f (pre++rest,q,(pre.length:Int))=some (pre++(mkL mk rest q).1,(mkL mk rest q).2)
 | [],pre,q,hN,_,_,_=>by
  have h1:pre.length=N:=by simpa using hN
  have:=he pre q h1
  rw [←h1] at this
  rw [List.append_nil,kF this];simp [mkL]
 | a::rest,pre,q,hN,hP,h0,hB=>by
  rw [tot_cons] at hB
  have h1:=hf pre.length a (pre++a::rest) q (eI _ _ _) (hP a (List.mem_cons_self ..)) (by simpa using hN) (by simp at hN;omega) h0 (by omega)
  have ih:=Au_ Pr mk n hmk N B hf he rest (pre++[(mk a q).1]) (mk a q).2 (by simp at hN ⊢;omega) (fun b hb=>hP b (List.mem_cons_of_mem _ hb)) (by rw [hmk];omega) (by rw [hmk];omega)
  rw [dW,xH pre rest (mk a q).1,← len1 pre (mk a q).1] at h1
  rw [qG h1,ih]
  simp [mkL]
theorem Ay_ {α:Type} (Pr:α→Prop) (mk:α→Int→α×Int) (n:α→Nat) (hmk:∀ a k,(mk a k).2=k+n a){f:Int×Int→Option ((Int×Int)⊕(Int⊕Int))} (L:List α) (B:Int)
  (hf:∀ (j:Nat) (a:α) (q:Int),L[j]?=some (mk a q).1→Pr a→j<L.length→0≤q→q+n a≤B→f (q,(j:Int))=some (.inl (q+n a,(j:Int)+1)))
  (he:∀ q:Int,f (q,(L.length:Int))=some (.inr (.inl q))):∀ (rest pre:List α) (q:Int),L=pre++(mkL mk rest q).1→(∀ a∈rest,Pr a)→0≤q→q+tot n rest≤B→nB f (q,(pre.length:Int))=some (.inl (q+tot n rest))
 | [],pre,q,hL,_,_,_=>by
  have:=he q
  rw [hL] at this
  have h2:pre++(mkL mk [] q).1=pre:=by simp [mkL]
  rw [h2] at this
  rw [kF this,tot_nil];simp
 | a::rest,pre,q,hL,hP,h0,hB=>by
  rw [tot_cons] at hB
  have hL':L=pre++(mk a q).1::(mkL mk rest (q+n a)).1:=by rw [hL];show _=_;rw [←hmk];rfl
  have h1:=hf pre.length a q (by rw [hL'];exact eI _ _ _) (hP a (List.mem_cons_self ..)) (by rw [hL'];simp) h0 (by omega)
  have ih:=Ay_ Pr mk n hmk L B hf he rest (pre++[(mk a q).1]) (q+n a) (by rw [hL',xH]) (fun b hb=>hP b (List.mem_cons_of_mem _ hb)) (by omega) (by omega)
  rw [len1] at ih
  rw [qG h1,ih,tot_cons];congr 2;omega
end Go.Proofs.YtemcakhocdchiaaGreatDoor
namespace Go.Proofs.YtemcakhocdchiaaGreatDoor
def one {α:Type} (_:α):Nat:=1
theorem yV {α:Type} (l:List α):tot one l=l.length:=by
 induction l with
 | nil=>rfl
 | cons a l ih=>rw [tot_cons,ih,List.length_cons];show 1+_=_;omega
theorem sR {α:Type}{n:α→Nat}{l:List α}{a:α} (h:a∈l):n a≤tot n l:=by
 induction l with
 | nil=>cases h
 | cons b l ih=>
  rw [tot_cons]
  cases h with
  | head=>omega
  | tail _ h=>have:=ih h;omega
theorem oC {α:Type}{l:List α}{j:Nat}{a:α} (h:l[j]?=some a):a∈l:=List.mem_of_getElem? h
def lI {α:Type} (l:List α):Prop:=(l.length:Int)≤9223372036854775807
def iF (r:List Int):Nat:=r.length
def wF (m:List (List Int)):Nat:=m.length+tot iF m
def BA_ (m:List (List Int)):Prop:=lI m∧∀ r∈m,lI r
theorem eqIntS (a b:List Int) (hl:lI a):tZ a b=some (decide (a=b)):=by
 unfold lI at hl
 refine stp ?_
 by_cases h:a.length=b.length
 ·
  refine cFW (nT (dT (by omega))) (sqW (Bo_ a b ?_ ?_ a b [] [] rfl rfl rfl h) ?_)
  ·
   intro j x y hx hy hj
   refine stp (cTW (dT (by omega)) (bnd (kA hx) (bnd (kA hy) (stp ?_))))
   by_cases h2:x=y
   · rw [if_pos h2];exact cFW (nT (dT h2)) (bnd (aB (by omega) (by omega)) rfl)
   · rw [if_neg h2];exact cTW (nF (dF h2)) rfl
  · exact stp (cFW (dF (by omega)) rfl)
  ·
   by_cases h2:a=b
   · rw [if_pos h2,show decide (a=b)=true from dT h2];rfl
   · rw [if_neg h2,show decide (a=b)=false from dF h2];rfl
 · rw [show decide (a=b)=false from dF (fun h2=>h (by rw [h2]))];exact cTW (nF (dF (by omega))) rfl
theorem eqIntSS (a b:List (List Int)) (hl:BA_ a):sM a b=some (decide (a=b)):=by
 have hl1:=hl.1;unfold lI at hl1
 refine stp ?_
 by_cases h:a.length=b.length
 ·
  refine cFW (nT (dT (by omega))) (sqW (Bo_ a b ?_ ?_ a b [] [] rfl rfl rfl h) ?_)
  ·
   intro j x y hx hy hj
   refine stp (cTW (dT (by omega)) (bnd (kA hx) (bnd (kA hy) (bnd (eqIntS x y (hl.2 x (oC hx))) (stp ?_)))))
   by_cases h2:x=y
   · rw [if_pos h2];exact cFW (nT (dT h2)) (bnd (aB (by omega) (by omega)) rfl)
   · rw [if_neg h2];exact cTW (nF (dF h2)) rfl
  · exact stp (cFW (dF (by omega)) rfl)
  ·
   by_cases h2:a=b
   · rw [if_pos h2,show decide (a=b)=true from dT h2];rfl
   · rw [if_neg h2,show decide (a=b)=false from dF h2];rfl
 · rw [show decide (a=b)=false from dF (fun h2=>h (by rw [h2]))];exact cTW (nF (dF (by omega))) rfl
def mkI (_:Int) (k:Int):Int×Int:=(k,k+1)
def mkS:List Int→Int→List Int×Int:=mkL mkI
def mkSS:List (List Int)→Int→List (List Int)×Int:=mkL mkS
theorem Bg_ (a k:Int):(mkI a k).2=k+one a:=rfl
theorem Be_ (a:List Int) (k:Int):(mkS a k).2=k+iF a:=by
 rw [show (mkS a k).2=k+tot one a from wR mkI one Bg_ a k,yV];rfl
theorem I6_ (a:List (List Int)) (k:Int):(mkSS a k).2=k+tot iF a:=wR mkS iF Be_ a k
theorem EH_ (a:List Int) (k:Int):(mkS a k).1.length=a.length:=Bf_ mkI a k
theorem DS_ (a:List (List Int)) (k:Int):(mkSS a k).1.length=a.length:=Bf_ mkS a k
theorem I7_ (a:List Int) (k:Int) (h0:0≤k) (hb:k+iF a≤nD):wY a k=some (mkS a k):=by
 unfold iF at hb;unfold nD at hb
 refine bnd (Au_ (fun _=>True) mkI one Bg_ a.length 4611686018427387904 ?_ ?_ a [] k (by simp) (fun _ _=>trivial) h0 (by rw [yV];omega)) rfl
 ·
  intro j x s q hj _ hs hjl hq hB
  dsimp only
  have h1:(one x:Int)=1:=rfl
  exact stp (cTW (dT (by omega)) (bnd (tC _ (by omega)) (bnd (aB (by omega) (by omega)) (bnd (aB (by omega) (by omega)) rfl))))
 · intro s q hs;dsimp only;exact stp (cFW (dF (by omega)) rfl)
theorem Is_ (a:List (List Int)) (k:Int) (h0:0≤k) (ha:(a.length:Int)≤nD) (hb:k+tot iF a≤nD):gT a k=some (mkSS a k):=by
 unfold nD at hb ha
 refine bnd (Au_ (fun _=>True) mkS iF Be_ a.length 4611686018427387904 ?_ ?_ a [] k (by simp) (fun _ _=>trivial) h0 (by omega)) rfl
 ·
  intro j x s q hj _ hs hjl hq hB
  dsimp only
  exact stp (cTW (dT (by omega)) (bnd (kA hj) (bnd (I7_ x q hq hB) (bnd (tC _ (by omega)) (bnd (aB (by omega) (by omega)) rfl)))))
 · intro s q hs;dsimp only;exact stp (cFW (dF (by omega)) rfl)
theorem Jd_ (a:List Int) (k:Int) (h0:0≤k) (hb:k+iF a≤nD):xY (mkS a k).1 k=some (k+iF a):=by
 unfold iF at hb ⊢;unfold nD at hb
 refine sqW (Ay_ (fun _=>True) mkI one Bg_ (mkS a k).1 4611686018427387904 ?_ ?_ a [] k rfl (fun _ _=>trivial) h0 (by rw [yV];omega)) ?_
 ·
  intro j x q hj _ hjl hq hB
  dsimp only
  have h1:(one x:Int)=1:=rfl
  rw [EH_] at hjl
  have h2:=EH_ a k
  exact stp (cTW (dT (by omega)) (bnd (kA hj) (stp (cFW (nT (dT rfl)) (bnd (aB (by omega) (by omega)) (bnd (aB (by omega) (by omega)) rfl))))))
 · intro q;dsimp only;exact stp (cFW (dF (by omega)) rfl)
 · rw [yV];rfl
theorem IB_ (a:List (List Int)) (k:Int) (h0:0≤k) (ha:(a.length:Int)≤nD) (hb:k+tot iF a≤nD):vP (mkSS a k).1 k=some (k+tot iF a):=by
 unfold nD at hb ha
 refine sqW (Ay_ (fun _=>True) mkS iF Be_ (mkSS a k).1 4611686018427387904 ?_ ?_ a [] k rfl (fun _ _=>trivial) h0 (by omega)) ?_
 ·
  intro j x q hj _ hjl hq hB
  dsimp only
  rw [DS_] at hjl
  have h2:=DS_ a k
  exact stp (cTW (dT (by omega)) (bnd (kA hj) (bnd (Jd_ x q hq hB) (stp (cFW (dF (by omega)) (bnd (aB (by omega) (by omega)) rfl))))))
 · intro q;dsimp only;exact stp (cFW (dF (by omega)) rfl)
 · rfl
end Go.Proofs.YtemcakhocdchiaaGreatDoor
namespace Go.Proofs.YtemcakhocdchiaaGreatDoor
theorem If_ (m:List (List Int)) (r:List Int) (h:r∈m):r.length≤wF m:=by
 have:=sR (n:=iF) h;unfold wF;unfold iF at this ⊢;omega
theorem HE_ (m:List (List Int)):m.length≤wF m:=by unfold wF;omega
theorem It_ {m:List (List Int)} (h:wF m≤1048576):BA_ m:=by
 refine ⟨?_,fun r hr=>?_⟩
 · have:=HE_ m;unfold lI;omega
 · have:=If_ m r hr;unfold lI;omega
theorem Hh_ (m:List (List Int)) (h:BA_ m):sM m m=some true:=by rw [eqIntSS m m h,show decide (m=m)=true from dT rfl]
end Go.Proofs.YtemcakhocdchiaaGreatDoor
namespace Go.Proofs.YtemcakhocdchiaaGreatDoor
def rng (n lo hi:Int):Bool:=decide (lo≤n)&&decide (n≤hi)
theorem rng_true {n lo hi:Int}:rng n lo hi=true↔lo≤n∧n≤hi:=by unfold rng;simp
theorem l1In (n lo hi:Int):lH n lo hi=some (rng n lo hi):=by
 unfold lH rng
 by_cases h:lo≤n
 · rw [dT h];rfl
 · rw [dF h];rfl
theorem within_ (n lo hi:Int):dH n lo hi=some (rng n lo hi):=by
 unfold dH rng
 by_cases h:lo≤n
 · rw [dT h];rfl
 · rw [dF h];rfl
def fdB (p:Int):Bool:=rng p 2 97&&[2,3,5,7].all fun q=>!(decide (p % q=0)&&!decide (p=q))
def Fx_ (p:Int) (s:Int):Option (Int⊕(Unit⊕Bool)):=
 (zF s s).bind fun a111=>
    (some (decide (a111≤p))).bind fun a113=>
    cond a113
    ((qD p s).bind fun a118=>
     (some (decide (a118=0))).bind fun a120=>
     cond a120
     (some (.inr (.inr false)))
     ((mA s 1).bind fun a123=>
      some (.inl a123)))
    (some (.inr (.inl ())))
def EW_ (p:Nat):Bool:=decide (uB (lG (Fx_ p) 10 2) (fun (_:Unit)=>some true)=some (fdB p))||decide (p<2)
theorem fd_all:((List.range 98).all EW_)=true:=by decide +kernel
theorem cX (p:Int):oQ p=some (fdB p):=by
 unfold oQ
 refine bnd (l1In p 2 97) (stp ?_)
 cases h:rng p 2 97 with
 | false=>refine cTW rfl ?_;unfold fdB;rw [h];rfl
 | true=>
  refine cFW rfl ?_
  have hr:=rng_true.1 h
  obtain ⟨k,rfl⟩:∃ k:Nat,p=(k:Int):=⟨p.toNat,by omega⟩
  have hk:=List.all_eq_true.1 fd_all k (List.mem_range.2 (by omega))
  unfold EW_ at hk
  have h2:decide (k<2)=false:=dF (by omega)
  rw [h2,Bool.or_false] at hk
  have hk:=of_decide_eq_true hk
  rw [←hk]
  cases hi:lG (Fx_ k) 10 2 with
  | none=>rw [hi] at hk;cases hk
  | some t=>exact sqW (whileO_iff.2 ⟨10,hi⟩) rfl
theorem AT_ (p:Int):pT p=some (fdB p):=by
 unfold pT fdB
 cases h:rng p 2 97 with
 | false=>
  refine bnd (a:=true) (stp ?_) (cTW rfl rfl)
  by_cases h1:p<2
  · exact cTW (dT h1) rfl
  ·
   refine cFW (dF h1) (stp ?_)
   rw [dT]
   apply Classical.byContradiction
   intro h3
   have:rng p 2 97=true:=rng_true.2 ⟨by omega,by omega⟩
   rw [h] at this;cases this
 | true=>
  have hr:=rng_true.1 h
  refine bnd (a:=false) (stp (cFW (dF (by omega)) (stp (by rw [dF (by omega)])))) (cFW rfl (bnd (tK (by decide)) ?_))
  refine sqW (uG (fun q:Int=>!(decide (p % q=0)&&!decide (p=q))) [2,3,5,7] 0 ?_ (t:=false)) ?_
  ·
   intro j q hj
   have hq:q∈[(2:Int),3,5,7]:=oC hj
   have hq1:q≠0∧0<q:=by simp at hq;omega
   rw [Nat.zero_add]
   refine bnd (kA hj) ?_
   refine bnd (a:=decide (p % q=0)&&!decide (p=q)) ?_ ?_
   ·
    refine bnd (wG hq1.1) (stp ?_)
    rw [Int.tmod_eq_emod_of_nonneg (by omega)]
    by_cases h1:p % q=0
    · rw [dT h1];rfl
    · rw [dF h1];rfl
   · cases (decide (p % q=0)&&!decide (p=q)) <;> rfl
  · cases ([2,3,5,7].all fun q:Int=>!(decide (p % q=0)&&!decide (p=q))) <;> rfl
theorem aC {p:Int} (h:fdB p=true):2≤p∧p≤97:=by
 unfold fdB at h
 exact rng_true.1 (by revert h;cases rng p 2 97 <;> simp)
def inP (p:Int) (l:List Int):Prop:=∀ x∈l,0≤x∧x<p
theorem l1All (l:List Int) (lo hi:Int):lL l lo hi=some (l.all fun x=>rng x lo hi):=by
 refine sqW (uG (fun x=>rng x lo hi) l 0 ?_ (t:=false)) ?_
 ·
  intro j x hj
  rw [Nat.zero_add]
  refine bnd (kA hj) (bnd (l1In x lo hi) (stp ?_))
  cases rng x lo hi <;> rfl
 · cases (l.all fun x=>rng x lo hi) <;> rfl
def bM (p:Int) (n:Nat) (m:List (List Int)):Prop:=∀ r∈m,r.length=n∧inP p r
end Go.Proofs.YtemcakhocdchiaaGreatDoor
namespace Go.Proofs.YtemcakhocdchiaaGreatDoor
theorem gV {α β:Type} (Pa:α→Prop) (Pb:β→Prop) (g:β→α→α){f:Nat→List α→Option (List α)} (W:List β)
  (hf:∀ (j:Nat) (b:β) (a:α) (s:List α),W[j]?=some b→s[j]?=some a→Pa a→Pb b→j<s.length→f j s=some (s.set j (g b a))) :
  ∀ (rest preW:List β) (pre rest':List α),W=preW++rest→pre.length=preW.length→rest'.length=rest.length→(∀ b∈rest,Pb b)→(∀ a∈rest',Pa a)→forS f rest.length preW.length (pre++rest')=some (pre++List.zipWith g rest rest')
 | [],preW,pre,[],_,_,_,_,_=>by simp [forS]
 | [],_,_,_::_,_,_,h,_,_=>by simp at h
 | _::_,_,_,[],_,_,h,_,_=>by simp at h
 | b::rest,preW,pre,a::rest',hW,hp,hr,hb,ha=>by
  have h1:=hf pre.length b a (pre++a::rest') (by rw [hW,hp];exact eI _ _ _) (eI _ _ _) (ha a (List.mem_cons_self ..)) (hb b (List.mem_cons_self ..)) (by simp)
  have ih:=gV Pa Pb g W hf rest (preW++[b]) (pre++[g b a]) rest' (by rw [hW,xH]) (by simp [hp]) (by simpa using hr) (fun x hx=>hb x (List.mem_cons_of_mem _ hx)) (fun x hx=>ha x (List.mem_cons_of_mem _ hx))
  rw [dW,xH pre rest' (g b a)] at h1
  rw [hp] at h1
  show (f preW.length (pre++a::rest')).bind _=_
  rw [h1]
  show forS f rest.length (preW.length+1) _=_
  rw [show preW.length+1=(preW++[b]).length by simp,ih]
  simp
def pF {α β σ:Type} (g:σ→α→β→σ):List α→List β→σ→σ
 | a::l,b::m,s=>pF g l m (g s a b)
 | _,_,s=>s
theorem AG_ {α β σ:Type} (g:σ→α→β→σ) (I:σ→Prop){f:Nat→σ→Option σ} (A:List α) (B:List β)
  (hf:∀ (j:Nat) (a:α) (b:β) (s:σ),A[j]?=some a→B[j]?=some b→I s→f j s=some (g s a b)∧I (g s a b)) :
  ∀ (rest preA:List α) (rest' preB:List β) (s:σ),A=preA++rest→B=preB++rest'→preA.length=preB.length→rest.length≤rest'.length→I s→forS f rest.length preA.length s=some (pF g rest rest' s)∧I (pF g rest rest' s)
 | [],_,m,_,s,_,_,_,_,hI=>by
  have:pF g [] m s=s:=by cases m <;> rfl
  rw [this];exact ⟨rfl,hI⟩
 | _::_,_,[],_,_,_,_,_,h,_=>by simp at h
 | a::rest,preA,b::rest',preB,s,hA,hB,hp,hr,hI=>by
  obtain ⟨h1,h2⟩:=hf preA.length a b s (by rw [hA];exact eI _ _ _) (by rw [hB,hp];exact eI _ _ _) hI
  obtain ⟨h3,h4⟩:=AG_ g I A B hf rest (preA++[a]) rest' (preB++[b]) (g s a b) (by rw [hA,xH]) (by rw [hB,xH]) (by simp [hp]) (by simpa using hr) h2
  refine ⟨?_,h4⟩
  show (f preA.length s).bind _=_
  rw [h1]
  show forS f rest.length (preA.length+1) _=_
  rw [show preA.length+1=(preA++[a]).length by simp,h3]
  rfl
theorem lN {p c y:Int} (hp:2≤p∧p≤97) (hc:0≤c∧c<p) (hy:0≤y∧y<p):0≤c*y∧c*y≤9409:=by
 refine ⟨Int.mul_nonneg hc.1 hy.1,?_⟩
 calc c*y≤97*97:=Int.mul_le_mul (by omega) (by omega) hy.1 (by omega)
  _=9409:=by decide
theorem fJ {p x:Int} (hp:2≤p):0≤x % p∧x % p<p:=⟨Int.emod_nonneg _ (by omega),Int.emod_lt_of_pos _ (by omega)⟩
def sE (p c:Int) (acc row:List Int):List Int:=List.zipWith (fun y x=>(x+c*y) % p) row acc
theorem rW {p:Int} (hp:2≤p) (c:Int):∀ (row acc:List Int),inP p (sE p c acc row)
 | [],_=>by intro x hx;simp [sE] at hx
 | _::_,[]=>by intro x hx;simp [sE] at hx
 | y::row,x::acc=>by
  intro z hz
  have:z∈(x+c*y) % p::sE p c acc row:=hz
  cases this with
  | head=>exact fJ hp
  | tail _ h=>exact rW hp c row acc z h
theorem A3_ {p c:Int}{acc row:List Int} (h:row.length=acc.length):(sE p c acc row).length=acc.length:=by simp [sE,h]
def lD (p:Int) (n:Nat) (rows:List (List Int)) (cs:List Int):List Int:=pF (fun acc row c=>sE p c acc row) rows cs (List.replicate n 0)
def okR (p:Int) (n:Nat) (l:List Int):Prop:=l.length=n∧inP p l
theorem AM_ {p:Int} (hp:2≤p) (n:Nat):okR p n (List.replicate n 0):=⟨by simp,by intro x hx;have:=List.eq_of_mem_replicate hx;omega⟩
theorem mod_ {p a:Int} (hp:2≤p) (ha:0≤a):rF p a=some (a % p):=by
 refine bnd (wG (by omega)) (stp ?_)
 rw [Int.tmod_eq_emod_of_nonneg ha]
 exact cFW (dF (by have:=fJ (x:=a) hp;omega)) rfl
theorem IO_ {p c:Int}{n:Nat}{acc row:List Int} (hp:2≤p∧p≤97) (hc:0≤c∧c<p) (ha:okR p n acc) (hr:okR p n row):sI p acc c row=some (sE p c acc row):=by
 refine bnd (gV (fun x=>0≤x∧x<p) (fun x=>0≤x∧x<p) (fun y x=>(x+c*y) % p) row ?_ row [] [] acc rfl rfl (by rw [ha.1,hr.1]) hr.2 ha.2) rfl
 intro j y x s hy hx hxp hyp hj
 have:=lN hp hc hyp
 refine bnd (kA hy) (bnd (kA hx) (bnd (tL (by omega) (by omega)) (bnd (aB (by omega) (by omega)) (bnd (mod_ (by omega) (by omega)) ?_))))
 exact bnd (tC _ hj) rfl
theorem gI {n:Nat} (h:n≤bB):dG (n:Int)=some (List.replicate n 0):=bnd (mH _ h) rfl
theorem Ei_ {p:Int}{n:Nat}{rows:List (List Int)}{cs:List Int} (hp:2≤p∧p≤97) (hn:n≤bB) (hr:bM p n rows) (hc:inP p cs) (hl:rows.length≤cs.length):yN p cs rows (n:Int)=some (lD p n rows cs)∧okR p n (lD p n rows cs):=by
 have:=AG_ (fun acc row c=>sE p c acc row) (okR p n) (f:=fun (k8:Nat) (s55:List Int)=>
   (idxO rows ((k8:Nat):Int)).bind fun a70=>
   (idxO cs ((k8:Nat):Int)).bind fun a80=>
   (sI p s55 a80 a70).bind fun y82=>
   some y82) rows cs (by
  intro j row c s hrow hc' hs
  have h1:=hr row (oC hrow)
  refine ⟨bnd (kA hrow) (bnd (kA hc') (bnd (IO_ hp (hc c (oC hc')) hs h1) rfl)),?_,rW hp.1 c row s⟩
  rw [A3_ (by rw [h1.1,hs.1]),hs.1]) rows [] cs [] _ rfl rfl rfl hl (AM_ hp.1 n)
 exact ⟨bnd (gI hn) (bnd this.1 rfl),this.2⟩
theorem Fh_ {p:Int}{n:Nat}{rows:List (List Int)}{cs:List Int} (hp:2≤p∧p≤97) (hn:n≤bB) (hr:bM p n rows) (hc:inP p cs) (hl:rows.length≤cs.length):dO p (n:Int) rows cs=some (lD p n rows cs):=by
 refine bnd (mH _ hn) (bnd (AG_ (fun acc row c=>sE p c acc row) (okR p n) rows cs ?_ rows [] cs [] _ rfl rfl rfl hl (AM_ hp.1 n)).1 rfl)
 intro j row c s hrow hc' hs
 have h1:=hr row (oC hrow)
 have hcp:=hc c (oC hc')
 refine ⟨bnd (kA hrow) (bnd (gV (fun x=>0≤x∧x<p) (fun x=>0≤x∧x<p) (fun y x=>(x+c*y) % p) row ?_ row [] [] s rfl rfl (by rw [h1.1,hs.1]) h1.2 hs.2) rfl),?_,rW hp.1 c row s⟩
 ·
  intro i y x t hy hx hxp hyp hi
  have:=lN hp hcp hyp
  refine bnd (kA hy) (bnd (kA hx) (bnd (kA hc') (bnd (tL (by omega) (by omega)) (bnd (aB (by omega) (by omega)) (bnd (wG (by omega)) ?_)))))
  rw [Int.tmod_eq_emod_of_nonneg (by omega)]
  exact bnd (tC _ hi) rfl
 · rw [A3_ (by rw [h1.1,hs.1]),hs.1]
theorem own_ {l:List Int} (h:l.length≤bB):yI l=some l:=bnd (iB (by simpa using h)) rfl
theorem eX {l:List Int} (h:l.length≤bB):mL l=some l:=bnd (iB (by simpa using h)) rfl
theorem E6_ {m:List (List Int)} (hl:m.length≤bB) (h:∀ r∈m,r.length≤bB):aU m=some m:=by
 refine bnd (CZ_ _ hl) (bnd (a:=m) ?_ rfl)
 refine (eE (fun r=>r) m [] (by simpa using hl) ?_).trans (by simp)
 intro j x s hx hs
 have hj:j<m.length:=(List.getElem?_eq_some_iff.1 hx).1
 exact bnd (kA hx) (bnd (eX (h x (oC hx))) (bnd (iB (by simp at hs ⊢;omega)) rfl))
end Go.Proofs.YtemcakhocdchiaaGreatDoor
namespace Go.Proofs.YtemcakhocdchiaaGreatDoor
def powBody (p:Int) (s:Int×Int×Int):Option ((Int×Int×Int)⊕Int):=
   (some (decide ((0:Int)<s.2.1))).bind fun a226=>
   cond a226
   (((qD s.2.1 2).bind fun a247=>
     (some (decide (a247=1))).bind fun a249=>
     cond a249
     ((zF s.2.2 s.1).bind fun a253=>
      (qD a253 p).bind fun a255=>
      some a255)
     (some s.2.2)).bind fun (s241:Int)=>
    (zF s.1 s.1).bind fun a259=>
    (qD a259 p).bind fun a261=>
    (gM s.2.1 2).bind fun a263=>
    some (.inl (a261,a263,s241)))
   (some (.inr s.2.2))
def invN (p x:Nat):Option Int:=lG (powBody p) 9 ((x:Int),(p:Int)-2+(if p=2 then 1 else 0),(1:Int).tmod p)
def sX (p x:Nat):Bool:=match invN p x with
 | some v=>decide (((x:Int)*v) % p=1)&&decide (0≤v)&&decide (v<p)
 | none=>false
theorem inv_all:((List.range 98).all fun p=>!fdB p||(List.range p).all fun x=>decide (x=0)||sX p x)=true:=by decide +kernel
def yE (p x:Int):Int:=(invN p.toNat x.toNat).getD 0
theorem oR {p x:Int} (hf:fdB p=true) (hx:0<x∧x<p):jZ p x=some (yE p x)∧(x*yE p x) % p=1∧0≤yE p x∧yE p x<p:=by
 have hp:=aC hf
 obtain ⟨k,rfl⟩:∃ k:Nat,p=(k:Int):=⟨p.toNat,by omega⟩
 obtain ⟨y,rfl⟩:∃ y:Nat,x=(y:Int):=⟨x.toNat,by omega⟩
 have h1:=List.all_eq_true.1 inv_all k (List.mem_range.2 (by omega))
 rw [hf] at h1
 have h2:∀ x:Nat,x<k→x=0∨sX k x=true:=by simpa using h1
 have h3:sX k y=true:=by
  rcases h2 y (by omega) with h2 | h2
  · omega
  · exact h2
 unfold sX at h3
 unfold yE
 rw [Int.toNat_natCast,Int.toNat_natCast]
 cases hv:invN k y with
 | none=>rw [hv] at h3;cases h3
 | some v=>
  rw [hv] at h3
  simp only [Bool.and_eq_true,decide_eq_true_eq] at h3
  refine ⟨?_,h3.1.1,h3.1.2,h3.2⟩
  refine bnd (wC (by omega) (by omega)) (stp (bnd (a:=(if k=2 then 1 else 0:Int)) ?_ (bnd (aB (by split <;> omega) (by split <;> omega)) (bnd (a:=v) ?_ rfl))))
  ·
   by_cases h:k=2
   · subst h;rfl
   · rw [dF (by omega),if_neg h];rfl
  ·
   refine bnd (wG (by omega)) (bnd ?_ rfl)
   exact whileO_iff.2 ⟨9,hv⟩
theorem HN_ {p x s t:Int} (h1:(x*s) % p=1) (h2:(x*t) % p=1) (hs:0≤s∧s<p) (ht:0≤t∧t<p):s=t:=by
 have e1:s % p=(s*((x*t) % p)) % p:=by rw [h2,Int.mul_one]
 have e2:t % p=(t*((x*s) % p)) % p:=by rw [h1,Int.mul_one]
 rw [Int.mul_emod,Int.emod_emod_of_dvd _ (Int.dvd_refl p),← Int.mul_emod] at e1 e2
 rw [show s*(x*t)=t*(x*s) by rw [Int.mul_left_comm,Int.mul_comm s t,Int.mul_left_comm]] at e1
 rw [←e2,Int.emod_eq_of_lt hs.1 hs.2,Int.emod_eq_of_lt ht.1 ht.2] at e1
 exact e1
theorem fdInv_ {p x:Int} (hf:fdB p=true) (hx:0<x∧x<p):jU p x=some (yE p x):=by
 have hp:=aC hf
 obtain ⟨_,h1,h2,h3⟩:=oR hf hx
 have h0:yE p x≠0:=by intro h;rw [h,Int.mul_zero,Int.zero_emod] at h1;cases h1
 obtain ⟨k,hk⟩:∃ k:Nat,yE p x=(k:Int)+1:=⟨(yE p x-1).toNat,by omega⟩
 refine sqW (dK (fun j=>(j:Int)+1) (t:=.inr (yE p x)) k ?_ ?_) rfl
 ·
  intro j hj
  have hm:=lN hp (by omega:0≤x∧x<p) (by omega:0≤(j:Int)+1∧(j:Int)+1<p)
  refine stp (cTW (dT (by omega)) (bnd (tL (by omega) (by omega)) (bnd (wG (by omega)) (stp ?_))))
  rw [Int.tmod_eq_emod_of_nonneg hm.1]
  refine cFW (dF ?_) (bnd (aB (by omega) (by omega)) rfl)
  intro h
  have:=HN_ h h1 (by omega) (by omega)
  omega
 ·
  have hm:=lN hp (by omega:0≤x∧x<p) (by omega:0≤(k:Int)+1∧(k:Int)+1<p)
  refine stp (cTW (dT (by omega)) (bnd (tL (by omega) (by omega)) (bnd (wG (by omega)) (stp ?_))))
  rw [Int.tmod_eq_emod_of_nonneg hm.1,← hk]
  exact cTW (dT h1) rfl
theorem modG {p a:Int} (hp:2≤p∧p≤97) (_:-1000000≤a∧a≤1000000):rF p a=some (a % p):=by
 have h1:=Int.tmod_add_mul_tdiv a p
 have h2:=Int.tmod_lt_of_pos a (show 0<p by omega)
 have h3:=Int.lt_tmod_of_pos a (show 0<p by omega)
 have h4:a % p=a.tmod p % p:=by
  conv=>lhs;rw [←h1]
  rw [Int.add_mul_emod_self_left]
 refine bnd (wG (by omega)) (stp ?_)
 by_cases h:a.tmod p<0
 ·
  refine cTW (dT h) (bnd (aB (by omega) (by omega)) ?_)
  rw [h4,← Int.add_emod_right,Int.emod_eq_of_lt (by omega) (by omega)]
 ·
  refine cFW (dF h) ?_
  rw [h4,Int.emod_eq_of_lt (by omega) (by omega)]
theorem sub_mod (v p t:Int):(v+p-t % p) % p=(v-t) % p:=by
 have h:=Int.emod_add_mul_ediv t p
 have:v+p-t % p=(v-t)+p*(1+t / p):=by rw [Int.mul_add,Int.mul_one];omega
 rw [this,Int.add_mul_emod_self_left]
end Go.Proofs.YtemcakhocdchiaaGreatDoor
namespace Go.Proofs.YtemcakhocdchiaaGreatDoor
abbrev Rows:=List (List Int)
def gr (m:Rows) (i:Nat):List Int:=m.getD i []
def el (r:List Int) (c:Nat):Int:=r.getD c 0
theorem mF {m:Rows}{i:Nat} (h:i<m.length):m[i]?=some (gr m i):=by unfold gr;rw [List.getD_eq_getElem?_getD,List.getElem?_eq_getElem h];rfl
theorem pK {r:List Int}{c:Nat} (h:c<r.length):r[c]?=some (el r c):=by unfold el;rw [List.getD_eq_getElem?_getD,List.getElem?_eq_getElem h];rfl
theorem gD {m:Rows}{i:Nat} (h:i<m.length):idxO m (i:Int)=some (gr m i):=kA (mF h)
theorem oE {r:List Int}{c:Nat} (h:c<r.length):idxO r (c:Int)=some (el r c):=kA (pK h)
theorem mN {m:Rows}{i:Nat} (h:i<m.length):gr m i∈m:=oC (mF h)
theorem sH {r:List Int}{c:Nat} (h:c<r.length):el r c∈r:=oC (pK h)
theorem iJ {m:Rows}{i j:Nat}{r:List Int} (h:i<m.length):gr (m.set i r) j=if i=j then r else gr m j:=by
 unfold gr
 rw [List.getD_eq_getElem?_getD,List.getD_eq_getElem?_getD,List.getElem?_set]
 split
 · rename_i e;subst e;simp
 · rfl
theorem kN {m:Rows}{i:Nat} (h:i<m.length):m.set i (gr m i)=m:=by
 have h2:gr m i=m[i]:=by have:=mF h;rw [List.getElem?_eq_getElem h] at this;exact (Option.some.inj this).symm
 rw [h2,List.set_getElem_self]
def okM (p:Int) (n:Nat) (m:Rows):Prop:=bM p n m
theorem kC {p:Int}{n:Nat}{m:Rows} (h:okM p n m){i:Nat} (hi:i<m.length):(gr m i).length=n∧inP p (gr m i):=h _ (mN hi)
theorem kI {p:Int}{n:Nat}{m:Rows} (h:okM p n m){i c:Nat} (hi:i<m.length) (hc:c<n):0≤el (gr m i) c∧el (gr m i) c<p:=by
 have h1:=kC h hi
 exact h1.2 _ (sH (by omega))
theorem Bb_ {p:Int}{n:Nat}{m:Rows} (h:okM p n m){i:Nat}{r:List Int} (hr:r.length=n∧inP p r):okM p n (m.set i r):=by
 intro x hx
 rcases List.mem_or_eq_of_mem_set hx with hx | rfl
 · exact h x hx
 · exact hr
def rD (g:Nat→Int→Int) (r:List Int):List Int:=r.mapIdx g
theorem oV (g:Nat→Int→Int) (r:List Int):(rD g r).length=r.length:=by simp [rD]
theorem EI_ {p:Int} (hp:2≤p){g:Nat→Int→Int} (hg:∀ j x,∃ y,g j x=y % p) (r:List Int):inP p (rD g r):=by
 intro x hx
 obtain ⟨j,hj,rfl⟩:=List.mem_iff_getElem.1 hx
 simp only [rD,List.getElem_mapIdx]
 obtain ⟨y,hy⟩:=hg j (r[j]'(by simpa [rD] using hj))
 rw [hy];exact fJ hp
def part (g:Nat→Int→Int) (r:List Int) (j:Nat):List Int:=(r.take j).mapIdx g++r.drop j
theorem oX (g:Nat→Int→Int) (r:List Int):part g r 0=r:=by simp [part]
theorem kS (g:Nat→Int→Int) (r:List Int):part g r r.length=rD g r:=by simp [part,rD]
theorem jR (g:Nat→Int→Int) (r:List Int) (j:Nat):(part g r j).length=r.length:=by simp [part];omega
theorem kV (g:Nat→Int→Int) (r:List Int){j:Nat} (h:j<r.length):(part g r j)[j]?=some (el r j):=by
 unfold part
 rw [List.getElem?_append_right (by simp;omega)]
 have:j-((r.take j).mapIdx g).length=0:=by simp;omega
 rw [this,List.getElem?_drop,Nat.add_zero,pK h]
theorem iR (g:Nat→Int→Int) (r:List Int){j:Nat} (h:j<r.length):(part g r j).set j (g j (el r j))=part g r (j+1):=by
 have h2:el r j=r[j]:=by have:=pK h;rw [List.getElem?_eq_getElem h] at this;exact (Option.some.inj this).symm
 rw [h2]
 exact DI_ r g j h
def iH (p k:Int):Nat→Int→Int:=fun _ a=>(a*k) % p
def gF (p f:Int) (w:List Int):Nat→Int→Int:=fun j x=>(x-f*el w j) % p
theorem Ff_ {m:Rows}{i j:Nat} (hi:i<m.length) (hj:j<m.length):nN m (i:Int) (j:Int)=some ((m.set i (gr m j)).set j (gr m i)):=by
 unfold nN
 refine bnd (gD hi) (bnd (gD hj) (bnd (tC _ hi) (tC _ (by rw [List.length_set];exact hj))))
def zB (m:Rows) (i j:Nat):Rows:=(m.set i (gr m j)).set j (gr m i)
theorem CQ_ {m:Rows}{i:Nat} (h:i<m.length):zB m i i=m:=by
 unfold zB;rw [List.set_set,kN h]
theorem sG (m:Rows) (i j:Nat):(zB m i j).length=m.length:=by simp [zB]
theorem bN {p:Int}{n:Nat}{m:Rows} (h:okM p n m){i j:Nat} (hi:i<m.length) (hj:j<m.length):okM p n (zB m i j):=
 Bb_ (Bb_ h (kC h hj)) (kC h hi)
theorem mO {m:Rows}{i j:Nat} (hi:i<m.length) (hj:j<m.length):gr (zB m i j) i=gr m j:=by
 unfold zB
 rw [iJ (by rw [List.length_set];exact hj)]
 split
 · rename_i e;subst e;rfl
 · rw [iJ hi,if_pos rfl]
def nK (p k:Int) (m:Rows) (r:Nat):Rows:=m.set r (rD (iH p k) (gr m r))
theorem HB_ (p k:Int) (m:Rows) (r:Nat):(nK p k m r).length=m.length:=by simp [nK]
theorem Ic_ {p k:Int}{n:Nat}{m:Rows} (hp:2≤p) (h:okM p n m){r:Nat} (hr:r<m.length):okM p n (nK p k m r):=
 Bb_ h ⟨by rw [oV];exact (kC h hr).1,EI_ hp (fun j x=>⟨_,rfl⟩) _⟩
theorem Fw_ {p a b:Int} (hp:2≤p∧p≤97) (ha:0≤a∧a<p) (hb:0≤b∧b<p):aI p a b=some ((a*b) % p):=by
 have hm:=lN hp ha hb
 refine bnd (tL (by omega) (by omega)) (bnd (wG (by omega)) ?_)
 rw [Int.tmod_eq_emod_of_nonneg hm.1]
theorem fdSub_ {p a b:Int} (hp:2≤p∧p≤97) (ha:0≤a∧a<p) (hb:0≤b∧b<p):xM p a b=some ((a+p-b) % p):=by
 refine bnd (aB (by omega) (by omega)) (bnd (wC (by omega) (by omega)) (bnd (wG (by omega)) ?_))
 rw [Int.tmod_eq_emod_of_nonneg (by omega)]
theorem H9_ {p k:Int}{n:Nat}{m:Rows}{r:Nat} (hp:2≤p∧p≤97) (h:okM p n m) (hr:r<m.length) (hk:0≤k∧k<p) :
  forS (fun (j:Nat) (s:List (List Int))=>
        (idxO s (r:Int)).bind fun a26854=>
        (idxO s (r:Int)).bind fun a26863=>
        (idxO a26863 ((j:Nat):Int)).bind fun a26872=>
        (aI p a26872 k).bind fun y26874=>
        (setO a26854 ((j:Nat):Int) y26874).bind fun a26884=>
        (setO s (r:Int) a26884).bind fun a26887=>
        some a26887) (gr m r).length 0 m=some (nK p k m r):=by
 have hrow:=kC h hr
 have:=xC (n:=(gr m r).length) (fun j=>m.set r (part (iH p k) (gr m r) j)) (f:=fun (j:Nat) (s:List (List Int))=>
        (idxO s (r:Int)).bind fun a26854=>
        (idxO s (r:Int)).bind fun a26863=>
        (idxO a26863 ((j:Nat):Int)).bind fun a26872=>
        (aI p a26872 k).bind fun y26874=>
        (setO a26854 ((j:Nat):Int) y26874).bind fun a26884=>
        (setO s (r:Int) a26884).bind fun a26887=>
        some a26887) (by
  intro j hj
  have hl:r<(m.set r (part (iH p k) (gr m r) j)).length:=by rw [List.length_set];exact hr
  have hg:gr (m.set r (part (iH p k) (gr m r) j)) r=part (iH p k) (gr m r) j:=by rw [iJ hr,if_pos rfl]
  have h1:=gD hl
  rw [hg] at h1
  refine bnd h1 (bnd h1 (bnd (kA (kV _ _ hj)) (bnd (Fw_ hp (hrow.2 _ (sH hj)) hk) (bnd (tC _ (by rw [jR];exact hj)) (bnd (tC _ hl) ?_)))))
  rw [List.set_set]
  congr 2
  exact iR (iH p k) (gr m r) hj)
 rw [oX,kN hr,kS] at this
 exact this
theorem Iy_ {p k:Int}{r:List Int} (hp:2≤p∧p≤97) (h:inP p r) (hk:0≤k∧k<p) :
  forS (fun (j:Nat) (s:List Int)=>
     (idxO s ((j:Nat):Int)).bind fun a137=>
     (zF a137 k).bind fun a140=>
     (qD a140 p).bind fun a142=>
     (setO s ((j:Nat):Int) a142).bind fun a156=>
     some a156) r.length 0 r=some (rD (iH p k) r):=by
 have:=xC (n:=r.length) (fun j=>part (iH p k) r j) (f:=fun (j:Nat) (s:List Int)=>
     (idxO s ((j:Nat):Int)).bind fun a137=>
     (zF a137 k).bind fun a140=>
     (qD a140 p).bind fun a142=>
     (setO s ((j:Nat):Int) a142).bind fun a156=>
     some a156) (by
  intro j hj
  have hm:=lN hp (h _ (sH hj)) hk
  refine bnd (kA (kV _ _ hj)) (bnd (tL (by omega) (by omega)) (bnd (wG (by omega)) (bnd (tC _ (by rw [jR];exact hj)) ?_)))
  rw [Int.tmod_eq_emod_of_nonneg hm.1]
  exact congrArg some (iR (iH p k) r hj))
 rw [oX,kS] at this
 exact this
theorem specSub {p f:Int}{n:Nat}{m:Rows}{r i:Nat} (hp:2≤p∧p≤97) (h:okM p n m) (hr:r<m.length) (hi:i<m.length) (hri:i≠r) (hf:0≤f∧f<p) :
  forS (fun (j:Nat) (s:List (List Int))=>
            (idxO s ((i:Nat):Int)).bind fun a28591=>
            (idxO s ((i:Nat):Int)).bind fun a28600=>
            (idxO s (r:Int)).bind fun a28609=>
            (idxO a28600 ((j:Nat):Int)).bind fun a28618=>
            (idxO a28609 ((j:Nat):Int)).bind fun a28626=>
            (aI p f a28626).bind fun y28628=>
            (xM p a28618 y28628).bind fun y28631=>
            (setO a28591 ((j:Nat):Int) y28631).bind fun a28641=>
            (setO s ((i:Nat):Int) a28641).bind fun a28644=>
            some a28644) (gr m i).length 0 m=some (m.set i (rD (gF p f (gr m r)) (gr m i))):=by
 have hrow:=kC h hi
 have hrr:=kC h hr
 have:=xC (n:=(gr m i).length) (fun j=>m.set i (part (gF p f (gr m r)) (gr m i) j)) (f:=fun (j:Nat) (s:List (List Int))=>
            (idxO s ((i:Nat):Int)).bind fun a28591=>
            (idxO s ((i:Nat):Int)).bind fun a28600=>
            (idxO s (r:Int)).bind fun a28609=>
            (idxO a28600 ((j:Nat):Int)).bind fun a28618=>
            (idxO a28609 ((j:Nat):Int)).bind fun a28626=>
            (aI p f a28626).bind fun y28628=>
            (xM p a28618 y28628).bind fun y28631=>
            (setO a28591 ((j:Nat):Int) y28631).bind fun a28641=>
            (setO s ((i:Nat):Int) a28641).bind fun a28644=>
            some a28644) (by
  intro j hj
  have hl:i<(m.set i (part (gF p f (gr m r)) (gr m i) j)).length:=by rw [List.length_set];exact hi
  have hl2:r<(m.set i (part (gF p f (gr m r)) (gr m i) j)).length:=by rw [List.length_set];exact hr
  have hg:gr (m.set i (part (gF p f (gr m r)) (gr m i) j)) i=part (gF p f (gr m r)) (gr m i) j:=by rw [iJ hi,if_pos rfl]
  have hg2:gr (m.set i (part (gF p f (gr m r)) (gr m i) j)) r=gr m r:=by rw [iJ hi,if_neg hri]
  have h1:=gD hl
  have h2:=gD hl2
  rw [hg] at h1
  rw [hg2] at h2
  have hjr:j<(gr m r).length:=by omega
  have hm:=fJ (p:=p) (x:=f*el (gr m r) j) hp.1
  refine bnd h1 (bnd h1 (bnd h2 (bnd (kA (kV _ _ hj)) (bnd (oE hjr) (bnd (Fw_ hp hf (hrr.2 _ (sH hjr))) (bnd (fdSub_ hp (hrow.2 _ (sH hj)) hm) (bnd (tC _ (by rw [jR];exact hj)) (bnd (tC _ hl) ?_))))))))
  rw [List.set_set,sub_mod]
  congr 2
  exact iR (gF p f (gr m r)) (gr m i) hj)
 rw [oX,kN hi,kS] at this
 exact this
theorem implSub {p f:Int}{v w:List Int} (hp:2≤p∧p≤97) (hv:inP p v) (hw:inP p w) (hl:v.length=w.length) (hf:0≤f∧f<p):sI p v (0-f) w=some (rD (gF p f w) v):=by
 have:=xC (n:=w.length) (fun j=>part (gF p f w) v j) (f:=fun (k3:Nat) (s72:List Int)=>
   (idxO w ((k3:Nat):Int)).bind fun a87=>
   (idxO s72 ((k3:Nat):Int)).bind fun a95=>
   (zF (0-f) a87).bind fun a97=>
   (mA a95 a97).bind fun a99=>
   (rF p a99).bind fun y101=>
   (setO s72 ((k3:Nat):Int) y101).bind fun a110=>
   some a110) (by
  intro j hj
  have hjv:j<v.length:=by omega
  have h1:=lN hp hf (hw _ (sH hj))
  have h2:=hv _ (sH hjv)
  have h3:(0-f)*el w j = -(f*el w j):=by rw [Int.zero_sub,Int.neg_mul]
  refine bnd (oE hj) (bnd (kA (kV _ _ hjv)) (bnd (tL (by omega) (by omega)) (bnd (aB (by omega) (by omega)) (bnd (modG hp (by omega)) (bnd (tC _ (by rw [jR];exact hjv)) ?_)))))
  rw [h3,← Int.sub_eq_add_neg]
  exact congrArg some (iR (gF p f w) v hjv))
 rw [oX,← hl,kS] at this
 rw [hl] at this
 exact bnd this rfl
end Go.Proofs.YtemcakhocdchiaaGreatDoor
namespace Go.Proofs.YtemcakhocdchiaaGreatDoor
def iC {α:Type} (g:Nat→α→α) (l:List α) (j:Nat):List α:=(l.take j).mapIdx g++l.drop j
theorem partG0 {α:Type} (g:Nat→α→α) (l:List α):iC g l 0=l:=by simp [iC]
theorem cS {α:Type} (g:Nat→α→α) (l:List α):iC g l l.length=l.mapIdx g:=by simp [iC]
theorem dI {α:Type} (g:Nat→α→α) (l:List α) (j:Nat):(iC g l j).length=l.length:=by simp [iC];omega
theorem Im_ {α:Type} (g:Nat→α→α) (l:List α) (j k:Nat):(iC g l j)[k]?=if k<j then l[k]?.map (g k) else l[k]?:=by
 unfold iC
 by_cases h:k<((l.take j).mapIdx g).length
 ·
  rw [List.getElem?_append_left h]
  have h2:k<j:=by simp at h;omega
  rw [if_pos h2,List.getElem?_mapIdx,List.getElem?_take,if_pos h2]
 ·
  rw [List.getElem?_append_right (by omega)]
  have h1:¬k<min j l.length:=by simpa using h
  by_cases h2:k<j
  ·
   rw [if_pos h2,List.getElem?_eq_none (by omega:l.length≤k)]
   rw [List.getElem?_drop,List.getElem?_eq_none (by simp;omega)];rfl
  ·
   rw [if_neg h2,List.getElem?_drop]
   by_cases h3:l.length≤j
   · rw [List.getElem?_eq_none (by simp;omega),List.getElem?_eq_none (by omega)]
   · congr 1;simp;omega
theorem wL {g:Nat→List Int→List Int}{m:Rows}{j k:Nat} (hk:k<m.length):gr (iC g m j) k=if k<j then g k (gr m k) else gr m k:=by
 have h1:=mF (m:=iC g m j) (i:=k) (by rw [dI];exact hk)
 rw [Im_,mF hk] at h1
 split at h1
 · rename_i h;rw [if_pos h];exact (Option.some.inj h1).symm
 · rename_i h;rw [if_neg h];exact (Option.some.inj h1).symm
theorem zU {g:Nat→List Int→List Int}{m:Rows}{j:Nat} (hj:j<m.length):(iC g m j).set j (g j (gr m j))=iC g m (j+1):=by
 have h2:gr m j=m[j]:=by have:=mF hj;rw [List.getElem?_eq_getElem hj] at this;exact (Option.some.inj this).symm
 rw [h2]
 exact DI_ m g j hj
def scanN (m:Rows) (c:Nat):Nat→Nat→Nat
 | 0,k=>k
 | d+1,k=>if el (gr m k) c=0 then scanN m c d (k+1) else k
theorem zI (m:Rows) (c:Nat):∀ (d k:Nat),k+d=m.length→k≤scanN m c d k∧scanN m c d k≤m.length∧(scanN m c d k<m.length→el (gr m (scanN m c d k)) c≠0)
 | 0,k,h=>⟨Nat.le_refl _,by simp only [scanN];omega,fun h2=>by simp only [scanN] at h2;omega⟩
 | d+1,k,h=>by
  unfold scanN
  split
  ·
   obtain ⟨h1,h2,h3⟩:=zI m c d (k+1) (by omega)
   exact ⟨by omega,h2,h3⟩
  ·
   rename_i hne
   exact ⟨Nat.le_refl _,by omega,fun _=>hne⟩
theorem scan_ {f:Int→Option (Int⊕Int)}{m:Rows}{c:Nat} (hf:∀ k:Nat,k<m.length→f (k:Int)=some (if el (gr m k) c=0 then .inl ((k:Int)+1) else .inr (k:Int))) (he:f (m.length:Int)=some (.inr (m.length:Int))) :
  ∀ (d k:Nat),k+d=m.length→nB f (k:Int)=some ((scanN m c d k:Nat):Int)
 | 0,k,h=>by
  have:k=m.length:=by omega
  subst this
  rw [kF he];rfl
 | d+1,k,h=>by
  have h1:=hf k (by omega)
  unfold scanN
  by_cases h0:el (gr m k) c=0
  ·
   rw [if_pos h0] at h1 ⊢
   rw [qG h1]
   exact scan_ hf he d (k+1) (by omega)
  ·
   rw [if_neg h0] at h1 ⊢
   exact kF h1
def vB (p:Int) (c r:Nat) (m a:Rows):Nat→List Int→List Int:=fun i row=>if i=r∨el (gr m i) c=0 then row else rD (gF p (el (gr m i) c) (gr a r)) row
def oP (p:Int) (c r:Nat) (m a:Rows):Rows:=a.mapIdx (vB p c r m a)
theorem IF_ (p:Int) (c r:Nat) (m a:Rows):(oP p c r m a).length=a.length:=by simp [oP]
theorem Ee_ {p:Int}{c r:Nat}{m a:Rows}{i:Nat} (h:i<a.length):gr (oP p c r m a) i=vB p c r m a i (gr a i):=by
 have:=wL (g:=vB p c r m a) (j:=a.length) h
 rw [cS,if_pos h] at this
 exact this
theorem AY_ {p:Int}{c r n:Nat}{m a:Rows} (hp:2≤p){i:Nat}{row:List Int} (hr:row.length=n∧inP p row):(vB p c r m a i row).length=n∧inP p (vB p c r m a i row):=by
 unfold vB
 split
 · exact hr
 · exact ⟨by rw [oV];exact hr.1,EI_ hp (fun j x=>⟨_,rfl⟩) _⟩
theorem Jj_ {p:Int}{c r n:Nat}{m a:Rows} (hp:2≤p) (h:okM p n a):okM p n (oP p c r m a):=by
 intro x hx
 obtain ⟨i,hi,rfl⟩:=List.mem_iff_getElem.1 hx
 unfold oP at hi ⊢
 rw [List.getElem_mapIdx]
 have hi':i<a.length:=by simpa using hi
 exact AY_ hp (h _ (List.getElem_mem hi'))
def mB (p:Int) (c:Nat) (m a:Rows) (r k:Nat):Rows:=nK p (yE p (el (gr (zB m r k) r) c)) (zB a r k) r
def tB (p:Int) (c:Nat) (m a:Rows) (r k:Nat):Rows:=oP p c r (mB p c m m r k) (mB p c m a r k)
theorem nO (p:Int) (c:Nat) (m a:Rows) (r k:Nat):(mB p c m a r k).length=a.length:=by unfold mB;rw [HB_,sG]
theorem nE (p:Int) (c:Nat) (m a:Rows) (r k:Nat):(tB p c m a r k).length=a.length:=by unfold tB;rw [IF_,nO]
theorem fW {p:Int}{c n:Nat}{m a:Rows}{r k:Nat} (hp:2≤p) (h:okM p n a) (hr:r<a.length) (hk:k<a.length):okM p n (mB p c m a r k):=
 Ic_ hp (bN h hr hk) (by rw [sG];exact hr)
theorem fH {p:Int}{c n:Nat}{m a:Rows}{r k:Nat} (hp:2≤p) (h:okM p n a) (hr:r<a.length) (hk:k<a.length):okM p n (tB p c m a r k):=Jj_ hp (fW hp h hr hk)
def yB (p:Int):Nat→Nat→Rows→Rows→Nat→Rows×Rows×Nat
 | 0,_,m,a,r=>(m,a,r)
 | d+1,c,m,a,r=>
  if r<m.length then
   if scanN m c (m.length-r) r=m.length then yB p d (c+1) m a r
   else yB p d (c+1) (tB p c m m r (scanN m c (m.length-r) r)) (tB p c m a r (scanN m c (m.length-r) r)) (r+1)
  else (m,a,r)
noncomputable def fR (p n:Int) (st:Rows×Int×Int):Option ((Rows×Int×Int)⊕(Rows×Int)):=
   ((some (decide (st.2.2<n))).bind fun a23919=>
    cond a23919
    ((some (decide (st.2.1<((st.1.length:Nat):Int)))).bind fun a23923=>
     some a23923)
    (some false)).bind fun (s23913:Bool)=>
   cond s23913
   (((nB (fun (s26612:Int)=>
       ((some (decide (s26612<((st.1.length:Nat):Int)))).bind fun a26650=>
        cond a26650
        ((idxO st.1 s26612).bind fun a26660=>
         (idxO a26660 st.2.2).bind fun a26669=>
         (some (decide (a26669=0))).bind fun a26671=>
         some a26671)
        (some false)).bind fun (s26644:Bool)=>
       cond s26644
       ((mA s26612 1).bind fun a26678=>
        some (.inl a26678))
       (some (.inr s26612))) st.2.1).bind fun (s26486:Int)=>
     (some (decide (s26486=((st.1.length:Nat):Int)))).bind fun a26682=>
     cond a26682
     (some (st.1,st.2.1))
     ((idxO st.1 st.2.1).bind fun _=>
      (idxO st.1 s26486).bind fun _=>
      (nN st.1 st.2.1 s26486).bind fun a26717=>
      (idxO a26717 st.2.1).bind fun a26725=>
      (idxO a26725 st.2.2).bind fun a26734=>
      (jU p a26734).bind fun y26736=>
      (idxO a26717 st.2.1).bind fun a26745=>
      (forS (fun (k26749:Nat) (s26838:List (List Int))=>
        (idxO s26838 st.2.1).bind fun a26854=>
        (idxO s26838 st.2.1).bind fun a26863=>
        (idxO a26863 ((k26749:Nat):Int)).bind fun a26872=>
        (aI p a26872 y26736).bind fun y26874=>
        (setO a26854 ((k26749:Nat):Int) y26874).bind fun a26884=>
        (setO s26838 st.2.1 a26884).bind fun a26887=>
        some a26887) a26745.length 0 a26717).bind fun (s26891:List (List Int))=>
      (forS (fun (k26893:Nat) (s28062:List (List Int))=>
        (((some (decide (((k26893:Nat):Int)=st.2.1))).bind fun a28393=>
          cond a28393
          (some true)
          ((idxO s28062 ((k26893:Nat):Int)).bind fun a28402=>
           (idxO a28402 st.2.2).bind fun a28411=>
           (some (decide (a28411=0))).bind fun a28413=>
           some a28413)).bind fun (s28387:Bool)=>
         cond s28387
         (some s28062)
         ((idxO s28062 ((k26893:Nat):Int)).bind fun a28425=>
          (idxO a28425 st.2.2).bind fun a28434=>
          (idxO s28062 ((k26893:Nat):Int)).bind fun a28442=>
          (forS (fun (k28446:Nat) (s28575:List (List Int))=>
            (idxO s28575 ((k26893:Nat):Int)).bind fun a28591=>
            (idxO s28575 ((k26893:Nat):Int)).bind fun a28600=>
            (idxO s28575 st.2.1).bind fun a28609=>
            (idxO a28600 ((k28446:Nat):Int)).bind fun a28618=>
            (idxO a28609 ((k28446:Nat):Int)).bind fun a28626=>
            (aI p a28434 a28626).bind fun y28628=>
            (xM p a28618 y28628).bind fun y28631=>
            (setO a28591 ((k28446:Nat):Int) y28631).bind fun a28641=>
            (setO s28575 ((k26893:Nat):Int) a28641).bind fun a28644=>
            some a28644) a28442.length 0 s28062).bind fun (s28648:List (List Int))=>
          some s28648)).bind fun (s28358:List (List Int))=>
        some s28358) s26891.length 0 s26891).bind fun (s28655:List (List Int))=>
      (mA st.2.1 1).bind fun a28657=>
      some (s28655,a28657))).bind fun (s26292:List (List Int)×Int)=>
    (mA st.2.2 1).bind fun a28662=>
    some (.inl (s26292.1,s26292.2,a28662)))
   (some (.inr (st.1,st.2.1)))
theorem H8_ {p:Int}{n N c r:Nat}{m:Rows} (hf:fdB p=true) (h:okM p N m) (hn:n≤N) (hN:N≤1048576) (hL:m.length≤1048576) (hr:r<m.length) (hc:c<n) :
  fR p (n:Int) (m,(r:Int),(c:Int))=some (.inl (if scanN m c (m.length-r) r=m.length then (m,(r:Int),(c:Int)+1) else (tB p c m m r (scanN m c (m.length-r) r),(r:Int)+1,(c:Int)+1))):=by
 have hp:=aC hf
 unfold fR
 dsimp only
 refine bnd (a:=true) (stp (cTW (dT (by omega)) (stp (by rw [dT (by omega)])))) (cTW rfl ?_)
 have hsc:∀ {f:Int→Option (Int⊕Int)},(∀ k:Nat,k<m.length→f (k:Int)=some (if el (gr m k) c=0 then .inl ((k:Int)+1) else .inr (k:Int)))→f (m.length:Int)=some (.inr (m.length:Int))→nB f (r:Int)=some ((scanN m c (m.length-r) r:Nat):Int):=fun h1 h2=>scan_ h1 h2 _ _ (by omega)
 obtain ⟨s1,s2,s3⟩:=zI m c (m.length-r) r (by omega)
 generalize scanN m c (m.length-r) r=k at hsc s1 s2 s3 ⊢
 refine bnd (a:=if k=m.length then (m,(r:Int)) else (tB p c m m r k,(r:Int)+1)) ?_ ?_
 ·
  refine bnd (hsc ?_ ?_) (stp ?_)
  ·
   intro i hi
   have hrow:=kC h hi
   refine bnd (a:=decide (el (gr m i) c=0)) (stp (cTW (dT (by omega)) (bnd (gD hi) (bnd (oE (by omega)) rfl)))) ?_
   by_cases h0:el (gr m i) c=0
   · rw [if_pos h0];exact cTW (dT h0) (bnd (aB (by omega) (by omega)) rfl)
   · rw [if_neg h0];exact cFW (dF h0) rfl
  · exact bnd (a:=false) (stp (cFW (dF (by omega)) rfl)) (cFW rfl rfl)
  ·
   by_cases hk:k=m.length
   · rw [if_pos hk];exact cTW (dT (by omega)) rfl
   ·
    rw [if_neg hk]
    have hkl:k<m.length:=by omega
    have hne:=s3 hkl
    refine cFW (dF (by omega)) ?_
    refine bnd (gD hr) (bnd (gD hkl) (bnd (Ff_ hr hkl) ?_))
    have h1:okM p N (zB m r k):=bN h hr hkl
    have hr1:r<(zB m r k).length:=by rw [sG];exact hr
    have hrow:=kC h1 hr1
    have hel:=kI h1 hr1 (show c<N by omega)
    have hnz:el (gr (zB m r k) r) c≠0:=by rw [mO hr hkl];exact hne
    obtain ⟨_,i1,i2,i3⟩:=oR hf (x:=el (gr (zB m r k) r) c) ⟨by omega,hel.2⟩
    change (idxO (zB m r k) (r:Int)).bind _=_
    refine bnd (gD hr1) (bnd (oE (by omega)) (bnd (fdInv_ hf ⟨by omega,hel.2⟩) (bnd (gD hr1) ?_)))
    refine bnd (H9_ hp h1 hr1 ⟨i2,i3⟩) ?_
    change (forS _ (mB p c m m r k).length 0 (mB p c m m r k)).bind _=_
    have h2:okM p N (mB p c m m r k):=fW hp.1 h hr hkl
    have hl2:(mB p c m m r k).length=m.length:=nO p c m m r k
    have hr2:r<(mB p c m m r k).length:=by omega
    have:=xC (n:=(mB p c m m r k).length) (fun i=>iC (vB p c r (mB p c m m r k) (mB p c m m r k)) (mB p c m m r k) i) (f:=(fun (k26893:Nat) (s28062:List (List Int))=>
        (((some (decide (((k26893:Nat):Int)=(r:Int)))).bind fun a28393=>
          cond a28393
          (some true)
          ((idxO s28062 ((k26893:Nat):Int)).bind fun a28402=>
           (idxO a28402 (c:Int)).bind fun a28411=>
           (some (decide (a28411=0))).bind fun a28413=>
           some a28413)).bind fun (s28387:Bool)=>
         cond s28387
         (some s28062)
         ((idxO s28062 ((k26893:Nat):Int)).bind fun a28425=>
          (idxO a28425 (c:Int)).bind fun a28434=>
          (idxO s28062 ((k26893:Nat):Int)).bind fun a28442=>
          (forS (fun (k28446:Nat) (s28575:List (List Int))=>
            (idxO s28575 ((k26893:Nat):Int)).bind fun a28591=>
            (idxO s28575 ((k26893:Nat):Int)).bind fun a28600=>
            (idxO s28575 (r:Int)).bind fun a28609=>
            (idxO a28600 ((k28446:Nat):Int)).bind fun a28618=>
            (idxO a28609 ((k28446:Nat):Int)).bind fun a28626=>
            (aI p a28434 a28626).bind fun y28628=>
            (xM p a28618 y28628).bind fun y28631=>
            (setO a28591 ((k28446:Nat):Int) y28631).bind fun a28641=>
            (setO s28575 ((k26893:Nat):Int) a28641).bind fun a28644=>
            some a28644) a28442.length 0 s28062).bind fun (s28648:List (List Int))=>
          some s28648)).bind fun (s28358:List (List Int))=>
        some s28358)) ?_
    ·
     rw [partG0,cS] at this
     exact bnd this (bnd (aB (by omega) (by omega)) rfl)
    ·
     generalize mB p c m m r k=w at h2 hl2 hr2
     intro i hi
     have hg1:gr (iC (vB p c r w w) w i) i=gr w i:=by rw [wL hi,if_neg (by omega)]
     have hg2:gr (iC (vB p c r w w) w i) r=gr w r:=by
      rw [wL hr2]
      split
      · unfold vB;rw [if_pos (Or.inl rfl)]
      · rfl
     have hrow2:=kC h2 hi
     have hli:i<(iC (vB p c r w w) w i).length:=by rw [dI];exact hi
     have hlr:r<(iC (vB p c r w w) w i).length:=by rw [dI];exact hr2
     have hok:okM p N (iC (vB p c r w w) w i):=by
      intro x hx
      obtain ⟨q,hq,rfl⟩:=List.mem_iff_getElem.1 hx
      have hq':q<w.length:=by rw [dI] at hq;exact hq
      have h5:=mF (m:=iC (vB p c r w w) w i) (i:=q) hq
      rw [List.getElem?_eq_getElem hq] at h5
      rw [Option.some.inj h5,wL hq']
      split
      · exact AY_ hp.1 (kC h2 hq')
      · exact kC h2 hq'
     have hset:=zU (g:=vB p c r w w) (m:=w) hi
     have i1:=gD hli
     rw [hg1] at i1
     by_cases hir:i=r
     ·
      refine bnd (a:=iC (vB p c r w w) w (i+1)) (bnd (a:=true) (stp (cTW (dT (by omega)) rfl)) (cTW rfl ?_)) rfl
      rw [←hset]
      have:vB p c r w w i (gr w i)=gr w i:=by unfold vB;rw [if_pos (Or.inl hir)]
      rw [this,← hg1,kN hli]
     ·
      by_cases h0:el (gr w i) c=0
      ·
       refine bnd (a:=iC (vB p c r w w) w (i+1)) (bnd (a:=true) (stp (cFW (dF (by omega)) (bnd i1 (bnd (oE (by omega)) (stp (by rw [dT h0])))))) (cTW rfl ?_)) rfl
       rw [←hset]
       have:vB p c r w w i (gr w i)=gr w i:=by unfold vB;rw [if_pos (Or.inr h0)]
       rw [this,← hg1,kN hli]
      ·
       refine bnd (a:=iC (vB p c r w w) w (i+1)) (bnd (a:=false) (stp (cFW (dF (by omega)) (bnd i1 (bnd (oE (by omega)) (stp (by rw [dF h0])))))) (cFW rfl ?_)) rfl
       refine bnd i1 (bnd (oE (by omega)) (bnd i1 ?_))
       have hfe:=kI h2 hi (show c<N by omega)
       have:=specSub (f:=el (gr w i) c) hp hok hlr hli hir hfe
       rw [hg1,hg2] at this
       refine bnd this ?_
       rw [←hset]
       unfold vB
       rw [if_neg (by intro h;rcases h with h | h;exact hir h;exact h0 h)]
 ·
  by_cases hk:k=m.length
  · rw [if_pos hk,if_pos hk];exact bnd (aB (by omega) (by omega)) rfl
  · rw [if_neg hk,if_neg hk];exact bnd (aB (by omega) (by omega)) rfl
theorem Aq_ {p:Int}{n N:Nat} (hf:fdB p=true) (hn:n≤N) (hN:N≤1048576):∀ (d c:Nat) (m a:Rows) (r:Nat),c+d=n→okM p N m→m.length≤1048576→r≤m.length→nB (fR p (n:Int)) (m,(r:Int),(c:Int))=some ((yB p d c m a r).1,((yB p d c m a r).2.2:Int))
 | 0,c,m,a,r,hc,h,hL,hr=>by
  refine kF ?_
  unfold fR
  exact bnd (a:=false) (stp (cFW (dF (by dsimp only;omega)) rfl)) (cFW rfl rfl)
 | d+1,c,m,a,r,hc,h,hL,hr=>by
  unfold yB
  by_cases hrl:r<m.length
  ·
   rw [if_pos hrl]
   have hs:=H8_ hf h hn hN hL hrl (show c<n by omega)
   obtain ⟨s1,s2,s3⟩:=zI m c (m.length-r) r (by omega)
   split
   ·
    rename_i hk
    rw [if_pos hk] at hs
    rw [qG hs]
    exact Aq_ hf hn hN d (c+1) m a r (by omega) h hL hr
   ·
    rename_i hk
    rw [if_neg hk] at hs
    rw [qG hs]
    have hkl:scanN m c (m.length-r) r<m.length:=by omega
    exact Aq_ hf hn hN d (c+1) _ _ (r+1) (by omega) (fH (aC hf).1 h hrl hkl) (by rw [nE];exact hL) (by rw [nE];omega)
  ·
   rw [if_neg hrl]
   refine kF ?_
   unfold fR
   exact bnd (a:=false) (stp (cTW (dT (by dsimp only;omega)) (stp (by rw [dF (by dsimp only;omega)])))) (cFW rfl rfl)
end Go.Proofs.YtemcakhocdchiaaGreatDoor
namespace Go.Proofs.YtemcakhocdchiaaGreatDoor
theorem C6_ {p:Int}{l:Rows}{r k:Nat} (hr:r<l.length) (hk:k<l.length):rN (0,(r:Int),(k:Int),0) p l=some (zB l r k):=by
 refine stp (cTW rfl ?_)
 exact bnd (gD hk) (bnd (gD hr) (bnd (Ff_ hr hk) rfl))
theorem Dz_ {p x:Int}{n:Nat}{l:Rows}{r:Nat} (hf:fdB p=true) (h:okM p n l) (hr:r<l.length) (hx:0<x∧x<p):rN (1,(r:Int),0,x) p l=some (nK p (yE p x) l r):=by
 have hp:=aC hf
 obtain ⟨i0,_,i2,i3⟩:=oR hf hx
 refine stp (cFW rfl (stp (cTW rfl ?_)))
 exact bnd i0 (bnd (gD hr) (bnd (Iy_ hp (kC h hr).2 ⟨i2,i3⟩) (bnd (tC _ hr) rfl)))
theorem Dy_ {p f:Int}{n:Nat}{l:Rows}{i r:Nat} (hp:2≤p∧p≤97) (h:okM p n l) (hi:i<l.length) (hr:r<l.length) (hir:i≠r) (hf:0≤f∧f<p):rN (2,(i:Int),(r:Int),f) p l=some (l.set i (rD (gF p f (gr l r)) (gr l i))):=by
 have h1:=kC h hi
 have h2:=kC h hr
 refine stp (cFW rfl (stp (cFW rfl (stp (cTW rfl ?_)))))
 refine bnd (gD hi) (bnd (tK ⟨by dsimp only;omega,by dsimp only;omega⟩) (bnd (gD hr) (bnd (implSub hp h1.2 h2.2 (by omega) hf) (bnd (a:=()) ?_ (bnd (tC _ hi) rfl)))))
 unfold neqO
 rw [if_neg (by dsimp only;omega)]
theorem Ii_ {p:Int}{m a:Rows}{r k:Nat} (hr:r<m.length) (hk:k<m.length) (hl:a.length=m.length):yH (0,(r:Int),(k:Int),0) p m a=some (zB m r k,zB a r k):=by
 refine stp ?_
 by_cases h:k=r
 ·
  subst h
  rw [CQ_ hr,CQ_ (by omega)]
  exact cTW (dT rfl) rfl
 ·
  refine cFW (dF ?_) (bnd (C6_ hr hk) (bnd (C6_ (by omega) (by omega)) rfl))
  intro e
  simp only [List.cons.injEq] at e
  exact h (by have:=e.2.2.1;omega)
theorem I0_ {p x:Int}{n q:Nat}{m a:Rows}{r:Nat} (hf:fdB p=true) (h:okM p n m) (ha:okM p q a) (hr:r<m.length) (hl:a.length=m.length) (hx:0<x∧x<p):yH (1,(r:Int),0,x) p m a=some (nK p (yE p x) m r,nK p (yE p x) a r):=by
 refine stp (cFW (dF ?_) (bnd (Dz_ hf h hr hx) (bnd (Dz_ hf ha (by omega) hx) rfl)))
 intro e
 simp only [List.cons.injEq] at e
 have:=e.1;omega
theorem IZ_ {p f:Int}{n q:Nat}{m a:Rows}{i r:Nat} (hp:2≤p∧p≤97) (h:okM p n m) (ha:okM p q a) (hi:i<m.length) (hr:r<m.length) (hl:a.length=m.length) (hir:i≠r) (hf:0≤f∧f<p) :
  yH (2,(i:Int),(r:Int),f) p m a=some (m.set i (rD (gF p f (gr m r)) (gr m i)),a.set i (rD (gF p f (gr a r)) (gr a i))):=by
 refine stp (cFW (dF ?_) (bnd (Dy_ hp h hi hr hir hf) (bnd (Dy_ hp ha (by omega) (by omega) hir hf) rfl)))
 intro e
 simp only [List.cons.injEq] at e
 have:=e.1;omega
theorem EE_ {p:Int}{c r n:Nat}{m a:Rows} (hp:2≤p) (h:okM p n a) (i:Nat):okM p n (iC (vB p c r m a) a i):=by
 intro x hx
 obtain ⟨q,hq,rfl⟩:=List.mem_iff_getElem.1 hx
 have hq':q<a.length:=by rw [dI] at hq;exact hq
 have h5:=mF (m:=iC (vB p c r m a) a i) (i:=q) hq
 rw [List.getElem?_eq_getElem hq] at h5
 rw [Option.some.inj h5,wL hq']
 split
 · exact AY_ hp (kC h hq')
 · exact kC h hq'
theorem aV {p:Int}{c r:Nat}{m a:Rows}{i:Nat} (hi:i<a.length):gr (iC (vB p c r m a) a i) i=gr a i:=by rw [wL hi,if_neg (by omega)]
theorem DN_ {p:Int}{c r:Nat}{m a:Rows} (i:Nat) (hr:r<a.length):gr (iC (vB p c r m a) a i) r=gr a r:=by
 rw [wL hr]
 split
 · unfold vB;rw [if_pos (Or.inl rfl)]
 · rfl
theorem yU {p:Int}{c r:Nat}{m a:Rows}{i:Nat} (hi:i<a.length) (h:i=r∨el (gr m i) c=0):iC (vB p c r m a) a (i+1)=iC (vB p c r m a) a i:=by
 rw [←zU hi]
 have h1:vB p c r m a i (gr a i)=gr a i:=by unfold vB;rw [if_pos h]
 rw [h1]
 have h2:=kN (m:=iC (vB p c r m a) a i) (i:=i) (by rw [dI];exact hi)
 rw [aV hi] at h2
 exact h2
theorem DM_ {p:Int}{c r:Nat}{m a:Rows}{i:Nat} (hi:i<a.length) (hir:i≠r) (h0:el (gr m i) c≠0):iC (vB p c r m a) a (i+1)=(iC (vB p c r m a) a i).set i (rD (gF p (el (gr m i) c) (gr a r)) (gr a i)):=by
 rw [←zU hi]
 have h1:vB p c r m a i (gr a i)=rD (gF p (el (gr m i) c) (gr a r)) (gr a i):=by unfold vB;rw [if_neg (by intro h;rcases h with h | h;exact hir h;exact h0 h)]
 rw [h1]
noncomputable def qR (p n:Int) (st:Rows×Rows×Int×Int):Option ((Rows×Rows×Int×Int)⊕(Rows×Rows×Int)):=
   ((some (decide (st.2.2.1<n))).bind fun a6807=>
    cond a6807
    ((some (decide (st.2.2.2<((st.1.length:Nat):Int)))).bind fun a6811=>
     some a6811)
    (some false)).bind fun (s6801:Bool)=>
   cond s6801
   (((nB (fun (s7797:Int)=>
       ((some (decide (s7797<((st.1.length:Nat):Int)))).bind fun a7835=>
        cond a7835
        ((idxO st.1 s7797).bind fun a7845=>
         (idxO a7845 st.2.2.1).bind fun a7854=>
         (some (decide (a7854=0))).bind fun a7856=>
         some a7856)
        (some false)).bind fun (s7829:Bool)=>
       cond s7829
       ((mA s7797 1).bind fun a7863=>
        some (.inl a7863))
       (some (.inr s7797))) st.2.2.2).bind fun (s7671:Int)=>
     (some (decide (s7671=((st.1.length:Nat):Int)))).bind fun a7867=>
     cond a7867
     (some (st.1,st.2.1,st.2.2.2))
     ((yH (0,st.2.2.2,s7671,0) p st.1 st.2.1).bind fun y7870=>
      (idxO y7870.1 st.2.2.2).bind fun a7879=>
      (idxO a7879 st.2.2.1).bind fun a7888=>
      (yH (1,st.2.2.2,0,a7888) p y7870.1 y7870.2).bind fun y7890=>
      (forS (fun (k7893:Nat) (s8050:List (List Int)×List (List Int))=>
        ((some (!decide (((k7893:Nat):Int)=st.2.2.2))).bind fun a8088=>
         cond a8088
         ((idxO s8050.1 ((k7893:Nat):Int)).bind fun a8098=>
          (idxO a8098 st.2.2.1).bind fun a8107=>
          (some (!decide (a8107=0))).bind fun a8109=>
          some a8109)
         (some false)).bind fun (s8082:Bool)=>
        cond s8082
        ((idxO s8050.1 ((k7893:Nat):Int)).bind fun a8121=>
         (idxO a8121 st.2.2.1).bind fun a8130=>
         (yH (2,((k7893:Nat):Int),st.2.2.2,a8130) p s8050.1 s8050.2).bind fun y8132=>
         some (y8132.1,y8132.2))
        (some (s8050.1,s8050.2))) y7890.1.length 0 (y7890.1,y7890.2)).bind fun (s8137:List (List Int)×List (List Int))=>
      (mA st.2.2.2 1).bind fun a8139=>
      some (s8137.1,s8137.2,a8139))).bind fun (s7477:List (List Int)×List (List Int)×Int)=>
    (mA st.2.2.1 1).bind fun a8144=>
    some (.inl (s7477.1,s7477.2.1,a8144,s7477.2.2)))
   (some (.inr (st.1,st.2.1,st.2.2.2)))
theorem Ix_ {p:Int}{n N q c r:Nat}{m a:Rows} (hf:fdB p=true) (h:okM p N m) (ha:okM p q a) (hn:n≤N) (hN:N≤1048576) (hL:m.length≤1048576) (hl:a.length=m.length) (hr:r<m.length) (hc:c<n) :
  qR p (n:Int) (m,a,(c:Int),(r:Int))=some (.inl (if scanN m c (m.length-r) r=m.length then (m,a,(c:Int)+1,(r:Int)) else (tB p c m m r (scanN m c (m.length-r) r),tB p c m a r (scanN m c (m.length-r) r),(c:Int)+1,(r:Int)+1))):=by
 have hp:=aC hf
 unfold qR
 dsimp only
 refine bnd (a:=true) (stp (cTW (dT (by omega)) (stp (by rw [dT (by omega)])))) (cTW rfl ?_)
 have hsc:∀ {f:Int→Option (Int⊕Int)},(∀ k:Nat,k<m.length→f (k:Int)=some (if el (gr m k) c=0 then .inl ((k:Int)+1) else .inr (k:Int)))→f (m.length:Int)=some (.inr (m.length:Int))→nB f (r:Int)=some ((scanN m c (m.length-r) r:Nat):Int):=fun h1 h2=>scan_ h1 h2 _ _ (by omega)
 obtain ⟨s1,s2,s3⟩:=zI m c (m.length-r) r (by omega)
 generalize scanN m c (m.length-r) r=k at hsc s1 s2 s3 ⊢
 refine bnd (a:=if k=m.length then (m,a,(r:Int)) else (tB p c m m r k,tB p c m a r k,(r:Int)+1)) ?_ ?_
 ·
  refine bnd (hsc ?_ ?_) (stp ?_)
  ·
   intro i hi
   have hrow:=kC h hi
   refine bnd (a:=decide (el (gr m i) c=0)) (stp (cTW (dT (by omega)) (bnd (gD hi) (bnd (oE (by omega)) rfl)))) ?_
   by_cases h0:el (gr m i) c=0
   · rw [if_pos h0];exact cTW (dT h0) (bnd (aB (by omega) (by omega)) rfl)
   · rw [if_neg h0];exact cFW (dF h0) rfl
  · exact bnd (a:=false) (stp (cFW (dF (by omega)) rfl)) (cFW rfl rfl)
  ·
   by_cases hk:k=m.length
   · rw [if_pos hk];exact cTW (dT (by omega)) rfl
   ·
    rw [if_neg hk]
    have hkl:k<m.length:=by omega
    have hne:=s3 hkl
    refine cFW (dF (by omega)) ?_
    have h1:okM p N (zB m r k):=bN h hr hkl
    have h1a:okM p q (zB a r k):=bN ha (by omega) (by omega)
    have hr1:r<(zB m r k).length:=by rw [sG];exact hr
    have hrow:=kC h1 hr1
    have hel:=kI h1 hr1 (show c<N by omega)
    have hnz:el (gr (zB m r k) r) c≠0:=by rw [mO hr hkl];exact hne
    refine bnd (Ii_ hr hkl hl) ?_
    dsimp only
    refine bnd (gD hr1) (bnd (oE (by omega)) (bnd (I0_ hf h1 h1a hr1 (by rw [sG,sG];exact hl) ⟨by omega,hel.2⟩) ?_))
    change (forS _ (mB p c m m r k).length 0 (mB p c m m r k,mB p c m a r k)).bind _=_
    have h2:okM p N (mB p c m m r k):=fW hp.1 h hr hkl
    have h2a:okM p q (mB p c m a r k):=fW hp.1 ha (by omega) (by omega)
    have hl2:(mB p c m m r k).length=m.length:=nO p c m m r k
    have hl2a:(mB p c m a r k).length=m.length:=by rw [nO];exact hl
    have hr2:r<(mB p c m m r k).length:=by omega
    have:=xC (n:=(mB p c m m r k).length) (fun i=>(iC (vB p c r (mB p c m m r k) (mB p c m m r k)) (mB p c m m r k) i,iC (vB p c r (mB p c m m r k) (mB p c m a r k)) (mB p c m a r k) i)) (f:=(fun (k7893:Nat) (s8050:List (List Int)×List (List Int))=>
        ((some (!decide (((k7893:Nat):Int)=(r:Int)))).bind fun a8088=>
         cond a8088
         ((idxO s8050.1 ((k7893:Nat):Int)).bind fun a8098=>
          (idxO a8098 (c:Int)).bind fun a8107=>
          (some (!decide (a8107=0))).bind fun a8109=>
          some a8109)
         (some false)).bind fun (s8082:Bool)=>
        cond s8082
        ((idxO s8050.1 ((k7893:Nat):Int)).bind fun a8121=>
         (idxO a8121 (c:Int)).bind fun a8130=>
         (yH (2,((k7893:Nat):Int),(r:Int),a8130) p s8050.1 s8050.2).bind fun y8132=>
         some (y8132.1,y8132.2))
        (some (s8050.1,s8050.2)))) ?_
    ·
     have e1:iC (vB p c r (mB p c m m r k) (mB p c m m r k)) (mB p c m m r k) (mB p c m m r k).length=tB p c m m r k:=cS _ _
     have e2:iC (vB p c r (mB p c m m r k) (mB p c m a r k)) (mB p c m a r k) (mB p c m m r k).length=tB p c m a r k:=by
      rw [hl2,← hl2a,cS];rfl
     rw [partG0,partG0,e1,e2] at this
     exact bnd this (bnd (aB (by omega) (by omega)) rfl)
    ·
     show ∀ i,i<(mB p c m m r k).length→_
     unfold tB at *
     generalize mB p c m m r k=w at h2 hl2 hr2
     generalize mB p c m a r k=b at h2a hl2a
     intro i hi
     have hib:i<b.length:=by omega
     have hrb:r<b.length:=by omega
     have hrow2:=kC h2 hi
     have hli:i<(iC (vB p c r w w) w i).length:=by rw [dI];exact hi
     have hlr:r<(iC (vB p c r w w) w i).length:=by rw [dI];exact hr2
     have i1:=gD hli
     rw [aV hi] at i1
     by_cases hir:i=r
     ·
      refine bnd (a:=false) (stp (cFW (nT (dT (by omega))) rfl)) (cFW rfl ?_)
      rw [yU hi (Or.inl hir),yU hib (Or.inl hir)]
     ·
      by_cases h0:el (gr w i) c=0
      ·
       refine bnd (a:=false) (stp (cTW (nF (dF (by omega))) (bnd i1 (bnd (oE (by omega)) (stp (by rw [dT h0];rfl)))))) (cFW rfl ?_)
       rw [yU hi (Or.inr h0),yU hib (Or.inr h0)]
      ·
       refine bnd (a:=true) (stp (cTW (nF (dF (by omega))) (bnd i1 (bnd (oE (by omega)) (stp (by rw [dF h0];rfl)))))) (cTW rfl ?_)
       refine bnd i1 (bnd (oE (by omega)) ?_)
       have hfe:=kI h2 hi (show c<N by omega)
       have:=IZ_ (f:=el (gr w i) c) hp (EE_ (c:=c) (r:=r) (m:=w) hp.1 h2 i) (EE_ (c:=c) (r:=r) (m:=w) hp.1 h2a i) hli hlr (by rw [dI,dI];omega) hir hfe
       rw [aV hi,aV hib,DN_ i hr2,DN_ i hrb] at this
       refine bnd this ?_
       rw [DM_ hi hir h0,DM_ hib hir h0]
 ·
  by_cases hk:k=m.length
  · rw [if_pos hk,if_pos hk];exact bnd (aB (by omega) (by omega)) rfl
  · rw [if_neg hk,if_neg hk];exact bnd (aB (by omega) (by omega)) rfl
theorem Ax_ {p:Int}{n N q:Nat} (hf:fdB p=true) (hn:n≤N) (hN:N≤1048576):∀ (d c:Nat) (m a:Rows) (r:Nat),c+d=n→okM p N m→okM p q a→m.length≤1048576→a.length=m.length→r≤m.length →
  nB (qR p (n:Int)) (m,a,(c:Int),(r:Int))=some ((yB p d c m a r).1,(yB p d c m a r).2.1,((yB p d c m a r).2.2:Int))
 | 0,c,m,a,r,hc,h,ha,hL,hl,hr=>by
  refine kF ?_
  unfold qR
  exact bnd (a:=false) (stp (cFW (dF (by dsimp only;omega)) rfl)) (cFW rfl rfl)
 | d+1,c,m,a,r,hc,h,ha,hL,hl,hr=>by
  unfold yB
  by_cases hrl:r<m.length
  ·
   rw [if_pos hrl]
   have hs:=Ix_ hf h ha hn hN hL hl hrl (show c<n by omega)
   obtain ⟨s1,s2,s3⟩:=zI m c (m.length-r) r (by omega)
   split
   ·
    rename_i hk
    rw [if_pos hk] at hs
    rw [qG hs]
    exact Ax_ hf hn hN d (c+1) m a r (by omega) h ha hL hl hr
   ·
    rename_i hk
    rw [if_neg hk] at hs
    rw [qG hs]
    have hkl:scanN m c (m.length-r) r<m.length:=by omega
    exact Ax_ hf hn hN d (c+1) _ _ (r+1) (by omega) (fH (aC hf).1 h hrl hkl) (fH (aC hf).1 ha (by omega) (by omega)) (by rw [nE];exact hL) (by rw [nE,nE];exact hl) (by rw [nE];omega)
  ·
   rw [if_neg hrl]
   refine kF ?_
   unfold qR
   exact bnd (a:=false) (stp (cTW (dT (by dsimp only;omega)) (stp (by rw [dF (by dsimp only;omega)])))) (cFW rfl rfl)
theorem iO {p:Int}{N q:Nat} (hp:2≤p):∀ (d c:Nat) (m a:Rows) (r:Nat),okM p N m→okM p q a→a.length=m.length→r≤m.length →
  okM p N (yB p d c m a r).1∧okM p q (yB p d c m a r).2.1∧(yB p d c m a r).1.length=m.length∧(yB p d c m a r).2.1.length=m.length∧r≤(yB p d c m a r).2.2∧(yB p d c m a r).2.2≤m.length∧(yB p d c m a r).2.2≤r+d
 | 0,c,m,a,r,h,ha,hl,hr=>⟨h,ha,rfl,hl,Nat.le_refl _,hr,by simp [yB]⟩
 | d+1,c,m,a,r,h,ha,hl,hr=>by
  unfold yB
  by_cases hrl:r<m.length
  ·
   rw [if_pos hrl]
   obtain ⟨s1,s2,s3⟩:=zI m c (m.length-r) r (by omega)
   split
   ·
    obtain ⟨k1,k2,k3,k4,k5,k6,k7⟩:=iO hp d (c+1) m a r h ha hl hr
    exact ⟨k1,k2,k3,k4,k5,k6,by omega⟩
   ·
    have hkl:scanN m c (m.length-r) r<m.length:=by omega
    obtain ⟨k1,k2,k3,k4,k5,k6,k7⟩:=iO hp d (c+1) (tB p c m m r (scanN m c (m.length-r) r)) (tB p c m a r (scanN m c (m.length-r) r)) (r+1) (fH hp h hrl hkl) (fH hp ha (by omega) (by omega)) (by rw [nE,nE];exact hl) (by rw [nE];omega)
    rw [nE] at k3 k4 k6
    exact ⟨k1,k2,k3,k4,by omega,k6,by omega⟩
  · rw [if_neg hrl];exact ⟨h,ha,rfl,hl,Nat.le_refl _,hr,Nat.le_add_right _ _⟩
def cC (p:Int) (n:Nat) (m:Rows):Rows:=(yB p n 0 m m 0).1.take (yB p n 0 m m 0).2.2
theorem wQ (p:Int):∀ (d c:Nat) (m a b:Rows) (r:Nat),(yB p d c m a r).1=(yB p d c m b r).1∧(yB p d c m a r).2.2=(yB p d c m b r).2.2
 | 0,_,_,_,_,_=>⟨rfl,rfl⟩
 | d+1,c,m,a,b,r=>by
  unfold yB
  split
  ·
   split
   · exact wQ p d (c+1) m a b r
   · exact wQ p d (c+1) _ _ _ (r+1)
  · exact ⟨rfl,rfl⟩
theorem CT_ {p:Int}{n N q:Nat}{m a:Rows} (hf:fdB p=true) (hn:n≤N) (hN:N≤1048576) (h:okM p N m) (ha:okM p q a) (hL:m.length≤1048576) (hl:a.length=m.length) :
  iT p m (n:Int) a=some ((yB p n 0 m a 0).1,(yB p n 0 m a 0).2.1,((yB p n 0 m a 0).2.2:Int)):=
 bnd (Ax_ hf hn hN n 0 m a 0 (by omega) h ha hL hl (by omega)) rfl
theorem Fi_ {α:Type}{l:List α}{k:Nat} (h:k≤l.length):dB l 0 (k:Int)=some (l.take k):=by
 unfold dB
 rw [if_pos (by omega)]
 simp
theorem jV {p:Int}{n N:Nat}{m:Rows} (hf:fdB p=true) (hn:n≤N) (hN:N≤1048576) (h:okM p N m) (hL:m.length≤1048576):oT p m (n:Int)=some (cC p n m):=by
 have hm:bB=1099511627776:=rfl
 have ha:okM p 0 (List.replicate m.length ([]:List Int)):=by
  intro x hx
  rw [List.eq_of_mem_replicate hx]
  exact ⟨rfl,fun y hy=>by cases hy⟩
 obtain ⟨k1,_,k3,_,_,k6,_⟩:=iO (aC hf).1 n 0 m (List.replicate m.length []) 0 h ha (by simp) (by omega)
 obtain ⟨e1,e2⟩:=wQ p n 0 m (List.replicate m.length []) m 0
 refine bnd (E6_ (by omega) (fun r hr=>by have:=(h r hr).1;omega)) (bnd (mH _ (by omega)) (bnd (CT_ hf hn hN h ha hL (by simp)) ?_))
 unfold cC
 rw [←e1,← e2]
 exact bnd (Fi_ (by dsimp only;omega)) rfl
theorem bR {p:Int}{n N:Nat}{m:Rows} (hf:fdB p=true) (hn:n≤N) (hN:N≤1048576) (h:okM p N m) (hL:m.length≤1048576):aQ p (n:Int) m=some (cC p n m):=by
 have hm:bB=1099511627776:=rfl
 obtain ⟨k1,_,k3,_,_,k6,_⟩:=iO (aC hf).1 n 0 m m 0 h h rfl (by omega)
 have hcopy:forS (fun (k2:Nat) (s55:List (List Int))=>
   (idxO m ((k2:Nat):Int)).bind fun a72=>
   (yI a72).bind fun y76=>
   (nA s55 [y76]).bind fun a84=>
   some a84) m.length 0 []=some m:=by
  refine (eE (fun r=>r) m [] (by simp;omega) ?_).trans (by simp)
  intro j x s hx hs
  have hj:j<m.length:=(List.getElem?_eq_some_iff.1 hx).1
  have h1:=(h x (oC hx)).1
  exact bnd (kA hx) (bnd (own_ (by omega)) (bnd (iB (by simp at hs ⊢;omega)) rfl))
 refine bnd hcopy (bnd (Aq_ hf hn hN n 0 m m 0 (by omega) h hL (by omega)) ?_)
 exact bnd (Fi_ (by dsimp only;omega)) rfl
theorem A9_ {p:Int}{n N:Nat}{m:Rows} (hp:2≤p) (h:okM p N m):okM p N (cC p n m)∧(cC p n m).length≤m.length∧(cC p n m).length≤n:=by
 obtain ⟨k1,_,k3,_,_,k6,k7⟩:=iO hp n 0 m m 0 h h rfl (by omega)
 unfold cC
 refine ⟨fun r hr=>k1 r (List.mem_of_mem_take hr),?_,?_⟩
 · rw [List.length_take];omega
 · rw [List.length_take];omega
end Go.Proofs.YtemcakhocdchiaaGreatDoor
namespace Go.Proofs.YtemcakhocdchiaaGreatDoor
theorem Bn_ {α τ:Type} [DecidableEq α] {f:Nat→Unit→Option (Unit⊕τ)}{t:τ}:∀ (l m:List α) (k:Nat),l.length=m.length→(∀ j a b,l[j]?=some a→m[j]?=some b→f (k+j) ()=some (if a=b then .inl () else .inr t))→dC f l.length k ()=some (if l=m then .inl () else .inr t)
 | [],[],k,_,_=>rfl
 | [],_::_,_,h,_=>by simp at h
 | _::_,[],_,h,_=>by simp at h
 | a::l,b::m,k,hl,h=>by
  show (f k ()).bind _=_
  have h0:f k ()=_:=h 0 a b rfl rfl
  rw [h0]
  by_cases hab:a=b
  ·
   rw [if_pos hab]
   have:=Bn_ l m (k+1) (by simpa using hl) (fun j x y hx hy=>by
    have:=h (j+1) x y (by simpa using hx) (by simpa using hy)
    rw [show k+1+j=k+(j+1) by omega];exact this)
   show dC f l.length (k+1) ()=_
   rw [this]
   by_cases h2:l=m
   · rw [if_pos h2,if_pos (by rw [hab,h2])]
   · rw [if_neg h2,if_neg (by intro h3;exact h2 (List.cons.inj h3).2)]
  · rw [if_neg hab,if_neg (by intro h3;exact hab (List.cons.inj h3).1)];rfl
theorem l1Same_ (a b:List Int):lZ a b=some (decide (a=b)):=by
 refine stp ?_
 by_cases h:a.length=b.length
 ·
  refine cFW (nT (dT (by omega))) (sqW (Bn_ a b 0 h ?_ (t:=false)) ?_)
  ·
   intro j x y hx hy
   rw [Nat.zero_add]
   refine bnd (kA hx) (bnd (kA hy) (stp ?_))
   by_cases h2:x=y
   · rw [if_pos h2];exact cFW (nT (dT h2)) rfl
   · rw [if_neg h2];exact cTW (nF (dF h2)) rfl
  ·
   by_cases h2:a=b
   · rw [if_pos h2,dT h2];rfl
   · rw [if_neg h2,dF h2];rfl
 · rw [show decide (a=b)=false from dF (fun h2=>h (by rw [h2]))];exact cTW (nF (dF (by omega))) rfl
end Go.Proofs.YtemcakhocdchiaaGreatDoor
namespace Go.Proofs.YtemcakhocdchiaaGreatDoor
def leadN:List Int→Nat
 | []=>0
 | x::xs=>if x=0 then leadN xs+1 else 0
theorem DW_:∀ r:List Int,leadN r≤r.length
 | []=>Nat.le_refl _
 | x::xs=>by
  unfold leadN;have:=DW_ xs
  split
  · simp only [List.length_cons];omega
  · omega
theorem E0_ (x:Int) (xs:List Int):el (x::xs) 0=x:=by unfold el;simp
theorem E1_ (x:Int) (xs:List Int) (j:Nat):el (x::xs) (j+1)=el xs j:=by unfold el;simp
theorem el_out {r:List Int}{j:Nat} (h:r.length≤j):el r j=0:=by unfold el;rw [List.getD_eq_getElem?_getD,List.getElem?_eq_none h];rfl
theorem uO:∀ (r:List Int) (j:Nat),j<leadN r→el r j=0
 | [],j,h=>by simp [leadN] at h
 | x::xs,j,h=>by
  unfold leadN at h
  split at h
  ·
   rename_i h0
   cases j with
   | zero=>rw [E0_];exact h0
   | succ j=>rw [E1_];exact uO xs j (by omega)
  · omega
theorem sV:∀ (r:List Int),leadN r<r.length→el r (leadN r)≠0
 | [],h=>by simp at h
 | x::xs,h=>by
  unfold leadN at h ⊢
  split at h
  ·
   rename_i h0
   rw [if_pos h0,E1_]
   exact sV xs (by simpa using h)
  ·
   rename_i h0
   rw [if_neg h0,E0_];exact h0
theorem AQ_ {r:List Int}{k:Nat} (hz:∀ j,j<k→el r j=0) (hk:el r k≠0):leadN r=k:=by
 rcases Nat.lt_trichotomy (leadN r) k with h | h | h
 ·
  have h1:=hz _ h
  rcases Nat.lt_or_ge (leadN r) r.length with h2 | h2
  · exact absurd h1 (sV r h2)
  ·
   have:el r k=0:=el_out (by omega)
   exact absurd this hk
 · exact h
 · exact absurd (uO r k h) hk
theorem Ez_ {r:List Int} (hr:r.length≤9223372036854775806):uT r=some (leadN r:Int):=by
 have hle:=DW_ r
 refine bnd (dK (fun j=>(j:Int)) (t:=(leadN r:Int)) (leadN r) ?_ ?_) rfl
 ·
  intro j hj
  have hjl:j<r.length:=by omega
  refine bnd (a:=true) (stp (cTW (dT (by omega)) (bnd (oE hjl) (stp (by rw [uO r j hj];rfl))))) (cTW rfl (bnd (aB (by omega) (by omega)) rfl))
 ·
  by_cases h:leadN r<r.length
  · refine bnd (a:=false) (stp (cTW (dT (by omega)) (bnd (oE h) (stp (by rw [dF (sV r h)]))))) (cFW rfl rfl)
  · exact bnd (a:=false) (stp (cFW (dF (by omega)) rfl)) (cFW rfl rfl)
theorem gS {a b:List Int} (hl:a.length=b.length) (h:∀ j,j<a.length→el a j=el b j):a=b:=by
 apply List.ext_getElem?
 intro j
 by_cases hj:j<a.length
 · rw [pK hj,pK (by omega),h j hj]
 · rw [List.getElem?_eq_none (by omega),List.getElem?_eq_none (by omega)]
theorem Fz_ {a b:Rows} (hl:a.length=b.length) (h:∀ j,j<a.length→gr a j=gr b j):a=b:=by
 apply List.ext_getElem?
 intro j
 by_cases hj:j<a.length
 · rw [mF hj,mF (by omega),h j hj]
 · rw [List.getElem?_eq_none (by omega),List.getElem?_eq_none (by omega)]
theorem yR {g:Nat→Int→Int}{r:List Int}{j:Nat} (h:j<r.length):el (rD g r) j=g j (el r j):=by
 have h1:=pK (r:=rD g r) (c:=j) (by rw [oV];exact h)
 unfold rD at h1
 rw [List.getElem?_mapIdx,pK h] at h1
 exact (Option.some.inj h1).symm
theorem bJ {m:Rows}{r k i:Nat} (hr:r<m.length) (hk:k<m.length):gr (zB m r k) i=if i=k then gr m r else if i=r then gr m k else gr m i:=by
 unfold zB
 rw [iJ (by rw [List.length_set];exact hk)]
 by_cases h:k=i
 · rw [if_pos h,if_pos h.symm]
 ·
  rw [if_neg h,if_neg (Ne.symm h),iJ hr]
  by_cases h2:r=i
  · rw [if_pos h2,if_pos h2.symm]
  · rw [if_neg h2,if_neg (Ne.symm h2)]
theorem uR {p:Int}{c:Nat}{m a:Rows}{r k i:Nat} (hr:r<a.length):gr (mB p c m a r k) i=if i=r then rD (iH p (yE p (el (gr (zB m r k) r) c))) (gr (zB a r k) r) else gr (zB a r k) i:=by
 unfold mB nK
 rw [iJ (by rw [sG];exact hr)]
 by_cases h:r=i
 · rw [if_pos h,if_pos h.symm]
 · rw [if_neg h,if_neg (Ne.symm h)]
structure RedI (c r:Nat) (m:Rows):Prop where
 le:r≤m.length
 lt:∀ i,i<r→leadN (gr m i)<c
 one:∀ i,i<r→el (gr m i) (leadN (gr m i))=1
 zero:∀ i j,i<r→j<m.length→i≠j→el (gr m j) (leadN (gr m i))=0
 inc:∀ i j,i<j→j<r→leadN (gr m i)<leadN (gr m j)
 rest:∀ i,r≤i→i<m.length→∀ q,q<c→el (gr m i) q=0
theorem RedI.start (m:Rows):RedI 0 0 m:=⟨Nat.zero_le _,fun _ h=>by omega,fun _ h=>by omega,fun _ _ h=>by omega,fun _ _ _ h=>by omega,fun _ _ _ _ h=>by omega⟩
theorem RedI.skip {c r:Nat}{m:Rows} (h:RedI c r m) (hz:∀ i,r≤i→i<m.length→el (gr m i) c=0):RedI (c+1) r m:=
 ⟨h.le,fun i hi=>by have:=h.lt i hi;omega,h.one,h.zero,h.inc,fun i h1 h2 q hq=>by
  rcases Nat.lt_or_ge q c with h3 | h3
  · exact h.rest i h1 h2 q h3
  · rw [show q=c by omega];exact hz i h1 h2⟩
theorem CS_ (m:Rows) (c:Nat):∀ (d k:Nat),∀ i,k≤i→i<scanN m c d k→el (gr m i) c=0
 | 0,k,i,h1,h2=>by simp only [scanN] at h2;omega
 | d+1,k,i,h1,h2=>by
  unfold scanN at h2
  split at h2
  ·
   rename_i h0
   rcases Nat.lt_or_ge k i with h3 | h3
   · exact CS_ m c d (k+1) i h3 h2
   · rw [show i=k by omega];exact h0
  · omega
theorem zO {p x:Int} (h:0≤x∧x<p):x % p=x:=Int.emod_eq_of_lt h.1 h.2
theorem step_el {p:Int}{c r k N:Nat}{m:Rows} (hf:fdB p=true) (h:okM p N m) (hr:r<m.length) (hk:k<m.length) (hc:c<N) (hne:el (gr m k) c≠0) :
  let s:=zB m r k
  let iv:=yE p (el (gr m k) c)
  (∀ q,q<N→el (gr (tB p c m m r k) r) q=(el (gr m k) q*iv) % p)∧(el (gr m k) c*iv) % p=1 ∧
  ∀ i,i<m.length→i≠r→∀ q,q<N→el (gr (tB p c m m r k) i) q=(el (gr s i) q-el (gr s i) c*((el (gr m k) q*iv) % p)) % p:=by
 intro s iv
 have hp:=aC hf
 have hel:=kI h hk hc
 obtain ⟨_,i1,i2,i3⟩:=oR hf (x:=el (gr m k) c) ⟨by omega,hel.2⟩
 have hsr:gr s r=gr m k:=mO hr hk
 have hsl:s.length=m.length:=sG m r k
 have hso:okM p N s:=bN h hr hk
 have hpl:(mB p c m m r k).length=m.length:=nO p c m m r k
 have hpr:gr (mB p c m m r k) r=rD (iH p iv) (gr m k):=by
  rw [uR hr,if_pos rfl]
  show rD (iH p (yE p (el (gr s r) c))) (gr s r)=_
  rw [hsr]
 have hrow:=kC h hk
 have hpe:∀ q,q<N→el (gr (mB p c m m r k) r) q=(el (gr m k) q*iv) % p:=fun q hq=>by
  rw [hpr,yR (by omega)];rfl
 have hst:∀ i,i<m.length→gr (tB p c m m r k) i=vB p c r (mB p c m m r k) (mB p c m m r k) i (gr (mB p c m m r k) i):=fun i hi=>Ee_ (by rw [hpl];exact hi)
 refine ⟨fun q hq=>?_,i1,fun i hi hir q hq=>?_⟩
 ·
  rw [hst r hr]
  unfold vB
  rw [if_pos (.inl rfl)]
  exact hpe q hq
 ·
  rw [hst i hi]
  have hpi:gr (mB p c m m r k) i=gr s i:=by rw [uR hr,if_neg hir]
  have hsi:=kC hso (i:=i) (by rw [hsl];exact hi)
  have hb:=kI hso (i:=i) (by rw [hsl];exact hi) hq
  unfold vB
  by_cases h0:el (gr (mB p c m m r k) i) c=0
  ·
   rw [if_pos (.inr h0),hpi]
   rw [hpi] at h0
   rw [h0,Int.zero_mul,Int.sub_zero,zO hb]
  ·
   rw [if_neg (by intro h1;rcases h1 with h1 | h1;exact hir h1;exact h0 h1)]
   rw [yR (by rw [hpi];omega)]
   unfold gF
   rw [hpi,hpe q hq]
theorem RedI.step {p:Int}{c r N:Nat}{m:Rows} (hf:fdB p=true) (ho:okM p N m) (h:RedI c r m) (hr:r<m.length) (hc:c<N) (hk:scanN m c (m.length-r) r≠m.length) :
  RedI (c+1) (r+1) (tB p c m m r (scanN m c (m.length-r) r)):=by
 obtain ⟨s1,s2,s3⟩:=zI m c (m.length-r) r (by omega)
 have hp:=aC hf
 generalize scanN m c (m.length-r) r=k at s1 s2 s3 hk ⊢
 have hkl:k<m.length:=by omega
 have hne:=s3 hkl
 obtain ⟨e1,e2,e3⟩:=step_el hf ho hr hkl hc hne
 have hsl:(tB p c m m r k).length=m.length:=nE p c m m r k
 have hz:∀ q,q<c→(el (gr m k) q*yE p (el (gr m k) c)) % p=0:=fun q hq=>by
  rw [h.rest k (by omega) hkl q hq,Int.zero_mul];exact Int.zero_emod p
 have hswap:∀ i,i<r→gr (zB m r k) i=gr m i:=fun i hi=>by
  rw [bJ hr hkl,if_neg (by omega),if_neg (by omega)]
 have hrow:∀ i,i<r→∀ q,q<c→el (gr (tB p c m m r k) i) q=el (gr m i) q:=fun i hi q hq=>by
  have hb:=kI ho (i:=i) (by omega) (c:=q) (by omega)
  rw [e3 i (by omega) (by omega) q (by omega),hswap i hi,hz q hq,Int.mul_zero,Int.sub_zero,zO hb]
 have hlead:∀ i,i<r→leadN (gr (tB p c m m r k) i)=leadN (gr m i):=fun i hi=>by
  have hl:=h.lt i hi
  refine AQ_ (fun j hj=>?_) ?_
  · rw [hrow i hi j (by omega)];exact uO _ j hj
  · rw [hrow i hi _ hl,h.one i hi];omega
 have hnew:leadN (gr (tB p c m m r k) r)=c:=by
  refine AQ_ (fun j hj=>?_) ?_
  · rw [e1 j (by omega)];exact hz j hj
  · rw [e1 c hc,e2];omega
 refine ⟨by omega,fun i hi=>?_,fun i hi=>?_,fun i j hi hj hij=>?_,fun i j hij hj=>?_,fun i h1 h2 q hq=>?_⟩
 ·
  rcases Nat.lt_or_ge i r with h1 | h1
  · rw [hlead i h1];have:=h.lt i h1;omega
  · rw [show i=r by omega,hnew];omega
 ·
  rcases Nat.lt_or_ge i r with h1 | h1
  · rw [hlead i h1,hrow i h1 _ (h.lt i h1)];exact h.one i h1
  · rw [show i=r by omega,hnew,e1 c hc,e2]
 ·
  rw [hsl] at hj
  rcases Nat.lt_or_ge i r with h1 | h1
  ·
   have hl:=h.lt i h1
   rw [hlead i h1]
   by_cases hjr:j=r
   · rw [hjr,e1 _ (by omega)];exact hz _ hl
   ·
    rw [e3 j hj hjr _ (by omega),hz _ hl,Int.mul_zero,Int.sub_zero]
    have hs:el (gr (zB m r k) j) (leadN (gr m i))=0:=by
     rw [bJ hr hkl]
     by_cases hjk:j=k
     · rw [if_pos hjk];exact h.zero i r h1 hr (by omega)
     · rw [if_neg hjk,if_neg hjr];exact h.zero i j h1 hj hij
    rw [hs];exact Int.zero_emod p
  ·
   have hi2:i=r:=by omega
   subst hi2
   rw [hnew,e3 j hj (Ne.symm hij) c hc,e2,Int.mul_one,Int.sub_self];exact Int.zero_emod p
 ·
  rcases Nat.lt_or_ge j r with h1 | h1
  · rw [hlead i (by omega),hlead j h1];exact h.inc i j hij h1
  · rw [show j=r by omega,hnew,hlead i (by omega)];exact h.lt i (by omega)
 ·
  rw [hsl] at h2
  rw [e3 i h2 (by omega) q (by omega)]
  rcases Nat.lt_or_ge q c with h3 | h3
  ·
   rw [hz q h3,Int.mul_zero,Int.sub_zero]
   have hs:el (gr (zB m r k) i) q=0:=by
    rw [bJ hr hkl]
    split
    · exact h.rest r (Nat.le_refl _) hr q h3
    ·
     split
     · exact h.rest k s1 hkl q h3
     · exact h.rest i (by omega) h2 q h3
   rw [hs];exact Int.zero_emod p
  · rw [show q=c by omega,e2,Int.mul_one,Int.sub_self];exact Int.zero_emod p
theorem vQ {p:Int}{N:Nat} (hf:fdB p=true):∀ (d c:Nat) (m:Rows) (r:Nat),c+d≤N→okM p N m→RedI c r m→RedI (c+d) (yB p d c m m r).2.2 (yB p d c m m r).1
 | 0,c,m,r,_,_,h=>h
 | d+1,c,m,r,hN,ho,h=>by
  unfold yB
  by_cases hr:r<m.length
  ·
   rw [if_pos hr]
   obtain ⟨s1,s2,s3⟩:=zI m c (m.length-r) r (by omega)
   split
   ·
    rename_i hk
    have:=vQ hf d (c+1) m r (by omega) ho (h.skip (fun i h1 h2=>CS_ m c (m.length-r) r i h1 (by omega)))
    rw [show c+(d+1)=c+1+d by omega];exact this
   ·
    rename_i hk
    have:=vQ hf d (c+1) _ (r+1) (by omega) (fH (aC hf).1 ho hr (by omega)) (h.step hf ho hr (by omega) hk)
    rw [show c+(d+1)=c+1+d by omega];exact this
  ·
   rw [if_neg hr]
   exact (⟨h.le,fun i hi=>by have:=h.lt i hi;omega,h.one,h.zero,h.inc,fun i h1 h2=>by have:=h.le;omega⟩:RedI (c+(d+1)) r m)
structure Red (p:Int) (n:Nat) (b:Rows):Prop where
 ok:okM p n b
 lt:∀ i,i<b.length→leadN (gr b i)<n
 one:∀ i,i<b.length→el (gr b i) (leadN (gr b i))=1
 zero:∀ i j,i<b.length→j<b.length→i≠j→el (gr b j) (leadN (gr b i))=0
 inc:∀ i j,i<j→j<b.length→leadN (gr b i)<leadN (gr b j)
theorem iK {m:Rows}{k i:Nat} (h:i<k):gr (m.take k) i=gr m i:=by
 unfold gr;rw [List.getD_eq_getElem?_getD,List.getD_eq_getElem?_getD,List.getElem?_take,if_pos h]
theorem tG {p:Int}{n:Nat}{m:Rows} (hf:fdB p=true) (h:okM p n m):Red p n (cC p n m):=by
 have h1:=vQ hf n 0 m 0 (by omega) h (RedI.start m)
 have h2:=(A9_ (n:=n) (aC hf).1 h).1
 rw [Nat.zero_add] at h1
 unfold cC at h2 ⊢
 generalize yB p n 0 m m 0=t at h1 h2
 have hl:(t.1.take t.2.2).length=t.2.2:=by rw [List.length_take];have:=h1.le;omega
 refine ⟨h2,fun i hi=>?_,fun i hi=>?_,fun i j hi hj hij=>?_,fun i j hij hj=>?_⟩
 · rw [hl] at hi;rw [iK hi];exact h1.lt i hi
 · rw [hl] at hi;rw [iK hi];exact h1.one i hi
 · rw [hl] at hi hj;rw [iK hi,iK hj];exact h1.zero i j hi (by have:=h1.le;omega) hij
 · rw [hl] at hj;rw [iK hj,iK (by omega)];exact h1.inc i j hij hj
theorem Ex_ (a b:Rows):tM a b=some (decide (a=b)):=by
 refine stp ?_
 by_cases h:a.length=b.length
 ·
  refine cFW (nT (dT (by omega))) (sqW (Bn_ a b 0 h ?_ (t:=false)) ?_)
  ·
   intro j x y hx hy
   rw [Nat.zero_add]
   refine bnd (kA hx) (bnd (kA hy) (bnd (l1Same_ x y) (stp ?_)))
   by_cases h2:x=y
   · rw [if_pos h2];exact cFW (nT (dT h2)) rfl
   · rw [if_neg h2];exact cTW (nF (dF h2)) rfl
  ·
   by_cases h2:a=b
   · rw [if_pos h2,dT h2];rfl
   · rw [if_neg h2,dF h2];rfl
 · rw [show decide (a=b)=false from dF (fun h2=>h (by rw [h2]))];exact cTW (nF (dF (by omega))) rfl
end Go.Proofs.YtemcakhocdchiaaGreatDoor
namespace Go.Proofs.YtemcakhocdchiaaGreatDoor
def sg:Nat→(Nat→Int)→Int
 | 0,_=>0
 | k+1,f=>sg k f+f k
theorem oD {f g:Nat→Int}:∀ {k:Nat},(∀ i,i<k→f i=g i)→sg k f=sg k g
 | 0,_=>rfl
 | k+1,h=>by
  show sg k f+f k=sg k g+g k
  rw [oD (fun i hi=>h i (by omega)),h k (by omega)]
theorem eN {f:Nat→Int}{k:Nat} (h:∀ i,i<k→f i=0):sg k f=0:=by
 induction k with
 | zero=>rfl
 | succ k ih=>
  show sg k f+f k=0
  rw [ih (fun i hi=>h i (by omega)),h k (by omega)];rfl
theorem jI {f:Nat→Int}{k i0:Nat} (h0:i0<k) (h:∀ i,i<k→i≠i0→f i=0):sg k f=f i0:=by
 induction k with
 | zero=>omega
 | succ k ih=>
  show sg k f+f k=f i0
  by_cases hk:k=i0
  ·
   subst hk
   rw [eN (fun i hi=>h i (by omega) (by omega)),Int.zero_add]
  · rw [ih (by omega) (fun i hi hn=>h i (by omega) hn),h k (by omega) hk,Int.add_zero]
theorem tW (f g:Nat→Int):∀ k,sg k (fun i=>f i+g i)=sg k f+sg k g
 | 0=>rfl
 | k+1=>by
  show sg k (fun i=>f i+g i)+(f k+g k)=(sg k f+f k)+(sg k g+g k)
  rw [tW f g k];omega
theorem sg_mul (c:Int) (f:Nat→Int):∀ k,sg k (fun i=>c*f i)=c*sg k f
 | 0=>by show (0:Int)=c*0;rw [Int.mul_zero]
 | k+1=>by
  show sg k (fun i=>c*f i)+c*f k=c*(sg k f+f k)
  rw [sg_mul c f k,Int.mul_add]
theorem cW (f:Nat→Nat→Int) (n:Nat):∀ k,sg k (fun i=>sg n (fun j=>f i j))=sg n (fun j=>sg k (fun i=>f i j))
 | 0=>by
  show (0:Int)=_
  rw [eN (k:=n) (f:=fun j=>sg 0 fun i=>f i j) (fun _ _=>rfl)]
 | k+1=>by
  show sg k (fun i=>sg n (fun j=>f i j))+sg n (fun j=>f k j)=sg n (fun j=>sg k (fun i=>f i j)+f k j)
  rw [cW f n k,tW]
theorem mK {p:Int}{f g:Nat→Int}:∀ {k:Nat},(∀ i,i<k→f i % p=g i % p)→sg k f % p=sg k g % p
 | 0,_=>rfl
 | k+1,h=>by
  show (sg k f+f k) % p=(sg k g+g k) % p
  rw [Int.add_emod,mK (fun i hi=>h i (by omega)),h k (by omega),← Int.add_emod]
theorem Eo_ (p a b:Int):(a % p+b) % p=(a+b) % p:=by rw [Int.add_emod,Int.emod_emod_of_dvd _ (Int.dvd_refl p),← Int.add_emod]
theorem mod_mod (p a:Int):a % p % p=a % p:=Int.emod_emod_of_dvd _ (Int.dvd_refl p)
theorem lR (p a b:Int):(a % p*b) % p=(a*b) % p:=by rw [Int.mul_emod,mod_mod,← Int.mul_emod]
theorem mul_mod2 (p a b:Int):(a*(b % p)) % p=(a*b) % p:=by rw [Int.mul_emod,mod_mod,← Int.mul_emod]
theorem EP_ (x:List Int) (xs:Rows):gr (x::xs) 0=x:=by unfold gr;simp
theorem Bm_ (x:List Int) (xs:Rows) (j:Nat):gr (x::xs) (j+1)=gr xs j:=by unfold gr;simp
theorem eP (n j:Nat):el (List.replicate n 0) j=0:=by
 unfold el;rw [List.getD_eq_getElem?_getD,List.getElem?_replicate];split <;> rfl
theorem D7_ {p:Int}{n:Nat} (hp:2≤p):∀ (rows:Rows) (cs:List Int) (acc:List Int),okR p n acc→bM p n rows→okR p n (pF (fun acc row c=>sE p c acc row) rows cs acc)
 | [],cs,acc,ha,_=>by cases cs <;> exact ha
 | r::rows,[],acc,ha,_=>ha
 | r::rows,c::cs,acc,ha,hr=>by
  have h1:=hr r (List.mem_cons_self ..)
  exact D7_ hp rows cs _ ⟨by rw [A3_ (by rw [h1.1,ha.1]),ha.1],rW hp c r acc⟩ (fun x hx=>hr x (List.mem_cons_of_mem _ hx))
theorem vV {p:Int}{n:Nat} (hp:2≤p){rows:Rows}{cs:List Int} (hr:bM p n rows):okR p n (lD p n rows cs):=D7_ hp rows cs _ (AM_ hp n) hr
abbrev Rel:=Int×Int×Rows
structure RlOk (p:Int) (l r:Nat) (R:Rel):Prop where
 hf:fdB p=true
 left:R.1=(l:Int)
 right:R.2.1=(r:Int)
 n24:l+r≤24
 red:Red p (l+r) R.2.2
 len:R.2.2.length≤l+r
end Go.Proofs.YtemcakhocdchiaaGreatDoor
namespace Go.Proofs.YtemcakhocdchiaaGreatDoor
set_option linter.unusedVariables false
def gE (p:Int) (n:Nat) (m:Rows) (v:List Int):Prop:=∃ x:Nat→Int,∀ j,j<n→el v j % p=sg m.length (fun i=>x i*el (gr m i) j) % p
def Indep (p:Int) (n:Nat) (m:Rows):Prop:=∀ x:Nat→Int,(∀ j,j<n→sg m.length (fun i=>x i*el (gr m i) j) % p=0)→∀ i,i<m.length→x i % p=0
def sD (p:Int) (n:Nat) (a b:Rows):Prop:=∀ i,i<a.length→gE p n b (gr a i)
theorem EA_ (c:Int) (f:Nat→Int) (k:Nat):sg k (fun i=>f i*c)=sg k f*c:=by
 rw [oD (g:=fun i=>c*f i) (fun i _=>Int.mul_comm _ _),sg_mul,Int.mul_comm]
theorem Fj_ (f:Nat→Int) (k:Nat):sg k (fun i=>- f i) = - sg k f:=by
 rw [oD (g:=fun i=>(-1)*f i) (fun i _=>by omega),sg_mul];omega
theorem DH_ {f:Nat→Int}{k r:Nat} (h:r<k):sg k f=sg k (fun i=>if i=r then 0 else f i)+f r:=by
 have h1:sg k (fun i=>if i=r then f i else 0)=f r:=by
  rw [jI h (fun i _ hn=>if_neg hn),if_pos rfl]
 rw [←h1,← tW]
 exact oD fun i _=>by by_cases hi:i=r <;> simp [hi]
theorem Ag_ {p a b:Int} (h:(a-b) % p=0):a % p=b % p:=by
 have h2:a=(a-b)+b:=by omega
 rw [h2,Int.add_emod,h,Int.zero_add,mod_mod]
theorem Cx_ {p a b:Int} (h:a % p=0):(a*b) % p=0:=by rw [←lR,h,Int.zero_mul];exact Int.zero_emod p
theorem GP_ {p a b:Int} (h:b % p=0):(a*b) % p=0:=by rw [Int.mul_comm];exact Cx_ h
theorem vF {p:Int}{n:Nat}{m:Rows}{i:Nat} (h:i<m.length):gE p n m (gr m i):=by
 refine ⟨fun t=>if t=i then 1 else 0,fun j _=>?_⟩
 rw [jI h (fun t _ hn=>by show (if t=i then (1:Int) else 0)*_=0;rw [if_neg hn,Int.zero_mul])]
 show _=(if i=i then (1:Int) else 0)*_ % p
 rw [if_pos rfl,Int.one_mul]
theorem cO {p:Int}{n:Nat}{a b:Rows}{v:List Int} (hab:sD p n a b) (hv:gE p n a v):gE p n b v:=by
 obtain ⟨x,hx⟩:=hv
 have hY:∃ Y:Nat→Nat→Int,∀ i,i<a.length→∀ j,j<n→el (gr a i) j % p=sg b.length (fun t=>Y i t*el (gr b t) j) % p:=by
  refine ⟨fun i=>if h:i<a.length then Classical.choose (hab i h) else fun _=>0,fun i hi=>?_⟩
  simp only [dif_pos hi]
  exact Classical.choose_spec (hab i hi)
 obtain ⟨Y,hY⟩:=hY
 refine ⟨fun t=>sg a.length (fun i=>x i*Y i t),fun j hj=>?_⟩
 rw [hx j hj]
 have e:sg b.length (fun t=>sg a.length (fun i=>x i*Y i t)*el (gr b t) j)=sg a.length (fun i=>x i*sg b.length (fun t=>Y i t*el (gr b t) j)):=by
  rw [oD (g:=fun t=>sg a.length (fun i=>x i*Y i t*el (gr b t) j)) (fun t _=>(EA_ _ _ _).symm),cW]
  refine oD fun i _=>?_
  rw [←sg_mul]
  exact oD fun t _=>Int.mul_assoc _ _ _
 rw [e]
 refine mK fun i hi=>?_
 rw [←mul_mod2,hY i hi j hj,mul_mod2]
theorem bU (p:Int) (n:Nat) (a:Rows):sD p n a a:=fun i hi=>vF hi
theorem uJ {p:Int}{n:Nat}{a b c:Rows} (h:sD p n a b) (k:sD p n b c):sD p n a c:=fun i hi=>cO k (h i hi)
theorem eU {p:Int}{n:Nat}{m:Rows}{u v w:List Int} (c d:Int) (hu:gE p n m u) (hv:gE p n m v) (h:∀ j,j<n→el w j % p=(c*el u j+d*el v j) % p):gE p n m w:=by
 obtain ⟨x,hx⟩:=hu
 obtain ⟨y,hy⟩:=hv
 refine ⟨fun i=>c*x i+d*y i,fun j hj=>?_⟩
 rw [h j hj,Int.add_emod,← mul_mod2,← mul_mod2 p d,hx j hj,hy j hj,mul_mod2,mul_mod2,← Int.add_emod,← sg_mul,← sg_mul,← tW]
 congr 1
 exact oD fun i _=>by rw [Int.add_mul,Int.mul_assoc,Int.mul_assoc]
theorem Ht_ {p:Int}{n:Nat}{m:Rows}{v:List Int} (h:∀ j,j<n→el v j % p=0):gE p n m v:=
 ⟨fun _=>0,fun j hj=>by rw [h j hj,eN (fun i _=>Int.zero_mul _)];exact (Int.zero_emod p).symm⟩
theorem H3_ {p:Int}{n:Nat}{m:Rows}{r k:Nat} (hr:r<m.length) (hk:k<m.length):sD p n (zB m r k) m∧sD p n m (zB m r k):=by
 have hl:=sG m r k
 constructor
 ·
  intro i hi
  rw [hl] at hi
  rw [bJ hr hk]
  split
  · exact vF hr
  ·
   split
   · exact vF hk
   · exact vF hi
 ·
  intro i hi
  by_cases h1:i=k
  ·
   subst h1
   have:=vF (p:=p) (n:=n) (m:=zB m r i) (i:=r) (by rw [hl];exact hr)
   rw [bJ hr hk] at this
   by_cases h2:r=i
   · subst h2;rw [if_pos rfl] at this;exact this
   · rw [if_neg h2,if_pos rfl] at this;exact this
  ·
   by_cases h2:i=r
   ·
    subst h2
    have:=vF (p:=p) (n:=n) (m:=zB m i k) (i:=k) (by rw [hl];exact hk)
    rw [bJ hr hk,if_pos rfl] at this;exact this
   ·
    have:=vF (p:=p) (n:=n) (m:=zB m r k) (i:=i) (by rw [hl];exact hi)
    rw [bJ hr hk,if_neg h1,if_neg h2] at this;exact this
theorem fV {p:Int}{c r k N q:Nat}{m a:Rows} (hf:fdB p=true) (h:okM p N m) (ha:okM p q a) (hl:a.length=m.length) (hr:r<m.length) (hk:k<m.length) (hc:c<N) (hne:el (gr m k) c≠0) :
  let iv:=yE p (el (gr m k) c)
  (el (gr m k) c*iv) % p=1∧(∀ j,j<q→el (gr (tB p c m a r k) r) j=(el (gr a k) j*iv) % p) ∧
  ∀ i,i<m.length→i≠r→∀ j,j<q→el (gr (tB p c m a r k) i) j=(el (gr (zB a r k) i) j-el (gr (zB m r k) i) c*el (gr (tB p c m a r k) r) j) % p:=by
 intro iv
 have hp:=aC hf
 have hel:=kI h hk hc
 obtain ⟨_,i1,i2,i3⟩:=oR hf (x:=el (gr m k) c) ⟨by omega,hel.2⟩
 have hra:r<a.length:=by omega
 have hka:k<a.length:=by omega
 have hsr:gr (zB m r k) r=gr m k:=mO hr hk
 have hsra:gr (zB a r k) r=gr a k:=mO hra hka
 have hso:okM p q (zB a r k):=bN ha hra hka
 have hpl:(mB p c m a r k).length=a.length:=nO p c m a r k
 have hpr:gr (mB p c m a r k) r=rD (iH p iv) (gr a k):=by
  rw [uR hra,if_pos rfl,hsr,hsra]
 have hrow:=kC ha hka
 have hpe:∀ j,j<q→el (gr (mB p c m a r k) r) j=(el (gr a k) j*iv) % p:=fun j hj=>by
  rw [hpr,yR (by omega)];rfl
 have hst:∀ i,i<m.length→gr (tB p c m a r k) i=vB p c r (mB p c m m r k) (mB p c m a r k) i (gr (mB p c m a r k) i):=fun i hi=>Ee_ (by rw [hpl];omega)
 have hstr:∀ j,j<q→el (gr (tB p c m a r k) r) j=(el (gr a k) j*iv) % p:=fun j hj=>by
  rw [hst r hr]
  unfold vB
  rw [if_pos (.inl rfl)]
  exact hpe j hj
 refine ⟨i1,hstr,fun i hi hir j hj=>?_⟩
 rw [hstr j hj,hst i hi]
 have hpi:gr (mB p c m a r k) i=gr (zB a r k) i:=by rw [uR hra,if_neg hir]
 have hpm:gr (mB p c m m r k) i=gr (zB m r k) i:=by rw [uR hr,if_neg hir]
 have hsi:=kC hso (i:=i) (by rw [sG];omega)
 have hb:=kI hso (i:=i) (by rw [sG];omega) hj
 unfold vB
 by_cases h0:el (gr (mB p c m m r k) i) c=0
 ·
  rw [if_pos (.inr h0),hpi]
  rw [hpm] at h0
  rw [h0,Int.zero_mul,Int.sub_zero,zO hb]
 ·
  rw [if_neg (by intro h1;rcases h1 with h1 | h1;exact hir h1;exact h0 h1)]
  rw [yR (by rw [hpi];omega)]
  unfold gF
  rw [hpi,hpe j hj,hpm]
theorem H5_ {p:Int}{c r k N q:Nat}{m a:Rows} (hf:fdB p=true) (h:okM p N m) (ha:okM p q a) (hl:a.length=m.length) (hr:r<m.length) (hk:k<m.length) (hc:c<N) (hne:el (gr m k) c≠0) :
  sD p q (tB p c m a r k) a∧sD p q a (tB p c m a r k):=by
 obtain ⟨e1,e2,e3⟩:=fV hf h ha hl hr hk hc hne
 have hsl:(tB p c m a r k).length=m.length:=by rw [nE,hl]
 have hra:r<a.length:=by omega
 have hka:k<a.length:=by omega
 obtain ⟨w1,w2⟩:=H3_ (p:=p) (n:=q) (m:=a) hra hka
 have hnr:gE p q a (gr (tB p c m a r k) r):=by
  refine eU (yE p (el (gr m k) c)) 0 (vF hka) (vF hka) fun j hj=>?_
  rw [e2 j hj,mod_mod,Int.zero_mul,Int.add_zero,Int.mul_comm]
 constructor
 ·
  intro i hi
  rw [hsl] at hi
  by_cases hir:i=r
  · rw [hir];exact hnr
  ·
   refine eU 1 (- el (gr (zB m r k) i) c) (w1 i (by rw [sG];omega)) hnr fun j hj=>?_
   rw [e3 i hi hir j hj,mod_mod,Int.one_mul,Int.neg_mul,Int.sub_eq_add_neg]
 ·
  refine uJ w2 ?_
  have hrr:gE p q (tB p c m a r k) (gr (tB p c m a r k) r):=vF (by rw [hsl];exact hr)
  intro i hi
  rw [sG] at hi
  by_cases hir:i=r
  ·
   rw [hir,mO hra hka]
   refine eU (el (gr m k) c) 0 hrr hrr fun j hj=>?_
   rw [e2 j hj,Int.zero_mul,Int.add_zero,mul_mod2,← Int.mul_assoc,Int.mul_comm (el (gr m k) c),Int.mul_assoc,← mul_mod2,e1,Int.mul_one]
  ·
   refine eU 1 (el (gr (zB m r k) i) c) (vF (i:=i) (by rw [hsl];omega)) hrr fun j hj=>?_
   rw [e3 i (by omega) hir j hj,Int.one_mul,Eo_]
   congr 1;omega
theorem cR {p:Int}{N q:Nat} (hf:fdB p=true):∀ (d c:Nat) (m a:Rows) (r:Nat),c+d≤N→okM p N m→okM p q a→a.length=m.length→r≤m.length→sD p q (yB p d c m a r).2.1 a∧sD p q a (yB p d c m a r).2.1
 | 0,_,_,a,_,_,_,_,_,_=>⟨bU p q a,bU p q a⟩
 | d+1,c,m,a,r,hN,h,ha,hl,hr=>by
  unfold yB
  by_cases hrl:r<m.length
  ·
   rw [if_pos hrl]
   obtain ⟨s1,s2,s3⟩:=zI m c (m.length-r) r (by omega)
   split
   · exact cR hf d (c+1) m a r (by omega) h ha hl hr
   ·
    rename_i hk
    have hkl:scanN m c (m.length-r) r<m.length:=by omega
    have ha2:okM p q (tB p c m a r (scanN m c (m.length-r) r)):=fH (aC hf).1 ha (by omega) (by omega)
    obtain ⟨k1,k2⟩:=cR hf d (c+1) (tB p c m m r (scanN m c (m.length-r) r)) (tB p c m a r (scanN m c (m.length-r) r)) (r+1) (by omega) (fH (aC hf).1 h hrl hkl) ha2 (by rw [nE,nE];exact hl) (by rw [nE];omega)
    obtain ⟨w1,w2⟩:=H5_ hf h ha hl hrl hkl (show c<N by omega) (s3 hkl)
    exact ⟨uJ k1 w1,uJ w2 k2⟩
  · rw [if_neg hrl];exact ⟨bU p q a,bU p q a⟩
theorem wZ (p:Int):∀ (d c:Nat) (m:Rows) (r:Nat),(yB p d c m m r).2.1=(yB p d c m m r).1
 | 0,_,_,_=>rfl
 | d+1,c,m,r=>by
  unfold yB
  split
  ·
   split
   · exact wZ p d (c+1) m r
   · exact wZ p d (c+1) _ (r+1)
  · rfl
theorem H2_ {p:Int}{n k:Nat}{m:Rows} (hz:∀ i,k≤i→i<m.length→∀ j,j<n→el (gr m i) j=0):sD p n (m.take k) m∧sD p n m (m.take k):=by
 constructor
 ·
  intro i hi
  rw [List.length_take] at hi
  rw [iK (by omega)]
  exact vF (by omega)
 ·
  intro i hi
  rcases Nat.lt_or_ge i k with h | h
  ·
   have:=vF (p:=p) (n:=n) (m:=m.take k) (i:=i) (by rw [List.length_take];omega)
   rw [iK h] at this;exact this
  · exact Ht_ fun j hj=>by rw [hz i h hi j hj];exact Int.zero_emod p
theorem zM {p:Int}{n:Nat}{m:Rows} (hf:fdB p=true) (h:okM p n m):sD p n (cC p n m) m∧sD p n m (cC p n m):=by
 obtain ⟨k1,k2⟩:=cR hf n 0 m m 0 (by omega) h h rfl (by omega)
 rw [wZ] at k1 k2
 have h1:=vQ hf n 0 m 0 (by omega) h (RedI.start m)
 rw [Nat.zero_add] at h1
 obtain ⟨w1,w2⟩:=H2_ (p:=p) (n:=n) (m:=(yB p n 0 m m 0).1) (k:=(yB p n 0 m m 0).2.2) h1.rest
 exact ⟨uJ w1 k1,uJ k2 w2⟩
theorem Red.indep {p:Int}{n:Nat}{b:Rows} (h:Red p n b):Indep p n b:=by
 intro x hx i hi
 have:=hx _ (h.lt i hi)
 rw [jI hi (fun t ht hn=>by rw [h.zero i t hi ht (Ne.symm hn),Int.mul_zero]),h.one i hi,Int.mul_one] at this
 exact this
theorem CR_ {p:Int}{n:Nat}{b:Rows}{v:List Int} (hb:Red p n b) (hv:gE p n b v):∀ j,j<n→el v j % p=sg b.length (fun i=>el v (leadN (gr b i))*el (gr b i) j) % p:=by
 obtain ⟨x,hx⟩:=hv
 intro j hj
 rw [hx j hj]
 refine mK fun i hi=>?_
 have h1:=hx _ (hb.lt i hi)
 rw [jI hi (fun t ht hn=>by rw [hb.zero i t hi ht (Ne.symm hn),Int.mul_zero]),hb.one i hi,Int.mul_one] at h1
 rw [←lR,← h1,lR]
theorem Ia_ {p:Int}{n:Nat}{b:Rows}{v:List Int} (hp:2≤p) (hb:Red p n b) (hv:okR p n v) (hs:gE p n b v) (h0:leadN v<n):∃ i,i<b.length∧leadN (gr b i)=leadN v:=by
 apply Classical.byContradiction
 intro hno
 have hno:∀ i,i<b.length→leadN (gr b i)≠leadN v:=fun i hi he=>hno ⟨i,hi,he⟩
 have h1:=CR_ hb hs _ h0
 have h2:sg b.length (fun i=>el v (leadN (gr b i))*el (gr b i) (leadN v))=0:=by
  refine eN fun i hi=>?_
  rcases Nat.lt_trichotomy (leadN (gr b i)) (leadN v) with h | h | h
  · rw [uO v _ h,Int.zero_mul]
  · exact absurd h (hno i hi)
  · rw [uO (gr b i) _ h,Int.mul_zero]
 rw [h2,Int.zero_emod,zO (hv.2 _ (sH (by rw [hv.1];exact h0)))] at h1
 exact sV v (by rw [hv.1];exact h0) h1
theorem DV_ {p:Int}{n:Nat}{b b':Rows} (hp:2≤p) (hb:Red p n b) (hb':Red p n b') (hs:sD p n b b'):∀ k,k≤b.length→∃ g:Nat→Nat,(∀ i,i<k→g i<b'.length∧leadN (gr b' (g i))=leadN (gr b i))∧(∀ i,i<k→i≤g i):=by
 intro k hk
 have hex:∀ i,i<b.length→∃ t,t<b'.length∧leadN (gr b' t)=leadN (gr b i):=fun i hi=>Ia_ hp hb' (kC hb.ok hi) (hs i hi) (hb.lt i hi)
 refine ⟨fun i=>if h:i<b.length then Classical.choose (hex i h) else 0,fun i hi=>?_,fun i hi=>?_⟩
 ·
  simp only [dif_pos (Nat.lt_of_lt_of_le hi hk)]
  exact Classical.choose_spec (hex i (Nat.lt_of_lt_of_le hi hk))
 ·
  induction i with
  | zero=>exact Nat.zero_le _
  | succ i ih=>
   have h1:=ih (by omega)
   have hi1:i<b.length:=by omega
   have hi2:i+1<b.length:=by omega
   simp only [dif_pos hi1] at h1
   simp only [dif_pos hi2]
   have s1:=Classical.choose_spec (hex i hi1)
   have s2:=Classical.choose_spec (hex (i+1) hi2)
   generalize Classical.choose (hex i hi1)=t1 at s1 h1
   generalize Classical.choose (hex (i+1) hi2)=t2 at s2
   have hlt:=hb.inc i (i+1) (by omega) hi2
   have:t1<t2:=by
    rcases Nat.lt_trichotomy t1 t2 with h | h | h
    · exact h
    · rw [h] at s1;omega
    · have:=hb'.inc t2 t1 h s1.1;omega
   omega
theorem CU_ {p:Int}{n:Nat}{b b':Rows} (hp:2≤p) (hb:Red p n b) (hb':Red p n b') (hs:sD p n b b'):b.length≤b'.length:=by
 obtain ⟨g,h1,h2⟩:=DV_ hp hb hb' hs b.length (Nat.le_refl _)
 rcases Nat.eq_zero_or_pos b.length with h0 | h0
 · omega
 ·
  have:=(h1 (b.length-1) (by omega)).1
  have:=h2 (b.length-1) (by omega)
  omega
theorem red_eq {p:Int}{n:Nat}{b b':Rows} (hp:2≤p) (hb:Red p n b) (hb':Red p n b') (hs:sD p n b b') (hl:b.length=b'.length):b=b':=by
 obtain ⟨g,h1,h2⟩:=DV_ hp hb hb' hs b.length (Nat.le_refl _)
 have hg:∀ d i,i+d+1=b.length→g i=i:=by
  intro d
  induction d with
  | zero=>
   intro i hi
   have:=(h1 i (by omega)).1
   have:=h2 i (by omega)
   omega
  | succ d ih=>
   intro i hi
   have e1:=ih (i+1) (by omega)
   have a1:=h1 i (by omega)
   have a2:=h1 (i+1) (by omega)
   have a3:=hb.inc i (i+1) (by omega) (by omega)
   have a4:=h2 i (by omega)
   rw [e1] at a2
   rcases Nat.lt_trichotomy (g i) (i+1) with h | h | h
   · omega
   · rw [h] at a1;omega
   · have:=hb'.inc (i+1) (g i) h a1.1;omega
 have hlead:∀ i,i<b.length→leadN (gr b' i)=leadN (gr b i):=fun i hi=>by
  have:=(h1 i hi).2
  rw [hg (b.length-1-i) i (by omega)] at this;exact this
 refine Fz_ hl fun i hi=>?_
 have r1:=kC hb.ok hi
 have r2:=kC hb'.ok (i:=i) (by omega)
 refine gS (by rw [r1.1,r2.1]) fun j hj=>?_
 rw [r1.1] at hj
 have h3:=CR_ hb' (hs i hi) j hj
 rw [jI (i0:=i) (by omega) (fun t ht hn=>by rw [hlead t (by omega),hb.zero t i (by omega) hi hn,Int.zero_mul]),hlead i hi,hb.one i hi,Int.one_mul] at h3
 rw [zO (r1.2 _ (sH (by omega))),zO (r2.2 _ (sH (by omega)))] at h3
 exact h3
theorem Af_ {p:Int}{n:Nat}{b b':Rows} (hp:2≤p) (hb:Red p n b) (hb':Red p n b') (h1:sD p n b b') (h2:sD p n b' b):b=b':=
 red_eq hp hb hb' h1 (Nat.le_antisymm (CU_ hp hb hb' h1) (CU_ hp hb' hb h2))
theorem CJ_ {p:Int}{n:Nat}{a b:Rows} (hf:fdB p=true) (ha:okM p n a) (hb:okM p n b) (h1:sD p n a b) (h2:sD p n b a):cC p n a=cC p n b:=by
 obtain ⟨a1,a2⟩:=zM hf ha
 obtain ⟨b1,b2⟩:=zM hf hb
 exact Af_ (aC hf).1 (tG hf ha) (tG hf hb) (uJ a1 (uJ h1 b2)) (uJ b1 (uJ h2 a2))
theorem Dg_ {p:Int}{n:Nat}{b:Rows} (hf:fdB p=true) (h:Red p n b):cC p n b=b:=by
 obtain ⟨a1,a2⟩:=zM hf h.ok
 exact Af_ (aC hf).1 (tG hf h.ok) h a1 a2
end Go.Proofs.YtemcakhocdchiaaGreatDoor
namespace Go.Proofs.YtemcakhocdchiaaGreatDoor
end Go.Proofs.YtemcakhocdchiaaGreatDoor
namespace Go.Proofs.YtemcakhocdchiaaGreatDoor
theorem Ie_ {p:Int}{n:Nat}{m:List (List Int)} (h:bM p n m) (hn:n≤1048576):∀ r∈m,r.length≤bB:=by
 intro r hr;have:=(h r hr).1;have hm:bB=1099511627776:=rfl;omega
end Go.Proofs.YtemcakhocdchiaaGreatDoor
namespace Go.Proofs.YtemcakhocdchiaaGreatDoor
theorem tot_le {α:Type}{n:α→Nat}{c:Nat}{l:List α} (h:∀ a∈l,n a≤c):tot n l≤l.length*c:=by
 induction l with
 | nil=>simp [tot]
 | cons a l ih=>
  rw [tot_cons,List.length_cons,Nat.succ_mul]
  have:=ih (fun x hx=>h x (List.mem_cons_of_mem _ hx))
  have:=h a (List.mem_cons_self ..)
  omega
end Go.Proofs.YtemcakhocdchiaaGreatDoor
namespace Go.Proofs.YtemcakhocdchiaaGreatDoor
end Go.Proofs.YtemcakhocdchiaaGreatDoor
namespace Go.Proofs.YtemcakhocdchiaaGreatDoor
def qH (a:List (List Int)):Nat:=wF a
def fX (a:List (List Int)):Nat:=tot iF a
theorem IN_ (a:List (List Int)):fX a≤8*qH a:=by unfold fX qH wF;omega
def AO_:=mkSS
theorem Cy_ (a:List (List Int)) (k:Int):(AO_ a k).2=k+fX a:=I6_ a k
theorem Br_ (a:List (List Int)) (h:qH a≤1048576):sM a a=some true:=Hh_ a (It_ h)
theorem m_IntSS (a:List (List Int)) (k:Int) (h0:0≤k) (h:k+8*qH a≤1125899906842624):gT a k=some (AO_ a k):=Is_ a k h0 (by unfold qH wF at h;unfold nD;omega) (by unfold qH wF at h;unfold nD;omega)
theorem EO_ (a:List (List Int)) (k:Int) (h0:0≤k) (h:k+8*qH a≤1125899906842624):vP (AO_ a k).1 k=some (k+fX a):=IB_ a k h0 (by unfold qH wF at h;unfold nD;omega) (by unfold qH wF at h;unfold nD;omega)
end Go.Proofs.YtemcakhocdchiaaGreatDoor
namespace Go.Proofs.YtemcakhocdchiaaGreatDoor
end Go.Proofs.YtemcakhocdchiaaGreatDoor
namespace Go.Proofs.YtemcakhocdchiaaGreatDoor
set_option linter.unusedVariables false
theorem gr_app1 {a b:Rows}{i:Nat} (h:i<a.length):gr (a++b) i=gr a i:=by
 unfold gr;rw [List.getD_eq_getElem?_getD,List.getD_eq_getElem?_getD,List.getElem?_append_left h]
theorem gr_app2 {a b:Rows} (i:Nat):gr (a++b) (a.length+i)=gr b i:=by
 unfold gr;rw [List.getD_eq_getElem?_getD,List.getD_eq_getElem?_getD,List.getElem?_append_right (by omega),Nat.add_sub_cancel_left]
theorem okM_app {p:Int}{n:Nat}{a b:Rows} (h1:okM p n a) (h2:okM p n b):okM p n (a++b):=
 fun r hr=>(List.mem_append.1 hr).elim (h1 r) (h2 r)
section
variable {p:Int}{n:Nat}{A B:Rows}
end
end Go.Proofs.YtemcakhocdchiaaGreatDoor
namespace Go.Proofs.YtemcakhocdchiaaGreatDoor
theorem ID_ {α:Type} (l:List (List α)) (j:Nat):(l.take j).flatten.length≤l.flatten.length:=by
 have:l.flatten=(l.take j).flatten++(l.drop j).flatten:=by rw [←List.flatten_append,List.take_append_drop]
 rw [this,List.length_append];omega
theorem IE_ {α:Type} (l:List (List α)){j:Nat}{x:List α} (h:l[j]?=some x):(l.take (j+1)).flatten=(l.take j).flatten++x:=by
 rw [List.take_add_one,h]
 simp only [Option.toList_some,List.flatten_append,List.flatten_cons,List.flatten_nil,List.append_nil]
theorem vO {l:Rows} (h:l.flatten.length≤bB):eH l=some l.flatten:=by
 have:=xC (n:=l.length) (fun j=>(l.take j).flatten) (f:=fun (k5:Nat) (s41:List Int)=>
   (idxO l ((k5:Nat):Int)).bind fun a57=>
   (nA s41 a57).bind fun a61=>
   some a61) (by
  intro j hj
  have h1:=mF hj
  have h2:=IE_ l h1
  have h3:=ID_ l (j+1)
  refine bnd (gD hj) (bnd (iB ?_) (by rw [h2]))
  rw [h2,List.length_append] at h3;omega)
 exact bnd this (by rw [List.take_of_length_le (Nat.le_refl _)])
theorem Ba_ {p:Int}{l r:Nat}{x y:List Int} (hx:okR p l x) (hy:okR p r y):okR p (l+r) (x++y):=
 ⟨by rw [List.length_append,hx.1,hy.1],fun z hz=>by rcases List.mem_append.1 hz with h | h;exact hx.2 z h;exact hy.2 z h⟩
end Go.Proofs.YtemcakhocdchiaaGreatDoor
namespace Go.Proofs.YtemcakhocdchiaaGreatDoor
set_option linter.unusedVariables false
theorem bX {p a:Int} (hp:2≤p∧p≤97) (ha:0≤a∧a<p):eO p a=some ((p-a) % p):=by
 refine bnd (wC (by omega) (by omega)) (bnd (wG (by omega)) ?_)
 rw [Int.tmod_eq_emod_of_nonneg (by omega)]
def iE (n i:Nat):List Int:=(List.replicate n 0).set i 1
def idN (n:Nat):Rows:=(List.range n).map (iE n)
theorem dV {p:Int} (hp:2≤p) (n i:Nat):okR p n (iE n i):=by
 refine ⟨by simp [iE],fun x hx=>?_⟩
 rcases List.mem_or_eq_of_mem_set hx with h | rfl
 · have:=List.eq_of_mem_replicate h;omega
 · omega
theorem yO (n:Nat):(idN n).length=n:=by simp [idN]
theorem fS {p:Int} (hp:2≤p) (n:Nat):okM p n (idN n):=by
 intro x hx
 obtain ⟨i,hi,rfl⟩:=List.mem_map.1 hx
 exact dV hp n i
theorem unit_ {n i:Nat} (hi:i<n) (hn:n≤bB):bI (n:Int) (i:Int)=some (iE n i):=
 bnd (gI hn) (bnd (tC _ (by simpa using hi)) rfl)
theorem Jb_ (n k:Nat):(List.range (k+1)).map (iE n)=(List.range k).map (iE n)++[iE n k]:=by simp [List.range_succ]
theorem G1_ {n:Nat} (hn:n≤1048576):fY (n:Int)=some (idN n):=by
 have hm:bB=1099511627776:=rfl
 refine bnd (tK ⟨by omega,by omega⟩) ?_
 rw [Int.toNat_natCast]
 refine bnd (xC (fun k=>(List.range k).map (iE n)) ?_) rfl
 intro k hk
 exact bnd (unit_ hk (by omega)) (bnd (iB (by simp;omega)) (by rw [Jb_]))
def xB (p:Int) (n:Nat) (m:Rows):Rows×Rows×Nat:=yB p n 0 m (idN m.length) 0
theorem zQ {p:Int}{n:Nat}{m:Rows} (hf:fdB p=true) (h:okM p n m):(xB p n m).2.2≤m.length∧(xB p n m).1.length=m.length∧(xB p n m).2.1.length=m.length∧okM p m.length (xB p n m).2.1∧okM p n (xB p n m).1∧Red p n ((xB p n m).1.take (xB p n m).2.2):=by
 have hp:=aC hf
 obtain ⟨k1,k2,k3,k4,k5,k6,k7⟩:=iO hp.1 n 0 m (idN m.length) 0 h (fS hp.1 m.length) (yO _) (by omega)
 have e:(xB p n m).1.take (xB p n m).2.2=cC p n m:=by
  obtain ⟨e1,e2⟩:=wQ p n 0 m (idN m.length) m 0
  unfold xB cC;rw [e1,e2]
 exact ⟨k6,k3,k4,k2,k1,by rw [e];exact tG hf h⟩
end Go.Proofs.YtemcakhocdchiaaGreatDoor
namespace Go.Proofs.YtemcakhocdchiaaGreatDoor
set_option linter.unusedVariables false
end Go.Proofs.YtemcakhocdchiaaGreatDoor
