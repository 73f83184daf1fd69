/-
  Plain laws of the partial functions: loops whose states are known, lists read and written. No program in sight. No condition.
-/
import Derived.Test.YtlggnmkelgplnaaGreatDoorZF
import Derived.Test.YtlggnmkelgplnaaGreatDoorZFn
namespace Go.Proofs.YtlggnmkelgplnaaGreatDoor
class Nice (α:Type) where
 ok:α→Prop
instance:Nice Int:=⟨inI⟩
instance:Nice Bool:=⟨fun _=>True⟩
instance {α:Type} [Nice α]:Nice (List α):=⟨fun l=>(l.length:Int)≤9223372036854775807∧∀ x∈l,Nice.ok x⟩
instance {α β:Type} [Nice α] [Nice β]:Nice (α×β):=⟨fun x=>Nice.ok x.1∧Nice.ok x.2⟩
theorem stp {α β:Type}{a:α}{k:α→Option β}{y:Option β} (h:k a=y):(some a).bind k=y:=h
theorem bnd {α β:Type}{m:Option α}{a:α}{k:α→Option β}{y:Option β} (h:m=some a) (h2:k a=y):m.bind k=y:=by rw [h];exact h2
theorem sqW {σ τ:Type}{m r:Option (σ⊕τ)}{k:σ→Option τ}{y:Option τ} (h:m=r) (h2:eC r k=y):eC m k=y:=by rw [h];exact h2
theorem bndW {α β:Type}{m r:Option α}{k:α→Option β}{y:Option β} (h:m=r) (h2:r.bind k=y):m.bind k=y:=by rw [h];exact h2
theorem cTW {α:Type}{c:Bool}{a b y:α} (h:c=true) (h2:a=y):cond c a b=y:=by rw [h];exact h2
theorem cFW {α:Type}{c:Bool}{a b y:α} (h:c=false) (h2:b=y):cond c a b=y:=by rw [h];exact h2
theorem dT {P:Prop} [Decidable P] (h:P):decide P=true:=decide_eq_true h
theorem dF {P:Prop} [Decidable P] (h:¬P):decide P=false:=decide_eq_false h
theorem nT {b:Bool} (h:b=true):(!b)=false:=by rw [h];rfl
theorem nF {b:Bool} (h:b=false):(!b)=true:=by rw [h];rfl
theorem uK {x:Int} (h:inI x):cI x=some x:=if_pos h
theorem qB {a b:Int} (h1:-9223372036854775808≤a+b) (h2:a+b≤9223372036854775807):sA a b=some (a+b):=uK ⟨h1,h2⟩
theorem cD {a b:Int} (h1:-9223372036854775808≤a-b) (h2:a-b≤9223372036854775807):subO a b=some (a-b):=uK ⟨h1,h2⟩
theorem jK {a b:Int} (h1:-9223372036854775808≤a*b) (h2:a*b≤9223372036854775807):mF a b=some (a*b):=uK ⟨h1,h2⟩
theorem aH {a b:Int} (h:b≠0):xD a b=some (a.tmod b):=if_neg h
theorem idxO_nat {α:Type} (xs:List α) (k:Nat):idxO xs (k:Int)=xs[k]?:=by
 unfold idxO;rw [if_pos (by omega)];rfl
theorem qA {α:Type}{xs:List α}{k:Nat}{a:α} (h:xs[k]?=some a):idxO xs (k:Int)=some a:=by rw [idxO_nat,h]
theorem oD {α:Type}{xs:List α}{k:Nat} (a:α) (h:k<xs.length):setO xs (k:Int) a=some (xs.set k a):=by
 unfold setO;rw [if_pos (by omega)];rfl
theorem vB {α:Type}{xs ys:List α} (h:xs.length+ys.length≤iB):tA xs ys=some (xs++ys):=if_pos h
theorem bI {α:Type}{n:Nat} (z:α) (h:n≤iB):mD (n:Int) z=some (List.replicate n z):=by
 unfold mD;rw [if_pos (by omega)];rfl
theorem B7_ {α:Type}{n:Nat} (z:α) (h:n≤iB):iJ 0 (n:Int) z=some []:=by
 unfold iJ;rw [if_pos (by omega)];rfl
theorem Dy_ {σ:Type}{f:Nat→σ→Option σ} (v:Nat→σ):∀ (n k:Nat),(∀ j,k≤j→j<k+n→f j (v j)=some (v (j+1)))→forS f n k (v k)=some (v (k+n))
 | 0,k,_=>rfl
 | n+1,k,h=>by
  show (f k (v k)).bind _=_
  rw [h k (Nat.le_refl _) (by omega)]
  show forS f n (k+1) (v (k+1))=_
  rw [Dy_ v n (k+1) (fun j h1 h2=>h j (by omega) (by omega))]
  rw [show k+1+n=k+(n+1) by omega]
theorem gD {σ:Type}{f:Nat→σ→Option σ}{n:Nat} (v:Nat→σ) (h:∀ j,j<n→f j (v j)=some (v (j+1))):forS f n 0 (v 0)=some (v n):=by
 have:=Dy_ v n 0 (fun j _ h2=>h j (by omega))
 simpa using this
theorem zG {α τ:Type}{f:Nat→Unit→Option (Unit⊕τ)}{t:τ} (P:α→Bool):∀ (l:List α) (k:Nat),(∀ j a,l[j]?=some a→f (k+j) ()=some (if P a then .inl () else .inr t))→lC f l.length k ()=some (if l.all P then .inl () else .inr t)
 | [],k,_=>rfl
 | a::l,k,h=>by
  show (f k ()).bind _=_
  have h0:f k ()=_:=h 0 a rfl
  rw [h0]
  cases hP:P a with
  | false=>simp [hP]
  | true=>
   have:=zG P l (k+1) (fun j b hb=>by
    have:=h (j+1) b (by simpa using hb)
    rw [show k+1+j=k+(j+1) by omega];exact this)
   simp only [hP,List.all_cons,Bool.true_and,if_true]
   exact this
theorem Cf_ {σ τ:Type}{f:σ→Option (σ⊕τ)} (v:Nat→σ){t:τ}:∀ (n k:Nat),(∀ j,k≤j→j<k+n→f (v j)=some (.inl (v (j+1))))→f (v (k+n))=some (.inr t)→mC f (v k)=some t
 | 0,k,_,he=>xG he
 | n+1,k,h,he=>by
  rw [wI (h k (Nat.le_refl _) (by omega))]
  refine Cf_ v n (k+1) (fun j h1 h2=>h j (by omega) (by omega)) ?_
  rw [show k+1+n=k+(n+1) by omega];exact he
theorem yM {σ τ:Type}{f:σ→Option (σ⊕τ)} (v:Nat→σ){t:τ} (n:Nat) (h:∀ j,j<n→f (v j)=some (.inl (v (j+1)))) (he:f (v n)=some (.inr t)):mC f (v 0)=some t:=
 Cf_ v n 0 (fun j _ h2=>h j (by omega)) (by simpa using he)
theorem tE {α β:Type}{f:Nat→List β→Option (List β)} (g:α→β) (l:List α) (s:List β) (hb:s.length+l.length≤iB) (h:∀ j a s',l[j]?=some a→s'.length=s.length+j→f j s'=some (s'++[g a])):forS f l.length 0 s=some (s++l.map g):=by
 have:=gD (f:=f) (n:=l.length) (fun j=>s++(l.take j).map g) (fun j hj=>by
  rw [h j l[j] _ (List.getElem?_eq_getElem hj) (by simp;omega)]
  simp only [List.append_assoc]
  rw [List.take_add_one,List.getElem?_eq_getElem hj]
  simp only [List.map_append,Option.toList_some,List.map_cons,List.map_nil])
 simpa using this
theorem CE_ {α:Type} (xs:List α) (g:Nat→α→α) (j:Nat) (h:j<xs.length):((xs.take j).mapIdx g++xs.drop j).set j (g j xs[j])=(xs.take (j+1)).mapIdx g++xs.drop (j+1):=by
 rw [List.set_append_right _ _ (by simp;omega)]
 have:j-((xs.take j).mapIdx g).length=0:=by simp;omega
 rw [this,List.take_add_one,List.getElem?_eq_getElem h,List.drop_eq_getElem_cons h,List.mapIdx_append]
 simp only [Option.toList_some,List.mapIdx_cons,List.mapIdx_nil,List.length_take,Nat.min_eq_left (Nat.le_of_lt h),List.set_cons_zero,List.append_assoc,List.singleton_append,Nat.zero_add]
end Go.Proofs.YtlggnmkelgplnaaGreatDoor
namespace Go.Proofs.YtlggnmkelgplnaaGreatDoor
def tot {α:Type} (n:α→Nat) (l:List α):Nat:=(l.map n).sum
theorem tot_nil {α:Type} (n:α→Nat):tot n []=0:=rfl
theorem tot_cons {α:Type} (n:α→Nat) (a:α) (l:List α):tot n (a::l)=n a+tot n l:=by simp [tot]
theorem lN {α:Type} (pre rest:List α) (a:α):(pre++a::rest)[pre.length]?=some a:=by simp
theorem Dm_ {α:Type} (pre rest:List α) (a b:α):(pre++a::rest).set pre.length b=pre++b::rest:=by simp
theorem app1 {α:Type} (pre rest:List α) (a:α):pre++a::rest=(pre++[a])++rest:=by simp
theorem len1 {α:Type} (pre:List α) (a:α):(((pre++[a]).length:Nat):Int)=(pre.length:Int)+1:=by simp
def tG:Int:=4611686018427387904
theorem Dh_ {α:Type} (n:α→Nat){f:Int×Int→Option ((Int×Int)⊕(Int⊕Int))} (L:List α) (B:Int)
  (hf:∀ (j:Nat) (a:α) (s:Int),L[j]?=some a→j<L.length→0≤s→s≤B→f (s,(j:Int))=some (if (n a:Int)≤s then .inl (s-n a,(j:Int)+1) else .inr (.inr (-1))))
  (he:∀ s:Int,f (s,(L.length:Int))=some (.inr (.inl s))):∀ (rest pre:List α) (s:Int),L=pre++rest→0≤s→s≤B→mC f (s,(pre.length:Int))=some (if (tot n rest:Int)≤s then .inl (s-tot n rest) else .inr (-1))
 | [],pre,s,hL,h0,_=>by
  have:=he s
  rw [hL,List.append_nil] at this
  rw [xG this,tot_nil,if_pos (by omega)];simp
 | a::rest,pre,s,hL,h0,hB=>by
  have h1:=hf pre.length a s (by rw [hL];exact lN _ _ _) (by rw [hL];simp) h0 hB
  by_cases h:(n a:Int)≤s
  ·
   rw [if_pos h] at h1
   have ih:=Dh_ n L B hf he rest (pre++[a]) (s-n a) (by rw [hL,app1]) (by omega) (by omega)
   rw [len1] at ih
   rw [wI h1,ih,tot_cons]
   by_cases h2:(tot n rest:Int)≤s-n a
   · rw [if_pos h2,if_pos (by omega)];congr 2;omega
   · rw [if_neg h2,if_neg (by omega)]
  ·
   rw [if_neg h] at h1
   rw [xG h1,tot_cons,if_neg (by omega)]
theorem Dd_ {α:Type} (z:α){f:List α×Int→Option ((List α×Int)⊕List α)} (L:List α)
  (hf:∀ (j:Nat) (a:α) (s:List α),L[j]?=some a→j<L.length→s.length=L.length→f (s,(j:Int))=some (.inl (s.set j a,(j:Int)+1)))
  (he:∀ s:List α,s.length=L.length→f (s,(L.length:Int))=some (.inr s)):∀ (rest pre:List α),L=pre++rest→mC f (pre++List.replicate rest.length z,(pre.length:Int))=some L
 | [],pre,hL=>by
  rw [List.append_nil] at hL
  have:=he pre (by rw [hL])
  rw [hL] at this
  have h2:pre++List.replicate ([]:List α).length z=pre:=by simp
  rw [h2,hL,xG this]
 | a::rest,pre,hL=>by
  have h1:=hf pre.length a (pre++z::List.replicate rest.length z) (by rw [hL];exact lN _ _ _) (by rw [hL];simp) (by rw [hL];simp)
  have ih:=Dd_ z L hf he rest (pre++[a]) (by rw [hL,app1])
  rw [Dm_,app1 pre _ a,← len1 pre a] at h1
  rw [List.length_cons,List.replicate_succ]
  rw [wI h1,ih]
end Go.Proofs.YtlggnmkelgplnaaGreatDoor
namespace Go.Proofs.YtlggnmkelgplnaaGreatDoor
def one {α:Type} (_:α):Nat:=1
theorem Db_ {α:Type}{n:α→Nat}{l:List α}{a:α} (h:a∈l):n a≤tot n l:=by
 induction l with
 | nil=>cases h
 | cons b l ih=>
  rw [tot_cons]
  cases h with
  | head=>omega
  | tail _ h=>have:=ih h;omega
theorem aD {α:Type}{l:List α}{j:Nat}{a:α} (h:l[j]?=some a):a∈l:=List.mem_of_getElem? h
def lenOk {α:Type} (l:List α):Prop:=(l.length:Int)≤9223372036854775807
end Go.Proofs.YtlggnmkelgplnaaGreatDoor
namespace Go.Proofs.YtlggnmkelgplnaaGreatDoor
end Go.Proofs.YtlggnmkelgplnaaGreatDoor
namespace Go.Proofs.YtlggnmkelgplnaaGreatDoor
def rng (n lo hi:Int):Bool:=decide (lo≤n)&&decide (n≤hi)
theorem rng_true {n lo hi:Int}:rng n lo hi=true↔lo≤n∧n≤hi:=by unfold rng;simp
theorem l1In (n lo hi:Int):wG n lo hi=some (rng n lo hi):=by
 unfold wG rng
 by_cases h:lo≤n
 · rw [dT h];rfl
 · rw [dF h];rfl
theorem within_ (n lo hi:Int):mG n lo hi=some (rng n lo hi):=by
 unfold mG rng
 by_cases h:lo≤n
 · rw [dT h];rfl
 · rw [dF h];rfl
def fdB (p:Int):Bool:=rng p 2 97&&[2,3,5,7].all fun q=>!(decide (p % q=0)&&!decide (p=q))
def D6_ (p:Int) (s:Int):Option (Int⊕(Unit⊕Bool)):=
 (mF s s).bind fun a111=>
    (some (decide (a111≤p))).bind fun a113=>
    cond a113
    ((xD p s).bind fun a118=>
     (some (decide (a118=0))).bind fun a120=>
     cond a120
     (some (.inr (.inr false)))
     ((sA s 1).bind fun a123=>
      some (.inl a123)))
    (some (.inr (.inl ())))
def Dz_ (p:Nat):Bool:=decide (eC (jG (D6_ p) 10 2) (fun (_:Unit)=>some true)=some (fdB p))||decide (p<2)
theorem fd_all:((List.range 98).all Dz_)=true:=by decide +kernel
theorem AV_ (p:Int):aP p=some (fdB p):=by
 unfold aP
 refine bnd (l1In p 2 97) (stp ?_)
 cases h:rng p 2 97 with
 | false=>refine cTW rfl ?_;unfold fdB;rw [h];rfl
 | true=>
  refine cFW rfl ?_
  have hr:=rng_true.1 h
  obtain ⟨k,rfl⟩:∃ k:Nat,p=(k:Int):=⟨p.toNat,by omega⟩
  have hk:=List.all_eq_true.1 fd_all k (List.mem_range.2 (by omega))
  unfold Dz_ at hk
  have h2:decide (k<2)=false:=dF (by omega)
  rw [h2,Bool.or_false] at hk
  have hk:=of_decide_eq_true hk
  rw [←hk]
  cases hi:jG (D6_ k) 10 2 with
  | none=>rw [hi] at hk;cases hk
  | some t=>exact sqW (whileO_iff.2 ⟨10,hi⟩) rfl
theorem Af_ (p:Int):yR p=some (fdB p):=by
 unfold yR fdB
 cases h:rng p 2 97 with
 | false=>
  refine bnd (a:=true) (stp ?_) (cTW rfl rfl)
  by_cases h1:p<2
  · exact cTW (dT h1) rfl
  ·
   refine cFW (dF h1) (stp ?_)
   rw [dT]
   apply Classical.byContradiction
   intro h3
   have:rng p 2 97=true:=rng_true.2 ⟨by omega,by omega⟩
   rw [h] at this;cases this
 | true=>
  have hr:=rng_true.1 h
  refine bnd (a:=false) (stp (cFW (dF (by omega)) (stp (by rw [dF (by omega)])))) (cFW rfl (bnd (uK (by decide)) ?_))
  refine sqW (zG (fun q:Int=>!(decide (p % q=0)&&!decide (p=q))) [2,3,5,7] 0 ?_ (t:=false)) ?_
  ·
   intro j q hj
   have hq:q∈[(2:Int),3,5,7]:=aD hj
   have hq1:q≠0∧0<q:=by simp at hq;omega
   rw [Nat.zero_add]
   refine bnd (qA hj) ?_
   refine bnd (a:=decide (p % q=0)&&!decide (p=q)) ?_ ?_
   ·
    refine bnd (aH hq1.1) (stp ?_)
    rw [Int.tmod_eq_emod_of_nonneg (by omega)]
    by_cases h1:p % q=0
    · rw [dT h1];rfl
    · rw [dF h1];rfl
   · cases (decide (p % q=0)&&!decide (p=q)) <;> rfl
  · cases ([2,3,5,7].all fun q:Int=>!(decide (p % q=0)&&!decide (p=q))) <;> rfl
theorem cC {p:Int} (h:fdB p=true):2≤p∧p≤97:=by
 unfold fdB at h
 exact rng_true.1 (by revert h;cases rng p 2 97 <;> simp)
def inP (p:Int) (l:List Int):Prop:=∀ x∈l,0≤x∧x<p
theorem l1All (l:List Int) (lo hi:Int):xJ l lo hi=some (l.all fun x=>rng x lo hi):=by
 refine sqW (zG (fun x=>rng x lo hi) l 0 ?_ (t:=false)) ?_
 ·
  intro j x hj
  rw [Nat.zero_add]
  refine bnd (qA hj) (bnd (l1In x lo hi) (stp ?_))
  cases rng x lo hi <;> rfl
 · cases (l.all fun x=>rng x lo hi) <;> rfl
def sK (p:Int) (n:Nat) (m:List (List Int)):Prop:=∀ r∈m,r.length=n∧inP p r
end Go.Proofs.YtlggnmkelgplnaaGreatDoor
namespace Go.Proofs.YtlggnmkelgplnaaGreatDoor
theorem sT {α β:Type} (Pa:α→Prop) (Pb:β→Prop) (g:β→α→α){f:Nat→List α→Option (List α)} (W:List β)
  (hf:∀ (j:Nat) (b:β) (a:α) (s:List α),W[j]?=some b→s[j]?=some a→Pa a→Pb b→j<s.length→f j s=some (s.set j (g b a))) :
  ∀ (rest preW:List β) (pre rest':List α),W=preW++rest→pre.length=preW.length→rest'.length=rest.length→(∀ b∈rest,Pb b)→(∀ a∈rest',Pa a)→forS f rest.length preW.length (pre++rest')=some (pre++List.zipWith g rest rest')
 | [],preW,pre,[],_,_,_,_,_=>by simp [forS]
 | [],_,_,_::_,_,_,h,_,_=>by simp at h
 | _::_,_,_,[],_,_,h,_,_=>by simp at h
 | b::rest,preW,pre,a::rest',hW,hp,hr,hb,ha=>by
  have h1:=hf pre.length b a (pre++a::rest') (by rw [hW,hp];exact lN _ _ _) (lN _ _ _) (ha a (List.mem_cons_self ..)) (hb b (List.mem_cons_self ..)) (by simp)
  have ih:=sT Pa Pb g W hf rest (preW++[b]) (pre++[g b a]) rest' (by rw [hW,app1]) (by simp [hp]) (by simpa using hr) (fun x hx=>hb x (List.mem_cons_of_mem _ hx)) (fun x hx=>ha x (List.mem_cons_of_mem _ hx))
  rw [Dm_,app1 pre rest' (g b a)] at h1
  rw [hp] at h1
  show (f preW.length (pre++a::rest')).bind _=_
  rw [h1]
  show forS f rest.length (preW.length+1) _=_
  rw [show preW.length+1=(preW++[b]).length by simp,ih]
  simp
def wE {α β σ:Type} (g:σ→α→β→σ):List α→List β→σ→σ
 | a::l,b::m,s=>wE g l m (g s a b)
 | _,_,s=>s
theorem tZ {α β σ:Type} (g:σ→α→β→σ) (I:σ→Prop){f:Nat→σ→Option σ} (A:List α) (B:List β)
  (hf:∀ (j:Nat) (a:α) (b:β) (s:σ),A[j]?=some a→B[j]?=some b→I s→f j s=some (g s a b)∧I (g s a b)) :
  ∀ (rest preA:List α) (rest' preB:List β) (s:σ),A=preA++rest→B=preB++rest'→preA.length=preB.length→rest.length≤rest'.length→I s→forS f rest.length preA.length s=some (wE g rest rest' s)∧I (wE g rest rest' s)
 | [],_,m,_,s,_,_,_,_,hI=>by
  have:wE g [] m s=s:=by cases m <;> rfl
  rw [this];exact ⟨rfl,hI⟩
 | _::_,_,[],_,_,_,_,_,h,_=>by simp at h
 | a::rest,preA,b::rest',preB,s,hA,hB,hp,hr,hI=>by
  obtain ⟨h1,h2⟩:=hf preA.length a b s (by rw [hA];exact lN _ _ _) (by rw [hB,hp];exact lN _ _ _) hI
  obtain ⟨h3,h4⟩:=tZ g I A B hf rest (preA++[a]) rest' (preB++[b]) (g s a b) (by rw [hA,app1]) (by rw [hB,app1]) (by simp [hp]) (by simpa using hr) h2
  refine ⟨?_,h4⟩
  show (f preA.length s).bind _=_
  rw [h1]
  show forS f rest.length (preA.length+1) _=_
  rw [show preA.length+1=(preA++[a]).length by simp,h3]
  rfl
theorem xL {p c y:Int} (hp:2≤p∧p≤97) (hc:0≤c∧c<p) (hy:0≤y∧y<p):0≤c*y∧c*y≤9409:=by
 refine ⟨Int.mul_nonneg hc.1 hy.1,?_⟩
 calc c*y≤97*97:=Int.mul_le_mul (by omega) (by omega) hy.1 (by omega)
  _=9409:=by decide
theorem nK {p x:Int} (hp:2≤p):0≤x % p∧x % p<p:=⟨Int.emod_nonneg _ (by omega),Int.emod_lt_of_pos _ (by omega)⟩
def mE (p c:Int) (acc row:List Int):List Int:=List.zipWith (fun y x=>(x+c*y) % p) row acc
theorem zU {p:Int} (hp:2≤p) (c:Int):∀ (row acc:List Int),inP p (mE p c acc row)
 | [],_=>by intro x hx;simp [mE] at hx
 | _::_,[]=>by intro x hx;simp [mE] at hx
 | y::row,x::acc=>by
  intro z hz
  have:z∈(x+c*y) % p::mE p c acc row:=hz
  cases this with
  | head=>exact nK hp
  | tail _ h=>exact zU hp c row acc z h
theorem Am_ {p c:Int}{acc row:List Int} (h:row.length=acc.length):(mE p c acc row).length=acc.length:=by simp [mE,h]
def iD (p:Int) (n:Nat) (rows:List (List Int)) (cs:List Int):List Int:=wE (fun acc row c=>mE p c acc row) rows cs (List.replicate n 0)
def okR (p:Int) (n:Nat) (l:List Int):Prop:=l.length=n∧inP p l
theorem zZ {p:Int} (hp:2≤p) (n:Nat):okR p n (List.replicate n 0):=⟨by simp,by intro x hx;have:=List.eq_of_mem_replicate hx;omega⟩
theorem mod_ {p a:Int} (hp:2≤p) (ha:0≤a):xM p a=some (a % p):=by
 refine bnd (aH (by omega)) (stp ?_)
 rw [Int.tmod_eq_emod_of_nonneg ha]
 exact cFW (dF (by have:=nK (x:=a) hp;omega)) rfl
theorem G2_ {p c:Int}{n:Nat}{acc row:List Int} (hp:2≤p∧p≤97) (hc:0≤c∧c<p) (ha:okR p n acc) (hr:okR p n row):xH p acc c row=some (mE p c acc row):=by
 refine bnd (sT (fun x=>0≤x∧x<p) (fun x=>0≤x∧x<p) (fun y x=>(x+c*y) % p) row ?_ row [] [] acc rfl rfl (by rw [ha.1,hr.1]) hr.2 ha.2) rfl
 intro j y x s hy hx hxp hyp hj
 have:=xL hp hc hyp
 refine bnd (qA hy) (bnd (qA hx) (bnd (jK (by omega) (by omega)) (bnd (qB (by omega) (by omega)) (bnd (mod_ (by omega) (by omega)) ?_))))
 exact bnd (oD _ hj) rfl
theorem eJ {n:Nat} (h:n≤iB):nG (n:Int)=some (List.replicate n 0):=bnd (bI _ h) rfl
theorem C6_ {p:Int}{n:Nat}{rows:List (List Int)}{cs:List Int} (hp:2≤p∧p≤97) (hn:n≤iB) (hr:sK p n rows) (hc:inP p cs) (hl:rows.length≤cs.length):oM p cs rows (n:Int)=some (iD p n rows cs)∧okR p n (iD p n rows cs):=by
 have:=tZ (fun acc row c=>mE p c acc row) (okR p n) (f:=fun (k8:Nat) (s55:List Int)=>
   (idxO rows ((k8:Nat):Int)).bind fun a70=>
   (idxO cs ((k8:Nat):Int)).bind fun a80=>
   (xH p s55 a80 a70).bind fun y82=>
   some y82) rows cs (by
  intro j row c s hrow hc' hs
  have h1:=hr row (aD hrow)
  refine ⟨bnd (qA hrow) (bnd (qA hc') (bnd (G2_ hp (hc c (aD hc')) hs h1) rfl)),?_,zU hp.1 c row s⟩
  rw [Am_ (by rw [h1.1,hs.1]),hs.1]) rows [] cs [] _ rfl rfl rfl hl (zZ hp.1 n)
 exact ⟨bnd (eJ hn) (bnd this.1 rfl),this.2⟩
theorem DU_ {p:Int}{n:Nat}{rows:List (List Int)}{cs:List Int} (hp:2≤p∧p≤97) (hn:n≤iB) (hr:sK p n rows) (hc:inP p cs) (hl:rows.length≤cs.length):sM p (n:Int) rows cs=some (iD p n rows cs):=by
 refine bnd (bI _ hn) (bnd (tZ (fun acc row c=>mE p c acc row) (okR p n) rows cs ?_ rows [] cs [] _ rfl rfl rfl hl (zZ hp.1 n)).1 rfl)
 intro j row c s hrow hc' hs
 have h1:=hr row (aD hrow)
 have hcp:=hc c (aD hc')
 refine ⟨bnd (qA hrow) (bnd (sT (fun x=>0≤x∧x<p) (fun x=>0≤x∧x<p) (fun y x=>(x+c*y) % p) row ?_ row [] [] s rfl rfl (by rw [h1.1,hs.1]) h1.2 hs.2) rfl),?_,zU hp.1 c row s⟩
 ·
  intro i y x t hy hx hxp hyp hi
  have:=xL hp hcp hyp
  refine bnd (qA hy) (bnd (qA hx) (bnd (qA hc') (bnd (jK (by omega) (by omega)) (bnd (qB (by omega) (by omega)) (bnd (aH (by omega)) ?_)))))
  rw [Int.tmod_eq_emod_of_nonneg (by omega)]
  exact bnd (oD _ hi) rfl
 · rw [Am_ (by rw [h1.1,hs.1]),hs.1]
def mulM (p:Int) (n:Nat) (rows m:List (List Int)):List (List Int):=rows.map (iD p n m)
theorem own_ {l:List Int} (h:l.length≤iB):vI l=some l:=bnd (vB (by simpa using h)) rfl
theorem iV {l:List Int} (h:l.length≤iB):yJ l=some l:=bnd (vB (by simpa using h)) rfl
theorem DI_ {m:List (List Int)} (hl:m.length≤iB) (h:∀ r∈m,r.length≤iB):nS m=some m:=by
 refine bnd (B7_ _ hl) (bnd (a:=m) ?_ rfl)
 refine (tE (fun r=>r) m [] (by simpa using hl) ?_).trans (by simp)
 intro j x s hx hs
 have hj:j<m.length:=(List.getElem?_eq_some_iff.1 hx).1
 exact bnd (qA hx) (bnd (iV (h x (aD hx))) (bnd (vB (by simp at hs ⊢;omega)) rfl))
end Go.Proofs.YtlggnmkelgplnaaGreatDoor
namespace Go.Proofs.YtlggnmkelgplnaaGreatDoor
def powBody (p:Int) (s:Int×Int×Int):Option ((Int×Int×Int)⊕Int):=
   (some (decide ((0:Int)<s.2.1))).bind fun a226=>
   cond a226
   (((xD s.2.1 2).bind fun a247=>
     (some (decide (a247=1))).bind fun a249=>
     cond a249
     ((mF s.2.2 s.1).bind fun a253=>
      (xD a253 p).bind fun a255=>
      some a255)
     (some s.2.2)).bind fun (s241:Int)=>
    (mF s.1 s.1).bind fun a259=>
    (xD a259 p).bind fun a261=>
    (quoO s.2.1 2).bind fun a263=>
    some (.inl (a261,a263,s241)))
   (some (.inr s.2.2))
def invN (p x:Nat):Option Int:=jG (powBody p) 9 ((x:Int),(p:Int)-2+(if p=2 then 1 else 0),(1:Int).tmod p)
def wV (p x:Nat):Bool:=match invN p x with
 | some v=>decide (((x:Int)*v) % p=1)&&decide (0≤v)&&decide (v<p)
 | none=>false
theorem inv_all:((List.range 98).all fun p=>!fdB p||(List.range p).all fun x=>decide (x=0)||wV p x)=true:=by decide +kernel
def yD (p x:Int):Int:=(invN p.toNat x.toNat).getD 0
theorem jQ {p x:Int} (hf:fdB p=true) (hx:0<x∧x<p):lX p x=some (yD p x)∧(x*yD p x) % p=1∧0≤yD p x∧yD p x<p:=by
 have hp:=cC hf
 obtain ⟨k,rfl⟩:∃ k:Nat,p=(k:Int):=⟨p.toNat,by omega⟩
 obtain ⟨y,rfl⟩:∃ y:Nat,x=(y:Int):=⟨x.toNat,by omega⟩
 have h1:=List.all_eq_true.1 inv_all k (List.mem_range.2 (by omega))
 rw [hf] at h1
 have h2:∀ x:Nat,x<k→x=0∨wV k x=true:=by simpa using h1
 have h3:wV k y=true:=by
  rcases h2 y (by omega) with h2 | h2
  · omega
  · exact h2
 unfold wV at h3
 unfold yD
 rw [Int.toNat_natCast,Int.toNat_natCast]
 cases hv:invN k y with
 | none=>rw [hv] at h3;cases h3
 | some v=>
  rw [hv] at h3
  simp only [Bool.and_eq_true,decide_eq_true_eq] at h3
  refine ⟨?_,h3.1.1,h3.1.2,h3.2⟩
  refine bnd (cD (by omega) (by omega)) (stp (bnd (a:=(if k=2 then 1 else 0:Int)) ?_ (bnd (qB (by split <;> omega) (by split <;> omega)) (bnd (a:=v) ?_ rfl))))
  ·
   by_cases h:k=2
   · subst h;rfl
   · rw [dF (by omega),if_neg h];rfl
  ·
   refine bnd (aH (by omega)) (bnd ?_ rfl)
   exact whileO_iff.2 ⟨9,hv⟩
theorem Ge_ {p x s t:Int} (h1:(x*s) % p=1) (h2:(x*t) % p=1) (hs:0≤s∧s<p) (ht:0≤t∧t<p):s=t:=by
 have e1:s % p=(s*((x*t) % p)) % p:=by rw [h2,Int.mul_one]
 have e2:t % p=(t*((x*s) % p)) % p:=by rw [h1,Int.mul_one]
 rw [Int.mul_emod,Int.emod_emod_of_dvd _ (Int.dvd_refl p),← Int.mul_emod] at e1 e2
 rw [show s*(x*t)=t*(x*s) by rw [Int.mul_left_comm,Int.mul_comm s t,Int.mul_left_comm]] at e1
 rw [←e2,Int.emod_eq_of_lt hs.1 hs.2,Int.emod_eq_of_lt ht.1 ht.2] at e1
 exact e1
theorem fdInv_ {p x:Int} (hf:fdB p=true) (hx:0<x∧x<p):yS p x=some (yD p x):=by
 have hp:=cC hf
 obtain ⟨_,h1,h2,h3⟩:=jQ hf hx
 have h0:yD p x≠0:=by intro h;rw [h,Int.mul_zero,Int.zero_emod] at h1;cases h1
 obtain ⟨k,hk⟩:∃ k:Nat,yD p x=(k:Int)+1:=⟨(yD p x-1).toNat,by omega⟩
 refine sqW (yM (fun j=>(j:Int)+1) (t:=.inr (yD p x)) k ?_ ?_) rfl
 ·
  intro j hj
  have hm:=xL hp (by omega:0≤x∧x<p) (by omega:0≤(j:Int)+1∧(j:Int)+1<p)
  refine stp (cTW (dT (by omega)) (bnd (jK (by omega) (by omega)) (bnd (aH (by omega)) (stp ?_))))
  rw [Int.tmod_eq_emod_of_nonneg hm.1]
  refine cFW (dF ?_) (bnd (qB (by omega) (by omega)) rfl)
  intro h
  have:=Ge_ h h1 (by omega) (by omega)
  omega
 ·
  have hm:=xL hp (by omega:0≤x∧x<p) (by omega:0≤(k:Int)+1∧(k:Int)+1<p)
  refine stp (cTW (dT (by omega)) (bnd (jK (by omega) (by omega)) (bnd (aH (by omega)) (stp ?_))))
  rw [Int.tmod_eq_emod_of_nonneg hm.1,← hk]
  exact cTW (dT h1) rfl
theorem modG {p a:Int} (hp:2≤p∧p≤97) (_:-1000000≤a∧a≤1000000):xM p a=some (a % p):=by
 have h1:=Int.tmod_add_mul_tdiv a p
 have h2:=Int.tmod_lt_of_pos a (show 0<p by omega)
 have h3:=Int.lt_tmod_of_pos a (show 0<p by omega)
 have h4:a % p=a.tmod p % p:=by
  conv=>lhs;rw [←h1]
  rw [Int.add_mul_emod_self_left]
 refine bnd (aH (by omega)) (stp ?_)
 by_cases h:a.tmod p<0
 ·
  refine cTW (dT h) (bnd (qB (by omega) (by omega)) ?_)
  rw [h4,← Int.add_emod_right,Int.emod_eq_of_lt (by omega) (by omega)]
 ·
  refine cFW (dF h) ?_
  rw [h4,Int.emod_eq_of_lt (by omega) (by omega)]
theorem sub_mod (v p t:Int):(v+p-t % p) % p=(v-t) % p:=by
 have h:=Int.emod_add_mul_ediv t p
 have:v+p-t % p=(v-t)+p*(1+t / p):=by rw [Int.mul_add,Int.mul_one];omega
 rw [this,Int.add_mul_emod_self_left]
end Go.Proofs.YtlggnmkelgplnaaGreatDoor
namespace Go.Proofs.YtlggnmkelgplnaaGreatDoor
abbrev Rows:=List (List Int)
def gr (m:Rows) (i:Nat):List Int:=m.getD i []
def el (r:List Int) (c:Nat):Int:=r.getD c 0
theorem uE {m:Rows}{i:Nat} (h:i<m.length):m[i]?=some (gr m i):=by unfold gr;rw [List.getD_eq_getElem?_getD,List.getElem?_eq_getElem h];rfl
theorem jJ {r:List Int}{c:Nat} (h:c<r.length):r[c]?=some (el r c):=by unfold el;rw [List.getD_eq_getElem?_getD,List.getElem?_eq_getElem h];rfl
theorem lD {m:Rows}{i:Nat} (h:i<m.length):idxO m (i:Int)=some (gr m i):=qA (uE h)
theorem iE {r:List Int}{c:Nat} (h:c<r.length):idxO r (c:Int)=some (el r c):=qA (jJ h)
theorem zL {m:Rows}{i:Nat} (h:i<m.length):gr m i∈m:=aD (uE h)
theorem bH {r:List Int}{c:Nat} (h:c<r.length):el r c∈r:=aD (jJ h)
theorem gI {m:Rows}{i j:Nat}{r:List Int} (h:i<m.length):gr (m.set i r) j=if i=j then r else gr m j:=by
 unfold gr
 rw [List.getD_eq_getElem?_getD,List.getD_eq_getElem?_getD,List.getElem?_set]
 split
 · rename_i e;subst e;simp
 · rfl
theorem wL {m:Rows}{i:Nat} (h:i<m.length):m.set i (gr m i)=m:=by
 have h2:gr m i=m[i]:=by have:=uE h;rw [List.getElem?_eq_getElem h] at this;exact (Option.some.inj this).symm
 rw [h2,List.set_getElem_self]
def okM (p:Int) (n:Nat) (m:Rows):Prop:=sK p n m
theorem kC {p:Int}{n:Nat}{m:Rows} (h:okM p n m){i:Nat} (hi:i<m.length):(gr m i).length=n∧inP p (gr m i):=h _ (zL hi)
theorem mH {p:Int}{n:Nat}{m:Rows} (h:okM p n m){i c:Nat} (hi:i<m.length) (hc:c<n):0≤el (gr m i) c∧el (gr m i) c<p:=by
 have h1:=kC h hi
 exact h1.2 _ (bH (by omega))
theorem At_ {p:Int}{n:Nat}{m:Rows} (h:okM p n m){i:Nat}{r:List Int} (hr:r.length=n∧inP p r):okM p n (m.set i r):=by
 intro x hx
 rcases List.mem_or_eq_of_mem_set hx with hx | rfl
 · exact h x hx
 · exact hr
def rD (g:Nat→Int→Int) (r:List Int):List Int:=r.mapIdx g
theorem yT (g:Nat→Int→Int) (r:List Int):(rD g r).length=r.length:=by simp [rD]
theorem Ds_ {p:Int} (hp:2≤p){g:Nat→Int→Int} (hg:∀ j x,∃ y,g j x=y % p) (r:List Int):inP p (rD g r):=by
 intro x hx
 obtain ⟨j,hj,rfl⟩:=List.mem_iff_getElem.1 hx
 simp only [rD,List.getElem_mapIdx]
 obtain ⟨y,hy⟩:=hg j (r[j]'(by simpa [rD] using hj))
 rw [hy];exact nK hp
def part (g:Nat→Int→Int) (r:List Int) (j:Nat):List Int:=(r.take j).mapIdx g++r.drop j
theorem sV (g:Nat→Int→Int) (r:List Int):part g r 0=r:=by simp [part]
theorem zQ (g:Nat→Int→Int) (r:List Int):part g r r.length=rD g r:=by simp [part,rD]
theorem dQ (g:Nat→Int→Int) (r:List Int) (j:Nat):(part g r j).length=r.length:=by simp [part];omega
theorem vT (g:Nat→Int→Int) (r:List Int){j:Nat} (h:j<r.length):(part g r j)[j]?=some (el r j):=by
 unfold part
 rw [List.getElem?_append_right (by simp;omega)]
 have:j-((r.take j).mapIdx g).length=0:=by simp;omega
 rw [this,List.getElem?_drop,Nat.add_zero,jJ h]
theorem cQ (g:Nat→Int→Int) (r:List Int){j:Nat} (h:j<r.length):(part g r j).set j (g j (el r j))=part g r (j+1):=by
 have h2:el r j=r[j]:=by have:=jJ h;rw [List.getElem?_eq_getElem h] at this;exact (Option.some.inj this).symm
 rw [h2]
 exact CE_ r g j h
def qG (p k:Int):Nat→Int→Int:=fun _ a=>(a*k) % p
def sE (p f:Int) (w:List Int):Nat→Int→Int:=fun j x=>(x-f*el w j) % p
theorem DS_ {m:Rows}{i j:Nat} (hi:i<m.length) (hj:j<m.length):cM m (i:Int) (j:Int)=some ((m.set i (gr m j)).set j (gr m i)):=by
 unfold cM
 refine bnd (lD hi) (bnd (lD hj) (bnd (oD _ hi) (oD _ (by rw [List.length_set];exact hj))))
def kB (m:Rows) (i j:Nat):Rows:=(m.set i (gr m j)).set j (gr m i)
theorem BZ_ {m:Rows}{i:Nat} (h:i<m.length):kB m i i=m:=by
 unfold kB;rw [List.set_set,wL h]
theorem swapM_len (m:Rows) (i j:Nat):(kB m i j).length=m.length:=by simp [kB]
theorem rL {p:Int}{n:Nat}{m:Rows} (h:okM p n m){i j:Nat} (hi:i<m.length) (hj:j<m.length):okM p n (kB m i j):=
 At_ (At_ h (kC h hj)) (kC h hi)
theorem swapM_gr {m:Rows}{i j:Nat} (hi:i<m.length) (hj:j<m.length):gr (kB m i j) i=gr m j:=by
 unfold kB
 rw [gI (by rw [List.length_set];exact hj)]
 split
 · rename_i e;subst e;rfl
 · rw [gI hi,if_pos rfl]
def gJ (p k:Int) (m:Rows) (r:Nat):Rows:=m.set r (rD (qG p k) (gr m r))
theorem F3_ (p k:Int) (m:Rows) (r:Nat):(gJ p k m r).length=m.length:=by simp [gJ]
theorem GC_ {p k:Int}{n:Nat}{m:Rows} (hp:2≤p) (h:okM p n m){r:Nat} (hr:r<m.length):okM p n (gJ p k m r):=
 At_ h ⟨by rw [yT];exact (kC h hr).1,Ds_ hp (fun j x=>⟨_,rfl⟩) _⟩
theorem D5_ {p a b:Int} (hp:2≤p∧p≤97) (ha:0≤a∧a<p) (hb:0≤b∧b<p):gH p a b=some ((a*b) % p):=by
 have hm:=xL hp ha hb
 refine bnd (jK (by omega) (by omega)) (bnd (aH (by omega)) ?_)
 rw [Int.tmod_eq_emod_of_nonneg hm.1]
theorem fdSub_ {p a b:Int} (hp:2≤p∧p≤97) (ha:0≤a∧a<p) (hb:0≤b∧b<p):lL p a b=some ((a+p-b) % p):=by
 refine bnd (qB (by omega) (by omega)) (bnd (cD (by omega) (by omega)) (bnd (aH (by omega)) ?_))
 rw [Int.tmod_eq_emod_of_nonneg (by omega)]
theorem Gz_ {p k:Int}{n:Nat}{m:Rows}{r:Nat} (hp:2≤p∧p≤97) (h:okM p n m) (hr:r<m.length) (hk:0≤k∧k<p) :
  forS (fun (j:Nat) (s:List (List Int))=>
        (idxO s (r:Int)).bind fun a26854=>
        (idxO s (r:Int)).bind fun a26863=>
        (idxO a26863 ((j:Nat):Int)).bind fun a26872=>
        (gH p a26872 k).bind fun y26874=>
        (setO a26854 ((j:Nat):Int) y26874).bind fun a26884=>
        (setO s (r:Int) a26884).bind fun a26887=>
        some a26887) (gr m r).length 0 m=some (gJ p k m r):=by
 have hrow:=kC h hr
 have:=gD (n:=(gr m r).length) (fun j=>m.set r (part (qG p k) (gr m r) j)) (f:=fun (j:Nat) (s:List (List Int))=>
        (idxO s (r:Int)).bind fun a26854=>
        (idxO s (r:Int)).bind fun a26863=>
        (idxO a26863 ((j:Nat):Int)).bind fun a26872=>
        (gH p a26872 k).bind fun y26874=>
        (setO a26854 ((j:Nat):Int) y26874).bind fun a26884=>
        (setO s (r:Int) a26884).bind fun a26887=>
        some a26887) (by
  intro j hj
  have hl:r<(m.set r (part (qG p k) (gr m r) j)).length:=by rw [List.length_set];exact hr
  have hg:gr (m.set r (part (qG p k) (gr m r) j)) r=part (qG p k) (gr m r) j:=by rw [gI hr,if_pos rfl]
  have h1:=lD hl
  rw [hg] at h1
  refine bnd h1 (bnd h1 (bnd (qA (vT _ _ hj)) (bnd (D5_ hp (hrow.2 _ (bH hj)) hk) (bnd (oD _ (by rw [dQ];exact hj)) (bnd (oD _ hl) ?_)))))
  rw [List.set_set]
  congr 2
  exact cQ (qG p k) (gr m r) hj)
 rw [sV,wL hr,zQ] at this
 exact this
theorem GS_ {p k:Int}{r:List Int} (hp:2≤p∧p≤97) (h:inP p r) (hk:0≤k∧k<p) :
  forS (fun (j:Nat) (s:List Int)=>
     (idxO s ((j:Nat):Int)).bind fun a137=>
     (mF a137 k).bind fun a140=>
     (xD a140 p).bind fun a142=>
     (setO s ((j:Nat):Int) a142).bind fun a156=>
     some a156) r.length 0 r=some (rD (qG p k) r):=by
 have:=gD (n:=r.length) (fun j=>part (qG p k) r j) (f:=fun (j:Nat) (s:List Int)=>
     (idxO s ((j:Nat):Int)).bind fun a137=>
     (mF a137 k).bind fun a140=>
     (xD a140 p).bind fun a142=>
     (setO s ((j:Nat):Int) a142).bind fun a156=>
     some a156) (by
  intro j hj
  have hm:=xL hp (h _ (bH hj)) hk
  refine bnd (qA (vT _ _ hj)) (bnd (jK (by omega) (by omega)) (bnd (aH (by omega)) (bnd (oD _ (by rw [dQ];exact hj)) ?_)))
  rw [Int.tmod_eq_emod_of_nonneg hm.1]
  exact congrArg some (cQ (qG p k) r hj))
 rw [sV,zQ] at this
 exact this
theorem specSub {p f:Int}{n:Nat}{m:Rows}{r i:Nat} (hp:2≤p∧p≤97) (h:okM p n m) (hr:r<m.length) (hi:i<m.length) (hri:i≠r) (hf:0≤f∧f<p) :
  forS (fun (j:Nat) (s:List (List Int))=>
            (idxO s ((i:Nat):Int)).bind fun a28591=>
            (idxO s ((i:Nat):Int)).bind fun a28600=>
            (idxO s (r:Int)).bind fun a28609=>
            (idxO a28600 ((j:Nat):Int)).bind fun a28618=>
            (idxO a28609 ((j:Nat):Int)).bind fun a28626=>
            (gH p f a28626).bind fun y28628=>
            (lL p a28618 y28628).bind fun y28631=>
            (setO a28591 ((j:Nat):Int) y28631).bind fun a28641=>
            (setO s ((i:Nat):Int) a28641).bind fun a28644=>
            some a28644) (gr m i).length 0 m=some (m.set i (rD (sE p f (gr m r)) (gr m i))):=by
 have hrow:=kC h hi
 have hrr:=kC h hr
 have:=gD (n:=(gr m i).length) (fun j=>m.set i (part (sE p f (gr m r)) (gr m i) j)) (f:=fun (j:Nat) (s:List (List Int))=>
            (idxO s ((i:Nat):Int)).bind fun a28591=>
            (idxO s ((i:Nat):Int)).bind fun a28600=>
            (idxO s (r:Int)).bind fun a28609=>
            (idxO a28600 ((j:Nat):Int)).bind fun a28618=>
            (idxO a28609 ((j:Nat):Int)).bind fun a28626=>
            (gH p f a28626).bind fun y28628=>
            (lL p a28618 y28628).bind fun y28631=>
            (setO a28591 ((j:Nat):Int) y28631).bind fun a28641=>
            (setO s ((i:Nat):Int) a28641).bind fun a28644=>
            some a28644) (by
  intro j hj
  have hl:i<(m.set i (part (sE p f (gr m r)) (gr m i) j)).length:=by rw [List.length_set];exact hi
  have hl2:r<(m.set i (part (sE p f (gr m r)) (gr m i) j)).length:=by rw [List.length_set];exact hr
  have hg:gr (m.set i (part (sE p f (gr m r)) (gr m i) j)) i=part (sE p f (gr m r)) (gr m i) j:=by rw [gI hi,if_pos rfl]
  have hg2:gr (m.set i (part (sE p f (gr m r)) (gr m i) j)) r=gr m r:=by rw [gI hi,if_neg hri]
  have h1:=lD hl
  have h2:=lD hl2
  rw [hg] at h1
  rw [hg2] at h2
  have hjr:j<(gr m r).length:=by omega
  have hm:=nK (p:=p) (x:=f*el (gr m r) j) hp.1
  refine bnd h1 (bnd h1 (bnd h2 (bnd (qA (vT _ _ hj)) (bnd (iE hjr) (bnd (D5_ hp hf (hrr.2 _ (bH hjr))) (bnd (fdSub_ hp (hrow.2 _ (bH hj)) hm) (bnd (oD _ (by rw [dQ];exact hj)) (bnd (oD _ hl) ?_))))))))
  rw [List.set_set,sub_mod]
  congr 2
  exact cQ (sE p f (gr m r)) (gr m i) hj)
 rw [sV,wL hi,zQ] at this
 exact this
theorem implSub {p f:Int}{v w:List Int} (hp:2≤p∧p≤97) (hv:inP p v) (hw:inP p w) (hl:v.length=w.length) (hf:0≤f∧f<p):xH p v (0-f) w=some (rD (sE p f w) v):=by
 have:=gD (n:=w.length) (fun j=>part (sE p f w) v j) (f:=fun (k3:Nat) (s72:List Int)=>
   (idxO w ((k3:Nat):Int)).bind fun a87=>
   (idxO s72 ((k3:Nat):Int)).bind fun a95=>
   (mF (0-f) a87).bind fun a97=>
   (sA a95 a97).bind fun a99=>
   (xM p a99).bind fun y101=>
   (setO s72 ((k3:Nat):Int) y101).bind fun a110=>
   some a110) (by
  intro j hj
  have hjv:j<v.length:=by omega
  have h1:=xL hp hf (hw _ (bH hj))
  have h2:=hv _ (bH hjv)
  have h3:(0-f)*el w j = -(f*el w j):=by rw [Int.zero_sub,Int.neg_mul]
  refine bnd (iE hj) (bnd (qA (vT _ _ hjv)) (bnd (jK (by omega) (by omega)) (bnd (qB (by omega) (by omega)) (bnd (modG hp (by omega)) (bnd (oD _ (by rw [dQ];exact hjv)) ?_)))))
  rw [h3,← Int.sub_eq_add_neg]
  exact congrArg some (cQ (sE p f w) v hjv))
 rw [sV,← hl,zQ] at this
 rw [hl] at this
 exact bnd this rfl
end Go.Proofs.YtlggnmkelgplnaaGreatDoor
namespace Go.Proofs.YtlggnmkelgplnaaGreatDoor
def gC {α:Type} (g:Nat→α→α) (l:List α) (j:Nat):List α:=(l.take j).mapIdx g++l.drop j
theorem partG0 {α:Type} (g:Nat→α→α) (l:List α):gC g l 0=l:=by simp [gC]
theorem uQ {α:Type} (g:Nat→α→α) (l:List α):gC g l l.length=l.mapIdx g:=by simp [gC]
theorem iH {α:Type} (g:Nat→α→α) (l:List α) (j:Nat):(gC g l j).length=l.length:=by simp [gC];omega
theorem GL_ {α:Type} (g:Nat→α→α) (l:List α) (j k:Nat):(gC g l j)[k]?=if k<j then l[k]?.map (g k) else l[k]?:=by
 unfold gC
 by_cases h:k<((l.take j).mapIdx g).length
 ·
  rw [List.getElem?_append_left h]
  have h2:k<j:=by simp at h;omega
  rw [if_pos h2,List.getElem?_mapIdx,List.getElem?_take,if_pos h2]
 ·
  rw [List.getElem?_append_right (by omega)]
  have h1:¬k<min j l.length:=by simpa using h
  by_cases h2:k<j
  ·
   rw [if_pos h2,List.getElem?_eq_none (by omega:l.length≤k)]
   rw [List.getElem?_drop,List.getElem?_eq_none (by simp;omega)];rfl
  ·
   rw [if_neg h2,List.getElem?_drop]
   by_cases h3:l.length≤j
   · rw [List.getElem?_eq_none (by simp;omega),List.getElem?_eq_none (by omega)]
   · congr 1;simp;omega
theorem mK {g:Nat→List Int→List Int}{m:Rows}{j k:Nat} (hk:k<m.length):gr (gC g m j) k=if k<j then g k (gr m k) else gr m k:=by
 have h1:=uE (m:=gC g m j) (i:=k) (by rw [iH];exact hk)
 rw [GL_,uE hk] at h1
 split at h1
 · rename_i h;rw [if_pos h];exact (Option.some.inj h1).symm
 · rename_i h;rw [if_neg h];exact (Option.some.inj h1).symm
theorem lT {g:Nat→List Int→List Int}{m:Rows}{j:Nat} (hj:j<m.length):(gC g m j).set j (g j (gr m j))=gC g m (j+1):=by
 have h2:gr m j=m[j]:=by have:=uE hj;rw [List.getElem?_eq_getElem hj] at this;exact (Option.some.inj this).symm
 rw [h2]
 exact CE_ m g j hj
def scanN (m:Rows) (c:Nat):Nat→Nat→Nat
 | 0,k=>k
 | d+1,k=>if el (gr m k) c=0 then scanN m c d (k+1) else k
theorem aI (m:Rows) (c:Nat):∀ (d k:Nat),k+d=m.length→k≤scanN m c d k∧scanN m c d k≤m.length∧(scanN m c d k<m.length→el (gr m (scanN m c d k)) c≠0)
 | 0,k,h=>⟨Nat.le_refl _,by simp only [scanN];omega,fun h2=>by simp only [scanN] at h2;omega⟩
 | d+1,k,h=>by
  unfold scanN
  split
  ·
   obtain ⟨h1,h2,h3⟩:=aI m c d (k+1) (by omega)
   exact ⟨by omega,h2,h3⟩
  ·
   rename_i hne
   exact ⟨Nat.le_refl _,by omega,fun _=>hne⟩
theorem scan_ {f:Int→Option (Int⊕Int)}{m:Rows}{c:Nat} (hf:∀ k:Nat,k<m.length→f (k:Int)=some (if el (gr m k) c=0 then .inl ((k:Int)+1) else .inr (k:Int))) (he:f (m.length:Int)=some (.inr (m.length:Int))) :
  ∀ (d k:Nat),k+d=m.length→mC f (k:Int)=some ((scanN m c d k:Nat):Int)
 | 0,k,h=>by
  have:k=m.length:=by omega
  subst this
  rw [xG he];rfl
 | d+1,k,h=>by
  have h1:=hf k (by omega)
  unfold scanN
  by_cases h0:el (gr m k) c=0
  ·
   rw [if_pos h0] at h1 ⊢
   rw [wI h1]
   exact scan_ hf he d (k+1) (by omega)
  ·
   rw [if_neg h0] at h1 ⊢
   exact xG h1
def xB (p:Int) (c r:Nat) (m a:Rows):Nat→List Int→List Int:=fun i row=>if i=r∨el (gr m i) c=0 then row else rD (sE p (el (gr m i) c) (gr a r)) row
def bO (p:Int) (c r:Nat) (m a:Rows):Rows:=a.mapIdx (xB p c r m a)
theorem GW_ (p:Int) (c r:Nat) (m a:Rows):(bO p c r m a).length=a.length:=by simp [bO]
theorem C2_ {p:Int}{c r:Nat}{m a:Rows}{i:Nat} (h:i<a.length):gr (bO p c r m a) i=xB p c r m a i (gr a i):=by
 have:=mK (g:=xB p c r m a) (j:=a.length) h
 rw [uQ,if_pos h] at this
 exact this
theorem Ai_ {p:Int}{c r n:Nat}{m a:Rows} (hp:2≤p){i:Nat}{row:List Int} (hr:row.length=n∧inP p row):(xB p c r m a i row).length=n∧inP p (xB p c r m a i row):=by
 unfold xB
 split
 · exact hr
 · exact ⟨by rw [yT];exact hr.1,Ds_ hp (fun j x=>⟨_,rfl⟩) _⟩
theorem Hu_ {p:Int}{c r n:Nat}{m a:Rows} (hp:2≤p) (h:okM p n a):okM p n (bO p c r m a):=by
 intro x hx
 obtain ⟨i,hi,rfl⟩:=List.mem_iff_getElem.1 hx
 unfold bO at hi ⊢
 rw [List.getElem_mapIdx]
 have hi':i<a.length:=by simpa using hi
 exact Ai_ hp (h _ (List.getElem_mem hi'))
def tB (p:Int) (c:Nat) (m a:Rows) (r k:Nat):Rows:=gJ p (yD p (el (gr (kB m r k) r) c)) (kB a r k) r
def nB (p:Int) (c:Nat) (m a:Rows) (r k:Nat):Rows:=bO p c r (tB p c m m r k) (tB p c m a r k)
theorem cN (p:Int) (c:Nat) (m a:Rows) (r k:Nat):(tB p c m a r k).length=a.length:=by unfold tB;rw [F3_,swapM_len]
theorem zD (p:Int) (c:Nat) (m a:Rows) (r k:Nat):(nB p c m a r k).length=a.length:=by unfold nB;rw [GW_,cN]
theorem nU {p:Int}{c n:Nat}{m a:Rows}{r k:Nat} (hp:2≤p) (h:okM p n a) (hr:r<a.length) (hk:k<a.length):okM p n (tB p c m a r k):=
 GC_ hp (rL h hr hk) (by rw [swapM_len];exact hr)
theorem pG {p:Int}{c n:Nat}{m a:Rows}{r k:Nat} (hp:2≤p) (h:okM p n a) (hr:r<a.length) (hk:k<a.length):okM p n (nB p c m a r k):=Hu_ hp (nU hp h hr hk)
def zB (p:Int):Nat→Nat→Rows→Rows→Nat→Rows×Rows×Nat
 | 0,_,m,a,r=>(m,a,r)
 | d+1,c,m,a,r=>
  if r<m.length then
   if scanN m c (m.length-r) r=m.length then zB p d (c+1) m a r
   else zB p d (c+1) (nB p c m m r (scanN m c (m.length-r) r)) (nB p c m a r (scanN m c (m.length-r) r)) (r+1)
  else (m,a,r)
noncomputable def bQ (p n:Int) (st:Rows×Int×Int):Option ((Rows×Int×Int)⊕(Rows×Int)):=
   ((some (decide (st.2.2<n))).bind fun a23919=>
    cond a23919
    ((some (decide (st.2.1<((st.1.length:Nat):Int)))).bind fun a23923=>
     some a23923)
    (some false)).bind fun (s23913:Bool)=>
   cond s23913
   (((mC (fun (s26612:Int)=>
       ((some (decide (s26612<((st.1.length:Nat):Int)))).bind fun a26650=>
        cond a26650
        ((idxO st.1 s26612).bind fun a26660=>
         (idxO a26660 st.2.2).bind fun a26669=>
         (some (decide (a26669=0))).bind fun a26671=>
         some a26671)
        (some false)).bind fun (s26644:Bool)=>
       cond s26644
       ((sA s26612 1).bind fun a26678=>
        some (.inl a26678))
       (some (.inr s26612))) st.2.1).bind fun (s26486:Int)=>
     (some (decide (s26486=((st.1.length:Nat):Int)))).bind fun a26682=>
     cond a26682
     (some (st.1,st.2.1))
     ((idxO st.1 st.2.1).bind fun _=>
      (idxO st.1 s26486).bind fun _=>
      (cM st.1 st.2.1 s26486).bind fun a26717=>
      (idxO a26717 st.2.1).bind fun a26725=>
      (idxO a26725 st.2.2).bind fun a26734=>
      (yS p a26734).bind fun y26736=>
      (idxO a26717 st.2.1).bind fun a26745=>
      (forS (fun (k26749:Nat) (s26838:List (List Int))=>
        (idxO s26838 st.2.1).bind fun a26854=>
        (idxO s26838 st.2.1).bind fun a26863=>
        (idxO a26863 ((k26749:Nat):Int)).bind fun a26872=>
        (gH p a26872 y26736).bind fun y26874=>
        (setO a26854 ((k26749:Nat):Int) y26874).bind fun a26884=>
        (setO s26838 st.2.1 a26884).bind fun a26887=>
        some a26887) a26745.length 0 a26717).bind fun (s26891:List (List Int))=>
      (forS (fun (k26893:Nat) (s28062:List (List Int))=>
        (((some (decide (((k26893:Nat):Int)=st.2.1))).bind fun a28393=>
          cond a28393
          (some true)
          ((idxO s28062 ((k26893:Nat):Int)).bind fun a28402=>
           (idxO a28402 st.2.2).bind fun a28411=>
           (some (decide (a28411=0))).bind fun a28413=>
           some a28413)).bind fun (s28387:Bool)=>
         cond s28387
         (some s28062)
         ((idxO s28062 ((k26893:Nat):Int)).bind fun a28425=>
          (idxO a28425 st.2.2).bind fun a28434=>
          (idxO s28062 ((k26893:Nat):Int)).bind fun a28442=>
          (forS (fun (k28446:Nat) (s28575:List (List Int))=>
            (idxO s28575 ((k26893:Nat):Int)).bind fun a28591=>
            (idxO s28575 ((k26893:Nat):Int)).bind fun a28600=>
            (idxO s28575 st.2.1).bind fun a28609=>
            (idxO a28600 ((k28446:Nat):Int)).bind fun a28618=>
            (idxO a28609 ((k28446:Nat):Int)).bind fun a28626=>
            (gH p a28434 a28626).bind fun y28628=>
            (lL p a28618 y28628).bind fun y28631=>
            (setO a28591 ((k28446:Nat):Int) y28631).bind fun a28641=>
            (setO s28575 ((k26893:Nat):Int) a28641).bind fun a28644=>
            some a28644) a28442.length 0 s28062).bind fun (s28648:List (List Int))=>
          some s28648)).bind fun (s28358:List (List Int))=>
        some s28358) s26891.length 0 s26891).bind fun (s28655:List (List Int))=>
      (sA st.2.1 1).bind fun a28657=>
      some (s28655,a28657))).bind fun (s26292:List (List Int)×Int)=>
    (sA st.2.2 1).bind fun a28662=>
    some (.inl (s26292.1,s26292.2,a28662)))
   (some (.inr (st.1,st.2.1)))
theorem Gy_ {p:Int}{n N c r:Nat}{m:Rows} (hf:fdB p=true) (h:okM p N m) (hn:n≤N) (hN:N≤1048576) (hL:m.length≤1048576) (hr:r<m.length) (hc:c<n) :
  bQ p (n:Int) (m,(r:Int),(c:Int))=some (.inl (if scanN m c (m.length-r) r=m.length then (m,(r:Int),(c:Int)+1) else (nB p c m m r (scanN m c (m.length-r) r),(r:Int)+1,(c:Int)+1))):=by
 have hp:=cC hf
 unfold bQ
 dsimp only
 refine bnd (a:=true) (stp (cTW (dT (by omega)) (stp (by rw [dT (by omega)])))) (cTW rfl ?_)
 have hsc:∀ {f:Int→Option (Int⊕Int)},(∀ k:Nat,k<m.length→f (k:Int)=some (if el (gr m k) c=0 then .inl ((k:Int)+1) else .inr (k:Int)))→f (m.length:Int)=some (.inr (m.length:Int))→mC f (r:Int)=some ((scanN m c (m.length-r) r:Nat):Int):=fun h1 h2=>scan_ h1 h2 _ _ (by omega)
 obtain ⟨s1,s2,s3⟩:=aI m c (m.length-r) r (by omega)
 generalize scanN m c (m.length-r) r=k at hsc s1 s2 s3 ⊢
 refine bnd (a:=if k=m.length then (m,(r:Int)) else (nB p c m m r k,(r:Int)+1)) ?_ ?_
 ·
  refine bnd (hsc ?_ ?_) (stp ?_)
  ·
   intro i hi
   have hrow:=kC h hi
   refine bnd (a:=decide (el (gr m i) c=0)) (stp (cTW (dT (by omega)) (bnd (lD hi) (bnd (iE (by omega)) rfl)))) ?_
   by_cases h0:el (gr m i) c=0
   · rw [if_pos h0];exact cTW (dT h0) (bnd (qB (by omega) (by omega)) rfl)
   · rw [if_neg h0];exact cFW (dF h0) rfl
  · exact bnd (a:=false) (stp (cFW (dF (by omega)) rfl)) (cFW rfl rfl)
  ·
   by_cases hk:k=m.length
   · rw [if_pos hk];exact cTW (dT (by omega)) rfl
   ·
    rw [if_neg hk]
    have hkl:k<m.length:=by omega
    have hne:=s3 hkl
    refine cFW (dF (by omega)) ?_
    refine bnd (lD hr) (bnd (lD hkl) (bnd (DS_ hr hkl) ?_))
    have h1:okM p N (kB m r k):=rL h hr hkl
    have hr1:r<(kB m r k).length:=by rw [swapM_len];exact hr
    have hrow:=kC h1 hr1
    have hel:=mH h1 hr1 (show c<N by omega)
    have hnz:el (gr (kB m r k) r) c≠0:=by rw [swapM_gr hr hkl];exact hne
    obtain ⟨_,i1,i2,i3⟩:=jQ hf (x:=el (gr (kB m r k) r) c) ⟨by omega,hel.2⟩
    change (idxO (kB m r k) (r:Int)).bind _=_
    refine bnd (lD hr1) (bnd (iE (by omega)) (bnd (fdInv_ hf ⟨by omega,hel.2⟩) (bnd (lD hr1) ?_)))
    refine bnd (Gz_ hp h1 hr1 ⟨i2,i3⟩) ?_
    change (forS _ (tB p c m m r k).length 0 (tB p c m m r k)).bind _=_
    have h2:okM p N (tB p c m m r k):=nU hp.1 h hr hkl
    have hl2:(tB p c m m r k).length=m.length:=cN p c m m r k
    have hr2:r<(tB p c m m r k).length:=by omega
    have:=gD (n:=(tB p c m m r k).length) (fun i=>gC (xB p c r (tB p c m m r k) (tB p c m m r k)) (tB p c m m r k) i) (f:=(fun (k26893:Nat) (s28062:List (List Int))=>
        (((some (decide (((k26893:Nat):Int)=(r:Int)))).bind fun a28393=>
          cond a28393
          (some true)
          ((idxO s28062 ((k26893:Nat):Int)).bind fun a28402=>
           (idxO a28402 (c:Int)).bind fun a28411=>
           (some (decide (a28411=0))).bind fun a28413=>
           some a28413)).bind fun (s28387:Bool)=>
         cond s28387
         (some s28062)
         ((idxO s28062 ((k26893:Nat):Int)).bind fun a28425=>
          (idxO a28425 (c:Int)).bind fun a28434=>
          (idxO s28062 ((k26893:Nat):Int)).bind fun a28442=>
          (forS (fun (k28446:Nat) (s28575:List (List Int))=>
            (idxO s28575 ((k26893:Nat):Int)).bind fun a28591=>
            (idxO s28575 ((k26893:Nat):Int)).bind fun a28600=>
            (idxO s28575 (r:Int)).bind fun a28609=>
            (idxO a28600 ((k28446:Nat):Int)).bind fun a28618=>
            (idxO a28609 ((k28446:Nat):Int)).bind fun a28626=>
            (gH p a28434 a28626).bind fun y28628=>
            (lL p a28618 y28628).bind fun y28631=>
            (setO a28591 ((k28446:Nat):Int) y28631).bind fun a28641=>
            (setO s28575 ((k26893:Nat):Int) a28641).bind fun a28644=>
            some a28644) a28442.length 0 s28062).bind fun (s28648:List (List Int))=>
          some s28648)).bind fun (s28358:List (List Int))=>
        some s28358)) ?_
    ·
     rw [partG0,uQ] at this
     exact bnd this (bnd (qB (by omega) (by omega)) rfl)
    ·
     generalize tB p c m m r k=w at h2 hl2 hr2
     intro i hi
     have hg1:gr (gC (xB p c r w w) w i) i=gr w i:=by rw [mK hi,if_neg (by omega)]
     have hg2:gr (gC (xB p c r w w) w i) r=gr w r:=by
      rw [mK hr2]
      split
      · unfold xB;rw [if_pos (Or.inl rfl)]
      · rfl
     have hrow2:=kC h2 hi
     have hli:i<(gC (xB p c r w w) w i).length:=by rw [iH];exact hi
     have hlr:r<(gC (xB p c r w w) w i).length:=by rw [iH];exact hr2
     have hok:okM p N (gC (xB p c r w w) w i):=by
      intro x hx
      obtain ⟨q,hq,rfl⟩:=List.mem_iff_getElem.1 hx
      have hq':q<w.length:=by rw [iH] at hq;exact hq
      have h5:=uE (m:=gC (xB p c r w w) w i) (i:=q) hq
      rw [List.getElem?_eq_getElem hq] at h5
      rw [Option.some.inj h5,mK hq']
      split
      · exact Ai_ hp.1 (kC h2 hq')
      · exact kC h2 hq'
     have hset:=lT (g:=xB p c r w w) (m:=w) hi
     have i1:=lD hli
     rw [hg1] at i1
     by_cases hir:i=r
     ·
      refine bnd (a:=gC (xB p c r w w) w (i+1)) (bnd (a:=true) (stp (cTW (dT (by omega)) rfl)) (cTW rfl ?_)) rfl
      rw [←hset]
      have:xB p c r w w i (gr w i)=gr w i:=by unfold xB;rw [if_pos (Or.inl hir)]
      rw [this,← hg1,wL hli]
     ·
      by_cases h0:el (gr w i) c=0
      ·
       refine bnd (a:=gC (xB p c r w w) w (i+1)) (bnd (a:=true) (stp (cFW (dF (by omega)) (bnd i1 (bnd (iE (by omega)) (stp (by rw [dT h0])))))) (cTW rfl ?_)) rfl
       rw [←hset]
       have:xB p c r w w i (gr w i)=gr w i:=by unfold xB;rw [if_pos (Or.inr h0)]
       rw [this,← hg1,wL hli]
      ·
       refine bnd (a:=gC (xB p c r w w) w (i+1)) (bnd (a:=false) (stp (cFW (dF (by omega)) (bnd i1 (bnd (iE (by omega)) (stp (by rw [dF h0])))))) (cFW rfl ?_)) rfl
       refine bnd i1 (bnd (iE (by omega)) (bnd i1 ?_))
       have hfe:=mH h2 hi (show c<N by omega)
       have:=specSub (f:=el (gr w i) c) hp hok hlr hli hir hfe
       rw [hg1,hg2] at this
       refine bnd this ?_
       rw [←hset]
       unfold xB
       rw [if_neg (by intro h;rcases h with h | h;exact hir h;exact h0 h)]
 ·
  by_cases hk:k=m.length
  · rw [if_pos hk,if_pos hk];exact bnd (qB (by omega) (by omega)) rfl
  · rw [if_neg hk,if_neg hk];exact bnd (qB (by omega) (by omega)) rfl
theorem iZ {p:Int}{n N:Nat} (hf:fdB p=true) (hn:n≤N) (hN:N≤1048576):∀ (d c:Nat) (m a:Rows) (r:Nat),c+d=n→okM p N m→m.length≤1048576→r≤m.length→mC (bQ p (n:Int)) (m,(r:Int),(c:Int))=some ((zB p d c m a r).1,((zB p d c m a r).2.2:Int))
 | 0,c,m,a,r,hc,h,hL,hr=>by
  refine xG ?_
  unfold bQ
  exact bnd (a:=false) (stp (cFW (dF (by dsimp only;omega)) rfl)) (cFW rfl rfl)
 | d+1,c,m,a,r,hc,h,hL,hr=>by
  unfold zB
  by_cases hrl:r<m.length
  ·
   rw [if_pos hrl]
   have hs:=Gy_ hf h hn hN hL hrl (show c<n by omega)
   obtain ⟨s1,s2,s3⟩:=aI m c (m.length-r) r (by omega)
   split
   ·
    rename_i hk
    rw [if_pos hk] at hs
    rw [wI hs]
    exact iZ hf hn hN d (c+1) m a r (by omega) h hL hr
   ·
    rename_i hk
    rw [if_neg hk] at hs
    rw [wI hs]
    have hkl:scanN m c (m.length-r) r<m.length:=by omega
    exact iZ hf hn hN d (c+1) _ _ (r+1) (by omega) (pG (cC hf).1 h hrl hkl) (by rw [zD];exact hL) (by rw [zD];omega)
  ·
   rw [if_neg hrl]
   refine xG ?_
   unfold bQ
   exact bnd (a:=false) (stp (cTW (dT (by dsimp only;omega)) (stp (by rw [dF (by dsimp only;omega)])))) (cFW rfl rfl)
end Go.Proofs.YtlggnmkelgplnaaGreatDoor
namespace Go.Proofs.YtlggnmkelgplnaaGreatDoor
theorem Cc_ {p:Int}{l:Rows}{r k:Nat} (hr:r<l.length) (hk:k<l.length):eM (0,(r:Int),(k:Int),0) p l=some (kB l r k):=by
 refine stp (cTW rfl ?_)
 exact bnd (lD hk) (bnd (lD hr) (bnd (DS_ hr hk) rfl))
theorem Cx_ {p x:Int}{n:Nat}{l:Rows}{r:Nat} (hf:fdB p=true) (h:okM p n l) (hr:r<l.length) (hx:0<x∧x<p):eM (1,(r:Int),0,x) p l=some (gJ p (yD p x) l r):=by
 have hp:=cC hf
 obtain ⟨i0,_,i2,i3⟩:=jQ hf hx
 refine stp (cFW rfl (stp (cTW rfl ?_)))
 exact bnd i0 (bnd (lD hr) (bnd (GS_ hp (kC h hr).2 ⟨i2,i3⟩) (bnd (oD _ hr) rfl)))
theorem Cw_ {p f:Int}{n:Nat}{l:Rows}{i r:Nat} (hp:2≤p∧p≤97) (h:okM p n l) (hi:i<l.length) (hr:r<l.length) (hir:i≠r) (hf:0≤f∧f<p):eM (2,(i:Int),(r:Int),f) p l=some (l.set i (rD (sE p f (gr l r)) (gr l i))):=by
 have h1:=kC h hi
 have h2:=kC h hr
 refine stp (cFW rfl (stp (cFW rfl (stp (cTW rfl ?_)))))
 refine bnd (lD hi) (bnd (uK ⟨by dsimp only;omega,by dsimp only;omega⟩) (bnd (lD hr) (bnd (implSub hp h1.2 h2.2 (by omega) hf) (bnd (a:=()) ?_ (bnd (oD _ hi) rfl)))))
 unfold neqO
 rw [if_neg (by dsimp only;omega)]
theorem GH_ {p:Int}{m a:Rows}{r k:Nat} (hr:r<m.length) (hk:k<m.length) (hl:a.length=m.length):fH (0,(r:Int),(k:Int),0) p m a=some (kB m r k,kB a r k):=by
 refine stp ?_
 by_cases h:k=r
 ·
  subst h
  rw [BZ_ hr,BZ_ (by omega)]
  exact cTW (dT rfl) rfl
 ·
  refine cFW (dF ?_) (bnd (Cc_ hr hk) (bnd (Cc_ (by omega) (by omega)) rfl))
  intro e
  simp only [List.cons.injEq] at e
  exact h (by have:=e.2.2.1;omega)
theorem Hg_ {p x:Int}{n q:Nat}{m a:Rows}{r:Nat} (hf:fdB p=true) (h:okM p n m) (ha:okM p q a) (hr:r<m.length) (hl:a.length=m.length) (hx:0<x∧x<p):fH (1,(r:Int),0,x) p m a=some (gJ p (yD p x) m r,gJ p (yD p x) a r):=by
 refine stp (cFW (dF ?_) (bnd (Cx_ hf h hr hx) (bnd (Cx_ hf ha (by omega) hx) rfl)))
 intro e
 simp only [List.cons.injEq] at e
 have:=e.1;omega
theorem Hf_ {p f:Int}{n q:Nat}{m a:Rows}{i r:Nat} (hp:2≤p∧p≤97) (h:okM p n m) (ha:okM p q a) (hi:i<m.length) (hr:r<m.length) (hl:a.length=m.length) (hir:i≠r) (hf:0≤f∧f<p) :
  fH (2,(i:Int),(r:Int),f) p m a=some (m.set i (rD (sE p f (gr m r)) (gr m i)),a.set i (rD (sE p f (gr a r)) (gr a i))):=by
 refine stp (cFW (dF ?_) (bnd (Cw_ hp h hi hr hir hf) (bnd (Cw_ hp ha (by omega) (by omega) hir hf) rfl)))
 intro e
 simp only [List.cons.injEq] at e
 have:=e.1;omega
theorem Dp_ {p:Int}{c r n:Nat}{m a:Rows} (hp:2≤p) (h:okM p n a) (i:Nat):okM p n (gC (xB p c r m a) a i):=by
 intro x hx
 obtain ⟨q,hq,rfl⟩:=List.mem_iff_getElem.1 hx
 have hq':q<a.length:=by rw [iH] at hq;exact hq
 have h5:=uE (m:=gC (xB p c r m a) a i) (i:=q) hq
 rw [List.getElem?_eq_getElem hq] at h5
 rw [Option.some.inj h5,mK hq']
 split
 · exact Ai_ hp (kC h hq')
 · exact kC h hq'
theorem mT {p:Int}{c r:Nat}{m a:Rows}{i:Nat} (hi:i<a.length):gr (gC (xB p c r m a) a i) i=gr a i:=by rw [mK hi,if_neg (by omega)]
theorem CI_ {p:Int}{c r:Nat}{m a:Rows} (i:Nat) (hr:r<a.length):gr (gC (xB p c r m a) a i) r=gr a r:=by
 rw [mK hr]
 split
 · unfold xB;rw [if_pos (Or.inl rfl)]
 · rfl
theorem kT {p:Int}{c r:Nat}{m a:Rows}{i:Nat} (hi:i<a.length) (h:i=r∨el (gr m i) c=0):gC (xB p c r m a) a (i+1)=gC (xB p c r m a) a i:=by
 rw [←lT hi]
 have h1:xB p c r m a i (gr a i)=gr a i:=by unfold xB;rw [if_pos h]
 rw [h1]
 have h2:=wL (m:=gC (xB p c r m a) a i) (i:=i) (by rw [iH];exact hi)
 rw [mT hi] at h2
 exact h2
theorem CH_ {p:Int}{c r:Nat}{m a:Rows}{i:Nat} (hi:i<a.length) (hir:i≠r) (h0:el (gr m i) c≠0):gC (xB p c r m a) a (i+1)=(gC (xB p c r m a) a i).set i (rD (sE p (el (gr m i) c) (gr a r)) (gr a i)):=by
 rw [←lT hi]
 have h1:xB p c r m a i (gr a i)=rD (sE p (el (gr m i) c) (gr a r)) (gr a i):=by unfold xB;rw [if_neg (by intro h;rcases h with h | h;exact hir h;exact h0 h)]
 rw [h1]
noncomputable def lQ (p n:Int) (st:Rows×Rows×Int×Int):Option ((Rows×Rows×Int×Int)⊕(Rows×Rows×Int)):=
   ((some (decide (st.2.2.1<n))).bind fun a6807=>
    cond a6807
    ((some (decide (st.2.2.2<((st.1.length:Nat):Int)))).bind fun a6811=>
     some a6811)
    (some false)).bind fun (s6801:Bool)=>
   cond s6801
   (((mC (fun (s7797:Int)=>
       ((some (decide (s7797<((st.1.length:Nat):Int)))).bind fun a7835=>
        cond a7835
        ((idxO st.1 s7797).bind fun a7845=>
         (idxO a7845 st.2.2.1).bind fun a7854=>
         (some (decide (a7854=0))).bind fun a7856=>
         some a7856)
        (some false)).bind fun (s7829:Bool)=>
       cond s7829
       ((sA s7797 1).bind fun a7863=>
        some (.inl a7863))
       (some (.inr s7797))) st.2.2.2).bind fun (s7671:Int)=>
     (some (decide (s7671=((st.1.length:Nat):Int)))).bind fun a7867=>
     cond a7867
     (some (st.1,st.2.1,st.2.2.2))
     ((fH (0,st.2.2.2,s7671,0) p st.1 st.2.1).bind fun y7870=>
      (idxO y7870.1 st.2.2.2).bind fun a7879=>
      (idxO a7879 st.2.2.1).bind fun a7888=>
      (fH (1,st.2.2.2,0,a7888) p y7870.1 y7870.2).bind fun y7890=>
      (forS (fun (k7893:Nat) (s8050:List (List Int)×List (List Int))=>
        ((some (!decide (((k7893:Nat):Int)=st.2.2.2))).bind fun a8088=>
         cond a8088
         ((idxO s8050.1 ((k7893:Nat):Int)).bind fun a8098=>
          (idxO a8098 st.2.2.1).bind fun a8107=>
          (some (!decide (a8107=0))).bind fun a8109=>
          some a8109)
         (some false)).bind fun (s8082:Bool)=>
        cond s8082
        ((idxO s8050.1 ((k7893:Nat):Int)).bind fun a8121=>
         (idxO a8121 st.2.2.1).bind fun a8130=>
         (fH (2,((k7893:Nat):Int),st.2.2.2,a8130) p s8050.1 s8050.2).bind fun y8132=>
         some (y8132.1,y8132.2))
        (some (s8050.1,s8050.2))) y7890.1.length 0 (y7890.1,y7890.2)).bind fun (s8137:List (List Int)×List (List Int))=>
      (sA st.2.2.2 1).bind fun a8139=>
      some (s8137.1,s8137.2,a8139))).bind fun (s7477:List (List Int)×List (List Int)×Int)=>
    (sA st.2.2.1 1).bind fun a8144=>
    some (.inl (s7477.1,s7477.2.1,a8144,s7477.2.2)))
   (some (.inr (st.1,st.2.1,st.2.2.2)))
theorem GR_ {p:Int}{n N q c r:Nat}{m a:Rows} (hf:fdB p=true) (h:okM p N m) (ha:okM p q a) (hn:n≤N) (hN:N≤1048576) (hL:m.length≤1048576) (hl:a.length=m.length) (hr:r<m.length) (hc:c<n) :
  lQ p (n:Int) (m,a,(c:Int),(r:Int))=some (.inl (if scanN m c (m.length-r) r=m.length then (m,a,(c:Int)+1,(r:Int)) else (nB p c m m r (scanN m c (m.length-r) r),nB p c m a r (scanN m c (m.length-r) r),(c:Int)+1,(r:Int)+1))):=by
 have hp:=cC hf
 unfold lQ
 dsimp only
 refine bnd (a:=true) (stp (cTW (dT (by omega)) (stp (by rw [dT (by omega)])))) (cTW rfl ?_)
 have hsc:∀ {f:Int→Option (Int⊕Int)},(∀ k:Nat,k<m.length→f (k:Int)=some (if el (gr m k) c=0 then .inl ((k:Int)+1) else .inr (k:Int)))→f (m.length:Int)=some (.inr (m.length:Int))→mC f (r:Int)=some ((scanN m c (m.length-r) r:Nat):Int):=fun h1 h2=>scan_ h1 h2 _ _ (by omega)
 obtain ⟨s1,s2,s3⟩:=aI m c (m.length-r) r (by omega)
 generalize scanN m c (m.length-r) r=k at hsc s1 s2 s3 ⊢
 refine bnd (a:=if k=m.length then (m,a,(r:Int)) else (nB p c m m r k,nB p c m a r k,(r:Int)+1)) ?_ ?_
 ·
  refine bnd (hsc ?_ ?_) (stp ?_)
  ·
   intro i hi
   have hrow:=kC h hi
   refine bnd (a:=decide (el (gr m i) c=0)) (stp (cTW (dT (by omega)) (bnd (lD hi) (bnd (iE (by omega)) rfl)))) ?_
   by_cases h0:el (gr m i) c=0
   · rw [if_pos h0];exact cTW (dT h0) (bnd (qB (by omega) (by omega)) rfl)
   · rw [if_neg h0];exact cFW (dF h0) rfl
  · exact bnd (a:=false) (stp (cFW (dF (by omega)) rfl)) (cFW rfl rfl)
  ·
   by_cases hk:k=m.length
   · rw [if_pos hk];exact cTW (dT (by omega)) rfl
   ·
    rw [if_neg hk]
    have hkl:k<m.length:=by omega
    have hne:=s3 hkl
    refine cFW (dF (by omega)) ?_
    have h1:okM p N (kB m r k):=rL h hr hkl
    have h1a:okM p q (kB a r k):=rL ha (by omega) (by omega)
    have hr1:r<(kB m r k).length:=by rw [swapM_len];exact hr
    have hrow:=kC h1 hr1
    have hel:=mH h1 hr1 (show c<N by omega)
    have hnz:el (gr (kB m r k) r) c≠0:=by rw [swapM_gr hr hkl];exact hne
    refine bnd (GH_ hr hkl hl) ?_
    dsimp only
    refine bnd (lD hr1) (bnd (iE (by omega)) (bnd (Hg_ hf h1 h1a hr1 (by rw [swapM_len,swapM_len];exact hl) ⟨by omega,hel.2⟩) ?_))
    change (forS _ (tB p c m m r k).length 0 (tB p c m m r k,tB p c m a r k)).bind _=_
    have h2:okM p N (tB p c m m r k):=nU hp.1 h hr hkl
    have h2a:okM p q (tB p c m a r k):=nU hp.1 ha (by omega) (by omega)
    have hl2:(tB p c m m r k).length=m.length:=cN p c m m r k
    have hl2a:(tB p c m a r k).length=m.length:=by rw [cN];exact hl
    have hr2:r<(tB p c m m r k).length:=by omega
    have:=gD (n:=(tB p c m m r k).length) (fun i=>(gC (xB p c r (tB p c m m r k) (tB p c m m r k)) (tB p c m m r k) i,gC (xB p c r (tB p c m m r k) (tB p c m a r k)) (tB p c m a r k) i)) (f:=(fun (k7893:Nat) (s8050:List (List Int)×List (List Int))=>
        ((some (!decide (((k7893:Nat):Int)=(r:Int)))).bind fun a8088=>
         cond a8088
         ((idxO s8050.1 ((k7893:Nat):Int)).bind fun a8098=>
          (idxO a8098 (c:Int)).bind fun a8107=>
          (some (!decide (a8107=0))).bind fun a8109=>
          some a8109)
         (some false)).bind fun (s8082:Bool)=>
        cond s8082
        ((idxO s8050.1 ((k7893:Nat):Int)).bind fun a8121=>
         (idxO a8121 (c:Int)).bind fun a8130=>
         (fH (2,((k7893:Nat):Int),(r:Int),a8130) p s8050.1 s8050.2).bind fun y8132=>
         some (y8132.1,y8132.2))
        (some (s8050.1,s8050.2)))) ?_
    ·
     have e1:gC (xB p c r (tB p c m m r k) (tB p c m m r k)) (tB p c m m r k) (tB p c m m r k).length=nB p c m m r k:=uQ _ _
     have e2:gC (xB p c r (tB p c m m r k) (tB p c m a r k)) (tB p c m a r k) (tB p c m m r k).length=nB p c m a r k:=by
      rw [hl2,← hl2a,uQ];rfl
     rw [partG0,partG0,e1,e2] at this
     exact bnd this (bnd (qB (by omega) (by omega)) rfl)
    ·
     show ∀ i,i<(tB p c m m r k).length→_
     unfold nB at *
     generalize tB p c m m r k=w at h2 hl2 hr2
     generalize tB p c m a r k=b at h2a hl2a
     intro i hi
     have hib:i<b.length:=by omega
     have hrb:r<b.length:=by omega
     have hrow2:=kC h2 hi
     have hli:i<(gC (xB p c r w w) w i).length:=by rw [iH];exact hi
     have hlr:r<(gC (xB p c r w w) w i).length:=by rw [iH];exact hr2
     have i1:=lD hli
     rw [mT hi] at i1
     by_cases hir:i=r
     ·
      refine bnd (a:=false) (stp (cFW (nT (dT (by omega))) rfl)) (cFW rfl ?_)
      rw [kT hi (Or.inl hir),kT hib (Or.inl hir)]
     ·
      by_cases h0:el (gr w i) c=0
      ·
       refine bnd (a:=false) (stp (cTW (nF (dF (by omega))) (bnd i1 (bnd (iE (by omega)) (stp (by rw [dT h0];rfl)))))) (cFW rfl ?_)
       rw [kT hi (Or.inr h0),kT hib (Or.inr h0)]
      ·
       refine bnd (a:=true) (stp (cTW (nF (dF (by omega))) (bnd i1 (bnd (iE (by omega)) (stp (by rw [dF h0];rfl)))))) (cTW rfl ?_)
       refine bnd i1 (bnd (iE (by omega)) ?_)
       have hfe:=mH h2 hi (show c<N by omega)
       have:=Hf_ (f:=el (gr w i) c) hp (Dp_ (c:=c) (r:=r) (m:=w) hp.1 h2 i) (Dp_ (c:=c) (r:=r) (m:=w) hp.1 h2a i) hli hlr (by rw [iH,iH];omega) hir hfe
       rw [mT hi,mT hib,CI_ i hr2,CI_ i hrb] at this
       refine bnd this ?_
       rw [CH_ hi hir h0,CH_ hib hir h0]
 ·
  by_cases hk:k=m.length
  · rw [if_pos hk,if_pos hk];exact bnd (qB (by omega) (by omega)) rfl
  · rw [if_neg hk,if_neg hk];exact bnd (qB (by omega) (by omega)) rfl
theorem nZ {p:Int}{n N q:Nat} (hf:fdB p=true) (hn:n≤N) (hN:N≤1048576):∀ (d c:Nat) (m a:Rows) (r:Nat),c+d=n→okM p N m→okM p q a→m.length≤1048576→a.length=m.length→r≤m.length →
  mC (lQ p (n:Int)) (m,a,(c:Int),(r:Int))=some ((zB p d c m a r).1,(zB p d c m a r).2.1,((zB p d c m a r).2.2:Int))
 | 0,c,m,a,r,hc,h,ha,hL,hl,hr=>by
  refine xG ?_
  unfold lQ
  exact bnd (a:=false) (stp (cFW (dF (by dsimp only;omega)) rfl)) (cFW rfl rfl)
 | d+1,c,m,a,r,hc,h,ha,hL,hl,hr=>by
  unfold zB
  by_cases hrl:r<m.length
  ·
   rw [if_pos hrl]
   have hs:=GR_ hf h ha hn hN hL hl hrl (show c<n by omega)
   obtain ⟨s1,s2,s3⟩:=aI m c (m.length-r) r (by omega)
   split
   ·
    rename_i hk
    rw [if_pos hk] at hs
    rw [wI hs]
    exact nZ hf hn hN d (c+1) m a r (by omega) h ha hL hl hr
   ·
    rename_i hk
    rw [if_neg hk] at hs
    rw [wI hs]
    have hkl:scanN m c (m.length-r) r<m.length:=by omega
    exact nZ hf hn hN d (c+1) _ _ (r+1) (by omega) (pG (cC hf).1 h hrl hkl) (pG (cC hf).1 ha (by omega) (by omega)) (by rw [zD];exact hL) (by rw [zD,zD];exact hl) (by rw [zD];omega)
  ·
   rw [if_neg hrl]
   refine xG ?_
   unfold lQ
   exact bnd (a:=false) (stp (cTW (dT (by dsimp only;omega)) (stp (by rw [dF (by dsimp only;omega)])))) (cFW rfl rfl)
theorem wM {p:Int}{N q:Nat} (hp:2≤p):∀ (d c:Nat) (m a:Rows) (r:Nat),okM p N m→okM p q a→a.length=m.length→r≤m.length →
  okM p N (zB p d c m a r).1∧okM p q (zB p d c m a r).2.1∧(zB p d c m a r).1.length=m.length∧(zB p d c m a r).2.1.length=m.length∧r≤(zB p d c m a r).2.2∧(zB p d c m a r).2.2≤m.length∧(zB p d c m a r).2.2≤r+d
 | 0,c,m,a,r,h,ha,hl,hr=>⟨h,ha,rfl,hl,Nat.le_refl _,hr,by simp [zB]⟩
 | d+1,c,m,a,r,h,ha,hl,hr=>by
  unfold zB
  by_cases hrl:r<m.length
  ·
   rw [if_pos hrl]
   obtain ⟨s1,s2,s3⟩:=aI m c (m.length-r) r (by omega)
   split
   ·
    obtain ⟨k1,k2,k3,k4,k5,k6,k7⟩:=wM hp d (c+1) m a r h ha hl hr
    exact ⟨k1,k2,k3,k4,k5,k6,by omega⟩
   ·
    have hkl:scanN m c (m.length-r) r<m.length:=by omega
    obtain ⟨k1,k2,k3,k4,k5,k6,k7⟩:=wM hp d (c+1) (nB p c m m r (scanN m c (m.length-r) r)) (nB p c m a r (scanN m c (m.length-r) r)) (r+1) (pG hp h hrl hkl) (pG hp ha (by omega) (by omega)) (by rw [zD,zD];exact hl) (by rw [zD];omega)
    rw [zD] at k3 k4 k6
    exact ⟨k1,k2,k3,k4,by omega,k6,by omega⟩
  · rw [if_neg hrl];exact ⟨h,ha,rfl,hl,Nat.le_refl _,hr,Nat.le_add_right _ _⟩
def bC (p:Int) (n:Nat) (m:Rows):Rows:=(zB p n 0 m m 0).1.take (zB p n 0 m m 0).2.2
theorem nP (p:Int):∀ (d c:Nat) (m a b:Rows) (r:Nat),(zB p d c m a r).1=(zB p d c m b r).1∧(zB p d c m a r).2.2=(zB p d c m b r).2.2
 | 0,_,_,_,_,_=>⟨rfl,rfl⟩
 | d+1,c,m,a,b,r=>by
  unfold zB
  split
  ·
   split
   · exact nP p d (c+1) m a b r
   · exact nP p d (c+1) _ _ _ (r+1)
  · exact ⟨rfl,rfl⟩
theorem B2_ {p:Int}{n N q:Nat}{m a:Rows} (hf:fdB p=true) (hn:n≤N) (hN:N≤1048576) (h:okM p N m) (ha:okM p q a) (hL:m.length≤1048576) (hl:a.length=m.length) :
  uR p m (n:Int) a=some ((zB p n 0 m a 0).1,(zB p n 0 m a 0).2.1,((zB p n 0 m a 0).2.2:Int)):=
 bnd (nZ hf hn hN n 0 m a 0 (by omega) h ha hL hl (by omega)) rfl
theorem DV_ {α:Type}{l:List α}{k:Nat} (h:k≤l.length):fB l 0 (k:Int)=some (l.take k):=by
 unfold fB
 rw [if_pos (by omega)]
 simp
theorem uT {p:Int}{n N:Nat}{m:Rows} (hf:fdB p=true) (hn:n≤N) (hN:N≤1048576) (h:okM p N m) (hL:m.length≤1048576):xR p m (n:Int)=some (bC p n m):=by
 have hm:iB=1099511627776:=rfl
 have ha:okM p 0 (List.replicate m.length ([]:List Int)):=by
  intro x hx
  rw [List.eq_of_mem_replicate hx]
  exact ⟨rfl,fun y hy=>by cases hy⟩
 obtain ⟨k1,_,k3,_,_,k6,_⟩:=wM (cC hf).1 n 0 m (List.replicate m.length []) 0 h ha (by simp) (by omega)
 obtain ⟨e1,e2⟩:=nP p n 0 m (List.replicate m.length []) m 0
 refine bnd (DI_ (by omega) (fun r hr=>by have:=(h r hr).1;omega)) (bnd (bI _ (by omega)) (bnd (B2_ hf hn hN h ha hL (by simp)) ?_))
 unfold bC
 rw [←e1,← e2]
 exact bnd (DV_ (by dsimp only;omega)) rfl
theorem vP {p:Int}{n N:Nat}{m:Rows} (hf:fdB p=true) (hn:n≤N) (hN:N≤1048576) (h:okM p N m) (hL:m.length≤1048576):oO p (n:Int) m=some (bC p n m):=by
 have hm:iB=1099511627776:=rfl
 obtain ⟨k1,_,k3,_,_,k6,_⟩:=wM (cC hf).1 n 0 m m 0 h h rfl (by omega)
 have hcopy:forS (fun (k2:Nat) (s55:List (List Int))=>
   (idxO m ((k2:Nat):Int)).bind fun a72=>
   (vI a72).bind fun y76=>
   (tA s55 [y76]).bind fun a84=>
   some a84) m.length 0 []=some m:=by
  refine (tE (fun r=>r) m [] (by simp;omega) ?_).trans (by simp)
  intro j x s hx hs
  have hj:j<m.length:=(List.getElem?_eq_some_iff.1 hx).1
  have h1:=(h x (aD hx)).1
  exact bnd (qA hx) (bnd (own_ (by omega)) (bnd (vB (by simp at hs ⊢;omega)) rfl))
 refine bnd hcopy (bnd (iZ hf hn hN n 0 m m 0 (by omega) h hL (by omega)) ?_)
 exact bnd (DV_ (by dsimp only;omega)) rfl
theorem Ar_ {p:Int}{n N:Nat}{m:Rows} (hp:2≤p) (h:okM p N m):okM p N (bC p n m)∧(bC p n m).length≤m.length∧(bC p n m).length≤n:=by
 obtain ⟨k1,_,k3,_,_,k6,k7⟩:=wM hp n 0 m m 0 h h rfl (by omega)
 unfold bC
 refine ⟨fun r hr=>k1 r (List.mem_of_mem_take hr),?_,?_⟩
 · rw [List.length_take];omega
 · rw [List.length_take];omega
end Go.Proofs.YtlggnmkelgplnaaGreatDoor
namespace Go.Proofs.YtlggnmkelgplnaaGreatDoor
theorem AD_ {α τ:Type} [DecidableEq α] {f:Nat→Unit→Option (Unit⊕τ)}{t:τ}:∀ (l m:List α) (k:Nat),l.length=m.length→(∀ j a b,l[j]?=some a→m[j]?=some b→f (k+j) ()=some (if a=b then .inl () else .inr t))→lC f l.length k ()=some (if l=m then .inl () else .inr t)
 | [],[],k,_,_=>rfl
 | [],_::_,_,h,_=>by simp at h
 | _::_,[],_,h,_=>by simp at h
 | a::l,b::m,k,hl,h=>by
  show (f k ()).bind _=_
  have h0:f k ()=_:=h 0 a b rfl rfl
  rw [h0]
  by_cases hab:a=b
  ·
   rw [if_pos hab]
   have:=AD_ l m (k+1) (by simpa using hl) (fun j x y hx hy=>by
    have:=h (j+1) x y (by simpa using hx) (by simpa using hy)
    rw [show k+1+j=k+(j+1) by omega];exact this)
   show lC f l.length (k+1) ()=_
   rw [this]
   by_cases h2:l=m
   · rw [if_pos h2,if_pos (by rw [hab,h2])]
   · rw [if_neg h2,if_neg (by intro h3;exact h2 (List.cons.inj h3).2)]
  · rw [if_neg hab,if_neg (by intro h3;exact hab (List.cons.inj h3).1)];rfl
theorem l1Same_ (a b:List Int):vX a b=some (decide (a=b)):=by
 refine stp ?_
 by_cases h:a.length=b.length
 ·
  refine cFW (nT (dT (by omega))) (sqW (AD_ a b 0 h ?_ (t:=false)) ?_)
  ·
   intro j x y hx hy
   rw [Nat.zero_add]
   refine bnd (qA hx) (bnd (qA hy) (stp ?_))
   by_cases h2:x=y
   · rw [if_pos h2];exact cFW (nT (dT h2)) rfl
   · rw [if_neg h2];exact cTW (nF (dF h2)) rfl
  ·
   by_cases h2:a=b
   · rw [if_pos h2,dT h2];rfl
   · rw [if_neg h2,dF h2];rfl
 · rw [show decide (a=b)=false from dF (fun h2=>h (by rw [h2]))];exact cTW (nF (dF (by omega))) rfl
end Go.Proofs.YtlggnmkelgplnaaGreatDoor
namespace Go.Proofs.YtlggnmkelgplnaaGreatDoor
def leadN:List Int→Nat
 | []=>0
 | x::xs=>if x=0 then leadN xs+1 else 0
theorem CO_:∀ r:List Int,leadN r≤r.length
 | []=>Nat.le_refl _
 | x::xs=>by
  unfold leadN;have:=CO_ xs
  split
  · simp only [List.length_cons];omega
  · omega
theorem DB_ (x:Int) (xs:List Int):el (x::xs) 0=x:=by unfold el;simp
theorem DC_ (x:Int) (xs:List Int) (j:Nat):el (x::xs) (j+1)=el xs j:=by unfold el;simp
theorem el_out {r:List Int}{j:Nat} (h:r.length≤j):el r j=0:=by unfold el;rw [List.getD_eq_getElem?_getD,List.getElem?_eq_none h];rfl
theorem iN:∀ (r:List Int) (j:Nat),j<leadN r→el r j=0
 | [],j,h=>by simp [leadN] at h
 | x::xs,j,h=>by
  unfold leadN at h
  split at h
  ·
   rename_i h0
   cases j with
   | zero=>rw [DB_];exact h0
   | succ j=>rw [DC_];exact iN xs j (by omega)
  · omega
theorem bU:∀ (r:List Int),leadN r<r.length→el r (leadN r)≠0
 | [],h=>by simp at h
 | x::xs,h=>by
  unfold leadN at h ⊢
  split at h
  ·
   rename_i h0
   rw [if_pos h0,DC_]
   exact bU xs (by simpa using h)
  ·
   rename_i h0
   rw [if_neg h0,DB_];exact h0
theorem Ac_ {r:List Int}{k:Nat} (hz:∀ j,j<k→el r j=0) (hk:el r k≠0):leadN r=k:=by
 rcases Nat.lt_trichotomy (leadN r) k with h | h | h
 ·
  have h1:=hz _ h
  rcases Nat.lt_or_ge (leadN r) r.length with h2 | h2
  · exact absurd h1 (bU r h2)
  ·
   have:el r k=0:=el_out (by omega)
   exact absurd this hk
 · exact h
 · exact absurd (iN r k h) hk
theorem Dl_ {r:List Int} (hr:r.length≤9223372036854775806):cS r=some (leadN r:Int):=by
 have hle:=CO_ r
 refine bnd (yM (fun j=>(j:Int)) (t:=(leadN r:Int)) (leadN r) ?_ ?_) rfl
 ·
  intro j hj
  have hjl:j<r.length:=by omega
  refine bnd (a:=true) (stp (cTW (dT (by omega)) (bnd (iE hjl) (stp (by rw [iN r j hj];rfl))))) (cTW rfl (bnd (qB (by omega) (by omega)) rfl))
 ·
  by_cases h:leadN r<r.length
  · refine bnd (a:=false) (stp (cTW (dT (by omega)) (bnd (iE h) (stp (by rw [dF (bU r h)]))))) (cFW rfl rfl)
  · exact bnd (a:=false) (stp (cFW (dF (by omega)) rfl)) (cFW rfl rfl)
theorem xQ {a b:List Int} (hl:a.length=b.length) (h:∀ j,j<a.length→el a j=el b j):a=b:=by
 apply List.ext_getElem?
 intro j
 by_cases hj:j<a.length
 · rw [jJ hj,jJ (by omega),h j hj]
 · rw [List.getElem?_eq_none (by omega),List.getElem?_eq_none (by omega)]
theorem D8_ {a b:Rows} (hl:a.length=b.length) (h:∀ j,j<a.length→gr a j=gr b j):a=b:=by
 apply List.ext_getElem?
 intro j
 by_cases hj:j<a.length
 · rw [uE hj,uE (by omega),h j hj]
 · rw [List.getElem?_eq_none (by omega),List.getElem?_eq_none (by omega)]
theorem qQ {g:Nat→Int→Int}{r:List Int}{j:Nat} (h:j<r.length):el (rD g r) j=g j (el r j):=by
 have h1:=jJ (r:=rD g r) (c:=j) (by rw [yT];exact h)
 unfold rD at h1
 rw [List.getElem?_mapIdx,jJ h] at h1
 exact (Option.some.inj h1).symm
theorem oG {m:Rows}{r k i:Nat} (hr:r<m.length) (hk:k<m.length):gr (kB m r k) i=if i=k then gr m r else if i=r then gr m k else gr m i:=by
 unfold kB
 rw [gI (by rw [List.length_set];exact hk)]
 by_cases h:k=i
 · rw [if_pos h,if_pos h.symm]
 ·
  rw [if_neg h,if_neg (Ne.symm h),gI hr]
  by_cases h2:r=i
  · rw [if_pos h2,if_pos h2.symm]
  · rw [if_neg h2,if_neg (Ne.symm h2)]
theorem nQ {p:Int}{c:Nat}{m a:Rows}{r k i:Nat} (hr:r<a.length):gr (tB p c m a r k) i=if i=r then rD (qG p (yD p (el (gr (kB m r k) r) c))) (gr (kB a r k) r) else gr (kB a r k) i:=by
 unfold tB gJ
 rw [gI (by rw [swapM_len];exact hr)]
 by_cases h:r=i
 · rw [if_pos h,if_pos h.symm]
 · rw [if_neg h,if_neg (Ne.symm h)]
structure RedI (c r:Nat) (m:Rows):Prop where
 le:r≤m.length
 lt:∀ i,i<r→leadN (gr m i)<c
 one:∀ i,i<r→el (gr m i) (leadN (gr m i))=1
 zero:∀ i j,i<r→j<m.length→i≠j→el (gr m j) (leadN (gr m i))=0
 inc:∀ i j,i<j→j<r→leadN (gr m i)<leadN (gr m j)
 rest:∀ i,r≤i→i<m.length→∀ q,q<c→el (gr m i) q=0
theorem RedI.start (m:Rows):RedI 0 0 m:=⟨Nat.zero_le _,fun _ h=>by omega,fun _ h=>by omega,fun _ _ h=>by omega,fun _ _ _ h=>by omega,fun _ _ _ _ h=>by omega⟩
theorem RedI.skip {c r:Nat}{m:Rows} (h:RedI c r m) (hz:∀ i,r≤i→i<m.length→el (gr m i) c=0):RedI (c+1) r m:=
 ⟨h.le,fun i hi=>by have:=h.lt i hi;omega,h.one,h.zero,h.inc,fun i h1 h2 q hq=>by
  rcases Nat.lt_or_ge q c with h3 | h3
  · exact h.rest i h1 h2 q h3
  · rw [show q=c by omega];exact hz i h1 h2⟩
theorem B1_ (m:Rows) (c:Nat):∀ (d k:Nat),∀ i,k≤i→i<scanN m c d k→el (gr m i) c=0
 | 0,k,i,h1,h2=>by simp only [scanN] at h2;omega
 | d+1,k,i,h1,h2=>by
  unfold scanN at h2
  split at h2
  ·
   rename_i h0
   rcases Nat.lt_or_ge k i with h3 | h3
   · exact B1_ m c d (k+1) i h3 h2
   · rw [show i=k by omega];exact h0
  · omega
theorem mN {p x:Int} (h:0≤x∧x<p):x % p=x:=Int.emod_eq_of_lt h.1 h.2
theorem step_el {p:Int}{c r k N:Nat}{m:Rows} (hf:fdB p=true) (h:okM p N m) (hr:r<m.length) (hk:k<m.length) (hc:c<N) (hne:el (gr m k) c≠0) :
  let s:=kB m r k
  let iv:=yD p (el (gr m k) c)
  (∀ q,q<N→el (gr (nB p c m m r k) r) q=(el (gr m k) q*iv) % p)∧(el (gr m k) c*iv) % p=1 ∧
  ∀ i,i<m.length→i≠r→∀ q,q<N→el (gr (nB p c m m r k) i) q=(el (gr s i) q-el (gr s i) c*((el (gr m k) q*iv) % p)) % p:=by
 intro s iv
 have hp:=cC hf
 have hel:=mH h hk hc
 obtain ⟨_,i1,i2,i3⟩:=jQ hf (x:=el (gr m k) c) ⟨by omega,hel.2⟩
 have hsr:gr s r=gr m k:=swapM_gr hr hk
 have hsl:s.length=m.length:=swapM_len m r k
 have hso:okM p N s:=rL h hr hk
 have hpl:(tB p c m m r k).length=m.length:=cN p c m m r k
 have hpr:gr (tB p c m m r k) r=rD (qG p iv) (gr m k):=by
  rw [nQ hr,if_pos rfl]
  show rD (qG p (yD p (el (gr s r) c))) (gr s r)=_
  rw [hsr]
 have hrow:=kC h hk
 have hpe:∀ q,q<N→el (gr (tB p c m m r k) r) q=(el (gr m k) q*iv) % p:=fun q hq=>by
  rw [hpr,qQ (by omega)];rfl
 have hst:∀ i,i<m.length→gr (nB p c m m r k) i=xB p c r (tB p c m m r k) (tB p c m m r k) i (gr (tB p c m m r k) i):=fun i hi=>C2_ (by rw [hpl];exact hi)
 refine ⟨fun q hq=>?_,i1,fun i hi hir q hq=>?_⟩
 ·
  rw [hst r hr]
  unfold xB
  rw [if_pos (.inl rfl)]
  exact hpe q hq
 ·
  rw [hst i hi]
  have hpi:gr (tB p c m m r k) i=gr s i:=by rw [nQ hr,if_neg hir]
  have hsi:=kC hso (i:=i) (by rw [hsl];exact hi)
  have hb:=mH hso (i:=i) (by rw [hsl];exact hi) hq
  unfold xB
  by_cases h0:el (gr (tB p c m m r k) i) c=0
  ·
   rw [if_pos (.inr h0),hpi]
   rw [hpi] at h0
   rw [h0,Int.zero_mul,Int.sub_zero,mN hb]
  ·
   rw [if_neg (by intro h1;rcases h1 with h1 | h1;exact hir h1;exact h0 h1)]
   rw [qQ (by rw [hpi];omega)]
   unfold sE
   rw [hpi,hpe q hq]
theorem RedI.step {p:Int}{c r N:Nat}{m:Rows} (hf:fdB p=true) (ho:okM p N m) (h:RedI c r m) (hr:r<m.length) (hc:c<N) (hk:scanN m c (m.length-r) r≠m.length) :
  RedI (c+1) (r+1) (nB p c m m r (scanN m c (m.length-r) r)):=by
 obtain ⟨s1,s2,s3⟩:=aI m c (m.length-r) r (by omega)
 have hp:=cC hf
 generalize scanN m c (m.length-r) r=k at s1 s2 s3 hk ⊢
 have hkl:k<m.length:=by omega
 have hne:=s3 hkl
 obtain ⟨e1,e2,e3⟩:=step_el hf ho hr hkl hc hne
 have hsl:(nB p c m m r k).length=m.length:=zD p c m m r k
 have hz:∀ q,q<c→(el (gr m k) q*yD p (el (gr m k) c)) % p=0:=fun q hq=>by
  rw [h.rest k (by omega) hkl q hq,Int.zero_mul];exact Int.zero_emod p
 have hswap:∀ i,i<r→gr (kB m r k) i=gr m i:=fun i hi=>by
  rw [oG hr hkl,if_neg (by omega),if_neg (by omega)]
 have hrow:∀ i,i<r→∀ q,q<c→el (gr (nB p c m m r k) i) q=el (gr m i) q:=fun i hi q hq=>by
  have hb:=mH ho (i:=i) (by omega) (c:=q) (by omega)
  rw [e3 i (by omega) (by omega) q (by omega),hswap i hi,hz q hq,Int.mul_zero,Int.sub_zero,mN hb]
 have hlead:∀ i,i<r→leadN (gr (nB p c m m r k) i)=leadN (gr m i):=fun i hi=>by
  have hl:=h.lt i hi
  refine Ac_ (fun j hj=>?_) ?_
  · rw [hrow i hi j (by omega)];exact iN _ j hj
  · rw [hrow i hi _ hl,h.one i hi];omega
 have hnew:leadN (gr (nB p c m m r k) r)=c:=by
  refine Ac_ (fun j hj=>?_) ?_
  · rw [e1 j (by omega)];exact hz j hj
  · rw [e1 c hc,e2];omega
 refine ⟨by omega,fun i hi=>?_,fun i hi=>?_,fun i j hi hj hij=>?_,fun i j hij hj=>?_,fun i h1 h2 q hq=>?_⟩
 ·
  rcases Nat.lt_or_ge i r with h1 | h1
  · rw [hlead i h1];have:=h.lt i h1;omega
  · rw [show i=r by omega,hnew];omega
 ·
  rcases Nat.lt_or_ge i r with h1 | h1
  · rw [hlead i h1,hrow i h1 _ (h.lt i h1)];exact h.one i h1
  · rw [show i=r by omega,hnew,e1 c hc,e2]
 ·
  rw [hsl] at hj
  rcases Nat.lt_or_ge i r with h1 | h1
  ·
   have hl:=h.lt i h1
   rw [hlead i h1]
   by_cases hjr:j=r
   · rw [hjr,e1 _ (by omega)];exact hz _ hl
   ·
    rw [e3 j hj hjr _ (by omega),hz _ hl,Int.mul_zero,Int.sub_zero]
    have hs:el (gr (kB m r k) j) (leadN (gr m i))=0:=by
     rw [oG hr hkl]
     by_cases hjk:j=k
     · rw [if_pos hjk];exact h.zero i r h1 hr (by omega)
     · rw [if_neg hjk,if_neg hjr];exact h.zero i j h1 hj hij
    rw [hs];exact Int.zero_emod p
  ·
   have hi2:i=r:=by omega
   subst hi2
   rw [hnew,e3 j hj (Ne.symm hij) c hc,e2,Int.mul_one,Int.sub_self];exact Int.zero_emod p
 ·
  rcases Nat.lt_or_ge j r with h1 | h1
  · rw [hlead i (by omega),hlead j h1];exact h.inc i j hij h1
  · rw [show j=r by omega,hnew,hlead i (by omega)];exact h.lt i (by omega)
 ·
  rw [hsl] at h2
  rw [e3 i h2 (by omega) q (by omega)]
  rcases Nat.lt_or_ge q c with h3 | h3
  ·
   rw [hz q h3,Int.mul_zero,Int.sub_zero]
   have hs:el (gr (kB m r k) i) q=0:=by
    rw [oG hr hkl]
    split
    · exact h.rest r (Nat.le_refl _) hr q h3
    ·
     split
     · exact h.rest k s1 hkl q h3
     · exact h.rest i (by omega) h2 q h3
   rw [hs];exact Int.zero_emod p
  · rw [show q=c by omega,e2,Int.mul_one,Int.sub_self];exact Int.zero_emod p
theorem mP {p:Int}{N:Nat} (hf:fdB p=true):∀ (d c:Nat) (m:Rows) (r:Nat),c+d≤N→okM p N m→RedI c r m→RedI (c+d) (zB p d c m m r).2.2 (zB p d c m m r).1
 | 0,c,m,r,_,_,h=>h
 | d+1,c,m,r,hN,ho,h=>by
  unfold zB
  by_cases hr:r<m.length
  ·
   rw [if_pos hr]
   obtain ⟨s1,s2,s3⟩:=aI m c (m.length-r) r (by omega)
   split
   ·
    rename_i hk
    have:=mP hf d (c+1) m r (by omega) ho (h.skip (fun i h1 h2=>B1_ m c (m.length-r) r i h1 (by omega)))
    rw [show c+(d+1)=c+1+d by omega];exact this
   ·
    rename_i hk
    have:=mP hf d (c+1) _ (r+1) (by omega) (pG (cC hf).1 ho hr (by omega)) (h.step hf ho hr (by omega) hk)
    rw [show c+(d+1)=c+1+d by omega];exact this
  ·
   rw [if_neg hr]
   exact (⟨h.le,fun i hi=>by have:=h.lt i hi;omega,h.one,h.zero,h.inc,fun i h1 h2=>by have:=h.le;omega⟩:RedI (c+(d+1)) r m)
structure Red (p:Int) (n:Nat) (b:Rows):Prop where
 ok:okM p n b
 lt:∀ i,i<b.length→leadN (gr b i)<n
 one:∀ i,i<b.length→el (gr b i) (leadN (gr b i))=1
 zero:∀ i j,i<b.length→j<b.length→i≠j→el (gr b j) (leadN (gr b i))=0
 inc:∀ i j,i<j→j<b.length→leadN (gr b i)<leadN (gr b j)
theorem cJ {m:Rows}{k i:Nat} (h:i<k):gr (m.take k) i=gr m i:=by
 unfold gr;rw [List.getD_eq_getElem?_getD,List.getD_eq_getElem?_getD,List.getElem?_take,if_pos h]
theorem bG {p:Int}{n:Nat}{m:Rows} (hf:fdB p=true) (h:okM p n m):Red p n (bC p n m):=by
 have h1:=mP hf n 0 m 0 (by omega) h (RedI.start m)
 have h2:=(Ar_ (n:=n) (cC hf).1 h).1
 rw [Nat.zero_add] at h1
 unfold bC at h2 ⊢
 generalize zB p n 0 m m 0=t at h1 h2
 have hl:(t.1.take t.2.2).length=t.2.2:=by rw [List.length_take];have:=h1.le;omega
 refine ⟨h2,fun i hi=>?_,fun i hi=>?_,fun i j hi hj hij=>?_,fun i j hij hj=>?_⟩
 · rw [hl] at hi;rw [cJ hi];exact h1.lt i hi
 · rw [hl] at hi;rw [cJ hi];exact h1.one i hi
 · rw [hl] at hi hj;rw [cJ hi,cJ hj];exact h1.zero i j hi (by have:=h1.le;omega) hij
 · rw [hl] at hj;rw [cJ hj,cJ (by omega)];exact h1.inc i j hij hj
theorem Dj_ (a b:Rows):rX a b=some (decide (a=b)):=by
 refine stp ?_
 by_cases h:a.length=b.length
 ·
  refine cFW (nT (dT (by omega))) (sqW (AD_ a b 0 h ?_ (t:=false)) ?_)
  ·
   intro j x y hx hy
   rw [Nat.zero_add]
   refine bnd (qA hx) (bnd (qA hy) (bnd (l1Same_ x y) (stp ?_)))
   by_cases h2:x=y
   · rw [if_pos h2];exact cFW (nT (dT h2)) rfl
   · rw [if_neg h2];exact cTW (nF (dF h2)) rfl
  ·
   by_cases h2:a=b
   · rw [if_pos h2,dT h2];rfl
   · rw [if_neg h2,dF h2];rfl
 · rw [show decide (a=b)=false from dF (fun h2=>h (by rw [h2]))];exact cTW (nF (dF (by omega))) rfl
end Go.Proofs.YtlggnmkelgplnaaGreatDoor
namespace Go.Proofs.YtlggnmkelgplnaaGreatDoor
def sg:Nat→(Nat→Int)→Int
 | 0,_=>0
 | k+1,f=>sg k f+f k
theorem bD {f g:Nat→Int}:∀ {k:Nat},(∀ i,i<k→f i=g i)→sg k f=sg k g
 | 0,_=>rfl
 | k+1,h=>by
  show sg k f+f k=sg k g+g k
  rw [bD (fun i hi=>h i (by omega)),h k (by omega)]
theorem iK {f:Nat→Int}{k:Nat} (h:∀ i,i<k→f i=0):sg k f=0:=by
 induction k with
 | zero=>rfl
 | succ k ih=>
  show sg k f+f k=0
  rw [ih (fun i hi=>h i (by omega)),h k (by omega)];rfl
theorem kH {f:Nat→Int}{k i0:Nat} (h0:i0<k) (h:∀ i,i<k→i≠i0→f i=0):sg k f=f i0:=by
 induction k with
 | zero=>omega
 | succ k ih=>
  show sg k f+f k=f i0
  by_cases hk:k=i0
  ·
   subst hk
   rw [iK (fun i hi=>h i (by omega) (by omega)),Int.zero_add]
  · rw [ih (by omega) (fun i hi hn=>h i (by omega) hn),h k (by omega) hk,Int.add_zero]
theorem sg_add (f g:Nat→Int):∀ k,sg k (fun i=>f i+g i)=sg k f+sg k g
 | 0=>rfl
 | k+1=>by
  show sg k (fun i=>f i+g i)+(f k+g k)=(sg k f+f k)+(sg k g+g k)
  rw [sg_add f g k];omega
theorem sg_mul (c:Int) (f:Nat→Int):∀ k,sg k (fun i=>c*f i)=c*sg k f
 | 0=>by show (0:Int)=c*0;rw [Int.mul_zero]
 | k+1=>by
  show sg k (fun i=>c*f i)+c*f k=c*(sg k f+f k)
  rw [sg_mul c f k,Int.mul_add]
theorem lU (f:Nat→Nat→Int) (n:Nat):∀ k,sg k (fun i=>sg n (fun j=>f i j))=sg n (fun j=>sg k (fun i=>f i j))
 | 0=>by
  show (0:Int)=_
  rw [iK (k:=n) (f:=fun j=>sg 0 fun i=>f i j) (fun _ _=>rfl)]
 | k+1=>by
  show sg k (fun i=>sg n (fun j=>f i j))+sg n (fun j=>f k j)=sg n (fun j=>sg k (fun i=>f i j)+f k j)
  rw [lU f n k,sg_add]
theorem lH {p:Int}{f g:Nat→Int}:∀ {k:Nat},(∀ i,i<k→f i % p=g i % p)→sg k f % p=sg k g % p
 | 0,_=>rfl
 | k+1,h=>by
  show (sg k f+f k) % p=(sg k g+g k) % p
  rw [Int.add_emod,lH (fun i hi=>h i (by omega)),h k (by omega),← Int.add_emod]
theorem Da_ (p a b:Int):(a % p+b) % p=(a+b) % p:=by rw [Int.add_emod,Int.emod_emod_of_dvd _ (Int.dvd_refl p),← Int.add_emod]
theorem mod_mod (p a:Int):a % p % p=a % p:=Int.emod_emod_of_dvd _ (Int.dvd_refl p)
theorem fQ (p a b:Int):(a % p*b) % p=(a*b) % p:=by rw [Int.mul_emod,mod_mod,← Int.mul_emod]
theorem mul_mod2 (p a b:Int):(a*(b % p)) % p=(a*b) % p:=by rw [Int.mul_emod,mod_mod,← Int.mul_emod]
theorem Dw_ (x:List Int) (xs:Rows):gr (x::xs) 0=x:=by unfold gr;simp
theorem AC_ (x:List Int) (xs:Rows) (j:Nat):gr (x::xs) (j+1)=gr xs j:=by unfold gr;simp
theorem tN (n j:Nat):el (List.replicate n 0) j=0:=by
 unfold el;rw [List.getD_eq_getElem?_getD,List.getElem?_replicate];split <;> rfl
theorem CY_ {p:Int}{n:Nat} (hp:2≤p):∀ (rows:Rows) (cs:List Int) (acc:List Int),okR p n acc→sK p n rows→okR p n (wE (fun acc row c=>mE p c acc row) rows cs acc)
 | [],cs,acc,ha,_=>by cases cs <;> exact ha
 | r::rows,[],acc,ha,_=>ha
 | r::rows,c::cs,acc,ha,hr=>by
  have h1:=hr r (List.mem_cons_self ..)
  exact CY_ hp rows cs _ ⟨by rw [Am_ (by rw [h1.1,ha.1]),ha.1],zU hp c r acc⟩ (fun x hx=>hr x (List.mem_cons_of_mem _ hx))
theorem gU {p:Int}{n:Nat} (hp:2≤p){rows:Rows}{cs:List Int} (hr:sK p n rows):okR p n (iD p n rows cs):=CY_ hp rows cs _ (zZ hp n) hr
def coordsL (b:Rows) (v:List Int):List Int:=b.map fun r=>el v (leadN r)
def hasB (p:Int) (n:Nat) (b:Rows) (v:List Int):Bool:=decide (iD p n b (coordsL b v)=v)
abbrev Rel:=Int×Int×Rows
structure RlOk (p:Int) (l r:Nat) (R:Rel):Prop where
 hf:fdB p=true
 left:R.1=(l:Int)
 right:R.2.1=(r:Int)
 n24:l+r≤24
 red:Red p (l+r) R.2.2
 len:R.2.2.length≤l+r
end Go.Proofs.YtlggnmkelgplnaaGreatDoor
namespace Go.Proofs.YtlggnmkelgplnaaGreatDoor
set_option linter.unusedVariables false
def cE (p:Int) (n:Nat) (m:Rows) (v:List Int):Prop:=∃ x:Nat→Int,∀ j,j<n→el v j % p=sg m.length (fun i=>x i*el (gr m i) j) % p
def Indep (p:Int) (n:Nat) (m:Rows):Prop:=∀ x:Nat→Int,(∀ j,j<n→sg m.length (fun i=>x i*el (gr m i) j) % p=0)→∀ i,i<m.length→x i % p=0
def sD (p:Int) (n:Nat) (a b:Rows):Prop:=∀ i,i<a.length→cE p n b (gr a i)
theorem Ap_ (c:Int) (f:Nat→Int) (k:Nat):sg k (fun i=>f i*c)=sg k f*c:=by
 rw [bD (g:=fun i=>c*f i) (fun i _=>Int.mul_comm _ _),sg_mul,Int.mul_comm]
theorem AN_ (f:Nat→Int) (k:Nat):sg k (fun i=>- f i) = - sg k f:=by
 rw [bD (g:=fun i=>(-1)*f i) (fun i _=>by omega),sg_mul];omega
theorem sg_sub (f g:Nat→Int) (k:Nat):sg k (fun i=>f i-g i)=sg k f-sg k g:=by
 rw [bD (g:=fun i=>f i + - g i) (fun i _=>Int.sub_eq_add_neg),sg_add,AN_];omega
theorem sg_split {f:Nat→Int}{k r:Nat} (h:r<k):sg k f=sg k (fun i=>if i=r then 0 else f i)+f r:=by
 have h1:sg k (fun i=>if i=r then f i else 0)=f r:=by
  rw [kH h (fun i _ hn=>if_neg hn),if_pos rfl]
 rw [←h1,← sg_add]
 exact bD fun i _=>by by_cases hi:i=r <;> simp [hi]
theorem fT {p a b:Int} (h:(a-b) % p=0):a % p=b % p:=by
 have h2:a=(a-b)+b:=by omega
 rw [h2,Int.add_emod,h,Int.zero_add,mod_mod]
theorem sS {p a b:Int} (h:a % p=0):(a*b) % p=0:=by rw [←fQ,h,Int.zero_mul];exact Int.zero_emod p
theorem Fn_ {p a b:Int} (h:b % p=0):(a*b) % p=0:=by rw [Int.mul_comm];exact sS h
theorem iF {p:Int}{n:Nat}{m:Rows}{i:Nat} (h:i<m.length):cE p n m (gr m i):=by
 refine ⟨fun t=>if t=i then 1 else 0,fun j _=>?_⟩
 rw [kH h (fun t _ hn=>by show (if t=i then (1:Int) else 0)*_=0;rw [if_neg hn,Int.zero_mul])]
 show _=(if i=i then (1:Int) else 0)*_ % p
 rw [if_pos rfl,Int.one_mul]
theorem rM {p:Int}{n:Nat}{a b:Rows}{v:List Int} (hab:sD p n a b) (hv:cE p n a v):cE p n b v:=by
 obtain ⟨x,hx⟩:=hv
 have hY:∃ Y:Nat→Nat→Int,∀ i,i<a.length→∀ j,j<n→el (gr a i) j % p=sg b.length (fun t=>Y i t*el (gr b t) j) % p:=by
  refine ⟨fun i=>if h:i<a.length then Classical.choose (hab i h) else fun _=>0,fun i hi=>?_⟩
  simp only [dif_pos hi]
  exact Classical.choose_spec (hab i hi)
 obtain ⟨Y,hY⟩:=hY
 refine ⟨fun t=>sg a.length (fun i=>x i*Y i t),fun j hj=>?_⟩
 rw [hx j hj]
 have e:sg b.length (fun t=>sg a.length (fun i=>x i*Y i t)*el (gr b t) j)=sg a.length (fun i=>x i*sg b.length (fun t=>Y i t*el (gr b t) j)):=by
  rw [bD (g:=fun t=>sg a.length (fun i=>x i*Y i t*el (gr b t) j)) (fun t _=>(Ap_ _ _ _).symm),lU]
  refine bD fun i _=>?_
  rw [←sg_mul]
  exact bD fun t _=>Int.mul_assoc _ _ _
 rw [e]
 refine lH fun i hi=>?_
 rw [←mul_mod2,hY i hi j hj,mul_mod2]
theorem pS (p:Int) (n:Nat) (a:Rows):sD p n a a:=fun i hi=>iF hi
theorem qI {p:Int}{n:Nat}{a b c:Rows} (h:sD p n a b) (k:sD p n b c):sD p n a c:=fun i hi=>rM k (h i hi)
theorem tS {p:Int}{n:Nat}{m:Rows}{u v w:List Int} (c d:Int) (hu:cE p n m u) (hv:cE p n m v) (h:∀ j,j<n→el w j % p=(c*el u j+d*el v j) % p):cE p n m w:=by
 obtain ⟨x,hx⟩:=hu
 obtain ⟨y,hy⟩:=hv
 refine ⟨fun i=>c*x i+d*y i,fun j hj=>?_⟩
 rw [h j hj,Int.add_emod,← mul_mod2,← mul_mod2 p d,hx j hj,hy j hj,mul_mod2,mul_mod2,← Int.add_emod,← sg_mul,← sg_mul,← sg_add]
 congr 1
 exact bD fun i _=>by rw [Int.add_mul,Int.mul_assoc,Int.mul_assoc]
theorem FX_ {p:Int}{n:Nat}{m:Rows}{v:List Int} (h:∀ j,j<n→el v j % p=0):cE p n m v:=
 ⟨fun _=>0,fun j hj=>by rw [h j hj,iK (fun i _=>Int.zero_mul _)];exact (Int.zero_emod p).symm⟩
theorem Gu_ {p:Int}{n:Nat}{m:Rows}{r k:Nat} (hr:r<m.length) (hk:k<m.length):sD p n (kB m r k) m∧sD p n m (kB m r k):=by
 have hl:=swapM_len m r k
 constructor
 ·
  intro i hi
  rw [hl] at hi
  rw [oG hr hk]
  split
  · exact iF hr
  ·
   split
   · exact iF hk
   · exact iF hi
 ·
  intro i hi
  by_cases h1:i=k
  ·
   subst h1
   have:=iF (p:=p) (n:=n) (m:=kB m r i) (i:=r) (by rw [hl];exact hr)
   rw [oG hr hk] at this
   by_cases h2:r=i
   · subst h2;rw [if_pos rfl] at this;exact this
   · rw [if_neg h2,if_pos rfl] at this;exact this
  ·
   by_cases h2:i=r
   ·
    subst h2
    have:=iF (p:=p) (n:=n) (m:=kB m i k) (i:=k) (by rw [hl];exact hk)
    rw [oG hr hk,if_pos rfl] at this;exact this
   ·
    have:=iF (p:=p) (n:=n) (m:=kB m r k) (i:=i) (by rw [hl];exact hi)
    rw [oG hr hk,if_neg h1,if_neg h2] at this;exact this
theorem bN {p:Int}{c r k N q:Nat}{m a:Rows} (hf:fdB p=true) (h:okM p N m) (ha:okM p q a) (hl:a.length=m.length) (hr:r<m.length) (hk:k<m.length) (hc:c<N) (hne:el (gr m k) c≠0) :
  let iv:=yD p (el (gr m k) c)
  (el (gr m k) c*iv) % p=1∧(∀ j,j<q→el (gr (nB p c m a r k) r) j=(el (gr a k) j*iv) % p) ∧
  ∀ i,i<m.length→i≠r→∀ j,j<q→el (gr (nB p c m a r k) i) j=(el (gr (kB a r k) i) j-el (gr (kB m r k) i) c*el (gr (nB p c m a r k) r) j) % p:=by
 intro iv
 have hp:=cC hf
 have hel:=mH h hk hc
 obtain ⟨_,i1,i2,i3⟩:=jQ hf (x:=el (gr m k) c) ⟨by omega,hel.2⟩
 have hra:r<a.length:=by omega
 have hka:k<a.length:=by omega
 have hsr:gr (kB m r k) r=gr m k:=swapM_gr hr hk
 have hsra:gr (kB a r k) r=gr a k:=swapM_gr hra hka
 have hso:okM p q (kB a r k):=rL ha hra hka
 have hpl:(tB p c m a r k).length=a.length:=cN p c m a r k
 have hpr:gr (tB p c m a r k) r=rD (qG p iv) (gr a k):=by
  rw [nQ hra,if_pos rfl,hsr,hsra]
 have hrow:=kC ha hka
 have hpe:∀ j,j<q→el (gr (tB p c m a r k) r) j=(el (gr a k) j*iv) % p:=fun j hj=>by
  rw [hpr,qQ (by omega)];rfl
 have hst:∀ i,i<m.length→gr (nB p c m a r k) i=xB p c r (tB p c m m r k) (tB p c m a r k) i (gr (tB p c m a r k) i):=fun i hi=>C2_ (by rw [hpl];omega)
 have hstr:∀ j,j<q→el (gr (nB p c m a r k) r) j=(el (gr a k) j*iv) % p:=fun j hj=>by
  rw [hst r hr]
  unfold xB
  rw [if_pos (.inl rfl)]
  exact hpe j hj
 refine ⟨i1,hstr,fun i hi hir j hj=>?_⟩
 rw [hstr j hj,hst i hi]
 have hpi:gr (tB p c m a r k) i=gr (kB a r k) i:=by rw [nQ hra,if_neg hir]
 have hpm:gr (tB p c m m r k) i=gr (kB m r k) i:=by rw [nQ hr,if_neg hir]
 have hsi:=kC hso (i:=i) (by rw [swapM_len];omega)
 have hb:=mH hso (i:=i) (by rw [swapM_len];omega) hj
 unfold xB
 by_cases h0:el (gr (tB p c m m r k) i) c=0
 ·
  rw [if_pos (.inr h0),hpi]
  rw [hpm] at h0
  rw [h0,Int.zero_mul,Int.sub_zero,mN hb]
 ·
  rw [if_neg (by intro h1;rcases h1 with h1 | h1;exact hir h1;exact h0 h1)]
  rw [qQ (by rw [hpi];omega)]
  unfold sE
  rw [hpi,hpe j hj,hpm]
theorem Gw_ {p:Int}{c r k N q:Nat}{m a:Rows} (hf:fdB p=true) (h:okM p N m) (ha:okM p q a) (hl:a.length=m.length) (hr:r<m.length) (hk:k<m.length) (hc:c<N) (hne:el (gr m k) c≠0) :
  sD p q (nB p c m a r k) a∧sD p q a (nB p c m a r k):=by
 obtain ⟨e1,e2,e3⟩:=bN hf h ha hl hr hk hc hne
 have hsl:(nB p c m a r k).length=m.length:=by rw [zD,hl]
 have hra:r<a.length:=by omega
 have hka:k<a.length:=by omega
 obtain ⟨w1,w2⟩:=Gu_ (p:=p) (n:=q) (m:=a) hra hka
 have hnr:cE p q a (gr (nB p c m a r k) r):=by
  refine tS (yD p (el (gr m k) c)) 0 (iF hka) (iF hka) fun j hj=>?_
  rw [e2 j hj,mod_mod,Int.zero_mul,Int.add_zero,Int.mul_comm]
 constructor
 ·
  intro i hi
  rw [hsl] at hi
  by_cases hir:i=r
  · rw [hir];exact hnr
  ·
   refine tS 1 (- el (gr (kB m r k) i) c) (w1 i (by rw [swapM_len];omega)) hnr fun j hj=>?_
   rw [e3 i hi hir j hj,mod_mod,Int.one_mul,Int.neg_mul,Int.sub_eq_add_neg]
 ·
  refine qI w2 ?_
  have hrr:cE p q (nB p c m a r k) (gr (nB p c m a r k) r):=iF (by rw [hsl];exact hr)
  intro i hi
  rw [swapM_len] at hi
  by_cases hir:i=r
  ·
   rw [hir,swapM_gr hra hka]
   refine tS (el (gr m k) c) 0 hrr hrr fun j hj=>?_
   rw [e2 j hj,Int.zero_mul,Int.add_zero,mul_mod2,← Int.mul_assoc,Int.mul_comm (el (gr m k) c),Int.mul_assoc,← mul_mod2,e1,Int.mul_one]
  ·
   refine tS 1 (el (gr (kB m r k) i) c) (iF (i:=i) (by rw [hsl];omega)) hrr fun j hj=>?_
   rw [e3 i (by omega) hir j hj,Int.one_mul,Da_]
   congr 1;omega
theorem xP {p:Int}{N q:Nat} (hf:fdB p=true):∀ (d c:Nat) (m a:Rows) (r:Nat),c+d≤N→okM p N m→okM p q a→a.length=m.length→r≤m.length→sD p q (zB p d c m a r).2.1 a∧sD p q a (zB p d c m a r).2.1
 | 0,_,_,a,_,_,_,_,_,_=>⟨pS p q a,pS p q a⟩
 | d+1,c,m,a,r,hN,h,ha,hl,hr=>by
  unfold zB
  by_cases hrl:r<m.length
  ·
   rw [if_pos hrl]
   obtain ⟨s1,s2,s3⟩:=aI m c (m.length-r) r (by omega)
   split
   · exact xP hf d (c+1) m a r (by omega) h ha hl hr
   ·
    rename_i hk
    have hkl:scanN m c (m.length-r) r<m.length:=by omega
    have ha2:okM p q (nB p c m a r (scanN m c (m.length-r) r)):=pG (cC hf).1 ha (by omega) (by omega)
    obtain ⟨k1,k2⟩:=xP hf d (c+1) (nB p c m m r (scanN m c (m.length-r) r)) (nB p c m a r (scanN m c (m.length-r) r)) (r+1) (by omega) (pG (cC hf).1 h hrl hkl) ha2 (by rw [zD,zD];exact hl) (by rw [zD];omega)
    obtain ⟨w1,w2⟩:=Gw_ hf h ha hl hrl hkl (show c<N by omega) (s3 hkl)
    exact ⟨qI k1 w1,qI w2 k2⟩
  · rw [if_neg hrl];exact ⟨pS p q a,pS p q a⟩
theorem kY (p:Int):∀ (d c:Nat) (m:Rows) (r:Nat),(zB p d c m m r).2.1=(zB p d c m m r).1
 | 0,_,_,_=>rfl
 | d+1,c,m,r=>by
  unfold zB
  split
  ·
   split
   · exact kY p d (c+1) m r
   · exact kY p d (c+1) _ (r+1)
  · rfl
theorem Gt_ {p:Int}{n k:Nat}{m:Rows} (hz:∀ i,k≤i→i<m.length→∀ j,j<n→el (gr m i) j=0):sD p n (m.take k) m∧sD p n m (m.take k):=by
 constructor
 ·
  intro i hi
  rw [List.length_take] at hi
  rw [cJ (by omega)]
  exact iF (by omega)
 ·
  intro i hi
  rcases Nat.lt_or_ge i k with h | h
  ·
   have:=iF (p:=p) (n:=n) (m:=m.take k) (i:=i) (by rw [List.length_take];omega)
   rw [cJ h] at this;exact this
  · exact FX_ fun j hj=>by rw [hz i h hi j hj];exact Int.zero_emod p
theorem oL {p:Int}{n:Nat}{m:Rows} (hf:fdB p=true) (h:okM p n m):sD p n (bC p n m) m∧sD p n m (bC p n m):=by
 obtain ⟨k1,k2⟩:=xP hf n 0 m m 0 (by omega) h h rfl (by omega)
 rw [kY] at k1 k2
 have h1:=mP hf n 0 m 0 (by omega) h (RedI.start m)
 rw [Nat.zero_add] at h1
 obtain ⟨w1,w2⟩:=Gt_ (p:=p) (n:=n) (m:=(zB p n 0 m m 0).1) (k:=(zB p n 0 m m 0).2.2) h1.rest
 exact ⟨qI w1 k1,qI k2 w2⟩
theorem Indep.swap {p:Int}{n:Nat}{m:Rows}{r k:Nat} (hr:r<m.length) (hk:k<m.length) (h:Indep p n m):Indep p n (kB m r k):=by
 intro x hx
 have hl:=swapM_len m r k
 have key:∀ f:List Int→Int,sg (kB m r k).length (fun i=>x i*f (gr (kB m r k) i))=sg m.length (fun i=>(if i=r then x k else if i=k then x r else x i)*f (gr m i)):=by
  intro f
  rw [hl]
  by_cases hrk:r=k
  ·
   subst hrk
   refine bD fun i hi=>?_
   rw [oG hr hk]
   by_cases h1:i=r
   · subst h1;simp
   · simp [h1]
  ·
   rw [sg_split hr,sg_split (f:=fun i=>if i=r then 0 else _) hk,sg_split (f:=fun i=>(if i=r then x k else if i=k then x r else x i)*f (gr m i)) hr,sg_split (f:=fun i=>if i=r then 0 else (if i=r then x k else if i=k then x r else x i)*f (gr m i)) hk]
   have e1:sg m.length (fun i=>if i=k then 0 else if i=r then 0 else x i*f (gr (kB m r k) i))=sg m.length (fun i=>if i=k then 0 else if i=r then 0 else (if i=r then x k else if i=k then x r else x i)*f (gr m i)):=by
    refine bD fun i _=>?_
    by_cases h1:i=k
    · simp [h1]
    ·
     by_cases h2:i=r
     · simp [h2]
     · rw [oG hr hk];simp [h1,h2]
   rw [e1,if_neg (Ne.symm hrk),if_neg (Ne.symm hrk),swapM_gr hr hk,oG hr hk,if_pos rfl]
   simp only [if_true,if_neg (Ne.symm hrk)]
   omega
 have h2:=h (fun i=>if i=r then x k else if i=k then x r else x i) (fun j hj=>by rw [←key (fun l=>el l j)];exact hx j hj)
 intro i hi
 rw [hl] at hi
 by_cases h1:i=k
 ·
  subst h1
  have:=h2 r hr
  simpa using this
 ·
  by_cases h3:i=r
  ·
   subst h3
   have:=h2 k hk
   by_cases h4:k=i
   · exact absurd h4.symm h1
   · simpa [h4] using this
  ·
   have:=h2 i hi
   simpa [h1,h3] using this
theorem G8_ {p:Int}{c r k N q:Nat}{m a:Rows} (hf:fdB p=true) (h:okM p N m) (ha:okM p q a) (hl:a.length=m.length) (hr:r<m.length) (hk:k<m.length) (hc:c<N) (hne:el (gr m k) c≠0) (x:Nat→Int){j:Nat} (hj:j<q) :
  sg m.length (fun i=>x i*el (gr (nB p c m a r k) i) j) % p=(sg m.length (fun i=>if i=r then 0 else x i*el (gr (kB a r k) i) j)+(x r-sg m.length (fun i=>if i=r then 0 else x i*el (gr (kB m r k) i) c))*(yD p (el (gr m k) c)*el (gr a k) j)) % p:=by
 obtain ⟨e1,e2,e3⟩:=bN hf h ha hl hr hk hc hne
 rw [sg_split hr]
 have h1:sg m.length (fun i=>if i=r then 0 else x i*el (gr (nB p c m a r k) i) j) % p=sg m.length (fun i=>if i=r then 0 else x i*(el (gr (kB a r k) i) j-el (gr (kB m r k) i) c*el (gr (nB p c m a r k) r) j)) % p:=by
  refine lH fun i hi=>?_
  by_cases hir:i=r
  · rw [if_pos hir,if_pos hir]
  · rw [if_neg hir,if_neg hir,e3 i hi hir j hj,mul_mod2]
 have h2:sg m.length (fun i=>if i=r then 0 else x i*(el (gr (kB a r k) i) j-el (gr (kB m r k) i) c*el (gr (nB p c m a r k) r) j))=sg m.length (fun i=>if i=r then 0 else x i*el (gr (kB a r k) i) j)-sg m.length (fun i=>if i=r then 0 else x i*el (gr (kB m r k) i) c)*el (gr (nB p c m a r k) r) j:=by
  rw [←Ap_,← sg_sub]
  refine bD fun i _=>?_
  by_cases hir:i=r
  · simp [hir]
  · simp only [if_neg hir];rw [Int.mul_sub,Int.mul_assoc]
 rw [Int.add_emod,h1,h2,← Int.add_emod]
 generalize sg m.length (fun i=>if i=r then 0 else x i*el (gr (kB a r k) i) j)=A
 generalize sg m.length (fun i=>if i=r then 0 else x i*el (gr (kB m r k) i) c)=F
 have e4:A-F*el (gr (nB p c m a r k) r) j+x r*el (gr (nB p c m a r k) r) j=A+(x r-F)*el (gr (nB p c m a r k) r) j:=by rw [Int.sub_mul];omega
 rw [e4,e2 j hj,Int.add_emod,mul_mod2,← Int.add_emod,Int.mul_comm (el (gr a k) j)]
theorem Indep.step {p:Int}{c r k N q:Nat}{m a:Rows} (hf:fdB p=true) (h:okM p N m) (ha:okM p q a) (hl:a.length=m.length) (hr:r<m.length) (hk:k<m.length) (hc:c<N) (hne:el (gr m k) c≠0) (hi:Indep p q a):Indep p q (nB p c m a r k):=by
 obtain ⟨e1,e2,e3⟩:=bN hf h ha hl hr hk hc hne
 have hsl:(nB p c m a r k).length=m.length:=by rw [zD,hl]
 have hra:r<a.length:=by omega
 have hka:k<a.length:=by omega
 intro x hx
 rw [hsl] at hx ⊢
 have hs:=Indep.swap hra hka hi (fun i=>if i=r then (x r-sg m.length (fun i=>if i=r then 0 else x i*el (gr (kB m r k) i) c))*yD p (el (gr m k) c) else x i) (fun j hj=>by
  rw [swapM_len,hl,sg_split hr,if_pos rfl,swapM_gr hra hka]
  have:=hx j hj
  rw [G8_ hf h ha hl hr hk hc hne x hj] at this
  refine Eq.trans ?_ this
  rw [Int.mul_assoc]
  refine congrArg (fun z=>(z+_) % p) ?_
  refine bD fun i _=>?_
  by_cases hir:i=r
  · rw [if_pos hir,if_pos hir]
  · rw [if_neg hir,if_neg hir,if_neg hir])
 rw [swapM_len,hl] at hs
 have h0:∀ i,i<m.length→i≠r→x i % p=0:=fun i h1 h2=>by
  have:=hs i h1
  simpa only [if_neg h2] using this
 intro i h1
 by_cases h2:i=r
 ·
  subst h2
  have h3:=hs i hr
  simp only [if_true] at h3
  have hF:sg m.length (fun t=>if t=i then 0 else x t*el (gr (kB m i k) t) c) % p=0:=by
   rw [lH (g:=fun _=>0) (fun t ht=>by
    by_cases hti:t=i
    · rw [if_pos hti]
    · rw [if_neg hti,sS (h0 t ht hti)];exact (Int.zero_emod p).symm),iK (fun _ _=>rfl)]
   exact Int.zero_emod p
  generalize sg m.length (fun t=>if t=i then 0 else x t*el (gr (kB m i k) t) c)=F at h3 hF
  have h4:(x i-F) % p=0:=by
   have h5:=sS (b:=el (gr m k) c) h3
   rw [Int.mul_assoc,Int.mul_comm (yD p _),← mul_mod2,e1,Int.mul_one] at h5
   exact h5
  rw [fT h4,hF]
 · exact h0 i h1 h2
theorem Red.indep {p:Int}{n:Nat}{b:Rows} (h:Red p n b):Indep p n b:=by
 intro x hx i hi
 have:=hx _ (h.lt i hi)
 rw [kH hi (fun t ht hn=>by rw [h.zero i t hi ht (Ne.symm hn),Int.mul_zero]),h.one i hi,Int.mul_one] at this
 exact this
theorem B0_ {p:Int}{n:Nat}{b:Rows}{v:List Int} (hb:Red p n b) (hv:cE p n b v):∀ j,j<n→el v j % p=sg b.length (fun i=>el v (leadN (gr b i))*el (gr b i) j) % p:=by
 obtain ⟨x,hx⟩:=hv
 intro j hj
 rw [hx j hj]
 refine lH fun i hi=>?_
 have h1:=hx _ (hb.lt i hi)
 rw [kH hi (fun t ht hn=>by rw [hb.zero i t hi ht (Ne.symm hn),Int.mul_zero]),hb.one i hi,Int.mul_one] at h1
 rw [←fQ,← h1,fQ]
theorem GA_ {p:Int}{n:Nat}{b:Rows}{v:List Int} (hp:2≤p) (hb:Red p n b) (hv:okR p n v) (hs:cE p n b v) (h0:leadN v<n):∃ i,i<b.length∧leadN (gr b i)=leadN v:=by
 apply Classical.byContradiction
 intro hno
 have hno:∀ i,i<b.length→leadN (gr b i)≠leadN v:=fun i hi he=>hno ⟨i,hi,he⟩
 have h1:=B0_ hb hs _ h0
 have h2:sg b.length (fun i=>el v (leadN (gr b i))*el (gr b i) (leadN v))=0:=by
  refine iK fun i hi=>?_
  rcases Nat.lt_trichotomy (leadN (gr b i)) (leadN v) with h | h | h
  · rw [iN v _ h,Int.zero_mul]
  · exact absurd h (hno i hi)
  · rw [iN (gr b i) _ h,Int.mul_zero]
 rw [h2,Int.zero_emod,mN (hv.2 _ (bH (by rw [hv.1];exact h0)))] at h1
 exact bU v (by rw [hv.1];exact h0) h1
theorem CN_ {p:Int}{n:Nat}{b b':Rows} (hp:2≤p) (hb:Red p n b) (hb':Red p n b') (hs:sD p n b b'):∀ k,k≤b.length→∃ g:Nat→Nat,(∀ i,i<k→g i<b'.length∧leadN (gr b' (g i))=leadN (gr b i))∧(∀ i,i<k→i≤g i):=by
 intro k hk
 have hex:∀ i,i<b.length→∃ t,t<b'.length∧leadN (gr b' t)=leadN (gr b i):=fun i hi=>GA_ hp hb' (kC hb.ok hi) (hs i hi) (hb.lt i hi)
 refine ⟨fun i=>if h:i<b.length then Classical.choose (hex i h) else 0,fun i hi=>?_,fun i hi=>?_⟩
 ·
  simp only [dif_pos (Nat.lt_of_lt_of_le hi hk)]
  exact Classical.choose_spec (hex i (Nat.lt_of_lt_of_le hi hk))
 ·
  induction i with
  | zero=>exact Nat.zero_le _
  | succ i ih=>
   have h1:=ih (by omega)
   have hi1:i<b.length:=by omega
   have hi2:i+1<b.length:=by omega
   simp only [dif_pos hi1] at h1
   simp only [dif_pos hi2]
   have s1:=Classical.choose_spec (hex i hi1)
   have s2:=Classical.choose_spec (hex (i+1) hi2)
   generalize Classical.choose (hex i hi1)=t1 at s1 h1
   generalize Classical.choose (hex (i+1) hi2)=t2 at s2
   have hlt:=hb.inc i (i+1) (by omega) hi2
   have:t1<t2:=by
    rcases Nat.lt_trichotomy t1 t2 with h | h | h
    · exact h
    · rw [h] at s1;omega
    · have:=hb'.inc t2 t1 h s1.1;omega
   omega
theorem B3_ {p:Int}{n:Nat}{b b':Rows} (hp:2≤p) (hb:Red p n b) (hb':Red p n b') (hs:sD p n b b'):b.length≤b'.length:=by
 obtain ⟨g,h1,h2⟩:=CN_ hp hb hb' hs b.length (Nat.le_refl _)
 rcases Nat.eq_zero_or_pos b.length with h0 | h0
 · omega
 ·
  have:=(h1 (b.length-1) (by omega)).1
  have:=h2 (b.length-1) (by omega)
  omega
theorem red_eq {p:Int}{n:Nat}{b b':Rows} (hp:2≤p) (hb:Red p n b) (hb':Red p n b') (hs:sD p n b b') (hl:b.length=b'.length):b=b':=by
 obtain ⟨g,h1,h2⟩:=CN_ hp hb hb' hs b.length (Nat.le_refl _)
 have hg:∀ d i,i+d+1=b.length→g i=i:=by
  intro d
  induction d with
  | zero=>
   intro i hi
   have:=(h1 i (by omega)).1
   have:=h2 i (by omega)
   omega
  | succ d ih=>
   intro i hi
   have e1:=ih (i+1) (by omega)
   have a1:=h1 i (by omega)
   have a2:=h1 (i+1) (by omega)
   have a3:=hb.inc i (i+1) (by omega) (by omega)
   have a4:=h2 i (by omega)
   rw [e1] at a2
   rcases Nat.lt_trichotomy (g i) (i+1) with h | h | h
   · omega
   · rw [h] at a1;omega
   · have:=hb'.inc (i+1) (g i) h a1.1;omega
 have hlead:∀ i,i<b.length→leadN (gr b' i)=leadN (gr b i):=fun i hi=>by
  have:=(h1 i hi).2
  rw [hg (b.length-1-i) i (by omega)] at this;exact this
 refine D8_ hl fun i hi=>?_
 have r1:=kC hb.ok hi
 have r2:=kC hb'.ok (i:=i) (by omega)
 refine xQ (by rw [r1.1,r2.1]) fun j hj=>?_
 rw [r1.1] at hj
 have h3:=B0_ hb' (hs i hi) j hj
 rw [kH (i0:=i) (by omega) (fun t ht hn=>by rw [hlead t (by omega),hb.zero t i (by omega) hi hn,Int.zero_mul]),hlead i hi,hb.one i hi,Int.one_mul] at h3
 rw [mN (r1.2 _ (bH (by omega))),mN (r2.2 _ (bH (by omega)))] at h3
 exact h3
theorem xY {p:Int}{n:Nat}{b b':Rows} (hp:2≤p) (hb:Red p n b) (hb':Red p n b') (h1:sD p n b b') (h2:sD p n b' b):b=b':=
 red_eq hp hb hb' h1 (Nat.le_antisymm (B3_ hp hb hb' h1) (B3_ hp hb' hb h2))
theorem BU_ {p:Int}{n:Nat}{a b:Rows} (hf:fdB p=true) (ha:okM p n a) (hb:okM p n b) (h1:sD p n a b) (h2:sD p n b a):bC p n a=bC p n b:=by
 obtain ⟨a1,a2⟩:=oL hf ha
 obtain ⟨b1,b2⟩:=oL hf hb
 exact xY (cC hf).1 (bG hf ha) (bG hf hb) (qI a1 (qI h1 b2)) (qI b1 (qI h2 a2))
theorem Cl_ {p:Int}{n:Nat}{b:Rows} (hf:fdB p=true) (h:Red p n b):bC p n b=b:=by
 obtain ⟨a1,a2⟩:=oL hf h.ok
 exact xY (cC hf).1 (bG hf h.ok) h a1 a2
end Go.Proofs.YtlggnmkelgplnaaGreatDoor
namespace Go.Proofs.YtlggnmkelgplnaaGreatDoor
end Go.Proofs.YtlggnmkelgplnaaGreatDoor
namespace Go.Proofs.YtlggnmkelgplnaaGreatDoor
theorem GE_ {p:Int}{n:Nat}{m:List (List Int)} (h:sK p n m) (hn:n≤1048576):∀ r∈m,r.length≤iB:=by
 intro r hr;have:=(h r hr).1;have hm:iB=1099511627776:=rfl;omega
end Go.Proofs.YtlggnmkelgplnaaGreatDoor
namespace Go.Proofs.YtlggnmkelgplnaaGreatDoor
end Go.Proofs.YtlggnmkelgplnaaGreatDoor
namespace Go.Proofs.YtlggnmkelgplnaaGreatDoor
end Go.Proofs.YtlggnmkelgplnaaGreatDoor
namespace Go.Proofs.YtlggnmkelgplnaaGreatDoor
end Go.Proofs.YtlggnmkelgplnaaGreatDoor
namespace Go.Proofs.YtlggnmkelgplnaaGreatDoor
end Go.Proofs.YtlggnmkelgplnaaGreatDoor
namespace Go.Proofs.YtlggnmkelgplnaaGreatDoor
set_option linter.unusedVariables false
theorem gr_app1 {a b:Rows}{i:Nat} (h:i<a.length):gr (a++b) i=gr a i:=by
 unfold gr;rw [List.getD_eq_getElem?_getD,List.getD_eq_getElem?_getD,List.getElem?_append_left h]
theorem gr_app2 {a b:Rows} (i:Nat):gr (a++b) (a.length+i)=gr b i:=by
 unfold gr;rw [List.getD_eq_getElem?_getD,List.getD_eq_getElem?_getD,List.getElem?_append_right (by omega),Nat.add_sub_cancel_left]
theorem okM_app {p:Int}{n:Nat}{a b:Rows} (h1:okM p n a) (h2:okM p n b):okM p n (a++b):=
 fun r hr=>(List.mem_append.1 hr).elim (h1 r) (h2 r)
section
variable {p:Int}{n:Nat}{A B:Rows}
end
end Go.Proofs.YtlggnmkelgplnaaGreatDoor
namespace Go.Proofs.YtlggnmkelgplnaaGreatDoor
theorem GU_ {α:Type} (l:List (List α)) (j:Nat):(l.take j).flatten.length≤l.flatten.length:=by
 have:l.flatten=(l.take j).flatten++(l.drop j).flatten:=by rw [←List.flatten_append,List.take_append_drop]
 rw [this,List.length_append];omega
theorem GV_ {α:Type} (l:List (List α)){j:Nat}{x:List α} (h:l[j]?=some x):(l.take (j+1)).flatten=(l.take j).flatten++x:=by
 rw [List.take_add_one,h]
 simp only [Option.toList_some,List.flatten_append,List.flatten_cons,List.flatten_nil,List.append_nil]
theorem pQ {l:Rows} (h:l.flatten.length≤iB):vG l=some l.flatten:=by
 have:=gD (n:=l.length) (fun j=>(l.take j).flatten) (f:=fun (k5:Nat) (s41:List Int)=>
   (idxO l ((k5:Nat):Int)).bind fun a57=>
   (tA s41 a57).bind fun a61=>
   some a61) (by
  intro j hj
  have h1:=uE hj
  have h2:=GV_ l h1
  have h3:=GU_ l (j+1)
  refine bnd (lD hj) (bnd (vB ?_) (by rw [h2]))
  rw [h2,List.length_append] at h3;omega)
 exact bnd this (by rw [List.take_of_length_le (Nat.le_refl _)])
theorem As_ {p:Int}{l r:Nat}{x y:List Int} (hx:okR p l x) (hy:okR p r y):okR p (l+r) (x++y):=
 ⟨by rw [List.length_append,hx.1,hy.1],fun z hz=>by rcases List.mem_append.1 hz with h | h;exact hx.2 z h;exact hy.2 z h⟩
end Go.Proofs.YtlggnmkelgplnaaGreatDoor
namespace Go.Proofs.YtlggnmkelgplnaaGreatDoor
set_option linter.unusedVariables false
theorem AU_ {p a:Int} (hp:2≤p∧p≤97) (ha:0≤a∧a<p):tM p a=some ((p-a) % p):=by
 refine bnd (cD (by omega) (by omega)) (bnd (aH (by omega)) ?_)
 rw [Int.tmod_eq_emod_of_nonneg (by omega)]
def dE (n i:Nat):List Int:=(List.replicate n 0).set i 1
def idN (n:Nat):Rows:=(List.range n).map (dE n)
theorem pT {p:Int} (hp:2≤p) (n i:Nat):okR p n (dE n i):=by
 refine ⟨by simp [dE],fun x hx=>?_⟩
 rcases List.mem_or_eq_of_mem_set hx with h | rfl
 · have:=List.eq_of_mem_replicate h;omega
 · omega
theorem kN (n:Nat):(idN n).length=n:=by simp [idN]
theorem wQ {p:Int} (hp:2≤p) (n:Nat):okM p n (idN n):=by
 intro x hx
 obtain ⟨i,hi,rfl⟩:=List.mem_map.1 hx
 exact pT hp n i
theorem unit_ {n i:Nat} (hi:i<n) (hn:n≤iB):nL (n:Int) (i:Int)=some (dE n i):=
 bnd (eJ hn) (bnd (oD _ (by simpa using hi)) rfl)
theorem Ho_ (n k:Nat):(List.range (k+1)).map (dE n)=(List.range k).map (dE n)++[dE n k]:=by simp [List.range_succ]
theorem FA_ {n:Nat} (hn:n≤1048576):kW (n:Int)=some (idN n):=by
 have hm:iB=1099511627776:=rfl
 refine bnd (uK ⟨by omega,by omega⟩) ?_
 rw [Int.toNat_natCast]
 refine bnd (gD (fun k=>(List.range k).map (dE n)) ?_) rfl
 intro k hk
 exact bnd (unit_ hk (by omega)) (bnd (vB (by simp;omega)) (by rw [Ho_]))
def yB (p:Int) (n:Nat) (m:Rows):Rows×Rows×Nat:=zB p n 0 m (idN m.length) 0
theorem rP {p:Int}{n:Nat}{m:Rows} (hf:fdB p=true) (h:okM p n m):(yB p n m).2.2≤m.length∧(yB p n m).1.length=m.length∧(yB p n m).2.1.length=m.length∧okM p m.length (yB p n m).2.1∧okM p n (yB p n m).1∧Red p n ((yB p n m).1.take (yB p n m).2.2):=by
 have hp:=cC hf
 obtain ⟨k1,k2,k3,k4,k5,k6,k7⟩:=wM hp.1 n 0 m (idN m.length) 0 h (wQ hp.1 m.length) (kN _) (by omega)
 have e:(yB p n m).1.take (yB p n m).2.2=bC p n m:=by
  obtain ⟨e1,e2⟩:=nP p n 0 m (idN m.length) m 0
  unfold yB bC;rw [e1,e2]
 exact ⟨k6,k3,k4,k2,k1,by rw [e];exact bG hf h⟩
end Go.Proofs.YtlggnmkelgplnaaGreatDoor
namespace Go.Proofs.YtlggnmkelgplnaaGreatDoor
set_option linter.unusedVariables false
structure Ports (l:List Int) (n:Nat):Prop where
 rng:∀ k,k<l.length→0≤el l k∧el l k<(n:Int)
 inc:∀ i j,i<j→j<l.length→el l i<el l j
theorem Ports.inj {l:List Int}{n:Nat} (h:Ports l n){i j:Nat} (hi:i<l.length) (hj:j<l.length) (he:el l i=el l j):i=j:=by
 rcases Nat.lt_trichotomy i j with h1 | h1 | h1
 · have:=h.inc i j h1 hj;omega
 · exact h1
 · have:=h.inc j i h1 hi;omega
theorem Ports.len {l:List Int}{n:Nat} (h:Ports l n):l.length≤n:=by
 have key:∀ k,k<l.length→(k:Int)≤el l k:=fun k hk=>by
  induction k with
  | zero=>have:=h.rng 0 hk;omega
  | succ k ih=>have:=ih (by omega);have:=h.inc k (k+1) (by omega) hk;omega
 rcases Nat.eq_zero_or_pos l.length with h0 | h0
 · omega
 ·
  have:=key (l.length-1) (by omega)
  have:=(h.rng (l.length-1) (by omega)).2
  omega
def below (l:List Int) (n:Nat):Prop:=∀ k,k<l.length→0≤el l k∧el l k<(n:Int)
end Go.Proofs.YtlggnmkelgplnaaGreatDoor
namespace Go.Proofs.YtlggnmkelgplnaaGreatDoor
set_option linter.unusedVariables false
def zC (m a:Rows):Rows:=List.zipWith (fun x y=>x++y) m a
theorem bJ {m a:Rows} (h:a.length=m.length):(zC m a).length=m.length:=by simp [zC,h]
theorem dJ:∀ {m a:Rows}{i:Nat},a.length=m.length→gr (zC m a) i=gr m i++gr a i
 | [],[],i,_=>by simp [zC,gr]
 | [],_::_,_,h=>by simp at h
 | _::_,[],_,h=>by simp at h
 | x::m,y::a,0,_=>by rw [Dw_,Dw_];rfl
 | x::m,y::a,i+1,h=>by
  rw [AC_,AC_]
  show gr ((x++y)::zC m a) (i+1)=_
  rw [AC_]
  exact dJ (by simpa using h)
theorem el_app {x y:List Int}{j:Nat}:el (x++y) j=if j<x.length then el x j else el y (j-x.length):=by
 unfold el
 rw [List.getD_eq_getElem?_getD,List.getD_eq_getElem?_getD,List.getD_eq_getElem?_getD]
 split
 · rename_i h;rw [List.getElem?_append_left h]
 · rename_i h;rw [List.getElem?_append_right (by omega)]
theorem DJ_ {p:Int}{k q:Nat}{m a:Rows} (hl:a.length=m.length) (h:okM p k m) (ha:okM p q a):okM p (k+q) (zC m a):=by
 intro x hx
 obtain ⟨i,hi,rfl⟩:=List.mem_iff_getElem.1 hx
 rw [bJ hl] at hi
 have e:gr (zC m a) i=(zC m a)[i]'(by rw [bJ hl];exact hi):=by have:=uE (m:=zC m a) (i:=i) (by rw [bJ hl];exact hi);rw [List.getElem?_eq_getElem] at this;exact (Option.some.inj this).symm
 rw [←e,dJ hl]
 exact As_ (kC h hi) (kC ha (by omega))
theorem AH_ {p:Int}{k:Nat}{m a:Rows} (hl:a.length=m.length) (h:okM p k m){i c:Nat} (hi:i<m.length) (hc:c<k):el (gr (zC m a) i) c=el (gr m i) c:=by
 rw [dJ hl,el_app,if_pos (by rw [(kC h hi).1];exact hc)]
theorem Cv_ {p:Int}{k:Nat}{m a:Rows} (hl:a.length=m.length) (h:okM p k m){c:Nat} (hc:c<k):∀ (d i:Nat),i+d≤m.length→scanN (zC m a) c d i=scanN m c d i
 | 0,_,_=>rfl
 | d+1,i,hi=>by
  unfold scanN
  rw [AH_ hl h (by omega) hc,Cv_ hl h hc d (i+1) (by omega)]
theorem G0_ {m a:Rows}{r k i:Nat} (hl:a.length=m.length) (hr:r<m.length) (hk:k<m.length):gr (kB (zC m a) r k) i=gr (kB m r k) i++gr (kB a r k) i:=by
 have hcl:=bJ hl
 rw [oG (by rw [hcl];exact hr) (by rw [hcl];exact hk),oG hr hk,oG (m:=a) (by omega) (by omega)]
 split
 · exact dJ hl
 · split <;> exact dJ hl
theorem G1_ {p:Int}{c r k w q:Nat}{m a:Rows} (hf:fdB p=true) (h:okM p w m) (ha:okM p q a) (hl:a.length=m.length) (hr:r<m.length) (hk:k<m.length) (hc:c<w) (hne:el (gr m k) c≠0) :
  nB p c (zC m a) (zC m a) r k=zC (nB p c m m r k) (nB p c m a r k):=by
 have hp:=cC hf
 have hcl:=bJ hl
 have hco:=DJ_ hl h ha
 have hne2:el (gr (zC m a) k) c≠0:=by rw [AH_ hl h hk hc];exact hne
 obtain ⟨f1,f2,f3⟩:=bN hf hco hco rfl (by rw [hcl];exact hr) (by rw [hcl];exact hk) (by omega) hne2
 obtain ⟨g1,g2,g3⟩:=bN hf h h rfl hr hk hc hne
 obtain ⟨k1,k2,k3⟩:=bN hf h ha hl hr hk hc hne
 have l1:(nB p c (zC m a) (zC m a) r k).length=m.length:=by rw [zD,hcl]
 have l2:(nB p c m m r k).length=m.length:=zD p c m m r k
 have l3:(nB p c m a r k).length=m.length:=by rw [zD,hl]
 have o1:okM p (w+q) (nB p c (zC m a) (zC m a) r k):=pG hp.1 hco (by rw [hcl];exact hr) (by rw [hcl];exact hk)
 have o2:okM p w (nB p c m m r k):=pG hp.1 h hr hk
 have o3:okM p q (nB p c m a r k):=pG hp.1 ha (by omega) (by omega)
 rw [hcl] at f3
 have hrow:∀ j,j<w+q→el (gr (nB p c (zC m a) (zC m a) r k) r) j=el (gr (nB p c m m r k) r++gr (nB p c m a r k) r) j:=fun j hj=>by
  rw [f2 j hj,AH_ hl h hk hc,dJ hl,el_app,el_app,(kC h hk).1,(kC o2 (i:=r) (by omega)).1]
  split
  · rw [g2 j (by omega)]
  · rw [k2 _ (by omega)]
 refine D8_ (by rw [bJ (by rw [l3,l2]),l1,l2]) fun i hi=>?_
 rw [l1] at hi
 rw [dJ (by rw [l3,l2])]
 have wi:=(kC o2 (i:=i) (by omega)).1
 refine xQ (by rw [List.length_append,(kC o1 (i:=i) (by omega)).1,wi,(kC o3 (i:=i) (by omega)).1]) fun j hj=>?_
 rw [(kC o1 (i:=i) (by omega)).1] at hj
 by_cases hir:i=r
 · subst hir;exact hrow j hj
 ·
  have hsm:okM p w (kB m r k):=rL h hr hk
  have ws:=(kC hsm (i:=i) (by rw [swapM_len];exact hi)).1
  have wr:=(kC o2 (i:=r) (by omega)).1
  rw [f3 i hi hir j hj,hrow j hj,G0_ hl hr hk,el_app,el_app,el_app,el_app,ws,wr,wi,if_pos hc]
  split
  · rename_i hjw;rw [g3 i hi hir j hjw]
  · rename_i hjw;rw [k3 i hi hir _ (by omega)]
theorem rZ {p:Int}{w q:Nat} (hf:fdB p=true):∀ (d c:Nat) (m a:Rows) (r:Nat),c+d≤w→okM p w m→okM p q a→a.length=m.length→r≤m.length →
  zB p d c (zC m a) (zC m a) r=(zC (zB p d c m a r).1 (zB p d c m a r).2.1,zC (zB p d c m a r).1 (zB p d c m a r).2.1,(zB p d c m a r).2.2)
 | 0,_,_,_,_,_,_,_,_,_=>rfl
 | d+1,c,m,a,r,hd,h,ha,hl,hr=>by
  have hcl:=bJ hl
  unfold zB
  rw [hcl]
  by_cases hrl:r<m.length
  ·
   rw [if_pos hrl,if_pos hrl,Cv_ hl h (by omega) (m.length-r) r (by omega)]
   obtain ⟨s1,s2,s3⟩:=aI m c (m.length-r) r (by omega)
   split
   · exact rZ hf d (c+1) m a r (by omega) h ha hl hr
   ·
    rename_i hk
    have hkl:scanN m c (m.length-r) r<m.length:=by omega
    rw [G1_ hf h ha hl hrl hkl (by omega) (s3 hkl)]
    have ha2:okM p q (nB p c m a r (scanN m c (m.length-r) r)):=pG (cC hf).1 ha (by omega) (by omega)
    exact rZ hf d (c+1) (nB p c m m r (scanN m c (m.length-r) r)) (nB p c m a r (scanN m c (m.length-r) r)) (r+1) (by omega) (pG (cC hf).1 h hrl hkl) ha2 (by rw [zD,zD];exact hl) (by rw [zD];omega)
  · rw [if_neg hrl,if_neg hrl]
end Go.Proofs.YtlggnmkelgplnaaGreatDoor
