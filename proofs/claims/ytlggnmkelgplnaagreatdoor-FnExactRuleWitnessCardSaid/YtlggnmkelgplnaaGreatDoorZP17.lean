/-
  Plain laws of the partial functions: loops whose states are known, lists read and written. No program in sight. No condition.
-/
import Derived.Test.YtlggnmkelgplnaaGreatDoorZF
import Derived.Test.YtlggnmkelgplnaaGreatDoorZFn
namespace Go.Proofs.YtlggnmkelgplnaaGreatDoor
class Nice (α:Type) where
 ok:α→Prop
instance:Nice Int:=⟨inI⟩
instance:Nice Bool:=⟨fun _=>True⟩
instance {α:Type} [Nice α]:Nice (List α):=⟨fun l=>(l.length:Int)≤9223372036854775807∧∀ x∈l,Nice.ok x⟩
instance {α β:Type} [Nice α] [Nice β]:Nice (α×β):=⟨fun x=>Nice.ok x.1∧Nice.ok x.2⟩
theorem stp {α β:Type}{a:α}{k:α→Option β}{y:Option β} (h:k a=y):(some a).bind k=y:=h
theorem bnd {α β:Type}{m:Option α}{a:α}{k:α→Option β}{y:Option β} (h:m=some a) (h2:k a=y):m.bind k=y:=by rw [h];exact h2
theorem sqW {σ τ:Type}{m r:Option (σ⊕τ)}{k:σ→Option τ}{y:Option τ} (h:m=r) (h2:fC r k=y):fC m k=y:=by rw [h];exact h2
theorem bndW {α β:Type}{m r:Option α}{k:α→Option β}{y:Option β} (h:m=r) (h2:r.bind k=y):m.bind k=y:=by rw [h];exact h2
theorem cTW {α:Type}{c:Bool}{a b y:α} (h:c=true) (h2:a=y):cond c a b=y:=by rw [h];exact h2
theorem cFW {α:Type}{c:Bool}{a b y:α} (h:c=false) (h2:b=y):cond c a b=y:=by rw [h];exact h2
theorem dT {P:Prop} [Decidable P] (h:P):decide P=true:=decide_eq_true h
theorem dF {P:Prop} [Decidable P] (h:¬P):decide P=false:=decide_eq_false h
theorem nT {b:Bool} (h:b=true):(!b)=false:=by rw [h];rfl
theorem nF {b:Bool} (h:b=false):(!b)=true:=by rw [h];rfl
theorem gJ {x:Int} (h:inI x):cI x=some x:=if_pos h
theorem jB {a b:Int} (h1:-9223372036854775808≤a+b) (h2:a+b≤9223372036854775807):qA a b=some (a+b):=gJ ⟨h1,h2⟩
theorem fD {a b:Int} (h1:-9223372036854775808≤a-b) (h2:a-b≤9223372036854775807):subO a b=some (a-b):=gJ ⟨h1,h2⟩
theorem iL {a b:Int} (h1:-9223372036854775808≤a*b) (h2:a*b≤9223372036854775807):vF a b=some (a*b):=gJ ⟨h1,h2⟩
theorem aH {a b:Int} (h:b≠0):tD a b=some (a.tmod b):=if_neg h
theorem idxO_nat {α:Type} (xs:List α) (k:Nat):idxO xs (k:Int)=xs[k]?:=by
 unfold idxO;rw [if_pos (by omega)];rfl
theorem pA {α:Type}{xs:List α}{k:Nat}{a:α} (h:xs[k]?=some a):idxO xs (k:Int)=some a:=by rw [idxO_nat,h]
theorem gD {α:Type}{xs:List α}{k:Nat} (a:α) (h:k<xs.length):setO xs (k:Int) a=some (xs.set k a):=by
 unfold setO;rw [if_pos (by omega)];rfl
theorem vB {α:Type}{xs ys:List α} (h:xs.length+ys.length≤iB):tA xs ys=some (xs++ys):=if_pos h
theorem vI {α:Type}{n:Nat} (z:α) (h:n≤iB):nD (n:Int) z=some (List.replicate n z):=by
 unfold nD;rw [if_pos (by omega)];rfl
theorem C9_ {α:Type}{n:Nat} (z:α) (h:n≤iB):fK 0 (n:Int) z=some []:=by
 unfold fK;rw [if_pos (by omega)];rfl
theorem EM_ {σ:Type}{f:Nat→σ→Option σ} (v:Nat→σ):∀ (n k:Nat),(∀ j,k≤j→j<k+n→f j (v j)=some (v (j+1)))→forS f n k (v k)=some (v (k+n))
 | 0,k,_=>rfl
 | n+1,k,h=>by
  show (f k (v k)).bind _=_
  rw [h k (Nat.le_refl _) (by omega)]
  show forS f n (k+1) (v (k+1))=_
  rw [EM_ v n (k+1) (fun j h1 h2=>h j (by omega) (by omega))]
  rw [show k+1+n=k+(n+1) by omega]
theorem iD {σ:Type}{f:Nat→σ→Option σ}{n:Nat} (v:Nat→σ) (h:∀ j,j<n→f j (v j)=some (v (j+1))):forS f n 0 (v 0)=some (v n):=by
 have:=EM_ v n 0 (fun j _ h2=>h j (by omega))
 simpa using this
theorem nH {α τ:Type}{f:Nat→Unit→Option (Unit⊕τ)}{t:τ} (P:α→Bool):∀ (l:List α) (k:Nat),(∀ j a,l[j]?=some a→f (k+j) ()=some (if P a then .inl () else .inr t))→nC f l.length k ()=some (if l.all P then .inl () else .inr t)
 | [],k,_=>rfl
 | a::l,k,h=>by
  show (f k ()).bind _=_
  have h0:f k ()=_:=h 0 a rfl
  rw [h0]
  cases hP:P a with
  | false=>simp [hP]
  | true=>
   have:=nH P l (k+1) (fun j b hb=>by
    have:=h (j+1) b (by simpa using hb)
    rw [show k+1+j=k+(j+1) by omega];exact this)
   simp only [hP,List.all_cons,Bool.true_and,if_true]
   exact this
theorem Dk_ {σ τ:Type}{f:σ→Option (σ⊕τ)} (v:Nat→σ){t:τ}:∀ (n k:Nat),(∀ j,k≤j→j<k+n→f (v j)=some (.inl (v (j+1))))→f (v (k+n))=some (.inr t)→zB f (v k)=some t
 | 0,k,_,he=>eF he
 | n+1,k,h,he=>by
  rw [jG (h k (Nat.le_refl _) (by omega))]
  refine Dk_ v n (k+1) (fun j h1 h2=>h j (by omega) (by omega)) ?_
  rw [show k+1+n=k+(n+1) by omega];exact he
theorem aO {σ τ:Type}{f:σ→Option (σ⊕τ)} (v:Nat→σ){t:τ} (n:Nat) (h:∀ j,j<n→f (v j)=some (.inl (v (j+1)))) (he:f (v n)=some (.inr t)):zB f (v 0)=some t:=
 Dk_ v n 0 (fun j _ h2=>h j (by omega)) (by simpa using he)
theorem yE {α β:Type}{f:Nat→List β→Option (List β)} (g:α→β) (l:List α) (s:List β) (hb:s.length+l.length≤iB) (h:∀ j a s',l[j]?=some a→s'.length=s.length+j→f j s'=some (s'++[g a])):forS f l.length 0 s=some (s++l.map g):=by
 have:=iD (f:=f) (n:=l.length) (fun j=>s++(l.take j).map g) (fun j hj=>by
  rw [h j l[j] _ (List.getElem?_eq_getElem hj) (by simp;omega)]
  simp only [List.append_assoc]
  rw [List.take_add_one,List.getElem?_eq_getElem hj]
  simp only [List.map_append,Option.toList_some,List.map_cons,List.map_nil])
 simpa using this
theorem DP_ {α:Type} (xs:List α) (g:Nat→α→α) (j:Nat) (h:j<xs.length):((xs.take j).mapIdx g++xs.drop j).set j (g j xs[j])=(xs.take (j+1)).mapIdx g++xs.drop (j+1):=by
 rw [List.set_append_right _ _ (by simp;omega)]
 have:j-((xs.take j).mapIdx g).length=0:=by simp;omega
 rw [this,List.take_add_one,List.getElem?_eq_getElem h,List.drop_eq_getElem_cons h,List.mapIdx_append]
 simp only [Option.toList_some,List.mapIdx_cons,List.mapIdx_nil,List.length_take,Nat.min_eq_left (Nat.le_of_lt h),List.set_cons_zero,List.append_assoc,List.singleton_append,Nat.zero_add]
end Go.Proofs.YtlggnmkelgplnaaGreatDoor
namespace Go.Proofs.YtlggnmkelgplnaaGreatDoor
def tot {α:Type} (n:α→Nat) (l:List α):Nat:=(l.map n).sum
theorem tot_nil {α:Type} (n:α→Nat):tot n []=0:=rfl
theorem tot_cons {α:Type} (n:α→Nat) (a:α) (l:List α):tot n (a::l)=n a+tot n l:=by simp [tot]
theorem aI {α:Type} (pre rest:List α) (a:α):(pre++a::rest)[pre.length]?=some a:=by simp
theorem iW {α:Type} (pre rest:List α) (a b:α):(pre++a::rest).set pre.length b=pre++b::rest:=by simp
theorem wH {α:Type} (pre rest:List α) (a:α):pre++a::rest=(pre++[a])++rest:=by simp
theorem len1 {α:Type} (pre:List α) (a:α):(((pre++[a]).length:Nat):Int)=(pre.length:Int)+1:=by simp
def aF:Int:=4611686018427387904
theorem Ew_ {α:Type} (n:α→Nat){f:Int×Int→Option ((Int×Int)⊕(Int⊕Int))} (L:List α) (B:Int)
  (hf:∀ (j:Nat) (a:α) (s:Int),L[j]?=some a→j<L.length→0≤s→s≤B→f (s,(j:Int))=some (if (n a:Int)≤s then .inl (s-n a,(j:Int)+1) else .inr (.inr (-1))))
  (he:∀ s:Int,f (s,(L.length:Int))=some (.inr (.inl s))):∀ (rest pre:List α) (s:Int),L=pre++rest→0≤s→s≤B→zB f (s,(pre.length:Int))=some (if (tot n rest:Int)≤s then .inl (s-tot n rest) else .inr (-1))
 | [],pre,s,hL,h0,_=>by
  have:=he s
  rw [hL,List.append_nil] at this
  rw [eF this,tot_nil,if_pos (by omega)];simp
 | a::rest,pre,s,hL,h0,hB=>by
  have h1:=hf pre.length a s (by rw [hL];exact aI _ _ _) (by rw [hL];simp) h0 hB
  by_cases h:(n a:Int)≤s
  ·
   rw [if_pos h] at h1
   have ih:=Ew_ n L B hf he rest (pre++[a]) (s-n a) (by rw [hL,wH]) (by omega) (by omega)
   rw [len1] at ih
   rw [jG h1,ih,tot_cons]
   by_cases h2:(tot n rest:Int)≤s-n a
   · rw [if_pos h2,if_pos (by omega)];congr 2;omega
   · rw [if_neg h2,if_neg (by omega)]
  ·
   rw [if_neg h] at h1
   rw [eF h1,tot_cons,if_neg (by omega)]
theorem Es_ {α:Type} (z:α){f:List α×Int→Option ((List α×Int)⊕List α)} (L:List α)
  (hf:∀ (j:Nat) (a:α) (s:List α),L[j]?=some a→j<L.length→s.length=L.length→f (s,(j:Int))=some (.inl (s.set j a,(j:Int)+1)))
  (he:∀ s:List α,s.length=L.length→f (s,(L.length:Int))=some (.inr s)):∀ (rest pre:List α),L=pre++rest→zB f (pre++List.replicate rest.length z,(pre.length:Int))=some L
 | [],pre,hL=>by
  rw [List.append_nil] at hL
  have:=he pre (by rw [hL])
  rw [hL] at this
  have h2:pre++List.replicate ([]:List α).length z=pre:=by simp
  rw [h2,hL,eF this]
 | a::rest,pre,hL=>by
  have h1:=hf pre.length a (pre++z::List.replicate rest.length z) (by rw [hL];exact aI _ _ _) (by rw [hL];simp) (by rw [hL];simp)
  have ih:=Es_ z L hf he rest (pre++[a]) (by rw [hL,wH])
  rw [iW,wH pre _ a,← len1 pre a] at h1
  rw [List.length_cons,List.replicate_succ]
  rw [jG h1,ih]
theorem EQ_ {α:Type} [DecidableEq α] {f:Int→Option (Int⊕(Unit⊕Bool))} (L M:List α)
  (hf:∀ (j:Nat) (a b:α),L[j]?=some a→M[j]?=some b→j<L.length→f (j:Int)=some (if a=b then .inl ((j:Int)+1) else .inr (.inr false)))
  (he:f (L.length:Int)=some (.inr (.inl ()))):∀ (rest rest' pre pre':List α),L=pre++rest→M=pre'++rest'→pre.length=pre'.length→rest.length=rest'.length→zB f (pre.length:Int)=some (if rest=rest' then .inl () else .inr false)
 | [],[],pre,pre',hL,_,_,_=>by
  rw [hL,List.append_nil] at he
  rw [eF he];rfl
 | [],_::_,_,_,_,_,_,h=>by simp at h
 | _::_,[],_,_,_,_,_,h=>by simp at h
 | a::rest,b::rest',pre,pre',hL,hM,hp,hr=>by
  have h1:=hf pre.length a b (by rw [hL];exact aI _ _ _) (by rw [hM,hp];exact aI _ _ _) (by rw [hL];simp)
  by_cases h:a=b
  ·
   rw [if_pos h] at h1
   have ih:=EQ_ L M hf he rest rest' (pre++[a]) (pre'++[b]) (by rw [hL,wH]) (by rw [hM,wH]) (by simp [hp]) (by simpa using hr)
   rw [len1] at ih
   rw [jG h1,ih]
   by_cases h2:rest=rest'
   · rw [if_pos h2,if_pos (by rw [h,h2])]
   · rw [if_neg h2,if_neg (by intro h3;exact h2 (List.cons.inj h3).2)]
  ·
   rw [if_neg h] at h1
   rw [eF h1,if_neg (by intro h3;exact h (List.cons.inj h3).1)]
def mkL {α:Type} (mk:α→Int→α×Int):List α→Int→List α×Int
 | [],k=>([],k)
 | a::l,k=>((mk a k).1::(mkL mk l (mk a k).2).1,(mkL mk l (mk a k).2).2)
theorem EG_ {α:Type} (mk:α→Int→α×Int):∀ (l:List α) (k:Int),(mkL mk l k).1.length=l.length
 | [],_=>rfl
 | a::l,k=>by show (mkL mk l _).1.length+1=l.length+1;rw [EG_ mk l]
theorem Bp_ {α:Type} (mk:α→Int→α×Int) (n:α→Nat) (hmk:∀ a k,(mk a k).2=k+n a):∀ (l:List α) (k:Int),(mkL mk l k).2=k+tot n l
 | [],k=>by simp [mkL,tot]
 | a::l,k=>by
  show (mkL mk l (mk a k).2).2=_
  rw [Bp_ mk n hmk l,hmk,tot_cons];omega
theorem Du_ {α:Type} (Pr:α→Prop) (mk:α→Int→α×Int) (n:α→Nat) (hmk:∀ a k,(mk a k).2=k+n a){f:List α×Int×Int→Option ((List α×Int×Int)⊕(List α×Int))} (N:Nat) (B:Int)
  (hf:∀ (j:Nat) (a:α) (s:List α) (q:Int),s[j]?=some a→Pr a→s.length=N→j<N→0≤q→q+n a≤B→f (s,q,(j:Int))=some (.inl (s.set j (mk a q).1,(mk a q).2,(j:Int)+1)))
  (he:∀ (s:List α) (q:Int),s.length=N→f (s,q,(N:Int))=some (.inr (s,q))):∀ (rest pre:List α) (q:Int),pre.length+rest.length=N→(∀ a∈rest,Pr a)→0≤q→q+tot n rest≤B→zB f (pre++rest,q,(pre.length:Int))=some (pre++(mkL mk rest q).1,(mkL mk rest q).2)
 | [],pre,q,hN,_,_,_=>by
  have h1:pre.length=N:=by simpa using hN
  have:=he pre q h1
  rw [←h1] at this
  rw [List.append_nil,eF this];simp [mkL]
 | a::rest,pre,q,hN,hP,h0,hB=>by
  rw [tot_cons] at hB
  have h1:=hf pre.length a (pre++a::rest) q (aI _ _ _) (hP a (List.mem_cons_self ..)) (by simpa using hN) (by simp at hN;omega) h0 (by omega)
  have ih:=Du_ Pr mk n hmk N B hf he rest (pre++[(mk a q).1]) (mk a q).2 (by simp at hN ⊢;omega) (fun b hb=>hP b (List.mem_cons_of_mem _ hb)) (by rw [hmk];omega) (by rw [hmk];omega)
  rw [iW,wH pre rest (mk a q).1,← len1 pre (mk a q).1] at h1
  rw [jG h1,ih]
  simp [mkL]
theorem Dz_ {α:Type} (Pr:α→Prop) (mk:α→Int→α×Int) (n:α→Nat) (hmk:∀ a k,(mk a k).2=k+n a){f:Int×Int→Option ((Int×Int)⊕(Int⊕Int))} (L:List α) (B:Int)
  (hf:∀ (j:Nat) (a:α) (q:Int),L[j]?=some (mk a q).1→Pr a→j<L.length→0≤q→q+n a≤B→f (q,(j:Int))=some (.inl (q+n a,(j:Int)+1)))
  (he:∀ q:Int,f (q,(L.length:Int))=some (.inr (.inl q))):∀ (rest pre:List α) (q:Int),L=pre++(mkL mk rest q).1→(∀ a∈rest,Pr a)→0≤q→q+tot n rest≤B→zB f (q,(pre.length:Int))=some (.inl (q+tot n rest))
 | [],pre,q,hL,_,_,_=>by
  have:=he q
  rw [hL] at this
  have h2:pre++(mkL mk [] q).1=pre:=by simp [mkL]
  rw [h2] at this
  rw [eF this,tot_nil];simp
 | a::rest,pre,q,hL,hP,h0,hB=>by
  rw [tot_cons] at hB
  have hL':L=pre++(mk a q).1::(mkL mk rest (q+n a)).1:=by rw [hL];show _=_;rw [←hmk];rfl
  have h1:=hf pre.length a q (by rw [hL'];exact aI _ _ _) (hP a (List.mem_cons_self ..)) (by rw [hL'];simp) h0 (by omega)
  have ih:=Dz_ Pr mk n hmk L B hf he rest (pre++[(mk a q).1]) (q+n a) (by rw [hL',wH]) (fun b hb=>hP b (List.mem_cons_of_mem _ hb)) (by omega) (by omega)
  rw [len1] at ih
  rw [jG h1,ih,tot_cons];congr 2;omega
end Go.Proofs.YtlggnmkelgplnaaGreatDoor
namespace Go.Proofs.YtlggnmkelgplnaaGreatDoor
def one {α:Type} (_:α):Nat:=1
theorem cW {α:Type} (l:List α):tot one l=l.length:=by
 induction l with
 | nil=>rfl
 | cons a l ih=>rw [tot_cons,ih,List.length_cons];show 1+_=_;omega
theorem Eq_ {α:Type}{n:α→Nat}{l:List α}{a:α} (h:a∈l):n a≤tot n l:=by
 induction l with
 | nil=>cases h
 | cons b l ih=>
  rw [tot_cons]
  cases h with
  | head=>omega
  | tail _ h=>have:=ih h;omega
theorem aD {α:Type}{l:List α}{j:Nat}{a:α} (h:l[j]?=some a):a∈l:=List.mem_of_getElem? h
def lS {α:Type} (l:List α):Prop:=(l.length:Int)≤9223372036854775807
def iJ (r:List Int):Nat:=r.length
theorem eqIntS (a b:List Int) (hl:lS a):qJ a b=some (decide (a=b)):=by
 unfold lS at hl
 refine stp ?_
 by_cases h:a.length=b.length
 ·
  refine cFW (nT (dT (by omega))) (sqW (EQ_ a b ?_ ?_ a b [] [] rfl rfl rfl h) ?_)
  ·
   intro j x y hx hy hj
   refine stp (cTW (dT (by omega)) (bnd (pA hx) (bnd (pA hy) (stp ?_))))
   by_cases h2:x=y
   · rw [if_pos h2];exact cFW (nT (dT h2)) (bnd (jB (by omega) (by omega)) rfl)
   · rw [if_neg h2];exact cTW (nF (dF h2)) rfl
  · exact stp (cFW (dF (by omega)) rfl)
  ·
   by_cases h2:a=b
   · rw [if_pos h2,show decide (a=b)=true from dT h2];rfl
   · rw [if_neg h2,show decide (a=b)=false from dF h2];rfl
 · rw [show decide (a=b)=false from dF (fun h2=>h (by rw [h2]))];exact cTW (nF (dF (by omega))) rfl
def mkI (_:Int) (k:Int):Int×Int:=(k,k+1)
def mkS:List Int→Int→List Int×Int:=mkL mkI
theorem Bq_ (a k:Int):(mkI a k).2=k+one a:=rfl
theorem mkS_snd (a:List Int) (k:Int):(mkS a k).2=k+iJ a:=by
 rw [show (mkS a k).2=k+tot one a from Bp_ mkI one Bq_ a k,cW];rfl
theorem EF_ (a:List Int) (k:Int):(mkS a k).1.length=a.length:=EG_ mkI a k
theorem IP_ (a:List Int) (k:Int) (h0:0≤k) (hb:k+iJ a≤aF):kN a k=some (mkS a k):=by
 unfold iJ at hb;unfold aF at hb
 refine bnd (Du_ (fun _=>True) mkI one Bq_ a.length 4611686018427387904 ?_ ?_ a [] k (by simp) (fun _ _=>trivial) h0 (by rw [cW];omega)) rfl
 ·
  intro j x s q hj _ hs hjl hq hB
  dsimp only
  have h1:(one x:Int)=1:=rfl
  exact stp (cTW (dT (by omega)) (bnd (gD _ (by omega)) (bnd (jB (by omega) (by omega)) (bnd (jB (by omega) (by omega)) rfl))))
 · intro s q hs;dsimp only;exact stp (cFW (dF (by omega)) rfl)
theorem IV_ (a:List Int) (k:Int) (h0:0≤k) (hb:k+iJ a≤aF):cM (mkS a k).1 k=some (k+iJ a):=by
 unfold iJ at hb ⊢;unfold aF at hb
 refine sqW (Dz_ (fun _=>True) mkI one Bq_ (mkS a k).1 4611686018427387904 ?_ ?_ a [] k rfl (fun _ _=>trivial) h0 (by rw [cW];omega)) ?_
 ·
  intro j x q hj _ hjl hq hB
  dsimp only
  have h1:(one x:Int)=1:=rfl
  rw [EF_] at hjl
  have h2:=EF_ a k
  exact stp (cTW (dT (by omega)) (bnd (pA hj) (stp (cFW (nT (dT rfl)) (bnd (jB (by omega) (by omega)) (bnd (jB (by omega) (by omega)) rfl))))))
 · intro q;dsimp only;exact stp (cFW (dF (by omega)) rfl)
 · rw [cW];rfl
end Go.Proofs.YtlggnmkelgplnaaGreatDoor
namespace Go.Proofs.YtlggnmkelgplnaaGreatDoor
end Go.Proofs.YtlggnmkelgplnaaGreatDoor
namespace Go.Proofs.YtlggnmkelgplnaaGreatDoor
def rng (n lo hi:Int):Bool:=decide (lo≤n)&&decide (n≤hi)
theorem rng_true {n lo hi:Int}:rng n lo hi=true↔lo≤n∧n≤hi:=by unfold rng;simp
theorem l1In (n lo hi:Int):lH n lo hi=some (rng n lo hi):=by
 unfold lH rng
 by_cases h:lo≤n
 · rw [dT h];rfl
 · rw [dF h];rfl
theorem within_ (n lo hi:Int):uG n lo hi=some (rng n lo hi):=by
 unfold uG rng
 by_cases h:lo≤n
 · rw [dT h];rfl
 · rw [dF h];rfl
def fdB (p:Int):Bool:=rng p 2 97&&[2,3,5,7].all fun q=>!(decide (p % q=0)&&!decide (p=q))
def Fn_ (p:Int) (s:Int):Option (Int⊕(Unit⊕Bool)):=
 (vF s s).bind fun a111=>
    (some (decide (a111≤p))).bind fun a113=>
    cond a113
    ((tD p s).bind fun a118=>
     (some (decide (a118=0))).bind fun a120=>
     cond a120
     (some (.inr (.inr false)))
     ((qA s 1).bind fun a123=>
      some (.inl a123)))
    (some (.inr (.inl ())))
def EO_ (p:Nat):Bool:=decide (fC (qG (Fn_ p) 10 2) (fun (_:Unit)=>some true)=some (fdB p))||decide (p<2)
theorem fd_all:((List.range 98).all EO_)=true:=by decide +kernel
theorem BS_ (p:Int):dQ p=some (fdB p):=by
 unfold dQ
 refine bnd (l1In p 2 97) (stp ?_)
 cases h:rng p 2 97 with
 | false=>refine cTW rfl ?_;unfold fdB;rw [h];rfl
 | true=>
  refine cFW rfl ?_
  have hr:=rng_true.1 h
  obtain ⟨k,rfl⟩:∃ k:Nat,p=(k:Int):=⟨p.toNat,by omega⟩
  have hk:=List.all_eq_true.1 fd_all k (List.mem_range.2 (by omega))
  unfold EO_ at hk
  have h2:decide (k<2)=false:=dF (by omega)
  rw [h2,Bool.or_false] at hk
  have hk:=of_decide_eq_true hk
  rw [←hk]
  cases hi:qG (Fn_ k) 10 2 with
  | none=>rw [hi] at hk;cases hk
  | some t=>exact sqW (whileO_iff.2 ⟨10,hi⟩) rfl
theorem A6_ (p:Int):qT p=some (fdB p):=by
 unfold qT fdB
 cases h:rng p 2 97 with
 | false=>
  refine bnd (a:=true) (stp ?_) (cTW rfl rfl)
  by_cases h1:p<2
  · exact cTW (dT h1) rfl
  ·
   refine cFW (dF h1) (stp ?_)
   rw [dT]
   apply Classical.byContradiction
   intro h3
   have:rng p 2 97=true:=rng_true.2 ⟨by omega,by omega⟩
   rw [h] at this;cases this
 | true=>
  have hr:=rng_true.1 h
  refine bnd (a:=false) (stp (cFW (dF (by omega)) (stp (by rw [dF (by omega)])))) (cFW rfl (bnd (gJ (by decide)) ?_))
  refine sqW (nH (fun q:Int=>!(decide (p % q=0)&&!decide (p=q))) [2,3,5,7] 0 ?_ (t:=false)) ?_
  ·
   intro j q hj
   have hq:q∈[(2:Int),3,5,7]:=aD hj
   have hq1:q≠0∧0<q:=by simp at hq;omega
   rw [Nat.zero_add]
   refine bnd (pA hj) ?_
   refine bnd (a:=decide (p % q=0)&&!decide (p=q)) ?_ ?_
   ·
    refine bnd (aH hq1.1) (stp ?_)
    rw [Int.tmod_eq_emod_of_nonneg (by omega)]
    by_cases h1:p % q=0
    · rw [dT h1];rfl
    · rw [dF h1];rfl
   · cases (decide (p % q=0)&&!decide (p=q)) <;> rfl
  · cases ([2,3,5,7].all fun q:Int=>!(decide (p % q=0)&&!decide (p=q))) <;> rfl
theorem dC {p:Int} (h:fdB p=true):2≤p∧p≤97:=by
 unfold fdB at h
 exact rng_true.1 (by revert h;cases rng p 2 97 <;> simp)
def inP (p:Int) (l:List Int):Prop:=∀ x∈l,0≤x∧x<p
theorem l1All (l:List Int) (lo hi:Int):yK l lo hi=some (l.all fun x=>rng x lo hi):=by
 refine sqW (nH (fun x=>rng x lo hi) l 0 ?_ (t:=false)) ?_
 ·
  intro j x hj
  rw [Nat.zero_add]
  refine bnd (pA hj) (bnd (l1In x lo hi) (stp ?_))
  cases rng x lo hi <;> rfl
 · cases (l.all fun x=>rng x lo hi) <;> rfl
def dJ (p:Int) (n:Nat) (m:List (List Int)):Prop:=∀ r∈m,r.length=n∧inP p r
end Go.Proofs.YtlggnmkelgplnaaGreatDoor
namespace Go.Proofs.YtlggnmkelgplnaaGreatDoor
theorem iV {α β:Type} (Pa:α→Prop) (Pb:β→Prop) (g:β→α→α){f:Nat→List α→Option (List α)} (W:List β)
  (hf:∀ (j:Nat) (b:β) (a:α) (s:List α),W[j]?=some b→s[j]?=some a→Pa a→Pb b→j<s.length→f j s=some (s.set j (g b a))) :
  ∀ (rest preW:List β) (pre rest':List α),W=preW++rest→pre.length=preW.length→rest'.length=rest.length→(∀ b∈rest,Pb b)→(∀ a∈rest',Pa a)→forS f rest.length preW.length (pre++rest')=some (pre++List.zipWith g rest rest')
 | [],preW,pre,[],_,_,_,_,_=>by simp [forS]
 | [],_,_,_::_,_,_,h,_,_=>by simp at h
 | _::_,_,_,[],_,_,h,_,_=>by simp at h
 | b::rest,preW,pre,a::rest',hW,hp,hr,hb,ha=>by
  have h1:=hf pre.length b a (pre++a::rest') (by rw [hW,hp];exact aI _ _ _) (aI _ _ _) (ha a (List.mem_cons_self ..)) (hb b (List.mem_cons_self ..)) (by simp)
  have ih:=iV Pa Pb g W hf rest (preW++[b]) (pre++[g b a]) rest' (by rw [hW,wH]) (by simp [hp]) (by simpa using hr) (fun x hx=>hb x (List.mem_cons_of_mem _ hx)) (fun x hx=>ha x (List.mem_cons_of_mem _ hx))
  rw [iW,wH pre rest' (g b a)] at h1
  rw [hp] at h1
  show (f preW.length (pre++a::rest')).bind _=_
  rw [h1]
  show forS f rest.length (preW.length+1) _=_
  rw [show preW.length+1=(preW++[b]).length by simp,ih]
  simp
def pE {α β σ:Type} (g:σ→α→β→σ):List α→List β→σ→σ
 | a::l,b::m,s=>pE g l m (g s a b)
 | _,_,s=>s
theorem AU_ {α β σ:Type} (g:σ→α→β→σ) (I:σ→Prop){f:Nat→σ→Option σ} (A:List α) (B:List β)
  (hf:∀ (j:Nat) (a:α) (b:β) (s:σ),A[j]?=some a→B[j]?=some b→I s→f j s=some (g s a b)∧I (g s a b)) :
  ∀ (rest preA:List α) (rest' preB:List β) (s:σ),A=preA++rest→B=preB++rest'→preA.length=preB.length→rest.length≤rest'.length→I s→forS f rest.length preA.length s=some (pE g rest rest' s)∧I (pE g rest rest' s)
 | [],_,m,_,s,_,_,_,_,hI=>by
  have:pE g [] m s=s:=by cases m <;> rfl
  rw [this];exact ⟨rfl,hI⟩
 | _::_,_,[],_,_,_,_,_,h,_=>by simp at h
 | a::rest,preA,b::rest',preB,s,hA,hB,hp,hr,hI=>by
  obtain ⟨h1,h2⟩:=hf preA.length a b s (by rw [hA];exact aI _ _ _) (by rw [hB,hp];exact aI _ _ _) hI
  obtain ⟨h3,h4⟩:=AU_ g I A B hf rest (preA++[a]) rest' (preB++[b]) (g s a b) (by rw [hA,wH]) (by rw [hB,wH]) (by simp [hp]) (by simpa using hr) h2
  refine ⟨?_,h4⟩
  show (f preA.length s).bind _=_
  rw [h1]
  show forS f rest.length (preA.length+1) _=_
  rw [show preA.length+1=(preA++[a]).length by simp,h3]
  rfl
theorem zM {p c y:Int} (hp:2≤p∧p≤97) (hc:0≤c∧c<p) (hy:0≤y∧y<p):0≤c*y∧c*y≤9409:=by
 refine ⟨Int.mul_nonneg hc.1 hy.1,?_⟩
 calc c*y≤97*97:=Int.mul_le_mul (by omega) (by omega) hy.1 (by omega)
  _=9409:=by decide
theorem mL {p x:Int} (hp:2≤p):0≤x % p∧x % p<p:=⟨Int.emod_nonneg _ (by omega),Int.emod_lt_of_pos _ (by omega)⟩
def pD (p c:Int) (acc row:List Int):List Int:=List.zipWith (fun y x=>(x+c*y) % p) row acc
theorem zR {p:Int} (hp:2≤p) (c:Int):∀ (row acc:List Int),inP p (pD p c acc row)
 | [],_=>by intro x hx;simp [pD] at hx
 | _::_,[]=>by intro x hx;simp [pD] at hx
 | y::row,x::acc=>by
  intro z hz
  have:z∈(x+c*y) % p::pD p c acc row:=hz
  cases this with
  | head=>exact mL hp
  | tail _ h=>exact zR hp c row acc z h
theorem aW {p c:Int}{acc row:List Int} (h:row.length=acc.length):(pD p c acc row).length=acc.length:=by simp [pD,h]
def dD (p:Int) (n:Nat) (rows:List (List Int)) (cs:List Int):List Int:=pE (fun acc row c=>pD p c acc row) rows cs (List.replicate n 0)
def okR (p:Int) (n:Nat) (l:List Int):Prop:=l.length=n∧inP p l
theorem nV {p:Int} (hp:2≤p) (n:Nat):okR p n (List.replicate n 0):=⟨by simp,by intro x hx;have:=List.eq_of_mem_replicate hx;omega⟩
theorem mod_ {p a:Int} (hp:2≤p) (ha:0≤a):zN p a=some (a % p):=by
 refine bnd (aH (by omega)) (stp ?_)
 rw [Int.tmod_eq_emod_of_nonneg ha]
 exact cFW (dF (by have:=mL (x:=a) hp;omega)) rfl
theorem Iw_ {p c:Int}{n:Nat}{acc row:List Int} (hp:2≤p∧p≤97) (hc:0≤c∧c<p) (ha:okR p n acc) (hr:okR p n row):gH p acc c row=some (pD p c acc row):=by
 refine bnd (iV (fun x=>0≤x∧x<p) (fun x=>0≤x∧x<p) (fun y x=>(x+c*y) % p) row ?_ row [] [] acc rfl rfl (by rw [ha.1,hr.1]) hr.2 ha.2) rfl
 intro j y x s hy hx hxp hyp hj
 have:=zM hp hc hyp
 refine bnd (pA hy) (bnd (pA hx) (bnd (iL (by omega) (by omega)) (bnd (jB (by omega) (by omega)) (bnd (mod_ (by omega) (by omega)) ?_))))
 exact bnd (gD _ hj) rfl
theorem cK {n:Nat} (h:n≤iB):wG (n:Int)=some (List.replicate n 0):=bnd (vI _ h) rfl
theorem Ek_ {p:Int}{n:Nat}{rows:List (List Int)}{cs:List Int} (hp:2≤p∧p≤97) (hn:n≤iB) (hr:dJ p n rows) (hc:inP p cs) (hl:rows.length≤cs.length):oN p cs rows (n:Int)=some (dD p n rows cs)∧okR p n (dD p n rows cs):=by
 have:=AU_ (fun acc row c=>pD p c acc row) (okR p n) (f:=fun (k8:Nat) (s55:List Int)=>
   (idxO rows ((k8:Nat):Int)).bind fun a70=>
   (idxO cs ((k8:Nat):Int)).bind fun a80=>
   (gH p s55 a80 a70).bind fun y82=>
   some y82) rows cs (by
  intro j row c s hrow hc' hs
  have h1:=hr row (aD hrow)
  refine ⟨bnd (pA hrow) (bnd (pA hc') (bnd (Iw_ hp (hc c (aD hc')) hs h1) rfl)),?_,zR hp.1 c row s⟩
  rw [aW (by rw [h1.1,hs.1]),hs.1]) rows [] cs [] _ rfl rfl rfl hl (nV hp.1 n)
 exact ⟨bnd (cK hn) (bnd this.1 rfl),this.2⟩
theorem BJ_ {p:Int}{n:Nat}{rows:List (List Int)}{cs:List Int} (hp:2≤p∧p≤97) (hn:n≤iB) (hr:dJ p n rows) (hc:inP p cs) (hl:rows.length≤cs.length):iM p (n:Int) rows cs=some (dD p n rows cs):=by
 refine bnd (vI _ hn) (bnd (AU_ (fun acc row c=>pD p c acc row) (okR p n) rows cs ?_ rows [] cs [] _ rfl rfl rfl hl (nV hp.1 n)).1 rfl)
 intro j row c s hrow hc' hs
 have h1:=hr row (aD hrow)
 have hcp:=hc c (aD hc')
 refine ⟨bnd (pA hrow) (bnd (iV (fun x=>0≤x∧x<p) (fun x=>0≤x∧x<p) (fun y x=>(x+c*y) % p) row ?_ row [] [] s rfl rfl (by rw [h1.1,hs.1]) h1.2 hs.2) rfl),?_,zR hp.1 c row s⟩
 ·
  intro i y x t hy hx hxp hyp hi
  have:=zM hp hcp hyp
  refine bnd (pA hy) (bnd (pA hx) (bnd (pA hc') (bnd (iL (by omega) (by omega)) (bnd (jB (by omega) (by omega)) (bnd (aH (by omega)) ?_)))))
  rw [Int.tmod_eq_emod_of_nonneg (by omega)]
  exact bnd (gD _ hi) rfl
 · rw [aW (by rw [h1.1,hs.1]),hs.1]
def mulM (p:Int) (n:Nat) (rows m:List (List Int)):List (List Int):=rows.map (dD p n m)
theorem own_ {l:List Int} (h:l.length≤iB):vG l=some l:=bnd (vB (by simpa using h)) rfl
theorem gK {l:List Int} (h:l.length≤iB):xG l=some l:=bnd (vB (by simpa using h)) rfl
theorem EW_ {m:List (List Int)} (hl:m.length≤iB) (h:∀ r∈m,r.length≤iB):fU m=some m:=by
 refine bnd (C9_ _ hl) (bnd (a:=m) ?_ rfl)
 refine (yE (fun r=>r) m [] (by simpa using hl) ?_).trans (by simp)
 intro j x s hx hs
 have hj:j<m.length:=(List.getElem?_eq_some_iff.1 hx).1
 exact bnd (pA hx) (bnd (gK (h x (aD hx))) (bnd (vB (by simp at hs ⊢;omega)) rfl))
end Go.Proofs.YtlggnmkelgplnaaGreatDoor
namespace Go.Proofs.YtlggnmkelgplnaaGreatDoor
def powBody (p:Int) (s:Int×Int×Int):Option ((Int×Int×Int)⊕Int):=
   (some (decide ((0:Int)<s.2.1))).bind fun a226=>
   cond a226
   (((tD s.2.1 2).bind fun a247=>
     (some (decide (a247=1))).bind fun a249=>
     cond a249
     ((vF s.2.2 s.1).bind fun a253=>
      (tD a253 p).bind fun a255=>
      some a255)
     (some s.2.2)).bind fun (s241:Int)=>
    (vF s.1 s.1).bind fun a259=>
    (tD a259 p).bind fun a261=>
    (tL s.2.1 2).bind fun a263=>
    some (.inl (a261,a263,s241)))
   (some (.inr s.2.2))
def invN (p x:Nat):Option Int:=qG (powBody p) 9 ((x:Int),(p:Int)-2+(if p=2 then 1 else 0),(1:Int).tmod p)
def pX (p x:Nat):Bool:=match invN p x with
 | some v=>decide (((x:Int)*v) % p=1)&&decide (0≤v)&&decide (v<p)
 | none=>false
theorem inv_all:((List.range 98).all fun p=>!fdB p||(List.range p).all fun x=>decide (x=0)||pX p x)=true:=by decide +kernel
def aE (p x:Int):Int:=(invN p.toNat x.toNat).getD 0
theorem pR {p x:Int} (hf:fdB p=true) (hx:0<x∧x<p):jZ p x=some (aE p x)∧(x*aE p x) % p=1∧0≤aE p x∧aE p x<p:=by
 have hp:=dC hf
 obtain ⟨k,rfl⟩:∃ k:Nat,p=(k:Int):=⟨p.toNat,by omega⟩
 obtain ⟨y,rfl⟩:∃ y:Nat,x=(y:Int):=⟨x.toNat,by omega⟩
 have h1:=List.all_eq_true.1 inv_all k (List.mem_range.2 (by omega))
 rw [hf] at h1
 have h2:∀ x:Nat,x<k→x=0∨pX k x=true:=by simpa using h1
 have h3:pX k y=true:=by
  rcases h2 y (by omega) with h2 | h2
  · omega
  · exact h2
 unfold pX at h3
 unfold aE
 rw [Int.toNat_natCast,Int.toNat_natCast]
 cases hv:invN k y with
 | none=>rw [hv] at h3;cases h3
 | some v=>
  rw [hv] at h3
  simp only [Bool.and_eq_true,decide_eq_true_eq] at h3
  refine ⟨?_,h3.1.1,h3.1.2,h3.2⟩
  refine bnd (fD (by omega) (by omega)) (stp (bnd (a:=(if k=2 then 1 else 0:Int)) ?_ (bnd (jB (by split <;> omega) (by split <;> omega)) (bnd (a:=v) ?_ rfl))))
  ·
   by_cases h:k=2
   · subst h;rfl
   · rw [dF (by omega),if_neg h];rfl
  ·
   refine bnd (aH (by omega)) (bnd ?_ rfl)
   exact whileO_iff.2 ⟨9,hv⟩
theorem HG_ {p x s t:Int} (h1:(x*s) % p=1) (h2:(x*t) % p=1) (hs:0≤s∧s<p) (ht:0≤t∧t<p):s=t:=by
 have e1:s % p=(s*((x*t) % p)) % p:=by rw [h2,Int.mul_one]
 have e2:t % p=(t*((x*s) % p)) % p:=by rw [h1,Int.mul_one]
 rw [Int.mul_emod,Int.emod_emod_of_dvd _ (Int.dvd_refl p),← Int.mul_emod] at e1 e2
 rw [show s*(x*t)=t*(x*s) by rw [Int.mul_left_comm,Int.mul_comm s t,Int.mul_left_comm]] at e1
 rw [←e2,Int.emod_eq_of_lt hs.1 hs.2,Int.emod_eq_of_lt ht.1 ht.2] at e1
 exact e1
theorem fdInv_ {p x:Int} (hf:fdB p=true) (hx:0<x∧x<p):qU p x=some (aE p x):=by
 have hp:=dC hf
 obtain ⟨_,h1,h2,h3⟩:=pR hf hx
 have h0:aE p x≠0:=by intro h;rw [h,Int.mul_zero,Int.zero_emod] at h1;cases h1
 obtain ⟨k,hk⟩:∃ k:Nat,aE p x=(k:Int)+1:=⟨(aE p x-1).toNat,by omega⟩
 refine sqW (aO (fun j=>(j:Int)+1) (t:=.inr (aE p x)) k ?_ ?_) rfl
 ·
  intro j hj
  have hm:=zM hp (by omega:0≤x∧x<p) (by omega:0≤(j:Int)+1∧(j:Int)+1<p)
  refine stp (cTW (dT (by omega)) (bnd (iL (by omega) (by omega)) (bnd (aH (by omega)) (stp ?_))))
  rw [Int.tmod_eq_emod_of_nonneg hm.1]
  refine cFW (dF ?_) (bnd (jB (by omega) (by omega)) rfl)
  intro h
  have:=HG_ h h1 (by omega) (by omega)
  omega
 ·
  have hm:=zM hp (by omega:0≤x∧x<p) (by omega:0≤(k:Int)+1∧(k:Int)+1<p)
  refine stp (cTW (dT (by omega)) (bnd (iL (by omega) (by omega)) (bnd (aH (by omega)) (stp ?_))))
  rw [Int.tmod_eq_emod_of_nonneg hm.1,← hk]
  exact cTW (dT h1) rfl
theorem modG {p a:Int} (hp:2≤p∧p≤97) (_:-1000000≤a∧a≤1000000):zN p a=some (a % p):=by
 have h1:=Int.tmod_add_mul_tdiv a p
 have h2:=Int.tmod_lt_of_pos a (show 0<p by omega)
 have h3:=Int.lt_tmod_of_pos a (show 0<p by omega)
 have h4:a % p=a.tmod p % p:=by
  conv=>lhs;rw [←h1]
  rw [Int.add_mul_emod_self_left]
 refine bnd (aH (by omega)) (stp ?_)
 by_cases h:a.tmod p<0
 ·
  refine cTW (dT h) (bnd (jB (by omega) (by omega)) ?_)
  rw [h4,← Int.add_emod_right,Int.emod_eq_of_lt (by omega) (by omega)]
 ·
  refine cFW (dF h) ?_
  rw [h4,Int.emod_eq_of_lt (by omega) (by omega)]
theorem sub_mod (v p t:Int):(v+p-t % p) % p=(v-t) % p:=by
 have h:=Int.emod_add_mul_ediv t p
 have:v+p-t % p=(v-t)+p*(1+t / p):=by rw [Int.mul_add,Int.mul_one];omega
 rw [this,Int.add_mul_emod_self_left]
end Go.Proofs.YtlggnmkelgplnaaGreatDoor
namespace Go.Proofs.YtlggnmkelgplnaaGreatDoor
abbrev Rows:=List (List Int)
def gr (m:Rows) (i:Nat):List Int:=m.getD i []
def el (r:List Int) (c:Nat):Int:=r.getD c 0
theorem fE {m:Rows}{i:Nat} (h:i<m.length):m[i]?=some (gr m i):=by unfold gr;rw [List.getD_eq_getElem?_getD,List.getElem?_eq_getElem h];rfl
theorem jI {r:List Int}{c:Nat} (h:c<r.length):r[c]?=some (el r c):=by unfold el;rw [List.getD_eq_getElem?_getD,List.getElem?_eq_getElem h];rfl
theorem kD {m:Rows}{i:Nat} (h:i<m.length):idxO m (i:Int)=some (gr m i):=pA (fE h)
theorem yD {r:List Int}{c:Nat} (h:c<r.length):idxO r (c:Int)=some (el r c):=pA (jI h)
theorem bN {m:Rows}{i:Nat} (h:i<m.length):gr m i∈m:=aD (fE h)
theorem fF {r:List Int}{c:Nat} (h:c<r.length):el r c∈r:=aD (jI h)
theorem aJ {m:Rows}{i j:Nat}{r:List Int} (h:i<m.length):gr (m.set i r) j=if i=j then r else gr m j:=by
 unfold gr
 rw [List.getD_eq_getElem?_getD,List.getD_eq_getElem?_getD,List.getElem?_set]
 split
 · rename_i e;subst e;simp
 · rfl
theorem yM {m:Rows}{i:Nat} (h:i<m.length):m.set i (gr m i)=m:=by
 have h2:gr m i=m[i]:=by have:=fE h;rw [List.getElem?_eq_getElem h] at this;exact (Option.some.inj this).symm
 rw [h2,List.set_getElem_self]
def okM (p:Int) (n:Nat) (m:Rows):Prop:=dJ p n m
theorem lC {p:Int}{n:Nat}{m:Rows} (h:okM p n m){i:Nat} (hi:i<m.length):(gr m i).length=n∧inP p (gr m i):=h _ (bN hi)
theorem fI {p:Int}{n:Nat}{m:Rows} (h:okM p n m){i c:Nat} (hi:i<m.length) (hc:c<n):0≤el (gr m i) c∧el (gr m i) c<p:=by
 have h1:=lC h hi
 exact h1.2 _ (fF (by omega))
theorem Bk_ {p:Int}{n:Nat}{m:Rows} (h:okM p n m){i:Nat}{r:List Int} (hr:r.length=n∧inP p r):okM p n (m.set i r):=by
 intro x hx
 rcases List.mem_or_eq_of_mem_set hx with hx | rfl
 · exact h x hx
 · exact hr
def qD (g:Nat→Int→Int) (r:List Int):List Int:=r.mapIdx g
theorem lR (g:Nat→Int→Int) (r:List Int):(qD g r).length=r.length:=by simp [qD]
theorem Bs_ {p:Int} (hp:2≤p){g:Nat→Int→Int} (hg:∀ j x,∃ y,g j x=y % p) (r:List Int):inP p (qD g r):=by
 intro x hx
 obtain ⟨j,hj,rfl⟩:=List.mem_iff_getElem.1 hx
 simp only [qD,List.getElem_mapIdx]
 obtain ⟨y,hy⟩:=hg j (r[j]'(by simpa [qD] using hj))
 rw [hy];exact mL hp
def part (g:Nat→Int→Int) (r:List Int) (j:Nat):List Int:=(r.take j).mapIdx g++r.drop j
theorem lX (g:Nat→Int→Int) (r:List Int):part g r 0=r:=by simp [part]
theorem jS (g:Nat→Int→Int) (r:List Int):part g r r.length=qD g r:=by simp [part,qD]
theorem gR (g:Nat→Int→Int) (r:List Int) (j:Nat):(part g r j).length=r.length:=by simp [part];omega
theorem mV (g:Nat→Int→Int) (r:List Int){j:Nat} (h:j<r.length):(part g r j)[j]?=some (el r j):=by
 unfold part
 rw [List.getElem?_append_right (by simp;omega)]
 have:j-((r.take j).mapIdx g).length=0:=by simp;omega
 rw [this,List.getElem?_drop,Nat.add_zero,jI h]
theorem fR (g:Nat→Int→Int) (r:List Int){j:Nat} (h:j<r.length):(part g r j).set j (g j (el r j))=part g r (j+1):=by
 have h2:el r j=r[j]:=by have:=jI h;rw [List.getElem?_eq_getElem h] at this;exact (Option.some.inj this).symm
 rw [h2]
 exact DP_ r g j h
def bH (p k:Int):Nat→Int→Int:=fun _ a=>(a*k) % p
def rE (p f:Int) (w:List Int):Nat→Int→Int:=fun j x=>(x-f*el w j) % p
theorem E7_ {m:Rows}{i j:Nat} (hi:i<m.length) (hj:j<m.length):cN m (i:Int) (j:Int)=some ((m.set i (gr m j)).set j (gr m i)):=by
 unfold cN
 refine bnd (kD hi) (bnd (kD hj) (bnd (gD _ hi) (gD _ (by rw [List.length_set];exact hj))))
def mB (m:Rows) (i j:Nat):Rows:=(m.set i (gr m j)).set j (gr m i)
theorem C0_ {m:Rows}{i:Nat} (h:i<m.length):mB m i i=m:=by
 unfold mB;rw [List.set_set,yM h]
theorem swapM_len (m:Rows) (i j:Nat):(mB m i j).length=m.length:=by simp [mB]
theorem qM {p:Int}{n:Nat}{m:Rows} (h:okM p n m){i j:Nat} (hi:i<m.length) (hj:j<m.length):okM p n (mB m i j):=
 Bk_ (Bk_ h (lC h hj)) (lC h hi)
theorem swapM_gr {m:Rows}{i j:Nat} (hi:i<m.length) (hj:j<m.length):gr (mB m i j) i=gr m j:=by
 unfold mB
 rw [aJ (by rw [List.length_set];exact hj)]
 split
 · rename_i e;subst e;rfl
 · rw [aJ hi,if_pos rfl]
def eK (p k:Int) (m:Rows) (r:Nat):Rows:=m.set r (qD (bH p k) (gr m r))
theorem Hu_ (p k:Int) (m:Rows) (r:Nat):(eK p k m r).length=m.length:=by simp [eK]
theorem H5_ {p k:Int}{n:Nat}{m:Rows} (hp:2≤p) (h:okM p n m){r:Nat} (hr:r<m.length):okM p n (eK p k m r):=
 Bk_ h ⟨by rw [lR];exact (lC h hr).1,Bs_ hp (fun j x=>⟨_,rfl⟩) _⟩
theorem Fm_ {p a b:Int} (hp:2≤p∧p≤97) (ha:0≤a∧a<p) (hb:0≤b∧b<p):yH p a b=some ((a*b) % p):=by
 have hm:=zM hp ha hb
 refine bnd (iL (by omega) (by omega)) (bnd (aH (by omega)) ?_)
 rw [Int.tmod_eq_emod_of_nonneg hm.1]
theorem fdSub_ {p a b:Int} (hp:2≤p∧p≤97) (ha:0≤a∧a<p) (hb:0≤b∧b<p):jM p a b=some ((a+p-b) % p):=by
 refine bnd (jB (by omega) (by omega)) (bnd (fD (by omega) (by omega)) (bnd (aH (by omega)) ?_))
 rw [Int.tmod_eq_emod_of_nonneg (by omega)]
theorem H1_ {p k:Int}{n:Nat}{m:Rows}{r:Nat} (hp:2≤p∧p≤97) (h:okM p n m) (hr:r<m.length) (hk:0≤k∧k<p) :
  forS (fun (j:Nat) (s:List (List Int))=>
        (idxO s (r:Int)).bind fun a26854=>
        (idxO s (r:Int)).bind fun a26863=>
        (idxO a26863 ((j:Nat):Int)).bind fun a26872=>
        (yH p a26872 k).bind fun y26874=>
        (setO a26854 ((j:Nat):Int) y26874).bind fun a26884=>
        (setO s (r:Int) a26884).bind fun a26887=>
        some a26887) (gr m r).length 0 m=some (eK p k m r):=by
 have hrow:=lC h hr
 have:=iD (n:=(gr m r).length) (fun j=>m.set r (part (bH p k) (gr m r) j)) (f:=fun (j:Nat) (s:List (List Int))=>
        (idxO s (r:Int)).bind fun a26854=>
        (idxO s (r:Int)).bind fun a26863=>
        (idxO a26863 ((j:Nat):Int)).bind fun a26872=>
        (yH p a26872 k).bind fun y26874=>
        (setO a26854 ((j:Nat):Int) y26874).bind fun a26884=>
        (setO s (r:Int) a26884).bind fun a26887=>
        some a26887) (by
  intro j hj
  have hl:r<(m.set r (part (bH p k) (gr m r) j)).length:=by rw [List.length_set];exact hr
  have hg:gr (m.set r (part (bH p k) (gr m r) j)) r=part (bH p k) (gr m r) j:=by rw [aJ hr,if_pos rfl]
  have h1:=kD hl
  rw [hg] at h1
  refine bnd h1 (bnd h1 (bnd (pA (mV _ _ hj)) (bnd (Fm_ hp (hrow.2 _ (fF hj)) hk) (bnd (gD _ (by rw [gR];exact hj)) (bnd (gD _ hl) ?_)))))
  rw [List.set_set]
  congr 2
  exact fR (bH p k) (gr m r) hj)
 rw [lX,yM hr,jS] at this
 exact this
theorem Il_ {p k:Int}{r:List Int} (hp:2≤p∧p≤97) (h:inP p r) (hk:0≤k∧k<p) :
  forS (fun (j:Nat) (s:List Int)=>
     (idxO s ((j:Nat):Int)).bind fun a137=>
     (vF a137 k).bind fun a140=>
     (tD a140 p).bind fun a142=>
     (setO s ((j:Nat):Int) a142).bind fun a156=>
     some a156) r.length 0 r=some (qD (bH p k) r):=by
 have:=iD (n:=r.length) (fun j=>part (bH p k) r j) (f:=fun (j:Nat) (s:List Int)=>
     (idxO s ((j:Nat):Int)).bind fun a137=>
     (vF a137 k).bind fun a140=>
     (tD a140 p).bind fun a142=>
     (setO s ((j:Nat):Int) a142).bind fun a156=>
     some a156) (by
  intro j hj
  have hm:=zM hp (h _ (fF hj)) hk
  refine bnd (pA (mV _ _ hj)) (bnd (iL (by omega) (by omega)) (bnd (aH (by omega)) (bnd (gD _ (by rw [gR];exact hj)) ?_)))
  rw [Int.tmod_eq_emod_of_nonneg hm.1]
  exact congrArg some (fR (bH p k) r hj))
 rw [lX,jS] at this
 exact this
theorem specSub {p f:Int}{n:Nat}{m:Rows}{r i:Nat} (hp:2≤p∧p≤97) (h:okM p n m) (hr:r<m.length) (hi:i<m.length) (hri:i≠r) (hf:0≤f∧f<p) :
  forS (fun (j:Nat) (s:List (List Int))=>
            (idxO s ((i:Nat):Int)).bind fun a28591=>
            (idxO s ((i:Nat):Int)).bind fun a28600=>
            (idxO s (r:Int)).bind fun a28609=>
            (idxO a28600 ((j:Nat):Int)).bind fun a28618=>
            (idxO a28609 ((j:Nat):Int)).bind fun a28626=>
            (yH p f a28626).bind fun y28628=>
            (jM p a28618 y28628).bind fun y28631=>
            (setO a28591 ((j:Nat):Int) y28631).bind fun a28641=>
            (setO s ((i:Nat):Int) a28641).bind fun a28644=>
            some a28644) (gr m i).length 0 m=some (m.set i (qD (rE p f (gr m r)) (gr m i))):=by
 have hrow:=lC h hi
 have hrr:=lC h hr
 have:=iD (n:=(gr m i).length) (fun j=>m.set i (part (rE p f (gr m r)) (gr m i) j)) (f:=fun (j:Nat) (s:List (List Int))=>
            (idxO s ((i:Nat):Int)).bind fun a28591=>
            (idxO s ((i:Nat):Int)).bind fun a28600=>
            (idxO s (r:Int)).bind fun a28609=>
            (idxO a28600 ((j:Nat):Int)).bind fun a28618=>
            (idxO a28609 ((j:Nat):Int)).bind fun a28626=>
            (yH p f a28626).bind fun y28628=>
            (jM p a28618 y28628).bind fun y28631=>
            (setO a28591 ((j:Nat):Int) y28631).bind fun a28641=>
            (setO s ((i:Nat):Int) a28641).bind fun a28644=>
            some a28644) (by
  intro j hj
  have hl:i<(m.set i (part (rE p f (gr m r)) (gr m i) j)).length:=by rw [List.length_set];exact hi
  have hl2:r<(m.set i (part (rE p f (gr m r)) (gr m i) j)).length:=by rw [List.length_set];exact hr
  have hg:gr (m.set i (part (rE p f (gr m r)) (gr m i) j)) i=part (rE p f (gr m r)) (gr m i) j:=by rw [aJ hi,if_pos rfl]
  have hg2:gr (m.set i (part (rE p f (gr m r)) (gr m i) j)) r=gr m r:=by rw [aJ hi,if_neg hri]
  have h1:=kD hl
  have h2:=kD hl2
  rw [hg] at h1
  rw [hg2] at h2
  have hjr:j<(gr m r).length:=by omega
  have hm:=mL (p:=p) (x:=f*el (gr m r) j) hp.1
  refine bnd h1 (bnd h1 (bnd h2 (bnd (pA (mV _ _ hj)) (bnd (yD hjr) (bnd (Fm_ hp hf (hrr.2 _ (fF hjr))) (bnd (fdSub_ hp (hrow.2 _ (fF hj)) hm) (bnd (gD _ (by rw [gR];exact hj)) (bnd (gD _ hl) ?_))))))))
  rw [List.set_set,sub_mod]
  congr 2
  exact fR (rE p f (gr m r)) (gr m i) hj)
 rw [lX,yM hi,jS] at this
 exact this
theorem EJ_ {p f:Int}{v w:List Int} (hp:2≤p∧p≤97) (hv:inP p v) (hw:inP p w) (hl:v.length=w.length) (hf:0≤f∧f<p):gH p v (0-f) w=some (qD (rE p f w) v):=by
 have:=iD (n:=w.length) (fun j=>part (rE p f w) v j) (f:=fun (k3:Nat) (s72:List Int)=>
   (idxO w ((k3:Nat):Int)).bind fun a87=>
   (idxO s72 ((k3:Nat):Int)).bind fun a95=>
   (vF (0-f) a87).bind fun a97=>
   (qA a95 a97).bind fun a99=>
   (zN p a99).bind fun y101=>
   (setO s72 ((k3:Nat):Int) y101).bind fun a110=>
   some a110) (by
  intro j hj
  have hjv:j<v.length:=by omega
  have h1:=zM hp hf (hw _ (fF hj))
  have h2:=hv _ (fF hjv)
  have h3:(0-f)*el w j = -(f*el w j):=by rw [Int.zero_sub,Int.neg_mul]
  refine bnd (yD hj) (bnd (pA (mV _ _ hjv)) (bnd (iL (by omega) (by omega)) (bnd (jB (by omega) (by omega)) (bnd (modG hp (by omega)) (bnd (gD _ (by rw [gR];exact hjv)) ?_)))))
  rw [h3,← Int.sub_eq_add_neg]
  exact congrArg some (fR (rE p f w) v hjv))
 rw [lX,← hl,jS] at this
 rw [hl] at this
 exact bnd this rfl
end Go.Proofs.YtlggnmkelgplnaaGreatDoor
namespace Go.Proofs.YtlggnmkelgplnaaGreatDoor
def mC {α:Type} (g:Nat→α→α) (l:List α) (j:Nat):List α:=(l.take j).mapIdx g++l.drop j
theorem partG0 {α:Type} (g:Nat→α→α) (l:List α):mC g l 0=l:=by simp [mC]
theorem dS {α:Type} (g:Nat→α→α) (l:List α):mC g l l.length=l.mapIdx g:=by simp [mC]
theorem zH {α:Type} (g:Nat→α→α) (l:List α) (j:Nat):(mC g l j).length=l.length:=by simp [mC];omega
theorem Id_ {α:Type} (g:Nat→α→α) (l:List α) (j k:Nat):(mC g l j)[k]?=if k<j then l[k]?.map (g k) else l[k]?:=by
 unfold mC
 by_cases h:k<((l.take j).mapIdx g).length
 ·
  rw [List.getElem?_append_left h]
  have h2:k<j:=by simp at h;omega
  rw [if_pos h2,List.getElem?_mapIdx,List.getElem?_take,if_pos h2]
 ·
  rw [List.getElem?_append_right (by omega)]
  have h1:¬k<min j l.length:=by simpa using h
  by_cases h2:k<j
  ·
   rw [if_pos h2,List.getElem?_eq_none (by omega:l.length≤k)]
   rw [List.getElem?_drop,List.getElem?_eq_none (by simp;omega)];rfl
  ·
   rw [if_neg h2,List.getElem?_drop]
   by_cases h3:l.length≤j
   · rw [List.getElem?_eq_none (by simp;omega),List.getElem?_eq_none (by omega)]
   · congr 1;simp;omega
theorem lL {g:Nat→List Int→List Int}{m:Rows}{j k:Nat} (hk:k<m.length):gr (mC g m j) k=if k<j then g k (gr m k) else gr m k:=by
 have h1:=fE (m:=mC g m j) (i:=k) (by rw [zH];exact hk)
 rw [Id_,fE hk] at h1
 split at h1
 · rename_i h;rw [if_pos h];exact (Option.some.inj h1).symm
 · rename_i h;rw [if_neg h];exact (Option.some.inj h1).symm
theorem bV {g:Nat→List Int→List Int}{m:Rows}{j:Nat} (hj:j<m.length):(mC g m j).set j (g j (gr m j))=mC g m (j+1):=by
 have h2:gr m j=m[j]:=by have:=fE hj;rw [List.getElem?_eq_getElem hj] at this;exact (Option.some.inj this).symm
 rw [h2]
 exact DP_ m g j hj
def scanN (m:Rows) (c:Nat):Nat→Nat→Nat
 | 0,k=>k
 | d+1,k=>if el (gr m k) c=0 then scanN m c d (k+1) else k
theorem uI (m:Rows) (c:Nat):∀ (d k:Nat),k+d=m.length→k≤scanN m c d k∧scanN m c d k≤m.length∧(scanN m c d k<m.length→el (gr m (scanN m c d k)) c≠0)
 | 0,k,h=>⟨Nat.le_refl _,by simp only [scanN];omega,fun h2=>by simp only [scanN] at h2;omega⟩
 | d+1,k,h=>by
  unfold scanN
  split
  ·
   obtain ⟨h1,h2,h3⟩:=uI m c d (k+1) (by omega)
   exact ⟨by omega,h2,h3⟩
  ·
   rename_i hne
   exact ⟨Nat.le_refl _,by omega,fun _=>hne⟩
theorem scan_ {f:Int→Option (Int⊕Int)}{m:Rows}{c:Nat} (hf:∀ k:Nat,k<m.length→f (k:Int)=some (if el (gr m k) c=0 then .inl ((k:Int)+1) else .inr (k:Int))) (he:f (m.length:Int)=some (.inr (m.length:Int))) :
  ∀ (d k:Nat),k+d=m.length→zB f (k:Int)=some ((scanN m c d k:Nat):Int)
 | 0,k,h=>by
  have:k=m.length:=by omega
  subst this
  rw [eF he];rfl
 | d+1,k,h=>by
  have h1:=hf k (by omega)
  unfold scanN
  by_cases h0:el (gr m k) c=0
  ·
   rw [if_pos h0] at h1 ⊢
   rw [jG h1]
   exact scan_ hf he d (k+1) (by omega)
  ·
   rw [if_neg h0] at h1 ⊢
   exact eF h1
def aC (p:Int) (c r:Nat) (m a:Rows):Nat→List Int→List Int:=fun i row=>if i=r∨el (gr m i) c=0 then row else qD (rE p (el (gr m i) c) (gr a r)) row
def cP (p:Int) (c r:Nat) (m a:Rows):Rows:=a.mapIdx (aC p c r m a)
theorem Ip_ (p:Int) (c r:Nat) (m a:Rows):(cP p c r m a).length=a.length:=by simp [cP]
theorem Ef_ {p:Int}{c r:Nat}{m a:Rows}{i:Nat} (h:i<a.length):gr (cP p c r m a) i=aC p c r m a i (gr a i):=by
 have:=lL (g:=aC p c r m a) (j:=a.length) h
 rw [dS,if_pos h] at this
 exact this
theorem A9_ {p:Int}{c r n:Nat}{m a:Rows} (hp:2≤p){i:Nat}{row:List Int} (hr:row.length=n∧inP p row):(aC p c r m a i row).length=n∧inP p (aC p c r m a i row):=by
 unfold aC
 split
 · exact hr
 · exact ⟨by rw [lR];exact hr.1,Bs_ hp (fun j x=>⟨_,rfl⟩) _⟩
theorem I1_ {p:Int}{c r n:Nat}{m a:Rows} (hp:2≤p) (h:okM p n a):okM p n (cP p c r m a):=by
 intro x hx
 obtain ⟨i,hi,rfl⟩:=List.mem_iff_getElem.1 hx
 unfold cP at hi ⊢
 rw [List.getElem_mapIdx]
 have hi':i<a.length:=by simpa using hi
 exact A9_ hp (h _ (List.getElem_mem hi'))
def uB (p:Int) (c:Nat) (m a:Rows) (r k:Nat):Rows:=eK p (aE p (el (gr (mB m r k) r) c)) (mB a r k) r
def qB (p:Int) (c:Nat) (m a:Rows) (r k:Nat):Rows:=cP p c r (uB p c m m r k) (uB p c m a r k)
theorem eO (p:Int) (c:Nat) (m a:Rows) (r k:Nat):(uB p c m a r k).length=a.length:=by unfold uB;rw [Hu_,swapM_len]
theorem bE (p:Int) (c:Nat) (m a:Rows) (r k:Nat):(qB p c m a r k).length=a.length:=by unfold qB;rw [Ip_,eO]
theorem jW {p:Int}{c n:Nat}{m a:Rows}{r k:Nat} (hp:2≤p) (h:okM p n a) (hr:r<a.length) (hk:k<a.length):okM p n (uB p c m a r k):=
 H5_ hp (qM h hr hk) (by rw [swapM_len];exact hr)
theorem zG {p:Int}{c n:Nat}{m a:Rows}{r k:Nat} (hp:2≤p) (h:okM p n a) (hr:r<a.length) (hk:k<a.length):okM p n (qB p c m a r k):=I1_ hp (jW hp h hr hk)
def cC (p:Int):Nat→Nat→Rows→Rows→Nat→Rows×Rows×Nat
 | 0,_,m,a,r=>(m,a,r)
 | d+1,c,m,a,r=>
  if r<m.length then
   if scanN m c (m.length-r) r=m.length then cC p d (c+1) m a r
   else cC p d (c+1) (qB p c m m r (scanN m c (m.length-r) r)) (qB p c m a r (scanN m c (m.length-r) r)) (r+1)
  else (m,a,r)
noncomputable def eR (p n:Int) (st:Rows×Int×Int):Option ((Rows×Int×Int)⊕(Rows×Int)):=
   ((some (decide (st.2.2<n))).bind fun a23919=>
    cond a23919
    ((some (decide (st.2.1<((st.1.length:Nat):Int)))).bind fun a23923=>
     some a23923)
    (some false)).bind fun (s23913:Bool)=>
   cond s23913
   (((zB (fun (s26612:Int)=>
       ((some (decide (s26612<((st.1.length:Nat):Int)))).bind fun a26650=>
        cond a26650
        ((idxO st.1 s26612).bind fun a26660=>
         (idxO a26660 st.2.2).bind fun a26669=>
         (some (decide (a26669=0))).bind fun a26671=>
         some a26671)
        (some false)).bind fun (s26644:Bool)=>
       cond s26644
       ((qA s26612 1).bind fun a26678=>
        some (.inl a26678))
       (some (.inr s26612))) st.2.1).bind fun (s26486:Int)=>
     (some (decide (s26486=((st.1.length:Nat):Int)))).bind fun a26682=>
     cond a26682
     (some (st.1,st.2.1))
     ((idxO st.1 st.2.1).bind fun _=>
      (idxO st.1 s26486).bind fun _=>
      (cN st.1 st.2.1 s26486).bind fun a26717=>
      (idxO a26717 st.2.1).bind fun a26725=>
      (idxO a26725 st.2.2).bind fun a26734=>
      (qU p a26734).bind fun y26736=>
      (idxO a26717 st.2.1).bind fun a26745=>
      (forS (fun (k26749:Nat) (s26838:List (List Int))=>
        (idxO s26838 st.2.1).bind fun a26854=>
        (idxO s26838 st.2.1).bind fun a26863=>
        (idxO a26863 ((k26749:Nat):Int)).bind fun a26872=>
        (yH p a26872 y26736).bind fun y26874=>
        (setO a26854 ((k26749:Nat):Int) y26874).bind fun a26884=>
        (setO s26838 st.2.1 a26884).bind fun a26887=>
        some a26887) a26745.length 0 a26717).bind fun (s26891:List (List Int))=>
      (forS (fun (k26893:Nat) (s28062:List (List Int))=>
        (((some (decide (((k26893:Nat):Int)=st.2.1))).bind fun a28393=>
          cond a28393
          (some true)
          ((idxO s28062 ((k26893:Nat):Int)).bind fun a28402=>
           (idxO a28402 st.2.2).bind fun a28411=>
           (some (decide (a28411=0))).bind fun a28413=>
           some a28413)).bind fun (s28387:Bool)=>
         cond s28387
         (some s28062)
         ((idxO s28062 ((k26893:Nat):Int)).bind fun a28425=>
          (idxO a28425 st.2.2).bind fun a28434=>
          (idxO s28062 ((k26893:Nat):Int)).bind fun a28442=>
          (forS (fun (k28446:Nat) (s28575:List (List Int))=>
            (idxO s28575 ((k26893:Nat):Int)).bind fun a28591=>
            (idxO s28575 ((k26893:Nat):Int)).bind fun a28600=>
            (idxO s28575 st.2.1).bind fun a28609=>
            (idxO a28600 ((k28446:Nat):Int)).bind fun a28618=>
            (idxO a28609 ((k28446:Nat):Int)).bind fun a28626=>
            (yH p a28434 a28626).bind fun y28628=>
            (jM p a28618 y28628).bind fun y28631=>
            (setO a28591 ((k28446:Nat):Int) y28631).bind fun a28641=>
            (setO s28575 ((k26893:Nat):Int) a28641).bind fun a28644=>
            some a28644) a28442.length 0 s28062).bind fun (s28648:List (List Int))=>
          some s28648)).bind fun (s28358:List (List Int))=>
        some s28358) s26891.length 0 s26891).bind fun (s28655:List (List Int))=>
      (qA st.2.1 1).bind fun a28657=>
      some (s28655,a28657))).bind fun (s26292:List (List Int)×Int)=>
    (qA st.2.2 1).bind fun a28662=>
    some (.inl (s26292.1,s26292.2,a28662)))
   (some (.inr (st.1,st.2.1)))
theorem H0_ {p:Int}{n N c r:Nat}{m:Rows} (hf:fdB p=true) (h:okM p N m) (hn:n≤N) (hN:N≤1048576) (hL:m.length≤1048576) (hr:r<m.length) (hc:c<n) :
  eR p (n:Int) (m,(r:Int),(c:Int))=some (.inl (if scanN m c (m.length-r) r=m.length then (m,(r:Int),(c:Int)+1) else (qB p c m m r (scanN m c (m.length-r) r),(r:Int)+1,(c:Int)+1))):=by
 have hp:=dC hf
 unfold eR
 dsimp only
 refine bnd (a:=true) (stp (cTW (dT (by omega)) (stp (by rw [dT (by omega)])))) (cTW rfl ?_)
 have hsc:∀ {f:Int→Option (Int⊕Int)},(∀ k:Nat,k<m.length→f (k:Int)=some (if el (gr m k) c=0 then .inl ((k:Int)+1) else .inr (k:Int)))→f (m.length:Int)=some (.inr (m.length:Int))→zB f (r:Int)=some ((scanN m c (m.length-r) r:Nat):Int):=fun h1 h2=>scan_ h1 h2 _ _ (by omega)
 obtain ⟨s1,s2,s3⟩:=uI m c (m.length-r) r (by omega)
 generalize scanN m c (m.length-r) r=k at hsc s1 s2 s3 ⊢
 refine bnd (a:=if k=m.length then (m,(r:Int)) else (qB p c m m r k,(r:Int)+1)) ?_ ?_
 ·
  refine bnd (hsc ?_ ?_) (stp ?_)
  ·
   intro i hi
   have hrow:=lC h hi
   refine bnd (a:=decide (el (gr m i) c=0)) (stp (cTW (dT (by omega)) (bnd (kD hi) (bnd (yD (by omega)) rfl)))) ?_
   by_cases h0:el (gr m i) c=0
   · rw [if_pos h0];exact cTW (dT h0) (bnd (jB (by omega) (by omega)) rfl)
   · rw [if_neg h0];exact cFW (dF h0) rfl
  · exact bnd (a:=false) (stp (cFW (dF (by omega)) rfl)) (cFW rfl rfl)
  ·
   by_cases hk:k=m.length
   · rw [if_pos hk];exact cTW (dT (by omega)) rfl
   ·
    rw [if_neg hk]
    have hkl:k<m.length:=by omega
    have hne:=s3 hkl
    refine cFW (dF (by omega)) ?_
    refine bnd (kD hr) (bnd (kD hkl) (bnd (E7_ hr hkl) ?_))
    have h1:okM p N (mB m r k):=qM h hr hkl
    have hr1:r<(mB m r k).length:=by rw [swapM_len];exact hr
    have hrow:=lC h1 hr1
    have hel:=fI h1 hr1 (show c<N by omega)
    have hnz:el (gr (mB m r k) r) c≠0:=by rw [swapM_gr hr hkl];exact hne
    obtain ⟨_,i1,i2,i3⟩:=pR hf (x:=el (gr (mB m r k) r) c) ⟨by omega,hel.2⟩
    change (idxO (mB m r k) (r:Int)).bind _=_
    refine bnd (kD hr1) (bnd (yD (by omega)) (bnd (fdInv_ hf ⟨by omega,hel.2⟩) (bnd (kD hr1) ?_)))
    refine bnd (H1_ hp h1 hr1 ⟨i2,i3⟩) ?_
    change (forS _ (uB p c m m r k).length 0 (uB p c m m r k)).bind _=_
    have h2:okM p N (uB p c m m r k):=jW hp.1 h hr hkl
    have hl2:(uB p c m m r k).length=m.length:=eO p c m m r k
    have hr2:r<(uB p c m m r k).length:=by omega
    have:=iD (n:=(uB p c m m r k).length) (fun i=>mC (aC p c r (uB p c m m r k) (uB p c m m r k)) (uB p c m m r k) i) (f:=(fun (k26893:Nat) (s28062:List (List Int))=>
        (((some (decide (((k26893:Nat):Int)=(r:Int)))).bind fun a28393=>
          cond a28393
          (some true)
          ((idxO s28062 ((k26893:Nat):Int)).bind fun a28402=>
           (idxO a28402 (c:Int)).bind fun a28411=>
           (some (decide (a28411=0))).bind fun a28413=>
           some a28413)).bind fun (s28387:Bool)=>
         cond s28387
         (some s28062)
         ((idxO s28062 ((k26893:Nat):Int)).bind fun a28425=>
          (idxO a28425 (c:Int)).bind fun a28434=>
          (idxO s28062 ((k26893:Nat):Int)).bind fun a28442=>
          (forS (fun (k28446:Nat) (s28575:List (List Int))=>
            (idxO s28575 ((k26893:Nat):Int)).bind fun a28591=>
            (idxO s28575 ((k26893:Nat):Int)).bind fun a28600=>
            (idxO s28575 (r:Int)).bind fun a28609=>
            (idxO a28600 ((k28446:Nat):Int)).bind fun a28618=>
            (idxO a28609 ((k28446:Nat):Int)).bind fun a28626=>
            (yH p a28434 a28626).bind fun y28628=>
            (jM p a28618 y28628).bind fun y28631=>
            (setO a28591 ((k28446:Nat):Int) y28631).bind fun a28641=>
            (setO s28575 ((k26893:Nat):Int) a28641).bind fun a28644=>
            some a28644) a28442.length 0 s28062).bind fun (s28648:List (List Int))=>
          some s28648)).bind fun (s28358:List (List Int))=>
        some s28358)) ?_
    ·
     rw [partG0,dS] at this
     exact bnd this (bnd (jB (by omega) (by omega)) rfl)
    ·
     generalize uB p c m m r k=w at h2 hl2 hr2
     intro i hi
     have hg1:gr (mC (aC p c r w w) w i) i=gr w i:=by rw [lL hi,if_neg (by omega)]
     have hg2:gr (mC (aC p c r w w) w i) r=gr w r:=by
      rw [lL hr2]
      split
      · unfold aC;rw [if_pos (Or.inl rfl)]
      · rfl
     have hrow2:=lC h2 hi
     have hli:i<(mC (aC p c r w w) w i).length:=by rw [zH];exact hi
     have hlr:r<(mC (aC p c r w w) w i).length:=by rw [zH];exact hr2
     have hok:okM p N (mC (aC p c r w w) w i):=by
      intro x hx
      obtain ⟨q,hq,rfl⟩:=List.mem_iff_getElem.1 hx
      have hq':q<w.length:=by rw [zH] at hq;exact hq
      have h5:=fE (m:=mC (aC p c r w w) w i) (i:=q) hq
      rw [List.getElem?_eq_getElem hq] at h5
      rw [Option.some.inj h5,lL hq']
      split
      · exact A9_ hp.1 (lC h2 hq')
      · exact lC h2 hq'
     have hset:=bV (g:=aC p c r w w) (m:=w) hi
     have i1:=kD hli
     rw [hg1] at i1
     by_cases hir:i=r
     ·
      refine bnd (a:=mC (aC p c r w w) w (i+1)) (bnd (a:=true) (stp (cTW (dT (by omega)) rfl)) (cTW rfl ?_)) rfl
      rw [←hset]
      have:aC p c r w w i (gr w i)=gr w i:=by unfold aC;rw [if_pos (Or.inl hir)]
      rw [this,← hg1,yM hli]
     ·
      by_cases h0:el (gr w i) c=0
      ·
       refine bnd (a:=mC (aC p c r w w) w (i+1)) (bnd (a:=true) (stp (cFW (dF (by omega)) (bnd i1 (bnd (yD (by omega)) (stp (by rw [dT h0])))))) (cTW rfl ?_)) rfl
       rw [←hset]
       have:aC p c r w w i (gr w i)=gr w i:=by unfold aC;rw [if_pos (Or.inr h0)]
       rw [this,← hg1,yM hli]
      ·
       refine bnd (a:=mC (aC p c r w w) w (i+1)) (bnd (a:=false) (stp (cFW (dF (by omega)) (bnd i1 (bnd (yD (by omega)) (stp (by rw [dF h0])))))) (cFW rfl ?_)) rfl
       refine bnd i1 (bnd (yD (by omega)) (bnd i1 ?_))
       have hfe:=fI h2 hi (show c<N by omega)
       have:=specSub (f:=el (gr w i) c) hp hok hlr hli hir hfe
       rw [hg1,hg2] at this
       refine bnd this ?_
       rw [←hset]
       unfold aC
       rw [if_neg (by intro h;rcases h with h | h;exact hir h;exact h0 h)]
 ·
  by_cases hk:k=m.length
  · rw [if_pos hk,if_pos hk];exact bnd (jB (by omega) (by omega)) rfl
  · rw [if_neg hk,if_neg hk];exact bnd (jB (by omega) (by omega)) rfl
theorem AH_ {p:Int}{n N:Nat} (hf:fdB p=true) (hn:n≤N) (hN:N≤1048576):∀ (d c:Nat) (m a:Rows) (r:Nat),c+d=n→okM p N m→m.length≤1048576→r≤m.length→zB (eR p (n:Int)) (m,(r:Int),(c:Int))=some ((cC p d c m a r).1,((cC p d c m a r).2.2:Int))
 | 0,c,m,a,r,hc,h,hL,hr=>by
  refine eF ?_
  unfold eR
  exact bnd (a:=false) (stp (cFW (dF (by dsimp only;omega)) rfl)) (cFW rfl rfl)
 | d+1,c,m,a,r,hc,h,hL,hr=>by
  unfold cC
  by_cases hrl:r<m.length
  ·
   rw [if_pos hrl]
   have hs:=H0_ hf h hn hN hL hrl (show c<n by omega)
   obtain ⟨s1,s2,s3⟩:=uI m c (m.length-r) r (by omega)
   split
   ·
    rename_i hk
    rw [if_pos hk] at hs
    rw [jG hs]
    exact AH_ hf hn hN d (c+1) m a r (by omega) h hL hr
   ·
    rename_i hk
    rw [if_neg hk] at hs
    rw [jG hs]
    have hkl:scanN m c (m.length-r) r<m.length:=by omega
    exact AH_ hf hn hN d (c+1) _ _ (r+1) (by omega) (zG (dC hf).1 h hrl hkl) (by rw [bE];exact hL) (by rw [bE];omega)
  ·
   rw [if_neg hrl]
   refine eF ?_
   unfold eR
   exact bnd (a:=false) (stp (cTW (dT (by dsimp only;omega)) (stp (by rw [dF (by dsimp only;omega)])))) (cFW rfl rfl)
end Go.Proofs.YtlggnmkelgplnaaGreatDoor
namespace Go.Proofs.YtlggnmkelgplnaaGreatDoor
theorem Dh_ {p:Int}{l:Rows}{r k:Nat} (hr:r<l.length) (hk:k<l.length):eN (0,(r:Int),(k:Int),0) p l=some (mB l r k):=by
 refine stp (cTW rfl ?_)
 exact bnd (kD hk) (bnd (kD hr) (bnd (E7_ hr hk) rfl))
theorem DH_ {p x:Int}{n:Nat}{l:Rows}{r:Nat} (hf:fdB p=true) (h:okM p n l) (hr:r<l.length) (hx:0<x∧x<p):eN (1,(r:Int),0,x) p l=some (eK p (aE p x) l r):=by
 have hp:=dC hf
 obtain ⟨i0,_,i2,i3⟩:=pR hf hx
 refine stp (cFW rfl (stp (cTW rfl ?_)))
 exact bnd i0 (bnd (kD hr) (bnd (Il_ hp (lC h hr).2 ⟨i2,i3⟩) (bnd (gD _ hr) rfl)))
theorem DG_ {p f:Int}{n:Nat}{l:Rows}{i r:Nat} (hp:2≤p∧p≤97) (h:okM p n l) (hi:i<l.length) (hr:r<l.length) (hir:i≠r) (hf:0≤f∧f<p):eN (2,(i:Int),(r:Int),f) p l=some (l.set i (qD (rE p f (gr l r)) (gr l i))):=by
 have h1:=lC h hi
 have h2:=lC h hr
 refine stp (cFW rfl (stp (cFW rfl (stp (cTW rfl ?_)))))
 refine bnd (kD hi) (bnd (gJ ⟨by dsimp only;omega,by dsimp only;omega⟩) (bnd (kD hr) (bnd (EJ_ hp h1.2 h2.2 (by omega) hf) (bnd (a:=()) ?_ (bnd (gD _ hi) rfl)))))
 unfold neqO
 rw [if_neg (by dsimp only;omega)]
theorem H9_ {p:Int}{m a:Rows}{r k:Nat} (hr:r<m.length) (hk:k<m.length) (hl:a.length=m.length):xH (0,(r:Int),(k:Int),0) p m a=some (mB m r k,mB a r k):=by
 refine stp ?_
 by_cases h:k=r
 ·
  subst h
  rw [C0_ hr,C0_ (by omega)]
  exact cTW (dT rfl) rfl
 ·
  refine cFW (dF ?_) (bnd (Dh_ hr hk) (bnd (Dh_ (by omega) (by omega)) rfl))
  intro e
  simp only [List.cons.injEq] at e
  exact h (by have:=e.2.2.1;omega)
theorem IJ_ {p x:Int}{n q:Nat}{m a:Rows}{r:Nat} (hf:fdB p=true) (h:okM p n m) (ha:okM p q a) (hr:r<m.length) (hl:a.length=m.length) (hx:0<x∧x<p):xH (1,(r:Int),0,x) p m a=some (eK p (aE p x) m r,eK p (aE p x) a r):=by
 refine stp (cFW (dF ?_) (bnd (DH_ hf h hr hx) (bnd (DH_ hf ha (by omega) hx) rfl)))
 intro e
 simp only [List.cons.injEq] at e
 have:=e.1;omega
theorem II_ {p f:Int}{n q:Nat}{m a:Rows}{i r:Nat} (hp:2≤p∧p≤97) (h:okM p n m) (ha:okM p q a) (hi:i<m.length) (hr:r<m.length) (hl:a.length=m.length) (hir:i≠r) (hf:0≤f∧f<p) :
  xH (2,(i:Int),(r:Int),f) p m a=some (m.set i (qD (rE p f (gr m r)) (gr m i)),a.set i (qD (rE p f (gr a r)) (gr a i))):=by
 refine stp (cFW (dF ?_) (bnd (DG_ hp h hi hr hir hf) (bnd (DG_ hp ha (by omega) (by omega) hir hf) rfl)))
 intro e
 simp only [List.cons.injEq] at e
 have:=e.1;omega
theorem EC_ {p:Int}{c r n:Nat}{m a:Rows} (hp:2≤p) (h:okM p n a) (i:Nat):okM p n (mC (aC p c r m a) a i):=by
 intro x hx
 obtain ⟨q,hq,rfl⟩:=List.mem_iff_getElem.1 hx
 have hq':q<a.length:=by rw [zH] at hq;exact hq
 have h5:=fE (m:=mC (aC p c r m a) a i) (i:=q) hq
 rw [List.getElem?_eq_getElem hq] at h5
 rw [Option.some.inj h5,lL hq']
 split
 · exact A9_ hp (lC h hq')
 · exact lC h hq'
theorem cV {p:Int}{c r:Nat}{m a:Rows}{i:Nat} (hi:i<a.length):gr (mC (aC p c r m a) a i) i=gr a i:=by rw [lL hi,if_neg (by omega)]
theorem DU_ {p:Int}{c r:Nat}{m a:Rows} (i:Nat) (hr:r<a.length):gr (mC (aC p c r m a) a i) r=gr a r:=by
 rw [lL hr]
 split
 · unfold aC;rw [if_pos (Or.inl rfl)]
 · rfl
theorem aV {p:Int}{c r:Nat}{m a:Rows}{i:Nat} (hi:i<a.length) (h:i=r∨el (gr m i) c=0):mC (aC p c r m a) a (i+1)=mC (aC p c r m a) a i:=by
 rw [←bV hi]
 have h1:aC p c r m a i (gr a i)=gr a i:=by unfold aC;rw [if_pos h]
 rw [h1]
 have h2:=yM (m:=mC (aC p c r m a) a i) (i:=i) (by rw [zH];exact hi)
 rw [cV hi] at h2
 exact h2
theorem DT_ {p:Int}{c r:Nat}{m a:Rows}{i:Nat} (hi:i<a.length) (hir:i≠r) (h0:el (gr m i) c≠0):mC (aC p c r m a) a (i+1)=(mC (aC p c r m a) a i).set i (qD (rE p (el (gr m i) c) (gr a r)) (gr a i)):=by
 rw [←bV hi]
 have h1:aC p c r m a i (gr a i)=qD (rE p (el (gr m i) c) (gr a r)) (gr a i):=by unfold aC;rw [if_neg (by intro h;rcases h with h | h;exact hir h;exact h0 h)]
 rw [h1]
noncomputable def rR (p n:Int) (st:Rows×Rows×Int×Int):Option ((Rows×Rows×Int×Int)⊕(Rows×Rows×Int)):=
   ((some (decide (st.2.2.1<n))).bind fun a6807=>
    cond a6807
    ((some (decide (st.2.2.2<((st.1.length:Nat):Int)))).bind fun a6811=>
     some a6811)
    (some false)).bind fun (s6801:Bool)=>
   cond s6801
   (((zB (fun (s7797:Int)=>
       ((some (decide (s7797<((st.1.length:Nat):Int)))).bind fun a7835=>
        cond a7835
        ((idxO st.1 s7797).bind fun a7845=>
         (idxO a7845 st.2.2.1).bind fun a7854=>
         (some (decide (a7854=0))).bind fun a7856=>
         some a7856)
        (some false)).bind fun (s7829:Bool)=>
       cond s7829
       ((qA s7797 1).bind fun a7863=>
        some (.inl a7863))
       (some (.inr s7797))) st.2.2.2).bind fun (s7671:Int)=>
     (some (decide (s7671=((st.1.length:Nat):Int)))).bind fun a7867=>
     cond a7867
     (some (st.1,st.2.1,st.2.2.2))
     ((xH (0,st.2.2.2,s7671,0) p st.1 st.2.1).bind fun y7870=>
      (idxO y7870.1 st.2.2.2).bind fun a7879=>
      (idxO a7879 st.2.2.1).bind fun a7888=>
      (xH (1,st.2.2.2,0,a7888) p y7870.1 y7870.2).bind fun y7890=>
      (forS (fun (k7893:Nat) (s8050:List (List Int)×List (List Int))=>
        ((some (!decide (((k7893:Nat):Int)=st.2.2.2))).bind fun a8088=>
         cond a8088
         ((idxO s8050.1 ((k7893:Nat):Int)).bind fun a8098=>
          (idxO a8098 st.2.2.1).bind fun a8107=>
          (some (!decide (a8107=0))).bind fun a8109=>
          some a8109)
         (some false)).bind fun (s8082:Bool)=>
        cond s8082
        ((idxO s8050.1 ((k7893:Nat):Int)).bind fun a8121=>
         (idxO a8121 st.2.2.1).bind fun a8130=>
         (xH (2,((k7893:Nat):Int),st.2.2.2,a8130) p s8050.1 s8050.2).bind fun y8132=>
         some (y8132.1,y8132.2))
        (some (s8050.1,s8050.2))) y7890.1.length 0 (y7890.1,y7890.2)).bind fun (s8137:List (List Int)×List (List Int))=>
      (qA st.2.2.2 1).bind fun a8139=>
      some (s8137.1,s8137.2,a8139))).bind fun (s7477:List (List Int)×List (List Int)×Int)=>
    (qA st.2.2.1 1).bind fun a8144=>
    some (.inl (s7477.1,s7477.2.1,a8144,s7477.2.2)))
   (some (.inr (st.1,st.2.1,st.2.2.2)))
theorem Ik_ {p:Int}{n N q c r:Nat}{m a:Rows} (hf:fdB p=true) (h:okM p N m) (ha:okM p q a) (hn:n≤N) (hN:N≤1048576) (hL:m.length≤1048576) (hl:a.length=m.length) (hr:r<m.length) (hc:c<n) :
  rR p (n:Int) (m,a,(c:Int),(r:Int))=some (.inl (if scanN m c (m.length-r) r=m.length then (m,a,(c:Int)+1,(r:Int)) else (qB p c m m r (scanN m c (m.length-r) r),qB p c m a r (scanN m c (m.length-r) r),(c:Int)+1,(r:Int)+1))):=by
 have hp:=dC hf
 unfold rR
 dsimp only
 refine bnd (a:=true) (stp (cTW (dT (by omega)) (stp (by rw [dT (by omega)])))) (cTW rfl ?_)
 have hsc:∀ {f:Int→Option (Int⊕Int)},(∀ k:Nat,k<m.length→f (k:Int)=some (if el (gr m k) c=0 then .inl ((k:Int)+1) else .inr (k:Int)))→f (m.length:Int)=some (.inr (m.length:Int))→zB f (r:Int)=some ((scanN m c (m.length-r) r:Nat):Int):=fun h1 h2=>scan_ h1 h2 _ _ (by omega)
 obtain ⟨s1,s2,s3⟩:=uI m c (m.length-r) r (by omega)
 generalize scanN m c (m.length-r) r=k at hsc s1 s2 s3 ⊢
 refine bnd (a:=if k=m.length then (m,a,(r:Int)) else (qB p c m m r k,qB p c m a r k,(r:Int)+1)) ?_ ?_
 ·
  refine bnd (hsc ?_ ?_) (stp ?_)
  ·
   intro i hi
   have hrow:=lC h hi
   refine bnd (a:=decide (el (gr m i) c=0)) (stp (cTW (dT (by omega)) (bnd (kD hi) (bnd (yD (by omega)) rfl)))) ?_
   by_cases h0:el (gr m i) c=0
   · rw [if_pos h0];exact cTW (dT h0) (bnd (jB (by omega) (by omega)) rfl)
   · rw [if_neg h0];exact cFW (dF h0) rfl
  · exact bnd (a:=false) (stp (cFW (dF (by omega)) rfl)) (cFW rfl rfl)
  ·
   by_cases hk:k=m.length
   · rw [if_pos hk];exact cTW (dT (by omega)) rfl
   ·
    rw [if_neg hk]
    have hkl:k<m.length:=by omega
    have hne:=s3 hkl
    refine cFW (dF (by omega)) ?_
    have h1:okM p N (mB m r k):=qM h hr hkl
    have h1a:okM p q (mB a r k):=qM ha (by omega) (by omega)
    have hr1:r<(mB m r k).length:=by rw [swapM_len];exact hr
    have hrow:=lC h1 hr1
    have hel:=fI h1 hr1 (show c<N by omega)
    have hnz:el (gr (mB m r k) r) c≠0:=by rw [swapM_gr hr hkl];exact hne
    refine bnd (H9_ hr hkl hl) ?_
    dsimp only
    refine bnd (kD hr1) (bnd (yD (by omega)) (bnd (IJ_ hf h1 h1a hr1 (by rw [swapM_len,swapM_len];exact hl) ⟨by omega,hel.2⟩) ?_))
    change (forS _ (uB p c m m r k).length 0 (uB p c m m r k,uB p c m a r k)).bind _=_
    have h2:okM p N (uB p c m m r k):=jW hp.1 h hr hkl
    have h2a:okM p q (uB p c m a r k):=jW hp.1 ha (by omega) (by omega)
    have hl2:(uB p c m m r k).length=m.length:=eO p c m m r k
    have hl2a:(uB p c m a r k).length=m.length:=by rw [eO];exact hl
    have hr2:r<(uB p c m m r k).length:=by omega
    have:=iD (n:=(uB p c m m r k).length) (fun i=>(mC (aC p c r (uB p c m m r k) (uB p c m m r k)) (uB p c m m r k) i,mC (aC p c r (uB p c m m r k) (uB p c m a r k)) (uB p c m a r k) i)) (f:=(fun (k7893:Nat) (s8050:List (List Int)×List (List Int))=>
        ((some (!decide (((k7893:Nat):Int)=(r:Int)))).bind fun a8088=>
         cond a8088
         ((idxO s8050.1 ((k7893:Nat):Int)).bind fun a8098=>
          (idxO a8098 (c:Int)).bind fun a8107=>
          (some (!decide (a8107=0))).bind fun a8109=>
          some a8109)
         (some false)).bind fun (s8082:Bool)=>
        cond s8082
        ((idxO s8050.1 ((k7893:Nat):Int)).bind fun a8121=>
         (idxO a8121 (c:Int)).bind fun a8130=>
         (xH (2,((k7893:Nat):Int),(r:Int),a8130) p s8050.1 s8050.2).bind fun y8132=>
         some (y8132.1,y8132.2))
        (some (s8050.1,s8050.2)))) ?_
    ·
     have e1:mC (aC p c r (uB p c m m r k) (uB p c m m r k)) (uB p c m m r k) (uB p c m m r k).length=qB p c m m r k:=dS _ _
     have e2:mC (aC p c r (uB p c m m r k) (uB p c m a r k)) (uB p c m a r k) (uB p c m m r k).length=qB p c m a r k:=by
      rw [hl2,← hl2a,dS];rfl
     rw [partG0,partG0,e1,e2] at this
     exact bnd this (bnd (jB (by omega) (by omega)) rfl)
    ·
     show ∀ i,i<(uB p c m m r k).length→_
     unfold qB at *
     generalize uB p c m m r k=w at h2 hl2 hr2
     generalize uB p c m a r k=b at h2a hl2a
     intro i hi
     have hib:i<b.length:=by omega
     have hrb:r<b.length:=by omega
     have hrow2:=lC h2 hi
     have hli:i<(mC (aC p c r w w) w i).length:=by rw [zH];exact hi
     have hlr:r<(mC (aC p c r w w) w i).length:=by rw [zH];exact hr2
     have i1:=kD hli
     rw [cV hi] at i1
     by_cases hir:i=r
     ·
      refine bnd (a:=false) (stp (cFW (nT (dT (by omega))) rfl)) (cFW rfl ?_)
      rw [aV hi (Or.inl hir),aV hib (Or.inl hir)]
     ·
      by_cases h0:el (gr w i) c=0
      ·
       refine bnd (a:=false) (stp (cTW (nF (dF (by omega))) (bnd i1 (bnd (yD (by omega)) (stp (by rw [dT h0];rfl)))))) (cFW rfl ?_)
       rw [aV hi (Or.inr h0),aV hib (Or.inr h0)]
      ·
       refine bnd (a:=true) (stp (cTW (nF (dF (by omega))) (bnd i1 (bnd (yD (by omega)) (stp (by rw [dF h0];rfl)))))) (cTW rfl ?_)
       refine bnd i1 (bnd (yD (by omega)) ?_)
       have hfe:=fI h2 hi (show c<N by omega)
       have:=II_ (f:=el (gr w i) c) hp (EC_ (c:=c) (r:=r) (m:=w) hp.1 h2 i) (EC_ (c:=c) (r:=r) (m:=w) hp.1 h2a i) hli hlr (by rw [zH,zH];omega) hir hfe
       rw [cV hi,cV hib,DU_ i hr2,DU_ i hrb] at this
       refine bnd this ?_
       rw [DT_ hi hir h0,DT_ hib hir h0]
 ·
  by_cases hk:k=m.length
  · rw [if_pos hk,if_pos hk];exact bnd (jB (by omega) (by omega)) rfl
  · rw [if_neg hk,if_neg hk];exact bnd (jB (by omega) (by omega)) rfl
theorem AM_ {p:Int}{n N q:Nat} (hf:fdB p=true) (hn:n≤N) (hN:N≤1048576):∀ (d c:Nat) (m a:Rows) (r:Nat),c+d=n→okM p N m→okM p q a→m.length≤1048576→a.length=m.length→r≤m.length →
  zB (rR p (n:Int)) (m,a,(c:Int),(r:Int))=some ((cC p d c m a r).1,(cC p d c m a r).2.1,((cC p d c m a r).2.2:Int))
 | 0,c,m,a,r,hc,h,ha,hL,hl,hr=>by
  refine eF ?_
  unfold rR
  exact bnd (a:=false) (stp (cFW (dF (by dsimp only;omega)) rfl)) (cFW rfl rfl)
 | d+1,c,m,a,r,hc,h,ha,hL,hl,hr=>by
  unfold cC
  by_cases hrl:r<m.length
  ·
   rw [if_pos hrl]
   have hs:=Ik_ hf h ha hn hN hL hl hrl (show c<n by omega)
   obtain ⟨s1,s2,s3⟩:=uI m c (m.length-r) r (by omega)
   split
   ·
    rename_i hk
    rw [if_pos hk] at hs
    rw [jG hs]
    exact AM_ hf hn hN d (c+1) m a r (by omega) h ha hL hl hr
   ·
    rename_i hk
    rw [if_neg hk] at hs
    rw [jG hs]
    have hkl:scanN m c (m.length-r) r<m.length:=by omega
    exact AM_ hf hn hN d (c+1) _ _ (r+1) (by omega) (zG (dC hf).1 h hrl hkl) (zG (dC hf).1 ha (by omega) (by omega)) (by rw [bE];exact hL) (by rw [bE,bE];exact hl) (by rw [bE];omega)
  ·
   rw [if_neg hrl]
   refine eF ?_
   unfold rR
   exact bnd (a:=false) (stp (cTW (dT (by dsimp only;omega)) (stp (by rw [dF (by dsimp only;omega)])))) (cFW rfl rfl)
theorem yN {p:Int}{N q:Nat} (hp:2≤p):∀ (d c:Nat) (m a:Rows) (r:Nat),okM p N m→okM p q a→a.length=m.length→r≤m.length →
  okM p N (cC p d c m a r).1∧okM p q (cC p d c m a r).2.1∧(cC p d c m a r).1.length=m.length∧(cC p d c m a r).2.1.length=m.length∧r≤(cC p d c m a r).2.2∧(cC p d c m a r).2.2≤m.length∧(cC p d c m a r).2.2≤r+d
 | 0,c,m,a,r,h,ha,hl,hr=>⟨h,ha,rfl,hl,Nat.le_refl _,hr,by simp [cC]⟩
 | d+1,c,m,a,r,h,ha,hl,hr=>by
  unfold cC
  by_cases hrl:r<m.length
  ·
   rw [if_pos hrl]
   obtain ⟨s1,s2,s3⟩:=uI m c (m.length-r) r (by omega)
   split
   ·
    obtain ⟨k1,k2,k3,k4,k5,k6,k7⟩:=yN hp d (c+1) m a r h ha hl hr
    exact ⟨k1,k2,k3,k4,k5,k6,by omega⟩
   ·
    have hkl:scanN m c (m.length-r) r<m.length:=by omega
    obtain ⟨k1,k2,k3,k4,k5,k6,k7⟩:=yN hp d (c+1) (qB p c m m r (scanN m c (m.length-r) r)) (qB p c m a r (scanN m c (m.length-r) r)) (r+1) (zG hp h hrl hkl) (zG hp ha (by omega) (by omega)) (by rw [bE,bE];exact hl) (by rw [bE];omega)
    rw [bE] at k3 k4 k6
    exact ⟨k1,k2,k3,k4,by omega,k6,by omega⟩
  · rw [if_neg hrl];exact ⟨h,ha,rfl,hl,Nat.le_refl _,hr,Nat.le_add_right _ _⟩
def eC (p:Int) (n:Nat) (m:Rows):Rows:=(cC p n 0 m m 0).1.take (cC p n 0 m m 0).2.2
theorem pQ (p:Int):∀ (d c:Nat) (m a b:Rows) (r:Nat),(cC p d c m a r).1=(cC p d c m b r).1∧(cC p d c m a r).2.2=(cC p d c m b r).2.2
 | 0,_,_,_,_,_=>⟨rfl,rfl⟩
 | d+1,c,m,a,b,r=>by
  unfold cC
  split
  ·
   split
   · exact pQ p d (c+1) m a b r
   · exact pQ p d (c+1) _ _ _ (r+1)
  · exact ⟨rfl,rfl⟩
theorem C3_ {p:Int}{n N q:Nat}{m a:Rows} (hf:fdB p=true) (hn:n≤N) (hN:N≤1048576) (h:okM p N m) (ha:okM p q a) (hL:m.length≤1048576) (hl:a.length=m.length) :
  gT p m (n:Int) a=some ((cC p n 0 m a 0).1,(cC p n 0 m a 0).2.1,((cC p n 0 m a 0).2.2:Int)):=
 bnd (AM_ hf hn hN n 0 m a 0 (by omega) h ha hL hl (by omega)) rfl
theorem E9_ {α:Type}{l:List α}{k:Nat} (h:k≤l.length):aB l 0 (k:Int)=some (l.take k):=by
 unfold aB
 rw [if_pos (by omega)]
 simp
theorem lV {p:Int}{n N:Nat}{m:Rows} (hf:fdB p=true) (hn:n≤N) (hN:N≤1048576) (h:okM p N m) (hL:m.length≤1048576):oT p m (n:Int)=some (eC p n m):=by
 have hm:iB=1099511627776:=rfl
 have ha:okM p 0 (List.replicate m.length ([]:List Int)):=by
  intro x hx
  rw [List.eq_of_mem_replicate hx]
  exact ⟨rfl,fun y hy=>by cases hy⟩
 obtain ⟨k1,_,k3,_,_,k6,_⟩:=yN (dC hf).1 n 0 m (List.replicate m.length []) 0 h ha (by simp) (by omega)
 obtain ⟨e1,e2⟩:=pQ p n 0 m (List.replicate m.length []) m 0
 refine bnd (EW_ (by omega) (fun r hr=>by have:=(h r hr).1;omega)) (bnd (vI _ (by omega)) (bnd (C3_ hf hn hN h ha hL (by simp)) ?_))
 unfold eC
 rw [←e1,← e2]
 exact bnd (E9_ (by dsimp only;omega)) rfl
theorem yQ {p:Int}{n N:Nat}{m:Rows} (hf:fdB p=true) (hn:n≤N) (hN:N≤1048576) (h:okM p N m) (hL:m.length≤1048576):qP p (n:Int) m=some (eC p n m):=by
 have hm:iB=1099511627776:=rfl
 obtain ⟨k1,_,k3,_,_,k6,_⟩:=yN (dC hf).1 n 0 m m 0 h h rfl (by omega)
 have hcopy:forS (fun (k2:Nat) (s55:List (List Int))=>
   (idxO m ((k2:Nat):Int)).bind fun a72=>
   (vG a72).bind fun y76=>
   (tA s55 [y76]).bind fun a84=>
   some a84) m.length 0 []=some m:=by
  refine (yE (fun r=>r) m [] (by simp;omega) ?_).trans (by simp)
  intro j x s hx hs
  have hj:j<m.length:=(List.getElem?_eq_some_iff.1 hx).1
  have h1:=(h x (aD hx)).1
  exact bnd (pA hx) (bnd (own_ (by omega)) (bnd (vB (by simp at hs ⊢;omega)) rfl))
 refine bnd hcopy (bnd (AH_ hf hn hN n 0 m m 0 (by omega) h hL (by omega)) ?_)
 exact bnd (E9_ (by dsimp only;omega)) rfl
theorem Bi_ {p:Int}{n N:Nat}{m:Rows} (hp:2≤p) (h:okM p N m):okM p N (eC p n m)∧(eC p n m).length≤m.length∧(eC p n m).length≤n:=by
 obtain ⟨k1,_,k3,_,_,k6,k7⟩:=yN hp n 0 m m 0 h h rfl (by omega)
 unfold eC
 refine ⟨fun r hr=>k1 r (List.mem_of_mem_take hr),?_,?_⟩
 · rw [List.length_take];omega
 · rw [List.length_take];omega
end Go.Proofs.YtlggnmkelgplnaaGreatDoor
namespace Go.Proofs.YtlggnmkelgplnaaGreatDoor
theorem EN_ {α τ:Type} [DecidableEq α] {f:Nat→Unit→Option (Unit⊕τ)}{t:τ}:∀ (l m:List α) (k:Nat),l.length=m.length→(∀ j a b,l[j]?=some a→m[j]?=some b→f (k+j) ()=some (if a=b then .inl () else .inr t))→nC f l.length k ()=some (if l=m then .inl () else .inr t)
 | [],[],k,_,_=>rfl
 | [],_::_,_,h,_=>by simp at h
 | _::_,[],_,h,_=>by simp at h
 | a::l,b::m,k,hl,h=>by
  show (f k ()).bind _=_
  have h0:f k ()=_:=h 0 a b rfl rfl
  rw [h0]
  by_cases hab:a=b
  ·
   rw [if_pos hab]
   have:=EN_ l m (k+1) (by simpa using hl) (fun j x y hx hy=>by
    have:=h (j+1) x y (by simpa using hx) (by simpa using hy)
    rw [show k+1+j=k+(j+1) by omega];exact this)
   show nC f l.length (k+1) ()=_
   rw [this]
   by_cases h2:l=m
   · rw [if_pos h2,if_pos (by rw [hab,h2])]
   · rw [if_neg h2,if_neg (by intro h3;exact h2 (List.cons.inj h3).2)]
  · rw [if_neg hab,if_neg (by intro h3;exact hab (List.cons.inj h3).1)];rfl
theorem l1Same_ (a b:List Int):sZ a b=some (decide (a=b)):=by
 refine stp ?_
 by_cases h:a.length=b.length
 ·
  refine cFW (nT (dT (by omega))) (sqW (EN_ a b 0 h ?_ (t:=false)) ?_)
  ·
   intro j x y hx hy
   rw [Nat.zero_add]
   refine bnd (pA hx) (bnd (pA hy) (stp ?_))
   by_cases h2:x=y
   · rw [if_pos h2];exact cFW (nT (dT h2)) rfl
   · rw [if_neg h2];exact cTW (nF (dF h2)) rfl
  ·
   by_cases h2:a=b
   · rw [if_pos h2,dT h2];rfl
   · rw [if_neg h2,dF h2];rfl
 · rw [show decide (a=b)=false from dF (fun h2=>h (by rw [h2]))];exact cTW (nF (dF (by omega))) rfl
end Go.Proofs.YtlggnmkelgplnaaGreatDoor
namespace Go.Proofs.YtlggnmkelgplnaaGreatDoor
def leadN:List Int→Nat
 | []=>0
 | x::xs=>if x=0 then leadN xs+1 else 0
theorem tV:∀ r:List Int,leadN r≤r.length
 | []=>Nat.le_refl _
 | x::xs=>by
  unfold leadN;have:=tV xs
  split
  · simp only [List.length_cons];omega
  · omega
theorem el_zero (x:Int) (xs:List Int):el (x::xs) 0=x:=by unfold el;simp
theorem el_succ (x:Int) (xs:List Int) (j:Nat):el (x::xs) (j+1)=el xs j:=by unfold el;simp
theorem el_out {r:List Int}{j:Nat} (h:r.length≤j):el r j=0:=by unfold el;rw [List.getD_eq_getElem?_getD,List.getElem?_eq_none h];rfl
theorem vM:∀ (r:List Int) (j:Nat),j<leadN r→el r j=0
 | [],j,h=>by simp [leadN] at h
 | x::xs,j,h=>by
  unfold leadN at h
  split at h
  ·
   rename_i h0
   cases j with
   | zero=>rw [el_zero];exact h0
   | succ j=>rw [el_succ];exact vM xs j (by omega)
  · omega
theorem oR:∀ (r:List Int),leadN r<r.length→el r (leadN r)≠0
 | [],h=>by simp at h
 | x::xs,h=>by
  unfold leadN at h ⊢
  split at h
  ·
   rename_i h0
   rw [if_pos h0,el_succ]
   exact oR xs (by simpa using h)
  ·
   rename_i h0
   rw [if_neg h0,el_zero];exact h0
theorem A3_ {r:List Int}{k:Nat} (hz:∀ j,j<k→el r j=0) (hk:el r k≠0):leadN r=k:=by
 rcases Nat.lt_trichotomy (leadN r) k with h | h | h
 ·
  have h1:=hz _ h
  rcases Nat.lt_or_ge (leadN r) r.length with h2 | h2
  · exact absurd h1 (oR r h2)
  ·
   have:el r k=0:=el_out (by omega)
   exact absurd this hk
 · exact h
 · exact absurd (vM r k h) hk
theorem HD_ {r:List Int} (h:∀ j,j<r.length→el r j=0):leadN r=r.length:=by
 rcases Nat.lt_or_ge (leadN r) r.length with h2 | h2
 · exact absurd (h _ h2) (oR r h2)
 · have:=tV r;omega
theorem CV_ {f:Nat→Unit→Option (Unit⊕Int)}:∀ (r:List Int) (k:Nat),(∀ j a,r[j]?=some a→f (k+j) ()=some (if a=0 then .inl () else .inr ((k+j:Nat):Int)))→nC f r.length k ()=some (if leadN r=r.length then .inl () else .inr ((k+leadN r:Nat):Int))
 | [],k,_=>rfl
 | x::xs,k,h=>by
  show (f k ()).bind _=_
  have h0:=h 0 x rfl
  rw [Nat.add_zero] at h0
  rw [h0]
  have hl:leadN (x::xs)=if x=0 then leadN xs+1 else 0:=rfl
  rw [hl]
  by_cases hx:x=0
  ·
   rw [if_pos hx,if_pos hx]
   have:=CV_ xs (k+1) (fun j a hj=>by
    have:=h (j+1) a (by simpa using hj)
    rw [show k+1+j=k+(j+1) by omega];exact this)
   show nC f xs.length (k+1) ()=_
   rw [this,List.length_cons]
   by_cases h2:leadN xs=xs.length
   · rw [if_pos h2,if_pos (by omega)]
   · rw [if_neg h2,if_neg (by omega),show k+1+leadN xs=k+(leadN xs+1) by omega]
  · rw [if_neg hx,if_neg hx,if_neg (by simp)];rfl
theorem lead_ (r:List Int):rQ r=some (leadN r:Int):=by
 refine sqW (CV_ r 0 ?_) ?_
 ·
  intro j a hj
  rw [Nat.zero_add]
  refine bnd (pA hj) (stp ?_)
  by_cases h:a=0
  · rw [if_pos h];exact cFW (nT (dT h)) rfl
  · rw [if_neg h];exact cTW (nF (dF h)) rfl
 ·
  have:=tV r
  by_cases h:leadN r=r.length
  · rw [if_pos h,h];rfl
  · rw [if_neg h,Nat.zero_add];rfl
theorem Bf_ {r:List Int} (hr:r.length≤9223372036854775806):aQ r=some (leadN r:Int):=by
 have hle:=tV r
 refine bnd (aO (fun j=>(j:Int)) (t:=(leadN r:Int)) (leadN r) ?_ ?_) rfl
 ·
  intro j hj
  have hjl:j<r.length:=by omega
  refine bnd (a:=true) (stp (cTW (dT (by omega)) (bnd (yD hjl) (stp (by rw [vM r j hj];rfl))))) (cTW rfl (bnd (jB (by omega) (by omega)) rfl))
 ·
  by_cases h:leadN r<r.length
  · refine bnd (a:=false) (stp (cTW (dT (by omega)) (bnd (yD h) (stp (by rw [dF (oR r h)]))))) (cFW rfl rfl)
  · exact bnd (a:=false) (stp (cFW (dF (by omega)) rfl)) (cFW rfl rfl)
theorem isZero_ (r:List Int):Ad_ r=some (decide (leadN r=r.length)):=
 bnd (lead_ r) (stp (by rw [decide_eq_decide.2];omega))
theorem tO {a b:List Int} (hl:a.length=b.length) (h:∀ j,j<a.length→el a j=el b j):a=b:=by
 apply List.ext_getElem?
 intro j
 by_cases hj:j<a.length
 · rw [jI hj,jI (by omega),h j hj]
 · rw [List.getElem?_eq_none (by omega),List.getElem?_eq_none (by omega)]
theorem Fp_ {a b:Rows} (hl:a.length=b.length) (h:∀ j,j<a.length→gr a j=gr b j):a=b:=by
 apply List.ext_getElem?
 intro j
 by_cases hj:j<a.length
 · rw [fE hj,fE (by omega),h j hj]
 · rw [List.getElem?_eq_none (by omega),List.getElem?_eq_none (by omega)]
theorem oO {g:Nat→Int→Int}{r:List Int}{j:Nat} (h:j<r.length):el (qD g r) j=g j (el r j):=by
 have h1:=jI (r:=qD g r) (c:=j) (by rw [lR];exact h)
 unfold qD at h1
 rw [List.getElem?_mapIdx,jI h] at h1
 exact (Option.some.inj h1).symm
theorem yG {m:Rows}{r k i:Nat} (hr:r<m.length) (hk:k<m.length):gr (mB m r k) i=if i=k then gr m r else if i=r then gr m k else gr m i:=by
 unfold mB
 rw [aJ (by rw [List.length_set];exact hk)]
 by_cases h:k=i
 · rw [if_pos h,if_pos h.symm]
 ·
  rw [if_neg h,if_neg (Ne.symm h),aJ hr]
  by_cases h2:r=i
  · rw [if_pos h2,if_pos h2.symm]
  · rw [if_neg h2,if_neg (Ne.symm h2)]
theorem vR {p:Int}{c:Nat}{m a:Rows}{r k i:Nat} (hr:r<a.length):gr (uB p c m a r k) i=if i=r then qD (bH p (aE p (el (gr (mB m r k) r) c))) (gr (mB a r k) r) else gr (mB a r k) i:=by
 unfold uB eK
 rw [aJ (by rw [swapM_len];exact hr)]
 by_cases h:r=i
 · rw [if_pos h,if_pos h.symm]
 · rw [if_neg h,if_neg (Ne.symm h)]
structure RedI (c r:Nat) (m:Rows):Prop where
 le:r≤m.length
 lt:∀ i,i<r→leadN (gr m i)<c
 one:∀ i,i<r→el (gr m i) (leadN (gr m i))=1
 zero:∀ i j,i<r→j<m.length→i≠j→el (gr m j) (leadN (gr m i))=0
 inc:∀ i j,i<j→j<r→leadN (gr m i)<leadN (gr m j)
 rest:∀ i,r≤i→i<m.length→∀ q,q<c→el (gr m i) q=0
theorem RedI.start (m:Rows):RedI 0 0 m:=⟨Nat.zero_le _,fun _ h=>by omega,fun _ h=>by omega,fun _ _ h=>by omega,fun _ _ _ h=>by omega,fun _ _ _ _ h=>by omega⟩
theorem RedI.skip {c r:Nat}{m:Rows} (h:RedI c r m) (hz:∀ i,r≤i→i<m.length→el (gr m i) c=0):RedI (c+1) r m:=
 ⟨h.le,fun i hi=>by have:=h.lt i hi;omega,h.one,h.zero,h.inc,fun i h1 h2 q hq=>by
  rcases Nat.lt_or_ge q c with h3 | h3
  · exact h.rest i h1 h2 q h3
  · rw [show q=c by omega];exact hz i h1 h2⟩
theorem C2_ (m:Rows) (c:Nat):∀ (d k:Nat),∀ i,k≤i→i<scanN m c d k→el (gr m i) c=0
 | 0,k,i,h1,h2=>by simp only [scanN] at h2;omega
 | d+1,k,i,h1,h2=>by
  unfold scanN at h2
  split at h2
  ·
   rename_i h0
   rcases Nat.lt_or_ge k i with h3 | h3
   · exact C2_ m c d (k+1) i h3 h2
   · rw [show i=k by omega];exact h0
  · omega
theorem xI {p x:Int} (h:0≤x∧x<p):x % p=x:=Int.emod_eq_of_lt h.1 h.2
theorem step_el {p:Int}{c r k N:Nat}{m:Rows} (hf:fdB p=true) (h:okM p N m) (hr:r<m.length) (hk:k<m.length) (hc:c<N) (hne:el (gr m k) c≠0) :
  let s:=mB m r k
  let iv:=aE p (el (gr m k) c)
  (∀ q,q<N→el (gr (qB p c m m r k) r) q=(el (gr m k) q*iv) % p)∧(el (gr m k) c*iv) % p=1 ∧
  ∀ i,i<m.length→i≠r→∀ q,q<N→el (gr (qB p c m m r k) i) q=(el (gr s i) q-el (gr s i) c*((el (gr m k) q*iv) % p)) % p:=by
 intro s iv
 have hp:=dC hf
 have hel:=fI h hk hc
 obtain ⟨_,i1,i2,i3⟩:=pR hf (x:=el (gr m k) c) ⟨by omega,hel.2⟩
 have hsr:gr s r=gr m k:=swapM_gr hr hk
 have hsl:s.length=m.length:=swapM_len m r k
 have hso:okM p N s:=qM h hr hk
 have hpl:(uB p c m m r k).length=m.length:=eO p c m m r k
 have hpr:gr (uB p c m m r k) r=qD (bH p iv) (gr m k):=by
  rw [vR hr,if_pos rfl]
  show qD (bH p (aE p (el (gr s r) c))) (gr s r)=_
  rw [hsr]
 have hrow:=lC h hk
 have hpe:∀ q,q<N→el (gr (uB p c m m r k) r) q=(el (gr m k) q*iv) % p:=fun q hq=>by
  rw [hpr,oO (by omega)];rfl
 have hst:∀ i,i<m.length→gr (qB p c m m r k) i=aC p c r (uB p c m m r k) (uB p c m m r k) i (gr (uB p c m m r k) i):=fun i hi=>Ef_ (by rw [hpl];exact hi)
 refine ⟨fun q hq=>?_,i1,fun i hi hir q hq=>?_⟩
 ·
  rw [hst r hr]
  unfold aC
  rw [if_pos (.inl rfl)]
  exact hpe q hq
 ·
  rw [hst i hi]
  have hpi:gr (uB p c m m r k) i=gr s i:=by rw [vR hr,if_neg hir]
  have hsi:=lC hso (i:=i) (by rw [hsl];exact hi)
  have hb:=fI hso (i:=i) (by rw [hsl];exact hi) hq
  unfold aC
  by_cases h0:el (gr (uB p c m m r k) i) c=0
  ·
   rw [if_pos (.inr h0),hpi]
   rw [hpi] at h0
   rw [h0,Int.zero_mul,Int.sub_zero,xI hb]
  ·
   rw [if_neg (by intro h1;rcases h1 with h1 | h1;exact hir h1;exact h0 h1)]
   rw [oO (by rw [hpi];omega)]
   unfold rE
   rw [hpi,hpe q hq]
theorem RedI.step {p:Int}{c r N:Nat}{m:Rows} (hf:fdB p=true) (ho:okM p N m) (h:RedI c r m) (hr:r<m.length) (hc:c<N) (hk:scanN m c (m.length-r) r≠m.length) :
  RedI (c+1) (r+1) (qB p c m m r (scanN m c (m.length-r) r)):=by
 obtain ⟨s1,s2,s3⟩:=uI m c (m.length-r) r (by omega)
 have hp:=dC hf
 generalize scanN m c (m.length-r) r=k at s1 s2 s3 hk ⊢
 have hkl:k<m.length:=by omega
 have hne:=s3 hkl
 obtain ⟨e1,e2,e3⟩:=step_el hf ho hr hkl hc hne
 have hsl:(qB p c m m r k).length=m.length:=bE p c m m r k
 have hz:∀ q,q<c→(el (gr m k) q*aE p (el (gr m k) c)) % p=0:=fun q hq=>by
  rw [h.rest k (by omega) hkl q hq,Int.zero_mul];exact Int.zero_emod p
 have hswap:∀ i,i<r→gr (mB m r k) i=gr m i:=fun i hi=>by
  rw [yG hr hkl,if_neg (by omega),if_neg (by omega)]
 have hrow:∀ i,i<r→∀ q,q<c→el (gr (qB p c m m r k) i) q=el (gr m i) q:=fun i hi q hq=>by
  have hb:=fI ho (i:=i) (by omega) (c:=q) (by omega)
  rw [e3 i (by omega) (by omega) q (by omega),hswap i hi,hz q hq,Int.mul_zero,Int.sub_zero,xI hb]
 have hlead:∀ i,i<r→leadN (gr (qB p c m m r k) i)=leadN (gr m i):=fun i hi=>by
  have hl:=h.lt i hi
  refine A3_ (fun j hj=>?_) ?_
  · rw [hrow i hi j (by omega)];exact vM _ j hj
  · rw [hrow i hi _ hl,h.one i hi];omega
 have hnew:leadN (gr (qB p c m m r k) r)=c:=by
  refine A3_ (fun j hj=>?_) ?_
  · rw [e1 j (by omega)];exact hz j hj
  · rw [e1 c hc,e2];omega
 refine ⟨by omega,fun i hi=>?_,fun i hi=>?_,fun i j hi hj hij=>?_,fun i j hij hj=>?_,fun i h1 h2 q hq=>?_⟩
 ·
  rcases Nat.lt_or_ge i r with h1 | h1
  · rw [hlead i h1];have:=h.lt i h1;omega
  · rw [show i=r by omega,hnew];omega
 ·
  rcases Nat.lt_or_ge i r with h1 | h1
  · rw [hlead i h1,hrow i h1 _ (h.lt i h1)];exact h.one i h1
  · rw [show i=r by omega,hnew,e1 c hc,e2]
 ·
  rw [hsl] at hj
  rcases Nat.lt_or_ge i r with h1 | h1
  ·
   have hl:=h.lt i h1
   rw [hlead i h1]
   by_cases hjr:j=r
   · rw [hjr,e1 _ (by omega)];exact hz _ hl
   ·
    rw [e3 j hj hjr _ (by omega),hz _ hl,Int.mul_zero,Int.sub_zero]
    have hs:el (gr (mB m r k) j) (leadN (gr m i))=0:=by
     rw [yG hr hkl]
     by_cases hjk:j=k
     · rw [if_pos hjk];exact h.zero i r h1 hr (by omega)
     · rw [if_neg hjk,if_neg hjr];exact h.zero i j h1 hj hij
    rw [hs];exact Int.zero_emod p
  ·
   have hi2:i=r:=by omega
   subst hi2
   rw [hnew,e3 j hj (Ne.symm hij) c hc,e2,Int.mul_one,Int.sub_self];exact Int.zero_emod p
 ·
  rcases Nat.lt_or_ge j r with h1 | h1
  · rw [hlead i (by omega),hlead j h1];exact h.inc i j hij h1
  · rw [show j=r by omega,hnew,hlead i (by omega)];exact h.lt i (by omega)
 ·
  rw [hsl] at h2
  rw [e3 i h2 (by omega) q (by omega)]
  rcases Nat.lt_or_ge q c with h3 | h3
  ·
   rw [hz q h3,Int.mul_zero,Int.sub_zero]
   have hs:el (gr (mB m r k) i) q=0:=by
    rw [yG hr hkl]
    split
    · exact h.rest r (Nat.le_refl _) hr q h3
    ·
     split
     · exact h.rest k s1 hkl q h3
     · exact h.rest i (by omega) h2 q h3
   rw [hs];exact Int.zero_emod p
  · rw [show q=c by omega,e2,Int.mul_one,Int.sub_self];exact Int.zero_emod p
theorem oQ {p:Int}{N:Nat} (hf:fdB p=true):∀ (d c:Nat) (m:Rows) (r:Nat),c+d≤N→okM p N m→RedI c r m→RedI (c+d) (cC p d c m m r).2.2 (cC p d c m m r).1
 | 0,c,m,r,_,_,h=>h
 | d+1,c,m,r,hN,ho,h=>by
  unfold cC
  by_cases hr:r<m.length
  ·
   rw [if_pos hr]
   obtain ⟨s1,s2,s3⟩:=uI m c (m.length-r) r (by omega)
   split
   ·
    rename_i hk
    have:=oQ hf d (c+1) m r (by omega) ho (h.skip (fun i h1 h2=>C2_ m c (m.length-r) r i h1 (by omega)))
    rw [show c+(d+1)=c+1+d by omega];exact this
   ·
    rename_i hk
    have:=oQ hf d (c+1) _ (r+1) (by omega) (zG (dC hf).1 ho hr (by omega)) (h.step hf ho hr (by omega) hk)
    rw [show c+(d+1)=c+1+d by omega];exact this
  ·
   rw [if_neg hr]
   exact (⟨h.le,fun i hi=>by have:=h.lt i hi;omega,h.one,h.zero,h.inc,fun i h1 h2=>by have:=h.le;omega⟩:RedI (c+(d+1)) r m)
structure Red (p:Int) (n:Nat) (b:Rows):Prop where
 ok:okM p n b
 lt:∀ i,i<b.length→leadN (gr b i)<n
 one:∀ i,i<b.length→el (gr b i) (leadN (gr b i))=1
 zero:∀ i j,i<b.length→j<b.length→i≠j→el (gr b j) (leadN (gr b i))=0
 inc:∀ i j,i<j→j<b.length→leadN (gr b i)<leadN (gr b j)
theorem zJ {m:Rows}{k i:Nat} (h:i<k):gr (m.take k) i=gr m i:=by
 unfold gr;rw [List.getD_eq_getElem?_getD,List.getD_eq_getElem?_getD,List.getElem?_take,if_pos h]
theorem lG {p:Int}{n:Nat}{m:Rows} (hf:fdB p=true) (h:okM p n m):Red p n (eC p n m):=by
 have h1:=oQ hf n 0 m 0 (by omega) h (RedI.start m)
 have h2:=(Bi_ (n:=n) (dC hf).1 h).1
 rw [Nat.zero_add] at h1
 unfold eC at h2 ⊢
 generalize cC p n 0 m m 0=t at h1 h2
 have hl:(t.1.take t.2.2).length=t.2.2:=by rw [List.length_take];have:=h1.le;omega
 refine ⟨h2,fun i hi=>?_,fun i hi=>?_,fun i j hi hj hij=>?_,fun i j hij hj=>?_⟩
 · rw [hl] at hi;rw [zJ hi];exact h1.lt i hi
 · rw [hl] at hi;rw [zJ hi];exact h1.one i hi
 · rw [hl] at hi hj;rw [zJ hi,zJ hj];exact h1.zero i j hi (by have:=h1.le;omega) hij
 · rw [hl] at hj;rw [zJ hj,zJ (by omega)];exact h1.inc i j hij hj
end Go.Proofs.YtlggnmkelgplnaaGreatDoor
namespace Go.Proofs.YtlggnmkelgplnaaGreatDoor
def sg:Nat→(Nat→Int)→Int
 | 0,_=>0
 | k+1,f=>sg k f+f k
theorem cD {f g:Nat→Int}:∀ {k:Nat},(∀ i,i<k→f i=g i)→sg k f=sg k g
 | 0,_=>rfl
 | k+1,h=>by
  show sg k f+f k=sg k g+g k
  rw [cD (fun i hi=>h i (by omega)),h k (by omega)]
theorem yJ {f:Nat→Int}{k:Nat} (h:∀ i,i<k→f i=0):sg k f=0:=by
 induction k with
 | zero=>rfl
 | succ k ih=>
  show sg k f+f k=0
  rw [ih (fun i hi=>h i (by omega)),h k (by omega)];rfl
theorem dI {f:Nat→Int}{k i0:Nat} (h0:i0<k) (h:∀ i,i<k→i≠i0→f i=0):sg k f=f i0:=by
 induction k with
 | zero=>omega
 | succ k ih=>
  show sg k f+f k=f i0
  by_cases hk:k=i0
  ·
   subst hk
   rw [yJ (fun i hi=>h i (by omega) (by omega)),Int.zero_add]
  · rw [ih (by omega) (fun i hi hn=>h i (by omega) hn),h k (by omega) hk,Int.add_zero]
theorem sg_shift (f:Nat→Int):∀ k,sg (k+1) f=f 0+sg k (fun i=>f (i+1))
 | 0=>by show 0+f 0=f 0+0;omega
 | k+1=>by
  show sg (k+1) f+f (k+1)=f 0+(sg k (fun i=>f (i+1))+f (k+1))
  rw [sg_shift f k];omega
theorem sg_add (f g:Nat→Int):∀ k,sg k (fun i=>f i+g i)=sg k f+sg k g
 | 0=>rfl
 | k+1=>by
  show sg k (fun i=>f i+g i)+(f k+g k)=(sg k f+f k)+(sg k g+g k)
  rw [sg_add f g k];omega
theorem sg_mul (c:Int) (f:Nat→Int):∀ k,sg k (fun i=>c*f i)=c*sg k f
 | 0=>by show (0:Int)=c*0;rw [Int.mul_zero]
 | k+1=>by
  show sg k (fun i=>c*f i)+c*f k=c*(sg k f+f k)
  rw [sg_mul c f k,Int.mul_add]
theorem gW (f:Nat→Nat→Int) (n:Nat):∀ k,sg k (fun i=>sg n (fun j=>f i j))=sg n (fun j=>sg k (fun i=>f i j))
 | 0=>by
  show (0:Int)=_
  rw [yJ (k:=n) (f:=fun j=>sg 0 fun i=>f i j) (fun _ _=>rfl)]
 | k+1=>by
  show sg k (fun i=>sg n (fun j=>f i j))+sg n (fun j=>f k j)=sg n (fun j=>sg k (fun i=>f i j)+f k j)
  rw [gW f n k,sg_add]
theorem eI {p:Int}{f g:Nat→Int}:∀ {k:Nat},(∀ i,i<k→f i % p=g i % p)→sg k f % p=sg k g % p
 | 0,_=>rfl
 | k+1,h=>by
  show (sg k f+f k) % p=(sg k g+g k) % p
  rw [Int.add_emod,eI (fun i hi=>h i (by omega)),h k (by omega),← Int.add_emod]
theorem add_mod1 (p a b:Int):(a % p+b) % p=(a+b) % p:=by rw [Int.add_emod,Int.emod_emod_of_dvd _ (Int.dvd_refl p),← Int.add_emod]
theorem DO_ (p a b:Int):(a % p-b) % p=(a-b) % p:=by rw [Int.sub_emod,Int.emod_emod_of_dvd _ (Int.dvd_refl p),← Int.sub_emod]
theorem mod_mod (p a:Int):a % p % p=a % p:=Int.emod_emod_of_dvd _ (Int.dvd_refl p)
theorem jR (p a b:Int):(a % p*b) % p=(a*b) % p:=by rw [Int.mul_emod,mod_mod,← Int.mul_emod]
theorem mul_mod2 (p a b:Int):(a*(b % p)) % p=(a*b) % p:=by rw [Int.mul_emod,mod_mod,← Int.mul_emod]
theorem Dd_ {g:Int→Int→Int}:∀ {a b:List Int}{j:Nat},j<a.length→a.length=b.length→el (List.zipWith g a b) j=g (el a j) (el b j)
 | [],_,_,h,_=>by simp at h
 | _::_,[],_,_,h=>by simp at h
 | x::a,y::b,0,_,_=>by rw [List.zipWith_cons_cons,el_zero,el_zero,el_zero]
 | x::a,y::b,j+1,h,hl=>by rw [List.zipWith_cons_cons,el_succ,el_succ,el_succ];exact Dd_ (by simpa using h) (by simpa using hl)
theorem el_addR {p c:Int}{acc row:List Int}{j:Nat} (h:j<acc.length) (hl:row.length=acc.length):el (pD p c acc row) j=(el acc j+c*el row j) % p:=by
 unfold pD;exact Dd_ (by omega) hl
theorem By_ (x:List Int) (xs:Rows):gr (x::xs) 0=x:=by unfold gr;simp
theorem Bz_ (x:List Int) (xs:Rows) (j:Nat):gr (x::xs) (j+1)=gr xs j:=by unfold gr;simp
theorem Eg_ {p:Int}{n:Nat} (hp:2≤p):∀ (rows:Rows) (cs:List Int) (acc:List Int) (j:Nat),okR p n acc→dJ p n rows→rows.length≤cs.length→j<n →
  el (pE (fun acc row c=>pD p c acc row) rows cs acc) j=(el acc j+sg rows.length (fun i=>el cs i*el (gr rows i) j)) % p
 | [],cs,acc,j,ha,_,_,hj=>by
  have:pE (fun acc row c=>pD p c acc row) [] cs acc=acc:=by cases cs <;> rfl
  have hb:=ha.2 _ (fF (r:=acc) (c:=j) (by rw [ha.1];exact hj))
  rw [this]
  show el acc j=(el acc j+0) % p
  rw [Int.add_zero,xI hb]
 | r::rows,[],acc,j,_,_,h,_=>by simp at h
 | r::rows,c::cs,acc,j,ha,hr,hl,hj=>by
  have h1:=hr r (List.mem_cons_self ..)
  have ha2:okR p n (pD p c acc r):=⟨by rw [aW (by rw [h1.1,ha.1]),ha.1],zR hp c r acc⟩
  show el (pE _ rows cs (pD p c acc r)) j=_
  rw [Eg_ hp rows cs _ j ha2 (fun x hx=>hr x (List.mem_cons_of_mem _ hx)) (by simpa using hl) hj,el_addR (by rw [ha.1];exact hj) (by rw [h1.1,ha.1]),add_mod1,List.length_cons,sg_shift,el_zero,By_]
  congr 1
  rw [Int.add_assoc]
  congr 2
theorem el_rep (n j:Nat):el (List.replicate n 0) j=0:=by
 unfold el;rw [List.getD_eq_getElem?_getD,List.getElem?_replicate];split <;> rfl
theorem I2_ {p:Int}{n:Nat} (hp:2≤p){rows:Rows}{cs:List Int}{j:Nat} (hr:dJ p n rows) (hl:rows.length≤cs.length) (hj:j<n) :
  el (dD p n rows cs) j=sg rows.length (fun i=>el cs i*el (gr rows i) j) % p:=by
 unfold dD
 rw [Eg_ hp rows cs _ j (nV hp n) hr hl hj,el_rep,Int.zero_add]
theorem Ea_ {p:Int}{n:Nat} (hp:2≤p):∀ (rows:Rows) (cs:List Int) (acc:List Int),okR p n acc→dJ p n rows→okR p n (pE (fun acc row c=>pD p c acc row) rows cs acc)
 | [],cs,acc,ha,_=>by cases cs <;> exact ha
 | r::rows,[],acc,ha,_=>ha
 | r::rows,c::cs,acc,ha,hr=>by
  have h1:=hr r (List.mem_cons_self ..)
  exact Ea_ hp rows cs _ ⟨by rw [aW (by rw [h1.1,ha.1]),ha.1],zR hp c r acc⟩ (fun x hx=>hr x (List.mem_cons_of_mem _ hx))
theorem sR {p:Int}{n:Nat} (hp:2≤p){rows:Rows}{cs:List Int} (hr:dJ p n rows):okR p n (dD p n rows cs):=Ea_ hp rows cs _ (nV hp n) hr
def mE (b:Rows) (v:List Int):List Int:=b.map fun r=>el v (leadN r)
theorem DA_ {b:Rows}{v:List Int}{i:Nat} (h:i<b.length):el (mE b v) i=el v (leadN (gr b i)):=by
 have h1:=jI (r:=mE b v) (c:=i) (by simp [mE];exact h)
 unfold mE at h1
 rw [List.getElem?_map,fE h] at h1
 exact (Option.some.inj h1).symm
theorem Iq_ {p:Int}{n:Nat}{b:Rows}{v:List Int} (hb:Red p n b) (hv:okR p n v):inP p (mE b v):=by
 intro x hx
 obtain ⟨r,hr,rfl⟩:=List.mem_map.1 hx
 obtain ⟨i,hi,rfl⟩:=List.mem_iff_getElem.1 hr
 have hl:=hb.lt i hi
 have e:gr b i=b[i]:=by have:=fE hi;rw [List.getElem?_eq_getElem hi] at this;exact (Option.some.inj this).symm
 rw [e] at hl
 exact hv.2 _ (fF (by rw [hv.1];exact hl))
def sG (p:Int) (n:Nat) (b:Rows) (v:List Int):Bool:=decide (dD p n b (mE b v)=v)
def rH (p:Int) (v:List Int) (b:Rows):Nat→List Int
 | 0=>v
 | i+1=>qD (rE p (el (rH p v b i) (leadN (gr b i))) (gr b i)) (rH p v b i)
theorem jV {p:Int}{n:Nat}{b:Rows}{v:List Int} (hp:2≤p) (hv:okR p n v):∀ i,okR p n (rH p v b i)
 | 0=>hv
 | i+1=>⟨by unfold rH;rw [lR];exact (jV hp hv i).1,Bs_ hp (fun j x=>⟨_,rfl⟩) _⟩
theorem AY_ {p:Int}{n:Nat}{b:Rows}{v:List Int} (hp:2≤p) (hb:Red p n b) (hv:okR p n v):∀ i,i≤b.length →
  (∀ j,j<n→el (rH p v b i) j=(el v j-sg i (fun t=>el v (leadN (gr b t))*el (gr b t) j)) % p)∧(i<b.length→el (rH p v b i) (leadN (gr b i))=el v (leadN (gr b i)))
 | 0,_=>by
  refine ⟨fun j hj=>?_,fun _=>rfl⟩
  have h1:=hv.2 _ (fF (r:=v) (c:=j) (by rw [hv.1];exact hj))
  show el v j=(el v j-0) % p
  rw [Int.sub_zero,xI h1]
 | i+1,hi=>by
  obtain ⟨h1,h2⟩:=AY_ hp hb hv i (by omega)
  have h3:=h2 (by omega)
  have hj1:∀ j,j<n→el (rH p v b (i+1)) j=(el v j-sg (i+1) (fun t=>el v (leadN (gr b t))*el (gr b t) j)) % p:=fun j hj=>by
   unfold rH
   rw [oO (by rw [(jV hp hv i).1];exact hj)]
   unfold rE
   rw [h3,h1 j hj,DO_]
   show _=(el v j-(sg i (fun t=>el v (leadN (gr b t))*el (gr b t) j)+el v (leadN (gr b i))*el (gr b i) j)) % p
   congr 1;omega
  refine ⟨hj1,fun hlt=>?_⟩
  have hl:=hb.lt (i+1) hlt
  rw [hj1 _ hl,yJ (fun t ht=>by rw [hb.zero (i+1) t hlt (by omega) (by omega),Int.mul_zero]),Int.sub_zero]
  exact xI (hv.2 _ (fF (by rw [hv.1];exact hl)))
theorem GX_ {p a s:Int} (ha:0≤a∧a<p):(a-s) % p=0↔s % p=a:=by
 constructor
 ·
  intro h
  have:=Int.emod_emod_of_dvd (a-s) (Int.dvd_refl p)
  have e:s % p=a % p:=by
   have h2:a=(a-s)+s:=by omega
   conv=>rhs;rw [h2]
   rw [Int.add_emod,h,Int.zero_add,mod_mod]
  rw [e,xI ha]
 ·
  intro h
  rw [←h]
  rw [DO_,Int.sub_self];exact Int.zero_emod p
theorem Ha_ {p:Int}{n:Nat}{b:Rows}{v:List Int} (hf:fdB p=true) (hb:Red p n b) (hv:okR p n v) (hn:n≤1048576) (hl:b.length≤1048576) :
  kY p b v=some (mE b v,sG p n b v):=by
 have hp:=dC hf
 have hm:iB=1099511627776:=rfl
 have hvl:=hv.1
 refine bnd (gK (by omega)) (bnd (a:=(rH p v b b.length,mE b v)) ?_ ?_)
 ·
  have:=iD (n:=b.length) (fun i=>(rH p v b i,(mE b v).take i)) (f:=fun (k11:Nat) (s85:List Int×List Int)=>
   (idxO b ((k11:Nat):Int)).bind fun a101=>
   (rQ a101).bind fun y105=>
   (idxO s85.1 y105).bind fun a114=>
   (tA s85.2 [a114]).bind fun a119=>
   (negO a114).bind fun a124=>
   (gH p s85.1 a124 a101).bind fun y126=>
   some (y126,a119)) (by
   intro i hi
   have hl1:=hb.lt i hi
   have hro:=lC hb.ok hi
   obtain ⟨h1,h2⟩:=AY_ hp.1 hb hv i (by omega)
   have h3:=h2 hi
   have hok:=jV (b:=b) hp.1 hv i
   have hel:=hok.2 _ (fF (r:=rH p v b i) (c:=leadN (gr b i)) (by rw [hok.1];exact hl1))
   refine bnd (kD hi) (bnd (lead_ _) (bnd (yD (by dsimp only;rw [hok.1];exact hl1)) ?_))
   dsimp only
   refine bnd (vB (by rw [List.length_take];simp;omega)) (bnd (gJ ⟨by omega,by omega⟩) (bnd (EJ_ hp hok.2 hro.2 (by rw [hok.1,hro.1]) hel) ?_))
   refine congrArg some (Prod.ext rfl ?_)
   show (mE b v).take i++[_]=(mE b v).take (i+1)
   have hc:i<(mE b v).length:=by simp [mE];exact hi
   rw [List.take_add_one,jI hc,DA_ hi,h3];rfl)
  refine this.trans ?_
  rw [List.take_of_length_le (by simp [mE])]
 ·
  refine bnd (isZero_ _) ?_
  refine congrArg some (Prod.ext rfl ?_)
  show decide _=decide _
  rw [decide_eq_decide]
  obtain ⟨h1,_⟩:=AY_ hp.1 hb hv b.length (Nat.le_refl _)
  have hok:=jV (b:=b) hp.1 hv b.length
  have hco:=sR (cs:=mE b v) hp.1 hb.ok
  have hcl:b.length≤(mE b v).length:=by simp [mE]
  have key:∀ j,j<n→(el (rH p v b b.length) j=0↔el (dD p n b (mE b v)) j=el v j):=fun j hj=>by
   rw [h1 j hj,I2_ hp.1 hb.ok hcl hj,GX_ (hv.2 _ (fF (by omega)))]
   rw [cD (g:=fun i=>el (mE b v) i*el (gr b i) j) (fun i hi=>by rw [DA_ hi])]
  constructor
  ·
   intro h
   refine tO (by rw [hco.1,hv.1]) fun j hj=>(key j (by rw [hco.1] at hj;exact hj)).1 ?_
   exact vM _ j (by rw [h,hok.1];rw [hco.1] at hj;exact hj)
  ·
   intro h
   exact HD_ fun j hj=>(key j (by rw [hok.1] at hj;exact hj)).2 (by rw [h])
theorem H3_ {p:Int}{n:Nat}{b:Rows}{v:List Int} (hb:Red p n b) (hv:v.length=n) (hn:n≤1048576) (hl:b.length≤1048576):uY b v=some (mE b v):=by
 have hm:iB=1099511627776:=rfl
 refine bnd (yE (fun r=>el v (leadN r)) b [] (by simp;omega) ?_) rfl
 intro j r s hj hs
 have hjl:j<b.length:=(List.getElem?_eq_some_iff.1 hj).1
 have e:gr b j=r:=Option.some.inj ((fE hjl).symm.trans hj)
 have h1:=hb.lt j hjl
 have h2:=lC hb.ok hjl
 rw [e] at h1 h2
 exact bnd (pA hj) (bnd (Bf_ (by omega)) (bnd (yD (by omega)) (bnd (vB (by simp at hs ⊢;omega)) rfl)))
theorem spHas_ {p:Int}{n:Nat}{b:Rows}{v:List Int} (hf:fdB p=true) (hb:Red p n b) (hv:okR p n v) (hn:n≤1048576) (hl:b.length≤1048576):nU p b v=some (sG p n b v):=by
 have hm:iB=1099511627776:=rfl
 have hvl:=hv.1
 refine bnd (H3_ hb hv.1 hn hl) ?_
 rw [hv.1]
 exact bnd (BJ_ (dC hf) (by omega) hb.ok (Iq_ hb hv) (by simp [mE])) (bnd (l1Same_ _ _) rfl)
abbrev Rel:=Int×Int×Rows
structure RlOk (p:Int) (l r:Nat) (R:Rel):Prop where
 hf:fdB p=true
 left:R.1=(l:Int)
 right:R.2.1=(r:Int)
 n24:l+r≤24
 red:Red p (l+r) R.2.2
 len:R.2.2.length≤l+r
end Go.Proofs.YtlggnmkelgplnaaGreatDoor
