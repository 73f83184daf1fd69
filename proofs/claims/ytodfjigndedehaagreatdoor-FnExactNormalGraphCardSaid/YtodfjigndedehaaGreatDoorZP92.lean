/-
  Plain laws of the partial functions: loops whose states are known, lists read and written. No program in sight. No condition.
-/
import Derived.Test.YtodfjigndedehaaGreatDoorZF
import Derived.Test.YtodfjigndedehaaGreatDoorZFn
namespace Go.Proofs.YtodfjigndedehaaGreatDoor
class Nice (α:Type) where
 ok:α→Prop
instance:Nice Int:=⟨inI⟩
instance:Nice Bool:=⟨fun _=>True⟩
instance {α:Type} [Nice α]:Nice (List α):=⟨fun l=>(l.length:Int)≤9223372036854775807∧∀ x∈l,Nice.ok x⟩
instance {α β:Type} [Nice α] [Nice β]:Nice (α×β):=⟨fun x=>Nice.ok x.1∧Nice.ok x.2⟩
theorem stp {α β:Type}{a:α}{k:α→Option β}{y:Option β} (h:k a=y):(some a).bind k=y:=h
theorem bnd {α β:Type}{m:Option α}{a:α}{k:α→Option β}{y:Option β} (h:m=some a) (h2:k a=y):m.bind k=y:=by rw [h];exact h2
theorem sqW {σ τ:Type}{m r:Option (σ⊕τ)}{k:σ→Option τ}{y:Option τ} (h:m=r) (h2:pC r k=y):pC m k=y:=by rw [h];exact h2
theorem bndW {α β:Type}{m r:Option α}{k:α→Option β}{y:Option β} (h:m=r) (h2:r.bind k=y):m.bind k=y:=by rw [h];exact h2
theorem cTW {α:Type}{c:Bool}{a b y:α} (h:c=true) (h2:a=y):cond c a b=y:=by rw [h];exact h2
theorem cFW {α:Type}{c:Bool}{a b y:α} (h:c=false) (h2:b=y):cond c a b=y:=by rw [h];exact h2
theorem dT {P:Prop} [Decidable P] (h:P):decide P=true:=decide_eq_true h
theorem dF {P:Prop} [Decidable P] (h:¬P):decide P=false:=decide_eq_false h
theorem nT {b:Bool} (h:b=true):(!b)=false:=by rw [h];rfl
theorem nF {b:Bool} (h:b=false):(!b)=true:=by rw [h];rfl
theorem nK {x:Int} (h:inI x):cI x=some x:=if_pos h
theorem gB {a b:Int} (h1:-9223372036854775808≤a+b) (h2:a+b≤9223372036854775807):nA a b=some (a+b):=nK ⟨h1,h2⟩
theorem yC {a b:Int} (h1:-9223372036854775808≤a-b) (h2:a-b≤9223372036854775807):subO a b=some (a-b):=nK ⟨h1,h2⟩
theorem nL {a b:Int} (h1:-9223372036854775808≤a*b) (h2:a*b≤9223372036854775807):sF a b=some (a*b):=nK ⟨h1,h2⟩
theorem aH {a b:Int} (h:b≠0):nD a b=some (a.tmod b):=if_neg h
theorem idxO_nat {α:Type} (xs:List α) (k:Nat):idxO xs (k:Int)=xs[k]?:=by
 unfold idxO;rw [if_pos (by omega)];rfl
theorem kA {α:Type}{xs:List α}{k:Nat}{a:α} (h:xs[k]?=some a):idxO xs (k:Int)=some a:=by rw [idxO_nat,h]
theorem lC {α:Type}{xs:List α}{k:Nat} (a:α) (h:k<xs.length):setO xs (k:Int) a=some (xs.set k a):=by
 unfold setO;rw [if_pos (by omega)];rfl
theorem jB {α:Type}{xs ys:List α} (h:xs.length+ys.length≤bB):oA xs ys=some (xs++ys):=if_pos h
theorem sG {α:Type}{n:Nat} (z:α) (h:n≤bB):bD (n:Int) z=some (List.replicate n z):=by
 unfold bD;rw [if_pos (by omega)];rfl
theorem C4_ {α:Type}{n:Nat} (z:α) (h:n≤bB):gK 0 (n:Int) z=some []:=by
 unfold gK;rw [if_pos (by omega)];rfl
theorem Fd_ {σ:Type}{f:Nat→σ→Option σ} (v:Nat→σ):∀ (n k:Nat),(∀ j,k≤j→j<k+n→f j (v j)=some (v (j+1)))→forS f n k (v k)=some (v (k+n))
 | 0,k,_=>rfl
 | n+1,k,h=>by
  show (f k (v k)).bind _=_
  rw [h k (Nat.le_refl _) (by omega)]
  show forS f n (k+1) (v (k+1))=_
  rw [Fd_ v n (k+1) (fun j h1 h2=>h j (by omega) (by omega))]
  rw [show k+1+n=k+(n+1) by omega]
theorem vC {σ:Type}{f:Nat→σ→Option σ}{n:Nat} (v:Nat→σ) (h:∀ j,j<n→f j (v j)=some (v (j+1))):forS f n 0 (v 0)=some (v n):=by
 have:=Fd_ v n 0 (fun j _ h2=>h j (by omega))
 simpa using this
theorem yH {α τ:Type}{f:Nat→Unit→Option (Unit⊕τ)}{t:τ} (P:α→Bool):∀ (l:List α) (k:Nat),(∀ j a,l[j]?=some a→f (k+j) ()=some (if P a then .inl () else .inr t))→zC f l.length k ()=some (if l.all P then .inl () else .inr t)
 | [],k,_=>rfl
 | a::l,k,h=>by
  show (f k ()).bind _=_
  have h0:f k ()=_:=h 0 a rfl
  rw [h0]
  cases hP:P a with
  | false=>simp [hP]
  | true=>
   have:=yH P l (k+1) (fun j b hb=>by
    have:=h (j+1) b (by simpa using hb)
    rw [show k+1+j=k+(j+1) by omega];exact this)
   simp only [hP,List.all_cons,Bool.true_and,if_true]
   exact this
theorem De_ {σ τ:Type}{f:σ→Option (σ⊕τ)} (v:Nat→σ){t:τ}:∀ (n k:Nat),(∀ j,k≤j→j<k+n→f (v j)=some (.inl (v (j+1))))→f (v (k+n))=some (.inr t)→qB f (v k)=some t
 | 0,k,_,he=>dE he
 | n+1,k,h,he=>by
  rw [lF (h k (Nat.le_refl _) (by omega))]
  refine De_ v n (k+1) (fun j h1 h2=>h j (by omega) (by omega)) ?_
  rw [show k+1+n=k+(n+1) by omega];exact he
theorem fL {σ τ:Type}{f:σ→Option (σ⊕τ)} (v:Nat→σ){t:τ} (n:Nat) (h:∀ j,j<n→f (v j)=some (.inl (v (j+1)))) (he:f (v n)=some (.inr t)):qB f (v 0)=some t:=
 De_ v n 0 (fun j _ h2=>h j (by omega)) (by simpa using he)
theorem uE {α β:Type}{f:Nat→List β→Option (List β)} (g:α→β) (l:List α) (s:List β) (hb:s.length+l.length≤bB) (h:∀ j a s',l[j]?=some a→s'.length=s.length+j→f j s'=some (s'++[g a])):forS f l.length 0 s=some (s++l.map g):=by
 have:=vC (f:=f) (n:=l.length) (fun j=>s++(l.take j).map g) (fun j hj=>by
  rw [h j l[j] _ (List.getElem?_eq_getElem hj) (by simp;omega)]
  simp only [List.append_assoc]
  rw [List.take_add_one,List.getElem?_eq_getElem hj]
  simp only [List.map_append,Option.toList_some,List.map_cons,List.map_nil])
 simpa using this
theorem DQ_ {α:Type} (xs:List α) (g:Nat→α→α) (j:Nat) (h:j<xs.length):((xs.take j).mapIdx g++xs.drop j).set j (g j xs[j])=(xs.take (j+1)).mapIdx g++xs.drop (j+1):=by
 rw [List.set_append_right _ _ (by simp;omega)]
 have:j-((xs.take j).mapIdx g).length=0:=by simp;omega
 rw [this,List.take_add_one,List.getElem?_eq_getElem h,List.drop_eq_getElem_cons h,List.mapIdx_append]
 simp only [Option.toList_some,List.mapIdx_cons,List.mapIdx_nil,List.length_take,Nat.min_eq_left (Nat.le_of_lt h),List.set_cons_zero,List.append_assoc,List.singleton_append,Nat.zero_add]
end Go.Proofs.YtodfjigndedehaaGreatDoor
namespace Go.Proofs.YtodfjigndedehaaGreatDoor
def tot {α:Type} (n:α→Nat) (l:List α):Nat:=(l.map n).sum
theorem tot_nil {α:Type} (n:α→Nat):tot n []=0:=rfl
theorem tot_cons {α:Type} (n:α→Nat) (a:α) (l:List α):tot n (a::l)=n a+tot n l:=by simp [tot]
theorem mH {α:Type} (pre rest:List α) (a:α):(pre++a::rest)[pre.length]?=some a:=by simp
theorem zV {α:Type} (pre rest:List α) (a b:α):(pre++a::rest).set pre.length b=pre++b::rest:=by simp
theorem fH {α:Type} (pre rest:List α) (a:α):pre++a::rest=(pre++[a])++rest:=by simp
theorem len1 {α:Type} (pre:List α) (a:α):(((pre++[a]).length:Nat):Int)=(pre.length:Int)+1:=by simp
def lG:Int:=4611686018427387904
theorem EM_ {α:Type} (n:α→Nat){f:Int×Int→Option ((Int×Int)⊕(Int⊕Int))} (L:List α) (B:Int)
  (hf:∀ (j:Nat) (a:α) (s:Int),L[j]?=some a→j<L.length→0≤s→s≤B→f (s,(j:Int))=some (if (n a:Int)≤s then .inl (s-n a,(j:Int)+1) else .inr (.inr (-1))))
  (he:∀ s:Int,f (s,(L.length:Int))=some (.inr (.inl s))):∀ (rest pre:List α) (s:Int),L=pre++rest→0≤s→s≤B→qB f (s,(pre.length:Int))=some (if (tot n rest:Int)≤s then .inl (s-tot n rest) else .inr (-1))
 | [],pre,s,hL,h0,_=>by
  have:=he s
  rw [hL,List.append_nil] at this
  rw [dE this,tot_nil,if_pos (by omega)];simp
 | a::rest,pre,s,hL,h0,hB=>by
  have h1:=hf pre.length a s (by rw [hL];exact mH _ _ _) (by rw [hL];simp) h0 hB
  by_cases h:(n a:Int)≤s
  ·
   rw [if_pos h] at h1
   have ih:=EM_ n L B hf he rest (pre++[a]) (s-n a) (by rw [hL,fH]) (by omega) (by omega)
   rw [len1] at ih
   rw [lF h1,ih,tot_cons]
   by_cases h2:(tot n rest:Int)≤s-n a
   · rw [if_pos h2,if_pos (by omega)];congr 2;omega
   · rw [if_neg h2,if_neg (by omega)]
  ·
   rw [if_neg h] at h1
   rw [dE h1,tot_cons,if_neg (by omega)]
theorem EJ_ {α:Type} (z:α){f:List α×Int→Option ((List α×Int)⊕List α)} (L:List α)
  (hf:∀ (j:Nat) (a:α) (s:List α),L[j]?=some a→j<L.length→s.length=L.length→f (s,(j:Int))=some (.inl (s.set j a,(j:Int)+1)))
  (he:∀ s:List α,s.length=L.length→f (s,(L.length:Int))=some (.inr s)):∀ (rest pre:List α),L=pre++rest→qB f (pre++List.replicate rest.length z,(pre.length:Int))=some L
 | [],pre,hL=>by
  rw [List.append_nil] at hL
  have:=he pre (by rw [hL])
  rw [hL] at this
  have h2:pre++List.replicate ([]:List α).length z=pre:=by simp
  rw [h2,hL,dE this]
 | a::rest,pre,hL=>by
  have h1:=hf pre.length a (pre++z::List.replicate rest.length z) (by rw [hL];exact mH _ _ _) (by rw [hL];simp) (by rw [hL];simp)
  have ih:=EJ_ z L hf he rest (pre++[a]) (by rw [hL,fH])
  rw [zV,fH pre _ a,← len1 pre a] at h1
  rw [List.length_cons,List.replicate_succ]
  rw [lF h1,ih]
theorem Fi_ {α:Type} [DecidableEq α] {f:Int→Option (Int⊕(Unit⊕Bool))} (L M:List α)
  (hf:∀ (j:Nat) (a b:α),L[j]?=some a→M[j]?=some b→j<L.length→f (j:Int)=some (if a=b then .inl ((j:Int)+1) else .inr (.inr false)))
  (he:f (L.length:Int)=some (.inr (.inl ()))):∀ (rest rest' pre pre':List α),L=pre++rest→M=pre'++rest'→pre.length=pre'.length→rest.length=rest'.length→qB f (pre.length:Int)=some (if rest=rest' then .inl () else .inr false)
 | [],[],pre,pre',hL,_,_,_=>by
  rw [hL,List.append_nil] at he
  rw [dE he];rfl
 | [],_::_,_,_,_,_,_,h=>by simp at h
 | _::_,[],_,_,_,_,_,h=>by simp at h
 | a::rest,b::rest',pre,pre',hL,hM,hp,hr=>by
  have h1:=hf pre.length a b (by rw [hL];exact mH _ _ _) (by rw [hM,hp];exact mH _ _ _) (by rw [hL];simp)
  by_cases h:a=b
  ·
   rw [if_pos h] at h1
   have ih:=Fi_ L M hf he rest rest' (pre++[a]) (pre'++[b]) (by rw [hL,fH]) (by rw [hM,fH]) (by simp [hp]) (by simpa using hr)
   rw [len1] at ih
   rw [lF h1,ih]
   by_cases h2:rest=rest'
   · rw [if_pos h2,if_pos (by rw [h,h2])]
   · rw [if_neg h2,if_neg (by intro h3;exact h2 (List.cons.inj h3).2)]
  ·
   rw [if_neg h] at h1
   rw [dE h1,if_neg (by intro h3;exact h (List.cons.inj h3).1)]
def mkL {α:Type} (mk:α→Int→α×Int):List α→Int→List α×Int
 | [],k=>([],k)
 | a::l,k=>((mk a k).1::(mkL mk l (mk a k).2).1,(mkL mk l (mk a k).2).2)
theorem Bm_ {α:Type} (mk:α→Int→α×Int):∀ (l:List α) (k:Int),(mkL mk l k).1.length=l.length
 | [],_=>rfl
 | a::l,k=>by show (mkL mk l _).1.length+1=l.length+1;rw [Bm_ mk l]
theorem eW {α:Type} (mk:α→Int→α×Int) (n:α→Nat) (hmk:∀ a k,(mk a k).2=k+n a):∀ (l:List α) (k:Int),(mkL mk l k).2=k+tot n l
 | [],k=>by simp [mkL,tot]
 | a::l,k=>by
  show (mkL mk l (mk a k).2).2=_
  rw [eW mk n hmk l,hmk,tot_cons];omega
theorem Dt_ {α:Type} (Pr:α→Prop) (mk:α→Int→α×Int) (n:α→Nat) (hmk:∀ a k,(mk a k).2=k+n a){f:List α×Int×Int→Option ((List α×Int×Int)⊕(List α×Int))} (N:Nat) (B:Int)
  (hf:∀ (j:Nat) (a:α) (s:List α) (q:Int),s[j]?=some a→Pr a→s.length=N→j<N→0≤q→q+n a≤B→f (s,q,(j:Int))=some (.inl (s.set j (mk a q).1,(mk a q).2,(j:Int)+1)))
  (he:∀ (s:List α) (q:Int),s.length=N→f (s,q,(N:Int))=some (.inr (s,q))):∀ (rest pre:List α) (q:Int),pre.length+rest.length=N→(∀ a∈rest,Pr a)→0≤q→q+tot n rest≤B→qB f (pre++rest,q,(pre.length:Int))=some (pre++(mkL mk rest q).1,(mkL mk rest q).2)
 | [],pre,q,hN,_,_,_=>by
  have h1:pre.length=N:=by simpa using hN
  have:=he pre q h1
  rw [←h1] at this
  rw [List.append_nil,dE this];simp [mkL]
 | a::rest,pre,q,hN,hP,h0,hB=>by
  rw [tot_cons] at hB
  have h1:=hf pre.length a (pre++a::rest) q (mH _ _ _) (hP a (List.mem_cons_self ..)) (by simpa using hN) (by simp at hN;omega) h0 (by omega)
  have ih:=Dt_ Pr mk n hmk N B hf he rest (pre++[(mk a q).1]) (mk a q).2 (by simp at hN ⊢;omega) (fun b hb=>hP b (List.mem_cons_of_mem _ hb)) (by rw [hmk];omega) (by rw [hmk];omega)
  rw [zV,fH pre rest (mk a q).1,← len1 pre (mk a q).1] at h1
  rw [lF h1,ih]
  simp [mkL]
theorem Dw_ {α:Type} (Pr:α→Prop) (mk:α→Int→α×Int) (n:α→Nat) (hmk:∀ a k,(mk a k).2=k+n a){f:Int×Int→Option ((Int×Int)⊕(Int⊕Int))} (L:List α) (B:Int)
  (hf:∀ (j:Nat) (a:α) (q:Int),L[j]?=some (mk a q).1→Pr a→j<L.length→0≤q→q+n a≤B→f (q,(j:Int))=some (.inl (q+n a,(j:Int)+1)))
  (he:∀ q:Int,f (q,(L.length:Int))=some (.inr (.inl q))):∀ (rest pre:List α) (q:Int),L=pre++(mkL mk rest q).1→(∀ a∈rest,Pr a)→0≤q→q+tot n rest≤B→qB f (q,(pre.length:Int))=some (.inl (q+tot n rest))
 | [],pre,q,hL,_,_,_=>by
  have:=he q
  rw [hL] at this
  have h2:pre++(mkL mk [] q).1=pre:=by simp [mkL]
  rw [h2] at this
  rw [dE this,tot_nil];simp
 | a::rest,pre,q,hL,hP,h0,hB=>by
  rw [tot_cons] at hB
  have hL':L=pre++(mk a q).1::(mkL mk rest (q+n a)).1:=by rw [hL];show _=_;rw [←hmk];rfl
  have h1:=hf pre.length a q (by rw [hL'];exact mH _ _ _) (hP a (List.mem_cons_self ..)) (by rw [hL'];simp) h0 (by omega)
  have ih:=Dw_ Pr mk n hmk L B hf he rest (pre++[(mk a q).1]) (q+n a) (by rw [hL',fH]) (fun b hb=>hP b (List.mem_cons_of_mem _ hb)) (by omega) (by omega)
  rw [len1] at ih
  rw [lF h1,ih,tot_cons];congr 2;omega
end Go.Proofs.YtodfjigndedehaaGreatDoor
namespace Go.Proofs.YtodfjigndedehaaGreatDoor
def one {α:Type} (_:α):Nat:=1
theorem uV {α:Type} (l:List α):tot one l=l.length:=by
 induction l with
 | nil=>rfl
 | cons a l ih=>rw [tot_cons,ih,List.length_cons];show 1+_=_;omega
theorem Ba_ {α:Type}{n:α→Nat}{l:List α}{a:α} (h:a∈l):n a≤tot n l:=by
 induction l with
 | nil=>cases h
 | cons b l ih=>
  rw [tot_cons]
  cases h with
  | head=>omega
  | tail _ h=>have:=ih h;omega
theorem xC {α:Type}{l:List α}{j:Nat}{a:α} (h:l[j]?=some a):a∈l:=List.mem_of_getElem? h
def fS {α:Type} (l:List α):Prop:=(l.length:Int)≤9223372036854775807
def fJ (r:List Int):Nat:=r.length
theorem eqIntS (a b:List Int) (hl:fS a):oM a b=some (decide (a=b)):=by
 unfold fS at hl
 refine stp ?_
 by_cases h:a.length=b.length
 ·
  refine cFW (nT (dT (by omega))) (sqW (Fi_ a b ?_ ?_ a b [] [] rfl rfl rfl h) ?_)
  ·
   intro j x y hx hy hj
   refine stp (cTW (dT (by omega)) (bnd (kA hx) (bnd (kA hy) (stp ?_))))
   by_cases h2:x=y
   · rw [if_pos h2];exact cFW (nT (dT h2)) (bnd (gB (by omega) (by omega)) rfl)
   · rw [if_neg h2];exact cTW (nF (dF h2)) rfl
  · exact stp (cFW (dF (by omega)) rfl)
  ·
   by_cases h2:a=b
   · rw [if_pos h2,show decide (a=b)=true from dT h2];rfl
   · rw [if_neg h2,show decide (a=b)=false from dF h2];rfl
 · rw [show decide (a=b)=false from dF (fun h2=>h (by rw [h2]))];exact cTW (nF (dF (by omega))) rfl
def mkI (_:Int) (k:Int):Int×Int:=(k,k+1)
def mkS:List Int→Int→List Int×Int:=mkL mkI
theorem Bn_ (a k:Int):(mkI a k).2=k+one a:=rfl
theorem mkS_snd (a:List Int) (k:Int):(mkS a k).2=k+fJ a:=by
 rw [show (mkS a k).2=k+tot one a from eW mkI one Bn_ a k,uV];rfl
theorem E1_ (a:List Int) (k:Int):(mkS a k).1.length=a.length:=Bm_ mkI a k
theorem JB_ (a:List Int) (k:Int) (h0:0≤k) (hb:k+fJ a≤lG):kM a k=some (mkS a k):=by
 unfold fJ at hb;unfold lG at hb
 refine bnd (Dt_ (fun _=>True) mkI one Bn_ a.length 4611686018427387904 ?_ ?_ a [] k (by simp) (fun _ _=>trivial) h0 (by rw [uV];omega)) rfl
 ·
  intro j x s q hj _ hs hjl hq hB
  dsimp only
  have h1:(one x:Int)=1:=rfl
  exact stp (cTW (dT (by omega)) (bnd (lC _ (by omega)) (bnd (gB (by omega) (by omega)) (bnd (gB (by omega) (by omega)) rfl))))
 · intro s q hs;dsimp only;exact stp (cFW (dF (by omega)) rfl)
theorem JF_ (a:List Int) (k:Int) (h0:0≤k) (hb:k+fJ a≤lG):nJ (mkS a k).1 k=some (k+fJ a):=by
 unfold fJ at hb ⊢;unfold lG at hb
 refine sqW (Dw_ (fun _=>True) mkI one Bn_ (mkS a k).1 4611686018427387904 ?_ ?_ a [] k rfl (fun _ _=>trivial) h0 (by rw [uV];omega)) ?_
 ·
  intro j x q hj _ hjl hq hB
  dsimp only
  have h1:(one x:Int)=1:=rfl
  rw [E1_] at hjl
  have h2:=E1_ a k
  exact stp (cTW (dT (by omega)) (bnd (kA hj) (stp (cFW (nT (dT rfl)) (bnd (gB (by omega) (by omega)) (bnd (gB (by omega) (by omega)) rfl))))))
 · intro q;dsimp only;exact stp (cFW (dF (by omega)) rfl)
 · rw [uV];rfl
end Go.Proofs.YtodfjigndedehaaGreatDoor
namespace Go.Proofs.YtodfjigndedehaaGreatDoor
end Go.Proofs.YtodfjigndedehaaGreatDoor
namespace Go.Proofs.YtodfjigndedehaaGreatDoor
def rng (n lo hi:Int):Bool:=decide (lo≤n)&&decide (n≤hi)
theorem rng_true {n lo hi:Int}:rng n lo hi=true↔lo≤n∧n≤hi:=by unfold rng;simp
theorem l1In (n lo hi:Int):wH n lo hi=some (rng n lo hi):=by
 unfold wH rng
 by_cases h:lo≤n
 · rw [dT h];rfl
 · rw [dF h];rfl
theorem within_ (n lo hi:Int):aF n lo hi=some (rng n lo hi):=by
 unfold aF rng
 by_cases h:lo≤n
 · rw [dT h];rfl
 · rw [dF h];rfl
def fdB (p:Int):Bool:=rng p 2 97&&[2,3,5,7].all fun q=>!(decide (p % q=0)&&!decide (p=q))
def FQ_ (p:Int) (s:Int):Option (Int⊕(Unit⊕Bool)):=
 (sF s s).bind fun a111=>
    (some (decide (a111≤p))).bind fun a113=>
    cond a113
    ((nD p s).bind fun a118=>
     (some (decide (a118=0))).bind fun a120=>
     cond a120
     (some (.inr (.inr false)))
     ((nA s 1).bind fun a123=>
      some (.inl a123)))
    (some (.inr (.inl ())))
def Ff_ (p:Nat):Bool:=decide (pC (uG (FQ_ p) 10 2) (fun (_:Unit)=>some true)=some (fdB p))||decide (p<2)
theorem fd_all:((List.range 98).all Ff_)=true:=by decide +kernel
theorem BO_ (p:Int):cQ p=some (fdB p):=by
 unfold cQ
 refine bnd (l1In p 2 97) (stp ?_)
 cases h:rng p 2 97 with
 | false=>refine cTW rfl ?_;unfold fdB;rw [h];rfl
 | true=>
  refine cFW rfl ?_
  have hr:=rng_true.1 h
  obtain ⟨k,rfl⟩:∃ k:Nat,p=(k:Int):=⟨p.toNat,by omega⟩
  have hk:=List.all_eq_true.1 fd_all k (List.mem_range.2 (by omega))
  unfold Ff_ at hk
  have h2:decide (k<2)=false:=dF (by omega)
  rw [h2,Bool.or_false] at hk
  have hk:=of_decide_eq_true hk
  rw [←hk]
  cases hi:uG (FQ_ k) 10 2 with
  | none=>rw [hi] at hk;cases hk
  | some t=>exact sqW (whileO_iff.2 ⟨10,hi⟩) rfl
theorem AZ_ (p:Int):mT p=some (fdB p):=by
 unfold mT fdB
 cases h:rng p 2 97 with
 | false=>
  refine bnd (a:=true) (stp ?_) (cTW rfl rfl)
  by_cases h1:p<2
  · exact cTW (dT h1) rfl
  ·
   refine cFW (dF h1) (stp ?_)
   rw [dT]
   apply Classical.byContradiction
   intro h3
   have:rng p 2 97=true:=rng_true.2 ⟨by omega,by omega⟩
   rw [h] at this;cases this
 | true=>
  have hr:=rng_true.1 h
  refine bnd (a:=false) (stp (cFW (dF (by omega)) (stp (by rw [dF (by omega)])))) (cFW rfl (bnd (nK (by decide)) ?_))
  refine sqW (yH (fun q:Int=>!(decide (p % q=0)&&!decide (p=q))) [2,3,5,7] 0 ?_ (t:=false)) ?_
  ·
   intro j q hj
   have hq:q∈[(2:Int),3,5,7]:=xC hj
   have hq1:q≠0∧0<q:=by simp at hq;omega
   rw [Nat.zero_add]
   refine bnd (kA hj) ?_
   refine bnd (a:=decide (p % q=0)&&!decide (p=q)) ?_ ?_
   ·
    refine bnd (aH hq1.1) (stp ?_)
    rw [Int.tmod_eq_emod_of_nonneg (by omega)]
    by_cases h1:p % q=0
    · rw [dT h1];rfl
    · rw [dF h1];rfl
   · cases (decide (p % q=0)&&!decide (p=q)) <;> rfl
  · cases ([2,3,5,7].all fun q:Int=>!(decide (p % q=0)&&!decide (p=q))) <;> rfl
theorem gC {p:Int} (h:fdB p=true):2≤p∧p≤97:=by
 unfold fdB at h
 exact rng_true.1 (by revert h;cases rng p 2 97 <;> simp)
def inP (p:Int) (l:List Int):Prop:=∀ x∈l,0≤x∧x<p
theorem l1All (l:List Int) (lo hi:Int):aL l lo hi=some (l.all fun x=>rng x lo hi):=by
 refine sqW (yH (fun x=>rng x lo hi) l 0 ?_ (t:=false)) ?_
 ·
  intro j x hj
  rw [Nat.zero_add]
  refine bnd (kA hj) (bnd (l1In x lo hi) (stp ?_))
  cases rng x lo hi <;> rfl
 · cases (l.all fun x=>rng x lo hi) <;> rfl
def yL (p:Int) (n:Nat) (m:List (List Int)):Prop:=∀ r∈m,r.length=n∧inP p r
end Go.Proofs.YtodfjigndedehaaGreatDoor
namespace Go.Proofs.YtodfjigndedehaaGreatDoor
theorem dV {α β:Type} (Pa:α→Prop) (Pb:β→Prop) (g:β→α→α){f:Nat→List α→Option (List α)} (W:List β)
  (hf:∀ (j:Nat) (b:β) (a:α) (s:List α),W[j]?=some b→s[j]?=some a→Pa a→Pb b→j<s.length→f j s=some (s.set j (g b a))) :
  ∀ (rest preW:List β) (pre rest':List α),W=preW++rest→pre.length=preW.length→rest'.length=rest.length→(∀ b∈rest,Pb b)→(∀ a∈rest',Pa a)→forS f rest.length preW.length (pre++rest')=some (pre++List.zipWith g rest rest')
 | [],preW,pre,[],_,_,_,_,_=>by simp [forS]
 | [],_,_,_::_,_,_,h,_,_=>by simp at h
 | _::_,_,_,[],_,_,h,_,_=>by simp at h
 | b::rest,preW,pre,a::rest',hW,hp,hr,hb,ha=>by
  have h1:=hf pre.length b a (pre++a::rest') (by rw [hW,hp];exact mH _ _ _) (mH _ _ _) (ha a (List.mem_cons_self ..)) (hb b (List.mem_cons_self ..)) (by simp)
  have ih:=dV Pa Pb g W hf rest (preW++[b]) (pre++[g b a]) rest' (by rw [hW,fH]) (by simp [hp]) (by simpa using hr) (fun x hx=>hb x (List.mem_cons_of_mem _ hx)) (fun x hx=>ha x (List.mem_cons_of_mem _ hx))
  rw [zV,fH pre rest' (g b a)] at h1
  rw [hp] at h1
  show (f preW.length (pre++a::rest')).bind _=_
  rw [h1]
  show forS f rest.length (preW.length+1) _=_
  rw [show preW.length+1=(preW++[b]).length by simp,ih]
  simp
def xE {α β σ:Type} (g:σ→α→β→σ):List α→List β→σ→σ
 | a::l,b::m,s=>xE g l m (g s a b)
 | _,_,s=>s
theorem AQ_ {α β σ:Type} (g:σ→α→β→σ) (I:σ→Prop){f:Nat→σ→Option σ} (A:List α) (B:List β)
  (hf:∀ (j:Nat) (a:α) (b:β) (s:σ),A[j]?=some a→B[j]?=some b→I s→f j s=some (g s a b)∧I (g s a b)) :
  ∀ (rest preA:List α) (rest' preB:List β) (s:σ),A=preA++rest→B=preB++rest'→preA.length=preB.length→rest.length≤rest'.length→I s→forS f rest.length preA.length s=some (xE g rest rest' s)∧I (xE g rest rest' s)
 | [],_,m,_,s,_,_,_,_,hI=>by
  have:xE g [] m s=s:=by cases m <;> rfl
  rw [this];exact ⟨rfl,hI⟩
 | _::_,_,[],_,_,_,_,_,h,_=>by simp at h
 | a::rest,preA,b::rest',preB,s,hA,hB,hp,hr,hI=>by
  obtain ⟨h1,h2⟩:=hf preA.length a b s (by rw [hA];exact mH _ _ _) (by rw [hB,hp];exact mH _ _ _) hI
  obtain ⟨h3,h4⟩:=AQ_ g I A B hf rest (preA++[a]) rest' (preB++[b]) (g s a b) (by rw [hA,fH]) (by rw [hB,fH]) (by simp [hp]) (by simpa using hr) h2
  refine ⟨?_,h4⟩
  show (f preA.length s).bind _=_
  rw [h1]
  show forS f rest.length (preA.length+1) _=_
  rw [show preA.length+1=(preA++[a]).length by simp,h3]
  rfl
theorem bN {p c y:Int} (hp:2≤p∧p≤97) (hc:0≤c∧c<p) (hy:0≤y∧y<p):0≤c*y∧c*y≤9409:=by
 refine ⟨Int.mul_nonneg hc.1 hy.1,?_⟩
 calc c*y≤97*97:=Int.mul_le_mul (by omega) (by omega) hy.1 (by omega)
  _=9409:=by decide
theorem qL {p x:Int} (hp:2≤p):0≤x % p∧x % p<p:=⟨Int.emod_nonneg _ (by omega),Int.emod_lt_of_pos _ (by omega)⟩
def kE (p c:Int) (acc row:List Int):List Int:=List.zipWith (fun y x=>(x+c*y) % p) row acc
theorem pW {p:Int} (hp:2≤p) (c:Int):∀ (row acc:List Int),inP p (kE p c acc row)
 | [],_=>by intro x hx;simp [kE] at hx
 | _::_,[]=>by intro x hx;simp [kE] at hx
 | y::row,x::acc=>by
  intro z hz
  have:z∈(x+c*y) % p::kE p c acc row:=hz
  cases this with
  | head=>exact qL hp
  | tail _ h=>exact pW hp c row acc z h
theorem A8_ {p c:Int}{acc row:List Int} (h:row.length=acc.length):(kE p c acc row).length=acc.length:=by simp [kE,h]
def jD (p:Int) (n:Nat) (rows:List (List Int)) (cs:List Int):List Int:=xE (fun acc row c=>kE p c acc row) rows cs (List.replicate n 0)
def okR (p:Int) (n:Nat) (l:List Int):Prop:=l.length=n∧inP p l
theorem AT_ {p:Int} (hp:2≤p) (n:Nat):okR p n (List.replicate n 0):=⟨by simp,by intro x hx;have:=List.eq_of_mem_replicate hx;omega⟩
theorem mod_ {p a:Int} (hp:2≤p) (ha:0≤a):dO p a=some (a % p):=by
 refine bnd (aH (by omega)) (stp ?_)
 rw [Int.tmod_eq_emod_of_nonneg ha]
 exact cFW (dF (by have:=qL (x:=a) hp;omega)) rfl
theorem Jq_ {p c:Int}{n:Nat}{acc row:List Int} (hp:2≤p∧p≤97) (hc:0≤c∧c<p) (ha:okR p n acc) (hr:okR p n row):mI p acc c row=some (kE p c acc row):=by
 refine bnd (dV (fun x=>0≤x∧x<p) (fun x=>0≤x∧x<p) (fun y x=>(x+c*y) % p) row ?_ row [] [] acc rfl rfl (by rw [ha.1,hr.1]) hr.2 ha.2) rfl
 intro j y x s hy hx hxp hyp hj
 have:=bN hp hc hyp
 refine bnd (kA hy) (bnd (kA hx) (bnd (nL (by omega) (by omega)) (bnd (gB (by omega) (by omega)) (bnd (mod_ (by omega) (by omega)) ?_))))
 exact bnd (lC _ hj) rfl
theorem uI {n:Nat} (h:n≤bB):xG (n:Int)=some (List.replicate n 0):=bnd (sG _ h) rfl
theorem Ev_ {p:Int}{n:Nat}{rows:List (List Int)}{cs:List Int} (hp:2≤p∧p≤97) (hn:n≤bB) (hr:yL p n rows) (hc:inP p cs) (hl:rows.length≤cs.length):uN p cs rows (n:Int)=some (jD p n rows cs)∧okR p n (jD p n rows cs):=by
 have:=AQ_ (fun acc row c=>kE p c acc row) (okR p n) (f:=fun (k8:Nat) (s55:List Int)=>
   (idxO rows ((k8:Nat):Int)).bind fun a70=>
   (idxO cs ((k8:Nat):Int)).bind fun a80=>
   (mI p s55 a80 a70).bind fun y82=>
   some y82) rows cs (by
  intro j row c s hrow hc' hs
  have h1:=hr row (xC hrow)
  refine ⟨bnd (kA hrow) (bnd (kA hc') (bnd (Jq_ hp (hc c (xC hc')) hs h1) rfl)),?_,pW hp.1 c row s⟩
  rw [A8_ (by rw [h1.1,hs.1]),hs.1]) rows [] cs [] _ rfl rfl rfl hl (AT_ hp.1 n)
 exact ⟨bnd (uI hn) (bnd this.1 rfl),this.2⟩
theorem FG_ {p:Int}{n:Nat}{rows:List (List Int)}{cs:List Int} (hp:2≤p∧p≤97) (hn:n≤bB) (hr:yL p n rows) (hc:inP p cs) (hl:rows.length≤cs.length):zN p (n:Int) rows cs=some (jD p n rows cs):=by
 refine bnd (sG _ hn) (bnd (AQ_ (fun acc row c=>kE p c acc row) (okR p n) rows cs ?_ rows [] cs [] _ rfl rfl rfl hl (AT_ hp.1 n)).1 rfl)
 intro j row c s hrow hc' hs
 have h1:=hr row (xC hrow)
 have hcp:=hc c (xC hc')
 refine ⟨bnd (kA hrow) (bnd (dV (fun x=>0≤x∧x<p) (fun x=>0≤x∧x<p) (fun y x=>(x+c*y) % p) row ?_ row [] [] s rfl rfl (by rw [h1.1,hs.1]) h1.2 hs.2) rfl),?_,pW hp.1 c row s⟩
 ·
  intro i y x t hy hx hxp hyp hi
  have:=bN hp hcp hyp
  refine bnd (kA hy) (bnd (kA hx) (bnd (kA hc') (bnd (nL (by omega) (by omega)) (bnd (gB (by omega) (by omega)) (bnd (aH (by omega)) ?_)))))
  rw [Int.tmod_eq_emod_of_nonneg (by omega)]
  exact bnd (lC _ hi) rfl
 · rw [A8_ (by rw [h1.1,hs.1]),hs.1]
theorem own_ {l:List Int} (h:l.length≤bB):zK l=some l:=bnd (jB (by simpa using h)) rfl
theorem clone_ {l:List Int} (h:l.length≤bB):Ao_ l=some l:=bnd (jB (by simpa using h)) rfl
theorem Fw_ {m:List (List Int)} (hl:m.length≤bB) (h:∀ r∈m,r.length≤bB):bU m=some m:=by
 refine bnd (C4_ _ hl) (bnd (a:=m) ?_ rfl)
 refine (uE (fun r=>r) m [] (by simpa using hl) ?_).trans (by simp)
 intro j x s hx hs
 have hj:j<m.length:=(List.getElem?_eq_some_iff.1 hx).1
 exact bnd (kA hx) (bnd (clone_ (h x (xC hx))) (bnd (jB (by simp at hs ⊢;omega)) rfl))
end Go.Proofs.YtodfjigndedehaaGreatDoor
namespace Go.Proofs.YtodfjigndedehaaGreatDoor
end Go.Proofs.YtodfjigndedehaaGreatDoor
namespace Go.Proofs.YtodfjigndedehaaGreatDoor
abbrev Edg:=Int×Int×List Int×List Int
abbrev Gra:=Int×List Edg×List Int×List Int
def sA {α:Type} (n:Nat) (f:Nat→α):List α:=(List.range n).map f
theorem tE {α:Type} (n:Nat) (f:Nat→α):(sA n f).length=n:=by simp [sA]
theorem bV {α:Type}{n k:Nat} (f:Nat→α) (h:k<n):(sA n f)[k]?=some (f k):=by
 unfold sA;rw [List.getElem?_map,List.getElem?_range h];rfl
theorem bF {α:Type}{n k:Nat} (f:Nat→α) (h:k<n):idxO (sA n f) (k:Int)=some (f k):=kA (bV f h)
theorem yD {α:Type}{n:Nat}{f g:Nat→α} (h:∀ k,k<n→f k=g k):sA n f=sA n g:=by
 unfold sA;exact List.map_congr_left fun k hk=>h k (List.mem_range.1 hk)
theorem Jt_ {α:Type}{n m:Nat} (f:Nat→α) (v:α):(sA n f).set m v=sA n (fun k=>if k=m then v else f k):=by
 apply List.ext_getElem?
 intro j
 rw [List.getElem?_set]
 by_cases hj:j<n
 ·
  rw [bV _ hj,bV _ hj]
  by_cases hm:m=j
  · rw [if_pos hm,if_pos hm.symm,if_pos (by rw [tE];omega)]
  · rw [if_neg hm,if_neg (fun h=>hm h.symm)]
 ·
  rw [List.getElem?_eq_none (by rw [tE];omega),List.getElem?_eq_none (by rw [tE];omega)]
  split <;> simp [tE] <;> omega
theorem kH {α:Type}{n m:Nat} (f:Nat→α) (v:α) (h:m<n):setO (sA n f) (m:Int) v=some (sA n (fun k=>if k=m then v else f k)):=by
 rw [lC _ (by rw [tE];exact h),Jt_]
theorem aV {α:Type} (n:Nat) (z:α):List.replicate n z=sA n (fun _=>z):=by
 apply List.ext_getElem?
 intro j
 by_cases hj:j<n
 · rw [bV _ hj,List.getElem?_replicate,if_pos hj]
 · rw [List.getElem?_replicate,if_neg hj,List.getElem?_eq_none (by rw [tE];omega)]
theorem rM {α:Type}{n:Nat} (z:α) (h:n≤bB):bD (n:Int) z=some (sA n fun _=>z):=by rw [sG z h,aV]
def fF (k v:Int):Bool:=rng k 3 14&&(if k=7∨k=13 then rng v 0 96 else decide (v=0))
def kd (k:Int):Int×Int:=if k=2 then (2,2) else if k=3∨k=11 then (1,2) else if k=4∨k=12 then (1,0) else if k=5∨k=9 then (2,1) else if k=6∨k=10 then (0,1) else (1,1)
def arB (e:Edg):Bool:=fF e.1 e.2.1&&(decide ((e.2.2.1.length:Int)=(kd e.1).1)&&decide ((e.2.2.2.length:Int)=(kd e.1).2))
def wOk (n:Int) (l:List Int):Bool:=l.all fun x=>rng x 0 (n-1)
theorem tmKind_ (k:Int):vN k=some (kd k):=by
 unfold vN kd
 by_cases h2:k=2
 · simp [h2]
 by_cases h3:k=3∨k=11
 · rcases h3 with h3 | h3 <;> simp [h3]
 by_cases h4:k=4∨k=12
 · rcases h4 with h3 | h3 <;> simp [h3]
 by_cases h5:k=5∨k=9
 · rcases h5 with h3 | h3 <;> simp [h3]
 by_cases h6:k=6∨k=10
 · rcases h6 with h3 | h3 <;> simp [h3]
 rw [if_neg h2,if_neg h3,if_neg h4,if_neg h5,if_neg h6]
 simp only [not_or] at *
 simp [*]
theorem mQ {k v:Int} (hk:rng k 3 14=true):jH (k,v,.empty)=some (fF k v):=by
 have hr:=rng_true.1 hk
 unfold jH fF
 have h1:rng k 1 14=true:=rng_true.2 (by omega)
 by_cases h7:k=7
 · subst h7;simp [l1In,h1,hk]
 by_cases h13:k=13
 · subst h13;simp [l1In,h1,hk]
 have h0:¬k=1:=by omega
 simp [l1In,h1,hk,h7,h13,h0]
theorem hgEdge_ (e:Edg){n:Int} (h0:0≤n) (h1:n≤100):yT e n=some (arB e&&(wOk n e.2.2.1&&wOk n e.2.2.2)):=by
 obtain ⟨k,v,a,b⟩:=e
 unfold yT arB
 have hs:subO n 1=some (n-1):=yC (by omega) (by omega)
 cases hk:rng k 3 14 with
 | false=>
  have:fF k v=false:=by unfold fF;rw [hk];rfl
  simp [l1In,hk,this]
 | true=>
  cases hg:fF k v with
  | false=>simp [l1In,hk,mQ hk,hg]
  | true=>
   by_cases ha:(a.length:Int)=(kd k).1
   ·
    by_cases hb:(b.length:Int)=(kd k).2
    ·
     cases hw:wOk n a with
     | false=>unfold wOk at hw;simp [l1In,hk,mQ hk,hg,tmKind_,ha,hb,hs,l1All,hw]
     | true=>unfold wOk at hw;simp [l1In,hk,mQ hk,hg,tmKind_,ha,hb,hs,l1All,hw,wOk]
    · simp [l1In,hk,mQ hk,hg,tmKind_,ha,hb]
   · simp [l1In,hk,mQ hk,hg,tmKind_,ha]
theorem vY {k v:Int} (hk:rng k 3 14=true):mP k v=some (fF k v):=by
 unfold mP tN fF
 by_cases h7:k=7
 · subst h7;simp [within_,hk]
 by_cases h13:k=13
 · subst h13;simp [within_,hk]
 simp [hk,h7,h13]
theorem iT {k:Int} (hk:rng k 3 14=true):iN k=some (kd k):=by
 have hr:=rng_true.1 hk
 have:k=3∨k=4∨k=5∨k=6∨k=7∨k=8∨k=9∨k=10∨k=11∨k=12∨k=13∨k=14:=by omega
 rcases this with rfl | rfl | rfl | rfl | rfl | rfl | rfl | rfl | rfl | rfl | rfl | rfl <;> rfl
theorem isEdge_ (e:Edg):xS e=some (arB e):=by
 obtain ⟨k,v,a,b⟩:=e
 unfold xS arB pN
 cases hk:rng k 3 14 with
 | false=>
  have:fF k v=false:=by unfold fF;rw [hk];rfl
  simp [within_,hk,this]
 | true=>
  cases hg:fF k v with
  | false=>simp [within_,hk,vY hk,hg]
  | true=>
   simp only [within_,hk,vY hk,hg,iT hk,Option.bind_some,Bool.not_true,cond_false,Bool.true_and]
   congr 1
   rw [←Bool.decide_and]
   refine decide_eq_decide.2 ?_
   simp only [List.cons.injEq,and_true]
   exact ⟨fun ⟨x,y⟩=>⟨x.symm,y.symm⟩,fun ⟨x,y⟩=>⟨x.symm,y.symm⟩⟩
def edI (e:Edg):List Int:=e.2.2.1
def edO (e:Edg):List Int:=e.2.2.2
theorem tV {n:Nat} (l:List Int) (f:Nat→Int) (hl:∀ x∈l,0≤x∧x<(n:Int)) (B:Int) (hf:∀ k,k<n→0≤f k∧f k+l.length≤B) (hB:B≤4611686018427387904){g:Nat→List Int→Option (List Int)}
  (hg:∀ k s,g k s=((idxO l (k:Int)).bind fun a=>(idxO s a).bind fun b=>(nA b 1).bind fun c=>(setO s a c).bind fun t=>some t)) :
  forS g l.length 0 (sA n f)=some (sA n fun k=>f k+(l.count (k:Int):Nat)):=by
 have:=vC (f:=g) (n:=l.length) (fun j=>sA n fun k=>f k+((l.take j).count (k:Int):Nat)) (fun j hj=>by
  rw [hg]
  have hm:=hl l[j] (List.getElem_mem hj)
  obtain ⟨m,hme⟩:∃ m:Nat,l[j]=(m:Int):=⟨l[j].toNat,by omega⟩
  have hmn:m<n:=by omega
  refine bnd (kA (List.getElem?_eq_getElem hj)) ?_
  rw [hme]
  have hb:=hf m hmn
  have hc:((l.take j).count (m:Int))≤j:=Nat.le_trans List.count_le_length (by simp;omega)
  refine bnd (bF _ hmn) (bnd (gB (by omega) (by omega)) (bnd (kH _ _ hmn) (congrArg some (yD fun k hk=>?_))))
  rw [List.take_add_one,List.getElem?_eq_getElem hj,List.count_append,hme]
  by_cases h:k=m
  · subst h;simp;omega
  ·
   rw [if_neg h]
   have:¬(m:Int)=(k:Int):=by omega
   simp [this])
 have e0:(fun k=>f k+(((l.take 0).count ((k:Nat):Int):Nat):Int))=f:=by funext k;simp
 rw [List.take_length] at this
 rw [←this]
 congr 2
 exact e0.symm
def uF (E:List Edg) (s:Edg→List Int) (k:Nat):Nat:=((E.map s).flatten).count (k:Int)
def cD (E:List Edg) (s:Edg→List Int):Nat:=((E.map s).flatten).length
theorem pO {n:Nat}{l:List Int} (h:wOk n l=true):∀ x∈l,0≤x∧x<(n:Int):=by
 intro x hx
 have:=rng_true.1 (List.all_eq_true.1 h x hx)
 omega
def bE (g:Gra):List Int:=g.2.2.1++g.2.2.2++(g.2.1.map fun e=>edI e++edO e).flatten
def edW (n:Int) (e:Edg):Bool:=arB e&&(wOk n (edI e)&&wOk n (edO e))
def gOk (g:Gra):Bool:=rng g.1 0 100&&(decide (g.2.1.length≤60)&&(decide (g.2.2.1.length≤12)&&(decide (g.2.2.2.length≤12)&&(wOk g.1 g.2.2.1&&(wOk g.1 g.2.2.2&&(g.2.1.all (edW g.1)&&(List.range g.1.toNat).all fun k:Nat=>decide ((k:Int)∈bE g)))))))
theorem kd_le (k:Int):0≤(kd k).1∧(kd k).1≤2∧0≤(kd k).2∧(kd k).2≤2:=by
 unfold kd
 split <;> first | (refine ⟨?_,?_,?_,?_⟩ <;> decide) | skip
 split <;> first | (refine ⟨?_,?_,?_,?_⟩ <;> decide) | skip
 split <;> first | (refine ⟨?_,?_,?_,?_⟩ <;> decide) | skip
 split <;> first | (refine ⟨?_,?_,?_,?_⟩ <;> decide) | skip
 split <;> (refine ⟨?_,?_,?_,?_⟩ <;> decide)
theorem Fz_ {e:Edg} (h:arB e=true):(edI e).length≤2∧(edO e).length≤2:=by
 unfold arB at h
 simp only [Bool.and_eq_true,decide_eq_true_eq] at h
 have:=kd_le e.1
 unfold edI edO
 omega
theorem Jc_ {n:Nat}{E:List Edg}{I O:List Int} (hn:n≤1048576) (hI:∀ x∈I,0≤x∧x<(n:Int)) (hO:∀ x∈O,0≤x∧x<(n:Int)) (hE:∀ e∈E,(∀ x∈edI e,0≤x∧x<(n:Int))∧(∀ x∈edO e,0≤x∧x<(n:Int)))
  (hB:I.length+O.length+cD E edI+cD E edO≤1099511627776) :
  kZ ((n:Int),E,I,O)=some (sA n (fun k=>((I.count (k:Int)+uF E edO k:Nat):Int)),sA n (fun k=>((O.count (k:Int)+uF E edI k:Nat):Int))):=by
 have hm:bB=1099511627776:=rfl
 refine bnd (rM _ (by omega)) (bnd (rM _ (by omega)) ?_)
 have hc:∀ (l:List Int) (k:Nat),l.count (k:Int)≤l.length:=fun l k=>List.count_le_length
 refine bnd (tV I (fun _=>0) hI 1099511627776 (fun k _=>by omega) (by omega) (fun _ _=>rfl)) ?_
 refine bnd (tV O (fun _=>0) hO 1099511627776 (fun k _=>by omega) (by omega) (fun _ _=>rfl)) ?_
 have key:=vC (n:=E.length) (fun j=>(sA n (fun k=>((I.count (k:Int)+uF (E.take j) edO k:Nat):Int)),sA n (fun k=>((O.count (k:Int)+uF (E.take j) edI k:Nat):Int)))) (f:=fun (k215:Nat) (s652:List Int×List Int)=>
   (idxO E ((k215:Nat):Int)).bind fun a667=>
   (forS (fun (k679:Nat) (s738:List Int)=>
     (idxO a667.2.2.2 ((k679:Nat):Int)).bind fun a753=>
     (idxO s738 a753).bind fun a761=>
     (nA a761 1).bind fun a763=>
     (setO s738 a753 a763).bind fun a771=>
     some a771) a667.2.2.2.length 0 s652.1).bind fun (s776:List Int)=>
   (forS (fun (k778:Nat) (s837:List Int)=>
     (idxO a667.2.2.1 ((k778:Nat):Int)).bind fun a852=>
     (idxO s837 a852).bind fun a860=>
     (nA a860 1).bind fun a862=>
     (setO s837 a852 a862).bind fun a870=>
     some a870) a667.2.2.1.length 0 s652.2).bind fun (s875:List Int)=>
   some (s776,s875)) (fun j hj=>by
  have he:=hE _ (List.getElem_mem hj)
  have hsum:∀ s:Edg→List Int,cD (E.take (j+1)) s=cD (E.take j) s+(s E[j]).length:=fun s=>by
   unfold cD;rw [List.take_add_one,List.getElem?_eq_getElem hj,List.map_append,List.flatten_append,List.length_append];simp only [Option.toList_some,List.map_cons,List.map_nil,List.flatten_cons,List.flatten_nil,List.append_nil]
  have hle:∀ s:Edg→List Int,cD (E.take (j+1)) s≤cD E s:=fun s=>by
   unfold cD
   have:E=E.take (j+1)++E.drop (j+1):=(List.take_append_drop _ _).symm
   conv=>rhs;rw [this]
   rw [List.map_append,List.flatten_append,List.length_append];omega
  have hct:∀ (s:Edg→List Int) (k:Nat),uF (E.take j) s k≤cD (E.take j) s:=fun s k=>List.count_le_length
  have hcs:∀ (s:Edg→List Int) (k:Nat),uF (E.take (j+1)) s k=uF (E.take j) s k+(s E[j]).count (k:Int):=fun s k=>by
   unfold uF;rw [List.take_add_one,List.getElem?_eq_getElem hj,List.map_append,List.flatten_append,List.count_append];simp only [Option.toList_some,List.map_cons,List.map_nil,List.flatten_cons,List.flatten_nil,List.append_nil]
  have h1:=hsum edI;have h2:=hsum edO;have h3:=hle edI;have h4:=hle edO
  refine bnd (kA (List.getElem?_eq_getElem hj)) ?_
  refine bnd (tV (edO E[j]) _ he.2 1099511627776 (fun k _=>by have:=hct edO k;have:=hc I k;omega) (by omega) (fun _ _=>rfl)) ?_
  refine bnd (tV (edI E[j]) _ he.1 1099511627776 (fun k _=>by have:=hct edI k;have:=hc O k;omega) (by omega) (fun _ _=>rfl)) ?_
  refine congrArg some (Prod.ext (yD fun k hk=>?_) (yD fun k hk=>?_))
  · rw [hcs];push_cast;omega
  · rw [hcs];push_cast;omega)
 have e1:∀ (l:List Int) (s:Edg→List Int),sA n (fun k=>(0:Int)+(l.count (k:Int):Nat))=sA n (fun k=>((l.count (k:Int)+uF (E.take 0) s k:Nat):Int)):=fun l s=>yD fun k hk=>by
  unfold uF;simp
 rw [e1 I edO,e1 O edI]
 refine bnd key ?_
 rw [List.take_length]
theorem all_app (n:Int) (a b:List Int):wOk n (a++b)=(wOk n a&&wOk n b):=by unfold wOk;rw [List.all_append]
theorem mW {n:Int}{E:List Edg} (h:E.all (edW n)=true):E.all arB=true:=by
 rw [List.all_eq_true] at h ⊢
 intro e he
 have:=h e he
 unfold edW at this
 simp only [Bool.and_eq_true] at this
 exact this.1
theorem EI_ {E:List Edg} (h:E.all arB=true):cD E edI≤2*E.length∧cD E edO≤2*E.length:=by
 induction E with
 | nil=>exact ⟨Nat.le_refl _,Nat.le_refl _⟩
 | cons e E ih=>
  simp only [List.all_cons,Bool.and_eq_true] at h
  have h1:=Fz_ h.1
  have h2:=ih h.2
  unfold cD at h2 ⊢
  simp only [List.map_cons,List.flatten_cons,List.length_append,List.length_cons]
  omega
theorem E2_ {E:List Edg}{s:Edg→List Int}{k:Nat}:uF E s k=0↔¬∃ e∈E,(k:Int)∈s e:=by
 unfold uF
 rw [List.count_eq_zero,List.mem_flatten]
 constructor
 · rintro h ⟨e,he,hk⟩;exact h ⟨s e,List.mem_map.2 ⟨e,he,rfl⟩,hk⟩
 ·
  rintro h ⟨l,hl,hk⟩
  obtain ⟨e,he,rfl⟩:=List.mem_map.1 hl
  exact h ⟨e,he,hk⟩
theorem mem_allW {g:Gra}{k:Int}:k∈bE g↔k∈g.2.2.1∨k∈g.2.2.2∨∃ e∈g.2.1,k∈edI e∨k∈edO e:=by
 unfold bE
 rw [List.mem_append,List.mem_append,List.mem_flatten]
 constructor
 ·
  rintro ((h | h) | ⟨l,hl,h⟩)
  · exact .inl h
  · exact .inr (.inl h)
  ·
   obtain ⟨e,he,rfl⟩:=List.mem_map.1 hl
   exact .inr (.inr ⟨e,he,List.mem_append.1 h⟩)
 ·
  rintro (h | h | ⟨e,he,h⟩)
  · exact .inl (.inl h)
  · exact .inl (.inr h)
  · exact .inr ⟨_,List.mem_map.2 ⟨e,he,rfl⟩,List.mem_append.2 h⟩
theorem Fp_ {n:Nat}{E:List Edg} (h:E.all (edW n)=true):∀ e∈E,(∀ x∈edI e,0≤x∧x<(n:Int))∧(∀ x∈edO e,0≤x∧x<(n:Int)):=by
 intro e he
 have:=List.all_eq_true.1 h e he
 unfold edW at this
 simp only [Bool.and_eq_true] at this
 exact ⟨pO this.2.1,pO this.2.2⟩
theorem A0_ (g:Gra):yP g=some (gOk g):=by
 obtain ⟨n,E,I,O⟩:=g
 unfold yP gOk
 cases hr:rng n 0 100 with
 | false=>simp [l1In,hr]
 | true=>
  have hn:=rng_true.1 hr
  have hs:subO n 1=some (n-1):=yC (by omega) (by omega)
  by_cases hE:E.length≤60
  case neg=>
   have:(60:Int)<(E.length:Int):=by omega
   simp [l1In,hr,hE,this]
  have hE':¬(60:Int)<(E.length:Int):=by omega
  by_cases hI:I.length≤12
  case neg=>
   have:(12:Int)<(I.length:Int):=by omega
   simp [l1In,hr,hE,hE',hI,this]
  have hI':¬(12:Int)<(I.length:Int):=by omega
  by_cases hO:O.length≤12
  case neg=>
   have:(12:Int)<(O.length:Int):=by omega
   simp [l1In,hr,hE,hE',hI,hI',hO,this]
  have hO':¬(12:Int)<(O.length:Int):=by omega
  cases hwI:wOk n I with
  | false=>unfold wOk at hwI;simp [l1In,hr,hE,hE',hI,hI',hO,hO',hs,l1All,hwI]
  | true=>
  cases hwO:wOk n O with
  | false=>unfold wOk at hwI hwO;simp [l1In,hr,hE,hE',hI,hI',hO,hO',hs,l1All,hwO]
  | true=>
  have hl1:aL I 0 (n-1)=some true:=by rw [l1All];exact congrArg some hwI
  have hl2:aL O 0 (n-1)=some true:=by rw [l1All];exact congrArg some hwO
  simp only [l1In,hr,dF hE',dF hI',dF hO',dT hE,dT hI,dT hO,hs,hl1,hl2,Option.bind_some,Bool.not_true,cond_false,Bool.true_and]
  refine sqW (yH (edW n) E 0 ?_ (t:=false)) ?_
  ·
   intro j e hj
   rw [Nat.zero_add]
   refine bnd (kA hj) (bnd (hgEdge_ e hn.1 hn.2) (stp ?_))
   have:(arB e&&(wOk n e.2.2.1&&wOk n e.2.2.2))=edW n e:=rfl
   rw [this]
   cases edW n e <;> rfl
  ·
   cases hall:E.all (edW n) with
   | false=>rfl
   | true=>
    rw [if_pos rfl,vI]
    obtain ⟨m,rfl⟩:∃ m:Nat,n=(m:Int):=⟨n.toNat,by omega⟩
    have h2:=EI_ (mW hall)
    refine bnd (Jc_ (by omega) (pO hwI) (pO hwO) (Fp_ hall) (by omega)) ?_
    dsimp only
    have hlen:∀ f:Nat→Int,(sA m f).length=(List.range m).length:=fun f=>by rw [tE,List.length_range]
    rw [hlen]
    refine sqW (yH (fun k:Nat=>decide ((k:Int)∈bE ((m:Int),E,I,O))) (List.range m) 0 ?_ (t:=false)) ?_
    ·
     intro j k hj
     obtain ⟨hjm,hje⟩:=List.getElem?_eq_some_iff.1 hj
     rw [List.getElem_range] at hje
     subst hje
     rw [List.length_range] at hjm
     rw [Nat.zero_add]
     have c1:I.count (j:Int)≤I.length:=List.count_le_length
     have c2:O.count (j:Int)≤O.length:=List.count_le_length
     have c3:uF E edI j≤cD E edI:=List.count_le_length
     have c4:uF E edO j≤cD E edO:=List.count_le_length
     refine bnd (bF _ hjm) (bnd (bF _ hjm) (bnd (gB (by omega) (by omega)) (stp ?_)))
     have hiff:(j:Int)∈bE ((m:Int),E,I,O)↔¬(((I.count (j:Int)+uF E edO j:Nat):Int)+((O.count (j:Int)+uF E edI j:Nat):Int)=0):=by
      rw [mem_allW]
      dsimp only
      have z1:I.count (j:Int)=0↔¬(j:Int)∈I:=List.count_eq_zero
      have z2:O.count (j:Int)=0↔¬(j:Int)∈O:=List.count_eq_zero
      have z3:=E2_ (E:=E) (s:=edI) (k:=j)
      have z4:=E2_ (E:=E) (s:=edO) (k:=j)
      constructor
      ·
       intro h h0
       have y1:=z1.1 (by omega);have y2:=z2.1 (by omega);have y3:=z3.1 (by omega);have y4:=z4.1 (by omega)
       rcases h with h | h | ⟨e,he,h | h⟩
       · exact y1 h
       · exact y2 h
       · exact y3 ⟨e,he,h⟩
       · exact y4 ⟨e,he,h⟩
      ·
       intro h
       refine Decidable.byContradiction fun hc=>h ?_
       simp only [not_or] at hc
       have y1:=z1.2 hc.1;have y2:=z2.2 hc.2.1
       have y3:=z3.2 (fun ⟨e,he,hk⟩=>hc.2.2 ⟨e,he,.inl hk⟩)
       have y4:=z4.2 (fun ⟨e,he,hk⟩=>hc.2.2 ⟨e,he,.inr hk⟩)
       omega
     by_cases hk:(j:Int)∈bE ((m:Int),E,I,O)
     · rw [dT hk,dF (hiff.1 hk)];rfl
     · rw [dF hk,dT (Decidable.byContradiction fun hc=>hk (hiff.2 hc))];rfl
    ·
     rw [Int.toNat_natCast]
     cases (List.range m).all fun k:Nat=>decide ((k:Int)∈bE ((m:Int),E,I,O)) <;> rfl
def zI (n:Nat) (d:List Int):List Bool:=sA n fun k=>decide ((k:Int)∈d)
def seenN (n:Nat) (d:List Int):Nat:=(List.range n).countP fun k:Nat=>decide ((k:Int)∈d)
theorem DR_ (n:Nat) (d:List Int):seenN n d≤n:=by
 have:=List.countP_le_length (p:=fun k:Nat=>decide ((k:Int)∈d)) (l:=List.range n)
 rwa [List.length_range] at this
theorem Ix_ {n m:Nat} (h:m<n) (P:Nat→Bool) (hP:P m=false):(List.range n).countP (fun k=>decide (k=m)||P k)=(List.range n).countP P+1:=by
 induction n with
 | zero=>omega
 | succ n ih=>
  rw [List.range_succ,List.countP_append,List.countP_append]
  by_cases hm:m=n
  ·
   subst hm
   have:(List.range m).countP (fun k=>decide (k=m)||P k)=(List.range m).countP P:=by
    refine List.countP_congr fun k hk=>?_
    have:¬k=m:=by have:=List.mem_range.1 hk;omega
    simp [this]
   rw [this]
   simp [hP]
  ·
   rw [ih (by omega)]
   have:¬n=m:=by omega
   simp [this];omega
theorem Dj_ (n:Nat) (d:List Int) (m:Nat) (hm:m<n) (h:¬(m:Int)∈d):seenN n (d++[(m:Int)])=seenN n d+1∧(sA n fun k=>if k=m then true else decide ((k:Int)∈d))=zI n (d++[(m:Int)]):=by
 constructor
 ·
  unfold seenN
  rw [←Ix_ hm (fun k:Nat=>decide ((k:Int)∈d)) (dF h)]
  refine List.countP_congr fun k _=>?_
  simp only [List.mem_append,List.mem_singleton,decide_eq_true_eq,Bool.or_eq_true]
  constructor
  ·
   rintro (h | h)
   · exact .inr h
   · exact .inl (by omega)
  ·
   rintro (h | h)
   · exact .inr (by omega)
   · exact .inl h
 ·
  refine yD fun k _=>?_
  by_cases hk:k=m
  · rw [if_pos hk,dT];simp [hk]
  ·
   rw [if_neg hk,decide_eq_decide]
   have:¬(k:Int)=(m:Int):=by omega
   simp [this]
theorem Dk_ (n:Nat) (d:List Int) (x:Int) (h:x∈d∨rng x 0 ((n:Int)-1)=false):seenN n (d++[x])=seenN n d∧zI n (d++[x])=zI n d:=by
 have:∀ k,k<n→decide ((k:Int)∈d++[x])=decide ((k:Int)∈d):=fun k hk=>by
  rw [decide_eq_decide,List.mem_append,List.mem_singleton]
  constructor
  ·
   rintro (h1 | h1)
   · exact h1
   ·
    rcases h with h | h
    · rw [h1];exact h
    ·
     have:rng x 0 ((n:Int)-1)=true:=rng_true.2 (by omega)
     rw [this] at h;cases h
  · exact .inl
 exact ⟨List.countP_congr fun k hk=>by rw [this k (List.mem_range.1 hk)],yD this⟩
theorem uU {n:Nat} (hn:n≤100) (E:List Edg) (I O l d:List Int):kJ l ((n:Int),E,I,O) (wOk n d) (zI n d) ((seenN n d:Nat):Int)=some (wOk n (d++l),zI n (d++l),((seenN n (d++l):Nat):Int)):=by
 unfold kJ
 have:=vC (n:=l.length) (fun j=>(wOk n (d++l.take j),((seenN n (d++l.take j):Nat):Int),zI n (d++l.take j))) (f:=fun (k10:Nat) (s199:Bool×Int×List Bool)=>
   ((idxO l ((k10:Nat):Int)).bind fun a262=>
    (subO (n:Int) 1).bind fun a264=>
    (aF a262 0 a264).bind fun y266=>
    (some (!y266)).bind fun a269=>
    cond a269
    (some (false,s199.2.1,s199.2.2))
    ((idxO s199.2.2 a262).bind fun a278=>
     (some (!a278)).bind fun a280=>
     cond a280
     ((setO s199.2.2 a262 true).bind fun a290=>
      (nA s199.2.1 1).bind fun a293=>
      some (s199.1,a293,a290))
     (some (s199.1,s199.2.1,s199.2.2)))).bind fun (s250:Bool×Int×List Bool)=>
   some (s250.1,s250.2.1,s250.2.2)) (fun j hj=>by
  have hlen:=DR_ n (d++l.take j)
  have e1:d++l.take (j+1)=(d++l.take j)++[l[j]]:=by rw [List.take_add_one,List.getElem?_eq_getElem hj];simp
  have e2:wOk n (d++l.take (j+1))=(wOk n (d++l.take j)&&rng l[j] 0 (n-1)):=by rw [e1,all_app];congr 1;unfold wOk;simp
  refine bndW (bnd (kA (List.getElem?_eq_getElem hj)) (bnd (yC (by omega) (by omega)) (bnd (within_ _ _ _) (stp rfl)))) ?_
  cases hr:rng l[j] 0 ((n:Int)-1) with
  | false=>
   have h3:=Dk_ n (d++l.take j) l[j] (.inr hr)
   rw [←e1] at h3
   rw [e2,hr,h3.1,h3.2,Bool.and_false];rfl
  | true=>
   have hx:=rng_true.1 hr
   obtain ⟨m,hme⟩:∃ m:Nat,l[j]=(m:Int):=⟨l[j].toNat,by omega⟩
   rw [e2,hr,Bool.and_true,hme]
   refine bndW (bnd (bF _ (by omega)) (stp rfl)) ?_
   by_cases hm:(m:Int)∈d++l.take j
   ·
    have h3:=Dk_ n (d++l.take j) l[j] (.inl (by rw [hme];exact hm))
    rw [←e1] at h3
    rw [dT hm,h3.1,h3.2];rfl
   ·
    have h3:=Dj_ n (d++l.take j) m (by omega) hm
    rw [←hme,← e1] at h3
    rw [dF hm]
    refine bndW (bnd (kH _ _ (by omega)) (bnd (gB (by dsimp only;omega) (by dsimp only;omega)) rfl)) ?_
    rw [h3.1]
    show some _=some _
    refine congrArg some (Prod.ext rfl (Prod.ext ?_ ?_))
    · dsimp only;push_cast;rfl
    · dsimp only;rw [←h3.2])
 simp only [List.take_zero,List.append_nil,List.take_length] at this
 rw [this];rfl
theorem I9_ {n:Nat} (hn:n≤100) (E:List Edg) (I O:List Int):mS ((n:Int),E,I,O) ((n:Int),E,I,O) true (sA n fun _=>false) 0=some (wOk n (bE ((n:Int),E,I,O)),zI n (bE ((n:Int),E,I,O)),((seenN n (bE ((n:Int),E,I,O)):Nat):Int)):=by
 unfold mS
 have h0:(sA n fun _=>false)=zI n []:=by unfold zI;simp
 have h1:(0:Int)=((seenN n []:Nat):Int):=by unfold seenN;simp
 have h2:true=wOk n []:=rfl
 rw [h0,h1,h2]
 refine bnd (uU hn E I O I []) (bnd (uU hn E I O O ([]++I)) ?_)
 have:=vC (n:=E.length) (fun j=>(((seenN n ([]++I++O++((E.take j).map fun e=>edI e++edO e).flatten):Nat):Int),wOk n ([]++I++O++((E.take j).map fun e=>edI e++edO e).flatten),zI n ([]++I++O++((E.take j).map fun e=>edI e++edO e).flatten))) (f:=fun (k21:Nat) (s74:Int×Bool×List Bool)=>
   (idxO E ((k21:Nat):Int)).bind fun a89=>
   (kJ a89.2.2.1 ((n:Int),E,I,O) s74.2.1 s74.2.2 s74.1).bind fun y101=>
   (kJ a89.2.2.2 ((n:Int),E,I,O) y101.1 y101.2.1 y101.2.2).bind fun y104=>
   some (y104.2.2,y104.1,y104.2.1)) (fun j hj=>by
  have e1:[]++I++O++((E.take (j+1)).map fun e=>edI e++edO e).flatten=[]++I++O++((E.take j).map fun e=>edI e++edO e).flatten++edI E[j]++edO E[j]:=by
   rw [List.take_add_one,List.getElem?_eq_getElem hj,List.map_append,List.flatten_append]
   simp only [Option.toList_some,List.map_cons,List.map_nil,List.flatten_cons,List.flatten_nil,List.append_nil,List.append_assoc]
  rw [e1]
  exact bnd (kA (List.getElem?_eq_getElem hj)) (bnd (uU hn E I O (edI E[j]) _) (bnd (uU hn E I O (edO E[j]) _) rfl)))
 simp only [List.take_zero,List.take_length,List.map_nil,List.flatten_nil,List.append_nil] at this
 refine bnd this ?_
 unfold bE
 simp only [List.nil_append]
theorem Js_ {n:Int}{E:List Edg}{I O:List Int} (h:E.all arB=true):wOk n (bE (n,E,I,O))=(wOk n I&&(wOk n O&&E.all (edW n))):=by
 unfold bE
 rw [all_app,all_app,Bool.and_assoc]
 congr 2
 show wOk n (E.map fun e=>edI e++edO e).flatten=E.all (edW n)
 clear I O
 induction E with
 | nil=>rfl
 | cons e E ih=>
  simp only [List.all_cons,Bool.and_eq_true] at h
  rw [List.map_cons,List.flatten_cons,all_app,all_app,List.all_cons]
  rw [ih h.2]
  unfold edW
  rw [h.1,Bool.true_and]
theorem Ed_ (g:Gra):uS g=some (gOk g):=by
 obtain ⟨n,E,I,O⟩:=g
 unfold uS gOk
 cases hr:rng n 0 100 with
 | false=>simp [within_,hr]
 | true=>
  have hn:=rng_true.1 hr
  by_cases hE:E.length≤60
  case neg=>
   have:(60:Int)<(E.length:Int):=by omega
   simp [within_,hr,hE,this]
  have hE':¬(60:Int)<(E.length:Int):=by omega
  by_cases hI:I.length≤12
  case neg=>
   have:(12:Int)<(I.length:Int):=by omega
   simp [within_,hr,hE,hE',hI,this]
  have hI':¬(12:Int)<(I.length:Int):=by omega
  by_cases hO:O.length≤12
  case neg=>
   have:(12:Int)<(O.length:Int):=by omega
   simp [within_,hr,hE,hE',hI,hI',hO,this]
  have hO':¬(12:Int)<(O.length:Int):=by omega
  simp only [within_,hr,dF hE',dF hI',dF hO',dT hE,dT hI,dT hO,Option.bind_some,Bool.not_true,cond_false,Bool.true_and]
  obtain ⟨m,rfl⟩:∃ m:Nat,n=(m:Int):=⟨n.toNat,by omega⟩
  refine sqW (yH arB E 0 ?_ (t:=false)) ?_
  ·
   intro j e hj
   rw [Nat.zero_add]
   refine bnd (kA hj) (bnd (isEdge_ e) (stp ?_))
   cases arB e <;> rfl
  ·
   cases hall:E.all arB with
   | false=>
    have:E.all (edW (m:Int))=false:=by
     cases h:E.all (edW (m:Int)) with
     | false=>rfl
     | true=>rw [mW h] at hall;cases hall
    rw [this]
    simp [pC]
   | true=>
    rw [if_pos rfl,vI]
    refine bnd (rM _ (by unfold bB;omega)) (bnd (I9_ (by omega) E I O) ?_)
    dsimp only
    rw [Js_ hall]
    have hcov:decide (((seenN m (bE ((m:Int),E,I,O)):Nat):Int)=(m:Int))=(List.range m).all fun k:Nat=>decide ((k:Int)∈bE ((m:Int),E,I,O)):=by
     rw [Bool.eq_iff_iff,decide_eq_true_eq,List.all_eq_true]
     have:seenN m (bE ((m:Int),E,I,O))=(List.range m).length↔_:=List.countP_eq_length
     rw [List.length_range] at this
     rw [←this];omega
    rw [hcov,Int.toNat_natCast]
    cases wOk (m:Int) I <;> cases wOk (m:Int) O <;> cases E.all (edW (m:Int)) <;> rfl
end Go.Proofs.YtodfjigndedehaaGreatDoor
namespace Go.Proofs.YtodfjigndedehaaGreatDoor
theorem H4_ {σ τ:Type}{f:σ→Option (σ⊕τ)} (I:σ→Prop) (Q:τ→Prop) (μ:σ→Nat) (h:∀ s,I s→(∃ s',f s=some (.inl s')∧I s'∧μ s'<μ s)∨(∃ t,f s=some (.inr t)∧Q t)){s:σ} (hs:I s):∃ t,qB f s=some t∧Q t:=by
 have key:∀ n s,μ s≤n→I s→∃ t,qB f s=some t∧Q t:=by
  intro n
  induction n with
  | zero=>
   intro s hn hs
   rcases h s hs with ⟨s',_,_,hl⟩ | ⟨t,ht,hq⟩
   · omega
   · exact ⟨t,dE ht,hq⟩
  | succ n ih=>
   intro s hn hs
   rcases h s hs with ⟨s',h1,h2,hl⟩ | ⟨t,ht,hq⟩
   ·
    obtain ⟨t,h3,h4⟩:=ih s' (by omega) h2
    exact ⟨t,by rw [lF h1];exact h3,h4⟩
   · exact ⟨t,dE ht,hq⟩
 exact key _ s (Nat.le_refl _) hs
theorem CT_ {σ τ:Type}{f:σ→Option (σ⊕τ)} (I:Nat→σ→Prop) (Q:τ→Prop) (N:Nat) (h:∀ j s,j≤N→I j s→(∃ s',f s=some (.inl s')∧I (j+1) s'∧j<N)∨(∃ t,f s=some (.inr t)∧Q t)){s:σ} (hs:I 0 s):∃ t,qB f s=some t∧Q t:=by
 have key:∀ d j s,j+d=N→I j s→∃ t,qB f s=some t∧Q t:=by
  intro d
  induction d with
  | zero=>
   intro j s hj hI
   rcases h j s (by omega) hI with ⟨s',h1,h2,h3⟩ | ⟨t,h1,h2⟩
   · omega
   · exact ⟨t,dE h1,h2⟩
  | succ d ih=>
   intro j s hj hI
   rcases h j s (by omega) hI with ⟨s',h1,h2,h3⟩ | ⟨t,h1,h2⟩
   ·
    obtain ⟨t,k1,k2⟩:=ih (j+1) s' (by omega) h2
    exact ⟨t,by rw [lF h1];exact k1,k2⟩
   · exact ⟨t,dE h1,h2⟩
 exact key N 0 s (by omega) hs
theorem Eg_ {σ:Type}{f:Nat→σ→Option σ} (I:Nat→σ→Prop):∀ (n k:Nat) (s:σ),I k s→(∀ j s,k≤j→j<k+n→I j s→∃ s',f j s=some s'∧I (j+1) s')→∃ r,forS f n k s=some r∧I (k+n) r
 | 0,k,s,h0,_=>⟨s,rfl,h0⟩
 | n+1,k,s,h0,h=>by
  obtain ⟨s',h1,h2⟩:=h k s (Nat.le_refl _) (by omega) h0
  obtain ⟨r,h3,h4⟩:=Eg_ I n (k+1) s' h2 (fun j s hj hl hi=>h j s (by omega) (by omega) hi)
  refine ⟨r,?_,by rwa [show k+1+n=k+(n+1) by omega] at h4⟩
  show (f k s).bind _=_
  rw [h1];exact h3
theorem lO {σ:Type}{f:Nat→σ→Option σ}{n:Nat}{s:σ} (I:Nat→σ→Prop) (h0:I 0 s) (h:∀ j s,j<n→I j s→∃ s',f j s=some s'∧I (j+1) s'):∃ r,forS f n 0 s=some r∧I n r:=by
 obtain ⟨r,h1,h2⟩:=Eg_ (f:=f) I n 0 s h0 (fun j s _ hl hi=>h j s (by omega) hi)
 exact ⟨r,h1,by rwa [Nat.zero_add] at h2⟩
theorem Eh_ {σ τ:Type}{f:Nat→σ→Option (σ⊕τ)} (I:Nat→σ→Prop) (Q:τ→Prop):∀ (n k:Nat) (s:σ),I k s→(∀ j s,k≤j→j<k+n→I j s→(∃ s',f j s=some (.inl s')∧I (j+1) s')∨(∃ t,f j s=some (.inr t)∧Q t))→(∃ r,zC f n k s=some (.inl r)∧I (k+n) r)∨(∃ t,zC f n k s=some (.inr t)∧Q t)
 | 0,k,s,h0,_=>.inl ⟨s,rfl,h0⟩
 | n+1,k,s,h0,h=>by
  rcases h k s (Nat.le_refl _) (by omega) h0 with ⟨s',h1,h2⟩ | ⟨t,h1,h2⟩
  ·
   rcases Eh_ I Q n (k+1) s' h2 (fun j s hj hl hi=>h j s (by omega) (by omega) hi) with ⟨r,h3,h4⟩ | ⟨t,h3,h4⟩
   ·
    refine .inl ⟨r,?_,by rwa [show k+1+n=k+(n+1) by omega] at h4⟩
    show (f k s).bind _=_
    rw [h1];exact h3
   ·
    refine .inr ⟨t,?_,h4⟩
    show (f k s).bind _=_
    rw [h1];exact h3
  ·
   refine .inr ⟨t,?_,h2⟩
   show (f k s).bind _=_
   rw [h1];rfl
theorem A3_ {σ τ:Type}{f:Nat→σ→Option (σ⊕τ)}{n:Nat}{s:σ} (I:Nat→σ→Prop) (Q:τ→Prop) (h0:I 0 s) (h:∀ j s,j<n→I j s→(∃ s',f j s=some (.inl s')∧I (j+1) s')∨(∃ t,f j s=some (.inr t)∧Q t)):(∃ r,zC f n 0 s=some (.inl r)∧I n r)∨(∃ t,zC f n 0 s=some (.inr t)∧Q t):=by
 rcases Eh_ (f:=f) I Q n 0 s h0 (fun j s _ hl hi=>h j s (by omega) hi) with ⟨r,h1,h2⟩ | h
 · exact .inl ⟨r,h1,by rwa [Nat.zero_add] at h2⟩
 · exact .inr h
def M (s:List Bool) (x:Int):Prop:=idxO s x=some true
instance (s:List Bool) (x:Int):Decidable (M s x):=by unfold M;infer_instance
theorem M_idx {s:List Bool}{x:Int} (h0:0≤x) (h1:x<s.length):idxO s x=some (decide (M s x)):=by
 by_cases h:M s x
 · rw [dT h];exact h
 ·
  rw [dF h]
  obtain ⟨k,rfl⟩:∃ k:Nat,x=(k:Int):=⟨x.toNat,by omega⟩
  unfold M at h
  rw [idxO_nat,List.getElem?_eq_getElem (by omega)] at h ⊢
  cases hs:s[k] with
  | false=>rfl
  | true=>rw [hs] at h;exact (h rfl).elim
theorem M_set {s:List Bool}{x:Int} (h0:0≤x) (h1:x<s.length):setO s x true=some (s.set x.toNat true)∧∀ y,M (s.set x.toNat true) y↔(M s y∨y=x):=by
 obtain ⟨k,rfl⟩:∃ k:Nat,x=(k:Int):=⟨x.toNat,by omega⟩
 rw [Int.toNat_natCast]
 refine ⟨lC _ (by omega),fun y=>?_⟩
 unfold M idxO
 by_cases hy:0≤y
 ·
  rw [if_pos hy,if_pos hy,List.getElem?_set]
  by_cases h:k=y.toNat
  ·
   rw [if_pos h,if_pos (by omega)]
   exact ⟨fun _=>.inr (by omega),fun _=>rfl⟩
  ·
   rw [if_neg h]
   exact ⟨.inl,fun h2=>by rcases h2 with h2 | h2;exact h2;omega⟩
 ·
  rw [if_neg hy,if_neg hy]
  constructor
  · intro h;cases h
  ·
   rintro (h | h)
   · cases h
   · omega
theorem M_rng {s:List Bool}{x:Int} (h:M s x):0≤x∧x<s.length:=by
 unfold M at h
 obtain ⟨k,rfl,_,hl⟩:=rJ h
 omega
theorem M_none (n:Nat) (x:Int):¬M (sA n fun _=>false) x:=by
 intro h
 have h1:=M_rng h
 rw [tE] at h1
 obtain ⟨k,rfl⟩:∃ k:Nat,x=(k:Int):=⟨x.toNat,by omega⟩
 unfold M at h
 rw [bF _ (by omega)] at h;cases h
def rC (n:Nat) (l:List Int):Prop:=∀ x∈l,0≤x∧x<(n:Int)
def zE (n:Nat) (E:List Edg):Prop:=∀ e∈E,rC n (edI e)∧rC n (edO e)
end Go.Proofs.YtodfjigndedehaaGreatDoor
namespace Go.Proofs.YtodfjigndedehaaGreatDoor
def tG (a:List Int):Nat:=a.length
def cJ (a:List Int):Nat:=fJ a
theorem lH (a:List Int):cJ a≤8*tG a:=by unfold cJ tG fJ;omega
def fE:=mkS
theorem wF (a:List Int) (k:Int):(fE a k).2=k+cJ a:=mkS_snd a k
theorem xW (a:List Int) (h:tG a≤1048576):oM a a=some true:=by rw [eqIntS a a (by unfold tG at h;unfold fS;omega),show decide (a=a)=true from dT rfl]
theorem tW (a:List Int) (k:Int) (h0:0≤k) (h:k+8*tG a≤1125899906842624):kM a k=some (fE a k):=JB_ a k h0 (by unfold tG at h;unfold fJ lG;omega)
theorem uW (a:List Int) (k:Int) (h0:0≤k) (h:k+8*tG a≤1125899906842624):nJ (fE a k).1 k=some (k+cJ a):=JF_ a k h0 (by unfold tG at h;unfold fJ lG;omega)
end Go.Proofs.YtodfjigndedehaaGreatDoor
namespace Go.Proofs.YtodfjigndedehaaGreatDoor
end Go.Proofs.YtodfjigndedehaaGreatDoor
namespace Go.Proofs.YtodfjigndedehaaGreatDoor
set_option linter.unusedVariables false
theorem wR {α:Type} (f:α→Nat) (l:List α):tot (fun x=>8*(1+f x)) l=8*(l.length+tot f l):=by
 induction l with
 | nil=>rfl
 | cons a l ih=>rw [tot_cons,tot_cons,ih,List.length_cons];omega
theorem FC_ {α:Type}{f g:α→Nat} (h:∀ a,f a≤g a) (l:List α):tot f l≤tot g l:=by
 induction l with
 | nil=>exact Nat.le_refl _
 | cons a l ih=>rw [tot_cons,tot_cons];have:=h a;omega
theorem Ax_ {α:Type} (mk:α→Int→α×Int) (n M:α→Nat) (hmk:∀ a k,(mk a k).2=k+n a) (hnM:∀ a,n a≤M a){f:List α×Int×Int→Option ((List α×Int×Int)⊕(List α×Int))} (N:Nat) (B:Int)
  (hf:∀ (j:Nat) (a:α) (s:List α) (q:Int),s[j]?=some a→s.length=N→j<N→0≤q→q+M a≤B→f (s,q,(j:Int))=some (.inl (s.set j (mk a q).1,(mk a q).2,(j:Int)+1)))
  (he:∀ (s:List α) (q:Int),s.length=N→f (s,q,(N:Int))=some (.inr (s,q))):∀ (rest pre:List α) (q:Int),pre.length+rest.length=N→0≤q→q+tot M rest≤B→qB f (pre++rest,q,(pre.length:Int))=some (pre++(mkL mk rest q).1,(mkL mk rest q).2)
 | [],pre,q,hN,_,_=>by
  have h1:pre.length=N:=by simpa using hN
  have:=he pre q h1
  rw [←h1] at this
  rw [List.append_nil,dE this];simp [mkL]
 | a::rest,pre,q,hN,h0,hB=>by
  rw [tot_cons] at hB
  have hn:=hnM a
  have h1:=hf pre.length a (pre++a::rest) q (mH _ _ _) (by simpa using hN) (by simp at hN;omega) h0 (by omega)
  have ih:=Ax_ mk n M hmk hnM N B hf he rest (pre++[(mk a q).1]) (mk a q).2 (by simp at hN ⊢;omega) (by rw [hmk];omega) (by rw [hmk];omega)
  rw [zV,fH pre rest (mk a q).1,← len1 pre (mk a q).1] at h1
  rw [lF h1,ih]
  simp [mkL]
theorem C5_ {α:Type} (mk:α→Int→α×Int) (n M:α→Nat) (hmk:∀ a k,(mk a k).2=k+n a) (hnM:∀ a,n a≤M a){f:Int×Int→Option ((Int×Int)⊕(Int⊕Int))} (L:List α) (B:Int)
  (hf:∀ (j:Nat) (a:α) (q:Int),L[j]?=some (mk a q).1→j<L.length→0≤q→q+M a≤B→f (q,(j:Int))=some (.inl (q+n a,(j:Int)+1)))
  (he:∀ q:Int,f (q,(L.length:Int))=some (.inr (.inl q))):∀ (rest pre:List α) (q:Int),L=pre++(mkL mk rest q).1→0≤q→q+tot M rest≤B→qB f (q,(pre.length:Int))=some (.inl (q+tot n rest))
 | [],pre,q,hL,_,_=>by
  have:=he q
  rw [hL] at this
  have h2:pre++(mkL mk [] q).1=pre:=by simp [mkL]
  rw [h2] at this
  rw [dE this,tot_nil];simp
 | a::rest,pre,q,hL,h0,hB=>by
  rw [tot_cons] at hB
  have hn:=hnM a
  have hL':L=pre++(mk a q).1::(mkL mk rest (q+n a)).1:=by rw [hL];show _=_;rw [←hmk];rfl
  have h1:=hf pre.length a q (by rw [hL'];exact mH _ _ _) (by rw [hL'];simp) h0 (by omega)
  have ih:=C5_ mk n M hmk hnM L B hf he rest (pre++[(mk a q).1]) (q+n a) (by rw [hL',fH]) (by omega) (by omega)
  rw [len1] at ih
  rw [lF h1,ih,tot_cons];congr 2;omega
abbrev wL:=Int×Int×(List Int)×(List Int)
def cF (a:wL):Nat:=tG a.2.2.1+tG a.2.2.2
theorem e_Edge (a:wL) (h:cF a≤1048576):Ai_ a a=some true:=by
 unfold cF at h
 exact stp (cFW (nT (dT rfl)) (stp (cFW (nT (dT rfl)) (bnd (xW a.2.2.1 (by omega)) (stp (cFW rfl (bnd (xW a.2.2.2 (by omega)) (stp (cFW rfl (rfl))))))))))
abbrev aK:=List wL
def fK (a:aK):Nat:=a.length+tot cF a
theorem e_EdgeS (a:aK) (h:fK a≤1048576):vZ a a=some true:=by
 unfold fK at h
 refine stp (cFW (nT (dT rfl)) (sqW (fL (fun j=>(j:Int)) (t:=.inl ()) a.length ?_ ?_) ?_))
 ·
  intro j hj
  exact stp (cTW (dT (by omega)) (bnd (kA (List.getElem?_eq_getElem hj)) (bnd (kA (List.getElem?_eq_getElem hj)) (bnd (e_Edge a[j] (by have:=Ba_ (n:=cF) (List.getElem_mem hj);omega)) (stp (cFW rfl (bnd (gB (by omega) (by omega)) rfl)))))))
 · exact stp (cFW (dF (by omega)) rfl)
 · rfl
def tJ (x:wL) (q:Int):wL×Int:=((q,(q+1),(fE x.2.2.1 ((q+1)+1)).1,(fE x.2.2.2 (fE x.2.2.1 ((q+1)+1)).2).1),(fE x.2.2.2 (fE x.2.2.1 ((q+1)+1)).2).2)
def yJ (x:wL):Nat:=2+cJ x.2.2.1+cJ x.2.2.2
theorem Al_ (x:wL) (q:Int):(tJ x q).2=q+yJ x:=by
 unfold tJ yJ
 simp only [wF]
 omega
theorem AA_ (x:wL):yJ x≤8*(1+cF x):=by
 unfold yJ cF
 have h2:=lH x.2.2.1
 have h3:=lH x.2.2.2
 omega
def oF:aK→Int→aK×Int:=mkL tJ
def aS (a:aK):Nat:=tot yJ a
theorem AO_ (a:aK):aS a≤8*fK a:=by
 have:=FC_ AA_ a
 rw [wR] at this
 exact this
theorem nG (a:aK) (k:Int):(oF a k).2=k+aS a:=eW tJ yJ Al_ a k
theorem m_EdgeS (a:aK) (k:Int) (h0:0≤k) (h:k+8*fK a≤1125899906842624):fZ a k=some (oF a k):=by
 have hsum:=wR cF a
 unfold fK at h
 refine bnd (Ax_ tJ yJ (fun x=>8*(1+cF x)) Al_ AA_ a.length 1125899906842624 ?_ ?_ a [] k (by simp) h0 (by rw [hsum];omega)) rfl
 ·
  intro j x s q hj hs hjl hq hB
  dsimp only at hB ⊢
  unfold cF at hB
  have b2:=lH x.2.2.1
  have b3:=lH x.2.2.2
  refine stp (cTW (dT (by omega)) ?_)
  refine bnd (kA hj) ?_
  refine bnd (lC _ (by omega)) ?_
  refine bnd (gB (by omega) (by omega)) ?_
  refine bnd (kA (a:=(q,x.2.1,x.2.2.1,x.2.2.2)) (by rw [List.getElem?_set_self (by omega)])) ?_
  refine bnd (lC _ (by simp only [List.length_set];omega)) ?_
  refine bnd (gB (by omega) (by omega)) ?_
  refine bnd (kA (a:=(q,(q+1),x.2.2.1,x.2.2.2)) (by rw [List.getElem?_set_self (by simp only [List.length_set];omega)])) ?_
  refine bnd (tW x.2.2.1 ((q+1)+1) (by omega) (by omega)) ?_
  refine bnd (lC _ (by simp only [List.length_set];omega)) ?_
  refine bnd (kA (a:=(q,(q+1),(fE x.2.2.1 ((q+1)+1)).1,x.2.2.2)) (by rw [List.getElem?_set_self (by simp only [List.length_set];omega)])) ?_
  refine bnd (tW x.2.2.2 (fE x.2.2.1 ((q+1)+1)).2 (by simp only [wF];omega) (by simp only [wF];omega)) ?_
  refine bnd (lC _ (by simp only [List.length_set];omega)) ?_
  refine bnd (gB (by omega) (by omega)) ?_
  simp only [List.set_set];rfl
 · intro s q hs;dsimp only;exact stp (cFW (dF (by omega)) rfl)
theorem h_EdgeS (a:aK) (k:Int) (h0:0≤k) (h:k+8*fK a≤1125899906842624):bT (oF a k).1 k=some (k+aS a):=by
 have hsum:=wR cF a
 unfold fK at h
 refine sqW (C5_ tJ yJ (fun x=>8*(1+cF x)) Al_ AA_ (oF a k).1 1125899906842624 ?_ ?_ a [] k rfl h0 (by rw [hsum];omega)) ?_
 ·
  intro j x q hj hjl hq hB
  dsimp only at hB ⊢
  unfold cF at hB
  have hlen:(oF a k).1.length=a.length:=Bm_ tJ a k
  have b2:=lH x.2.2.1
  have b3:=lH x.2.2.2
  have e2:=uW x.2.2.1 ((q+1)+1) (by omega) (by omega)
  have e3:=uW x.2.2.2 (fE x.2.2.1 ((q+1)+1)).2 (by simp only [wF];omega) (by simp only [wF];omega)
  simp only [wF] at e3
  refine stp (cTW (dT (by omega)) ?_)
  refine bnd (kA hj) ?_
  refine stp (cFW (nT (dT (by rfl))) ?_)
  refine bnd (gB (by omega) (by omega)) ?_
  refine bnd (kA hj) ?_
  refine stp (cFW (nT (dT (by rfl))) ?_)
  refine bnd (gB (by omega) (by omega)) ?_
  refine bnd (kA hj) ?_
  refine bnd (by unfold tJ;dsimp only;exact e2) (stp (cFW (dF (by omega)) ?_))
  refine bnd (kA hj) ?_
  refine bnd (by unfold tJ;simp only [wF];exact e3) (stp (cFW (dF (by omega)) ?_))
  refine bnd (gB (by omega) (by omega)) ?_
  refine congrArg some (congrArg Sum.inl (Prod.ext ?_ rfl))
  unfold yJ;dsimp only;push_cast;omega
 · intro q;dsimp only;exact stp (cFW (dF (by omega)) rfl)
 · rfl
abbrev zJ:=Int×(List (Int×Int×(List Int)×(List Int)))×(List Int)×(List Int)
def yF (a:zJ):Nat:=fK a.2.1+tG a.2.2.1+tG a.2.2.2
theorem Bx_ (a:zJ) (h:yF a≤1048576):zP a a=some true:=by
 unfold yF at h
 exact stp (cFW (nT (dT rfl)) (bnd (e_EdgeS a.2.1 (by omega)) (stp (cFW rfl (bnd (xW a.2.2.1 (by omega)) (stp (cFW rfl (bnd (xW a.2.2.2 (by omega)) (stp (cFW rfl (rfl)))))))))))
def bR (a:zJ) (k:Int):zJ×Int:=((a.1,(oF a.2.1 k).1,(fE a.2.2.1 (oF a.2.1 k).2).1,(fE a.2.2.2 (fE a.2.2.1 (oF a.2.1 k).2).2).1),(fE a.2.2.2 (fE a.2.2.1 (oF a.2.1 k).2).2).2)
def bP (a:zJ):Nat:=aS a.2.1+cJ a.2.2.1+cJ a.2.2.2
theorem Jp_ (a:zJ):bP a≤8*yF a:=by
 unfold bP yF
 have h1:=AO_ a.2.1
 have h2:=lH a.2.2.1
 have h3:=lH a.2.2.2
 omega
theorem CF_ (a:zJ) (k:Int):(bR a k).2=k+bP a:=by
 unfold bR bP
 simp only [nG,wF]
 try omega
theorem m_Graph (a:zJ) (k:Int) (h0:0≤k) (h:k+8*yF a≤1125899906842624):eZ a k=some (bR a k):=by
 unfold yF at h
 have h1:=AO_ a.2.1
 have h2:=lH a.2.2.1
 have h3:=lH a.2.2.2
 exact bnd (m_EdgeS _ _ h0 (by omega)) (bnd (tW _ _ (by simp only [nG];omega) (by simp only [nG];omega)) (bnd (tW _ _ (by simp only [nG,wF];omega) (by simp only [nG,wF];omega)) (rfl)))
theorem E8_ (a:zJ) (k:Int) (h0:0≤k) (h:k+8*yF a≤1125899906842624):aT (bR a k).1 k=some (k+bP a):=by
 unfold yF at h
 have h1:=AO_ a.2.1
 have h2:=lH a.2.2.1
 have h3:=lH a.2.2.2
 have e0:bT (oF a.2.1 k).1 k=some (k+aS a.2.1):=h_EdgeS _ _ h0 (by omega)
 have e1:nJ (fE a.2.2.1 (oF a.2.1 k).2).1 (oF a.2.1 k).2=some ((oF a.2.1 k).2+cJ a.2.2.1):=uW _ _ (by simp only [nG];omega) (by simp only [nG];omega)
 have e2:nJ (fE a.2.2.2 (fE a.2.2.1 (oF a.2.1 k).2).2).1 (fE a.2.2.1 (oF a.2.1 k).2).2=some ((fE a.2.2.1 (oF a.2.1 k).2).2+cJ a.2.2.2):=uW _ _ (by simp only [nG,wF];omega) (by simp only [nG,wF];omega)
 simp only [nG] at e1
 simp only [nG,wF] at e2
 unfold bP bR
 refine bnd e0 (stp (cFW (dF (by omega)) ?_))
 refine bnd (by simp only [nG];exact e1) (stp (cFW (dF (by omega)) ?_))
 refine bnd (by simp only [nG,wF];exact e2) (stp (cFW (dF (by omega)) ?_))
 refine congrArg some ?_
 try simp only [nG,wF]
 try omega
end Go.Proofs.YtodfjigndedehaaGreatDoor
namespace Go.Proofs.YtodfjigndedehaaGreatDoor
structure GOk (g:Gra) (n:Nat):Prop where
 w:g.1=(n:Int)
 n100:n≤100
 e60:g.2.1.length≤60
 i12:g.2.2.1.length≤12
 o12:g.2.2.2.length≤12
 i:rC n g.2.2.1
 o:rC n g.2.2.2
 e:zE n g.2.1
 ar:g.2.1.all arB=true
 ti:cD g.2.1 edI≤120
 to:cD g.2.1 edO≤120
 cov:∀ k:Nat,k<n→(k:Int)∈bE g
theorem AL_ {g:Gra} (h:gOk g=true):∃ n,GOk g n:=by
 unfold gOk at h
 simp only [Bool.and_eq_true,decide_eq_true_eq] at h
 obtain ⟨h1,h2,h3,h4,h5,h6,h7,h8⟩:=h
 have hr:=rng_true.1 h1
 obtain ⟨n,hn⟩:∃ n:Nat,g.1=(n:Int):=⟨g.1.toNat,by omega⟩
 rw [hn] at h5 h6 h7 h8
 have h9:=EI_ (mW h7)
 refine ⟨n,hn,by omega,h2,h3,h4,pO h5,pO h6,Fp_ h7,mW h7,by omega,by omega,fun k hk=>?_⟩
 rw [Int.toNat_natCast] at h8
 exact of_decide_eq_true (List.all_eq_true.1 h8 k (List.mem_range.2 hk))
end Go.Proofs.YtodfjigndedehaaGreatDoor
namespace Go.Proofs.YtodfjigndedehaaGreatDoor
def dJ {α:Type} (f f0:Nat→α) (j:Nat):Nat→α:=fun k=>if k<j then f k else f0 k
theorem IJ_ {α:Type}{n:Nat} (f f0:Nat→α) (j:Nat):(sA n fun k=>if k=j then f j else dJ f f0 j k)=sA n (dJ f f0 (j+1)):=by
 refine yD fun k _=>?_
 unfold dJ
 by_cases h:k=j
 · subst h;rw [if_pos rfl,if_pos (by omega)]
 ·
  rw [if_neg h]
  by_cases h2:k<j
  · rw [if_pos h2,if_pos (by omega)]
  · rw [if_neg h2,if_neg (by omega)]
theorem sQ {α:Type}{n:Nat} (f f0:Nat→α){g:Nat→List α→Option (List α)} (hg:∀ j,j<n→g j (sA n (dJ f f0 j))=some (sA n fun k=>if k=j then f j else dJ f f0 j k)):forS g n 0 (sA n f0)=some (sA n f):=by
 have:=vC (f:=g) (n:=n) (fun j=>sA n (dJ f f0 j)) (fun j hj=>by rw [hg j hj,IJ_])
 have e0:sA n (dJ f f0 0)=sA n f0:=yD fun k _=>by unfold dJ;rw [if_neg (by omega)]
 have e1:sA n (dJ f f0 n)=sA n f:=yD fun k hk=>by unfold dJ;rw [if_pos hk]
 rw [e0,e1] at this
 exact this
theorem upT_ {n:Nat} (h:n≤1048576):At_ (n:Int)=some (sA n fun k=>(k:Int)):=by
 have hm:bB=1099511627776:=rfl
 refine bnd (uI (by omega)) ?_
 rw [aV,tE]
 exact bnd (sQ (fun k=>(k:Int)) (fun _=>0) (fun j hj=>bnd (kH _ _ hj) rfl)) rfl
def mp (t:Nat→Int) (l:List Int):List Int:=l.map fun x=>t x.toNat
def mpE (t:Nat→Int) (e:Edg):Edg:=(e.1,e.2.1,mp t (edI e),mp t (edO e))
def mpG (n:Int) (t:Nat→Int) (g:Gra):Gra:=(n,g.2.1.map (mpE t),mp t g.2.2.1,mp t g.2.2.2)
theorem iW {n:Nat}{l:List Int} (t:Nat→Int) (h:rC n l) (hl:l.length≤1048576):qJ l (sA n t)=some (mp t l):=by
 have hm:bB=1099511627776:=rfl
 refine bnd (uE (fun x=>t x.toNat) l [] (by simp;omega) (fun j x s' hj hs=>?_)) rfl
 have hx:=h x (xC hj)
 obtain ⟨k,rfl⟩:∃ k:Nat,x=(k:Int):=⟨x.toNat,by omega⟩
 have hjl:=(List.getElem?_eq_some_iff.1 hj).1
 refine bnd (kA hj) (bnd (bF _ (by omega)) (bnd (jB (by simp at hs ⊢;omega)) ?_))
 rfl
theorem fW {n:Nat}{l:List Int} (t:Nat→Int) (h:rC n l) (hl:l.length≤1048576):xN l (sA n t)=some (mp t l):=by
 have hm:bB=1099511627776:=rfl
 refine bnd (bnd (C4_ _ (by omega)) (bnd (uE (fun x=>t x.toNat) l [] (by simp;omega) (fun j x s' hj hs=>?_)) rfl)) rfl
 have hx:=h x (xC hj)
 obtain ⟨k,rfl⟩:∃ k:Nat,x=(k:Int):=⟨x.toNat,by omega⟩
 have hjl:=(List.getElem?_eq_some_iff.1 hj).1
 refine bnd (kA hj) (bnd (bF _ (by omega)) (bnd (jB (by simp at hs ⊢;omega)) ?_))
 rfl
theorem tI {E:List Edg}{e:Edg} (s:Edg→List Int) (h:e∈E):(s e).length≤cD E s:=by
 unfold cD
 induction E with
 | nil=>cases h
 | cons x E ih=>
  rw [List.map_cons,List.flatten_cons,List.length_append]
  rcases List.mem_cons.1 h with rfl | h
  · omega
  · have:=ih h;omega
structure Rgd (n:Nat) (g:Gra):Prop where
 i:rC n g.2.2.1
 o:rC n g.2.2.2
 e:zE n g.2.1
 li:g.2.2.1.length≤1000
 lo:g.2.2.2.length≤1000
 le:g.2.1.length≤1000
 ti:cD g.2.1 edI≤1000
 to:cD g.2.1 edO≤1000
theorem GOk.rgd {g:Gra}{n:Nat} (h:GOk g n):Rgd n g:=by
 have:=h.i12;have:=h.o12;have:=h.e60;have:=h.ti;have:=h.to
 exact ⟨h.i,h.o,h.e,by omega,by omega,by omega,by omega,by omega⟩
theorem hgMap_ {n:Nat}{g:Gra} (t:Nat→Int) (w:Int) (h:Rgd n g):Am_ g (sA n t) w=some (mpG w t g):=by
 have hm:bB=1099511627776:=rfl
 obtain ⟨w0,E,I,O⟩:=g
 obtain ⟨h1,h2,h3,h4,h5,h6,h7,h8⟩:=h
 dsimp only at h1 h2 h3 h4 h5 h6 h7 h8
 refine bnd (bnd (iW t h1 (by dsimp only;omega)) (bnd (iW t h2 (by dsimp only;omega)) rfl)) ?_
 refine bnd (uE (mpE t) E [] (by simp;omega) (fun j e s' hj hs=>?_)) rfl
 have he:=xC hj
 have hjl:=(List.getElem?_eq_some_iff.1 hj).1
 have l1:=tI edI he
 have l2:=tI edO he
 exact bnd (kA hj) (bnd (iW t (h3 e he).1 (show (edI e).length≤_ by omega)) (bnd (iW t (h3 e he).2 (show (edO e).length≤_ by omega)) (bnd (jB (by simp at hs ⊢;omega)) rfl)))
theorem moved_ {n:Nat}{g:Gra} (t:Nat→Int) (w:Int) (h:Rgd n g):tY g w (sA n t)=some (mpG w t g):=by
 have hm:bB=1099511627776:=rfl
 obtain ⟨w0,E,I,O⟩:=g
 obtain ⟨h1,h2,h3,h4,h5,h6,h7,h8⟩:=h
 dsimp only at h1 h2 h3 h4 h5 h6 h7 h8
 refine bnd (bnd (fW t h1 (by dsimp only;omega)) (bnd (fW t h2 (by dsimp only;omega)) rfl)) ?_
 refine bnd (uE (mpE t) E [] (by simp;omega) (fun j e s' hj hs=>?_)) rfl
 have he:=xC hj
 have hjl:=(List.getElem?_eq_some_iff.1 hj).1
 have l1:=tI edI he
 have l2:=tI edO he
 exact bnd (kA hj) (bnd (fW t (h3 e he).1 (show (edI e).length≤_ by omega)) (bnd (fW t (h3 e he).2 (show (edO e).length≤_ by omega)) (bnd (jB (by simp at hs ⊢;omega)) rfl)))
theorem mp_len (t:Nat→Int) (l:List Int):(mp t l).length=l.length:=by unfold mp;rw [List.length_map]
theorem pV {a b:List Int} (h:a.length+b.length≤1048576):rE [a,b]=some (a++b):=by
 have hm:bB=1099511627776:=rfl
 refine bnd (a:=a++b) ?_ rfl
 refine bnd (a:=a) (bnd (a:=a) rfl (bnd (jB (by simp;omega)) rfl)) (bnd (a:=a++b) (bnd (a:=b) rfl (bnd (jB (by omega)) rfl)) rfl)
def noG:Gra:=(0,[],[],[])
end Go.Proofs.YtodfjigndedehaaGreatDoor
namespace Go.Proofs.YtodfjigndedehaaGreatDoor
def jP (c:Nat→Nat) (u v:Nat):Nat→Nat:=fun w=>if c w=max (c u) (c v) then min (c u) (c v) else c w
structure Cls (c:Nat→Nat):Prop where
 le:∀ w,c w≤w
 idem:∀ w,c (c w)=c w
theorem Cls.join {c:Nat→Nat} (h:Cls c) (u v:Nat):Cls (jP c u v):=by
 have iu:=h.idem u;have iv:=h.idem v
 refine ⟨fun w=>?_,fun w=>?_⟩
 ·
  unfold jP
  have:=h.le w
  split <;> omega
 ·
  unfold jP
  by_cases hw:c w=max (c u) (c v)
  ·
   rw [if_pos hw]
   have hk:c (min (c u) (c v))=min (c u) (c v):=by
    rcases Nat.le_total (c u) (c v) with h1 | h1
    · rw [Nat.min_eq_left h1,iu]
    · rw [Nat.min_eq_right h1,iv]
   rw [hk]
   split <;> rfl
  · rw [if_neg hw,h.idem w,if_neg hw]
structure Forest (n:Nat) (c cls:Nat→Nat):Prop where
 le:∀ w,w<n→c w≤w
 fix:∀ w,w<n→c w=w→cls w=w
 up:∀ w,w<n→cls (c w)=cls w
def dH (n:Nat) (c:Nat→Nat):List Int:=sA n fun k=>(c k:Int)
theorem gX {n:Nat}{c cls:Nat→Nat} (h:Forest n c cls){w:Nat} (hw:w<n):lN (dH n c) (w:Int)=some (cls w:Int):=by
 obtain ⟨t,h1,rfl⟩:=H4_ (f:=fun (s126:Int)=>
   (idxO (dH n c) s126).bind fun a141=>
   (some (!decide (a141=s126))).bind fun a143=>
   cond a143
   ((idxO (dH n c) s126).bind fun a154=>
    some (.inl a154))
   (some (.inr s126))) (fun s=>∃ k:Nat,s=(k:Int)∧k<n∧cls k=cls w) (fun t=>t=(cls w:Int)) (fun s=>s.toNat) (by
  rintro s ⟨k,rfl,hk,he⟩
  have hi:idxO (dH n c) (k:Int)=some (c k:Int):=bF _ hk
  have hle:=h.le k hk
  by_cases hf:c k=k
  ·
   refine .inr ⟨(k:Int),bnd hi (stp (cFW (nT (dT (by omega))) rfl)),?_⟩
   rw [←he,h.fix k hk hf]
  · exact .inl ⟨(c k:Int),bnd hi (stp (cTW (nF (dF (by omega))) (bnd hi rfl))),⟨c k,rfl,by omega,by rw [h.up k hk,he]⟩,by omega⟩) (s:=(w:Int)) ⟨w,rfl,hw,rfl⟩
 exact bnd h1 rfl
theorem Forest.join {n:Nat}{c cls:Nat→Nat} (h:Forest n c cls) (hc:Cls cls) (u v:Nat):Forest n (fun k=>if k=max (cls u) (cls v) then min (cls u) (cls v) else c k) (jP cls u v):=by
 have iu:=hc.idem u;have iv:=hc.idem v
 have hm:cls (max (cls u) (cls v))=max (cls u) (cls v):=by
  rcases Nat.le_total (cls u) (cls v) with h1 | h1
  · rw [Nat.max_eq_right h1,iv]
  · rw [Nat.max_eq_left h1,iu]
 have hk:cls (min (cls u) (cls v))=min (cls u) (cls v):=by
  rcases Nat.le_total (cls u) (cls v) with h1 | h1
  · rw [Nat.min_eq_left h1,iu]
  · rw [Nat.min_eq_right h1,iv]
 refine ⟨fun w hw=>?_,fun w hw=>?_,fun w hw=>?_⟩
 ·
  have:=h.le w hw
  split <;> omega
 ·
  unfold jP
  intro hf
  by_cases hwm:w=max (cls u) (cls v)
  ·
   rw [if_pos hwm] at hf
   subst hwm
   rw [hm,if_pos rfl];exact hf
  ·
   rw [if_neg hwm] at hf
   have:=h.fix w hw hf
   rw [this,if_neg hwm]
 ·
  unfold jP
  by_cases hwm:w=max (cls u) (cls v)
  ·
   rw [if_pos hwm,hwm,hm,if_pos rfl,hk]
   split <;> rfl
  · rw [if_neg hwm,h.up w hw]
theorem I5_ (a b:Nat):iP (a:Int) (b:Int)=((max a b:Nat):Int):=by unfold iP;split <;> omega
theorem I4_ (a b:Nat):gP (a:Int) (b:Int)=((min a b:Nat):Int):=by unfold gP;split <;> omega
theorem join_ {n:Nat}{c cls:Nat→Nat} (h:Forest n c cls) (hc:Cls cls){u v:Nat} (hu:u<n) (hv:v<n):mN (dH n c) (u:Int) (v:Int)=some (dH n fun k=>if k=max (cls u) (cls v) then min (cls u) (cls v) else c k):=by
 have l1:=hc.le u;have l2:=hc.le v
 refine bnd (gX h hu) (bnd (gX h hv) (stp (stp ?_)))
 rw [I5_,I4_]
 refine bnd (kH _ _ (by omega)) (congrArg some (yD fun k _=>?_))
 show _=((if k=max (cls u) (cls v) then min (cls u) (cls v) else c k:Nat):Int)
 split <;> rfl
end Go.Proofs.YtodfjigndedehaaGreatDoor
namespace Go.Proofs.YtodfjigndedehaaGreatDoor
theorem CX_ {n:Nat} (L:List Int) (hL:rC n L) (hn:L.Nodup):∀ k,k≤L.length→seenN n (L.take k)=k
 | 0,_=>by unfold seenN;simp
 | k+1,hk=>by
  have ih:=CX_ L hL hn k (by omega)
  have e:L.take (k+1)=L.take k++[L[k]]:=by rw [List.take_add_one,List.getElem?_eq_getElem (by omega)];rfl
  have hr:=hL _ (List.getElem_mem (show k<L.length by omega))
  obtain ⟨m,hm⟩:∃ m:Nat,L[k]=(m:Int):=⟨L[k].toNat,by omega⟩
  have hnot:¬(m:Int)∈L.take k:=by
   rw [←hm]
   intro h
   obtain ⟨j,hj,he⟩:=List.mem_iff_getElem.1 h
   have hj':j<k:=by rw [List.length_take] at hj;omega
   rw [List.getElem_take] at he
   have:=(List.getElem_inj hn).1 he
   omega
  have:=(Dj_ n (L.take k) m (by omega) hnot).1
  rw [e,hm,this,ih]
theorem iU {n:Nat}{L:List Int} (hL:rC n L) (hn:L.Nodup):seenN n L=L.length:=by
 have:=CX_ L hL hn L.length (Nat.le_refl _)
 rwa [List.take_length] at this
theorem seenN_full {n:Nat}{L:List Int}:seenN n L=n↔∀ k:Nat,k<n→(k:Int)∈L:=by
 have:seenN n L=(List.range n).length↔_:=List.countP_eq_length
 rw [List.length_range] at this
 rw [this]
 constructor
 · intro h k hk;exact of_decide_eq_true (h k (List.mem_range.2 hk))
 · intro h k hk;exact decide_eq_true (h k (List.mem_range.1 hk))
def yE (n:Nat) (L:List Int):Bool:=wOk n L&&decide L.Nodup
theorem nodup_snoc {L:List Int}{x:Int}:(L++[x]).Nodup↔L.Nodup∧¬x∈L:=by
 rw [List.nodup_append]
 constructor
 · rintro ⟨h1,_,h3⟩;exact ⟨h1,fun h=>h3 x h x (by simp) rfl⟩
 · rintro ⟨h1,h2⟩;exact ⟨h1,by simp,fun a ha b hb=>by rw [List.mem_singleton.1 hb];rintro rfl;exact h2 ha⟩
theorem Is_ {n:Nat}{L:List Int}{j:Nat} (hj:j<L.length):yE n (L.take (j+1))=(yE n (L.take j)&&(rng L[j] 0 ((n:Int)-1)&&!decide (L[j]∈L.take j))):=by
 have e:L.take (j+1)=L.take j++[L[j]]:=by rw [List.take_add_one,List.getElem?_eq_getElem hj];rfl
 unfold yE
 rw [e,all_app,decide_eq_decide.2 nodup_snoc,Bool.decide_and]
 have:wOk n [L[j]]=rng L[j] 0 ((n:Int)-1):=by unfold wOk;simp
 rw [this,decide_not]
 cases wOk n (L.take j) <;> cases rng L[j] 0 ((n:Int)-1) <;> cases decide (L.take j).Nodup <;> cases decide (L[j]∈L.take j) <;> rfl
theorem It_ {n:Nat}{L:List Int}{j:Nat} (h:yE n (L.take j)=false):yE n L=false:=by
 cases hd:yE n L with
 | false=>rfl
 | true=>
  unfold yE at h hd
  simp only [Bool.and_eq_true,decide_eq_true_eq] at hd
  have h1:wOk n (L.take j)=true:=List.all_eq_true.2 fun x hx=>List.all_eq_true.1 hd.1 x (List.mem_of_mem_take hx)
  have h2:(L.take j).Nodup:=hd.2.sublist (List.take_sublist _ _)
  rw [h1,decide_eq_true h2] at h;cases h
theorem Ji_ {n:Nat} (hn:n≤1099511627776) (L:List Int):(yE n L=true∧∃ s,zC (fun (k10:Nat) (s137:List Bool)=>
    (idxO L ((k10:Nat):Int)).bind fun a152=>
    ((subO (n:Int) 1).bind fun a177=>
     (aF a152 0 a177).bind fun y179=>
     (some (!y179)).bind fun a182=>
     cond a182
     (some true)
     ((idxO s137 a152).bind fun a191=>
      some a191)).bind fun (s171:Bool)=>
    cond s171
    (some (.inr false))
    ((setO s137 a152 true).bind fun a203=>
     some (.inl a203))) L.length 0 (sA n fun _=>false)=some (.inl s))∨(yE n L=false∧zC (fun (k10:Nat) (s137:List Bool)=>
    (idxO L ((k10:Nat):Int)).bind fun a152=>
    ((subO (n:Int) 1).bind fun a177=>
     (aF a152 0 a177).bind fun y179=>
     (some (!y179)).bind fun a182=>
     cond a182
     (some true)
     ((idxO s137 a152).bind fun a191=>
      some a191)).bind fun (s171:Bool)=>
    cond s171
    (some (.inr false))
    ((setO s137 a152 true).bind fun a203=>
     some (.inl a203))) L.length 0 (sA n fun _=>false)=some (.inr false)):=by
 rcases A3_ (n:=L.length) (s:=sA n fun _=>false) (f:=fun (k10:Nat) (s137:List Bool)=>
    (idxO L ((k10:Nat):Int)).bind fun a152=>
    ((subO (n:Int) 1).bind fun a177=>
     (aF a152 0 a177).bind fun y179=>
     (some (!y179)).bind fun a182=>
     cond a182
     (some true)
     ((idxO s137 a152).bind fun a191=>
      some a191)).bind fun (s171:Bool)=>
    cond s171
    (some (.inr false))
    ((setO s137 a152 true).bind fun a203=>
     some (.inl a203))) (fun j s=>s.length=n∧(∀ y,M s y↔y∈L.take j)∧yE n (L.take j)=true) (fun t=>t=false∧yE n L=false)
   ⟨tE _ _,fun y=>⟨fun h=>(M_none n y h).elim,fun h=>by simp at h⟩,rfl⟩ (fun j s hj ⟨h1,h2,h3⟩=>by
  have hstep:=Is_ (n:=n) hj
  rw [h3,Bool.true_and] at hstep
  have hpre:∀ {β:Type} {k:Bool→Option β} {y:Option β} (b:Bool),b=!(rng L[j] 0 ((n:Int)-1)&&!decide (L[j]∈L.take j))→k b=y→(((subO (n:Int) 1).bind fun a177=>
     (aF L[j] 0 a177).bind fun y179=>
     (some (!y179)).bind fun a182=>
     cond a182
     (some true)
     ((idxO s L[j]).bind fun a191=>
      some a191)).bind k)=y:=by
   intro β k y b hb hk
   refine bnd (a:=b) ?_ hk
   rw [hb]
   refine bnd (yC (by omega) (by omega)) (bnd (within_ _ _ _) (stp ?_))
   cases hr:rng L[j] 0 ((n:Int)-1) with
   | false=>rfl
   | true=>
    have:=rng_true.1 hr
    refine cFW rfl (bnd (M_idx (by omega) (by omega)) ?_)
    rw [decide_eq_decide.2 (h2 L[j])]
    cases decide (L[j]∈L.take j) <;> rfl
  cases hc:(rng L[j] 0 ((n:Int)-1)&&!decide (L[j]∈L.take j)) with
  | false=>
   rw [hc] at hstep
   exact .inr ⟨false,bnd (kA (List.getElem?_eq_getElem hj)) (hpre true (by rw [hc];rfl) rfl),rfl,It_ hstep⟩
  | true=>
   rw [hc] at hstep
   simp only [Bool.and_eq_true] at hc
   have hr:=rng_true.1 hc.1
   have hs:=M_set (s:=s) (x:=L[j]) (by omega) (by omega)
   refine .inl ⟨_,bnd (kA (List.getElem?_eq_getElem hj)) (hpre false (by rw [hc.1,hc.2];rfl) (bnd hs.1 rfl)),by rw [List.length_set];exact h1,fun y=>?_,hstep⟩
   rw [hs.2 y,h2 y,List.take_add_one,List.getElem?_eq_getElem hj,List.mem_append]
   simp) with ⟨s,h1,_,_,h2⟩ | ⟨t,h1,rfl,h2⟩
 · rw [List.take_length] at h2;exact .inl ⟨h2,s,h1⟩
 · exact .inr ⟨h2,h1⟩
theorem Ck_ {n:Nat} (hn:n≤1099511627776) (L:List Int):jY L (n:Int)=some (decide (L.length=n)&&yE n L):=by
 refine stp ?_
 by_cases h:L.length=n
 ·
  refine cFW (nT (dT (by omega))) (bnd (rM _ (by unfold bB;omega)) ?_)
  rw [dT h,Bool.true_and]
  rcases Ji_ hn L with ⟨h1,s,h2⟩ | ⟨h1,h2⟩
  · rw [h1];exact sqW h2 rfl
  · rw [h1];exact sqW h2 rfl
 · rw [dF h];exact cTW (nF (dF (by omega))) rfl
def zH (g:Gra):List Int:=g.2.2.1++(g.2.1.map edO).flatten
def ends (g:Gra):List Int:=g.2.2.2++(g.2.1.map edI).flatten
def kX (g:Gra):Bool:=gOk g&&((decide ((zH g).length=g.1.toNat)&&yE g.1.toNat (zH g))&&(decide ((ends g).length=g.1.toNat)&&yE g.1.toNat (ends g)))
theorem uJ {n:Nat}{a b:List Int} (ha:rC n a) (hb:rC n b):rC n (a++b):=by
 intro x hx
 rcases List.mem_append.1 hx with h | h
 · exact ha x h
 · exact hb x h
theorem uO {n:Nat}{l:List Int} (h:rC n l):wOk n l=true:=List.all_eq_true.2 fun x hx=>rng_true.2 (by have:=h x hx;omega)
theorem Ea_ {L:List (List Int)} (h:L.flatten.length≤1099511627776):rE L=some L.flatten:=by
 have:=vC (n:=L.length) (fun j=>(L.take j).flatten) (f:=fun (k5:Nat) (s41:List Int)=>
   (idxO L ((k5:Nat):Int)).bind fun a57=>
   (oA s41 a57).bind fun a61=>
   some a61) (fun j hj=>by
  have e:(L.take (j+1)).flatten=(L.take j).flatten++L[j]:=by
   rw [List.take_add_one,List.getElem?_eq_getElem hj,List.flatten_append]
   simp only [Option.toList_some,List.flatten_cons,List.flatten_nil,List.append_nil]
  have hle:(L.take (j+1)).flatten.length≤L.flatten.length:=by
   have:L=L.take (j+1)++L.drop (j+1):=(List.take_append_drop _ _).symm
   conv=>rhs;rw [this]
   rw [List.flatten_append,List.length_append];omega
  rw [e,List.length_append] at hle
  rw [e]
  exact bnd (kA (List.getElem?_eq_getElem hj)) (bnd (jB (by unfold bB;omega)) rfl))
 rw [List.take_length] at this
 exact bnd this rfl
theorem Ec_ (g:Gra):yX g=some (kX g):=by
 have hm:bB=1099511627776:=rfl
 unfold kX
 cases hg:gOk g with
 | false=>refine bnd (Ed_ g) ?_;rw [hg];rfl
 | true=>
  obtain ⟨n,h⟩:=AL_ hg
  obtain ⟨w,E,I,O⟩:=g
  obtain rfl:w=(n:Int):=h.w
  have ti:=h.ti;have to:=h.to;have i12:=h.i12;have o12:=h.o12;have n100:=h.n100;have e60:=h.e60
  dsimp only at ti to i12 o12 e60
  rw [Bool.true_and]
  refine bnd (Ed_ _) ?_
  rw [hg]
  refine stp (cFW rfl (stp ?_))
  have loop:=vC (n:=E.length) (fun j=>(I::(E.take j).map edO,O::(E.take j).map edI)) (f:=fun (k73:Nat) (s152:List (List Int)×List (List Int))=>
    (idxO E ((k73:Nat):Int)).bind fun a169=>
    (oA s152.1 [a169.2.2.2]).bind fun a185=>
    (oA s152.2 [a169.2.2.1]).bind fun a194=>
    some (a185,a194)) (fun j hj=>by
   have e:∀ s:Edg→List Int,(E.take (j+1)).map s=(E.take j).map s++[s E[j]]:=fun s=>by rw [List.take_add_one,List.getElem?_eq_getElem hj,List.map_append];rfl
   refine bnd (kA (List.getElem?_eq_getElem hj)) (bnd (jB ?_) (bnd (jB ?_) ?_))
   · simp;omega
   · simp;omega
   · rw [e,e];rfl)
  rw [List.take_length] at loop
  refine bnd loop ?_
  have f1:(I::E.map edO).flatten=zH ((n:Int),E,I,O):=by unfold zH;rw [List.flatten_cons]
  have f2:(O::E.map edI).flatten=ends ((n:Int),E,I,O):=by unfold ends;rw [List.flatten_cons]
  have l1:(zH ((n:Int),E,I,O)).length≤1099511627776:=by
   unfold zH;rw [List.length_append]
   have:(E.map edO).flatten.length=cD E edO:=rfl
   dsimp only;omega
  have l2:(ends ((n:Int),E,I,O)).length≤1099511627776:=by
   unfold ends;rw [List.length_append]
   have:(E.map edI).flatten.length=cD E edI:=rfl
   dsimp only;omega
  rw [Int.toNat_natCast]
  refine bnd (bnd (bnd (Ea_ (by rw [f1];exact l1)) (bnd (Ck_ (by omega) _) rfl)) ?_) rfl
  rw [f1]
  cases (decide ((zH ((n:Int),E,I,O)).length=n)&&yE n (zH ((n:Int),E,I,O))) with
  | false=>rfl
  | true=>
   refine cTW rfl (bnd (bnd (Ea_ (by rw [f2];exact l2)) (bnd (Ck_ (by omega) _) rfl)) ?_)
   rw [f2];rfl
end Go.Proofs.YtodfjigndedehaaGreatDoor
namespace Go.Proofs.YtodfjigndedehaaGreatDoor
set_option linter.unusedVariables false
def plcF:List Int→Nat→Int→Int
 | [],_,_=>-1
 | a::l,i,x=>if a=x then (i:Int) else plcF l (i+1) x
def plc (l:List Int) (x:Int):Int:=plcF l 0 x
theorem DW_:∀ {l:List Int}{i:Nat}{x:Int},x∈l→(i:Int)≤plcF l i x∧plcF l i x<(i:Int)+l.length
 | a::l,i,x,h=>by
  unfold plcF
  by_cases ha:a=x
  · rw [if_pos ha,List.length_cons];omega
  ·
   rw [if_neg ha]
   have:=DW_ (i:=i+1) ((List.mem_cons.1 h).resolve_left fun e=>ha e.symm)
   rw [List.length_cons];omega
theorem DV_:∀ {l:List Int}{i:Nat}{x:Int},¬x∈l→plcF l i x = -1
 | [],_,_,_=>rfl
 | a::l,i,x,h=>by
  rw [List.mem_cons,not_or] at h
  unfold plcF
  rw [if_neg (fun e=>h.1 e.symm)]
  exact DV_ h.2
theorem Dr_:∀ {l:List Int}{i:Nat}{x y:Int},¬x∈l→plcF (l++[x]) i y=if y=x then ((i+l.length:Nat):Int) else plcF l i y
 | [],i,x,y,_=>by
  show (if x=y then (i:Int) else -1)=_
  by_cases h:y=x
  · rw [if_pos h.symm,if_pos h];rfl
  · rw [if_neg (fun e=>h e.symm),if_neg h];rfl
 | a::l,i,x,y,h=>by
  rw [List.mem_cons,not_or] at h
  show (if a=y then (i:Int) else plcF (l++[x]) (i+1) y)=if y=x then _ else if a=y then (i:Int) else plcF l (i+1) y
  rw [Dr_ h.2]
  by_cases hy:y=x
  ·
   rw [if_neg (fun e=>h.1 (hy.symm.trans e.symm)),if_pos hy,if_pos hy,List.length_cons]
   congr 1;omega
  · rw [if_neg hy,if_neg hy]
theorem iR {l:List Int}{x:Int} (h:x∈l):0≤plc l x∧plc l x<l.length:=by
 have:=DW_ (i:=0) h
 unfold plc;omega
theorem EX_ {l:List Int}{x:Int} (h:¬x∈l):plc l x = -1:=DV_ h
theorem DU_ {l:List Int}{x y:Int} (h:¬x∈l):plc (l++[x]) y=if y=x then ((l.length:Nat):Int) else plc l y:=by
 unfold plc
 rw [Dr_ h,Nat.zero_add]
theorem plc_neg {l:List Int}{x:Int}:plc l x<0↔¬x∈l:=by
 constructor
 · intro h hx;have:=iR hx;omega
 · intro h;rw [EX_ h];omega
def giv1 (o:List Int) (w:Int):List Int:=if w∈o then o else o++[w]
def giv (o l:List Int):List Int:=l.foldl giv1 o
structure Od (n:Nat) (o:List Int):Prop where
 r:rC n o
 d:o.Nodup
theorem Od.le {n:Nat}{o:List Int} (h:Od n o):o.length≤n:=by
 rw [←iU h.r h.d];exact DR_ _ _
theorem Od.giv1 {n:Nat}{o:List Int}{w:Int} (h:Od n o) (hw:0≤w∧w<(n:Int)):Od n (giv1 o w):=by
 unfold Go.Proofs.YtodfjigndedehaaGreatDoor.giv1
 split
 · exact h
 · exact ⟨uJ h.r (fun x hx=>by simp at hx;subst hx;exact hw),nodup_snoc.2 ⟨h.d,‹_›⟩⟩
theorem Od.giv {n:Nat}:∀ {l:List Int}{o:List Int},Od n o→rC n l→Od n (giv o l)
 | [],_,h,_=>h
 | w::l,o,h,hl=>Od.giv (l:=l) (h.giv1 (hl w (.head _))) (fun x hx=>hl x (.tail _ hx))
theorem giv1_mem {o:List Int}{w x:Int}:x∈giv1 o w↔x∈o∨x=w:=by
 unfold giv1
 split
 ·
  constructor
  · exact .inl
  ·
   rintro (h | rfl)
   · exact h
   · assumption
 · simp
theorem giv_mem:∀ {l o:List Int}{x:Int},x∈giv o l↔x∈o∨x∈l
 | [],o,x=>by simp [giv]
 | w::l,o,x=>by
  show x∈giv (giv1 o w) l↔_
  rw [giv_mem,giv1_mem,List.mem_cons,or_assoc]
theorem jW (o a b:List Int):giv o (a++b)=giv (giv o a) b:=List.foldl_append
theorem JH_ (o:List Int) (w:Int):∃ r,giv1 o w=o++r:=by
 unfold giv1
 split
 · exact ⟨[],by simp⟩
 · exact ⟨[w],rfl⟩
theorem Bv_:∀ (l o:List Int),∃ r,giv o l=o++r
 | [],o=>⟨[],by simp [giv]⟩
 | w::l,o=>by
  obtain ⟨r,h⟩:=JH_ o w
  obtain ⟨r',h'⟩:=Bv_ l (giv1 o w)
  exact ⟨r++r',by show giv (giv1 o w) l=_;rw [h',h,List.append_assoc]⟩
theorem nW {n:Nat} (hn:n≤1000){o l:List Int} (ho:Od n o) (hl:rC n l):oI (sA n fun k=>plc o k) o l=some (sA n (fun k=>plc (giv o l) k),giv o l):=by
 have hm:bB=1099511627776:=rfl
 have key:=vC (n:=l.length) (fun j=>((sA n fun k=>plc (giv o (l.take j)) k),giv o (l.take j))) (f:=fun (k4:Nat) (s84:List Int×List Int)=>
   (idxO l ((k4:Nat):Int)).bind fun a100=>
   (idxO s84.1 a100).bind fun a108=>
   (some (decide (a108<0))).bind fun a110=>
   cond a110
   ((setO s84.1 a100 ((s84.2.length:Nat):Int)).bind fun a120=>
    (oA s84.2 [a100]).bind fun a126=>
    some (a120,a126))
   (some (s84.1,s84.2))) (fun j hj=>by
  have hOd:Od n (giv o (l.take j)):=ho.giv (fun x hx=>hl x (List.mem_of_mem_take hx))
  have hle:=hOd.le
  have hr:=hl _ (List.getElem_mem hj)
  have hs:giv o (l.take (j+1))=giv1 (giv o (l.take j)) l[j]:=by
   rw [List.take_add_one,List.getElem?_eq_getElem hj]
   exact jW _ _ _
  obtain ⟨m,hme⟩:∃ m:Nat,l[j]=(m:Int):=⟨l[j].toNat,by omega⟩
  rw [hs]
  refine bnd (kA (List.getElem?_eq_getElem hj)) ?_
  rw [hme]
  refine bnd (bF _ (by omega)) (stp ?_)
  unfold giv1
  by_cases hin:(m:Int)∈giv o (l.take j)
  ·
   rw [if_pos hin]
   exact cFW (dF (fun h=>plc_neg.1 h hin)) rfl
  ·
   rw [if_neg hin]
   refine cTW (dT (plc_neg.2 hin)) (bnd (kH _ _ (by omega)) (bnd (jB (by simp;omega)) (congrArg some (Prod.ext (yD fun k hk=>?_) rfl))))
   rw [DU_ hin]
   by_cases hkm:k=m
   · rw [if_pos hkm,if_pos (by omega)]
   · rw [if_neg hkm,if_neg (by omega)])
 rw [List.take_length] at key
 exact bnd key rfl
theorem Fu_ {n:Nat} (hn:n≤1000):aU (n:Int)=some (sA n fun _=>(-1:Int)):=by
 have hm:bB=1099511627776:=rfl
 refine bnd (rM _ (by omega)) ?_
 rw [tE]
 exact bnd (sQ (fun _=>(-1:Int)) (fun _=>0) (fun j hj=>bnd (kH _ _ hj) rfl)) rfl
theorem pU {n:Nat} (hn:n≤1000) (a:Int):sN a (n:Int)=some (sA n fun _=>a):=by
 have hm:bB=1099511627776:=rfl
 refine bnd (uI (by omega)) ?_
 rw [aV,tE]
 exact bnd (sQ (fun _=>a) (fun _=>0) (fun j hj=>bnd (kH _ _ hj) rfl)) rfl
def whrF (s:Edg→List Int):List Edg→Nat→Int→Int→Int
 | [],_,_,a=>a
 | e::E,i,x,a=>whrF s E (i+1) x (if x∈s e then (i:Int) else a)
def whr (s:Edg→List Int) (E:List Edg) (x:Int):Int:=whrF s E 0 x (-1)
theorem whrF_snoc {s:Edg→List Int}:∀ {E:List Edg}{i:Nat}{x a:Int}{e:Edg},whrF s (E++[e]) i x a=if x∈s e then ((i+E.length:Nat):Int) else whrF s E i x a
 | [],i,x,a,e=>rfl
 | d::E,i,x,a,e=>by
  show whrF s (E++[e]) (i+1) x (if x∈s d then (i:Int) else a)=if x∈s e then _ else whrF s E (i+1) x (if x∈s d then (i:Int) else a)
  rw [whrF_snoc,List.length_cons]
  congr 2;omega
theorem tQ {s:Edg→List Int}{E:List Edg}{j:Nat} (hj:j<E.length) (x:Int):whr s (E.take (j+1)) x=if x∈s E[j] then (j:Int) else whr s (E.take j) x:=by
 rw [List.take_add_one,List.getElem?_eq_getElem hj]
 unfold whr
 rw [show (some E[j]).toList=[E[j]] from rfl,whrF_snoc,List.length_take,Nat.min_eq_left (by omega),Nat.zero_add]
theorem EG_ (s:Edg→List Int) (E:List Edg) (x:Int):(whr s E x = -1∧∀ e∈E,¬x∈s e)∨∃ i,∃ h:i<E.length,whr s E x=(i:Int)∧x∈s E[i]:=by
 have key:∀ j,j≤E.length→(whr s (E.take j) x = -1∧∀ e∈E.take j,¬x∈s e)∨∃ i,∃ h:i<E.length,whr s (E.take j) x=(i:Int)∧x∈s E[i]:=by
  intro j
  induction j with
  | zero=>intro _;exact .inl ⟨rfl,fun e he=>by simp at he⟩
  | succ j ih=>
   intro hj
   rw [tQ (by omega)]
   by_cases h:x∈s E[j]
   · rw [if_pos h];exact .inr ⟨j,by omega,rfl,h⟩
   ·
    rw [if_neg h]
    rcases ih (by omega) with ⟨h1,h2⟩ | h1
    ·
     refine .inl ⟨h1,fun e he=>?_⟩
     rw [List.take_add_one,List.getElem?_eq_getElem (by omega)] at he
     rcases List.mem_append.1 he with he | he
     · exact h2 e he
     · simp at he;subst he;exact h
    · exact .inr h1
 have:=key E.length (Nat.le_refl _)
 rwa [List.take_length] at this
theorem oU {n:Nat} (l:List Int) (v:Int) (f:Nat→Int) (hl:rC n l){g:Nat→List Int→Option (List Int)} (hg:∀ k s,g k s=((idxO l ((k:Nat):Int)).bind fun a=>(setO s a v).bind fun b=>some b)) :
  forS g l.length 0 (sA n f)=some (sA n fun k=>if (k:Int)∈l then v else f k):=by
 have key:=vC (f:=g) (n:=l.length) (fun j=>sA n fun k=>if (k:Int)∈l.take j then v else f k) (fun j hj=>by
  rw [hg]
  have hr:=hl _ (List.getElem_mem hj)
  obtain ⟨m,hme⟩:∃ m:Nat,l[j]=(m:Int):=⟨l[j].toNat,by omega⟩
  refine bnd (kA (List.getElem?_eq_getElem hj)) ?_
  rw [hme]
  refine bnd (kH _ _ (by omega)) (congrArg some (yD fun k hk=>?_))
  rw [List.take_add_one,List.getElem?_eq_getElem hj,hme]
  by_cases h:k=m
  · subst h;rw [if_pos rfl,if_pos (by simp)]
  ·
   rw [if_neg h]
   have:¬(k:Int)=(m:Int):=by omega
   simp [this])
 rw [List.take_length] at key
 have e0:(sA n fun k=>if (k:Int)∈l.take 0 then v else f k)=sA n f:=yD fun k hk=>by simp
 rw [e0] at key
 exact key
theorem If_ {n:Nat} (hn:n≤1000){E:List Edg}{I O:List Int} (hE:zE n E):bZ ((n:Int),E,I,O)=some (sA n fun k=>whr edO E k):=by
 have hm:bB=1099511627776:=rfl
 refine bnd (rM _ (by omega)) ?_
 rw [tE]
 refine bnd (sQ (fun _=>(-1:Int)) (fun _=>0) (fun j hj=>bnd (kH _ _ hj) rfl)) ?_
 have key:=vC (n:=E.length) (fun j=>sA n fun k=>whr edO (E.take j) k) (f:=fun (k57:Nat) (s236:List Int)=>
   (idxO E ((k57:Nat):Int)).bind fun a251=>
   (forS (fun (k263:Nat) (s302:List Int)=>
     (idxO a251.2.2.2 ((k263:Nat):Int)).bind fun a317=>
     (setO s302 a317 ((k57:Nat):Int)).bind fun a325=>
     some a325) a251.2.2.2.length 0 s236).bind fun (s330:List Int)=>
   some s330) (fun j hj=>by
  refine bnd (kA (List.getElem?_eq_getElem hj)) (bnd (oU (edO E[j]) _ _ (hE _ (List.getElem_mem hj)).2 (fun _ _=>rfl)) (congrArg some (yD fun k hk=>?_)))
  rw [tQ hj])
 rw [List.take_length] at key
 exact bnd key rfl
theorem mtEnds_ {n:Nat} (hn:n≤1000){E:List Edg}{I O:List Int} (hE:zE n E):zZ ((n:Int),E,I,O)=some (sA n fun k=>whr edI E k):=by
 have hm:bB=1099511627776:=rfl
 refine bnd (rM _ (by omega)) ?_
 rw [tE]
 refine bnd (sQ (fun _=>(-1:Int)) (fun _=>0) (fun j hj=>bnd (kH _ _ hj) rfl)) ?_
 have key:=vC (n:=E.length) (fun j=>sA n fun k=>whr edI (E.take j) k) (f:=fun (k57:Nat) (s236:List Int)=>
   (idxO E ((k57:Nat):Int)).bind fun a251=>
   (forS (fun (k263:Nat) (s302:List Int)=>
     (idxO a251.2.2.1 ((k263:Nat):Int)).bind fun a317=>
     (setO s302 a317 ((k57:Nat):Int)).bind fun a325=>
     some a325) a251.2.2.1.length 0 s236).bind fun (s330:List Int)=>
   some s330) (fun j hj=>by
  refine bnd (kA (List.getElem?_eq_getElem hj)) (bnd (oU (edI E[j]) _ _ (hE _ (List.getElem_mem hj)).1 (fun _ _=>rfl)) (congrArg some (yD fun k hk=>?_)))
  rw [tQ hj])
 rw [List.take_length] at key
 exact bnd key rfl
theorem gends_ {n:Nat} (hn:n≤1000){E:List Edg}{I O:List Int} (hE:zE n E):aZ ((n:Int),E,I,O)=some (sA n (fun k=>whr edO E k),sA n (fun k=>whr edI E k)):=by
 refine bnd (bnd (pU hn _) (bnd (pU hn _) rfl)) ?_
 have key:=vC (n:=E.length) (fun j=>(sA n (fun k=>whr edO (E.take j) k),sA n (fun k=>whr edI (E.take j) k))) (f:=fun (k159:Nat) (s476:List Int×List Int)=>
   (idxO E ((k159:Nat):Int)).bind fun a491=>
   (forS (fun (k503:Nat) (s542:List Int)=>
     (idxO a491.2.2.2 ((k503:Nat):Int)).bind fun a557=>
     (setO s542 a557 ((k159:Nat):Int)).bind fun a565=>
     some a565) a491.2.2.2.length 0 s476.1).bind fun (s570:List Int)=>
   (forS (fun (k572:Nat) (s611:List Int)=>
     (idxO a491.2.2.1 ((k572:Nat):Int)).bind fun a626=>
     (setO s611 a626 ((k159:Nat):Int)).bind fun a634=>
     some a634) a491.2.2.1.length 0 s476.2).bind fun (s639:List Int)=>
   some (s570,s639)) (fun j hj=>by
  have he:=hE _ (List.getElem_mem hj)
  refine bnd (kA (List.getElem?_eq_getElem hj)) (bnd (oU (edO E[j]) _ _ he.2 (fun _ _=>rfl)) (bnd (oU (edI E[j]) _ _ he.1 (fun _ _=>rfl)) (congrArg some (Prod.ext (yD fun k hk=>?_) (yD fun k hk=>?_)))))
  · rw [tQ hj]
  · rw [tQ hj])
 rw [List.take_length] at key
 exact bnd key rfl
abbrev WS:=List Int×List Int
def stE (E:List Edg) (s:WS) (e:Int):WS:=if e<0∨e∈s.2 then s else match E[e.toNat]? with
 | some x=>(giv s.1 (edI x++edO x),s.2++[e])
 | none=>s
def stW (E:List Edg) (s:WS) (w:Int):WS:=stE E (stE E s (whr edI E w)) (whr edO E w)
def wlk (E:List Edg) (s0:WS):Nat→WS
 | 0=>s0
 | k+1=>match (wlk E s0 k).1[k]? with
  | some w=>stW E (wlk E s0 k) w
  | none=>wlk E s0 k
structure Ws (n m:Nat) (s:WS):Prop where
 o:Od n s.1
 e:Od m s.2
theorem rR {n:Nat}{E:List Edg} (hE:zE n E){s:WS} (h:Ws n E.length s){e:Int} (he:e = -1∨0≤e∧e<(E.length:Int)):Ws n E.length (stE E s e):=by
 unfold stE
 split
 · exact h
 ·
  rename_i hn
  rw [not_or] at hn
  split
  ·
   rename_i x hx
   have hm:=List.mem_of_getElem? hx
   exact ⟨h.o.giv (uJ (hE x hm).1 (hE x hm).2),⟨uJ h.e.r (fun y hy=>by simp at hy;subst hy;omega),nodup_snoc.2 ⟨h.e.d,hn.2⟩⟩⟩
  · exact h
theorem bI (s:Edg→List Int) (E:List Edg) (x:Int):whr s E x = -1∨0≤whr s E x∧whr s E x<(E.length:Int):=by
 rcases EG_ s E x with ⟨h,_⟩ | ⟨i,hi,h,_⟩
 · exact .inl h
 · exact .inr (by omega)
theorem stW_ok {n:Nat}{E:List Edg} (hE:zE n E){s:WS} (h:Ws n E.length s) (w:Int):Ws n E.length (stW E s w):=rR hE (rR hE h (bI _ _ _)) (bI _ _ _)
theorem sO {n:Nat}{E:List Edg} (hE:zE n E){s:WS} (h:Ws n E.length s):∀ k,Ws n E.length (wlk E s k)
 | 0=>h
 | k+1=>by
  show Ws n E.length (match (wlk E s k).1[k]? with
   | some w=>stW E (wlk E s k) w
   | none=>wlk E s k)
  split
  · exact stW_ok hE (sO hE h k) _
  · exact sO hE h k
theorem mL (E:List Edg) (s:WS) (e:Int):∃ r,(stE E s e).1=s.1++r:=by
 unfold stE
 split
 · exact ⟨[],by simp⟩
 ·
  split
  · exact Bv_ _ _
  · exact ⟨[],by simp⟩
theorem EP_ (E:List Edg) (s:WS) (w:Int):s.1.length≤(stW E s w).1.length:=by
 obtain ⟨r,h⟩:=mL E s (whr edI E w)
 obtain ⟨r',h'⟩:=mL E (stE E s (whr edI E w)) (whr edO E w)
 unfold stW
 rw [h',h];simp
theorem DG_ {E:List Edg}{s:WS}{k:Nat} (h:(wlk E s k).1.length≤k):∀ d,wlk E s (k+d)=wlk E s k
 | 0=>rfl
 | d+1=>by
  have ih:=DG_ h d
  show (match (wlk E s (k+d)).1[k+d]? with
   | some w=>stW E (wlk E s (k+d)) w
   | none=>wlk E s (k+d))=_
  rw [ih,List.getElem?_eq_none (by omega)]
theorem EC_ {n:Nat}{E:List Edg} (hE:zE n E){s:WS} (h:Ws n E.length s){k:Nat} (hk:(wlk E s k).1.length≤k) (hkn:k≤n):wlk E s n=wlk E s k:=by
 have:=DG_ hk (n-k)
 rwa [show k+(n-k)=n by omega] at this
theorem Ef_ {σ:Type}{f:Nat→σ→Option σ}{n k:Nat}{s s':σ} (h:f k s=some s'):forS f (n+1) k s=forS f n (k+1) s':=by
 show (f k s).bind _=_
 rw [h];rfl
theorem cnWalk_ {n:Nat} (hn:n≤1000){E:List Edg}{I O:List Int} (hE:zE n E) (hm:E.length≤1000){s:WS} (hs:Ws n E.length s) :
  Ac_ ((n:Int),E,I,O) (sA n fun k=>plc s.1 k) (sA E.length fun k=>plc s.2 k) s.1 ((s.2.length:Nat):Int) =
   some (sA n (fun k=>plc (wlk E s n).1 k),sA E.length (fun k=>plc (wlk E s n).2 k),(((wlk E s n).2.length:Nat):Int),(wlk E s n).1):=by
 refine bnd (If_ hn hE) (bnd (mtEnds_ hn hE) ?_)
 have edge:∀ (t:WS) (e:Int),Ws n E.length t→(e = -1∨0≤e∧e<(E.length:Int))→∀ l:List Int,∀ k:Nat,idxO l (k:Int)=some e →
   (((idxO l ((k:Nat):Int)).bind fun a3922=>
       ((some (decide (a3922<0))).bind fun a3944=>
        cond a3944
        (some true)
        ((idxO (sA E.length fun k=>plc t.2 k) a3922).bind fun a3953=>
         (some (decide ((0:Int)≤a3953))).bind fun a3955=>
         some a3955)).bind fun (s3938:Bool)=>
       cond s3938
       (some ((sA n fun k=>plc t.1 k),(sA E.length fun k=>plc t.2 k),t.1,((t.2.length:Nat):Int)))
       ((setO (sA E.length fun k=>plc t.2 k) a3922 ((t.2.length:Nat):Int)).bind fun a3967=>
        (nA ((t.2.length:Nat):Int) 1).bind fun a3970=>
        (idxO E a3922).bind fun a3978=>
        (oI (sA n fun k=>plc t.1 k) t.1 a3978.2.2.1).bind fun y3986=>
        (idxO E a3922).bind fun a3997=>
        (oI y3986.1 y3986.2 a3997.2.2.2).bind fun y4005=>
        some (y4005.1,a3967,y4005.2,a3970))).bind fun (s3909:List Int×List Int×List Int×Int)=>
      some (s3909.1,s3909.2.1,s3909.2.2.1,s3909.2.2.2)) =
    some ((sA n fun k=>plc (stE E t e).1 k),(sA E.length fun k=>plc (stE E t e).2 k),(stE E t e).1,(((stE E t e).2.length:Nat):Int)):=by
  intro t e ht he l k hl
  refine bnd (a:=((sA n fun k=>plc (stE E t e).1 k),(sA E.length fun k=>plc (stE E t e).2 k),(stE E t e).1,(((stE E t e).2.length:Nat):Int))) (bnd hl ?_) rfl
  by_cases h0:e<0
  ·
   have:stE E t e=t:=by unfold stE;rw [if_pos (.inl h0)]
   rw [this]
   exact bnd (a:=true) (stp (cTW (dT h0) rfl)) rfl
  obtain ⟨i,rfl⟩:∃ i:Nat,e=(i:Int):=⟨e.toNat,by omega⟩
  have hi:i<E.length:=by omega
  have hidx:=bF (fun k=>plc t.2 (k:Int)) hi
  by_cases hin:(i:Int)∈t.2
  ·
   have:stE E t (i:Int)=t:=by unfold stE;rw [if_pos (.inr hin)]
   rw [this]
   have:=iR hin
   exact bnd (a:=true) (stp (cFW (dF h0) (bnd hidx (stp (congrArg some (dT (by omega))))))) rfl
  ·
   have hst:stE E t (i:Int)=(giv (giv t.1 (edI E[i])) (edO E[i]),t.2++[(i:Int)]):=by
    unfold stE
    rw [if_neg (by rw [not_or];exact ⟨h0,hin⟩),Int.toNat_natCast,List.getElem?_eq_getElem hi]
    show (giv t.1 (edI E[i]++edO E[i]),_)=_
    rw [jW]
   have hE':=hE _ (List.getElem_mem hi)
   have hle:=ht.e.le
   have hpn:=plc_neg.2 hin
   rw [hst]
   refine bnd (a:=false) (stp (cFW (dF h0) (bnd hidx (stp (congrArg some (dF (by omega))))))) ?_
   refine bnd (kH _ _ hi) (bnd (gB (by omega) (by omega)) (bnd (kA (List.getElem?_eq_getElem hi)) (bnd (nW hn ht.o hE'.1) (bnd (kA (List.getElem?_eq_getElem hi)) (bnd (nW hn (ht.o.giv hE'.1) hE'.2) ?_)))))
   refine congrArg some (Prod.ext rfl (Prod.ext (yD fun k hk=>?_) (Prod.ext rfl ?_)))
   ·
    rw [DU_ hin]
    by_cases hki:k=i
    · rw [if_pos hki,if_pos (by omega)]
    · rw [if_neg hki,if_neg (by omega)]
   · simp
 obtain ⟨t,h1,h2⟩:=CT_ (f:=fun (s3349:List Int×List Int×Int×List Int×Int)=>
   (some (decide (s3349.2.2.1<((s3349.2.2.2.1.length:Nat):Int)))).bind fun a3359=>
   cond a3359
   ((idxO s3349.2.2.2.1 s3349.2.2.1).bind fun a3371=>
    (idxO s3349.2.2.2.1 s3349.2.2.1).bind fun a3379=>
    (idxO (sA n fun k=>whr edI E k) a3371).bind fun a3387=>
    (idxO (sA n fun k=>whr edO E k) a3379).bind fun a3395=>
    (forS (fun (k3400:Nat) (s3804:List Int×List Int×List Int×Int)=>
      ((idxO [a3387,a3395] ((k3400:Nat):Int)).bind fun a3922=>
       ((some (decide (a3922<0))).bind fun a3944=>
        cond a3944
        (some true)
        ((idxO s3804.2.1 a3922).bind fun a3953=>
         (some (decide ((0:Int)≤a3953))).bind fun a3955=>
         some a3955)).bind fun (s3938:Bool)=>
       cond s3938
       (some (s3804.1,s3804.2.1,s3804.2.2.1,s3804.2.2.2))
       ((setO s3804.2.1 a3922 s3804.2.2.2).bind fun a3967=>
        (nA s3804.2.2.2 1).bind fun a3970=>
        (idxO E a3922).bind fun a3978=>
        (oI s3804.1 s3804.2.2.1 a3978.2.2.1).bind fun y3986=>
        (idxO E a3922).bind fun a3997=>
        (oI y3986.1 y3986.2 a3997.2.2.2).bind fun y4005=>
        some (y4005.1,a3967,y4005.2,a3970))).bind fun (s3909:List Int×List Int×List Int×Int)=>
      some (s3909.1,s3909.2.1,s3909.2.2.1,s3909.2.2.2)) ([a3387,a3395].length) 0 (s3349.1,s3349.2.1,s3349.2.2.2.1,s3349.2.2.2.2)).bind fun (s4015:List Int×List Int×List Int×Int)=>
    (nA s3349.2.2.1 1).bind fun a4018=>
    some (.inl (s4015.1,s4015.2.1,a4018,s4015.2.2.1,s4015.2.2.2)))
   (some (.inr (s3349.1,s3349.2.1,s3349.2.2.2.1,s3349.2.2.2.2))))
  (fun j u=>j≤(wlk E s j).1.length∧u=((sA n fun k=>plc (wlk E s j).1 k),(sA E.length fun k=>plc (wlk E s j).2 k),(j:Int),(wlk E s j).1,(((wlk E s j).2.length:Nat):Int)))
  (fun t=>t=((sA n fun k=>plc (wlk E s n).1 k),(sA E.length fun k=>plc (wlk E s n).2 k),(wlk E s n).1,(((wlk E s n).2.length:Nat):Int))) n (by
  rintro j u hjn ⟨hj,rfl⟩
  have hok:=sO hE hs j
  by_cases hlt:j<(wlk E s j).1.length
  ·
   have hle:=hok.o.le
   refine .inl ⟨_,stp (cTW (dT (by dsimp only;omega)) ?_),⟨?_,rfl⟩,by omega⟩
   ·
    have hr:=hok.o.r _ (List.getElem_mem hlt)
    obtain ⟨w,hw⟩:∃ w:Nat,(wlk E s j).1[j]=(w:Int):=⟨((wlk E s j).1[j]).toNat,by omega⟩
    have hget:idxO (wlk E s j).1 (j:Int)=some (w:Int):=by rw [←hw];exact kA (List.getElem?_eq_getElem hlt)
    have hstep:wlk E s (j+1)=stW E (wlk E s j) (w:Int):=by
     show (match (wlk E s j).1[j]? with
      | some w=>stW E (wlk E s j) w
      | none=>wlk E s j)=_
     rw [List.getElem?_eq_getElem hlt,hw]
    refine bnd hget (bnd hget (bnd (bF _ (by omega)) (bnd (bF _ (by omega)) ?_)))
    have ht1:=rR hE hok (bI edI E w)
    refine bnd (a:=((sA n fun k=>plc (stW E (wlk E s j) w).1 k),(sA E.length fun k=>plc (stW E (wlk E s j) w).2 k),(stW E (wlk E s j) w).1,(((stW E (wlk E s j) w).2.length:Nat):Int))) ?_ (bnd (gB (by dsimp only;omega) (by dsimp only;omega)) ?_)
    ·
     show forS _ 2 0 _=_
     refine (Ef_ (edge (wlk E s j) (whr edI E w) hok (bI _ _ _) _ 0 rfl)).trans ?_
     exact (Ef_ (edge _ (whr edO E w) ht1 (bI _ _ _) _ 1 rfl)).trans rfl
    · rw [hstep];rfl
   ·
    rw [show wlk E s (j+1)=stW E (wlk E s j) (wlk E s j).1[j] by
     show (match (wlk E s j).1[j]? with
      | some w=>stW E (wlk E s j) w
      | none=>wlk E s j)=_
     rw [List.getElem?_eq_getElem hlt]]
    have:=EP_ E (wlk E s j) (wlk E s j).1[j]
    omega
  ·
   refine .inr ⟨_,stp (cFW (dF (by dsimp only;omega)) rfl),?_⟩
   rw [EC_ hE hs (k:=j) (by omega) hjn]) (s:=((sA n fun k=>plc s.1 k),(sA E.length fun k=>plc s.2 k),0,s.1,((s.2.length:Nat):Int))) ⟨Nat.zero_le _,rfl⟩
 subst h2
 exact bnd h1 rfl
def w0S (I O:List Int):WS:=(giv (giv [] I) O,[])
theorem sL (n:Nat):Od n []:=⟨(fun x hx=>by cases hx),List.nodup_nil⟩
theorem aX {n m:Nat}{I O:List Int} (hI:rC n I) (hO:rC n O):Ws n m (w0S I O):=⟨((sL n).giv hI).giv hO,sL m⟩
def walk (n:Nat) (g:Gra):WS:=wlk g.2.1 (w0S g.2.2.1 g.2.2.2) n
theorem cnOpen_ {n:Nat} (hn:n≤1000){E:List Edg}{I O:List Int} (hE:zE n E) (hI:rC n I) (hO:rC n O) (hm:E.length≤1000) :
  zT ((n:Int),E,I,O)=some (sA n (fun k=>plc (walk n ((n:Int),E,I,O)).1 k),sA E.length (fun k=>plc (walk n ((n:Int),E,I,O)).2 k),(walk n ((n:Int),E,I,O)).1,(((walk n ((n:Int),E,I,O)).2.length:Nat):Int)):=by
 have h1:=(sL n).giv hI
 refine bnd (Fu_ hn) (bnd (Fu_ hm) (bnd (nW hn (sL n) hI) (bnd (nW hn h1 hO) ?_)))
 exact bnd (cnWalk_ hn hE hm (aX hI hO)) rfl
end Go.Proofs.YtodfjigndedehaaGreatDoor
