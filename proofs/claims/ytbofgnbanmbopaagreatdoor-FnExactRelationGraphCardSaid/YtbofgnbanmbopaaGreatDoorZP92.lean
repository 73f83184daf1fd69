/-
  Plain laws of the partial functions: loops whose states are known, lists read and written. No program in sight. No condition.
-/
import Derived.Test.YtbofgnbanmbopaaGreatDoorZF
import Derived.Test.YtbofgnbanmbopaaGreatDoorZFn
namespace Go.Proofs.YtbofgnbanmbopaaGreatDoor
class Nice (α:Type) where
 ok:α→Prop
instance:Nice Int:=⟨inI⟩
instance:Nice Bool:=⟨fun _=>True⟩
instance {α:Type} [Nice α]:Nice (List α):=⟨fun l=>(l.length:Int)≤9223372036854775807∧∀ x∈l,Nice.ok x⟩
instance {α β:Type} [Nice α] [Nice β]:Nice (α×β):=⟨fun x=>Nice.ok x.1∧Nice.ok x.2⟩
theorem stp {α β:Type}{a:α}{k:α→Option β}{y:Option β} (h:k a=y):(some a).bind k=y:=h
theorem bnd {α β:Type}{m:Option α}{a:α}{k:α→Option β}{y:Option β} (h:m=some a) (h2:k a=y):m.bind k=y:=by rw [h];exact h2
theorem sqW {σ τ:Type}{m r:Option (σ⊕τ)}{k:σ→Option τ}{y:Option τ} (h:m=r) (h2:lC r k=y):lC m k=y:=by rw [h];exact h2
theorem bndW {α β:Type}{m r:Option α}{k:α→Option β}{y:Option β} (h:m=r) (h2:r.bind k=y):m.bind k=y:=by rw [h];exact h2
theorem cTW {α:Type}{c:Bool}{a b y:α} (h:c=true) (h2:a=y):cond c a b=y:=by rw [h];exact h2
theorem cFW {α:Type}{c:Bool}{a b y:α} (h:c=false) (h2:b=y):cond c a b=y:=by rw [h];exact h2
theorem dT {P:Prop} [Decidable P] (h:P):decide P=true:=decide_eq_true h
theorem dF {P:Prop} [Decidable P] (h:¬P):decide P=false:=decide_eq_false h
theorem nT {b:Bool} (h:b=true):(!b)=false:=by rw [h];rfl
theorem nF {b:Bool} (h:b=false):(!b)=true:=by rw [h];rfl
theorem bndB {m:Option Bool}{b c:Bool}{k:Bool→Option Bool} (h:m=some b) (h0:b=false→k false=some false) (h1:b=true→k true=some c):m.bind k=some (b&&c):=by
 rw [h]
 cases b with
 | false=>exact h0 rfl
 | true=>exact h1 rfl
theorem vK {x:Int} (h:inI x):cI x=some x:=if_pos h
theorem rB {a b:Int} (h1:-9223372036854775808≤a+b) (h2:a+b≤9223372036854775807):yA a b=some (a+b):=vK ⟨h1,h2⟩
theorem wD {a b:Int} (h1:-9223372036854775808≤a-b) (h2:a-b≤9223372036854775807):subO a b=some (a-b):=vK ⟨h1,h2⟩
theorem gM {a b:Int} (h1:-9223372036854775808≤a*b) (h2:a*b≤9223372036854775807):yE a b=some (a*b):=vK ⟨h1,h2⟩
theorem dI {a b:Int} (h:b≠0):gD a b=some (a.tmod b):=if_neg h
theorem cZ {α:Type} (xs:List α) (k:Nat):bA xs (k:Int)=xs[k]?:=by
 unfold bA;rw [if_pos (by omega)];rfl
theorem tA {α:Type}{xs:List α}{k:Nat}{a:α} (h:xs[k]?=some a):bA xs (k:Int)=some a:=by rw [cZ,h]
theorem iC {α:Type}{xs:List α}{k:Nat} (a:α) (h:k<xs.length):oA xs (k:Int) a=some (xs.set k a):=by
 unfold oA;rw [if_pos (by omega)];rfl
theorem zB {α:Type}{xs ys:List α} (h:xs.length+ys.length≤gB):iB xs ys=some (xs++ys):=if_pos h
theorem zG {α:Type}{n:Nat} (z:α) (h:n≤gB):fD (n:Int) z=some (List.replicate n z):=by
 unfold fD;rw [if_pos (by omega)];rfl
theorem yW {α:Type}{n:Nat} (z:α) (h:n≤gB):iH 0 (n:Int) z=some []:=by
 unfold iH;rw [if_pos (by omega)];rfl
theorem Ax_ {σ:Type}{f:Nat→σ→Option σ} (v:Nat→σ):∀ (n k:Nat),(∀ j,k≤j→j<k+n→f j (v j)=some (v (j+1)))→sA f n k (v k)=some (v (k+n))
 | 0,k,_=>rfl
 | n+1,k,h=>by
  show (f k (v k)).bind _=_
  rw [h k (Nat.le_refl _) (by omega)]
  show sA f n (k+1) (v (k+1))=_
  rw [Ax_ v n (k+1) (fun j h1 h2=>h j (by omega) (by omega))]
  rw [show k+1+n=k+(n+1) by omega]
theorem mC {σ:Type}{f:Nat→σ→Option σ}{n:Nat} (v:Nat→σ) (h:∀ j,j<n→f j (v j)=some (v (j+1))):sA f n 0 (v 0)=some (v n):=by
 have:=Ax_ v n 0 (fun j _ h2=>h j (by omega))
 simpa using this
theorem bH {α τ:Type}{f:Nat→Unit→Option (Unit⊕τ)}{t:τ} (P:α→Bool):∀ (l:List α) (k:Nat),(∀ j a,l[j]?=some a→f (k+j) ()=some (if P a then .inl () else .inr t))→kC f l.length k ()=some (if l.all P then .inl () else .inr t)
 | [],k,_=>rfl
 | a::l,k,h=>by
  show (f k ()).bind _=_
  have h0:f k ()=_:=h 0 a rfl
  rw [h0]
  cases hP:P a with
  | false=>simp [hP]
  | true=>
   have:=bH P l (k+1) (fun j b hb=>by
    have:=h (j+1) b (by simpa using hb)
    rw [show k+1+j=k+(j+1) by omega];exact this)
   simp only [hP,List.all_cons,Bool.true_and,if_true]
   exact this
theorem gX {σ τ:Type}{f:σ→Option (σ⊕τ)} (v:Nat→σ){t:τ}:∀ (n k:Nat),(∀ j,k≤j→j<k+n→f (v j)=some (.inl (v (j+1))))→f (v (k+n))=some (.inr t)→kB f (v k)=some t
 | 0,k,_,he=>dD he
 | n+1,k,h,he=>by
  rw [jE (h k (Nat.le_refl _) (by omega))]
  refine gX v n (k+1) (fun j h1 h2=>h j (by omega) (by omega)) ?_
  rw [show k+1+n=k+(n+1) by omega];exact he
theorem fT {σ τ:Type}{f:σ→Option (σ⊕τ)} (v:Nat→σ){t:τ} (n:Nat) (h:∀ j,j<n→f (v j)=some (.inl (v (j+1)))) (he:f (v n)=some (.inr t)):kB f (v 0)=some t:=
 gX v n 0 (fun j _ h2=>h j (by omega)) (by simpa using he)
theorem zJ {α β:Type}{f:Nat→List β→Option (List β)} (g:α→β) (l:List α) (s:List β) (hb:s.length+l.length≤gB) (h:∀ j a s',l[j]?=some a→s'.length=s.length+j→f j s'=some (s'++[g a])):sA f l.length 0 s=some (s++l.map g):=by
 have:=mC (f:=f) (n:=l.length) (fun j=>s++(l.take j).map g) (fun j hj=>by
  rw [h j l[j] _ (List.getElem?_eq_getElem hj) (by simp;omega)]
  simp only [List.append_assoc]
  rw [List.take_add_one,List.getElem?_eq_getElem hj]
  simp only [List.map_append,Option.toList_some,List.map_cons,List.map_nil])
 simpa using this
theorem iY {α:Type} (xs:List α) (g:Nat→α→α) (j:Nat) (h:j<xs.length):((xs.take j).mapIdx g++xs.drop j).set j (g j xs[j])=(xs.take (j+1)).mapIdx g++xs.drop (j+1):=by
 rw [List.set_append_right _ _ (by simp;omega)]
 have:j-((xs.take j).mapIdx g).length=0:=by simp;omega
 rw [this,List.take_add_one,List.getElem?_eq_getElem h,List.drop_eq_getElem_cons h,List.mapIdx_append]
 simp only [Option.toList_some,List.mapIdx_cons,List.mapIdx_nil,List.length_take,Nat.min_eq_left (Nat.le_of_lt h),List.set_cons_zero,List.append_assoc,List.singleton_append,Nat.zero_add]
end Go.Proofs.YtbofgnbanmbopaaGreatDoor
namespace Go.Proofs.YtbofgnbanmbopaaGreatDoor
def tot {α:Type} (n:α→Nat) (l:List α):Nat:=(l.map n).sum
theorem tot_nil {α:Type} (n:α→Nat):tot n []=0:=rfl
theorem tot_cons {α:Type} (n:α→Nat) (a:α) (l:List α):tot n (a::l)=n a+tot n l:=by simp [tot]
theorem eI {α:Type} (pre rest:List α) (a:α):(pre++a::rest)[pre.length]?=some a:=by simp
theorem eU {α:Type} (pre rest:List α) (a b:α):(pre++a::rest).set pre.length b=pre++b::rest:=by simp
theorem pH {α:Type} (pre rest:List α) (a:α):pre++a::rest=(pre++[a])++rest:=by simp
theorem len1 {α:Type} (pre:List α) (a:α):(((pre++[a]).length:Nat):Int)=(pre.length:Int)+1:=by simp
def bD:Int:=4611686018427387904
theorem Ad_ {α:Type} (n:α→Nat){f:Int×Int→Option ((Int×Int)⊕(Int⊕Int))} (L:List α) (B:Int)
  (hf:∀ (j:Nat) (a:α) (s:Int),L[j]?=some a→j<L.length→0≤s→s≤B→f (s,(j:Int))=some (if (n a:Int)≤s then .inl (s-n a,(j:Int)+1) else .inr (.inr (-1))))
  (he:∀ s:Int,f (s,(L.length:Int))=some (.inr (.inl s))):∀ (rest pre:List α) (s:Int),L=pre++rest→0≤s→s≤B→kB f (s,(pre.length:Int))=some (if (tot n rest:Int)≤s then .inl (s-tot n rest) else .inr (-1))
 | [],pre,s,hL,h0,_=>by
  have:=he s
  rw [hL,List.append_nil] at this
  rw [dD this,tot_nil,if_pos (by omega)];simp
 | a::rest,pre,s,hL,h0,hB=>by
  have h1:=hf pre.length a s (by rw [hL];exact eI _ _ _) (by rw [hL];simp) h0 hB
  by_cases h:(n a:Int)≤s
  ·
   rw [if_pos h] at h1
   have ih:=Ad_ n L B hf he rest (pre++[a]) (s-n a) (by rw [hL,pH]) (by omega) (by omega)
   rw [len1] at ih
   rw [jE h1,ih,tot_cons]
   by_cases h2:(tot n rest:Int)≤s-n a
   · rw [if_pos h2,if_pos (by omega)];congr 2;omega
   · rw [if_neg h2,if_neg (by omega)]
  ·
   rw [if_neg h] at h1
   rw [dD h1,tot_cons,if_neg (by omega)]
theorem dU {α:Type} (z:α){f:List α×Int→Option ((List α×Int)⊕List α)} (L:List α)
  (hf:∀ (j:Nat) (a:α) (s:List α),L[j]?=some a→j<L.length→s.length=L.length→f (s,(j:Int))=some (.inl (s.set j a,(j:Int)+1)))
  (he:∀ s:List α,s.length=L.length→f (s,(L.length:Int))=some (.inr s)):∀ (rest pre:List α),L=pre++rest→kB f (pre++List.replicate rest.length z,(pre.length:Int))=some L
 | [],pre,hL=>by
  rw [List.append_nil] at hL
  have:=he pre (by rw [hL])
  rw [hL] at this
  have h2:pre++List.replicate ([]:List α).length z=pre:=by simp
  rw [h2,hL,dD this]
 | a::rest,pre,hL=>by
  have h1:=hf pre.length a (pre++z::List.replicate rest.length z) (by rw [hL];exact eI _ _ _) (by rw [hL];simp) (by rw [hL];simp)
  have ih:=dU z L hf he rest (pre++[a]) (by rw [hL,pH])
  rw [eU,pH pre _ a,← len1 pre a] at h1
  rw [List.length_cons,List.replicate_succ]
  rw [jE h1,ih]
theorem rU {α:Type} [DecidableEq α] {f:Int→Option (Int⊕(Unit⊕Bool))} (L M:List α)
  (hf:∀ (j:Nat) (a b:α),L[j]?=some a→M[j]?=some b→j<L.length→f (j:Int)=some (if a=b then .inl ((j:Int)+1) else .inr (.inr false)))
  (he:f (L.length:Int)=some (.inr (.inl ()))):∀ (rest rest' pre pre':List α),L=pre++rest→M=pre'++rest'→pre.length=pre'.length→rest.length=rest'.length→kB f (pre.length:Int)=some (if rest=rest' then .inl () else .inr false)
 | [],[],pre,pre',hL,_,_,_=>by
  rw [hL,List.append_nil] at he
  rw [dD he];rfl
 | [],_::_,_,_,_,_,_,h=>by simp at h
 | _::_,[],_,_,_,_,_,h=>by simp at h
 | a::rest,b::rest',pre,pre',hL,hM,hp,hr=>by
  have h1:=hf pre.length a b (by rw [hL];exact eI _ _ _) (by rw [hM,hp];exact eI _ _ _) (by rw [hL];simp)
  by_cases h:a=b
  ·
   rw [if_pos h] at h1
   have ih:=rU L M hf he rest rest' (pre++[a]) (pre'++[b]) (by rw [hL,pH]) (by rw [hM,pH]) (by simp [hp]) (by simpa using hr)
   rw [len1] at ih
   rw [jE h1,ih]
   by_cases h2:rest=rest'
   · rw [if_pos h2,if_pos (by rw [h,h2])]
   · rw [if_neg h2,if_neg (by intro h3;exact h2 (List.cons.inj h3).2)]
  ·
   rw [if_neg h] at h1
   rw [dD h1,if_neg (by intro h3;exact h (List.cons.inj h3).1)]
def mkL {α:Type} (mk:α→Int→α×Int):List α→Int→List α×Int
 | [],k=>([],k)
 | a::l,k=>((mk a k).1::(mkL mk l (mk a k).2).1,(mkL mk l (mk a k).2).2)
theorem jU {α:Type} (mk:α→Int→α×Int):∀ (l:List α) (k:Int),(mkL mk l k).1.length=l.length
 | [],_=>rfl
 | a::l,k=>by show (mkL mk l _).1.length+1=l.length+1;rw [jU mk l]
theorem dP {α:Type} (mk:α→Int→α×Int) (n:α→Nat) (hmk:∀ a k,(mk a k).2=k+n a):∀ (l:List α) (k:Int),(mkL mk l k).2=k+tot n l
 | [],k=>by simp [mkL,tot]
 | a::l,k=>by
  show (mkL mk l (mk a k).2).2=_
  rw [dP mk n hmk l,hmk,tot_cons];omega
theorem mT {α:Type} (Pr:α→Prop) (mk:α→Int→α×Int) (n:α→Nat) (hmk:∀ a k,(mk a k).2=k+n a){f:List α×Int×Int→Option ((List α×Int×Int)⊕(List α×Int))} (N:Nat) (B:Int)
  (hf:∀ (j:Nat) (a:α) (s:List α) (q:Int),s[j]?=some a→Pr a→s.length=N→j<N→0≤q→q+n a≤B→f (s,q,(j:Int))=some (.inl (s.set j (mk a q).1,(mk a q).2,(j:Int)+1)))
  (he:∀ (s:List α) (q:Int),s.length=N→f (s,q,(N:Int))=some (.inr (s,q))):∀ (rest pre:List α) (q:Int),pre.length+rest.length=N→(∀ a∈rest,Pr a)→0≤q→q+tot n rest≤B→kB f (pre++rest,q,(pre.length:Int))=some (pre++(mkL mk rest q).1,(mkL mk rest q).2)
 | [],pre,q,hN,_,_,_=>by
  have h1:pre.length=N:=by simpa using hN
  have:=he pre q h1
  rw [←h1] at this
  rw [List.append_nil,dD this];simp [mkL]
 | a::rest,pre,q,hN,hP,h0,hB=>by
  rw [tot_cons] at hB
  have h1:=hf pre.length a (pre++a::rest) q (eI _ _ _) (hP a (List.mem_cons_self ..)) (by simpa using hN) (by simp at hN;omega) h0 (by omega)
  have ih:=mT Pr mk n hmk N B hf he rest (pre++[(mk a q).1]) (mk a q).2 (by simp at hN ⊢;omega) (fun b hb=>hP b (List.mem_cons_of_mem _ hb)) (by rw [hmk];omega) (by rw [hmk];omega)
  rw [eU,pH pre rest (mk a q).1,← len1 pre (mk a q).1] at h1
  rw [jE h1,ih]
  simp [mkL]
theorem tX {α:Type} (Pr:α→Prop) (mk:α→Int→α×Int) (n:α→Nat) (hmk:∀ a k,(mk a k).2=k+n a){f:Int×Int→Option ((Int×Int)⊕(Int⊕Int))} (L:List α) (B:Int)
  (hf:∀ (j:Nat) (a:α) (q:Int),L[j]?=some (mk a q).1→Pr a→j<L.length→0≤q→q+n a≤B→f (q,(j:Int))=some (.inl (q+n a,(j:Int)+1)))
  (he:∀ q:Int,f (q,(L.length:Int))=some (.inr (.inl q))):∀ (rest pre:List α) (q:Int),L=pre++(mkL mk rest q).1→(∀ a∈rest,Pr a)→0≤q→q+tot n rest≤B→kB f (q,(pre.length:Int))=some (.inl (q+tot n rest))
 | [],pre,q,hL,_,_,_=>by
  have:=he q
  rw [hL] at this
  have h2:pre++(mkL mk [] q).1=pre:=by simp [mkL]
  rw [h2] at this
  rw [dD this,tot_nil];simp
 | a::rest,pre,q,hL,hP,h0,hB=>by
  rw [tot_cons] at hB
  have hL':L=pre++(mk a q).1::(mkL mk rest (q+n a)).1:=by rw [hL];show _=_;rw [←hmk];rfl
  have h1:=hf pre.length a q (by rw [hL'];exact eI _ _ _) (hP a (List.mem_cons_self ..)) (by rw [hL'];simp) h0 (by omega)
  have ih:=tX Pr mk n hmk L B hf he rest (pre++[(mk a q).1]) (q+n a) (by rw [hL',pH]) (fun b hb=>hP b (List.mem_cons_of_mem _ hb)) (by omega) (by omega)
  rw [len1] at ih
  rw [jE h1,ih,tot_cons];congr 2;omega
end Go.Proofs.YtbofgnbanmbopaaGreatDoor
namespace Go.Proofs.YtbofgnbanmbopaaGreatDoor
def one {α:Type} (_:α):Nat:=1
theorem zO {α:Type} (l:List α):tot one l=l.length:=by
 induction l with
 | nil=>rfl
 | cons a l ih=>rw [tot_cons,ih,List.length_cons];show 1+_=_;omega
theorem Ab_ {α:Type}{n:α→Nat}{l:List α}{a:α} (h:a∈l):n a≤tot n l:=by
 induction l with
 | nil=>cases h
 | cons b l ih=>
  rw [tot_cons]
  cases h with
  | head=>omega
  | tail _ h=>have:=ih h;omega
theorem sE {α:Type}{l:List α}{j:Nat}{a:α} (h:l[j]?=some a):a∈l:=List.mem_of_getElem? h
def bG {α:Type} (l:List α):Prop:=(l.length:Int)≤9223372036854775807
theorem szIntS (a:List Int) (left:Int) (h0:0≤left) (h1:left≤bD) (hl:bG a):jS a left=some (if (a.length:Int)≤left then left-a.length else -1):=by
 unfold bG at hl;unfold bD at h1
 refine bnd (wD (by omega) (by omega)) (stp ?_)
 by_cases h:(a.length:Int)≤left
 · rw [if_pos h];exact cFW (dF (by omega)) rfl
 · rw [if_neg h];exact cTW (dT (by omega)) rfl
def rowN (r:List Int):Nat:=r.length
def rowsN (m:List (List Int)):Nat:=m.length+tot rowN m
def jK (m:List (List Int)):Prop:=bG m∧∀ r∈m,bG r
theorem DV_ {m:List (List Int)} (h:Nice.ok m):jK m:=⟨h.1,fun r hr=>(h.2 r hr).1⟩
theorem szIntSS (a:List (List Int)) (left:Int) (h0:0≤left) (h1:left≤bD) (hl:jK a):lN a left=some (if (rowsN a:Int)≤left then left-rowsN a else -1):=by
 have hl1:=hl.1;unfold bG at hl1;unfold bD at h1
 unfold rowsN
 refine bnd (wD (by omega) (by omega)) (stp ?_)
 by_cases h:(a.length:Int)≤left
 ·
  refine cFW (dF (by omega)) (sqW (Ad_ rowN a (left-a.length) ?_ ?_ a [] _ rfl ?_ (Int.le_refl _)) ?_)
  ·
   intro j r s hj hjl hs hsB
   dsimp only
   refine stp (cTW (dT (by omega)) (bnd (tA hj) (bnd (szIntS r s hs (by unfold bD;omega) (hl.2 r (sE hj))) (stp ?_))))
   unfold rowN
   by_cases h2:(r.length:Int)≤s
   · rw [if_pos h2,if_pos h2];exact cFW (dF (by omega)) (bnd (rB (by omega) (by omega)) rfl)
   · rw [if_neg h2,if_neg h2];exact cTW (dT (by omega)) rfl
  · intro s;dsimp only;exact stp (cFW (dF (by omega)) rfl)
  · omega
  ·
   by_cases h2:(tot rowN a:Int)≤left-a.length
   · rw [if_pos h2,if_pos (by omega),mP];congr 1;omega
   · rw [if_neg h2,if_neg (by omega),seqO_r]
 · rw [if_neg (by omega)];exact cTW (dT (by omega)) rfl
theorem toIntS (a:List Int) (hl:a.length≤gB):iS a=some a:=by
 have hm:gB=1099511627776:=rfl
 refine bnd (zG _ hl) (bnd (dU (0:Int) a ?_ ?_ a [] rfl) rfl)
 ·
  intro j x s hj hjl hs
  dsimp only
  exact stp (cTW (dT (by omega)) (bnd (tA hj) (bnd (iC _ (by omega)) (bnd (rB (by omega) (by omega)) rfl))))
 · intro s hs;dsimp only;exact stp (cFW (dF (by omega)) rfl)
theorem toIntSS (a:List (List Int)) (hl:a.length≤gB) (hr:∀ r∈a,r.length≤gB):dL a=some a:=by
 have hm:gB=1099511627776:=rfl
 refine bnd (zG _ hl) (bnd (dU ([]:List Int) a ?_ ?_ a [] rfl) rfl)
 ·
  intro j x s hj hjl hs
  dsimp only
  exact stp (cTW (dT (by omega)) (bnd (tA hj) (bnd (toIntS x (hr x (sE hj))) (bnd (iC _ (by omega)) (bnd (rB (by omega) (by omega)) rfl)))))
 · intro s hs;dsimp only;exact stp (cFW (dF (by omega)) rfl)
theorem A1_ (a b:List Int) (hl:bG a):tH a b=some (decide (a=b)):=by
 unfold bG at hl
 refine stp ?_
 by_cases h:a.length=b.length
 ·
  refine cFW (nT (dT (by omega))) (sqW (rU a b ?_ ?_ a b [] [] rfl rfl rfl h) ?_)
  ·
   intro j x y hx hy hj
   refine stp (cTW (dT (by omega)) (bnd (tA hx) (bnd (tA hy) (stp ?_))))
   by_cases h2:x=y
   · rw [if_pos h2];exact cFW (nT (dT h2)) (bnd (rB (by omega) (by omega)) rfl)
   · rw [if_neg h2];exact cTW (nF (dF h2)) rfl
  · exact stp (cFW (dF (by omega)) rfl)
  ·
   by_cases h2:a=b
   · rw [if_pos h2,show decide (a=b)=true from dT h2];rfl
   · rw [if_neg h2,show decide (a=b)=false from dF h2];rfl
 · rw [show decide (a=b)=false from dF (fun h2=>h (by rw [h2]))];exact cTW (nF (dF (by omega))) rfl
theorem eqIntSS (a b:List (List Int)) (hl:jK a):eL a b=some (decide (a=b)):=by
 have hl1:=hl.1;unfold bG at hl1
 refine stp ?_
 by_cases h:a.length=b.length
 ·
  refine cFW (nT (dT (by omega))) (sqW (rU a b ?_ ?_ a b [] [] rfl rfl rfl h) ?_)
  ·
   intro j x y hx hy hj
   refine stp (cTW (dT (by omega)) (bnd (tA hx) (bnd (tA hy) (bnd (A1_ x y (hl.2 x (sE hx))) (stp ?_)))))
   by_cases h2:x=y
   · rw [if_pos h2];exact cFW (nT (dT h2)) (bnd (rB (by omega) (by omega)) rfl)
   · rw [if_neg h2];exact cTW (nF (dF h2)) rfl
  · exact stp (cFW (dF (by omega)) rfl)
  ·
   by_cases h2:a=b
   · rw [if_pos h2,show decide (a=b)=true from dT h2];rfl
   · rw [if_neg h2,show decide (a=b)=false from dF h2];rfl
 · rw [show decide (a=b)=false from dF (fun h2=>h (by rw [h2]))];exact cTW (nF (dF (by omega))) rfl
def mkI (_:Int) (k:Int):Int×Int:=(k,k+1)
def mkS:List Int→Int→List Int×Int:=mkL mkI
def mkSS:List (List Int)→Int→List (List Int)×Int:=mkL mkS
theorem kU (a k:Int):(mkI a k).2=k+one a:=rfl
theorem iU (a:List Int) (k:Int):(mkS a k).2=k+rowN a:=by
 rw [show (mkS a k).2=k+tot one a from dP mkI one kU a k,zO];rfl
theorem DW_ (a:List (List Int)) (k:Int):(mkSS a k).2=k+tot rowN a:=dP mkS rowN iU a k
theorem Ap_ (a:List Int) (k:Int):(mkS a k).1.length=a.length:=jU mkI a k
theorem uY (a:List Int) (k:Int) (h0:0≤k) (hb:k+rowN a≤bD):rH a k=some (mkS a k):=by
 unfold rowN at hb;unfold bD at hb
 refine bnd (mT (fun _=>True) mkI one kU a.length 4611686018427387904 ?_ ?_ a [] k (by simp) (fun _ _=>trivial) h0 (by rw [zO];omega)) rfl
 ·
  intro j x s q hj _ hs hjl hq hB
  dsimp only
  have h1:(one x:Int)=1:=rfl
  exact stp (cTW (dT (by omega)) (bnd (iC _ (by omega)) (bnd (rB (by omega) (by omega)) (bnd (rB (by omega) (by omega)) rfl))))
 · intro s q hs;dsimp only;exact stp (cFW (dF (by omega)) rfl)
theorem DB_ (a:List (List Int)) (k:Int) (h0:0≤k) (ha:(a.length:Int)≤bD) (hb:k+tot rowN a≤bD):cN a k=some (mkSS a k):=by
 unfold bD at hb ha
 refine bnd (mT (fun _=>True) mkS rowN iU a.length 4611686018427387904 ?_ ?_ a [] k (by simp) (fun _ _=>trivial) h0 (by omega)) rfl
 ·
  intro j x s q hj _ hs hjl hq hB
  dsimp only
  exact stp (cTW (dT (by omega)) (bnd (tA hj) (bnd (uY x q hq hB) (bnd (iC _ (by omega)) (bnd (rB (by omega) (by omega)) rfl)))))
 · intro s q hs;dsimp only;exact stp (cFW (dF (by omega)) rfl)
theorem DZ_ (a:List Int) (k:Int) (h0:0≤k) (hb:k+rowN a≤bD):tG (mkS a k).1 k=some (k+rowN a):=by
 unfold rowN at hb ⊢;unfold bD at hb
 refine sqW (tX (fun _=>True) mkI one kU (mkS a k).1 4611686018427387904 ?_ ?_ a [] k rfl (fun _ _=>trivial) h0 (by rw [zO];omega)) ?_
 ·
  intro j x q hj _ hjl hq hB
  dsimp only
  have h1:(one x:Int)=1:=rfl
  rw [Ap_] at hjl
  have h2:=Ap_ a k
  exact stp (cTW (dT (by omega)) (bnd (tA hj) (stp (cFW (nT (dT rfl)) (bnd (rB (by omega) (by omega)) (bnd (rB (by omega) (by omega)) rfl))))))
 · intro q;dsimp only;exact stp (cFW (dF (by omega)) rfl)
 · rw [zO];rfl
end Go.Proofs.YtbofgnbanmbopaaGreatDoor
namespace Go.Proofs.YtbofgnbanmbopaaGreatDoor
theorem nX (m:List (List Int)) (r:List Int) (h:r∈m):r.length≤rowsN m:=by
 have:=Ab_ (n:=rowN) h;unfold rowsN;unfold rowN at this ⊢;omega
theorem uW (m:List (List Int)):m.length≤rowsN m:=by unfold rowsN;omega
theorem DC_ {m:List (List Int)} (h:rowsN m≤1048576):jK m:=by
 refine ⟨?_,fun r hr=>?_⟩
 · have:=uW m;unfold bG;omega
 · have:=nX m r hr;unfold bG;omega
theorem CW_ (m:List (List Int)) (h:rowsN m≤1048576):dL m=some m:=by
 have hm:gB=1099511627776:=rfl
 exact toIntSS m (by have:=uW m;omega) (fun r hr=>by have:=nX m r hr;omega)
theorem CF_ (m:List (List Int)) (h:jK m):eL m m=some true:=by rw [eqIntSS m m h,show decide (m=m)=true from dT rfl]
end Go.Proofs.YtbofgnbanmbopaaGreatDoor
namespace Go.Proofs.YtbofgnbanmbopaaGreatDoor
def rng (n lo hi:Int):Bool:=decide (lo≤n)&&decide (n≤hi)
theorem rng_true {n lo hi:Int}:rng n lo hi=true↔lo≤n∧n≤hi:=by unfold rng;simp
theorem aD (n lo hi:Int):aF n lo hi=some (rng n lo hi):=by
 unfold aF rng
 by_cases h:lo≤n
 · rw [dT h];rfl
 · rw [dF h];rfl
theorem uE (n lo hi:Int):iE n lo hi=some (rng n lo hi):=by
 unfold iE rng
 by_cases h:lo≤n
 · rw [dT h];rfl
 · rw [dF h];rfl
def fdB (p:Int):Bool:=rng p 2 97&&[2,3,5,7].all fun q=>!(decide (p % q=0)&&!decide (p=q))
def AY_ (p:Int) (s:Int):Option (Int⊕(Unit⊕Bool)):=
 (yE s s).bind fun a111=>
    (some (decide (a111≤p))).bind fun a113=>
    cond a113
    ((gD p s).bind fun a118=>
     (some (decide (a118=0))).bind fun a120=>
     cond a120
     (some (.inr (.inr false)))
     ((yA s 1).bind fun a123=>
      some (.inl a123)))
    (some (.inr (.inl ())))
def Az_ (p:Nat):Bool:=decide (lC (wE (AY_ p) 10 2) (fun (_:Unit)=>some true)=some (fdB p))||decide (p<2)
theorem fd_all:((List.range 98).all Az_)=true:=by decide +kernel
theorem AX_ (p:Int):tN p=some (fdB p):=by
 unfold tN
 refine bnd (aD p 2 97) (stp ?_)
 cases h:rng p 2 97 with
 | false=>refine cTW rfl ?_;unfold fdB;rw [h];rfl
 | true=>
  refine cFW rfl ?_
  have hr:=rng_true.1 h
  obtain ⟨k,rfl⟩:∃ k:Nat,p=(k:Int):=⟨p.toNat,by omega⟩
  have hk:=List.all_eq_true.1 fd_all k (List.mem_range.2 (by omega))
  unfold Az_ at hk
  have h2:decide (k<2)=false:=dF (by omega)
  rw [h2,Bool.or_false] at hk
  have hk:=of_decide_eq_true hk
  rw [←hk]
  cases hi:wE (AY_ k) 10 2 with
  | none=>rw [hi] at hk;cases hk
  | some t=>exact sqW (whileO_iff.2 ⟨10,hi⟩) rfl
theorem bZ (p:Int):nN p=some (fdB p):=by
 unfold nN fdB
 cases h:rng p 2 97 with
 | false=>
  refine bnd (a:=true) (stp ?_) (cTW rfl rfl)
  by_cases h1:p<2
  · exact cTW (dT h1) rfl
  ·
   refine cFW (dF h1) (stp ?_)
   rw [dT]
   apply Classical.byContradiction
   intro h3
   have:rng p 2 97=true:=rng_true.2 ⟨by omega,by omega⟩
   rw [h] at this;cases this
 | true=>
  have hr:=rng_true.1 h
  refine bnd (a:=false) (stp (cFW (dF (by omega)) (stp (by rw [dF (by omega)])))) (cFW rfl (bnd (vK (by decide)) ?_))
  refine sqW (bH (fun q:Int=>!(decide (p % q=0)&&!decide (p=q))) [2,3,5,7] 0 ?_ (t:=false)) ?_
  ·
   intro j q hj
   have hq:q∈[(2:Int),3,5,7]:=sE hj
   have hq1:q≠0∧0<q:=by simp at hq;omega
   rw [Nat.zero_add]
   refine bnd (tA hj) ?_
   refine bnd (a:=decide (p % q=0)&&!decide (p=q)) ?_ ?_
   ·
    refine bnd (dI hq1.1) (stp ?_)
    rw [Int.tmod_eq_emod_of_nonneg (by omega)]
    by_cases h1:p % q=0
    · rw [dT h1];rfl
    · rw [dF h1];rfl
   · cases (decide (p % q=0)&&!decide (p=q)) <;> rfl
  · cases ([2,3,5,7].all fun q:Int=>!(decide (p % q=0)&&!decide (p=q))) <;> rfl
theorem eE {p:Int} (h:fdB p=true):2≤p∧p≤97:=by
 unfold fdB at h
 exact rng_true.1 (by revert h;cases rng p 2 97 <;> simp)
def inP (p:Int) (l:List Int):Prop:=∀ x∈l,0≤x∧x<p
def inB (p:Int) (l:List Int):Bool:=l.all fun x=>rng x 0 (p-1)
theorem inB_true {p:Int}{l:List Int}:inB p l=true↔inP p l:=by
 unfold inB inP
 rw [List.all_eq_true]
 constructor
 · intro h x hx;have:=rng_true.1 (h x hx);omega
 · intro h x hx;have:=h x hx;exact rng_true.2 (by omega)
theorem l1All (l:List Int) (lo hi:Int):uG l lo hi=some (l.all fun x=>rng x lo hi):=by
 refine sqW (bH (fun x=>rng x lo hi) l 0 ?_ (t:=false)) ?_
 ·
  intro j x hj
  rw [Nat.zero_add]
  refine bnd (tA hj) (bnd (aD x lo hi) (stp ?_))
  cases rng x lo hi <;> rfl
 · cases (l.all fun x=>rng x lo hi) <;> rfl
theorem fdIn {p:Int} (hp:2≤p∧p≤97) (l:List Int):uS p l=some (inB p l):=
 bnd (wD (by omega) (by omega)) (bnd (l1All l 0 (p-1)) rfl)
def nI (p n:Int) (m:List (List Int)):Bool:=m.all fun r=>decide ((r.length:Int)=n)&&inB p r
def rowsP (p:Int) (n:Nat) (m:List (List Int)):Prop:=∀ r∈m,r.length=n∧inP p r
theorem rowsB_true {p:Int}{n:Nat}{m:List (List Int)}:nI p n m=true↔rowsP p n m:=by
 unfold nI rowsP
 rw [List.all_eq_true]
 constructor
 ·
  intro h r hr
  have:=h r hr
  rw [Bool.and_eq_true] at this
  exact ⟨by have:=of_decide_eq_true this.1;omega,inB_true.1 this.2⟩
 ·
  intro h r hr
  have:=h r hr
  rw [Bool.and_eq_true]
  exact ⟨dT (by omega),inB_true.2 this.2⟩
theorem spRows {p:Int} (hp:2≤p∧p≤97) (n:Int) (m:List (List Int)):bS p n m=some (nI p n m):=by
 refine sqW (bH (fun r:List Int=>decide ((r.length:Int)=n)&&inB p r) m 0 ?_ (t:=false)) ?_
 ·
  intro j r hj
  rw [Nat.zero_add]
  refine bnd (tA hj) ?_
  refine bnd (a:=!(decide ((r.length:Int)=n)&&inB p r)) (stp ?_) ?_
  ·
   cases decide ((r.length:Int)=n) with
   | false=>rfl
   | true=>exact cFW rfl (bnd (fdIn hp r) rfl)
  · cases (decide ((r.length:Int)=n)&&inB p r) <;> rfl
 ·
  show _=some (m.all _)
  cases (m.all fun r=>decide ((r.length:Int)=n)&&inB p r) <;> rfl
theorem C6_ (p a:Int):fN p a=some (rng a 0 (p-1)):=by
 unfold fN rng
 by_cases h:0≤a
 ·
  rw [dT h];show some (decide (a<p))=some (true&&decide (a≤p-1))
  rw [Bool.true_and,decide_eq_decide.2];omega
 · rw [dF h];rfl
theorem DF_ (p n:Int) (v:List Int):uR p v n=some (decide ((v.length:Int)=n)&&inB p v):=by
 refine stp ?_
 cases decide ((v.length:Int)=n) with
 | false=>rfl
 | true=>
  refine cFW rfl (sqW (bH (fun x=>rng x 0 (p-1)) v 0 ?_ (t:=false)) ?_)
  ·
   intro j x hj
   rw [Nat.zero_add]
   refine bnd (tA hj) (bnd (C6_ p x) (stp ?_))
   cases rng x 0 (p-1) <;> rfl
  ·
   show _=some (true&&v.all _)
   cases (v.all fun x=>rng x 0 (p-1)) <;> rfl
theorem CS_ (p n:Int) (m:List (List Int)):kR p m n=some (nI p n m):=by
 refine sqW (bH (fun r:List Int=>decide ((r.length:Int)=n)&&inB p r) m 0 ?_ (t:=false)) ?_
 ·
  intro j r hj
  rw [Nat.zero_add]
  refine bnd (tA hj) (bnd (DF_ p n r) (stp ?_))
  cases (decide ((r.length:Int)=n)&&inB p r) <;> rfl
 ·
  show _=some (m.all _)
  cases (m.all fun r=>decide ((r.length:Int)=n)&&inB p r) <;> rfl
end Go.Proofs.YtbofgnbanmbopaaGreatDoor
namespace Go.Proofs.YtbofgnbanmbopaaGreatDoor
theorem pM {p c y:Int} (hp:2≤p∧p≤97) (hc:0≤c∧c<p) (hy:0≤y∧y<p):0≤c*y∧c*y≤9409:=by
 refine ⟨Int.mul_nonneg hc.1 hy.1,?_⟩
 calc c*y≤97*97:=Int.mul_le_mul (by omega) (by omega) hy.1 (by omega)
  _=9409:=by decide
theorem AG_ {p x:Int} (hp:2≤p):0≤x % p∧x % p<p:=⟨Int.emod_nonneg _ (by omega),Int.emod_lt_of_pos _ (by omega)⟩
theorem uU {n:Nat} (h:n≤gB):nL (n:Int)=some (List.replicate n 0):=bnd (zG _ h) rfl
theorem own_ {l:List Int} (h:l.length≤gB):mL l=some l:=bnd (zB (by simpa using h)) rfl
theorem clone_ {l:List Int} (h:l.length≤gB):pS l=some l:=bnd (zB (by simpa using h)) rfl
theorem clones_ {m:List (List Int)} (hl:m.length≤gB) (h:∀ r∈m,r.length≤gB):lS m=some m:=by
 refine bnd (yW _ hl) (bnd (a:=m) ?_ rfl)
 refine (zJ (fun r=>r) m [] (by simpa using hl) ?_).trans (by simp)
 intro j x s hx hs
 have hj:j<m.length:=(List.getElem?_eq_some_iff.1 hx).1
 exact bnd (tA hx) (bnd (clone_ (h x (sE hx))) (bnd (zB (by simp at hs ⊢;omega)) rfl))
end Go.Proofs.YtbofgnbanmbopaaGreatDoor
namespace Go.Proofs.YtbofgnbanmbopaaGreatDoor
theorem qU {α τ:Type} [DecidableEq α] {f:Nat→Unit→Option (Unit⊕τ)}{t:τ}:∀ (l m:List α) (k:Nat),l.length=m.length→(∀ j a b,l[j]?=some a→m[j]?=some b→f (k+j) ()=some (if a=b then .inl () else .inr t))→kC f l.length k ()=some (if l=m then .inl () else .inr t)
 | [],[],k,_,_=>rfl
 | [],_::_,_,h,_=>by simp at h
 | _::_,[],_,h,_=>by simp at h
 | a::l,b::m,k,hl,h=>by
  show (f k ()).bind _=_
  have h0:f k ()=_:=h 0 a b rfl rfl
  rw [h0]
  by_cases hab:a=b
  ·
   rw [if_pos hab]
   have:=qU l m (k+1) (by simpa using hl) (fun j x y hx hy=>by
    have:=h (j+1) x y (by simpa using hx) (by simpa using hy)
    rw [show k+1+j=k+(j+1) by omega];exact this)
   show kC f l.length (k+1) ()=_
   rw [this]
   by_cases h2:l=m
   · rw [if_pos h2,if_pos (by rw [hab,h2])]
   · rw [if_neg h2,if_neg (by intro h3;exact h2 (List.cons.inj h3).2)]
  · rw [if_neg hab,if_neg (by intro h3;exact hab (List.cons.inj h3).1)];rfl
theorem l1Same_ (a b:List Int):fS a b=some (decide (a=b)):=by
 refine stp ?_
 by_cases h:a.length=b.length
 ·
  refine cFW (nT (dT (by omega))) (sqW (qU a b 0 h ?_ (t:=false)) ?_)
  ·
   intro j x y hx hy
   rw [Nat.zero_add]
   refine bnd (tA hx) (bnd (tA hy) (stp ?_))
   by_cases h2:x=y
   · rw [if_pos h2];exact cFW (nT (dT h2)) rfl
   · rw [if_neg h2];exact cTW (nF (dF h2)) rfl
  ·
   by_cases h2:a=b
   · rw [if_pos h2,dT h2];rfl
   · rw [if_neg h2,dF h2];rfl
 · rw [show decide (a=b)=false from dF (fun h2=>h (by rw [h2]))];exact cTW (nF (dF (by omega))) rfl
end Go.Proofs.YtbofgnbanmbopaaGreatDoor
namespace Go.Proofs.YtbofgnbanmbopaaGreatDoor
abbrev Edg:=Int×Int×List Int×List Int
abbrev Gra:=Int×List Edg×List Int×List Int
def mA {α:Type} (n:Nat) (f:Nat→α):List α:=(List.range n).map f
theorem mD {α:Type} (n:Nat) (f:Nat→α):(mA n f).length=n:=by simp [mA]
theorem pO {α:Type}{n k:Nat} (f:Nat→α) (h:k<n):(mA n f)[k]?=some (f k):=by
 unfold mA;rw [List.getElem?_map,List.getElem?_range h];rfl
theorem vD {α:Type}{n k:Nat} (f:Nat→α) (h:k<n):bA (mA n f) (k:Int)=some (f k):=tA (pO f h)
theorem uC {α:Type}{n:Nat}{f g:Nat→α} (h:∀ k,k<n→f k=g k):mA n f=mA n g:=by
 unfold mA;exact List.map_congr_left fun k hk=>h k (List.mem_range.1 hk)
theorem DR_ {α:Type}{n m:Nat} (f:Nat→α) (v:α):(mA n f).set m v=mA n (fun k=>if k=m then v else f k):=by
 apply List.ext_getElem?
 intro j
 rw [List.getElem?_set]
 by_cases hj:j<n
 ·
  rw [pO _ hj,pO _ hj]
  by_cases hm:m=j
  · rw [if_pos hm,if_pos hm.symm,if_pos (by rw [mD];omega)]
  · rw [if_neg hm,if_neg (fun h=>hm h.symm)]
 ·
  rw [List.getElem?_eq_none (by rw [mD];omega),List.getElem?_eq_none (by rw [mD];omega)]
  split <;> simp [mD] <;> omega
theorem kF {α:Type}{n m:Nat} (f:Nat→α) (v:α) (h:m<n):oA (mA n f) (m:Int) v=some (mA n (fun k=>if k=m then v else f k)):=by
 rw [iC _ (by rw [mD];exact h),DR_]
theorem oO {α:Type} (n:Nat) (z:α):List.replicate n z=mA n (fun _=>z):=by
 apply List.ext_getElem?
 intro j
 by_cases hj:j<n
 · rw [pO _ hj,List.getElem?_replicate,if_pos hj]
 · rw [List.getElem?_replicate,if_neg hj,List.getElem?_eq_none (by rw [mD];omega)]
theorem xI {α:Type}{n:Nat} (z:α) (h:n≤gB):fD (n:Int) z=some (mA n fun _=>z):=by rw [zG z h,oO]
def iF (k v:Int):Bool:=rng k 3 14&&(if k=7∨k=13 then rng v 0 96 else decide (v=0))
def kd (k:Int):Int×Int:=if k=2 then (2,2) else if k=3∨k=11 then (1,2) else if k=4∨k=12 then (1,0) else if k=5∨k=9 then (2,1) else if k=6∨k=10 then (0,1) else (1,1)
def arB (e:Edg):Bool:=iF e.1 e.2.1&&(decide ((e.2.2.1.length:Int)=(kd e.1).1)&&decide ((e.2.2.2.length:Int)=(kd e.1).2))
def wOk (n:Int) (l:List Int):Bool:=l.all fun x=>rng x 0 (n-1)
theorem tmKind_ (k:Int):rN k=some (kd k):=by
 unfold rN kd
 by_cases h2:k=2
 · simp [h2]
 by_cases h3:k=3∨k=11
 · rcases h3 with h3 | h3 <;> simp [h3]
 by_cases h4:k=4∨k=12
 · rcases h4 with h3 | h3 <;> simp [h3]
 by_cases h5:k=5∨k=9
 · rcases h5 with h3 | h3 <;> simp [h3]
 by_cases h6:k=6∨k=10
 · rcases h6 with h3 | h3 <;> simp [h3]
 rw [if_neg h2,if_neg h3,if_neg h4,if_neg h5,if_neg h6]
 simp only [not_or] at *
 simp [*]
theorem qL {k v:Int} (hk:rng k 3 14=true):pN (k,v,.empty)=some (iF k v):=by
 have hr:=rng_true.1 hk
 unfold pN iF
 have h1:rng k 1 14=true:=rng_true.2 (by omega)
 by_cases h7:k=7
 · subst h7;simp [aD,h1,hk]
 by_cases h13:k=13
 · subst h13;simp [aD,h1,hk]
 have h0:¬k=1:=by omega
 simp [aD,h1,hk,h7,h13,h0]
theorem hgEdge_ (e:Edg){n:Int} (h0:0≤n) (h1:n≤100):sN e n=some (arB e&&(wOk n e.2.2.1&&wOk n e.2.2.2)):=by
 obtain ⟨k,v,a,b⟩:=e
 unfold sN arB
 have hs:subO n 1=some (n-1):=wD (by omega) (by omega)
 cases hk:rng k 3 14 with
 | false=>
  have:iF k v=false:=by unfold iF;rw [hk];rfl
  simp [aD,hk,this]
 | true=>
  cases hg:iF k v with
  | false=>simp [aD,hk,qL hk,hg]
  | true=>
   by_cases ha:(a.length:Int)=(kd k).1
   ·
    by_cases hb:(b.length:Int)=(kd k).2
    ·
     cases hw:wOk n a with
     | false=>unfold wOk at hw;simp [aD,hk,qL hk,hg,tmKind_,ha,hb,hs,l1All,hw]
     | true=>unfold wOk at hw;simp [aD,hk,qL hk,hg,tmKind_,ha,hb,hs,l1All,hw,wOk]
    · simp [aD,hk,qL hk,hg,tmKind_,ha,hb]
   · simp [aD,hk,qL hk,hg,tmKind_,ha]
theorem rV {k v:Int} (hk:rng k 3 14=true):sM k v=some (iF k v):=by
 unfold sM vR iF
 by_cases h7:k=7
 · subst h7;simp [uE,hk]
 by_cases h13:k=13
 · subst h13;simp [uE,hk]
 simp [hk,h7,h13]
theorem B4_ {k:Int} (hk:rng k 3 14=true):lQ k=some (kd k):=by
 have hr:=rng_true.1 hk
 have:k=3∨k=4∨k=5∨k=6∨k=7∨k=8∨k=9∨k=10∨k=11∨k=12∨k=13∨k=14:=by omega
 rcases this with rfl | rfl | rfl | rfl | rfl | rfl | rfl | rfl | rfl | rfl | rfl | rfl <;> rfl
theorem isEdge_ (e:Edg):aN e=some (arB e):=by
 obtain ⟨k,v,a,b⟩:=e
 unfold aN arB yQ
 cases hk:rng k 3 14 with
 | false=>
  have:iF k v=false:=by unfold iF;rw [hk];rfl
  simp [uE,hk,this]
 | true=>
  cases hg:iF k v with
  | false=>simp [uE,hk,rV hk,hg]
  | true=>
   simp only [uE,hk,rV hk,hg,B4_ hk,Option.bind_some,Bool.not_true,cond_false,Bool.true_and]
   congr 1
   rw [←Bool.decide_and]
   refine decide_eq_decide.2 ?_
   simp only [List.cons.injEq,and_true]
   exact ⟨fun ⟨x,y⟩=>⟨x.symm,y.symm⟩,fun ⟨x,y⟩=>⟨x.symm,y.symm⟩⟩
def edI (e:Edg):List Int:=e.2.2.1
def edO (e:Edg):List Int:=e.2.2.2
theorem yO {n:Nat} (l:List Int) (f:Nat→Int) (hl:∀ x∈l,0≤x∧x<(n:Int)) (B:Int) (hf:∀ k,k<n→0≤f k∧f k+l.length≤B) (hB:B≤4611686018427387904){g:Nat→List Int→Option (List Int)}
  (hg:∀ k s,g k s=((bA l (k:Int)).bind fun a=>(bA s a).bind fun b=>(yA b 1).bind fun c=>(oA s a c).bind fun t=>some t)) :
  sA g l.length 0 (mA n f)=some (mA n fun k=>f k+(l.count (k:Int):Nat)):=by
 have:=mC (f:=g) (n:=l.length) (fun j=>mA n fun k=>f k+((l.take j).count (k:Int):Nat)) (fun j hj=>by
  rw [hg]
  have hm:=hl l[j] (List.getElem_mem hj)
  obtain ⟨m,hme⟩:∃ m:Nat,l[j]=(m:Int):=⟨l[j].toNat,by omega⟩
  have hmn:m<n:=by omega
  refine bnd (tA (List.getElem?_eq_getElem hj)) ?_
  rw [hme]
  have hb:=hf m hmn
  have hc:((l.take j).count (m:Int))≤j:=Nat.le_trans List.count_le_length (by simp;omega)
  refine bnd (vD _ hmn) (bnd (rB (by omega) (by omega)) (bnd (kF _ _ hmn) (congrArg some (uC fun k hk=>?_))))
  rw [List.take_add_one,List.getElem?_eq_getElem hj,List.count_append,hme]
  by_cases h:k=m
  · subst h;simp;omega
  ·
   rw [if_neg h]
   have:¬(m:Int)=(k:Int):=by omega
   simp [this])
 have e0:(fun k=>f k+(((l.take 0).count ((k:Nat):Int):Nat):Int))=f:=by funext k;simp
 rw [List.take_length] at this
 rw [←this]
 congr 2
 exact e0.symm
def fE (E:List Edg) (s:Edg→List Int) (k:Nat):Nat:=((E.map s).flatten).count (k:Int)
def eC (E:List Edg) (s:Edg→List Int):Nat:=((E.map s).flatten).length
theorem aK {n:Nat}{l:List Int} (h:wOk n l=true):∀ x∈l,0≤x∧x<(n:Int):=by
 intro x hx
 have:=rng_true.1 (List.all_eq_true.1 h x hx)
 omega
def cD (g:Gra):List Int:=g.2.2.1++g.2.2.2++(g.2.1.map fun e=>edI e++edO e).flatten
def edW (n:Int) (e:Edg):Bool:=arB e&&(wOk n (edI e)&&wOk n (edO e))
def gOk (g:Gra):Bool:=rng g.1 0 100&&(decide (g.2.1.length≤60)&&(decide (g.2.2.1.length≤12)&&(decide (g.2.2.2.length≤12)&&(wOk g.1 g.2.2.1&&(wOk g.1 g.2.2.2&&(g.2.1.all (edW g.1)&&(List.range g.1.toNat).all fun k:Nat=>decide ((k:Int)∈cD g)))))))
theorem kd_le (k:Int):0≤(kd k).1∧(kd k).1≤2∧0≤(kd k).2∧(kd k).2≤2:=by
 unfold kd
 split <;> first | (refine ⟨?_,?_,?_,?_⟩ <;> decide) | skip
 split <;> first | (refine ⟨?_,?_,?_,?_⟩ <;> decide) | skip
 split <;> first | (refine ⟨?_,?_,?_,?_⟩ <;> decide) | skip
 split <;> first | (refine ⟨?_,?_,?_,?_⟩ <;> decide) | skip
 split <;> (refine ⟨?_,?_,?_,?_⟩ <;> decide)
theorem AO_ {e:Edg} (h:arB e=true):(edI e).length≤2∧(edO e).length≤2:=by
 unfold arB at h
 simp only [Bool.and_eq_true,decide_eq_true_eq] at h
 have:=kd_le e.1
 unfold edI edO
 omega
theorem DJ_ {n:Nat}{E:List Edg}{I O:List Int} (hn:n≤1048576) (hI:∀ x∈I,0≤x∧x<(n:Int)) (hO:∀ x∈O,0≤x∧x<(n:Int)) (hE:∀ e∈E,(∀ x∈edI e,0≤x∧x<(n:Int))∧(∀ x∈edO e,0≤x∧x<(n:Int)))
  (hB:I.length+O.length+eC E edI+eC E edO≤1099511627776) :
  tR ((n:Int),E,I,O)=some (mA n (fun k=>((I.count (k:Int)+fE E edO k:Nat):Int)),mA n (fun k=>((O.count (k:Int)+fE E edI k:Nat):Int))):=by
 have hm:gB=1099511627776:=rfl
 refine bnd (xI _ (by omega)) (bnd (xI _ (by omega)) ?_)
 have hc:∀ (l:List Int) (k:Nat),l.count (k:Int)≤l.length:=fun l k=>List.count_le_length
 refine bnd (yO I (fun _=>0) hI 1099511627776 (fun k _=>by omega) (by omega) (fun _ _=>rfl)) ?_
 refine bnd (yO O (fun _=>0) hO 1099511627776 (fun k _=>by omega) (by omega) (fun _ _=>rfl)) ?_
 have key:=mC (n:=E.length) (fun j=>(mA n (fun k=>((I.count (k:Int)+fE (E.take j) edO k:Nat):Int)),mA n (fun k=>((O.count (k:Int)+fE (E.take j) edI k:Nat):Int)))) (f:=fun (k215:Nat) (s652:List Int×List Int)=>
   (bA E ((k215:Nat):Int)).bind fun a667=>
   (sA (fun (k679:Nat) (s738:List Int)=>
     (bA a667.2.2.2 ((k679:Nat):Int)).bind fun a753=>
     (bA s738 a753).bind fun a761=>
     (yA a761 1).bind fun a763=>
     (oA s738 a753 a763).bind fun a771=>
     some a771) a667.2.2.2.length 0 s652.1).bind fun (s776:List Int)=>
   (sA (fun (k778:Nat) (s837:List Int)=>
     (bA a667.2.2.1 ((k778:Nat):Int)).bind fun a852=>
     (bA s837 a852).bind fun a860=>
     (yA a860 1).bind fun a862=>
     (oA s837 a852 a862).bind fun a870=>
     some a870) a667.2.2.1.length 0 s652.2).bind fun (s875:List Int)=>
   some (s776,s875)) (fun j hj=>by
  have he:=hE _ (List.getElem_mem hj)
  have hsum:∀ s:Edg→List Int,eC (E.take (j+1)) s=eC (E.take j) s+(s E[j]).length:=fun s=>by
   unfold eC;rw [List.take_add_one,List.getElem?_eq_getElem hj,List.map_append,List.flatten_append,List.length_append];simp only [Option.toList_some,List.map_cons,List.map_nil,List.flatten_cons,List.flatten_nil,List.append_nil]
  have hle:∀ s:Edg→List Int,eC (E.take (j+1)) s≤eC E s:=fun s=>by
   unfold eC
   have:E=E.take (j+1)++E.drop (j+1):=(List.take_append_drop _ _).symm
   conv=>rhs;rw [this]
   rw [List.map_append,List.flatten_append,List.length_append];omega
  have hct:∀ (s:Edg→List Int) (k:Nat),fE (E.take j) s k≤eC (E.take j) s:=fun s k=>List.count_le_length
  have hcs:∀ (s:Edg→List Int) (k:Nat),fE (E.take (j+1)) s k=fE (E.take j) s k+(s E[j]).count (k:Int):=fun s k=>by
   unfold fE;rw [List.take_add_one,List.getElem?_eq_getElem hj,List.map_append,List.flatten_append,List.count_append];simp only [Option.toList_some,List.map_cons,List.map_nil,List.flatten_cons,List.flatten_nil,List.append_nil]
  have h1:=hsum edI;have h2:=hsum edO;have h3:=hle edI;have h4:=hle edO
  refine bnd (tA (List.getElem?_eq_getElem hj)) ?_
  refine bnd (yO (edO E[j]) _ he.2 1099511627776 (fun k _=>by have:=hct edO k;have:=hc I k;omega) (by omega) (fun _ _=>rfl)) ?_
  refine bnd (yO (edI E[j]) _ he.1 1099511627776 (fun k _=>by have:=hct edI k;have:=hc O k;omega) (by omega) (fun _ _=>rfl)) ?_
  refine congrArg some (Prod.ext (uC fun k hk=>?_) (uC fun k hk=>?_))
  · rw [hcs];push_cast;omega
  · rw [hcs];push_cast;omega)
 have e1:∀ (l:List Int) (s:Edg→List Int),mA n (fun k=>(0:Int)+(l.count (k:Int):Nat))=mA n (fun k=>((l.count (k:Int)+fE (E.take 0) s k:Nat):Int)):=fun l s=>uC fun k hk=>by
  unfold fE;simp
 rw [e1 I edO,e1 O edI]
 refine bnd key ?_
 rw [List.take_length]
theorem all_app (n:Int) (a b:List Int):wOk n (a++b)=(wOk n a&&wOk n b):=by unfold wOk;rw [List.all_append]
theorem jP {n:Int}{E:List Edg} (h:E.all (edW n)=true):E.all arB=true:=by
 rw [List.all_eq_true] at h ⊢
 intro e he
 have:=h e he
 unfold edW at this
 simp only [Bool.and_eq_true] at this
 exact this.1
theorem Ac_ {E:List Edg} (h:E.all arB=true):eC E edI≤2*E.length∧eC E edO≤2*E.length:=by
 induction E with
 | nil=>exact ⟨Nat.le_refl _,Nat.le_refl _⟩
 | cons e E ih=>
  simp only [List.all_cons,Bool.and_eq_true] at h
  have h1:=AO_ h.1
  have h2:=ih h.2
  unfold eC at h2 ⊢
  simp only [List.map_cons,List.flatten_cons,List.length_append,List.length_cons]
  omega
theorem Aq_ {E:List Edg}{s:Edg→List Int}{k:Nat}:fE E s k=0↔¬∃ e∈E,(k:Int)∈s e:=by
 unfold fE
 rw [List.count_eq_zero,List.mem_flatten]
 constructor
 · rintro h ⟨e,he,hk⟩;exact h ⟨s e,List.mem_map.2 ⟨e,he,rfl⟩,hk⟩
 ·
  rintro h ⟨l,hl,hk⟩
  obtain ⟨e,he,rfl⟩:=List.mem_map.1 hl
  exact h ⟨e,he,hk⟩
theorem mem_allW {g:Gra}{k:Int}:k∈cD g↔k∈g.2.2.1∨k∈g.2.2.2∨∃ e∈g.2.1,k∈edI e∨k∈edO e:=by
 unfold cD
 rw [List.mem_append,List.mem_append,List.mem_flatten]
 constructor
 ·
  rintro ((h | h) | ⟨l,hl,h⟩)
  · exact .inl h
  · exact .inr (.inl h)
  ·
   obtain ⟨e,he,rfl⟩:=List.mem_map.1 hl
   exact .inr (.inr ⟨e,he,List.mem_append.1 h⟩)
 ·
  rintro (h | h | ⟨e,he,h⟩)
  · exact .inl (.inl h)
  · exact .inl (.inr h)
  · exact .inr ⟨_,List.mem_map.2 ⟨e,he,rfl⟩,List.mem_append.2 h⟩
theorem AK_ {n:Nat}{E:List Edg} (h:E.all (edW n)=true):∀ e∈E,(∀ x∈edI e,0≤x∧x<(n:Int))∧(∀ x∈edO e,0≤x∧x<(n:Int)):=by
 intro e he
 have:=List.all_eq_true.1 h e he
 unfold edW at this
 simp only [Bool.and_eq_true] at this
 exact ⟨aK this.2.1,aK this.2.2⟩
theorem dZ (g:Gra):jN g=some (gOk g):=by
 obtain ⟨n,E,I,O⟩:=g
 unfold jN gOk
 cases hr:rng n 0 100 with
 | false=>simp [aD,hr]
 | true=>
  have hn:=rng_true.1 hr
  have hs:subO n 1=some (n-1):=wD (by omega) (by omega)
  by_cases hE:E.length≤60
  case neg=>
   have:(60:Int)<(E.length:Int):=by omega
   simp [aD,hr,hE,this]
  have hE':¬(60:Int)<(E.length:Int):=by omega
  by_cases hI:I.length≤12
  case neg=>
   have:(12:Int)<(I.length:Int):=by omega
   simp [aD,hr,hE,hE',hI,this]
  have hI':¬(12:Int)<(I.length:Int):=by omega
  by_cases hO:O.length≤12
  case neg=>
   have:(12:Int)<(O.length:Int):=by omega
   simp [aD,hr,hE,hE',hI,hI',hO,this]
  have hO':¬(12:Int)<(O.length:Int):=by omega
  cases hwI:wOk n I with
  | false=>unfold wOk at hwI;simp [aD,hr,hE,hE',hI,hI',hO,hO',hs,l1All,hwI]
  | true=>
  cases hwO:wOk n O with
  | false=>unfold wOk at hwI hwO;simp [aD,hr,hE,hE',hI,hI',hO,hO',hs,l1All,hwO]
  | true=>
  have hl1:uG I 0 (n-1)=some true:=by rw [l1All];exact congrArg some hwI
  have hl2:uG O 0 (n-1)=some true:=by rw [l1All];exact congrArg some hwO
  simp only [aD,hr,dF hE',dF hI',dF hO',dT hE,dT hI,dT hO,hs,hl1,hl2,Option.bind_some,Bool.not_true,cond_false,Bool.true_and]
  refine sqW (bH (edW n) E 0 ?_ (t:=false)) ?_
  ·
   intro j e hj
   rw [Nat.zero_add]
   refine bnd (tA hj) (bnd (hgEdge_ e hn.1 hn.2) (stp ?_))
   have:(arB e&&(wOk n e.2.2.1&&wOk n e.2.2.2))=edW n e:=rfl
   rw [this]
   cases edW n e <;> rfl
  ·
   cases hall:E.all (edW n) with
   | false=>rfl
   | true=>
    rw [if_pos rfl,mP]
    obtain ⟨m,rfl⟩:∃ m:Nat,n=(m:Int):=⟨n.toNat,by omega⟩
    have h2:=Ac_ (jP hall)
    refine bnd (DJ_ (by omega) (aK hwI) (aK hwO) (AK_ hall) (by omega)) ?_
    dsimp only
    have hlen:∀ f:Nat→Int,(mA m f).length=(List.range m).length:=fun f=>by rw [mD,List.length_range]
    rw [hlen]
    refine sqW (bH (fun k:Nat=>decide ((k:Int)∈cD ((m:Int),E,I,O))) (List.range m) 0 ?_ (t:=false)) ?_
    ·
     intro j k hj
     obtain ⟨hjm,hje⟩:=List.getElem?_eq_some_iff.1 hj
     rw [List.getElem_range] at hje
     subst hje
     rw [List.length_range] at hjm
     rw [Nat.zero_add]
     have c1:I.count (j:Int)≤I.length:=List.count_le_length
     have c2:O.count (j:Int)≤O.length:=List.count_le_length
     have c3:fE E edI j≤eC E edI:=List.count_le_length
     have c4:fE E edO j≤eC E edO:=List.count_le_length
     refine bnd (vD _ hjm) (bnd (vD _ hjm) (bnd (rB (by omega) (by omega)) (stp ?_)))
     have hiff:(j:Int)∈cD ((m:Int),E,I,O)↔¬(((I.count (j:Int)+fE E edO j:Nat):Int)+((O.count (j:Int)+fE E edI j:Nat):Int)=0):=by
      rw [mem_allW]
      dsimp only
      have z1:I.count (j:Int)=0↔¬(j:Int)∈I:=List.count_eq_zero
      have z2:O.count (j:Int)=0↔¬(j:Int)∈O:=List.count_eq_zero
      have z3:=Aq_ (E:=E) (s:=edI) (k:=j)
      have z4:=Aq_ (E:=E) (s:=edO) (k:=j)
      constructor
      ·
       intro h h0
       have y1:=z1.1 (by omega);have y2:=z2.1 (by omega);have y3:=z3.1 (by omega);have y4:=z4.1 (by omega)
       rcases h with h | h | ⟨e,he,h | h⟩
       · exact y1 h
       · exact y2 h
       · exact y3 ⟨e,he,h⟩
       · exact y4 ⟨e,he,h⟩
      ·
       intro h
       refine Decidable.byContradiction fun hc=>h ?_
       simp only [not_or] at hc
       have y1:=z1.2 hc.1;have y2:=z2.2 hc.2.1
       have y3:=z3.2 (fun ⟨e,he,hk⟩=>hc.2.2 ⟨e,he,.inl hk⟩)
       have y4:=z4.2 (fun ⟨e,he,hk⟩=>hc.2.2 ⟨e,he,.inr hk⟩)
       omega
     by_cases hk:(j:Int)∈cD ((m:Int),E,I,O)
     · rw [dT hk,dF (hiff.1 hk)];rfl
     · rw [dF hk,dT (Decidable.byContradiction fun hc=>hk (hiff.2 hc))];rfl
    ·
     rw [Int.toNat_natCast]
     cases (List.range m).all fun k:Nat=>decide ((k:Int)∈cD ((m:Int),E,I,O)) <;> rfl
def mG (n:Nat) (d:List Int):List Bool:=mA n fun k=>decide ((k:Int)∈d)
def seenN (n:Nat) (d:List Int):Nat:=(List.range n).countP fun k:Nat=>decide ((k:Int)∈d)
theorem jY (n:Nat) (d:List Int):seenN n d≤n:=by
 have:=List.countP_le_length (p:=fun k:Nat=>decide ((k:Int)∈d)) (l:=List.range n)
 rwa [List.length_range] at this
theorem De_ {n m:Nat} (h:m<n) (P:Nat→Bool) (hP:P m=false):(List.range n).countP (fun k=>decide (k=m)||P k)=(List.range n).countP P+1:=by
 induction n with
 | zero=>omega
 | succ n ih=>
  rw [List.range_succ,List.countP_append,List.countP_append]
  by_cases hm:m=n
  ·
   subst hm
   have:(List.range m).countP (fun k=>decide (k=m)||P k)=(List.range m).countP P:=by
    refine List.countP_congr fun k hk=>?_
    have:¬k=m:=by have:=List.mem_range.1 hk;omega
    simp [this]
   rw [this]
   simp [hP]
  ·
   rw [ih (by omega)]
   have:¬n=m:=by omega
   simp [this];omega
theorem lX (n:Nat) (d:List Int) (m:Nat) (hm:m<n) (h:¬(m:Int)∈d):seenN n (d++[(m:Int)])=seenN n d+1∧(mA n fun k=>if k=m then true else decide ((k:Int)∈d))=mG n (d++[(m:Int)]):=by
 constructor
 ·
  unfold seenN
  rw [←De_ hm (fun k:Nat=>decide ((k:Int)∈d)) (dF h)]
  refine List.countP_congr fun k _=>?_
  simp only [List.mem_append,List.mem_singleton,decide_eq_true_eq,Bool.or_eq_true]
  constructor
  ·
   rintro (h | h)
   · exact .inr h
   · exact .inl (by omega)
  ·
   rintro (h | h)
   · exact .inr (by omega)
   · exact .inl h
 ·
  refine uC fun k _=>?_
  by_cases hk:k=m
  · rw [if_pos hk,dT];simp [hk]
  ·
   rw [if_neg hk,decide_eq_decide]
   have:¬(k:Int)=(m:Int):=by omega
   simp [this]
theorem mX (n:Nat) (d:List Int) (x:Int) (h:x∈d∨rng x 0 ((n:Int)-1)=false):seenN n (d++[x])=seenN n d∧mG n (d++[x])=mG n d:=by
 have:∀ k,k<n→decide ((k:Int)∈d++[x])=decide ((k:Int)∈d):=fun k hk=>by
  rw [decide_eq_decide,List.mem_append,List.mem_singleton]
  constructor
  ·
   rintro (h1 | h1)
   · exact h1
   ·
    rcases h with h | h
    · rw [h1];exact h
    ·
     have:rng x 0 ((n:Int)-1)=true:=rng_true.2 (by omega)
     rw [this] at h;cases h
  · exact .inl
 exact ⟨List.countP_congr fun k hk=>by rw [this k (List.mem_range.1 hk)],uC this⟩
theorem kO {n:Nat} (hn:n≤100) (E:List Edg) (I O l d:List Int):rG l ((n:Int),E,I,O) (wOk n d) (mG n d) ((seenN n d:Nat):Int)=some (wOk n (d++l),mG n (d++l),((seenN n (d++l):Nat):Int)):=by
 unfold rG
 have:=mC (n:=l.length) (fun j=>(wOk n (d++l.take j),((seenN n (d++l.take j):Nat):Int),mG n (d++l.take j))) (f:=fun (k10:Nat) (s199:Bool×Int×List Bool)=>
   ((bA l ((k10:Nat):Int)).bind fun a262=>
    (subO (n:Int) 1).bind fun a264=>
    (iE a262 0 a264).bind fun y266=>
    (some (!y266)).bind fun a269=>
    cond a269
    (some (false,s199.2.1,s199.2.2))
    ((bA s199.2.2 a262).bind fun a278=>
     (some (!a278)).bind fun a280=>
     cond a280
     ((oA s199.2.2 a262 true).bind fun a290=>
      (yA s199.2.1 1).bind fun a293=>
      some (s199.1,a293,a290))
     (some (s199.1,s199.2.1,s199.2.2)))).bind fun (s250:Bool×Int×List Bool)=>
   some (s250.1,s250.2.1,s250.2.2)) (fun j hj=>by
  have hlen:=jY n (d++l.take j)
  have e1:d++l.take (j+1)=(d++l.take j)++[l[j]]:=by rw [List.take_add_one,List.getElem?_eq_getElem hj];simp
  have e2:wOk n (d++l.take (j+1))=(wOk n (d++l.take j)&&rng l[j] 0 (n-1)):=by rw [e1,all_app];congr 1;unfold wOk;simp
  refine bndW (bnd (tA (List.getElem?_eq_getElem hj)) (bnd (wD (by omega) (by omega)) (bnd (uE _ _ _) (stp rfl)))) ?_
  cases hr:rng l[j] 0 ((n:Int)-1) with
  | false=>
   have h3:=mX n (d++l.take j) l[j] (.inr hr)
   rw [←e1] at h3
   rw [e2,hr,h3.1,h3.2,Bool.and_false];rfl
  | true=>
   have hx:=rng_true.1 hr
   obtain ⟨m,hme⟩:∃ m:Nat,l[j]=(m:Int):=⟨l[j].toNat,by omega⟩
   rw [e2,hr,Bool.and_true,hme]
   refine bndW (bnd (vD _ (by omega)) (stp rfl)) ?_
   by_cases hm:(m:Int)∈d++l.take j
   ·
    have h3:=mX n (d++l.take j) l[j] (.inl (by rw [hme];exact hm))
    rw [←e1] at h3
    rw [dT hm,h3.1,h3.2];rfl
   ·
    have h3:=lX n (d++l.take j) m (by omega) hm
    rw [←hme,← e1] at h3
    rw [dF hm]
    refine bndW (bnd (kF _ _ (by omega)) (bnd (rB (by dsimp only;omega) (by dsimp only;omega)) rfl)) ?_
    rw [h3.1]
    show some _=some _
    refine congrArg some (Prod.ext rfl (Prod.ext ?_ ?_))
    · dsimp only;push_cast;rfl
    · dsimp only;rw [←h3.2])
 simp only [List.take_zero,List.append_nil,List.take_length] at this
 rw [this];rfl
theorem DG_ {n:Nat} (hn:n≤100) (E:List Edg) (I O:List Int):rM ((n:Int),E,I,O) ((n:Int),E,I,O) true (mA n fun _=>false) 0=some (wOk n (cD ((n:Int),E,I,O)),mG n (cD ((n:Int),E,I,O)),((seenN n (cD ((n:Int),E,I,O)):Nat):Int)):=by
 unfold rM
 have h0:(mA n fun _=>false)=mG n []:=by unfold mG;simp
 have h1:(0:Int)=((seenN n []:Nat):Int):=by unfold seenN;simp
 have h2:true=wOk n []:=rfl
 rw [h0,h1,h2]
 refine bnd (kO hn E I O I []) (bnd (kO hn E I O O ([]++I)) ?_)
 have:=mC (n:=E.length) (fun j=>(((seenN n ([]++I++O++((E.take j).map fun e=>edI e++edO e).flatten):Nat):Int),wOk n ([]++I++O++((E.take j).map fun e=>edI e++edO e).flatten),mG n ([]++I++O++((E.take j).map fun e=>edI e++edO e).flatten))) (f:=fun (k21:Nat) (s74:Int×Bool×List Bool)=>
   (bA E ((k21:Nat):Int)).bind fun a89=>
   (rG a89.2.2.1 ((n:Int),E,I,O) s74.2.1 s74.2.2 s74.1).bind fun y101=>
   (rG a89.2.2.2 ((n:Int),E,I,O) y101.1 y101.2.1 y101.2.2).bind fun y104=>
   some (y104.2.2,y104.1,y104.2.1)) (fun j hj=>by
  have e1:[]++I++O++((E.take (j+1)).map fun e=>edI e++edO e).flatten=[]++I++O++((E.take j).map fun e=>edI e++edO e).flatten++edI E[j]++edO E[j]:=by
   rw [List.take_add_one,List.getElem?_eq_getElem hj,List.map_append,List.flatten_append]
   simp only [Option.toList_some,List.map_cons,List.map_nil,List.flatten_cons,List.flatten_nil,List.append_nil,List.append_assoc]
  rw [e1]
  exact bnd (tA (List.getElem?_eq_getElem hj)) (bnd (kO hn E I O (edI E[j]) _) (bnd (kO hn E I O (edO E[j]) _) rfl)))
 simp only [List.take_zero,List.take_length,List.map_nil,List.flatten_nil,List.append_nil] at this
 refine bnd this ?_
 unfold cD
 simp only [List.nil_append]
theorem DQ_ {n:Int}{E:List Edg}{I O:List Int} (h:E.all arB=true):wOk n (cD (n,E,I,O))=(wOk n I&&(wOk n O&&E.all (edW n))):=by
 unfold cD
 rw [all_app,all_app,Bool.and_assoc]
 congr 2
 show wOk n (E.map fun e=>edI e++edO e).flatten=E.all (edW n)
 clear I O
 induction E with
 | nil=>rfl
 | cons e E ih=>
  simp only [List.all_cons,Bool.and_eq_true] at h
  rw [List.map_cons,List.flatten_cons,all_app,all_app,List.all_cons]
  rw [ih h.2]
  unfold edW
  rw [h.1,Bool.true_and]
theorem aZ (g:Gra):xM g=some (gOk g):=by
 obtain ⟨n,E,I,O⟩:=g
 unfold xM gOk
 cases hr:rng n 0 100 with
 | false=>simp [uE,hr]
 | true=>
  have hn:=rng_true.1 hr
  by_cases hE:E.length≤60
  case neg=>
   have:(60:Int)<(E.length:Int):=by omega
   simp [uE,hr,hE,this]
  have hE':¬(60:Int)<(E.length:Int):=by omega
  by_cases hI:I.length≤12
  case neg=>
   have:(12:Int)<(I.length:Int):=by omega
   simp [uE,hr,hE,hE',hI,this]
  have hI':¬(12:Int)<(I.length:Int):=by omega
  by_cases hO:O.length≤12
  case neg=>
   have:(12:Int)<(O.length:Int):=by omega
   simp [uE,hr,hE,hE',hI,hI',hO,this]
  have hO':¬(12:Int)<(O.length:Int):=by omega
  simp only [uE,hr,dF hE',dF hI',dF hO',dT hE,dT hI,dT hO,Option.bind_some,Bool.not_true,cond_false,Bool.true_and]
  obtain ⟨m,rfl⟩:∃ m:Nat,n=(m:Int):=⟨n.toNat,by omega⟩
  refine sqW (bH arB E 0 ?_ (t:=false)) ?_
  ·
   intro j e hj
   rw [Nat.zero_add]
   refine bnd (tA hj) (bnd (isEdge_ e) (stp ?_))
   cases arB e <;> rfl
  ·
   cases hall:E.all arB with
   | false=>
    have:E.all (edW (m:Int))=false:=by
     cases h:E.all (edW (m:Int)) with
     | false=>rfl
     | true=>rw [jP h] at hall;cases hall
    rw [this]
    simp [lC]
   | true=>
    rw [if_pos rfl,mP]
    refine bnd (xI _ (by unfold gB;omega)) (bnd (DG_ (by omega) E I O) ?_)
    dsimp only
    rw [DQ_ hall]
    have hcov:decide (((seenN m (cD ((m:Int),E,I,O)):Nat):Int)=(m:Int))=(List.range m).all fun k:Nat=>decide ((k:Int)∈cD ((m:Int),E,I,O)):=by
     rw [Bool.eq_iff_iff,decide_eq_true_eq,List.all_eq_true]
     have:seenN m (cD ((m:Int),E,I,O))=(List.range m).length↔_:=List.countP_eq_length
     rw [List.length_range] at this
     rw [←this];omega
    rw [hcov,Int.toNat_natCast]
    cases wOk (m:Int) I <;> cases wOk (m:Int) O <;> cases E.all (edW (m:Int)) <;> rfl
end Go.Proofs.YtbofgnbanmbopaaGreatDoor
namespace Go.Proofs.YtbofgnbanmbopaaGreatDoor
theorem CU_ {σ τ:Type}{f:σ→Option (σ⊕τ)} (I:σ→Prop) (Q:τ→Prop) (μ:σ→Nat) (h:∀ s,I s→(∃ s',f s=some (.inl s')∧I s'∧μ s'<μ s)∨(∃ t,f s=some (.inr t)∧Q t)){s:σ} (hs:I s):∃ t,kB f s=some t∧Q t:=by
 have key:∀ n s,μ s≤n→I s→∃ t,kB f s=some t∧Q t:=by
  intro n
  induction n with
  | zero=>
   intro s hn hs
   rcases h s hs with ⟨s',_,_,hl⟩ | ⟨t,ht,hq⟩
   · omega
   · exact ⟨t,dD ht,hq⟩
  | succ n ih=>
   intro s hn hs
   rcases h s hs with ⟨s',h1,h2,hl⟩ | ⟨t,ht,hq⟩
   ·
    obtain ⟨t,h3,h4⟩:=ih s' (by omega) h2
    exact ⟨t,by rw [jE h1];exact h3,h4⟩
   · exact ⟨t,dD ht,hq⟩
 exact key _ s (Nat.le_refl _) hs
theorem qW {σ τ:Type}{f:σ→Option (σ⊕τ)} (I:Nat→σ→Prop) (Q:τ→Prop) (N:Nat) (h:∀ j s,j≤N→I j s→(∃ s',f s=some (.inl s')∧I (j+1) s'∧j<N)∨(∃ t,f s=some (.inr t)∧Q t)){s:σ} (hs:I 0 s):∃ t,kB f s=some t∧Q t:=by
 have key:∀ d j s,j+d=N→I j s→∃ t,kB f s=some t∧Q t:=by
  intro d
  induction d with
  | zero=>
   intro j s hj hI
   rcases h j s (by omega) hI with ⟨s',h1,h2,h3⟩ | ⟨t,h1,h2⟩
   · omega
   · exact ⟨t,dD h1,h2⟩
  | succ d ih=>
   intro j s hj hI
   rcases h j s (by omega) hI with ⟨s',h1,h2,h3⟩ | ⟨t,h1,h2⟩
   ·
    obtain ⟨t,k1,k2⟩:=ih (j+1) s' (by omega) h2
    exact ⟨t,by rw [jE h1];exact k1,k2⟩
   · exact ⟨t,dD h1,h2⟩
 exact key N 0 s (by omega) hs
theorem gZ {σ:Type}{f:Nat→σ→Option σ} (I:Nat→σ→Prop):∀ (n k:Nat) (s:σ),I k s→(∀ j s,k≤j→j<k+n→I j s→∃ s',f j s=some s'∧I (j+1) s')→∃ r,sA f n k s=some r∧I (k+n) r
 | 0,k,s,h0,_=>⟨s,rfl,h0⟩
 | n+1,k,s,h0,h=>by
  obtain ⟨s',h1,h2⟩:=h k s (Nat.le_refl _) (by omega) h0
  obtain ⟨r,h3,h4⟩:=gZ I n (k+1) s' h2 (fun j s hj hl hi=>h j s (by omega) (by omega) hi)
  refine ⟨r,?_,by rwa [show k+1+n=k+(n+1) by omega] at h4⟩
  show (f k s).bind _=_
  rw [h1];exact h3
theorem cM {σ:Type}{f:Nat→σ→Option σ}{n:Nat}{s:σ} (I:Nat→σ→Prop) (h0:I 0 s) (h:∀ j s,j<n→I j s→∃ s',f j s=some s'∧I (j+1) s'):∃ r,sA f n 0 s=some r∧I n r:=by
 obtain ⟨r,h1,h2⟩:=gZ (f:=f) I n 0 s h0 (fun j s _ hl hi=>h j s (by omega) hi)
 exact ⟨r,h1,by rwa [Nat.zero_add] at h2⟩
theorem iZ {σ τ:Type}{f:Nat→σ→Option (σ⊕τ)} (I:Nat→σ→Prop) (Q:τ→Prop):∀ (n k:Nat) (s:σ),I k s→(∀ j s,k≤j→j<k+n→I j s→(∃ s',f j s=some (.inl s')∧I (j+1) s')∨(∃ t,f j s=some (.inr t)∧Q t))→(∃ r,kC f n k s=some (.inl r)∧I (k+n) r)∨(∃ t,kC f n k s=some (.inr t)∧Q t)
 | 0,k,s,h0,_=>.inl ⟨s,rfl,h0⟩
 | n+1,k,s,h0,h=>by
  rcases h k s (Nat.le_refl _) (by omega) h0 with ⟨s',h1,h2⟩ | ⟨t,h1,h2⟩
  ·
   rcases iZ I Q n (k+1) s' h2 (fun j s hj hl hi=>h j s (by omega) (by omega) hi) with ⟨r,h3,h4⟩ | ⟨t,h3,h4⟩
   ·
    refine .inl ⟨r,?_,by rwa [show k+1+n=k+(n+1) by omega] at h4⟩
    show (f k s).bind _=_
    rw [h1];exact h3
   ·
    refine .inr ⟨t,?_,h4⟩
    show (f k s).bind _=_
    rw [h1];exact h3
  ·
   refine .inr ⟨t,?_,h2⟩
   show (f k s).bind _=_
   rw [h1];rfl
theorem D3_ {σ τ:Type}{f:Nat→σ→Option (σ⊕τ)}{n:Nat}{s:σ} (I:Nat→σ→Prop) (Q:τ→Prop) (h0:I 0 s) (h:∀ j s,j<n→I j s→(∃ s',f j s=some (.inl s')∧I (j+1) s')∨(∃ t,f j s=some (.inr t)∧Q t)):(∃ r,kC f n 0 s=some (.inl r)∧I n r)∨(∃ t,kC f n 0 s=some (.inr t)∧Q t):=by
 rcases iZ (f:=f) I Q n 0 s h0 (fun j s _ hl hi=>h j s (by omega) hi) with ⟨r,h1,h2⟩ | h
 · exact .inl ⟨r,h1,by rwa [Nat.zero_add] at h2⟩
 · exact .inr h
def M (s:List Bool) (x:Int):Prop:=bA s x=some true
instance (s:List Bool) (x:Int):Decidable (M s x):=by unfold M;infer_instance
theorem M_idx {s:List Bool}{x:Int} (h0:0≤x) (h1:x<s.length):bA s x=some (decide (M s x)):=by
 by_cases h:M s x
 · rw [dT h];exact h
 ·
  rw [dF h]
  obtain ⟨k,rfl⟩:∃ k:Nat,x=(k:Int):=⟨x.toNat,by omega⟩
  unfold M at h
  rw [cZ,List.getElem?_eq_getElem (by omega)] at h ⊢
  cases hs:s[k] with
  | false=>rfl
  | true=>rw [hs] at h;exact (h rfl).elim
theorem M_set {s:List Bool}{x:Int} (h0:0≤x) (h1:x<s.length):oA s x true=some (s.set x.toNat true)∧∀ y,M (s.set x.toNat true) y↔(M s y∨y=x):=by
 obtain ⟨k,rfl⟩:∃ k:Nat,x=(k:Int):=⟨x.toNat,by omega⟩
 rw [Int.toNat_natCast]
 refine ⟨iC _ (by omega),fun y=>?_⟩
 unfold M bA
 by_cases hy:0≤y
 ·
  rw [if_pos hy,if_pos hy,List.getElem?_set]
  by_cases h:k=y.toNat
  ·
   rw [if_pos h,if_pos (by omega)]
   exact ⟨fun _=>.inr (by omega),fun _=>rfl⟩
  ·
   rw [if_neg h]
   exact ⟨.inl,fun h2=>by rcases h2 with h2 | h2;exact h2;omega⟩
 ·
  rw [if_neg hy,if_neg hy]
  constructor
  · intro h;cases h
  ·
   rintro (h | h)
   · cases h
   · omega
theorem M_rng {s:List Bool}{x:Int} (h:M s x):0≤x∧x<s.length:=by
 unfold M at h
 obtain ⟨k,rfl,_,hl⟩:=wG h
 omega
theorem M_none (n:Nat) (x:Int):¬M (mA n fun _=>false) x:=by
 intro h
 have h1:=M_rng h
 rw [mD] at h1
 obtain ⟨k,rfl⟩:∃ k:Nat,x=(k:Int):=⟨x.toNat,by omega⟩
 unfold M at h
 rw [vD _ (by omega)] at h;cases h
def xB (n:Nat) (l:List Int):Prop:=∀ x∈l,0≤x∧x<(n:Int)
def tD (n:Nat) (E:List Edg):Prop:=∀ e∈E,xB n (edI e)∧xB n (edO e)
end Go.Proofs.YtbofgnbanmbopaaGreatDoor
namespace Go.Proofs.YtbofgnbanmbopaaGreatDoor
def vE (a:List Int):Nat:=a.length
def nIntSS (a:List (List Int)):Nat:=rowsN a
def oT (a:List (List Int)):Prop:=jK a
theorem Cr_ {a:List (List Int)} (h:Nice.ok a):oT a:=DV_ h
def nG (a:List Int):Nat:=rowN a
def sP (a:List (List Int)):Nat:=tot rowN a
theorem lF (a:List Int):nG a≤8*vE a:=by unfold nG vE rowN;omega
theorem xX (a:List (List Int)):sP a≤8*nIntSS a:=by unfold sP nIntSS rowsN;omega
def zC:=mkS
def vO:=mkSS
theorem kE (a:List Int) (k:Int):(zC a k).2=k+nG a:=iU a k
theorem CC_ (a:List (List Int)) (k:Int):(vO a k).2=k+sP a:=DW_ a k
theorem z_IntSS (a:List (List Int)) (left:Int) (h0:0≤left) (h1:left≤bD) (hl:oT a):lN a left=some (if (nIntSS a:Int)≤left then left-nIntSS a else -1):=szIntSS a left h0 h1 hl
theorem t_IntSS (a:List (List Int)) (h:nIntSS a≤1048576):dL a=some a:=CW_ a h
theorem qP (a:List Int) (h:vE a≤1048576):tH a a=some true:=by rw [A1_ a a (by unfold vE at h;unfold bG;omega),show decide (a=a)=true from dT rfl]
theorem e_IntSS (a:List (List Int)) (h:nIntSS a≤1048576):eL a a=some true:=CF_ a (DC_ h)
theorem oP (a:List Int) (k:Int) (h0:0≤k) (h:k+8*vE a≤1125899906842624):rH a k=some (zC a k):=uY a k h0 (by unfold vE at h;unfold rowN bD;omega)
theorem m_IntSS (a:List (List Int)) (k:Int) (h0:0≤k) (h:k+8*nIntSS a≤1125899906842624):cN a k=some (vO a k):=DB_ a k h0 (by unfold nIntSS rowsN at h;unfold bD;omega) (by unfold nIntSS rowsN at h;unfold bD;omega)
theorem pP (a:List Int) (k:Int) (h0:0≤k) (h:k+8*vE a≤1125899906842624):tG (zC a k).1 k=some (k+nG a):=DZ_ a k h0 (by unfold vE at h;unfold rowN bD;omega)
end Go.Proofs.YtbofgnbanmbopaaGreatDoor
namespace Go.Proofs.YtbofgnbanmbopaaGreatDoor
abbrev cF:=Int×Int×(List (List Int))
def nRelation (a:cF):Nat:=nIntSS a.2.2
def iW (a:cF):Prop:=oT a.2.2
theorem CT_ (a:cF) (left:Int) (h0:0≤left) (h1:left≤bD) (hl:iW a):fR a left=some (if (nRelation a:Int)≤left then left-nRelation a else -1):=by
 unfold bD at h1
 have l0:=hl
 unfold nRelation
 refine bnd (z_IntSS a.2.2 (left) (by omega) (by unfold bD;omega) l0) (stp ?_)
 by_cases g0:(nIntSS a.2.2:Int)≤left
 case neg=>
  rw [if_neg g0];try rw [if_neg (by omega)]
  exact cTW (dT (by omega)) rfl
 rw [if_pos g0]
 try rw [if_pos (by omega)]
 refine cFW (dF (by omega)) ?_
 congr 1;try omega
theorem BO_ {a:cF} (h:Nice.ok a):iW a:=by
 obtain ⟨h0,h1,h2⟩:=h
 exact Cr_ h2
theorem tJ (a:cF) (h:nRelation a≤1048576):pJ a=some a:=by
 unfold nRelation at h
 exact bnd (t_IntSS a.2.2 (by omega)) (rfl)
theorem Da_ (a:cF) (h:nRelation a≤1048576):gR a a=some true:=by
 unfold nRelation at h
 exact stp (cFW (nT (dT rfl)) (stp (cFW (nT (dT rfl)) (bnd (e_IntSS a.2.2 (by omega)) (stp (cFW rfl (rfl)))))))
def tS (a:cF) (k:Int):cF×Int:=((a.1,a.2.1,(vO a.2.2 k).1),(vO a.2.2 k).2)
def lO (a:cF):Nat:=sP a.2.2
theorem CG_ (a:cF):lO a≤8*nRelation a:=by
 unfold lO nRelation
 have h2:=xX a.2.2
 omega
theorem BY_ (a:cF) (k:Int):(tS a k).2=k+lO a:=by
 unfold tS lO
 simp only [CC_]
 try omega
theorem C4_ (a:cF) (k:Int) (h0:0≤k) (h:k+8*nRelation a≤1125899906842624):uQ a k=some (tS a k):=by
 unfold nRelation at h
 have h2:=xX a.2.2
 exact bnd (m_IntSS _ _ h0 (by omega)) (rfl)
end Go.Proofs.YtbofgnbanmbopaaGreatDoor
namespace Go.Proofs.YtbofgnbanmbopaaGreatDoor
set_option linter.unusedVariables false
theorem zU {α:Type} (f:α→Nat) (l:List α):tot (fun x=>8*(1+f x)) l=8*(l.length+tot f l):=by
 induction l with
 | nil=>rfl
 | cons a l ih=>rw [tot_cons,tot_cons,ih,List.length_cons];omega
theorem totLe2 {α:Type}{f g:α→Nat} (h:∀ a,f a≤g a) (l:List α):tot f l≤tot g l:=by
 induction l with
 | nil=>exact Nat.le_refl _
 | cons a l ih=>rw [tot_cons,tot_cons];have:=h a;omega
theorem xW {α:Type} (mk:α→Int→α×Int) (n M:α→Nat) (hmk:∀ a k,(mk a k).2=k+n a) (hnM:∀ a,n a≤M a){f:List α×Int×Int→Option ((List α×Int×Int)⊕(List α×Int))} (N:Nat) (B:Int)
  (hf:∀ (j:Nat) (a:α) (s:List α) (q:Int),s[j]?=some a→s.length=N→j<N→0≤q→q+M a≤B→f (s,q,(j:Int))=some (.inl (s.set j (mk a q).1,(mk a q).2,(j:Int)+1)))
  (he:∀ (s:List α) (q:Int),s.length=N→f (s,q,(N:Int))=some (.inr (s,q))):∀ (rest pre:List α) (q:Int),pre.length+rest.length=N→0≤q→q+tot M rest≤B→kB f (pre++rest,q,(pre.length:Int))=some (pre++(mkL mk rest q).1,(mkL mk rest q).2)
 | [],pre,q,hN,_,_=>by
  have h1:pre.length=N:=by simpa using hN
  have:=he pre q h1
  rw [←h1] at this
  rw [List.append_nil,dD this];simp [mkL]
 | a::rest,pre,q,hN,h0,hB=>by
  rw [tot_cons] at hB
  have hn:=hnM a
  have h1:=hf pre.length a (pre++a::rest) q (eI _ _ _) (by simpa using hN) (by simp at hN;omega) h0 (by omega)
  have ih:=xW mk n M hmk hnM N B hf he rest (pre++[(mk a q).1]) (mk a q).2 (by simp at hN ⊢;omega) (by rw [hmk];omega) (by rw [hmk];omega)
  rw [eU,pH pre rest (mk a q).1,← len1 pre (mk a q).1] at h1
  rw [jE h1,ih]
  simp [mkL]
theorem aX {α:Type} (mk:α→Int→α×Int) (n M:α→Nat) (hmk:∀ a k,(mk a k).2=k+n a) (hnM:∀ a,n a≤M a){f:Int×Int→Option ((Int×Int)⊕(Int⊕Int))} (L:List α) (B:Int)
  (hf:∀ (j:Nat) (a:α) (q:Int),L[j]?=some (mk a q).1→j<L.length→0≤q→q+M a≤B→f (q,(j:Int))=some (.inl (q+n a,(j:Int)+1)))
  (he:∀ q:Int,f (q,(L.length:Int))=some (.inr (.inl q))):∀ (rest pre:List α) (q:Int),L=pre++(mkL mk rest q).1→0≤q→q+tot M rest≤B→kB f (q,(pre.length:Int))=some (.inl (q+tot n rest))
 | [],pre,q,hL,_,_=>by
  have:=he q
  rw [hL] at this
  have h2:pre++(mkL mk [] q).1=pre:=by simp [mkL]
  rw [h2] at this
  rw [dD this,tot_nil];simp
 | a::rest,pre,q,hL,h0,hB=>by
  rw [tot_cons] at hB
  have hn:=hnM a
  have hL':L=pre++(mk a q).1::(mkL mk rest (q+n a)).1:=by rw [hL];show _=_;rw [←hmk];rfl
  have h1:=hf pre.length a q (by rw [hL'];exact eI _ _ _) (by rw [hL'];simp) h0 (by omega)
  have ih:=aX mk n M hmk hnM L B hf he rest (pre++[(mk a q).1]) (q+n a) (by rw [hL',pH]) (by omega) (by omega)
  rw [len1] at ih
  rw [jE h1,ih,tot_cons];congr 2;omega
abbrev mI:=Int×Int×(List Int)×(List Int)
def xD (a:mI):Nat:=vE a.2.2.1+vE a.2.2.2
theorem e_Edge (a:mI) (h:xD a≤1048576):kS a a=some true:=by
 unfold xD at h
 exact stp (cFW (nT (dT rfl)) (stp (cFW (nT (dT rfl)) (bnd (qP a.2.2.1 (by omega)) (stp (cFW rfl (bnd (qP a.2.2.2 (by omega)) (stp (cFW rfl (rfl))))))))))
abbrev eH:=List mI
def gH (a:eH):Nat:=a.length+tot xD a
theorem e_EdgeS (a:eH) (h:gH a≤1048576):yR a a=some true:=by
 unfold gH at h
 refine stp (cFW (nT (dT rfl)) (sqW (fT (fun j=>(j:Int)) (t:=.inl ()) a.length ?_ ?_) ?_))
 ·
  intro j hj
  exact stp (cTW (dT (by omega)) (bnd (tA (List.getElem?_eq_getElem hj)) (bnd (tA (List.getElem?_eq_getElem hj)) (bnd (e_Edge a[j] (by have:=Ab_ (n:=xD) (List.getElem_mem hj);omega)) (stp (cFW rfl (bnd (rB (by omega) (by omega)) rfl)))))))
 · exact stp (cFW (dF (by omega)) rfl)
 · rfl
def yG (x:mI) (q:Int):mI×Int:=((q,(q+1),(zC x.2.2.1 ((q+1)+1)).1,(zC x.2.2.2 (zC x.2.2.1 ((q+1)+1)).2).1),(zC x.2.2.2 (zC x.2.2.1 ((q+1)+1)).2).2)
def cH (x:mI):Nat:=2+nG x.2.2.1+nG x.2.2.2
theorem mS (x:mI) (q:Int):(yG x q).2=q+cH x:=by
 unfold yG cH
 simp only [kE]
 omega
theorem cT (x:mI):cH x≤8*(1+xD x):=by
 unfold cH xD
 have h2:=lF x.2.2.1
 have h3:=lF x.2.2.2
 omega
def dE:eH→Int→eH×Int:=mkL yG
def qM (a:eH):Nat:=tot cH a
theorem tT (a:eH):qM a≤8*gH a:=by
 have:=totLe2 cT a
 rw [zU] at this
 exact this
theorem rE (a:eH) (k:Int):(dE a k).2=k+qM a:=dP yG cH mS a k
theorem m_EdgeS (a:eH) (k:Int) (h0:0≤k) (h:k+8*gH a≤1125899906842624):pR a k=some (dE a k):=by
 have hsum:=zU xD a
 unfold gH at h
 refine bnd (xW yG cH (fun x=>8*(1+xD x)) mS cT a.length 1125899906842624 ?_ ?_ a [] k (by simp) h0 (by rw [hsum];omega)) rfl
 ·
  intro j x s q hj hs hjl hq hB
  dsimp only at hB ⊢
  unfold xD at hB
  have b2:=lF x.2.2.1
  have b3:=lF x.2.2.2
  refine stp (cTW (dT (by omega)) ?_)
  refine bnd (tA hj) ?_
  refine bnd (iC _ (by omega)) ?_
  refine bnd (rB (by omega) (by omega)) ?_
  refine bnd (tA (a:=(q,x.2.1,x.2.2.1,x.2.2.2)) (by rw [List.getElem?_set_self (by omega)])) ?_
  refine bnd (iC _ (by simp only [List.length_set];omega)) ?_
  refine bnd (rB (by omega) (by omega)) ?_
  refine bnd (tA (a:=(q,(q+1),x.2.2.1,x.2.2.2)) (by rw [List.getElem?_set_self (by simp only [List.length_set];omega)])) ?_
  refine bnd (oP x.2.2.1 ((q+1)+1) (by omega) (by omega)) ?_
  refine bnd (iC _ (by simp only [List.length_set];omega)) ?_
  refine bnd (tA (a:=(q,(q+1),(zC x.2.2.1 ((q+1)+1)).1,x.2.2.2)) (by rw [List.getElem?_set_self (by simp only [List.length_set];omega)])) ?_
  refine bnd (oP x.2.2.2 (zC x.2.2.1 ((q+1)+1)).2 (by simp only [kE];omega) (by simp only [kE];omega)) ?_
  refine bnd (iC _ (by simp only [List.length_set];omega)) ?_
  refine bnd (rB (by omega) (by omega)) ?_
  simp only [List.set_set];rfl
 · intro s q hs;dsimp only;exact stp (cFW (dF (by omega)) rfl)
theorem h_EdgeS (a:eH) (k:Int) (h0:0≤k) (h:k+8*gH a≤1125899906842624):eN (dE a k).1 k=some (k+qM a):=by
 have hsum:=zU xD a
 unfold gH at h
 refine sqW (aX yG cH (fun x=>8*(1+xD x)) mS cT (dE a k).1 1125899906842624 ?_ ?_ a [] k rfl h0 (by rw [hsum];omega)) ?_
 ·
  intro j x q hj hjl hq hB
  dsimp only at hB ⊢
  unfold xD at hB
  have hlen:(dE a k).1.length=a.length:=jU yG a k
  have b2:=lF x.2.2.1
  have b3:=lF x.2.2.2
  have e2:=pP x.2.2.1 ((q+1)+1) (by omega) (by omega)
  have e3:=pP x.2.2.2 (zC x.2.2.1 ((q+1)+1)).2 (by simp only [kE];omega) (by simp only [kE];omega)
  simp only [kE] at e3
  refine stp (cTW (dT (by omega)) ?_)
  refine bnd (tA hj) ?_
  refine stp (cFW (nT (dT (by rfl))) ?_)
  refine bnd (rB (by omega) (by omega)) ?_
  refine bnd (tA hj) ?_
  refine stp (cFW (nT (dT (by rfl))) ?_)
  refine bnd (rB (by omega) (by omega)) ?_
  refine bnd (tA hj) ?_
  refine bnd (by unfold yG;dsimp only;exact e2) (stp (cFW (dF (by omega)) ?_))
  refine bnd (tA hj) ?_
  refine bnd (by unfold yG;simp only [kE];exact e3) (stp (cFW (dF (by omega)) ?_))
  refine bnd (rB (by omega) (by omega)) ?_
  refine congrArg some (congrArg Sum.inl (Prod.ext ?_ rfl))
  unfold cH;dsimp only;push_cast;omega
 · intro q;dsimp only;exact stp (cFW (dF (by omega)) rfl)
 · rfl
abbrev dH:=Int×(List (Int×Int×(List Int)×(List Int)))×(List Int)×(List Int)
def mE (a:dH):Nat:=gH a.2.1+vE a.2.2.1+vE a.2.2.2
theorem sU (a:dH) (h:mE a≤1048576):fL a a=some true:=by
 unfold mE at h
 exact stp (cFW (nT (dT rfl)) (bnd (e_EdgeS a.2.1 (by omega)) (stp (cFW rfl (bnd (qP a.2.2.1 (by omega)) (stp (cFW rfl (bnd (qP a.2.2.2 (by omega)) (stp (cFW rfl (rfl)))))))))))
def aM (a:dH) (k:Int):dH×Int:=((a.1,(dE a.2.1 k).1,(zC a.2.2.1 (dE a.2.1 k).2).1,(zC a.2.2.2 (zC a.2.2.1 (dE a.2.1 k).2).2).1),(zC a.2.2.2 (zC a.2.2.1 (dE a.2.1 k).2).2).2)
def lK (a:dH):Nat:=qM a.2.1+nG a.2.2.1+nG a.2.2.2
theorem DP_ (a:dH):lK a≤8*mE a:=by
 unfold lK mE
 have h1:=tT a.2.1
 have h2:=lF a.2.2.1
 have h3:=lF a.2.2.2
 omega
theorem gW (a:dH) (k:Int):(aM a k).2=k+lK a:=by
 unfold aM lK
 simp only [rE,kE]
 try omega
theorem m_Graph (a:dH) (k:Int) (h0:0≤k) (h:k+8*mE a≤1125899906842624):oR a k=some (aM a k):=by
 unfold mE at h
 have h1:=tT a.2.1
 have h2:=lF a.2.2.1
 have h3:=lF a.2.2.2
 exact bnd (m_EdgeS _ _ h0 (by omega)) (bnd (oP _ _ (by simp only [rE];omega) (by simp only [rE];omega)) (bnd (oP _ _ (by simp only [rE,kE];omega) (by simp only [rE,kE];omega)) (rfl)))
theorem Au_ (a:dH) (k:Int) (h0:0≤k) (h:k+8*mE a≤1125899906842624):dN (aM a k).1 k=some (k+lK a):=by
 unfold mE at h
 have h1:=tT a.2.1
 have h2:=lF a.2.2.1
 have h3:=lF a.2.2.2
 have e0:eN (dE a.2.1 k).1 k=some (k+qM a.2.1):=h_EdgeS _ _ h0 (by omega)
 have e1:tG (zC a.2.2.1 (dE a.2.1 k).2).1 (dE a.2.1 k).2=some ((dE a.2.1 k).2+nG a.2.2.1):=pP _ _ (by simp only [rE];omega) (by simp only [rE];omega)
 have e2:tG (zC a.2.2.2 (zC a.2.2.1 (dE a.2.1 k).2).2).1 (zC a.2.2.1 (dE a.2.1 k).2).2=some ((zC a.2.2.1 (dE a.2.1 k).2).2+nG a.2.2.2):=pP _ _ (by simp only [rE,kE];omega) (by simp only [rE,kE];omega)
 simp only [rE] at e1
 simp only [rE,kE] at e2
 unfold lK aM
 refine bnd e0 (stp (cFW (dF (by omega)) ?_))
 refine bnd (by simp only [rE];exact e1) (stp (cFW (dF (by omega)) ?_))
 refine bnd (by simp only [rE,kE];exact e2) (stp (cFW (dF (by omega)) ?_))
 refine congrArg some ?_
 try simp only [rE,kE]
 try omega
end Go.Proofs.YtbofgnbanmbopaaGreatDoor
namespace Go.Proofs.YtbofgnbanmbopaaGreatDoor
structure GOk (g:Gra) (n:Nat):Prop where
 w:g.1=(n:Int)
 n100:n≤100
 e60:g.2.1.length≤60
 i12:g.2.2.1.length≤12
 o12:g.2.2.2.length≤12
 i:xB n g.2.2.1
 o:xB n g.2.2.2
 e:tD n g.2.1
 ar:g.2.1.all arB=true
 ti:eC g.2.1 edI≤120
 to:eC g.2.1 edO≤120
 cov:∀ k:Nat,k<n→(k:Int)∈cD g
theorem vX {g:Gra} (h:gOk g=true):∃ n,GOk g n:=by
 unfold gOk at h
 simp only [Bool.and_eq_true,decide_eq_true_eq] at h
 obtain ⟨h1,h2,h3,h4,h5,h6,h7,h8⟩:=h
 have hr:=rng_true.1 h1
 obtain ⟨n,hn⟩:∃ n:Nat,g.1=(n:Int):=⟨g.1.toNat,by omega⟩
 rw [hn] at h5 h6 h7 h8
 have h9:=Ac_ (jP h7)
 refine ⟨n,hn,by omega,h2,h3,h4,aK h5,aK h6,AK_ h7,jP h7,by omega,by omega,fun k hk=>?_⟩
 rw [Int.toNat_natCast] at h8
 exact of_decide_eq_true (List.all_eq_true.1 h8 k (List.mem_range.2 hk))
end Go.Proofs.YtbofgnbanmbopaaGreatDoor
namespace Go.Proofs.YtbofgnbanmbopaaGreatDoor
def oG {α:Type} (f f0:Nat→α) (j:Nat):Nat→α:=fun k=>if k<j then f k else f0 k
theorem Dl_ {α:Type}{n:Nat} (f f0:Nat→α) (j:Nat):(mA n fun k=>if k=j then f j else oG f f0 j k)=mA n (oG f f0 (j+1)):=by
 refine uC fun k _=>?_
 unfold oG
 by_cases h:k=j
 · subst h;rw [if_pos rfl,if_pos (by omega)]
 ·
  rw [if_neg h]
  by_cases h2:k<j
  · rw [if_pos h2,if_pos (by omega)]
  · rw [if_neg h2,if_neg (by omega)]
theorem uL {α:Type}{n:Nat} (f f0:Nat→α){g:Nat→List α→Option (List α)} (hg:∀ j,j<n→g j (mA n (oG f f0 j))=some (mA n fun k=>if k=j then f j else oG f f0 j k)):sA g n 0 (mA n f0)=some (mA n f):=by
 have:=mC (f:=g) (n:=n) (fun j=>mA n (oG f f0 j)) (fun j hj=>by rw [hg j hj,Dl_])
 have e0:mA n (oG f f0 0)=mA n f0:=uC fun k _=>by unfold oG;rw [if_neg (by omega)]
 have e1:mA n (oG f f0 n)=mA n f:=uC fun k hk=>by unfold oG;rw [if_pos hk]
 rw [e0,e1] at this
 exact this
theorem upT_ {n:Nat} (h:n≤1048576):vS (n:Int)=some (mA n fun k=>(k:Int)):=by
 have hm:gB=1099511627776:=rfl
 refine bnd (uU (by omega)) ?_
 rw [oO,mD]
 exact bnd (uL (fun k=>(k:Int)) (fun _=>0) (fun j hj=>bnd (kF _ _ hj) rfl)) rfl
def mp (t:Nat→Int) (l:List Int):List Int:=l.map fun x=>t x.toNat
def mpE (t:Nat→Int) (e:Edg):Edg:=(e.1,e.2.1,mp t (edI e),mp t (edO e))
def mpG (n:Int) (t:Nat→Int) (g:Gra):Gra:=(n,g.2.1.map (mpE t),mp t g.2.2.1,mp t g.2.2.2)
theorem fP {n:Nat}{l:List Int} (t:Nat→Int) (h:xB n l) (hl:l.length≤1048576):rJ l (mA n t)=some (mp t l):=by
 have hm:gB=1099511627776:=rfl
 refine bnd (zJ (fun x=>t x.toNat) l [] (by simp;omega) (fun j x s' hj hs=>?_)) rfl
 have hx:=h x (sE hj)
 obtain ⟨k,rfl⟩:∃ k:Nat,x=(k:Int):=⟨x.toNat,by omega⟩
 have hjl:=(List.getElem?_eq_some_iff.1 hj).1
 refine bnd (tA hj) (bnd (vD _ (by omega)) (bnd (zB (by simp at hs ⊢;omega)) ?_))
 rfl
theorem eP {n:Nat}{l:List Int} (t:Nat→Int) (h:xB n l) (hl:l.length≤1048576):sJ l (mA n t)=some (mp t l):=by
 have hm:gB=1099511627776:=rfl
 refine bnd (bnd (yW _ (by omega)) (bnd (zJ (fun x=>t x.toNat) l [] (by simp;omega) (fun j x s' hj hs=>?_)) rfl)) rfl
 have hx:=h x (sE hj)
 obtain ⟨k,rfl⟩:∃ k:Nat,x=(k:Int):=⟨x.toNat,by omega⟩
 have hjl:=(List.getElem?_eq_some_iff.1 hj).1
 refine bnd (tA hj) (bnd (vD _ (by omega)) (bnd (zB (by simp at hs ⊢;omega)) ?_))
 rfl
theorem jG {E:List Edg}{e:Edg} (s:Edg→List Int) (h:e∈E):(s e).length≤eC E s:=by
 unfold eC
 induction E with
 | nil=>cases h
 | cons x E ih=>
  rw [List.map_cons,List.flatten_cons,List.length_append]
  rcases List.mem_cons.1 h with rfl | h
  · omega
  · have:=ih h;omega
structure Rgd (n:Nat) (g:Gra):Prop where
 i:xB n g.2.2.1
 o:xB n g.2.2.2
 e:tD n g.2.1
 li:g.2.2.1.length≤1000
 lo:g.2.2.2.length≤1000
 le:g.2.1.length≤1000
 ti:eC g.2.1 edI≤1000
 to:eC g.2.1 edO≤1000
theorem GOk.rgd {g:Gra}{n:Nat} (h:GOk g n):Rgd n g:=by
 have:=h.i12;have:=h.o12;have:=h.e60;have:=h.ti;have:=h.to
 exact ⟨h.i,h.o,h.e,by omega,by omega,by omega,by omega,by omega⟩
theorem hgMap_ {n:Nat}{g:Gra} (t:Nat→Int) (w:Int) (h:Rgd n g):oS g (mA n t) w=some (mpG w t g):=by
 have hm:gB=1099511627776:=rfl
 obtain ⟨w0,E,I,O⟩:=g
 obtain ⟨h1,h2,h3,h4,h5,h6,h7,h8⟩:=h
 dsimp only at h1 h2 h3 h4 h5 h6 h7 h8
 refine bnd (bnd (fP t h1 (by dsimp only;omega)) (bnd (fP t h2 (by dsimp only;omega)) rfl)) ?_
 refine bnd (zJ (mpE t) E [] (by simp;omega) (fun j e s' hj hs=>?_)) rfl
 have he:=sE hj
 have hjl:=(List.getElem?_eq_some_iff.1 hj).1
 have l1:=jG edI he
 have l2:=jG edO he
 exact bnd (tA hj) (bnd (fP t (h3 e he).1 (show (edI e).length≤_ by omega)) (bnd (fP t (h3 e he).2 (show (edO e).length≤_ by omega)) (bnd (zB (by simp at hs ⊢;omega)) rfl)))
theorem moved_ {n:Nat}{g:Gra} (t:Nat→Int) (w:Int) (h:Rgd n g):aR g w (mA n t)=some (mpG w t g):=by
 have hm:gB=1099511627776:=rfl
 obtain ⟨w0,E,I,O⟩:=g
 obtain ⟨h1,h2,h3,h4,h5,h6,h7,h8⟩:=h
 dsimp only at h1 h2 h3 h4 h5 h6 h7 h8
 refine bnd (bnd (eP t h1 (by dsimp only;omega)) (bnd (eP t h2 (by dsimp only;omega)) rfl)) ?_
 refine bnd (zJ (mpE t) E [] (by simp;omega) (fun j e s' hj hs=>?_)) rfl
 have he:=sE hj
 have hjl:=(List.getElem?_eq_some_iff.1 hj).1
 have l1:=jG edI he
 have l2:=jG edO he
 exact bnd (tA hj) (bnd (eP t (h3 e he).1 (show (edI e).length≤_ by omega)) (bnd (eP t (h3 e he).2 (show (edO e).length≤_ by omega)) (bnd (zB (by simp at hs ⊢;omega)) rfl)))
theorem mp_len (t:Nat→Int) (l:List Int):(mp t l).length=l.length:=by unfold mp;rw [List.length_map]
theorem wO {a b:List Int} (h:a.length+b.length≤1048576):fG [a,b]=some (a++b):=by
 have hm:gB=1099511627776:=rfl
 refine bnd (a:=a++b) ?_ rfl
 refine bnd (a:=a) (bnd (a:=a) rfl (bnd (zB (by simp;omega)) rfl)) (bnd (a:=a++b) (bnd (a:=b) rfl (bnd (zB (by omega)) rfl)) rfl)
def noG:Gra:=(0,[],[],[])
end Go.Proofs.YtbofgnbanmbopaaGreatDoor
namespace Go.Proofs.YtbofgnbanmbopaaGreatDoor
def sK (c:Nat→Nat) (u v:Nat):Nat→Nat:=fun w=>if c w=max (c u) (c v) then min (c u) (c v) else c w
structure Cls (c:Nat→Nat):Prop where
 le:∀ w,c w≤w
 idem:∀ w,c (c w)=c w
theorem Cls.join {c:Nat→Nat} (h:Cls c) (u v:Nat):Cls (sK c u v):=by
 have iu:=h.idem u;have iv:=h.idem v
 refine ⟨fun w=>?_,fun w=>?_⟩
 ·
  unfold sK
  have:=h.le w
  split <;> omega
 ·
  unfold sK
  by_cases hw:c w=max (c u) (c v)
  ·
   rw [if_pos hw]
   have hk:c (min (c u) (c v))=min (c u) (c v):=by
    rcases Nat.le_total (c u) (c v) with h1 | h1
    · rw [Nat.min_eq_left h1,iu]
    · rw [Nat.min_eq_right h1,iv]
   rw [hk]
   split <;> rfl
  · rw [if_neg hw,h.idem w,if_neg hw]
structure Forest (n:Nat) (c cls:Nat→Nat):Prop where
 le:∀ w,w<n→c w≤w
 fix:∀ w,w<n→c w=w→cls w=w
 up:∀ w,w<n→cls (c w)=cls w
def fF (n:Nat) (c:Nat→Nat):List Int:=mA n fun k=>(c k:Int)
theorem yP {n:Nat}{c cls:Nat→Nat} (h:Forest n c cls){w:Nat} (hw:w<n):lJ (fF n c) (w:Int)=some (cls w:Int):=by
 obtain ⟨t,h1,rfl⟩:=CU_ (f:=fun (s126:Int)=>
   (bA (fF n c) s126).bind fun a141=>
   (some (!decide (a141=s126))).bind fun a143=>
   cond a143
   ((bA (fF n c) s126).bind fun a154=>
    some (.inl a154))
   (some (.inr s126))) (fun s=>∃ k:Nat,s=(k:Int)∧k<n∧cls k=cls w) (fun t=>t=(cls w:Int)) (fun s=>s.toNat) (by
  rintro s ⟨k,rfl,hk,he⟩
  have hi:bA (fF n c) (k:Int)=some (c k:Int):=vD _ hk
  have hle:=h.le k hk
  by_cases hf:c k=k
  ·
   refine .inr ⟨(k:Int),bnd hi (stp (cFW (nT (dT (by omega))) rfl)),?_⟩
   rw [←he,h.fix k hk hf]
  · exact .inl ⟨(c k:Int),bnd hi (stp (cTW (nF (dF (by omega))) (bnd hi rfl))),⟨c k,rfl,by omega,by rw [h.up k hk,he]⟩,by omega⟩) (s:=(w:Int)) ⟨w,rfl,hw,rfl⟩
 exact bnd h1 rfl
theorem Forest.join {n:Nat}{c cls:Nat→Nat} (h:Forest n c cls) (hc:Cls cls) (u v:Nat):Forest n (fun k=>if k=max (cls u) (cls v) then min (cls u) (cls v) else c k) (sK cls u v):=by
 have iu:=hc.idem u;have iv:=hc.idem v
 have hm:cls (max (cls u) (cls v))=max (cls u) (cls v):=by
  rcases Nat.le_total (cls u) (cls v) with h1 | h1
  · rw [Nat.max_eq_right h1,iv]
  · rw [Nat.max_eq_left h1,iu]
 have hk:cls (min (cls u) (cls v))=min (cls u) (cls v):=by
  rcases Nat.le_total (cls u) (cls v) with h1 | h1
  · rw [Nat.min_eq_left h1,iu]
  · rw [Nat.min_eq_right h1,iv]
 refine ⟨fun w hw=>?_,fun w hw=>?_,fun w hw=>?_⟩
 ·
  have:=h.le w hw
  split <;> omega
 ·
  unfold sK
  intro hf
  by_cases hwm:w=max (cls u) (cls v)
  ·
   rw [if_pos hwm] at hf
   subst hwm
   rw [hm,if_pos rfl];exact hf
  ·
   rw [if_neg hwm] at hf
   have:=h.fix w hw hf
   rw [this,if_neg hwm]
 ·
  unfold sK
  by_cases hwm:w=max (cls u) (cls v)
  ·
   rw [if_pos hwm,hwm,hm,if_pos rfl,hk]
   split <;> rfl
  · rw [if_neg hwm,h.up w hw]
theorem DA_ (a b:Nat):rK (a:Int) (b:Int)=((max a b:Nat):Int):=by unfold rK;split <;> omega
theorem Dz_ (a b:Nat):qK (a:Int) (b:Int)=((min a b:Nat):Int):=by unfold qK;split <;> omega
theorem join_ {n:Nat}{c cls:Nat→Nat} (h:Forest n c cls) (hc:Cls cls){u v:Nat} (hu:u<n) (hv:v<n):mJ (fF n c) (u:Int) (v:Int)=some (fF n fun k=>if k=max (cls u) (cls v) then min (cls u) (cls v) else c k):=by
 have l1:=hc.le u;have l2:=hc.le v
 refine bnd (yP h hu) (bnd (yP h hv) (stp (stp ?_)))
 rw [DA_,Dz_]
 refine bnd (kF _ _ (by omega)) (congrArg some (uC fun k _=>?_))
 show _=((if k=max (cls u) (cls v) then min (cls u) (cls v) else c k:Nat):Int)
 split <;> rfl
end Go.Proofs.YtbofgnbanmbopaaGreatDoor
namespace Go.Proofs.YtbofgnbanmbopaaGreatDoor
theorem sW {n:Nat} (L:List Int) (hL:xB n L) (hn:L.Nodup):∀ k,k≤L.length→seenN n (L.take k)=k
 | 0,_=>by unfold seenN;simp
 | k+1,hk=>by
  have ih:=sW L hL hn k (by omega)
  have e:L.take (k+1)=L.take k++[L[k]]:=by rw [List.take_add_one,List.getElem?_eq_getElem (by omega)];rfl
  have hr:=hL _ (List.getElem_mem (show k<L.length by omega))
  obtain ⟨m,hm⟩:∃ m:Nat,L[k]=(m:Int):=⟨L[k].toNat,by omega⟩
  have hnot:¬(m:Int)∈L.take k:=by
   rw [←hm]
   intro h
   obtain ⟨j,hj,he⟩:=List.mem_iff_getElem.1 h
   have hj':j<k:=by rw [List.length_take] at hj;omega
   rw [List.getElem_take] at he
   have:=(List.getElem_inj hn).1 he
   omega
  have:=(lX n (L.take k) m (by omega) hnot).1
  rw [e,hm,this,ih]
theorem yN {n:Nat}{L:List Int} (hL:xB n L) (hn:L.Nodup):seenN n L=L.length:=by
 have:=sW L hL hn L.length (Nat.le_refl _)
 rwa [List.take_length] at this
theorem seenN_full {n:Nat}{L:List Int}:seenN n L=n↔∀ k:Nat,k<n→(k:Int)∈L:=by
 have:seenN n L=(List.range n).length↔_:=List.countP_eq_length
 rw [List.length_range] at this
 rw [this]
 constructor
 · intro h k hk;exact of_decide_eq_true (h k (List.mem_range.2 hk))
 · intro h k hk;exact decide_eq_true (h k (List.mem_range.1 hk))
def rD (n:Nat) (L:List Int):Bool:=wOk n L&&decide L.Nodup
theorem nodup_snoc {L:List Int}{x:Int}:(L++[x]).Nodup↔L.Nodup∧¬x∈L:=by
 rw [List.nodup_append]
 constructor
 · rintro ⟨h1,_,h3⟩;exact ⟨h1,fun h=>h3 x h x (by simp) rfl⟩
 · rintro ⟨h1,h2⟩;exact ⟨h1,by simp,fun a ha b hb=>by rw [List.mem_singleton.1 hb];rintro rfl;exact h2 ha⟩
theorem Db_ {n:Nat}{L:List Int}{j:Nat} (hj:j<L.length):rD n (L.take (j+1))=(rD n (L.take j)&&(rng L[j] 0 ((n:Int)-1)&&!decide (L[j]∈L.take j))):=by
 have e:L.take (j+1)=L.take j++[L[j]]:=by rw [List.take_add_one,List.getElem?_eq_getElem hj];rfl
 unfold rD
 rw [e,all_app,decide_eq_decide.2 nodup_snoc,Bool.decide_and]
 have:wOk n [L[j]]=rng L[j] 0 ((n:Int)-1):=by unfold wOk;simp
 rw [this,decide_not]
 cases wOk n (L.take j) <;> cases rng L[j] 0 ((n:Int)-1) <;> cases decide (L.take j).Nodup <;> cases decide (L[j]∈L.take j) <;> rfl
theorem Dc_ {n:Nat}{L:List Int}{j:Nat} (h:rD n (L.take j)=false):rD n L=false:=by
 cases hd:rD n L with
 | false=>rfl
 | true=>
  unfold rD at h hd
  simp only [Bool.and_eq_true,decide_eq_true_eq] at hd
  have h1:wOk n (L.take j)=true:=List.all_eq_true.2 fun x hx=>List.all_eq_true.1 hd.1 x (List.mem_of_mem_take hx)
  have h2:(L.take j).Nodup:=hd.2.sublist (List.take_sublist _ _)
  rw [h1,decide_eq_true h2] at h;cases h
theorem DM_ {n:Nat} (hn:n≤1099511627776) (L:List Int):(rD n L=true∧∃ s,kC (fun (k10:Nat) (s137:List Bool)=>
    (bA L ((k10:Nat):Int)).bind fun a152=>
    ((subO (n:Int) 1).bind fun a177=>
     (iE a152 0 a177).bind fun y179=>
     (some (!y179)).bind fun a182=>
     cond a182
     (some true)
     ((bA s137 a152).bind fun a191=>
      some a191)).bind fun (s171:Bool)=>
    cond s171
    (some (.inr false))
    ((oA s137 a152 true).bind fun a203=>
     some (.inl a203))) L.length 0 (mA n fun _=>false)=some (.inl s))∨(rD n L=false∧kC (fun (k10:Nat) (s137:List Bool)=>
    (bA L ((k10:Nat):Int)).bind fun a152=>
    ((subO (n:Int) 1).bind fun a177=>
     (iE a152 0 a177).bind fun y179=>
     (some (!y179)).bind fun a182=>
     cond a182
     (some true)
     ((bA s137 a152).bind fun a191=>
      some a191)).bind fun (s171:Bool)=>
    cond s171
    (some (.inr false))
    ((oA s137 a152 true).bind fun a203=>
     some (.inl a203))) L.length 0 (mA n fun _=>false)=some (.inr false)):=by
 rcases D3_ (n:=L.length) (s:=mA n fun _=>false) (f:=fun (k10:Nat) (s137:List Bool)=>
    (bA L ((k10:Nat):Int)).bind fun a152=>
    ((subO (n:Int) 1).bind fun a177=>
     (iE a152 0 a177).bind fun y179=>
     (some (!y179)).bind fun a182=>
     cond a182
     (some true)
     ((bA s137 a152).bind fun a191=>
      some a191)).bind fun (s171:Bool)=>
    cond s171
    (some (.inr false))
    ((oA s137 a152 true).bind fun a203=>
     some (.inl a203))) (fun j s=>s.length=n∧(∀ y,M s y↔y∈L.take j)∧rD n (L.take j)=true) (fun t=>t=false∧rD n L=false)
   ⟨mD _ _,fun y=>⟨fun h=>(M_none n y h).elim,fun h=>by simp at h⟩,rfl⟩ (fun j s hj ⟨h1,h2,h3⟩=>by
  have hstep:=Db_ (n:=n) hj
  rw [h3,Bool.true_and] at hstep
  have hpre:∀ {β:Type} {k:Bool→Option β} {y:Option β} (b:Bool),b=!(rng L[j] 0 ((n:Int)-1)&&!decide (L[j]∈L.take j))→k b=y→(((subO (n:Int) 1).bind fun a177=>
     (iE L[j] 0 a177).bind fun y179=>
     (some (!y179)).bind fun a182=>
     cond a182
     (some true)
     ((bA s L[j]).bind fun a191=>
      some a191)).bind k)=y:=by
   intro β k y b hb hk
   refine bnd (a:=b) ?_ hk
   rw [hb]
   refine bnd (wD (by omega) (by omega)) (bnd (uE _ _ _) (stp ?_))
   cases hr:rng L[j] 0 ((n:Int)-1) with
   | false=>rfl
   | true=>
    have:=rng_true.1 hr
    refine cFW rfl (bnd (M_idx (by omega) (by omega)) ?_)
    rw [decide_eq_decide.2 (h2 L[j])]
    cases decide (L[j]∈L.take j) <;> rfl
  cases hc:(rng L[j] 0 ((n:Int)-1)&&!decide (L[j]∈L.take j)) with
  | false=>
   rw [hc] at hstep
   exact .inr ⟨false,bnd (tA (List.getElem?_eq_getElem hj)) (hpre true (by rw [hc];rfl) rfl),rfl,Dc_ hstep⟩
  | true=>
   rw [hc] at hstep
   simp only [Bool.and_eq_true] at hc
   have hr:=rng_true.1 hc.1
   have hs:=M_set (s:=s) (x:=L[j]) (by omega) (by omega)
   refine .inl ⟨_,bnd (tA (List.getElem?_eq_getElem hj)) (hpre false (by rw [hc.1,hc.2];rfl) (bnd hs.1 rfl)),by rw [List.length_set];exact h1,fun y=>?_,hstep⟩
   rw [hs.2 y,h2 y,List.take_add_one,List.getElem?_eq_getElem hj,List.mem_append]
   simp) with ⟨s,h1,_,_,h2⟩ | ⟨t,h1,rfl,h2⟩
 · rw [List.take_length] at h2;exact .inl ⟨h2,s,h1⟩
 · exact .inr ⟨h2,h1⟩
theorem vV {n:Nat} (hn:n≤1099511627776) (L:List Int):sQ L (n:Int)=some (decide (L.length=n)&&rD n L):=by
 refine stp ?_
 by_cases h:L.length=n
 ·
  refine cFW (nT (dT (by omega))) (bnd (xI _ (by unfold gB;omega)) ?_)
  rw [dT h,Bool.true_and]
  rcases DM_ hn L with ⟨h1,s,h2⟩ | ⟨h1,h2⟩
  · rw [h1];exact sqW h2 rfl
  · rw [h1];exact sqW h2 rfl
 · rw [dF h];exact cTW (nF (dF (by omega))) rfl
def wF (g:Gra):List Int:=g.2.2.1++(g.2.1.map edO).flatten
def oH (g:Gra):List Int:=g.2.2.2++(g.2.1.map edI).flatten
def bQ (g:Gra):Bool:=gOk g&&((decide ((wF g).length=g.1.toNat)&&rD g.1.toNat (wF g))&&(decide ((oH g).length=g.1.toNat)&&rD g.1.toNat (oH g)))
theorem aH {n:Nat}{a b:List Int} (ha:xB n a) (hb:xB n b):xB n (a++b):=by
 intro x hx
 rcases List.mem_append.1 hx with h | h
 · exact ha x h
 · exact hb x h
theorem fK {n:Nat}{l:List Int} (h:xB n l):wOk n l=true:=List.all_eq_true.2 fun x hx=>rng_true.2 (by have:=h x hx;omega)
theorem yY {L:List (List Int)} (h:L.flatten.length≤1099511627776):fG L=some L.flatten:=by
 have:=mC (n:=L.length) (fun j=>(L.take j).flatten) (f:=fun (k5:Nat) (s41:List Int)=>
   (bA L ((k5:Nat):Int)).bind fun a57=>
   (iB s41 a57).bind fun a61=>
   some a61) (fun j hj=>by
  have e:(L.take (j+1)).flatten=(L.take j).flatten++L[j]:=by
   rw [List.take_add_one,List.getElem?_eq_getElem hj,List.flatten_append]
   simp only [Option.toList_some,List.flatten_cons,List.flatten_nil,List.append_nil]
  have hle:(L.take (j+1)).flatten.length≤L.flatten.length:=by
   have:L=L.take (j+1)++L.drop (j+1):=(List.take_append_drop _ _).symm
   conv=>rhs;rw [this]
   rw [List.flatten_append,List.length_append];omega
  rw [e,List.length_append] at hle
  rw [e]
  exact bnd (tA (List.getElem?_eq_getElem hj)) (bnd (zB (by unfold gB;omega)) rfl))
 rw [List.take_length] at this
 exact bnd this rfl
theorem zY (g:Gra):gQ g=some (bQ g):=by
 have hm:gB=1099511627776:=rfl
 unfold bQ
 cases hg:gOk g with
 | false=>refine bnd (aZ g) ?_;rw [hg];rfl
 | true=>
  obtain ⟨n,h⟩:=vX hg
  obtain ⟨w,E,I,O⟩:=g
  obtain rfl:w=(n:Int):=h.w
  have ti:=h.ti;have to:=h.to;have i12:=h.i12;have o12:=h.o12;have n100:=h.n100;have e60:=h.e60
  dsimp only at ti to i12 o12 e60
  rw [Bool.true_and]
  refine bnd (aZ _) ?_
  rw [hg]
  refine stp (cFW rfl (stp ?_))
  have loop:=mC (n:=E.length) (fun j=>(I::(E.take j).map edO,O::(E.take j).map edI)) (f:=fun (k73:Nat) (s152:List (List Int)×List (List Int))=>
    (bA E ((k73:Nat):Int)).bind fun a169=>
    (iB s152.1 [a169.2.2.2]).bind fun a185=>
    (iB s152.2 [a169.2.2.1]).bind fun a194=>
    some (a185,a194)) (fun j hj=>by
   have e:∀ s:Edg→List Int,(E.take (j+1)).map s=(E.take j).map s++[s E[j]]:=fun s=>by rw [List.take_add_one,List.getElem?_eq_getElem hj,List.map_append];rfl
   refine bnd (tA (List.getElem?_eq_getElem hj)) (bnd (zB ?_) (bnd (zB ?_) ?_))
   · simp;omega
   · simp;omega
   · rw [e,e];rfl)
  rw [List.take_length] at loop
  refine bnd loop ?_
  have f1:(I::E.map edO).flatten=wF ((n:Int),E,I,O):=by unfold wF;rw [List.flatten_cons]
  have f2:(O::E.map edI).flatten=oH ((n:Int),E,I,O):=by unfold oH;rw [List.flatten_cons]
  have l1:(wF ((n:Int),E,I,O)).length≤1099511627776:=by
   unfold wF;rw [List.length_append]
   have:(E.map edO).flatten.length=eC E edO:=rfl
   dsimp only;omega
  have l2:(oH ((n:Int),E,I,O)).length≤1099511627776:=by
   unfold oH;rw [List.length_append]
   have:(E.map edI).flatten.length=eC E edI:=rfl
   dsimp only;omega
  rw [Int.toNat_natCast]
  refine bnd (bnd (bnd (yY (by rw [f1];exact l1)) (bnd (vV (by omega) _) rfl)) ?_) rfl
  rw [f1]
  cases (decide ((wF ((n:Int),E,I,O)).length=n)&&rD n (wF ((n:Int),E,I,O))) with
  | false=>rfl
  | true=>
   refine cTW rfl (bnd (bnd (yY (by rw [f2];exact l2)) (bnd (vV (by omega) _) rfl)) ?_)
   rw [f2];rfl
end Go.Proofs.YtbofgnbanmbopaaGreatDoor
namespace Go.Proofs.YtbofgnbanmbopaaGreatDoor
set_option linter.unusedVariables false
def plcF:List Int→Nat→Int→Int
 | [],_,_=>-1
 | a::l,i,x=>if a=x then (i:Int) else plcF l (i+1) x
def plc (l:List Int) (x:Int):Int:=plcF l 0 x
theorem nY:∀ {l:List Int}{i:Nat}{x:Int},x∈l→(i:Int)≤plcF l i x∧plcF l i x<(i:Int)+l.length
 | a::l,i,x,h=>by
  unfold plcF
  by_cases ha:a=x
  · rw [if_pos ha,List.length_cons];omega
  ·
   rw [if_neg ha]
   have:=nY (i:=i+1) ((List.mem_cons.1 h).resolve_left fun e=>ha e.symm)
   rw [List.length_cons];omega
theorem mY:∀ {l:List Int}{i:Nat}{x:Int},¬x∈l→plcF l i x = -1
 | [],_,_,_=>rfl
 | a::l,i,x,h=>by
  rw [List.mem_cons,not_or] at h
  unfold plcF
  rw [if_neg (fun e=>h.1 e.symm)]
  exact mY h.2
theorem qX:∀ {l:List Int}{i:Nat}{x y:Int},¬x∈l→plcF (l++[x]) i y=if y=x then ((i+l.length:Nat):Int) else plcF l i y
 | [],i,x,y,_=>by
  show (if x=y then (i:Int) else -1)=_
  by_cases h:y=x
  · rw [if_pos h.symm,if_pos h];rfl
  · rw [if_neg (fun e=>h e.symm),if_neg h];rfl
 | a::l,i,x,y,h=>by
  rw [List.mem_cons,not_or] at h
  show (if a=y then (i:Int) else plcF (l++[x]) (i+1) y)=if y=x then _ else if a=y then (i:Int) else plcF l (i+1) y
  rw [qX h.2]
  by_cases hy:y=x
  ·
   rw [if_neg (fun e=>h.1 (hy.symm.trans e.symm)),if_pos hy,if_pos hy,List.length_cons]
   congr 1;omega
  · rw [if_neg hy,if_neg hy]
theorem eM {l:List Int}{x:Int} (h:x∈l):0≤plc l x∧plc l x<l.length:=by
 have:=nY (i:=0) h
 unfold plc;omega
theorem Al_ {l:List Int}{x:Int} (h:¬x∈l):plc l x = -1:=mY h
theorem lY {l:List Int}{x y:Int} (h:¬x∈l):plc (l++[x]) y=if y=x then ((l.length:Nat):Int) else plc l y:=by
 unfold plc
 rw [qX h,Nat.zero_add]
theorem plc_neg {l:List Int}{x:Int}:plc l x<0↔¬x∈l:=by
 constructor
 · intro h hx;have:=eM hx;omega
 · intro h;rw [Al_ h];omega
def giv1 (o:List Int) (w:Int):List Int:=if w∈o then o else o++[w]
def giv (o l:List Int):List Int:=l.foldl giv1 o
structure Od (n:Nat) (o:List Int):Prop where
 r:xB n o
 d:o.Nodup
theorem Od.le {n:Nat}{o:List Int} (h:Od n o):o.length≤n:=by
 rw [←yN h.r h.d];exact jY _ _
theorem Od.giv1 {n:Nat}{o:List Int}{w:Int} (h:Od n o) (hw:0≤w∧w<(n:Int)):Od n (giv1 o w):=by
 unfold Go.Proofs.YtbofgnbanmbopaaGreatDoor.giv1
 split
 · exact h
 · exact ⟨aH h.r (fun x hx=>by simp at hx;subst hx;exact hw),nodup_snoc.2 ⟨h.d,‹_›⟩⟩
theorem Od.giv {n:Nat}:∀ {l:List Int}{o:List Int},Od n o→xB n l→Od n (giv o l)
 | [],_,h,_=>h
 | w::l,o,h,hl=>Od.giv (l:=l) (h.giv1 (hl w (.head _))) (fun x hx=>hl x (.tail _ hx))
theorem giv1_mem {o:List Int}{w x:Int}:x∈giv1 o w↔x∈o∨x=w:=by
 unfold giv1
 split
 ·
  constructor
  · exact .inl
  ·
   rintro (h | rfl)
   · exact h
   · assumption
 · simp
theorem giv_mem:∀ {l o:List Int}{x:Int},x∈giv o l↔x∈o∨x∈l
 | [],o,x=>by simp [giv]
 | w::l,o,x=>by
  show x∈giv (giv1 o w) l↔_
  rw [giv_mem,giv1_mem,List.mem_cons,or_assoc]
theorem gP (o a b:List Int):giv o (a++b)=giv (giv o a) b:=List.foldl_append
theorem D1_ (o:List Int) (w:Int):∃ r,giv1 o w=o++r:=by
 unfold giv1
 split
 · exact ⟨[],by simp⟩
 · exact ⟨[w],rfl⟩
theorem pU:∀ (l o:List Int),∃ r,giv o l=o++r
 | [],o=>⟨[],by simp [giv]⟩
 | w::l,o=>by
  obtain ⟨r,h⟩:=D1_ o w
  obtain ⟨r',h'⟩:=pU l (giv1 o w)
  exact ⟨r++r',by show giv (giv1 o w) l=_;rw [h',h,List.append_assoc]⟩
theorem kP {n:Nat} (hn:n≤1000){o l:List Int} (ho:Od n o) (hl:xB n l):eG (mA n fun k=>plc o k) o l=some (mA n (fun k=>plc (giv o l) k),giv o l):=by
 have hm:gB=1099511627776:=rfl
 have key:=mC (n:=l.length) (fun j=>((mA n fun k=>plc (giv o (l.take j)) k),giv o (l.take j))) (f:=fun (k4:Nat) (s84:List Int×List Int)=>
   (bA l ((k4:Nat):Int)).bind fun a100=>
   (bA s84.1 a100).bind fun a108=>
   (some (decide (a108<0))).bind fun a110=>
   cond a110
   ((oA s84.1 a100 ((s84.2.length:Nat):Int)).bind fun a120=>
    (iB s84.2 [a100]).bind fun a126=>
    some (a120,a126))
   (some (s84.1,s84.2))) (fun j hj=>by
  have hOd:Od n (giv o (l.take j)):=ho.giv (fun x hx=>hl x (List.mem_of_mem_take hx))
  have hle:=hOd.le
  have hr:=hl _ (List.getElem_mem hj)
  have hs:giv o (l.take (j+1))=giv1 (giv o (l.take j)) l[j]:=by
   rw [List.take_add_one,List.getElem?_eq_getElem hj]
   exact gP _ _ _
  obtain ⟨m,hme⟩:∃ m:Nat,l[j]=(m:Int):=⟨l[j].toNat,by omega⟩
  rw [hs]
  refine bnd (tA (List.getElem?_eq_getElem hj)) ?_
  rw [hme]
  refine bnd (vD _ (by omega)) (stp ?_)
  unfold giv1
  by_cases hin:(m:Int)∈giv o (l.take j)
  ·
   rw [if_pos hin]
   exact cFW (dF (fun h=>plc_neg.1 h hin)) rfl
  ·
   rw [if_neg hin]
   refine cTW (dT (plc_neg.2 hin)) (bnd (kF _ _ (by omega)) (bnd (zB (by simp;omega)) (congrArg some (Prod.ext (uC fun k hk=>?_) rfl))))
   rw [lY hin]
   by_cases hkm:k=m
   · rw [if_pos hkm,if_pos (by omega)]
   · rw [if_neg hkm,if_neg (by omega)])
 rw [List.take_length] at key
 exact bnd key rfl
theorem AN_ {n:Nat} (hn:n≤1000):vN (n:Int)=some (mA n fun _=>(-1:Int)):=by
 have hm:gB=1099511627776:=rfl
 refine bnd (xI _ (by omega)) ?_
 rw [mD]
 exact bnd (uL (fun _=>(-1:Int)) (fun _=>0) (fun j hj=>bnd (kF _ _ hj) rfl)) rfl
theorem fO {n:Nat} (hn:n≤1000) (a:Int):qJ a (n:Int)=some (mA n fun _=>a):=by
 have hm:gB=1099511627776:=rfl
 refine bnd (uU (by omega)) ?_
 rw [oO,mD]
 exact bnd (uL (fun _=>a) (fun _=>0) (fun j hj=>bnd (kF _ _ hj) rfl)) rfl
def whrF (s:Edg→List Int):List Edg→Nat→Int→Int→Int
 | [],_,_,a=>a
 | e::E,i,x,a=>whrF s E (i+1) x (if x∈s e then (i:Int) else a)
def whr (s:Edg→List Int) (E:List Edg) (x:Int):Int:=whrF s E 0 x (-1)
theorem whrF_snoc {s:Edg→List Int}:∀ {E:List Edg}{i:Nat}{x a:Int}{e:Edg},whrF s (E++[e]) i x a=if x∈s e then ((i+E.length:Nat):Int) else whrF s E i x a
 | [],i,x,a,e=>rfl
 | d::E,i,x,a,e=>by
  show whrF s (E++[e]) (i+1) x (if x∈s d then (i:Int) else a)=if x∈s e then _ else whrF s E (i+1) x (if x∈s d then (i:Int) else a)
  rw [whrF_snoc,List.length_cons]
  congr 2;omega
theorem vL {s:Edg→List Int}{E:List Edg}{j:Nat} (hj:j<E.length) (x:Int):whr s (E.take (j+1)) x=if x∈s E[j] then (j:Int) else whr s (E.take j) x:=by
 rw [List.take_add_one,List.getElem?_eq_getElem hj]
 unfold whr
 rw [show (some E[j]).toList=[E[j]] from rfl,whrF_snoc,List.length_take,Nat.min_eq_left (by omega),Nat.zero_add]
theorem yZ (s:Edg→List Int) (E:List Edg) (x:Int):(whr s E x = -1∧∀ e∈E,¬x∈s e)∨∃ i,∃ h:i<E.length,whr s E x=(i:Int)∧x∈s E[i]:=by
 have key:∀ j,j≤E.length→(whr s (E.take j) x = -1∧∀ e∈E.take j,¬x∈s e)∨∃ i,∃ h:i<E.length,whr s (E.take j) x=(i:Int)∧x∈s E[i]:=by
  intro j
  induction j with
  | zero=>intro _;exact .inl ⟨rfl,fun e he=>by simp at he⟩
  | succ j ih=>
   intro hj
   rw [vL (by omega)]
   by_cases h:x∈s E[j]
   · rw [if_pos h];exact .inr ⟨j,by omega,rfl,h⟩
   ·
    rw [if_neg h]
    rcases ih (by omega) with ⟨h1,h2⟩ | h1
    ·
     refine .inl ⟨h1,fun e he=>?_⟩
     rw [List.take_add_one,List.getElem?_eq_getElem (by omega)] at he
     rcases List.mem_append.1 he with he | he
     · exact h2 e he
     · simp at he;subst he;exact h
    · exact .inr h1
 have:=key E.length (Nat.le_refl _)
 rwa [List.take_length] at this
theorem eO {n:Nat} (l:List Int) (v:Int) (f:Nat→Int) (hl:xB n l){g:Nat→List Int→Option (List Int)} (hg:∀ k s,g k s=((bA l ((k:Nat):Int)).bind fun a=>(oA s a v).bind fun b=>some b)) :
  sA g l.length 0 (mA n f)=some (mA n fun k=>if (k:Int)∈l then v else f k):=by
 have key:=mC (f:=g) (n:=l.length) (fun j=>mA n fun k=>if (k:Int)∈l.take j then v else f k) (fun j hj=>by
  rw [hg]
  have hr:=hl _ (List.getElem_mem hj)
  obtain ⟨m,hme⟩:∃ m:Nat,l[j]=(m:Int):=⟨l[j].toNat,by omega⟩
  refine bnd (tA (List.getElem?_eq_getElem hj)) ?_
  rw [hme]
  refine bnd (kF _ _ (by omega)) (congrArg some (uC fun k hk=>?_))
  rw [List.take_add_one,List.getElem?_eq_getElem hj,hme]
  by_cases h:k=m
  · subst h;rw [if_pos rfl,if_pos (by simp)]
  ·
   rw [if_neg h]
   have:¬(k:Int)=(m:Int):=by omega
   simp [this])
 rw [List.take_length] at key
 have e0:(mA n fun k=>if (k:Int)∈l.take 0 then v else f k)=mA n f:=uC fun k hk=>by simp
 rw [e0] at key
 exact key
theorem C1_ {n:Nat} (hn:n≤1000){E:List Edg}{I O:List Int} (hE:tD n E):mR ((n:Int),E,I,O)=some (mA n fun k=>whr edO E k):=by
 have hm:gB=1099511627776:=rfl
 refine bnd (xI _ (by omega)) ?_
 rw [mD]
 refine bnd (uL (fun _=>(-1:Int)) (fun _=>0) (fun j hj=>bnd (kF _ _ hj) rfl)) ?_
 have key:=mC (n:=E.length) (fun j=>mA n fun k=>whr edO (E.take j) k) (f:=fun (k57:Nat) (s236:List Int)=>
   (bA E ((k57:Nat):Int)).bind fun a251=>
   (sA (fun (k263:Nat) (s302:List Int)=>
     (bA a251.2.2.2 ((k263:Nat):Int)).bind fun a317=>
     (oA s302 a317 ((k57:Nat):Int)).bind fun a325=>
     some a325) a251.2.2.2.length 0 s236).bind fun (s330:List Int)=>
   some s330) (fun j hj=>by
  refine bnd (tA (List.getElem?_eq_getElem hj)) (bnd (eO (edO E[j]) _ _ (hE _ (List.getElem_mem hj)).2 (fun _ _=>rfl)) (congrArg some (uC fun k hk=>?_)))
  rw [vL hj])
 rw [List.take_length] at key
 exact bnd key rfl
theorem mtEnds_ {n:Nat} (hn:n≤1000){E:List Edg}{I O:List Int} (hE:tD n E):eS ((n:Int),E,I,O)=some (mA n fun k=>whr edI E k):=by
 have hm:gB=1099511627776:=rfl
 refine bnd (xI _ (by omega)) ?_
 rw [mD]
 refine bnd (uL (fun _=>(-1:Int)) (fun _=>0) (fun j hj=>bnd (kF _ _ hj) rfl)) ?_
 have key:=mC (n:=E.length) (fun j=>mA n fun k=>whr edI (E.take j) k) (f:=fun (k57:Nat) (s236:List Int)=>
   (bA E ((k57:Nat):Int)).bind fun a251=>
   (sA (fun (k263:Nat) (s302:List Int)=>
     (bA a251.2.2.1 ((k263:Nat):Int)).bind fun a317=>
     (oA s302 a317 ((k57:Nat):Int)).bind fun a325=>
     some a325) a251.2.2.1.length 0 s236).bind fun (s330:List Int)=>
   some s330) (fun j hj=>by
  refine bnd (tA (List.getElem?_eq_getElem hj)) (bnd (eO (edI E[j]) _ _ (hE _ (List.getElem_mem hj)).1 (fun _ _=>rfl)) (congrArg some (uC fun k hk=>?_)))
  rw [vL hj])
 rw [List.take_length] at key
 exact bnd key rfl
theorem gends_ {n:Nat} (hn:n≤1000){E:List Edg}{I O:List Int} (hE:tD n E):lR ((n:Int),E,I,O)=some (mA n (fun k=>whr edO E k),mA n (fun k=>whr edI E k)):=by
 refine bnd (bnd (fO hn _) (bnd (fO hn _) rfl)) ?_
 have key:=mC (n:=E.length) (fun j=>(mA n (fun k=>whr edO (E.take j) k),mA n (fun k=>whr edI (E.take j) k))) (f:=fun (k159:Nat) (s476:List Int×List Int)=>
   (bA E ((k159:Nat):Int)).bind fun a491=>
   (sA (fun (k503:Nat) (s542:List Int)=>
     (bA a491.2.2.2 ((k503:Nat):Int)).bind fun a557=>
     (oA s542 a557 ((k159:Nat):Int)).bind fun a565=>
     some a565) a491.2.2.2.length 0 s476.1).bind fun (s570:List Int)=>
   (sA (fun (k572:Nat) (s611:List Int)=>
     (bA a491.2.2.1 ((k572:Nat):Int)).bind fun a626=>
     (oA s611 a626 ((k159:Nat):Int)).bind fun a634=>
     some a634) a491.2.2.1.length 0 s476.2).bind fun (s639:List Int)=>
   some (s570,s639)) (fun j hj=>by
  have he:=hE _ (List.getElem_mem hj)
  refine bnd (tA (List.getElem?_eq_getElem hj)) (bnd (eO (edO E[j]) _ _ he.2 (fun _ _=>rfl)) (bnd (eO (edI E[j]) _ _ he.1 (fun _ _=>rfl)) (congrArg some (Prod.ext (uC fun k hk=>?_) (uC fun k hk=>?_)))))
  · rw [vL hj]
  · rw [vL hj])
 rw [List.take_length] at key
 exact bnd key rfl
abbrev WS:=List Int×List Int
def stE (E:List Edg) (s:WS) (e:Int):WS:=if e<0∨e∈s.2 then s else match E[e.toNat]? with
 | some x=>(giv s.1 (edI x++edO x),s.2++[e])
 | none=>s
def stW (E:List Edg) (s:WS) (w:Int):WS:=stE E (stE E s (whr edI E w)) (whr edO E w)
def wlk (E:List Edg) (s0:WS):Nat→WS
 | 0=>s0
 | k+1=>match (wlk E s0 k).1[k]? with
  | some w=>stW E (wlk E s0 k) w
  | none=>wlk E s0 k
structure Ws (n m:Nat) (s:WS):Prop where
 o:Od n s.1
 e:Od m s.2
theorem mM {n:Nat}{E:List Edg} (hE:tD n E){s:WS} (h:Ws n E.length s){e:Int} (he:e = -1∨0≤e∧e<(E.length:Int)):Ws n E.length (stE E s e):=by
 unfold stE
 split
 · exact h
 ·
  rename_i hn
  rw [not_or] at hn
  split
  ·
   rename_i x hx
   have hm:=List.mem_of_getElem? hx
   exact ⟨h.o.giv (aH (hE x hm).1 (hE x hm).2),⟨aH h.e.r (fun y hy=>by simp at hy;subst hy;omega),nodup_snoc.2 ⟨h.e.d,hn.2⟩⟩⟩
  · exact h
theorem yF (s:Edg→List Int) (E:List Edg) (x:Int):whr s E x = -1∨0≤whr s E x∧whr s E x<(E.length:Int):=by
 rcases yZ s E x with ⟨h,_⟩ | ⟨i,hi,h,_⟩
 · exact .inl h
 · exact .inr (by omega)
theorem stW_ok {n:Nat}{E:List Edg} (hE:tD n E){s:WS} (h:Ws n E.length s) (w:Int):Ws n E.length (stW E s w):=mM hE (mM hE h (yF _ _ _)) (yF _ _ _)
theorem dK {n:Nat}{E:List Edg} (hE:tD n E){s:WS} (h:Ws n E.length s):∀ k,Ws n E.length (wlk E s k)
 | 0=>h
 | k+1=>by
  show Ws n E.length (match (wlk E s k).1[k]? with
   | some w=>stW E (wlk E s k) w
   | none=>wlk E s k)
  split
  · exact stW_ok hE (dK hE h k) _
  · exact dK hE h k
theorem bI (E:List Edg) (s:WS) (e:Int):∃ r,(stE E s e).1=s.1++r:=by
 unfold stE
 split
 · exact ⟨[],by simp⟩
 ·
  split
  · exact pU _ _
  · exact ⟨[],by simp⟩
theorem Af_ (E:List Edg) (s:WS) (w:Int):s.1.length≤(stW E s w).1.length:=by
 obtain ⟨r,h⟩:=bI E s (whr edI E w)
 obtain ⟨r',h'⟩:=bI E (stE E s (whr edI E w)) (whr edO E w)
 unfold stW
 rw [h',h];simp
theorem cY {E:List Edg}{s:WS}{k:Nat} (h:(wlk E s k).1.length≤k):∀ d,wlk E s (k+d)=wlk E s k
 | 0=>rfl
 | d+1=>by
  have ih:=cY h d
  show (match (wlk E s (k+d)).1[k+d]? with
   | some w=>stW E (wlk E s (k+d)) w
   | none=>wlk E s (k+d))=_
  rw [ih,List.getElem?_eq_none (by omega)]
theorem uZ {n:Nat}{E:List Edg} (hE:tD n E){s:WS} (h:Ws n E.length s){k:Nat} (hk:(wlk E s k).1.length≤k) (hkn:k≤n):wlk E s n=wlk E s k:=by
 have:=cY hk (n-k)
 rwa [show k+(n-k)=n by omega] at this
theorem fZ {σ:Type}{f:Nat→σ→Option σ}{n k:Nat}{s s':σ} (h:f k s=some s'):sA f (n+1) k s=sA f n (k+1) s':=by
 show (f k s).bind _=_
 rw [h];rfl
theorem cnWalk_ {n:Nat} (hn:n≤1000){E:List Edg}{I O:List Int} (hE:tD n E) (hm:E.length≤1000){s:WS} (hs:Ws n E.length s) :
  gS ((n:Int),E,I,O) (mA n fun k=>plc s.1 k) (mA E.length fun k=>plc s.2 k) s.1 ((s.2.length:Nat):Int) =
   some (mA n (fun k=>plc (wlk E s n).1 k),mA E.length (fun k=>plc (wlk E s n).2 k),(((wlk E s n).2.length:Nat):Int),(wlk E s n).1):=by
 refine bnd (C1_ hn hE) (bnd (mtEnds_ hn hE) ?_)
 have edge:∀ (t:WS) (e:Int),Ws n E.length t→(e = -1∨0≤e∧e<(E.length:Int))→∀ l:List Int,∀ k:Nat,bA l (k:Int)=some e →
   (((bA l ((k:Nat):Int)).bind fun a3922=>
       ((some (decide (a3922<0))).bind fun a3944=>
        cond a3944
        (some true)
        ((bA (mA E.length fun k=>plc t.2 k) a3922).bind fun a3953=>
         (some (decide ((0:Int)≤a3953))).bind fun a3955=>
         some a3955)).bind fun (s3938:Bool)=>
       cond s3938
       (some ((mA n fun k=>plc t.1 k),(mA E.length fun k=>plc t.2 k),t.1,((t.2.length:Nat):Int)))
       ((oA (mA E.length fun k=>plc t.2 k) a3922 ((t.2.length:Nat):Int)).bind fun a3967=>
        (yA ((t.2.length:Nat):Int) 1).bind fun a3970=>
        (bA E a3922).bind fun a3978=>
        (eG (mA n fun k=>plc t.1 k) t.1 a3978.2.2.1).bind fun y3986=>
        (bA E a3922).bind fun a3997=>
        (eG y3986.1 y3986.2 a3997.2.2.2).bind fun y4005=>
        some (y4005.1,a3967,y4005.2,a3970))).bind fun (s3909:List Int×List Int×List Int×Int)=>
      some (s3909.1,s3909.2.1,s3909.2.2.1,s3909.2.2.2)) =
    some ((mA n fun k=>plc (stE E t e).1 k),(mA E.length fun k=>plc (stE E t e).2 k),(stE E t e).1,(((stE E t e).2.length:Nat):Int)):=by
  intro t e ht he l k hl
  refine bnd (a:=((mA n fun k=>plc (stE E t e).1 k),(mA E.length fun k=>plc (stE E t e).2 k),(stE E t e).1,(((stE E t e).2.length:Nat):Int))) (bnd hl ?_) rfl
  by_cases h0:e<0
  ·
   have:stE E t e=t:=by unfold stE;rw [if_pos (.inl h0)]
   rw [this]
   exact bnd (a:=true) (stp (cTW (dT h0) rfl)) rfl
  obtain ⟨i,rfl⟩:∃ i:Nat,e=(i:Int):=⟨e.toNat,by omega⟩
  have hi:i<E.length:=by omega
  have hidx:=vD (fun k=>plc t.2 (k:Int)) hi
  by_cases hin:(i:Int)∈t.2
  ·
   have:stE E t (i:Int)=t:=by unfold stE;rw [if_pos (.inr hin)]
   rw [this]
   have:=eM hin
   exact bnd (a:=true) (stp (cFW (dF h0) (bnd hidx (stp (congrArg some (dT (by omega))))))) rfl
  ·
   have hst:stE E t (i:Int)=(giv (giv t.1 (edI E[i])) (edO E[i]),t.2++[(i:Int)]):=by
    unfold stE
    rw [if_neg (by rw [not_or];exact ⟨h0,hin⟩),Int.toNat_natCast,List.getElem?_eq_getElem hi]
    show (giv t.1 (edI E[i]++edO E[i]),_)=_
    rw [gP]
   have hE':=hE _ (List.getElem_mem hi)
   have hle:=ht.e.le
   have hpn:=plc_neg.2 hin
   rw [hst]
   refine bnd (a:=false) (stp (cFW (dF h0) (bnd hidx (stp (congrArg some (dF (by omega))))))) ?_
   refine bnd (kF _ _ hi) (bnd (rB (by omega) (by omega)) (bnd (tA (List.getElem?_eq_getElem hi)) (bnd (kP hn ht.o hE'.1) (bnd (tA (List.getElem?_eq_getElem hi)) (bnd (kP hn (ht.o.giv hE'.1) hE'.2) ?_)))))
   refine congrArg some (Prod.ext rfl (Prod.ext (uC fun k hk=>?_) (Prod.ext rfl ?_)))
   ·
    rw [lY hin]
    by_cases hki:k=i
    · rw [if_pos hki,if_pos (by omega)]
    · rw [if_neg hki,if_neg (by omega)]
   · simp
 obtain ⟨t,h1,h2⟩:=qW (f:=fun (s3349:List Int×List Int×Int×List Int×Int)=>
   (some (decide (s3349.2.2.1<((s3349.2.2.2.1.length:Nat):Int)))).bind fun a3359=>
   cond a3359
   ((bA s3349.2.2.2.1 s3349.2.2.1).bind fun a3371=>
    (bA s3349.2.2.2.1 s3349.2.2.1).bind fun a3379=>
    (bA (mA n fun k=>whr edI E k) a3371).bind fun a3387=>
    (bA (mA n fun k=>whr edO E k) a3379).bind fun a3395=>
    (sA (fun (k3400:Nat) (s3804:List Int×List Int×List Int×Int)=>
      ((bA [a3387,a3395] ((k3400:Nat):Int)).bind fun a3922=>
       ((some (decide (a3922<0))).bind fun a3944=>
        cond a3944
        (some true)
        ((bA s3804.2.1 a3922).bind fun a3953=>
         (some (decide ((0:Int)≤a3953))).bind fun a3955=>
         some a3955)).bind fun (s3938:Bool)=>
       cond s3938
       (some (s3804.1,s3804.2.1,s3804.2.2.1,s3804.2.2.2))
       ((oA s3804.2.1 a3922 s3804.2.2.2).bind fun a3967=>
        (yA s3804.2.2.2 1).bind fun a3970=>
        (bA E a3922).bind fun a3978=>
        (eG s3804.1 s3804.2.2.1 a3978.2.2.1).bind fun y3986=>
        (bA E a3922).bind fun a3997=>
        (eG y3986.1 y3986.2 a3997.2.2.2).bind fun y4005=>
        some (y4005.1,a3967,y4005.2,a3970))).bind fun (s3909:List Int×List Int×List Int×Int)=>
      some (s3909.1,s3909.2.1,s3909.2.2.1,s3909.2.2.2)) ([a3387,a3395].length) 0 (s3349.1,s3349.2.1,s3349.2.2.2.1,s3349.2.2.2.2)).bind fun (s4015:List Int×List Int×List Int×Int)=>
    (yA s3349.2.2.1 1).bind fun a4018=>
    some (.inl (s4015.1,s4015.2.1,a4018,s4015.2.2.1,s4015.2.2.2)))
   (some (.inr (s3349.1,s3349.2.1,s3349.2.2.2.1,s3349.2.2.2.2))))
  (fun j u=>j≤(wlk E s j).1.length∧u=((mA n fun k=>plc (wlk E s j).1 k),(mA E.length fun k=>plc (wlk E s j).2 k),(j:Int),(wlk E s j).1,(((wlk E s j).2.length:Nat):Int)))
  (fun t=>t=((mA n fun k=>plc (wlk E s n).1 k),(mA E.length fun k=>plc (wlk E s n).2 k),(wlk E s n).1,(((wlk E s n).2.length:Nat):Int))) n (by
  rintro j u hjn ⟨hj,rfl⟩
  have hok:=dK hE hs j
  by_cases hlt:j<(wlk E s j).1.length
  ·
   have hle:=hok.o.le
   refine .inl ⟨_,stp (cTW (dT (by dsimp only;omega)) ?_),⟨?_,rfl⟩,by omega⟩
   ·
    have hr:=hok.o.r _ (List.getElem_mem hlt)
    obtain ⟨w,hw⟩:∃ w:Nat,(wlk E s j).1[j]=(w:Int):=⟨((wlk E s j).1[j]).toNat,by omega⟩
    have hget:bA (wlk E s j).1 (j:Int)=some (w:Int):=by rw [←hw];exact tA (List.getElem?_eq_getElem hlt)
    have hstep:wlk E s (j+1)=stW E (wlk E s j) (w:Int):=by
     show (match (wlk E s j).1[j]? with
      | some w=>stW E (wlk E s j) w
      | none=>wlk E s j)=_
     rw [List.getElem?_eq_getElem hlt,hw]
    refine bnd hget (bnd hget (bnd (vD _ (by omega)) (bnd (vD _ (by omega)) ?_)))
    have ht1:=mM hE hok (yF edI E w)
    refine bnd (a:=((mA n fun k=>plc (stW E (wlk E s j) w).1 k),(mA E.length fun k=>plc (stW E (wlk E s j) w).2 k),(stW E (wlk E s j) w).1,(((stW E (wlk E s j) w).2.length:Nat):Int))) ?_ (bnd (rB (by dsimp only;omega) (by dsimp only;omega)) ?_)
    ·
     show sA _ 2 0 _=_
     refine (fZ (edge (wlk E s j) (whr edI E w) hok (yF _ _ _) _ 0 rfl)).trans ?_
     exact (fZ (edge _ (whr edO E w) ht1 (yF _ _ _) _ 1 rfl)).trans rfl
    · rw [hstep];rfl
   ·
    rw [show wlk E s (j+1)=stW E (wlk E s j) (wlk E s j).1[j] by
     show (match (wlk E s j).1[j]? with
      | some w=>stW E (wlk E s j) w
      | none=>wlk E s j)=_
     rw [List.getElem?_eq_getElem hlt]]
    have:=Af_ E (wlk E s j) (wlk E s j).1[j]
    omega
  ·
   refine .inr ⟨_,stp (cFW (dF (by dsimp only;omega)) rfl),?_⟩
   rw [uZ hE hs (k:=j) (by omega) hjn]) (s:=((mA n fun k=>plc s.1 k),(mA E.length fun k=>plc s.2 k),0,s.1,((s.2.length:Nat):Int))) ⟨Nat.zero_le _,rfl⟩
 subst h2
 exact bnd h1 rfl
def w0S (I O:List Int):WS:=(giv (giv [] I) O,[])
theorem gI (n:Nat):Od n []:=⟨(fun x hx=>by cases hx),List.nodup_nil⟩
theorem uP {n m:Nat}{I O:List Int} (hI:xB n I) (hO:xB n O):Ws n m (w0S I O):=⟨((gI n).giv hI).giv hO,gI m⟩
def walk (n:Nat) (g:Gra):WS:=wlk g.2.1 (w0S g.2.2.1 g.2.2.2) n
theorem cnOpen_ {n:Nat} (hn:n≤1000){E:List Edg}{I O:List Int} (hE:tD n E) (hI:xB n I) (hO:xB n O) (hm:E.length≤1000) :
  uN ((n:Int),E,I,O)=some (mA n (fun k=>plc (walk n ((n:Int),E,I,O)).1 k),mA E.length (fun k=>plc (walk n ((n:Int),E,I,O)).2 k),(walk n ((n:Int),E,I,O)).1,(((walk n ((n:Int),E,I,O)).2.length:Nat):Int)):=by
 have h1:=(gI n).giv hI
 refine bnd (AN_ hn) (bnd (AN_ hm) (bnd (kP hn (gI n) hI) (bnd (kP hn h1 hO) ?_)))
 exact bnd (cnWalk_ hn hE hm (uP hI hO)) rfl
end Go.Proofs.YtbofgnbanmbopaaGreatDoor
