/-
  Plain laws of the partial functions: loops whose states are known, lists read and written. No program in sight. No condition.
-/
import Derived.Test.YtngbmcbigcaapaaGreatDoorZF
import Derived.Test.YtngbmcbigcaapaaGreatDoorZFn
namespace Go.Proofs.YtngbmcbigcaapaaGreatDoor
class Nice (α:Type) where
 ok:α→Prop
instance:Nice Int:=⟨inI⟩
instance:Nice Bool:=⟨fun _=>True⟩
instance {α:Type} [Nice α]:Nice (List α):=⟨fun l=>(l.length:Int)≤9223372036854775807∧∀ x∈l,Nice.ok x⟩
instance {α β:Type} [Nice α] [Nice β]:Nice (α×β):=⟨fun x=>Nice.ok x.1∧Nice.ok x.2⟩
theorem stp {α β:Type}{a:α}{k:α→Option β}{y:Option β} (h:k a=y):(some a).bind k=y:=h
theorem bnd {α β:Type}{m:Option α}{a:α}{k:α→Option β}{y:Option β} (h:m=some a) (h2:k a=y):m.bind k=y:=by rw [h];exact h2
theorem sqW {σ τ:Type}{m r:Option (σ⊕τ)}{k:σ→Option τ}{y:Option τ} (h:m=r) (h2:vC r k=y):vC m k=y:=by rw [h];exact h2
theorem bndW {α β:Type}{m r:Option α}{k:α→Option β}{y:Option β} (h:m=r) (h2:r.bind k=y):m.bind k=y:=by rw [h];exact h2
theorem cTW {α:Type}{c:Bool}{a b y:α} (h:c=true) (h2:a=y):cond c a b=y:=by rw [h];exact h2
theorem cFW {α:Type}{c:Bool}{a b y:α} (h:c=false) (h2:b=y):cond c a b=y:=by rw [h];exact h2
theorem dT {P:Prop} [Decidable P] (h:P):decide P=true:=decide_eq_true h
theorem dF {P:Prop} [Decidable P] (h:¬P):decide P=false:=decide_eq_false h
theorem nT {b:Bool} (h:b=true):(!b)=false:=by rw [h];rfl
theorem nF {b:Bool} (h:b=false):(!b)=true:=by rw [h];rfl
theorem rK {x:Int} (h:inI x):cI x=some x:=if_pos h
theorem bC {a b:Int} (h1:-9223372036854775808≤a+b) (h2:a+b≤9223372036854775807):uA a b=some (a+b):=rK ⟨h1,h2⟩
theorem gE {a b:Int} (h1:-9223372036854775808≤a-b) (h2:a-b≤9223372036854775807):subO a b=some (a-b):=rK ⟨h1,h2⟩
theorem pO {a b:Int} (h1:-9223372036854775808≤a*b) (h2:a*b≤9223372036854775807):qF a b=some (a*b):=rK ⟨h1,h2⟩
theorem nG {a b:Int} (h:b≠0):kD a b=some (a.tmod b):=if_neg h
theorem BG_ {α:Type} (xs:List α) (k:Nat):idxO xs (k:Int)=xs[k]?:=by
 unfold idxO;rw [if_pos (by omega)];rfl
theorem pA {α:Type}{xs:List α}{k:Nat}{a:α} (h:xs[k]?=some a):idxO xs (k:Int)=some a:=by rw [BG_,h]
theorem nC {α:Type}{xs:List α}{k:Nat} (a:α) (h:k<xs.length):iA xs (k:Int) a=some (xs.set k a):=by
 unfold iA;rw [if_pos (by omega)];rfl
theorem yB {α:Type}{xs ys:List α} (h:xs.length+ys.length≤aB):xA xs ys=some (xs++ys):=if_pos h
theorem wF {α:Type}{n:Nat} (z:α) (h:n≤aB):cD (n:Int) z=some (List.replicate n z):=by
 unfold cD;rw [if_pos (by omega)];rfl
theorem wW {α:Type}{n:Nat} (z:α) (h:n≤aB):dI 0 (n:Int) z=some []:=by
 unfold dI;rw [if_pos (by omega)];rfl
theorem Cq_ {σ:Type}{f:Nat→σ→Option σ} (v:Nat→σ):∀ (n k:Nat),(∀ j,k≤j→j<k+n→f j (v j)=some (v (j+1)))→jA f n k (v k)=some (v (k+n))
 | 0,k,_=>rfl
 | n+1,k,h=>by
  show (f k (v k)).bind _=_
  rw [h k (Nat.le_refl _) (by omega)]
  show jA f n (k+1) (v (k+1))=_
  rw [Cq_ v n (k+1) (fun j h1 h2=>h j (by omega) (by omega))]
  rw [show k+1+n=k+(n+1) by omega]
theorem kC {σ:Type}{f:Nat→σ→Option σ}{n:Nat} (v:Nat→σ) (h:∀ j,j<n→f j (v j)=some (v (j+1))):jA f n 0 (v 0)=some (v n):=by
 have:=Cq_ v n 0 (fun j _ h2=>h j (by omega))
 simpa using this
theorem fG {α τ:Type}{f:Nat→Unit→Option (Unit⊕τ)}{t:τ} (P:α→Bool):∀ (l:List α) (k:Nat),(∀ j a,l[j]?=some a→f (k+j) ()=some (if P a then .inl () else .inr t))→uC f l.length k ()=some (if l.all P then .inl () else .inr t)
 | [],k,_=>rfl
 | a::l,k,h=>by
  show (f k ()).bind _=_
  have h0:f k ()=_:=h 0 a rfl
  rw [h0]
  cases hP:P a with
  | false=>simp [hP]
  | true=>
   have:=fG P l (k+1) (fun j b hb=>by
    have:=h (j+1) b (by simpa using hb)
    rw [show k+1+j=k+(j+1) by omega];exact this)
   simp only [hP,List.all_cons,Bool.true_and,if_true]
   exact this
theorem AS_ {σ τ:Type}{f:σ→Option (σ⊕τ)} (v:Nat→σ){t:τ}:∀ (n k:Nat),(∀ j,k≤j→j<k+n→f (v j)=some (.inl (v (j+1))))→f (v (k+n))=some (.inr t)→tB f (v k)=some t
 | 0,k,_,he=>sE he
 | n+1,k,h,he=>by
  rw [kG (h k (Nat.le_refl _) (by omega))]
  refine AS_ v n (k+1) (fun j h1 h2=>h j (by omega) (by omega)) ?_
  rw [show k+1+n=k+(n+1) by omega];exact he
theorem sN {σ τ:Type}{f:σ→Option (σ⊕τ)} (v:Nat→σ){t:τ} (n:Nat) (h:∀ j,j<n→f (v j)=some (.inl (v (j+1)))) (he:f (v n)=some (.inr t)):tB f (v 0)=some t:=
 AS_ v n 0 (fun j _ h2=>h j (by omega)) (by simpa using he)
theorem mG {α β:Type}{f:Nat→List β→Option (List β)} (g:α→β) (l:List α) (s:List β) (hb:s.length+l.length≤aB) (h:∀ j a s',l[j]?=some a→s'.length=s.length+j→f j s'=some (s'++[g a])):jA f l.length 0 s=some (s++l.map g):=by
 have:=kC (f:=f) (n:=l.length) (fun j=>s++(l.take j).map g) (fun j hj=>by
  rw [h j l[j] _ (List.getElem?_eq_getElem hj) (by simp;omega)]
  simp only [List.append_assoc]
  rw [List.take_add_one,List.getElem?_eq_getElem hj]
  simp only [List.map_append,Option.toList_some,List.map_cons,List.map_nil])
 simpa using this
theorem Bp_ {α:Type} (xs:List α) (g:Nat→α→α) (j:Nat) (h:j<xs.length):((xs.take j).mapIdx g++xs.drop j).set j (g j xs[j])=(xs.take (j+1)).mapIdx g++xs.drop (j+1):=by
 rw [List.set_append_right _ _ (by simp;omega)]
 have:j-((xs.take j).mapIdx g).length=0:=by simp;omega
 rw [this,List.take_add_one,List.getElem?_eq_getElem h,List.drop_eq_getElem_cons h,List.mapIdx_append]
 simp only [Option.toList_some,List.mapIdx_cons,List.mapIdx_nil,List.length_take,Nat.min_eq_left (Nat.le_of_lt h),List.set_cons_zero,List.append_assoc,List.singleton_append,Nat.zero_add]
end Go.Proofs.YtngbmcbigcaapaaGreatDoor
namespace Go.Proofs.YtngbmcbigcaapaaGreatDoor
def tot {α:Type} (n:α→Nat) (l:List α):Nat:=(l.map n).sum
theorem tot_nil {α:Type} (n:α→Nat):tot n []=0:=rfl
theorem tot_cons {α:Type} (n:α→Nat) (a:α) (l:List α):tot n (a::l)=n a+tot n l:=by simp [tot]
theorem uS {α:Type} (pre rest:List α) (a:α):(pre++a::rest)[pre.length]?=some a:=by simp
theorem set_app {α:Type} (pre rest:List α) (a b:α):(pre++a::rest).set pre.length b=pre++b::rest:=by simp
theorem app1 {α:Type} (pre rest:List α) (a:α):pre++a::rest=(pre++[a])++rest:=by simp
theorem len1 {α:Type} (pre:List α) (a:α):(((pre++[a]).length:Nat):Int)=(pre.length:Int)+1:=by simp
def wE:Int:=4611686018427387904
theorem B5_ {α:Type} (n:α→Nat){f:Int×Int→Option ((Int×Int)⊕(Int⊕Int))} (L:List α) (B:Int)
  (hf:∀ (j:Nat) (a:α) (s:Int),L[j]?=some a→j<L.length→0≤s→s≤B→f (s,(j:Int))=some (if (n a:Int)≤s then .inl (s-n a,(j:Int)+1) else .inr (.inr (-1))))
  (he:∀ s:Int,f (s,(L.length:Int))=some (.inr (.inl s))):∀ (rest pre:List α) (s:Int),L=pre++rest→0≤s→s≤B→tB f (s,(pre.length:Int))=some (if (tot n rest:Int)≤s then .inl (s-tot n rest) else .inr (-1))
 | [],pre,s,hL,h0,_=>by
  have:=he s
  rw [hL,List.append_nil] at this
  rw [sE this,tot_nil,if_pos (by omega)];simp
 | a::rest,pre,s,hL,h0,hB=>by
  have h1:=hf pre.length a s (by rw [hL];exact uS _ _ _) (by rw [hL];simp) h0 hB
  by_cases h:(n a:Int)≤s
  ·
   rw [if_pos h] at h1
   have ih:=B5_ n L B hf he rest (pre++[a]) (s-n a) (by rw [hL,app1]) (by omega) (by omega)
   rw [len1] at ih
   rw [kG h1,ih,tot_cons]
   by_cases h2:(tot n rest:Int)≤s-n a
   · rw [if_pos h2,if_pos (by omega)];congr 2;omega
   · rw [if_neg h2,if_neg (by omega)]
  ·
   rw [if_neg h] at h1
   rw [sE h1,tot_cons,if_neg (by omega)]
theorem tX {α:Type} (z:α){f:List α×Int→Option ((List α×Int)⊕List α)} (L:List α)
  (hf:∀ (j:Nat) (a:α) (s:List α),L[j]?=some a→j<L.length→s.length=L.length→f (s,(j:Int))=some (.inl (s.set j a,(j:Int)+1)))
  (he:∀ s:List α,s.length=L.length→f (s,(L.length:Int))=some (.inr s)):∀ (rest pre:List α),L=pre++rest→tB f (pre++List.replicate rest.length z,(pre.length:Int))=some L
 | [],pre,hL=>by
  rw [List.append_nil] at hL
  have:=he pre (by rw [hL])
  rw [hL] at this
  have h2:pre++List.replicate ([]:List α).length z=pre:=by simp
  rw [h2,hL,sE this]
 | a::rest,pre,hL=>by
  have h1:=hf pre.length a (pre++z::List.replicate rest.length z) (by rw [hL];exact uS _ _ _) (by rw [hL];simp) (by rw [hL];simp)
  have ih:=tX z L hf he rest (pre++[a]) (by rw [hL,app1])
  rw [set_app,app1 pre _ a,← len1 pre a] at h1
  rw [List.length_cons,List.replicate_succ]
  rw [kG h1,ih]
theorem Cv_ {α:Type} [DecidableEq α] {f:Int→Option (Int⊕(Unit⊕Bool))} (L M:List α)
  (hf:∀ (j:Nat) (a b:α),L[j]?=some a→M[j]?=some b→j<L.length→f (j:Int)=some (if a=b then .inl ((j:Int)+1) else .inr (.inr false)))
  (he:f (L.length:Int)=some (.inr (.inl ()))):∀ (rest rest' pre pre':List α),L=pre++rest→M=pre'++rest'→pre.length=pre'.length→rest.length=rest'.length→tB f (pre.length:Int)=some (if rest=rest' then .inl () else .inr false)
 | [],[],pre,pre',hL,_,_,_=>by
  rw [hL,List.append_nil] at he
  rw [sE he];rfl
 | [],_::_,_,_,_,_,_,h=>by simp at h
 | _::_,[],_,_,_,_,_,h=>by simp at h
 | a::rest,b::rest',pre,pre',hL,hM,hp,hr=>by
  have h1:=hf pre.length a b (by rw [hL];exact uS _ _ _) (by rw [hM,hp];exact uS _ _ _) (by rw [hL];simp)
  by_cases h:a=b
  ·
   rw [if_pos h] at h1
   have ih:=Cv_ L M hf he rest rest' (pre++[a]) (pre'++[b]) (by rw [hL,app1]) (by rw [hM,app1]) (by simp [hp]) (by simpa using hr)
   rw [len1] at ih
   rw [kG h1,ih]
   by_cases h2:rest=rest'
   · rw [if_pos h2,if_pos (by rw [h,h2])]
   · rw [if_neg h2,if_neg (by intro h3;exact h2 (List.cons.inj h3).2)]
  ·
   rw [if_neg h] at h1
   rw [sE h1,if_neg (by intro h3;exact h (List.cons.inj h3).1)]
end Go.Proofs.YtngbmcbigcaapaaGreatDoor
namespace Go.Proofs.YtngbmcbigcaapaaGreatDoor
theorem B3_ {α:Type}{n:α→Nat}{l:List α}{a:α} (h:a∈l):n a≤tot n l:=by
 induction l with
 | nil=>cases h
 | cons b l ih=>
  rw [tot_cons]
  cases h with
  | head=>omega
  | tail _ h=>have:=ih h;omega
theorem dE {α:Type}{l:List α}{j:Nat}{a:α} (h:l[j]?=some a):a∈l:=List.mem_of_getElem? h
def jJ {α:Type} (l:List α):Prop:=(l.length:Int)≤9223372036854775807
theorem szIntS (a:List Int) (left:Int) (h0:0≤left) (h1:left≤wE) (hl:jJ a):uJ a left=some (if (a.length:Int)≤left then left-a.length else -1):=by
 unfold jJ at hl;unfold wE at h1
 refine bnd (gE (by omega) (by omega)) (stp ?_)
 by_cases h:(a.length:Int)≤left
 · rw [if_pos h];exact cFW (dF (by omega)) rfl
 · rw [if_neg h];exact cTW (dT (by omega)) rfl
theorem toIntS (a:List Int) (hl:a.length≤aB):tJ a=some a:=by
 have hm:aB=1099511627776:=rfl
 refine bnd (wF _ hl) (bnd (tX (0:Int) a ?_ ?_ a [] rfl) rfl)
 ·
  intro j x s hj hjl hs
  dsimp only
  exact stp (cTW (dT (by omega)) (bnd (pA hj) (bnd (nC _ (by omega)) (bnd (bC (by omega) (by omega)) rfl))))
 · intro s hs;dsimp only;exact stp (cFW (dF (by omega)) rfl)
theorem eqIntS (a b:List Int) (hl:jJ a):vJ a b=some (decide (a=b)):=by
 unfold jJ at hl
 refine stp ?_
 by_cases h:a.length=b.length
 ·
  refine cFW (nT (dT (by omega))) (sqW (Cv_ a b ?_ ?_ a b [] [] rfl rfl rfl h) ?_)
  ·
   intro j x y hx hy hj
   refine stp (cTW (dT (by omega)) (bnd (pA hx) (bnd (pA hy) (stp ?_))))
   by_cases h2:x=y
   · rw [if_pos h2];exact cFW (nT (dT h2)) (bnd (bC (by omega) (by omega)) rfl)
   · rw [if_neg h2];exact cTW (nF (dF h2)) rfl
  · exact stp (cFW (dF (by omega)) rfl)
  ·
   by_cases h2:a=b
   · rw [if_pos h2,show decide (a=b)=true from dT h2];rfl
   · rw [if_neg h2,show decide (a=b)=false from dF h2];rfl
 · rw [show decide (a=b)=false from dF (fun h2=>h (by rw [h2]))];exact cTW (nF (dF (by omega))) rfl
end Go.Proofs.YtngbmcbigcaapaaGreatDoor
namespace Go.Proofs.YtngbmcbigcaapaaGreatDoor
end Go.Proofs.YtngbmcbigcaapaaGreatDoor
namespace Go.Proofs.YtngbmcbigcaapaaGreatDoor
def rng (n lo hi:Int):Bool:=decide (lo≤n)&&decide (n≤hi)
theorem rng_true {n lo hi:Int}:rng n lo hi=true↔lo≤n∧n≤hi:=by unfold rng;simp
theorem mE (n lo hi:Int):bH n lo hi=some (rng n lo hi):=by
 unfold bH rng
 by_cases h:lo≤n
 · rw [dT h];rfl
 · rw [dF h];rfl
theorem lF (n lo hi:Int):yE n lo hi=some (rng n lo hi):=by
 unfold yE rng
 by_cases h:lo≤n
 · rw [dT h];rfl
 · rw [dF h];rfl
def fdB (p:Int):Bool:=rng p 2 97&&[2,3,5,7].all fun q=>!(decide (p % q=0)&&!decide (p=q))
def CX_ (p:Int) (s:Int):Option (Int⊕(Unit⊕Bool)):=
 (qF s s).bind fun a111=>
    (some (decide (a111≤p))).bind fun a113=>
    cond a113
    ((kD p s).bind fun a118=>
     (some (decide (a118=0))).bind fun a120=>
     cond a120
     (some (.inr (.inr false)))
     ((uA s 1).bind fun a123=>
      some (.inl a123)))
    (some (.inr (.inl ())))
def Cs_ (p:Nat):Bool:=decide (vC (oF (CX_ p) 10 2) (fun (_:Unit)=>some true)=some (fdB p))||decide (p<2)
theorem fd_all:((List.range 98).all Cs_)=true:=by decide +kernel
theorem eT (p:Int):mQ p=some (fdB p):=by
 unfold mQ
 refine bnd (mE p 2 97) (stp ?_)
 cases h:rng p 2 97 with
 | false=>refine cTW rfl ?_;unfold fdB;rw [h];rfl
 | true=>
  refine cFW rfl ?_
  have hr:=rng_true.1 h
  obtain ⟨k,rfl⟩:∃ k:Nat,p=(k:Int):=⟨p.toNat,by omega⟩
  have hk:=List.all_eq_true.1 fd_all k (List.mem_range.2 (by omega))
  unfold Cs_ at hk
  have h2:decide (k<2)=false:=dF (by omega)
  rw [h2,Bool.or_false] at hk
  have hk:=of_decide_eq_true hk
  rw [←hk]
  cases hi:oF (CX_ k) 10 2 with
  | none=>rw [hi] at hk;cases hk
  | some t=>exact sqW (whileO_iff.2 ⟨10,hi⟩) rfl
theorem nX (p:Int):aQ p=some (fdB p):=by
 unfold aQ fdB
 cases h:rng p 2 97 with
 | false=>
  refine bnd (a:=true) (stp ?_) (cTW rfl rfl)
  by_cases h1:p<2
  · exact cTW (dT h1) rfl
  ·
   refine cFW (dF h1) (stp ?_)
   rw [dT]
   apply Classical.byContradiction
   intro h3
   have:rng p 2 97=true:=rng_true.2 ⟨by omega,by omega⟩
   rw [h] at this;cases this
 | true=>
  have hr:=rng_true.1 h
  refine bnd (a:=false) (stp (cFW (dF (by omega)) (stp (by rw [dF (by omega)])))) (cFW rfl (bnd (rK (by decide)) ?_))
  refine sqW (fG (fun q:Int=>!(decide (p % q=0)&&!decide (p=q))) [2,3,5,7] 0 ?_ (t:=false)) ?_
  ·
   intro j q hj
   have hq:q∈[(2:Int),3,5,7]:=dE hj
   have hq1:q≠0∧0<q:=by simp at hq;omega
   rw [Nat.zero_add]
   refine bnd (pA hj) ?_
   refine bnd (a:=decide (p % q=0)&&!decide (p=q)) ?_ ?_
   ·
    refine bnd (nG hq1.1) (stp ?_)
    rw [Int.tmod_eq_emod_of_nonneg (by omega)]
    by_cases h1:p % q=0
    · rw [dT h1];rfl
    · rw [dF h1];rfl
   · cases (decide (p % q=0)&&!decide (p=q)) <;> rfl
  · cases ([2,3,5,7].all fun q:Int=>!(decide (p % q=0)&&!decide (p=q))) <;> rfl
theorem aC {p:Int} (h:fdB p=true):2≤p∧p≤97:=by
 unfold fdB at h
 exact rng_true.1 (by revert h;cases rng p 2 97 <;> simp)
def inP (p:Int) (l:List Int):Prop:=∀ x∈l,0≤x∧x<p
theorem l1All (l:List Int) (lo hi:Int):qI l lo hi=some (l.all fun x=>rng x lo hi):=by
 refine sqW (fG (fun x=>rng x lo hi) l 0 ?_ (t:=false)) ?_
 ·
  intro j x hj
  rw [Nat.zero_add]
  refine bnd (pA hj) (bnd (mE x lo hi) (stp ?_))
  cases rng x lo hi <;> rfl
 · cases (l.all fun x=>rng x lo hi) <;> rfl
def rowsP (p:Int) (n:Nat) (m:List (List Int)):Prop:=∀ r∈m,r.length=n∧inP p r
end Go.Proofs.YtngbmcbigcaapaaGreatDoor
namespace Go.Proofs.YtngbmcbigcaapaaGreatDoor
theorem aP {p c y:Int} (hp:2≤p∧p≤97) (hc:0≤c∧c<p) (hy:0≤y∧y<p):0≤c*y∧c*y≤9409:=by
 refine ⟨Int.mul_nonneg hc.1 hy.1,?_⟩
 calc c*y≤97*97:=Int.mul_le_mul (by omega) (by omega) hy.1 (by omega)
  _=9409:=by decide
theorem kK {p x:Int} (hp:2≤p):0≤x % p∧x % p<p:=⟨Int.emod_nonneg _ (by omega),Int.emod_lt_of_pos _ (by omega)⟩
def okR (p:Int) (n:Nat) (l:List Int):Prop:=l.length=n∧inP p l
theorem F8_ {p:Int} (hp:2≤p) (n:Nat):okR p n (List.replicate n 0):=⟨by simp,by intro x hx;have:=List.eq_of_mem_replicate hx;omega⟩
theorem mod_ {p a:Int} (hp:2≤p) (ha:0≤a):tH p a=some (a % p):=by
 refine bnd (nG (by omega)) (stp ?_)
 rw [Int.tmod_eq_emod_of_nonneg ha]
 exact cFW (dF (by have:=kK (x:=a) hp;omega)) rfl
theorem wL {n:Nat} (h:n≤aB):aH (n:Int)=some (List.replicate n 0):=bnd (wF _ h) rfl
theorem own_ {l:List Int} (h:l.length≤aB):iL l=some l:=bnd (yB (by simpa using h)) rfl
theorem clone_ {l:List Int} (h:l.length≤aB):pW l=some l:=bnd (yB (by simpa using h)) rfl
theorem CG_ {m:List (List Int)} (hl:m.length≤aB) (h:∀ r∈m,r.length≤aB):qQ m=some m:=by
 refine bnd (wW _ hl) (bnd (a:=m) ?_ rfl)
 refine (mG (fun r=>r) m [] (by simpa using hl) ?_).trans (by simp)
 intro j x s hx hs
 have hj:j<m.length:=(List.getElem?_eq_some_iff.1 hx).1
 exact bnd (pA hx) (bnd (clone_ (h x (dE hx))) (bnd (yB (by simp at hs ⊢;omega)) rfl))
end Go.Proofs.YtngbmcbigcaapaaGreatDoor
namespace Go.Proofs.YtngbmcbigcaapaaGreatDoor
end Go.Proofs.YtngbmcbigcaapaaGreatDoor
namespace Go.Proofs.YtngbmcbigcaapaaGreatDoor
abbrev Edg:=Int×Int×List Int×List Int
abbrev Gra:=Int×List Edg×List Int×List Int
def mA {α:Type} (n:Nat) (f:Nat→α):List α:=(List.range n).map f
theorem fE {α:Type} (n:Nat) (f:Nat→α):(mA n f).length=n:=by simp [mA]
theorem pR {α:Type}{n k:Nat} (f:Nat→α) (h:k<n):(mA n f)[k]?=some (f k):=by
 unfold mA;rw [List.getElem?_map,List.getElem?_range h];rfl
theorem pE {α:Type}{n k:Nat} (f:Nat→α) (h:k<n):idxO (mA n f) (k:Int)=some (f k):=pA (pR f h)
theorem gD {α:Type}{n:Nat}{f g:Nat→α} (h:∀ k,k<n→f k=g k):mA n f=mA n g:=by
 unfold mA;exact List.map_congr_left fun k hk=>h k (List.mem_range.1 hk)
theorem F2_ {α:Type}{n m:Nat} (f:Nat→α) (v:α):(mA n f).set m v=mA n (fun k=>if k=m then v else f k):=by
 apply List.ext_getElem?
 intro j
 rw [List.getElem?_set]
 by_cases hj:j<n
 ·
  rw [pR _ hj,pR _ hj]
  by_cases hm:m=j
  · rw [if_pos hm,if_pos hm.symm,if_pos (by rw [fE];omega)]
  · rw [if_neg hm,if_neg (fun h=>hm h.symm)]
 ·
  rw [List.getElem?_eq_none (by rw [fE];omega),List.getElem?_eq_none (by rw [fE];omega)]
  split <;> simp [fE] <;> omega
theorem eG {α:Type}{n m:Nat} (f:Nat→α) (v:α) (h:m<n):iA (mA n f) (m:Int) v=some (mA n (fun k=>if k=m then v else f k)):=by
 rw [nC _ (by rw [fE];exact h),F2_]
theorem oR {α:Type} (n:Nat) (z:α):List.replicate n z=mA n (fun _=>z):=by
 apply List.ext_getElem?
 intro j
 by_cases hj:j<n
 · rw [pR _ hj,List.getElem?_replicate,if_pos hj]
 · rw [List.getElem?_replicate,if_neg hj,List.getElem?_eq_none (by rw [fE];omega)]
theorem yJ {α:Type}{n:Nat} (z:α) (h:n≤aB):cD (n:Int) z=some (mA n fun _=>z):=by rw [wF z h,oR]
def wD (k v:Int):Bool:=rng k 3 14&&(if k=7∨k=13 then rng v 0 96 else decide (v=0))
def kd (k:Int):Int×Int:=if k=2 then (2,2) else if k=3∨k=11 then (1,2) else if k=4∨k=12 then (1,0) else if k=5∨k=9 then (2,1) else if k=6∨k=10 then (0,1) else (1,1)
def arB (e:Edg):Bool:=wD e.1 e.2.1&&(decide ((e.2.2.1.length:Int)=(kd e.1).1)&&decide ((e.2.2.2.length:Int)=(kd e.1).2))
def wOk (n:Int) (l:List Int):Bool:=l.all fun x=>rng x 0 (n-1)
theorem tmKind_ (k:Int):jQ k=some (kd k):=by
 unfold jQ kd
 by_cases h2:k=2
 · simp [h2]
 by_cases h3:k=3∨k=11
 · rcases h3 with h3 | h3 <;> simp [h3]
 by_cases h4:k=4∨k=12
 · rcases h4 with h3 | h3 <;> simp [h3]
 by_cases h5:k=5∨k=9
 · rcases h5 with h3 | h3 <;> simp [h3]
 by_cases h6:k=6∨k=10
 · rcases h6 with h3 | h3 <;> simp [h3]
 rw [if_neg h2,if_neg h3,if_neg h4,if_neg h5,if_neg h6]
 simp only [not_or] at *
 simp [*]
theorem nN {k v:Int} (hk:rng k 3 14=true):iQ (k,v,.empty)=some (wD k v):=by
 have hr:=rng_true.1 hk
 unfold iQ wD
 have h1:rng k 1 14=true:=rng_true.2 (by omega)
 by_cases h7:k=7
 · subst h7;simp [mE,h1,hk]
 by_cases h13:k=13
 · subst h13;simp [mE,h1,hk]
 have h0:¬k=1:=by omega
 simp [mE,h1,hk,h7,h13,h0]
theorem hgEdge_ (e:Edg){n:Int} (h0:0≤n) (h1:n≤100):lQ e n=some (arB e&&(wOk n e.2.2.1&&wOk n e.2.2.2)):=by
 obtain ⟨k,v,a,b⟩:=e
 unfold lQ arB
 have hs:subO n 1=some (n-1):=gE (by omega) (by omega)
 cases hk:rng k 3 14 with
 | false=>
  have:wD k v=false:=by unfold wD;rw [hk];rfl
  simp [mE,hk,this]
 | true=>
  cases hg:wD k v with
  | false=>simp [mE,hk,nN hk,hg]
  | true=>
   by_cases ha:(a.length:Int)=(kd k).1
   ·
    by_cases hb:(b.length:Int)=(kd k).2
    ·
     cases hw:wOk n a with
     | false=>unfold wOk at hw;simp [mE,hk,nN hk,hg,tmKind_,ha,hb,hs,l1All,hw]
     | true=>unfold wOk at hw;simp [mE,hk,nN hk,hg,tmKind_,ha,hb,hs,l1All,hw,wOk]
    · simp [mE,hk,nN hk,hg,tmKind_,ha,hb]
   · simp [mE,hk,nN hk,hg,tmKind_,ha]
theorem rZ {k v:Int} (hk:rng k 3 14=true):jP k v=some (wD k v):=by
 unfold jP dL wD
 by_cases h7:k=7
 · subst h7;simp [lF,hk]
 by_cases h13:k=13
 · subst h13;simp [lF,hk]
 simp [hk,h7,h13]
theorem pV {k:Int} (hk:rng k 3 14=true):qM k=some (kd k):=by
 have hr:=rng_true.1 hk
 have:k=3∨k=4∨k=5∨k=6∨k=7∨k=8∨k=9∨k=10∨k=11∨k=12∨k=13∨k=14:=by omega
 rcases this with rfl | rfl | rfl | rfl | rfl | rfl | rfl | rfl | rfl | rfl | rfl | rfl <;> rfl
theorem isEdge_ (e:Edg):sP e=some (arB e):=by
 obtain ⟨k,v,a,b⟩:=e
 unfold sP arB zU
 cases hk:rng k 3 14 with
 | false=>
  have:wD k v=false:=by unfold wD;rw [hk];rfl
  simp [lF,hk,this]
 | true=>
  cases hg:wD k v with
  | false=>simp [lF,hk,rZ hk,hg]
  | true=>
   simp only [lF,hk,rZ hk,hg,pV hk,Option.bind_some,Bool.not_true,cond_false,Bool.true_and]
   congr 1
   rw [←Bool.decide_and]
   refine decide_eq_decide.2 ?_
   simp only [List.cons.injEq,and_true]
   exact ⟨fun ⟨x,y⟩=>⟨x.symm,y.symm⟩,fun ⟨x,y⟩=>⟨x.symm,y.symm⟩⟩
def edI (e:Edg):List Int:=e.2.2.1
def edO (e:Edg):List Int:=e.2.2.2
theorem dS {n:Nat} (l:List Int) (f:Nat→Int) (hl:∀ x∈l,0≤x∧x<(n:Int)) (B:Int) (hf:∀ k,k<n→0≤f k∧f k+l.length≤B) (hB:B≤4611686018427387904){g:Nat→List Int→Option (List Int)}
  (hg:∀ k s,g k s=((idxO l (k:Int)).bind fun a=>(idxO s a).bind fun b=>(uA b 1).bind fun c=>(iA s a c).bind fun t=>some t)) :
  jA g l.length 0 (mA n f)=some (mA n fun k=>f k+(l.count (k:Int):Nat)):=by
 have:=kC (f:=g) (n:=l.length) (fun j=>mA n fun k=>f k+((l.take j).count (k:Int):Nat)) (fun j hj=>by
  rw [hg]
  have hm:=hl l[j] (List.getElem_mem hj)
  obtain ⟨m,hme⟩:∃ m:Nat,l[j]=(m:Int):=⟨l[j].toNat,by omega⟩
  have hmn:m<n:=by omega
  refine bnd (pA (List.getElem?_eq_getElem hj)) ?_
  rw [hme]
  have hb:=hf m hmn
  have hc:((l.take j).count (m:Int))≤j:=Nat.le_trans List.count_le_length (by simp;omega)
  refine bnd (pE _ hmn) (bnd (bC (by omega) (by omega)) (bnd (eG _ _ hmn) (congrArg some (gD fun k hk=>?_))))
  rw [List.take_add_one,List.getElem?_eq_getElem hj,List.count_append,hme]
  by_cases h:k=m
  · subst h;simp;omega
  ·
   rw [if_neg h]
   have:¬(m:Int)=(k:Int):=by omega
   simp [this])
 have e0:(fun k=>f k+(((l.take 0).count ((k:Nat):Int):Nat):Int))=f:=by funext k;simp
 rw [List.take_length] at this
 rw [←this]
 congr 2
 exact e0.symm
def vE (E:List Edg) (s:Edg→List Int) (k:Nat):Nat:=((E.map s).flatten).count (k:Int)
def rC (E:List Edg) (s:Edg→List Int):Nat:=((E.map s).flatten).length
theorem sL {n:Nat}{l:List Int} (h:wOk n l=true):∀ x∈l,0≤x∧x<(n:Int):=by
 intro x hx
 have:=rng_true.1 (List.all_eq_true.1 h x hx)
 omega
def sD (g:Gra):List Int:=g.2.2.1++g.2.2.2++(g.2.1.map fun e=>edI e++edO e).flatten
def edW (n:Int) (e:Edg):Bool:=arB e&&(wOk n (edI e)&&wOk n (edO e))
def gOk (g:Gra):Bool:=rng g.1 0 100&&(decide (g.2.1.length≤60)&&(decide (g.2.2.1.length≤12)&&(decide (g.2.2.2.length≤12)&&(wOk g.1 g.2.2.1&&(wOk g.1 g.2.2.2&&(g.2.1.all (edW g.1)&&(List.range g.1.toNat).all fun k:Nat=>decide ((k:Int)∈sD g)))))))
theorem kd_le (k:Int):0≤(kd k).1∧(kd k).1≤2∧0≤(kd k).2∧(kd k).2≤2:=by
 unfold kd
 split <;> first | (refine ⟨?_,?_,?_,?_⟩ <;> decide) | skip
 split <;> first | (refine ⟨?_,?_,?_,?_⟩ <;> decide) | skip
 split <;> first | (refine ⟨?_,?_,?_,?_⟩ <;> decide) | skip
 split <;> first | (refine ⟨?_,?_,?_,?_⟩ <;> decide) | skip
 split <;> (refine ⟨?_,?_,?_,?_⟩ <;> decide)
theorem CI_ {e:Edg} (h:arB e=true):(edI e).length≤2∧(edO e).length≤2:=by
 unfold arB at h
 simp only [Bool.and_eq_true,decide_eq_true_eq] at h
 have:=kd_le e.1
 unfold edI edO
 omega
theorem FL_ {n:Nat}{E:List Edg}{I O:List Int} (hn:n≤1048576) (hI:∀ x∈I,0≤x∧x<(n:Int)) (hO:∀ x∈O,0≤x∧x<(n:Int)) (hE:∀ e∈E,(∀ x∈edI e,0≤x∧x<(n:Int))∧(∀ x∈edO e,0≤x∧x<(n:Int)))
  (hB:I.length+O.length+rC E edI+rC E edO≤1099511627776) :
  qV ((n:Int),E,I,O)=some (mA n (fun k=>((I.count (k:Int)+vE E edO k:Nat):Int)),mA n (fun k=>((O.count (k:Int)+vE E edI k:Nat):Int))):=by
 have hm:aB=1099511627776:=rfl
 refine bnd (yJ _ (by omega)) (bnd (yJ _ (by omega)) ?_)
 have hc:∀ (l:List Int) (k:Nat),l.count (k:Int)≤l.length:=fun l k=>List.count_le_length
 refine bnd (dS I (fun _=>0) hI 1099511627776 (fun k _=>by omega) (by omega) (fun _ _=>rfl)) ?_
 refine bnd (dS O (fun _=>0) hO 1099511627776 (fun k _=>by omega) (by omega) (fun _ _=>rfl)) ?_
 have key:=kC (n:=E.length) (fun j=>(mA n (fun k=>((I.count (k:Int)+vE (E.take j) edO k:Nat):Int)),mA n (fun k=>((O.count (k:Int)+vE (E.take j) edI k:Nat):Int)))) (f:=fun (k215:Nat) (s652:List Int×List Int)=>
   (idxO E ((k215:Nat):Int)).bind fun a667=>
   (jA (fun (k679:Nat) (s738:List Int)=>
     (idxO a667.2.2.2 ((k679:Nat):Int)).bind fun a753=>
     (idxO s738 a753).bind fun a761=>
     (uA a761 1).bind fun a763=>
     (iA s738 a753 a763).bind fun a771=>
     some a771) a667.2.2.2.length 0 s652.1).bind fun (s776:List Int)=>
   (jA (fun (k778:Nat) (s837:List Int)=>
     (idxO a667.2.2.1 ((k778:Nat):Int)).bind fun a852=>
     (idxO s837 a852).bind fun a860=>
     (uA a860 1).bind fun a862=>
     (iA s837 a852 a862).bind fun a870=>
     some a870) a667.2.2.1.length 0 s652.2).bind fun (s875:List Int)=>
   some (s776,s875)) (fun j hj=>by
  have he:=hE _ (List.getElem_mem hj)
  have hsum:∀ s:Edg→List Int,rC (E.take (j+1)) s=rC (E.take j) s+(s E[j]).length:=fun s=>by
   unfold rC;rw [List.take_add_one,List.getElem?_eq_getElem hj,List.map_append,List.flatten_append,List.length_append];simp only [Option.toList_some,List.map_cons,List.map_nil,List.flatten_cons,List.flatten_nil,List.append_nil]
  have hle:∀ s:Edg→List Int,rC (E.take (j+1)) s≤rC E s:=fun s=>by
   unfold rC
   have:E=E.take (j+1)++E.drop (j+1):=(List.take_append_drop _ _).symm
   conv=>rhs;rw [this]
   rw [List.map_append,List.flatten_append,List.length_append];omega
  have hct:∀ (s:Edg→List Int) (k:Nat),vE (E.take j) s k≤rC (E.take j) s:=fun s k=>List.count_le_length
  have hcs:∀ (s:Edg→List Int) (k:Nat),vE (E.take (j+1)) s k=vE (E.take j) s k+(s E[j]).count (k:Int):=fun s k=>by
   unfold vE;rw [List.take_add_one,List.getElem?_eq_getElem hj,List.map_append,List.flatten_append,List.count_append];simp only [Option.toList_some,List.map_cons,List.map_nil,List.flatten_cons,List.flatten_nil,List.append_nil]
  have h1:=hsum edI;have h2:=hsum edO;have h3:=hle edI;have h4:=hle edO
  refine bnd (pA (List.getElem?_eq_getElem hj)) ?_
  refine bnd (dS (edO E[j]) _ he.2 1099511627776 (fun k _=>by have:=hct edO k;have:=hc I k;omega) (by omega) (fun _ _=>rfl)) ?_
  refine bnd (dS (edI E[j]) _ he.1 1099511627776 (fun k _=>by have:=hct edI k;have:=hc O k;omega) (by omega) (fun _ _=>rfl)) ?_
  refine congrArg some (Prod.ext (gD fun k hk=>?_) (gD fun k hk=>?_))
  · rw [hcs];push_cast;omega
  · rw [hcs];push_cast;omega)
 have e1:∀ (l:List Int) (s:Edg→List Int),mA n (fun k=>(0:Int)+(l.count (k:Int):Nat))=mA n (fun k=>((l.count (k:Int)+vE (E.take 0) s k:Nat):Int)):=fun l s=>gD fun k hk=>by
  unfold vE;simp
 rw [e1 I edO,e1 O edI]
 refine bnd key ?_
 rw [List.take_length]
theorem all_app (n:Int) (a b:List Int):wOk n (a++b)=(wOk n a&&wOk n b):=by unfold wOk;rw [List.all_append]
theorem wS {n:Int}{E:List Edg} (h:E.all (edW n)=true):E.all arB=true:=by
 rw [List.all_eq_true] at h ⊢
 intro e he
 have:=h e he
 unfold edW at this
 simp only [Bool.and_eq_true] at this
 exact this.1
theorem B4_ {E:List Edg} (h:E.all arB=true):rC E edI≤2*E.length∧rC E edO≤2*E.length:=by
 induction E with
 | nil=>exact ⟨Nat.le_refl _,Nat.le_refl _⟩
 | cons e E ih=>
  simp only [List.all_cons,Bool.and_eq_true] at h
  have h1:=CI_ h.1
  have h2:=ih h.2
  unfold rC at h2 ⊢
  simp only [List.map_cons,List.flatten_cons,List.length_append,List.length_cons]
  omega
theorem Ci_ {E:List Edg}{s:Edg→List Int}{k:Nat}:vE E s k=0↔¬∃ e∈E,(k:Int)∈s e:=by
 unfold vE
 rw [List.count_eq_zero,List.mem_flatten]
 constructor
 · rintro h ⟨e,he,hk⟩;exact h ⟨s e,List.mem_map.2 ⟨e,he,rfl⟩,hk⟩
 ·
  rintro h ⟨l,hl,hk⟩
  obtain ⟨e,he,rfl⟩:=List.mem_map.1 hl
  exact h ⟨e,he,hk⟩
theorem mem_allW {g:Gra}{k:Int}:k∈sD g↔k∈g.2.2.1∨k∈g.2.2.2∨∃ e∈g.2.1,k∈edI e∨k∈edO e:=by
 unfold sD
 rw [List.mem_append,List.mem_append,List.mem_flatten]
 constructor
 ·
  rintro ((h | h) | ⟨l,hl,h⟩)
  · exact .inl h
  · exact .inr (.inl h)
  ·
   obtain ⟨e,he,rfl⟩:=List.mem_map.1 hl
   exact .inr (.inr ⟨e,he,List.mem_append.1 h⟩)
 ·
  rintro (h | h | ⟨e,he,h⟩)
  · exact .inl (.inl h)
  · exact .inl (.inr h)
  · exact .inr ⟨_,List.mem_map.2 ⟨e,he,rfl⟩,List.mem_append.2 h⟩
theorem CB_ {n:Nat}{E:List Edg} (h:E.all (edW n)=true):∀ e∈E,(∀ x∈edI e,0≤x∧x<(n:Int))∧(∀ x∈edO e,0≤x∧x<(n:Int)):=by
 intro e he
 have:=List.all_eq_true.1 h e he
 unfold edW at this
 simp only [Bool.and_eq_true] at this
 exact ⟨sL this.2.1,sL this.2.2⟩
theorem jO (g:Gra):bN g=some (gOk g):=by
 obtain ⟨n,E,I,O⟩:=g
 unfold bN gOk
 cases hr:rng n 0 100 with
 | false=>simp [mE,hr]
 | true=>
  have hn:=rng_true.1 hr
  have hs:subO n 1=some (n-1):=gE (by omega) (by omega)
  by_cases hE:E.length≤60
  case neg=>
   have:(60:Int)<(E.length:Int):=by omega
   simp [mE,hr,hE,this]
  have hE':¬(60:Int)<(E.length:Int):=by omega
  by_cases hI:I.length≤12
  case neg=>
   have:(12:Int)<(I.length:Int):=by omega
   simp [mE,hr,hE,hE',hI,this]
  have hI':¬(12:Int)<(I.length:Int):=by omega
  by_cases hO:O.length≤12
  case neg=>
   have:(12:Int)<(O.length:Int):=by omega
   simp [mE,hr,hE,hE',hI,hI',hO,this]
  have hO':¬(12:Int)<(O.length:Int):=by omega
  cases hwI:wOk n I with
  | false=>unfold wOk at hwI;simp [mE,hr,hE,hE',hI,hI',hO,hO',hs,l1All,hwI]
  | true=>
  cases hwO:wOk n O with
  | false=>unfold wOk at hwI hwO;simp [mE,hr,hE,hE',hI,hI',hO,hO',hs,l1All,hwO]
  | true=>
  have hl1:qI I 0 (n-1)=some true:=by rw [l1All];exact congrArg some hwI
  have hl2:qI O 0 (n-1)=some true:=by rw [l1All];exact congrArg some hwO
  simp only [mE,hr,dF hE',dF hI',dF hO',dT hE,dT hI,dT hO,hs,hl1,hl2,Option.bind_some,Bool.not_true,cond_false,Bool.true_and]
  refine sqW (fG (edW n) E 0 ?_ (t:=false)) ?_
  ·
   intro j e hj
   rw [Nat.zero_add]
   refine bnd (pA hj) (bnd (hgEdge_ e hn.1 hn.2) (stp ?_))
   have:(arB e&&(wOk n e.2.2.1&&wOk n e.2.2.2))=edW n e:=rfl
   rw [this]
   cases edW n e <;> rfl
  ·
   cases hall:E.all (edW n) with
   | false=>rfl
   | true=>
    rw [if_pos rfl,pY]
    obtain ⟨m,rfl⟩:∃ m:Nat,n=(m:Int):=⟨n.toNat,by omega⟩
    have h2:=B4_ (wS hall)
    refine bnd (FL_ (by omega) (sL hwI) (sL hwO) (CB_ hall) (by omega)) ?_
    dsimp only
    have hlen:∀ f:Nat→Int,(mA m f).length=(List.range m).length:=fun f=>by rw [fE,List.length_range]
    rw [hlen]
    refine sqW (fG (fun k:Nat=>decide ((k:Int)∈sD ((m:Int),E,I,O))) (List.range m) 0 ?_ (t:=false)) ?_
    ·
     intro j k hj
     obtain ⟨hjm,hje⟩:=List.getElem?_eq_some_iff.1 hj
     rw [List.getElem_range] at hje
     subst hje
     rw [List.length_range] at hjm
     rw [Nat.zero_add]
     have c1:I.count (j:Int)≤I.length:=List.count_le_length
     have c2:O.count (j:Int)≤O.length:=List.count_le_length
     have c3:vE E edI j≤rC E edI:=List.count_le_length
     have c4:vE E edO j≤rC E edO:=List.count_le_length
     refine bnd (pE _ hjm) (bnd (pE _ hjm) (bnd (bC (by omega) (by omega)) (stp ?_)))
     have hiff:(j:Int)∈sD ((m:Int),E,I,O)↔¬(((I.count (j:Int)+vE E edO j:Nat):Int)+((O.count (j:Int)+vE E edI j:Nat):Int)=0):=by
      rw [mem_allW]
      dsimp only
      have z1:I.count (j:Int)=0↔¬(j:Int)∈I:=List.count_eq_zero
      have z2:O.count (j:Int)=0↔¬(j:Int)∈O:=List.count_eq_zero
      have z3:=Ci_ (E:=E) (s:=edI) (k:=j)
      have z4:=Ci_ (E:=E) (s:=edO) (k:=j)
      constructor
      ·
       intro h h0
       have y1:=z1.1 (by omega);have y2:=z2.1 (by omega);have y3:=z3.1 (by omega);have y4:=z4.1 (by omega)
       rcases h with h | h | ⟨e,he,h | h⟩
       · exact y1 h
       · exact y2 h
       · exact y3 ⟨e,he,h⟩
       · exact y4 ⟨e,he,h⟩
      ·
       intro h
       refine Decidable.byContradiction fun hc=>h ?_
       simp only [not_or] at hc
       have y1:=z1.2 hc.1;have y2:=z2.2 hc.2.1
       have y3:=z3.2 (fun ⟨e,he,hk⟩=>hc.2.2 ⟨e,he,.inl hk⟩)
       have y4:=z4.2 (fun ⟨e,he,hk⟩=>hc.2.2 ⟨e,he,.inr hk⟩)
       omega
     by_cases hk:(j:Int)∈sD ((m:Int),E,I,O)
     · rw [dT hk,dF (hiff.1 hk)];rfl
     · rw [dF hk,dT (Decidable.byContradiction fun hc=>hk (hiff.2 hc))];rfl
    ·
     rw [Int.toNat_natCast]
     cases (List.range m).all fun k:Nat=>decide ((k:Int)∈sD ((m:Int),E,I,O)) <;> rfl
def jH (n:Nat) (d:List Int):List Bool:=mA n fun k=>decide ((k:Int)∈d)
def seenN (n:Nat) (d:List Int):Nat:=(List.range n).countP fun k:Nat=>decide ((k:Int)∈d)
theorem Bq_ (n:Nat) (d:List Int):seenN n d≤n:=by
 have:=List.countP_le_length (p:=fun k:Nat=>decide ((k:Int)∈d)) (l:=List.range n)
 rwa [List.length_range] at this
theorem Fd_ {n m:Nat} (h:m<n) (P:Nat→Bool) (hP:P m=false):(List.range n).countP (fun k=>decide (k=m)||P k)=(List.range n).countP P+1:=by
 induction n with
 | zero=>omega
 | succ n ih=>
  rw [List.range_succ,List.countP_append,List.countP_append]
  by_cases hm:m=n
  ·
   subst hm
   have:(List.range m).countP (fun k=>decide (k=m)||P k)=(List.range m).countP P:=by
    refine List.countP_congr fun k hk=>?_
    have:¬k=m:=by have:=List.mem_range.1 hk;omega
    simp [this]
   rw [this]
   simp [hP]
  ·
   rw [ih (by omega)]
   have:¬n=m:=by omega
   simp [this];omega
theorem AY_ (n:Nat) (d:List Int) (m:Nat) (hm:m<n) (h:¬(m:Int)∈d):seenN n (d++[(m:Int)])=seenN n d+1∧(mA n fun k=>if k=m then true else decide ((k:Int)∈d))=jH n (d++[(m:Int)]):=by
 constructor
 ·
  unfold seenN
  rw [←Fd_ hm (fun k:Nat=>decide ((k:Int)∈d)) (dF h)]
  refine List.countP_congr fun k _=>?_
  simp only [List.mem_append,List.mem_singleton,decide_eq_true_eq,Bool.or_eq_true]
  constructor
  ·
   rintro (h | h)
   · exact .inr h
   · exact .inl (by omega)
  ·
   rintro (h | h)
   · exact .inr (by omega)
   · exact .inl h
 ·
  refine gD fun k _=>?_
  by_cases hk:k=m
  · rw [if_pos hk,dT];simp [hk]
  ·
   rw [if_neg hk,decide_eq_decide]
   have:¬(k:Int)=(m:Int):=by omega
   simp [this]
theorem AZ_ (n:Nat) (d:List Int) (x:Int) (h:x∈d∨rng x 0 ((n:Int)-1)=false):seenN n (d++[x])=seenN n d∧jH n (d++[x])=jH n d:=by
 have:∀ k,k<n→decide ((k:Int)∈d++[x])=decide ((k:Int)∈d):=fun k hk=>by
  rw [decide_eq_decide,List.mem_append,List.mem_singleton]
  constructor
  ·
   rintro (h1 | h1)
   · exact h1
   ·
    rcases h with h | h
    · rw [h1];exact h
    ·
     have:rng x 0 ((n:Int)-1)=true:=rng_true.2 (by omega)
     rw [this] at h;cases h
  · exact .inl
 exact ⟨List.countP_congr fun k hk=>by rw [this k (List.mem_range.1 hk)],gD this⟩
theorem lR {n:Nat} (hn:n≤100) (E:List Edg) (I O l d:List Int):oH l ((n:Int),E,I,O) (wOk n d) (jH n d) ((seenN n d:Nat):Int)=some (wOk n (d++l),jH n (d++l),((seenN n (d++l):Nat):Int)):=by
 unfold oH
 have:=kC (n:=l.length) (fun j=>(wOk n (d++l.take j),((seenN n (d++l.take j):Nat):Int),jH n (d++l.take j))) (f:=fun (k10:Nat) (s199:Bool×Int×List Bool)=>
   ((idxO l ((k10:Nat):Int)).bind fun a262=>
    (subO (n:Int) 1).bind fun a264=>
    (yE a262 0 a264).bind fun y266=>
    (some (!y266)).bind fun a269=>
    cond a269
    (some (false,s199.2.1,s199.2.2))
    ((idxO s199.2.2 a262).bind fun a278=>
     (some (!a278)).bind fun a280=>
     cond a280
     ((iA s199.2.2 a262 true).bind fun a290=>
      (uA s199.2.1 1).bind fun a293=>
      some (s199.1,a293,a290))
     (some (s199.1,s199.2.1,s199.2.2)))).bind fun (s250:Bool×Int×List Bool)=>
   some (s250.1,s250.2.1,s250.2.2)) (fun j hj=>by
  have hlen:=Bq_ n (d++l.take j)
  have e1:d++l.take (j+1)=(d++l.take j)++[l[j]]:=by rw [List.take_add_one,List.getElem?_eq_getElem hj];simp
  have e2:wOk n (d++l.take (j+1))=(wOk n (d++l.take j)&&rng l[j] 0 (n-1)):=by rw [e1,all_app];congr 1;unfold wOk;simp
  refine bndW (bnd (pA (List.getElem?_eq_getElem hj)) (bnd (gE (by omega) (by omega)) (bnd (lF _ _ _) (stp rfl)))) ?_
  cases hr:rng l[j] 0 ((n:Int)-1) with
  | false=>
   have h3:=AZ_ n (d++l.take j) l[j] (.inr hr)
   rw [←e1] at h3
   rw [e2,hr,h3.1,h3.2,Bool.and_false];rfl
  | true=>
   have hx:=rng_true.1 hr
   obtain ⟨m,hme⟩:∃ m:Nat,l[j]=(m:Int):=⟨l[j].toNat,by omega⟩
   rw [e2,hr,Bool.and_true,hme]
   refine bndW (bnd (pE _ (by omega)) (stp rfl)) ?_
   by_cases hm:(m:Int)∈d++l.take j
   ·
    have h3:=AZ_ n (d++l.take j) l[j] (.inl (by rw [hme];exact hm))
    rw [←e1] at h3
    rw [dT hm,h3.1,h3.2];rfl
   ·
    have h3:=AY_ n (d++l.take j) m (by omega) hm
    rw [←hme,← e1] at h3
    rw [dF hm]
    refine bndW (bnd (eG _ _ (by omega)) (bnd (bC (by dsimp only;omega) (by dsimp only;omega)) rfl)) ?_
    rw [h3.1]
    show some _=some _
    refine congrArg some (Prod.ext rfl (Prod.ext ?_ ?_))
    · dsimp only;push_cast;rfl
    · dsimp only;rw [←h3.2])
 simp only [List.take_zero,List.append_nil,List.take_length] at this
 rw [this];rfl
theorem FI_ {n:Nat} (hn:n≤100) (E:List Edg) (I O:List Int):gP ((n:Int),E,I,O) ((n:Int),E,I,O) true (mA n fun _=>false) 0=some (wOk n (sD ((n:Int),E,I,O)),jH n (sD ((n:Int),E,I,O)),((seenN n (sD ((n:Int),E,I,O)):Nat):Int)):=by
 unfold gP
 have h0:(mA n fun _=>false)=jH n []:=by unfold jH;simp
 have h1:(0:Int)=((seenN n []:Nat):Int):=by unfold seenN;simp
 have h2:true=wOk n []:=rfl
 rw [h0,h1,h2]
 refine bnd (lR hn E I O I []) (bnd (lR hn E I O O ([]++I)) ?_)
 have:=kC (n:=E.length) (fun j=>(((seenN n ([]++I++O++((E.take j).map fun e=>edI e++edO e).flatten):Nat):Int),wOk n ([]++I++O++((E.take j).map fun e=>edI e++edO e).flatten),jH n ([]++I++O++((E.take j).map fun e=>edI e++edO e).flatten))) (f:=fun (k21:Nat) (s74:Int×Bool×List Bool)=>
   (idxO E ((k21:Nat):Int)).bind fun a89=>
   (oH a89.2.2.1 ((n:Int),E,I,O) s74.2.1 s74.2.2 s74.1).bind fun y101=>
   (oH a89.2.2.2 ((n:Int),E,I,O) y101.1 y101.2.1 y101.2.2).bind fun y104=>
   some (y104.2.2,y104.1,y104.2.1)) (fun j hj=>by
  have e1:[]++I++O++((E.take (j+1)).map fun e=>edI e++edO e).flatten=[]++I++O++((E.take j).map fun e=>edI e++edO e).flatten++edI E[j]++edO E[j]:=by
   rw [List.take_add_one,List.getElem?_eq_getElem hj,List.map_append,List.flatten_append]
   simp only [Option.toList_some,List.map_cons,List.map_nil,List.flatten_cons,List.flatten_nil,List.append_nil,List.append_assoc]
  rw [e1]
  exact bnd (pA (List.getElem?_eq_getElem hj)) (bnd (lR hn E I O (edI E[j]) _) (bnd (lR hn E I O (edO E[j]) _) rfl)))
 simp only [List.take_zero,List.take_length,List.map_nil,List.flatten_nil,List.append_nil] at this
 refine bnd this ?_
 unfold sD
 simp only [List.nil_append]
theorem F1_ {n:Int}{E:List Edg}{I O:List Int} (h:E.all arB=true):wOk n (sD (n,E,I,O))=(wOk n I&&(wOk n O&&E.all (edW n))):=by
 unfold sD
 rw [all_app,all_app,Bool.and_assoc]
 congr 2
 show wOk n (E.map fun e=>edI e++edO e).flatten=E.all (edW n)
 clear I O
 induction E with
 | nil=>rfl
 | cons e E ih=>
  simp only [List.all_cons,Bool.and_eq_true] at h
  rw [List.map_cons,List.flatten_cons,all_app,all_app,List.all_cons]
  rw [ih h.2]
  unfold edW
  rw [h.1,Bool.true_and]
theorem zR (g:Gra):uM g=some (gOk g):=by
 obtain ⟨n,E,I,O⟩:=g
 unfold uM gOk
 cases hr:rng n 0 100 with
 | false=>simp [lF,hr]
 | true=>
  have hn:=rng_true.1 hr
  by_cases hE:E.length≤60
  case neg=>
   have:(60:Int)<(E.length:Int):=by omega
   simp [lF,hr,hE,this]
  have hE':¬(60:Int)<(E.length:Int):=by omega
  by_cases hI:I.length≤12
  case neg=>
   have:(12:Int)<(I.length:Int):=by omega
   simp [lF,hr,hE,hE',hI,this]
  have hI':¬(12:Int)<(I.length:Int):=by omega
  by_cases hO:O.length≤12
  case neg=>
   have:(12:Int)<(O.length:Int):=by omega
   simp [lF,hr,hE,hE',hI,hI',hO,this]
  have hO':¬(12:Int)<(O.length:Int):=by omega
  simp only [lF,hr,dF hE',dF hI',dF hO',dT hE,dT hI,dT hO,Option.bind_some,Bool.not_true,cond_false,Bool.true_and]
  obtain ⟨m,rfl⟩:∃ m:Nat,n=(m:Int):=⟨n.toNat,by omega⟩
  refine sqW (fG arB E 0 ?_ (t:=false)) ?_
  ·
   intro j e hj
   rw [Nat.zero_add]
   refine bnd (pA hj) (bnd (isEdge_ e) (stp ?_))
   cases arB e <;> rfl
  ·
   cases hall:E.all arB with
   | false=>
    have:E.all (edW (m:Int))=false:=by
     cases h:E.all (edW (m:Int)) with
     | false=>rfl
     | true=>rw [wS h] at hall;cases hall
    rw [this]
    simp [vC]
   | true=>
    rw [if_pos rfl,pY]
    refine bnd (yJ _ (by unfold aB;omega)) (bnd (FI_ (by omega) E I O) ?_)
    dsimp only
    rw [F1_ hall]
    have hcov:decide (((seenN m (sD ((m:Int),E,I,O)):Nat):Int)=(m:Int))=(List.range m).all fun k:Nat=>decide ((k:Int)∈sD ((m:Int),E,I,O)):=by
     rw [Bool.eq_iff_iff,decide_eq_true_eq,List.all_eq_true]
     have:seenN m (sD ((m:Int),E,I,O))=(List.range m).length↔_:=List.countP_eq_length
     rw [List.length_range] at this
     rw [←this];omega
    rw [hcov,Int.toNat_natCast]
    cases wOk (m:Int) I <;> cases wOk (m:Int) O <;> cases E.all (edW (m:Int)) <;> rfl
end Go.Proofs.YtngbmcbigcaapaaGreatDoor
namespace Go.Proofs.YtngbmcbigcaapaaGreatDoor
theorem E0_ {σ τ:Type}{f:σ→Option (σ⊕τ)} (I:σ→Prop) (Q:τ→Prop) (μ:σ→Nat) (h:∀ s,I s→(∃ s',f s=some (.inl s')∧I s'∧μ s'<μ s)∨(∃ t,f s=some (.inr t)∧Q t)){s:σ} (hs:I s):∃ t,tB f s=some t∧Q t:=by
 have key:∀ n s,μ s≤n→I s→∃ t,tB f s=some t∧Q t:=by
  intro n
  induction n with
  | zero=>
   intro s hn hs
   rcases h s hs with ⟨s',_,_,hl⟩ | ⟨t,ht,hq⟩
   · omega
   · exact ⟨t,sE ht,hq⟩
  | succ n ih=>
   intro s hn hs
   rcases h s hs with ⟨s',h1,h2,hl⟩ | ⟨t,ht,hq⟩
   ·
    obtain ⟨t,h3,h4⟩:=ih s' (by omega) h2
    exact ⟨t,by rw [kG h1];exact h3,h4⟩
   · exact ⟨t,sE ht,hq⟩
 exact key _ s (Nat.le_refl _) hs
theorem AC_ {σ τ:Type}{f:σ→Option (σ⊕τ)} (I:Nat→σ→Prop) (Q:τ→Prop) (N:Nat) (h:∀ j s,j≤N→I j s→(∃ s',f s=some (.inl s')∧I (j+1) s'∧j<N)∨(∃ t,f s=some (.inr t)∧Q t)){s:σ} (hs:I 0 s):∃ t,tB f s=some t∧Q t:=by
 have key:∀ d j s,j+d=N→I j s→∃ t,tB f s=some t∧Q t:=by
  intro d
  induction d with
  | zero=>
   intro j s hj hI
   rcases h j s (by omega) hI with ⟨s',h1,h2,h3⟩ | ⟨t,h1,h2⟩
   · omega
   · exact ⟨t,sE h1,h2⟩
  | succ d ih=>
   intro j s hj hI
   rcases h j s (by omega) hI with ⟨s',h1,h2,h3⟩ | ⟨t,h1,h2⟩
   ·
    obtain ⟨t,k1,k2⟩:=ih (j+1) s' (by omega) h2
    exact ⟨t,by rw [kG h1];exact k1,k2⟩
   · exact ⟨t,sE h1,h2⟩
 exact key N 0 s (by omega) hs
theorem BJ_ {σ:Type}{f:Nat→σ→Option σ} (I:Nat→σ→Prop):∀ (n k:Nat) (s:σ),I k s→(∀ j s,k≤j→j<k+n→I j s→∃ s',f j s=some s'∧I (j+1) s')→∃ r,jA f n k s=some r∧I (k+n) r
 | 0,k,s,h0,_=>⟨s,rfl,h0⟩
 | n+1,k,s,h0,h=>by
  obtain ⟨s',h1,h2⟩:=h k s (Nat.le_refl _) (by omega) h0
  obtain ⟨r,h3,h4⟩:=BJ_ I n (k+1) s' h2 (fun j s hj hl hi=>h j s (by omega) (by omega) hi)
  refine ⟨r,?_,by rwa [show k+1+n=k+(n+1) by omega] at h4⟩
  show (f k s).bind _=_
  rw [h1];exact h3
theorem kO {σ:Type}{f:Nat→σ→Option σ}{n:Nat}{s:σ} (I:Nat→σ→Prop) (h0:I 0 s) (h:∀ j s,j<n→I j s→∃ s',f j s=some s'∧I (j+1) s'):∃ r,jA f n 0 s=some r∧I n r:=by
 obtain ⟨r,h1,h2⟩:=BJ_ (f:=f) I n 0 s h0 (fun j s _ hl hi=>h j s (by omega) hi)
 exact ⟨r,h1,by rwa [Nat.zero_add] at h2⟩
theorem BK_ {σ τ:Type}{f:Nat→σ→Option (σ⊕τ)} (I:Nat→σ→Prop) (Q:τ→Prop):∀ (n k:Nat) (s:σ),I k s→(∀ j s,k≤j→j<k+n→I j s→(∃ s',f j s=some (.inl s')∧I (j+1) s')∨(∃ t,f j s=some (.inr t)∧Q t))→(∃ r,uC f n k s=some (.inl r)∧I (k+n) r)∨(∃ t,uC f n k s=some (.inr t)∧Q t)
 | 0,k,s,h0,_=>.inl ⟨s,rfl,h0⟩
 | n+1,k,s,h0,h=>by
  rcases h k s (Nat.le_refl _) (by omega) h0 with ⟨s',h1,h2⟩ | ⟨t,h1,h2⟩
  ·
   rcases BK_ I Q n (k+1) s' h2 (fun j s hj hl hi=>h j s (by omega) (by omega) hi) with ⟨r,h3,h4⟩ | ⟨t,h3,h4⟩
   ·
    refine .inl ⟨r,?_,by rwa [show k+1+n=k+(n+1) by omega] at h4⟩
    show (f k s).bind _=_
    rw [h1];exact h3
   ·
    refine .inr ⟨t,?_,h4⟩
    show (f k s).bind _=_
    rw [h1];exact h3
  ·
   refine .inr ⟨t,?_,h2⟩
   show (f k s).bind _=_
   rw [h1];rfl
theorem Gk_ {σ τ:Type}{f:Nat→σ→Option (σ⊕τ)}{n:Nat}{s:σ} (I:Nat→σ→Prop) (Q:τ→Prop) (h0:I 0 s) (h:∀ j s,j<n→I j s→(∃ s',f j s=some (.inl s')∧I (j+1) s')∨(∃ t,f j s=some (.inr t)∧Q t)):(∃ r,uC f n 0 s=some (.inl r)∧I n r)∨(∃ t,uC f n 0 s=some (.inr t)∧Q t):=by
 rcases BK_ (f:=f) I Q n 0 s h0 (fun j s _ hl hi=>h j s (by omega) hi) with ⟨r,h1,h2⟩ | h
 · exact .inl ⟨r,h1,by rwa [Nat.zero_add] at h2⟩
 · exact .inr h
def M (s:List Bool) (x:Int):Prop:=idxO s x=some true
instance (s:List Bool) (x:Int):Decidable (M s x):=by unfold M;infer_instance
theorem M_idx {s:List Bool}{x:Int} (h0:0≤x) (h1:x<s.length):idxO s x=some (decide (M s x)):=by
 by_cases h:M s x
 · rw [dT h];exact h
 ·
  rw [dF h]
  obtain ⟨k,rfl⟩:∃ k:Nat,x=(k:Int):=⟨x.toNat,by omega⟩
  unfold M at h
  rw [BG_,List.getElem?_eq_getElem (by omega)] at h ⊢
  cases hs:s[k] with
  | false=>rfl
  | true=>rw [hs] at h;exact (h rfl).elim
theorem M_set {s:List Bool}{x:Int} (h0:0≤x) (h1:x<s.length):iA s x true=some (s.set x.toNat true)∧∀ y,M (s.set x.toNat true) y↔(M s y∨y=x):=by
 obtain ⟨k,rfl⟩:∃ k:Nat,x=(k:Int):=⟨x.toNat,by omega⟩
 rw [Int.toNat_natCast]
 refine ⟨nC _ (by omega),fun y=>?_⟩
 unfold M idxO
 by_cases hy:0≤y
 ·
  rw [if_pos hy,if_pos hy,List.getElem?_set]
  by_cases h:k=y.toNat
  ·
   rw [if_pos h,if_pos (by omega)]
   exact ⟨fun _=>.inr (by omega),fun _=>rfl⟩
  ·
   rw [if_neg h]
   exact ⟨.inl,fun h2=>by rcases h2 with h2 | h2;exact h2;omega⟩
 ·
  rw [if_neg hy,if_neg hy]
  constructor
  · intro h;cases h
  ·
   rintro (h | h)
   · cases h
   · omega
theorem M_rng {s:List Bool}{x:Int} (h:M s x):0≤x∧x<s.length:=by
 unfold M at h
 obtain ⟨k,rfl,_,hl⟩:=uH h
 omega
theorem M_none (n:Nat) (x:Int):¬M (mA n fun _=>false) x:=by
 intro h
 have h1:=M_rng h
 rw [fE] at h1
 obtain ⟨k,rfl⟩:∃ k:Nat,x=(k:Int):=⟨x.toNat,by omega⟩
 unfold M at h
 rw [pE _ (by omega)] at h;cases h
def fC (n:Nat) (l:List Int):Prop:=∀ x∈l,0≤x∧x<(n:Int)
def nE (n:Nat) (E:List Edg):Prop:=∀ e∈E,fC n (edI e)∧fC n (edO e)
end Go.Proofs.YtngbmcbigcaapaaGreatDoor
namespace Go.Proofs.YtngbmcbigcaapaaGreatDoor
def nIntS (a:List Int):Nat:=a.length
def pL (a:List Int):Prop:=jJ a
theorem tQ {a:List Int} (h:Nice.ok a):pL a:=h.1
theorem zS (a:List Int) (left:Int) (h0:0≤left) (h1:left≤wE) (hl:pL a):uJ a left=some (if (nIntS a:Int)≤left then left-nIntS a else -1):=szIntS a left h0 h1 hl
theorem aT (a:List Int) (h:nIntS a≤1048576):tJ a=some a:=by
 have hm:aB=1099511627776:=rfl
 exact toIntS a (by unfold nIntS at h;omega)
theorem fT (a:List Int) (h:nIntS a≤1048576):vJ a a=some true:=by rw [eqIntS a a (by unfold nIntS at h;unfold jJ;omega),show decide (a=a)=true from dT rfl]
end Go.Proofs.YtngbmcbigcaapaaGreatDoor
namespace Go.Proofs.YtngbmcbigcaapaaGreatDoor
end Go.Proofs.YtngbmcbigcaapaaGreatDoor
namespace Go.Proofs.YtngbmcbigcaapaaGreatDoor
set_option linter.unusedVariables false
abbrev oK:=Int×Int×(List Int)×(List Int)
def nEdge (a:oK):Nat:=nIntS a.2.2.1+nIntS a.2.2.2
def mX (a:oK):Prop:=pL a.2.2.1∧pL a.2.2.2
theorem z_Edge (a:oK) (left:Int) (h0:0≤left) (h1:left≤wE) (hl:mX a):gW a left=some (if (nEdge a:Int)≤left then left-nEdge a else -1):=by
 unfold wE at h1
 obtain ⟨l0,l1⟩:=hl
 unfold nEdge
 refine bnd (zS a.2.2.1 (left) (by omega) (by unfold wE;omega) l0) (stp ?_)
 by_cases g0:(nIntS a.2.2.1:Int)≤left
 case neg=>
  rw [if_neg g0];try rw [if_neg (by omega)]
  exact cTW (dT (by omega)) rfl
 rw [if_pos g0]
 refine cFW (dF (by omega)) ?_
 refine bnd (zS a.2.2.2 (left-nIntS a.2.2.1) (by omega) (by unfold wE;omega) l1) (stp ?_)
 by_cases g1:(nIntS a.2.2.2:Int)≤left-nIntS a.2.2.1
 case neg=>
  rw [if_neg g1];try rw [if_neg (by omega)]
  exact cTW (dT (by omega)) rfl
 rw [if_pos g1]
 try rw [if_pos (by omega)]
 refine cFW (dF (by omega)) ?_
 congr 1;try omega
theorem EH_ {a:oK} (h:Nice.ok a):mX a:=by
 obtain ⟨h0,h1,h2,h3⟩:=h
 exact ⟨tQ h2,tQ h3⟩
theorem t_Edge (a:oK) (h:nEdge a≤1048576):fW a=some a:=by
 unfold nEdge at h
 exact bnd (aT a.2.2.1 (by omega)) (bnd (aT a.2.2.2 (by omega)) (rfl))
theorem e_Edge (a:oK) (h:nEdge a≤1048576):iW a a=some true:=by
 unfold nEdge at h
 exact stp (cFW (nT (dT rfl)) (stp (cFW (nT (dT rfl)) (bnd (fT a.2.2.1 (by omega)) (stp (cFW rfl (bnd (fT a.2.2.2 (by omega)) (stp (cFW rfl (rfl))))))))))
abbrev vL:=List oK
def nEdgeS (a:vL):Nat:=a.length+tot nEdge a
def eX (a:vL):Prop:=jJ a∧∀ x∈a,mX x
theorem z_EdgeS (a:vL) (left:Int) (h0:0≤left) (h1:left≤wE) (hl:eX a):xV a left=some (if (nEdgeS a:Int)≤left then left-nEdgeS a else -1):=by
 have hl1:=hl.1;unfold jJ at hl1;unfold wE at h1
 unfold nEdgeS
 refine bnd (gE (by omega) (by omega)) (stp ?_)
 by_cases h:(a.length:Int)≤left
 ·
  refine cFW (dF (by omega)) (sqW (B5_ nEdge a (left-a.length) ?_ ?_ a [] _ rfl ?_ (Int.le_refl _)) ?_)
  ·
   intro j r s hj hjl hs hsB
   dsimp only
   refine stp (cTW (dT (by omega)) (bnd (pA hj) (bnd (z_Edge r s hs (by unfold wE;omega) (hl.2 r (dE hj))) (stp ?_))))
   by_cases h2:(nEdge r:Int)≤s
   · rw [if_pos h2,if_pos h2];exact cFW (dF (by omega)) (bnd (bC (by omega) (by omega)) rfl)
   · rw [if_neg h2,if_neg h2];exact cTW (dT (by omega)) rfl
  · intro s;dsimp only;exact stp (cFW (dF (by omega)) rfl)
  · omega
  ·
   by_cases h2:(tot nEdge a:Int)≤left-a.length
   · rw [if_pos h2,if_pos (by omega),pY];congr 1;omega
   · rw [if_neg h2,if_neg (by omega),seqO_r]
 · rw [if_neg (by omega)];exact cTW (dT (by omega)) rfl
theorem Eu_ {a:vL} (h:Nice.ok a):eX a:=⟨h.1,fun x hx=>EH_ (h.2 x hx)⟩
theorem t_EdgeS (a:vL) (h:nEdgeS a≤1048576):vV a=some a:=by
 have hm:aB=1099511627776:=rfl
 unfold nEdgeS at h
 refine bnd (wF _ (by omega)) (bnd (tX _ a ?_ ?_ a [] rfl) rfl)
 ·
  intro j x s hj hjl hs
  dsimp only
  exact stp (cTW (dT (by omega)) (bnd (pA hj) (bnd (t_Edge x (by have:=B3_ (n:=nEdge) (dE hj);omega)) (bnd (nC _ (by omega)) (bnd (bC (by omega) (by omega)) rfl)))))
 · intro s hs;dsimp only;exact stp (cFW (dF (by omega)) rfl)
theorem e_EdgeS (a:vL) (h:nEdgeS a≤1048576):zV a a=some true:=by
 unfold nEdgeS at h
 refine stp (cFW (nT (dT rfl)) (sqW (sN (fun j=>(j:Int)) (t:=.inl ()) a.length ?_ ?_) ?_))
 ·
  intro j hj
  exact stp (cTW (dT (by omega)) (bnd (pA (List.getElem?_eq_getElem hj)) (bnd (pA (List.getElem?_eq_getElem hj)) (bnd (e_Edge a[j] (by have:=B3_ (n:=nEdge) (List.getElem_mem hj);omega)) (stp (cFW rfl (bnd (bC (by omega) (by omega)) rfl)))))))
 · exact stp (cFW (dF (by omega)) rfl)
 · rfl
abbrev lK:=Int×(List (Int×Int×(List Int)×(List Int)))×(List Int)×(List Int)
def nGraph (a:lK):Nat:=nEdgeS a.2.1+nIntS a.2.2.1+nIntS a.2.2.2
def A5_ (a:lK):Prop:=eX a.2.1∧pL a.2.2.1∧pL a.2.2.2
theorem z_Graph (a:lK) (left:Int) (h0:0≤left) (h1:left≤wE) (hl:A5_ a):wV a left=some (if (nGraph a:Int)≤left then left-nGraph a else -1):=by
 unfold wE at h1
 obtain ⟨l0,l1,l2⟩:=hl
 unfold nGraph
 refine bnd (z_EdgeS a.2.1 (left) (by omega) (by unfold wE;omega) l0) (stp ?_)
 by_cases g0:(nEdgeS a.2.1:Int)≤left
 case neg=>
  rw [if_neg g0];try rw [if_neg (by omega)]
  exact cTW (dT (by omega)) rfl
 rw [if_pos g0]
 refine cFW (dF (by omega)) ?_
 refine bnd (zS a.2.2.1 (left-nEdgeS a.2.1) (by omega) (by unfold wE;omega) l1) (stp ?_)
 by_cases g1:(nIntS a.2.2.1:Int)≤left-nEdgeS a.2.1
 case neg=>
  rw [if_neg g1];try rw [if_neg (by omega)]
  exact cTW (dT (by omega)) rfl
 rw [if_pos g1]
 refine cFW (dF (by omega)) ?_
 refine bnd (zS a.2.2.2 (left-nEdgeS a.2.1-nIntS a.2.2.1) (by omega) (by unfold wE;omega) l2) (stp ?_)
 by_cases g2:(nIntS a.2.2.2:Int)≤left-nEdgeS a.2.1-nIntS a.2.2.1
 case neg=>
  rw [if_neg g2];try rw [if_neg (by omega)]
  exact cTW (dT (by omega)) rfl
 rw [if_pos g2]
 try rw [if_pos (by omega)]
 refine cFW (dF (by omega)) ?_
 congr 1;try omega
theorem Et_ {a:lK} (h:Nice.ok a):A5_ a:=by
 obtain ⟨h0,h1,h2,h3⟩:=h
 exact ⟨Eu_ h1,tQ h2,tQ h3⟩
theorem fS (a:lK) (h:nGraph a≤1048576):dN a=some a:=by
 unfold nGraph at h
 exact bnd (t_EdgeS a.2.1 (by omega)) (bnd (aT a.2.2.1 (by omega)) (bnd (aT a.2.2.2 (by omega)) (rfl)))
theorem e_Graph (a:lK) (h:nGraph a≤1048576):yV a a=some true:=by
 unfold nGraph at h
 exact stp (cFW (nT (dT rfl)) (bnd (e_EdgeS a.2.1 (by omega)) (stp (cFW rfl (bnd (fT a.2.2.1 (by omega)) (stp (cFW rfl (bnd (fT a.2.2.2 (by omega)) (stp (cFW rfl (rfl)))))))))))
end Go.Proofs.YtngbmcbigcaapaaGreatDoor
namespace Go.Proofs.YtngbmcbigcaapaaGreatDoor
structure GOk (g:Gra) (n:Nat):Prop where
 w:g.1=(n:Int)
 n100:n≤100
 e60:g.2.1.length≤60
 i12:g.2.2.1.length≤12
 o12:g.2.2.2.length≤12
 i:fC n g.2.2.1
 o:fC n g.2.2.2
 e:nE n g.2.1
 ar:g.2.1.all arB=true
 ti:rC g.2.1 edI≤120
 to:rC g.2.1 edO≤120
 cov:∀ k:Nat,k<n→(k:Int)∈sD g
theorem vN {g:Gra} (h:gOk g=true):∃ n,GOk g n:=by
 unfold gOk at h
 simp only [Bool.and_eq_true,decide_eq_true_eq] at h
 obtain ⟨h1,h2,h3,h4,h5,h6,h7,h8⟩:=h
 have hr:=rng_true.1 h1
 obtain ⟨n,hn⟩:∃ n:Nat,g.1=(n:Int):=⟨g.1.toNat,by omega⟩
 rw [hn] at h5 h6 h7 h8
 have h9:=B4_ (wS h7)
 refine ⟨n,hn,by omega,h2,h3,h4,sL h5,sL h6,CB_ h7,wS h7,by omega,by omega,fun k hk=>?_⟩
 rw [Int.toNat_natCast] at h8
 exact of_decide_eq_true (List.all_eq_true.1 h8 k (List.mem_range.2 hk))
end Go.Proofs.YtngbmcbigcaapaaGreatDoor
namespace Go.Proofs.YtngbmcbigcaapaaGreatDoor
def kH {α:Type} (f f0:Nat→α) (j:Nat):Nat→α:=fun k=>if k<j then f k else f0 k
theorem Fl_ {α:Type}{n:Nat} (f f0:Nat→α) (j:Nat):(mA n fun k=>if k=j then f j else kH f f0 j k)=mA n (kH f f0 (j+1)):=by
 refine gD fun k _=>?_
 unfold kH
 by_cases h:k=j
 · subst h;rw [if_pos rfl,if_pos (by omega)]
 ·
  rw [if_neg h]
  by_cases h2:k<j
  · rw [if_pos h2,if_pos (by omega)]
  · rw [if_neg h2,if_neg (by omega)]
theorem wN {α:Type}{n:Nat} (f f0:Nat→α){g:Nat→List α→Option (List α)} (hg:∀ j,j<n→g j (mA n (kH f f0 j))=some (mA n fun k=>if k=j then f j else kH f f0 j k)):jA g n 0 (mA n f0)=some (mA n f):=by
 have:=kC (f:=g) (n:=n) (fun j=>mA n (kH f f0 j)) (fun j hj=>by rw [hg j hj,Fl_])
 have e0:mA n (kH f f0 0)=mA n f0:=gD fun k _=>by unfold kH;rw [if_neg (by omega)]
 have e1:mA n (kH f f0 n)=mA n f:=gD fun k hk=>by unfold kH;rw [if_pos hk]
 rw [e0,e1] at this
 exact this
theorem upT_ {n:Nat} (h:n≤1048576):sW (n:Int)=some (mA n fun k=>(k:Int)):=by
 have hm:aB=1099511627776:=rfl
 refine bnd (wL (by omega)) ?_
 rw [oR,fE]
 exact bnd (wN (fun k=>(k:Int)) (fun _=>0) (fun j hj=>bnd (eG _ _ hj) rfl)) rfl
def mp (t:Nat→Int) (l:List Int):List Int:=l.map fun x=>t x.toNat
def mpE (t:Nat→Int) (e:Edg):Edg:=(e.1,e.2.1,mp t (edI e),mp t (edO e))
def mpG (n:Int) (t:Nat→Int) (g:Gra):Gra:=(n,g.2.1.map (mpE t),mp t g.2.2.1,mp t g.2.2.2)
theorem rS {n:Nat}{l:List Int} (t:Nat→Int) (h:fC n l) (hl:l.length≤1048576):sH l (mA n t)=some (mp t l):=by
 have hm:aB=1099511627776:=rfl
 refine bnd (mG (fun x=>t x.toNat) l [] (by simp;omega) (fun j x s' hj hs=>?_)) rfl
 have hx:=h x (dE hj)
 obtain ⟨k,rfl⟩:∃ k:Nat,x=(k:Int):=⟨x.toNat,by omega⟩
 have hjl:=(List.getElem?_eq_some_iff.1 hj).1
 refine bnd (pA hj) (bnd (pE _ (by omega)) (bnd (yB (by simp at hs ⊢;omega)) ?_))
 rfl
theorem pS {n:Nat}{l:List Int} (t:Nat→Int) (h:fC n l) (hl:l.length≤1048576):eL l (mA n t)=some (mp t l):=by
 have hm:aB=1099511627776:=rfl
 refine bnd (bnd (wW _ (by omega)) (bnd (mG (fun x=>t x.toNat) l [] (by simp;omega) (fun j x s' hj hs=>?_)) rfl)) rfl
 have hx:=h x (dE hj)
 obtain ⟨k,rfl⟩:∃ k:Nat,x=(k:Int):=⟨x.toNat,by omega⟩
 have hjl:=(List.getElem?_eq_some_iff.1 hj).1
 refine bnd (pA hj) (bnd (pE _ (by omega)) (bnd (yB (by simp at hs ⊢;omega)) ?_))
 rfl
theorem eH {E:List Edg}{e:Edg} (s:Edg→List Int) (h:e∈E):(s e).length≤rC E s:=by
 unfold rC
 induction E with
 | nil=>cases h
 | cons x E ih=>
  rw [List.map_cons,List.flatten_cons,List.length_append]
  rcases List.mem_cons.1 h with rfl | h
  · omega
  · have:=ih h;omega
structure Rgd (n:Nat) (g:Gra):Prop where
 i:fC n g.2.2.1
 o:fC n g.2.2.2
 e:nE n g.2.1
 li:g.2.2.1.length≤1000
 lo:g.2.2.2.length≤1000
 le:g.2.1.length≤1000
 ti:rC g.2.1 edI≤1000
 to:rC g.2.1 edO≤1000
theorem GOk.rgd {g:Gra}{n:Nat} (h:GOk g n):Rgd n g:=by
 have:=h.i12;have:=h.o12;have:=h.e60;have:=h.ti;have:=h.to
 exact ⟨h.i,h.o,h.e,by omega,by omega,by omega,by omega,by omega⟩
theorem hgMap_ {n:Nat}{g:Gra} (t:Nat→Int) (w:Int) (h:Rgd n g):nW g (mA n t) w=some (mpG w t g):=by
 have hm:aB=1099511627776:=rfl
 obtain ⟨w0,E,I,O⟩:=g
 obtain ⟨h1,h2,h3,h4,h5,h6,h7,h8⟩:=h
 dsimp only at h1 h2 h3 h4 h5 h6 h7 h8
 refine bnd (bnd (rS t h1 (by dsimp only;omega)) (bnd (rS t h2 (by dsimp only;omega)) rfl)) ?_
 refine bnd (mG (mpE t) E [] (by simp;omega) (fun j e s' hj hs=>?_)) rfl
 have he:=dE hj
 have hjl:=(List.getElem?_eq_some_iff.1 hj).1
 have l1:=eH edI he
 have l2:=eH edO he
 exact bnd (pA hj) (bnd (rS t (h3 e he).1 (show (edI e).length≤_ by omega)) (bnd (rS t (h3 e he).2 (show (edO e).length≤_ by omega)) (bnd (yB (by simp at hs ⊢;omega)) rfl)))
theorem moved_ {n:Nat}{g:Gra} (t:Nat→Int) (w:Int) (h:Rgd n g):dV g w (mA n t)=some (mpG w t g):=by
 have hm:aB=1099511627776:=rfl
 obtain ⟨w0,E,I,O⟩:=g
 obtain ⟨h1,h2,h3,h4,h5,h6,h7,h8⟩:=h
 dsimp only at h1 h2 h3 h4 h5 h6 h7 h8
 refine bnd (bnd (pS t h1 (by dsimp only;omega)) (bnd (pS t h2 (by dsimp only;omega)) rfl)) ?_
 refine bnd (mG (mpE t) E [] (by simp;omega) (fun j e s' hj hs=>?_)) rfl
 have he:=dE hj
 have hjl:=(List.getElem?_eq_some_iff.1 hj).1
 have l1:=eH edI he
 have l2:=eH edO he
 exact bnd (pA hj) (bnd (pS t (h3 e he).1 (show (edI e).length≤_ by omega)) (bnd (pS t (h3 e he).2 (show (edO e).length≤_ by omega)) (bnd (yB (by simp at hs ⊢;omega)) rfl)))
theorem mp_len (t:Nat→Int) (l:List Int):(mp t l).length=l.length:=by unfold mp;rw [List.length_map]
theorem yR {a b:List Int} (h:a.length+b.length≤1048576):xD [a,b]=some (a++b):=by
 have hm:aB=1099511627776:=rfl
 refine bnd (a:=a++b) ?_ rfl
 refine bnd (a:=a) (bnd (a:=a) rfl (bnd (yB (by simp;omega)) rfl)) (bnd (a:=a++b) (bnd (a:=b) rfl (bnd (yB (by omega)) rfl)) rfl)
def noG:Gra:=(0,[],[],[])
end Go.Proofs.YtngbmcbigcaapaaGreatDoor
namespace Go.Proofs.YtngbmcbigcaapaaGreatDoor
def nM (c:Nat→Nat) (u v:Nat):Nat→Nat:=fun w=>if c w=max (c u) (c v) then min (c u) (c v) else c w
structure Cls (c:Nat→Nat):Prop where
 le:∀ w,c w≤w
 idem:∀ w,c (c w)=c w
theorem Cls.join {c:Nat→Nat} (h:Cls c) (u v:Nat):Cls (nM c u v):=by
 have iu:=h.idem u;have iv:=h.idem v
 refine ⟨fun w=>?_,fun w=>?_⟩
 ·
  unfold nM
  have:=h.le w
  split <;> omega
 ·
  unfold nM
  by_cases hw:c w=max (c u) (c v)
  ·
   rw [if_pos hw]
   have hk:c (min (c u) (c v))=min (c u) (c v):=by
    rcases Nat.le_total (c u) (c v) with h1 | h1
    · rw [Nat.min_eq_left h1,iu]
    · rw [Nat.min_eq_right h1,iv]
   rw [hk]
   split <;> rfl
  · rw [if_neg hw,h.idem w,if_neg hw]
structure Forest (n:Nat) (c cls:Nat→Nat):Prop where
 le:∀ w,w<n→c w≤w
 fix:∀ w,w<n→c w=w→cls w=w
 up:∀ w,w<n→cls (c w)=cls w
def bG (n:Nat) (c:Nat→Nat):List Int:=mA n fun k=>(c k:Int)
theorem qT {n:Nat}{c cls:Nat→Nat} (h:Forest n c cls){w:Nat} (hw:w<n):xK (bG n c) (w:Int)=some (cls w:Int):=by
 obtain ⟨t,h1,rfl⟩:=E0_ (f:=fun (s126:Int)=>
   (idxO (bG n c) s126).bind fun a141=>
   (some (!decide (a141=s126))).bind fun a143=>
   cond a143
   ((idxO (bG n c) s126).bind fun a154=>
    some (.inl a154))
   (some (.inr s126))) (fun s=>∃ k:Nat,s=(k:Int)∧k<n∧cls k=cls w) (fun t=>t=(cls w:Int)) (fun s=>s.toNat) (by
  rintro s ⟨k,rfl,hk,he⟩
  have hi:idxO (bG n c) (k:Int)=some (c k:Int):=pE _ hk
  have hle:=h.le k hk
  by_cases hf:c k=k
  ·
   refine .inr ⟨(k:Int),bnd hi (stp (cFW (nT (dT (by omega))) rfl)),?_⟩
   rw [←he,h.fix k hk hf]
  · exact .inl ⟨(c k:Int),bnd hi (stp (cTW (nF (dF (by omega))) (bnd hi rfl))),⟨c k,rfl,by omega,by rw [h.up k hk,he]⟩,by omega⟩) (s:=(w:Int)) ⟨w,rfl,hw,rfl⟩
 exact bnd h1 rfl
theorem Forest.join {n:Nat}{c cls:Nat→Nat} (h:Forest n c cls) (hc:Cls cls) (u v:Nat):Forest n (fun k=>if k=max (cls u) (cls v) then min (cls u) (cls v) else c k) (nM cls u v):=by
 have iu:=hc.idem u;have iv:=hc.idem v
 have hm:cls (max (cls u) (cls v))=max (cls u) (cls v):=by
  rcases Nat.le_total (cls u) (cls v) with h1 | h1
  · rw [Nat.max_eq_right h1,iv]
  · rw [Nat.max_eq_left h1,iu]
 have hk:cls (min (cls u) (cls v))=min (cls u) (cls v):=by
  rcases Nat.le_total (cls u) (cls v) with h1 | h1
  · rw [Nat.min_eq_left h1,iu]
  · rw [Nat.min_eq_right h1,iv]
 refine ⟨fun w hw=>?_,fun w hw=>?_,fun w hw=>?_⟩
 ·
  have:=h.le w hw
  split <;> omega
 ·
  unfold nM
  intro hf
  by_cases hwm:w=max (cls u) (cls v)
  ·
   rw [if_pos hwm] at hf
   subst hwm
   rw [hm,if_pos rfl];exact hf
  ·
   rw [if_neg hwm] at hf
   have:=h.fix w hw hf
   rw [this,if_neg hwm]
 ·
  unfold nM
  by_cases hwm:w=max (cls u) (cls v)
  ·
   rw [if_pos hwm,hwm,hm,if_pos rfl,hk]
   split <;> rfl
  · rw [if_neg hwm,h.up w hw]
theorem FF_ (a b:Nat):mM (a:Int) (b:Int)=((max a b:Nat):Int):=by unfold mM;split <;> omega
theorem FE_ (a b:Nat):lM (a:Int) (b:Int)=((min a b:Nat):Int):=by unfold lM;split <;> omega
theorem join_ {n:Nat}{c cls:Nat→Nat} (h:Forest n c cls) (hc:Cls cls){u v:Nat} (hu:u<n) (hv:v<n):yK (bG n c) (u:Int) (v:Int)=some (bG n fun k=>if k=max (cls u) (cls v) then min (cls u) (cls v) else c k):=by
 have l1:=hc.le u;have l2:=hc.le v
 refine bnd (qT h hu) (bnd (qT h hv) (stp (stp ?_)))
 rw [FF_,FE_]
 refine bnd (eG _ _ (by omega)) (congrArg some (gD fun k _=>?_))
 show _=((if k=max (cls u) (cls v) then min (cls u) (cls v) else c k:Nat):Int)
 split <;> rfl
end Go.Proofs.YtngbmcbigcaapaaGreatDoor
namespace Go.Proofs.YtngbmcbigcaapaaGreatDoor
theorem AG_ {n:Nat} (L:List Int) (hL:fC n L) (hn:L.Nodup):∀ k,k≤L.length→seenN n (L.take k)=k
 | 0,_=>by unfold seenN;simp
 | k+1,hk=>by
  have ih:=AG_ L hL hn k (by omega)
  have e:L.take (k+1)=L.take k++[L[k]]:=by rw [List.take_add_one,List.getElem?_eq_getElem (by omega)];rfl
  have hr:=hL _ (List.getElem_mem (show k<L.length by omega))
  obtain ⟨m,hm⟩:∃ m:Nat,L[k]=(m:Int):=⟨L[k].toNat,by omega⟩
  have hnot:¬(m:Int)∈L.take k:=by
   rw [←hm]
   intro h
   obtain ⟨j,hj,he⟩:=List.mem_iff_getElem.1 h
   have hj':j<k:=by rw [List.length_take] at hj;omega
   rw [List.getElem_take] at he
   have:=(List.getElem_inj hn).1 he
   omega
  have:=(AY_ n (L.take k) m (by omega) hnot).1
  rw [e,hm,this,ih]
theorem yQ {n:Nat}{L:List Int} (hL:fC n L) (hn:L.Nodup):seenN n L=L.length:=by
 have:=AG_ L hL hn L.length (Nat.le_refl _)
 rwa [List.take_length] at this
theorem seenN_full {n:Nat}{L:List Int}:seenN n L=n↔∀ k:Nat,k<n→(k:Int)∈L:=by
 have:seenN n L=(List.range n).length↔_:=List.countP_eq_length
 rw [List.length_range] at this
 rw [this]
 constructor
 · intro h k hk;exact of_decide_eq_true (h k (List.mem_range.2 hk))
 · intro h k hk;exact decide_eq_true (h k (List.mem_range.1 hk))
def kE (n:Nat) (L:List Int):Bool:=wOk n L&&decide L.Nodup
theorem nodup_snoc {L:List Int}{x:Int}:(L++[x]).Nodup↔L.Nodup∧¬x∈L:=by
 rw [List.nodup_append]
 constructor
 · rintro ⟨h1,_,h3⟩;exact ⟨h1,fun h=>h3 x h x (by simp) rfl⟩
 · rintro ⟨h1,h2⟩;exact ⟨h1,by simp,fun a ha b hb=>by rw [List.mem_singleton.1 hb];rintro rfl;exact h2 ha⟩
theorem Fa_ {n:Nat}{L:List Int}{j:Nat} (hj:j<L.length):kE n (L.take (j+1))=(kE n (L.take j)&&(rng L[j] 0 ((n:Int)-1)&&!decide (L[j]∈L.take j))):=by
 have e:L.take (j+1)=L.take j++[L[j]]:=by rw [List.take_add_one,List.getElem?_eq_getElem hj];rfl
 unfold kE
 rw [e,all_app,decide_eq_decide.2 nodup_snoc,Bool.decide_and]
 have:wOk n [L[j]]=rng L[j] 0 ((n:Int)-1):=by unfold wOk;simp
 rw [this,decide_not]
 cases wOk n (L.take j) <;> cases rng L[j] 0 ((n:Int)-1) <;> cases decide (L.take j).Nodup <;> cases decide (L[j]∈L.take j) <;> rfl
theorem Fb_ {n:Nat}{L:List Int}{j:Nat} (h:kE n (L.take j)=false):kE n L=false:=by
 cases hd:kE n L with
 | false=>rfl
 | true=>
  unfold kE at h hd
  simp only [Bool.and_eq_true,decide_eq_true_eq] at hd
  have h1:wOk n (L.take j)=true:=List.all_eq_true.2 fun x hx=>List.all_eq_true.1 hd.1 x (List.mem_of_mem_take hx)
  have h2:(L.take j).Nodup:=hd.2.sublist (List.take_sublist _ _)
  rw [h1,decide_eq_true h2] at h;cases h
theorem FT_ {n:Nat} (hn:n≤1099511627776) (L:List Int):(kE n L=true∧∃ s,uC (fun (k10:Nat) (s137:List Bool)=>
    (idxO L ((k10:Nat):Int)).bind fun a152=>
    ((subO (n:Int) 1).bind fun a177=>
     (yE a152 0 a177).bind fun y179=>
     (some (!y179)).bind fun a182=>
     cond a182
     (some true)
     ((idxO s137 a152).bind fun a191=>
      some a191)).bind fun (s171:Bool)=>
    cond s171
    (some (.inr false))
    ((iA s137 a152 true).bind fun a203=>
     some (.inl a203))) L.length 0 (mA n fun _=>false)=some (.inl s))∨(kE n L=false∧uC (fun (k10:Nat) (s137:List Bool)=>
    (idxO L ((k10:Nat):Int)).bind fun a152=>
    ((subO (n:Int) 1).bind fun a177=>
     (yE a152 0 a177).bind fun y179=>
     (some (!y179)).bind fun a182=>
     cond a182
     (some true)
     ((idxO s137 a152).bind fun a191=>
      some a191)).bind fun (s171:Bool)=>
    cond s171
    (some (.inr false))
    ((iA s137 a152 true).bind fun a203=>
     some (.inl a203))) L.length 0 (mA n fun _=>false)=some (.inr false)):=by
 rcases Gk_ (n:=L.length) (s:=mA n fun _=>false) (f:=fun (k10:Nat) (s137:List Bool)=>
    (idxO L ((k10:Nat):Int)).bind fun a152=>
    ((subO (n:Int) 1).bind fun a177=>
     (yE a152 0 a177).bind fun y179=>
     (some (!y179)).bind fun a182=>
     cond a182
     (some true)
     ((idxO s137 a152).bind fun a191=>
      some a191)).bind fun (s171:Bool)=>
    cond s171
    (some (.inr false))
    ((iA s137 a152 true).bind fun a203=>
     some (.inl a203))) (fun j s=>s.length=n∧(∀ y,M s y↔y∈L.take j)∧kE n (L.take j)=true) (fun t=>t=false∧kE n L=false)
   ⟨fE _ _,fun y=>⟨fun h=>(M_none n y h).elim,fun h=>by simp at h⟩,rfl⟩ (fun j s hj ⟨h1,h2,h3⟩=>by
  have hstep:=Fa_ (n:=n) hj
  rw [h3,Bool.true_and] at hstep
  have hpre:∀ {β:Type} {k:Bool→Option β} {y:Option β} (b:Bool),b=!(rng L[j] 0 ((n:Int)-1)&&!decide (L[j]∈L.take j))→k b=y→(((subO (n:Int) 1).bind fun a177=>
     (yE L[j] 0 a177).bind fun y179=>
     (some (!y179)).bind fun a182=>
     cond a182
     (some true)
     ((idxO s L[j]).bind fun a191=>
      some a191)).bind k)=y:=by
   intro β k y b hb hk
   refine bnd (a:=b) ?_ hk
   rw [hb]
   refine bnd (gE (by omega) (by omega)) (bnd (lF _ _ _) (stp ?_))
   cases hr:rng L[j] 0 ((n:Int)-1) with
   | false=>rfl
   | true=>
    have:=rng_true.1 hr
    refine cFW rfl (bnd (M_idx (by omega) (by omega)) ?_)
    rw [decide_eq_decide.2 (h2 L[j])]
    cases decide (L[j]∈L.take j) <;> rfl
  cases hc:(rng L[j] 0 ((n:Int)-1)&&!decide (L[j]∈L.take j)) with
  | false=>
   rw [hc] at hstep
   exact .inr ⟨false,bnd (pA (List.getElem?_eq_getElem hj)) (hpre true (by rw [hc];rfl) rfl),rfl,Fb_ hstep⟩
  | true=>
   rw [hc] at hstep
   simp only [Bool.and_eq_true] at hc
   have hr:=rng_true.1 hc.1
   have hs:=M_set (s:=s) (x:=L[j]) (by omega) (by omega)
   refine .inl ⟨_,bnd (pA (List.getElem?_eq_getElem hj)) (hpre false (by rw [hc.1,hc.2];rfl) (bnd hs.1 rfl)),by rw [List.length_set];exact h1,fun y=>?_,hstep⟩
   rw [hs.2 y,h2 y,List.take_add_one,List.getElem?_eq_getElem hj,List.mem_append]
   simp) with ⟨s,h1,_,_,h2⟩ | ⟨t,h1,rfl,h2⟩
 · rw [List.take_length] at h2;exact .inl ⟨h2,s,h1⟩
 · exact .inr ⟨h2,h1⟩
theorem Ac_ {n:Nat} (hn:n≤1099511627776) (L:List Int):qU L (n:Int)=some (decide (L.length=n)&&kE n L):=by
 refine stp ?_
 by_cases h:L.length=n
 ·
  refine cFW (nT (dT (by omega))) (bnd (yJ _ (by unfold aB;omega)) ?_)
  rw [dT h,Bool.true_and]
  rcases FT_ hn L with ⟨h1,s,h2⟩ | ⟨h1,h2⟩
  · rw [h1];exact sqW h2 rfl
  · rw [h1];exact sqW h2 rfl
 · rw [dF h];exact cTW (nF (dF (by omega))) rfl
def oG (g:Gra):List Int:=g.2.2.1++(g.2.1.map edO).flatten
def ends (g:Gra):List Int:=g.2.2.2++(g.2.1.map edI).flatten
def tT (g:Gra):Bool:=gOk g&&((decide ((oG g).length=g.1.toNat)&&kE g.1.toNat (oG g))&&(decide ((ends g).length=g.1.toNat)&&kE g.1.toNat (ends g)))
theorem vH {n:Nat}{a b:List Int} (ha:fC n a) (hb:fC n b):fC n (a++b):=by
 intro x hx
 rcases List.mem_append.1 hx with h | h
 · exact ha x h
 · exact hb x h
theorem zL {n:Nat}{l:List Int} (h:fC n l):wOk n l=true:=List.all_eq_true.2 fun x hx=>rng_true.2 (by have:=h x hx;omega)
theorem BE_ {L:List (List Int)} (h:L.flatten.length≤1099511627776):xD L=some L.flatten:=by
 have:=kC (n:=L.length) (fun j=>(L.take j).flatten) (f:=fun (k5:Nat) (s41:List Int)=>
   (idxO L ((k5:Nat):Int)).bind fun a57=>
   (xA s41 a57).bind fun a61=>
   some a61) (fun j hj=>by
  have e:(L.take (j+1)).flatten=(L.take j).flatten++L[j]:=by
   rw [List.take_add_one,List.getElem?_eq_getElem hj,List.flatten_append]
   simp only [Option.toList_some,List.flatten_cons,List.flatten_nil,List.append_nil]
  have hle:(L.take (j+1)).flatten.length≤L.flatten.length:=by
   have:L=L.take (j+1)++L.drop (j+1):=(List.take_append_drop _ _).symm
   conv=>rhs;rw [this]
   rw [List.flatten_append,List.length_append];omega
  rw [e,List.length_append] at hle
  rw [e]
  exact bnd (pA (List.getElem?_eq_getElem hj)) (bnd (yB (by unfold aB;omega)) rfl))
 rw [List.take_length] at this
 exact bnd this rfl
theorem BF_ (g:Gra):cU g=some (tT g):=by
 have hm:aB=1099511627776:=rfl
 unfold tT
 cases hg:gOk g with
 | false=>refine bnd (zR g) ?_;rw [hg];rfl
 | true=>
  obtain ⟨n,h⟩:=vN hg
  obtain ⟨w,E,I,O⟩:=g
  obtain rfl:w=(n:Int):=h.w
  have ti:=h.ti;have to:=h.to;have i12:=h.i12;have o12:=h.o12;have n100:=h.n100;have e60:=h.e60
  dsimp only at ti to i12 o12 e60
  rw [Bool.true_and]
  refine bnd (zR _) ?_
  rw [hg]
  refine stp (cFW rfl (stp ?_))
  have loop:=kC (n:=E.length) (fun j=>(I::(E.take j).map edO,O::(E.take j).map edI)) (f:=fun (k73:Nat) (s152:List (List Int)×List (List Int))=>
    (idxO E ((k73:Nat):Int)).bind fun a169=>
    (xA s152.1 [a169.2.2.2]).bind fun a185=>
    (xA s152.2 [a169.2.2.1]).bind fun a194=>
    some (a185,a194)) (fun j hj=>by
   have e:∀ s:Edg→List Int,(E.take (j+1)).map s=(E.take j).map s++[s E[j]]:=fun s=>by rw [List.take_add_one,List.getElem?_eq_getElem hj,List.map_append];rfl
   refine bnd (pA (List.getElem?_eq_getElem hj)) (bnd (yB ?_) (bnd (yB ?_) ?_))
   · simp;omega
   · simp;omega
   · rw [e,e];rfl)
  rw [List.take_length] at loop
  refine bnd loop ?_
  have f1:(I::E.map edO).flatten=oG ((n:Int),E,I,O):=by unfold oG;rw [List.flatten_cons]
  have f2:(O::E.map edI).flatten=ends ((n:Int),E,I,O):=by unfold ends;rw [List.flatten_cons]
  have l1:(oG ((n:Int),E,I,O)).length≤1099511627776:=by
   unfold oG;rw [List.length_append]
   have:(E.map edO).flatten.length=rC E edO:=rfl
   dsimp only;omega
  have l2:(ends ((n:Int),E,I,O)).length≤1099511627776:=by
   unfold ends;rw [List.length_append]
   have:(E.map edI).flatten.length=rC E edI:=rfl
   dsimp only;omega
  rw [Int.toNat_natCast]
  refine bnd (bnd (bnd (BE_ (by rw [f1];exact l1)) (bnd (Ac_ (by omega) _) rfl)) ?_) rfl
  rw [f1]
  cases (decide ((oG ((n:Int),E,I,O)).length=n)&&kE n (oG ((n:Int),E,I,O))) with
  | false=>rfl
  | true=>
   refine cTW rfl (bnd (bnd (BE_ (by rw [f2];exact l2)) (bnd (Ac_ (by omega) _) rfl)) ?_)
   rw [f2];rfl
end Go.Proofs.YtngbmcbigcaapaaGreatDoor
namespace Go.Proofs.YtngbmcbigcaapaaGreatDoor
set_option linter.unusedVariables false
def plcF:List Int→Nat→Int→Int
 | [],_,_=>-1
 | a::l,i,x=>if a=x then (i:Int) else plcF l (i+1) x
def plc (l:List Int) (x:Int):Int:=plcF l 0 x
theorem Bu_:∀ {l:List Int}{i:Nat}{x:Int},x∈l→(i:Int)≤plcF l i x∧plcF l i x<(i:Int)+l.length
 | a::l,i,x,h=>by
  unfold plcF
  by_cases ha:a=x
  · rw [if_pos ha,List.length_cons];omega
  ·
   rw [if_neg ha]
   have:=Bu_ (i:=i+1) ((List.mem_cons.1 h).resolve_left fun e=>ha e.symm)
   rw [List.length_cons];omega
theorem Bt_:∀ {l:List Int}{i:Nat}{x:Int},¬x∈l→plcF l i x = -1
 | [],_,_,_=>rfl
 | a::l,i,x,h=>by
  rw [List.mem_cons,not_or] at h
  unfold plcF
  rw [if_neg (fun e=>h.1 e.symm)]
  exact Bt_ h.2
theorem A2_:∀ {l:List Int}{i:Nat}{x y:Int},¬x∈l→plcF (l++[x]) i y=if y=x then ((i+l.length:Nat):Int) else plcF l i y
 | [],i,x,y,_=>by
  show (if x=y then (i:Int) else -1)=_
  by_cases h:y=x
  · rw [if_pos h.symm,if_pos h];rfl
  · rw [if_neg (fun e=>h e.symm),if_neg h];rfl
 | a::l,i,x,y,h=>by
  rw [List.mem_cons,not_or] at h
  show (if a=y then (i:Int) else plcF (l++[x]) (i+1) y)=if y=x then _ else if a=y then (i:Int) else plcF l (i+1) y
  rw [A2_ h.2]
  by_cases hy:y=x
  ·
   rw [if_neg (fun e=>h.1 (hy.symm.trans e.symm)),if_pos hy,if_pos hy,List.length_cons]
   congr 1;omega
  · rw [if_neg hy,if_neg hy]
theorem mO {l:List Int}{x:Int} (h:x∈l):0≤plc l x∧plc l x<l.length:=by
 have:=Bu_ (i:=0) h
 unfold plc;omega
theorem Ce_ {l:List Int}{x:Int} (h:¬x∈l):plc l x = -1:=Bt_ h
theorem Bs_ {l:List Int}{x y:Int} (h:¬x∈l):plc (l++[x]) y=if y=x then ((l.length:Nat):Int) else plc l y:=by
 unfold plc
 rw [A2_ h,Nat.zero_add]
theorem plc_neg {l:List Int}{x:Int}:plc l x<0↔¬x∈l:=by
 constructor
 · intro h hx;have:=mO hx;omega
 · intro h;rw [Ce_ h];omega
def giv1 (o:List Int) (w:Int):List Int:=if w∈o then o else o++[w]
def giv (o l:List Int):List Int:=l.foldl giv1 o
structure Od (n:Nat) (o:List Int):Prop where
 r:fC n o
 d:o.Nodup
theorem Od.le {n:Nat}{o:List Int} (h:Od n o):o.length≤n:=by
 rw [←yQ h.r h.d];exact Bq_ _ _
theorem Od.giv1 {n:Nat}{o:List Int}{w:Int} (h:Od n o) (hw:0≤w∧w<(n:Int)):Od n (giv1 o w):=by
 unfold Go.Proofs.YtngbmcbigcaapaaGreatDoor.giv1
 split
 · exact h
 · exact ⟨vH h.r (fun x hx=>by simp at hx;subst hx;exact hw),nodup_snoc.2 ⟨h.d,‹_›⟩⟩
theorem Od.giv {n:Nat}:∀ {l:List Int}{o:List Int},Od n o→fC n l→Od n (giv o l)
 | [],_,h,_=>h
 | w::l,o,h,hl=>Od.giv (l:=l) (h.giv1 (hl w (.head _))) (fun x hx=>hl x (.tail _ hx))
theorem giv1_mem {o:List Int}{w x:Int}:x∈giv1 o w↔x∈o∨x=w:=by
 unfold giv1
 split
 ·
  constructor
  · exact .inl
  ·
   rintro (h | rfl)
   · exact h
   · assumption
 · simp
theorem giv_mem:∀ {l o:List Int}{x:Int},x∈giv o l↔x∈o∨x∈l
 | [],o,x=>by simp [giv]
 | w::l,o,x=>by
  show x∈giv (giv1 o w) l↔_
  rw [giv_mem,giv1_mem,List.mem_cons,or_assoc]
theorem tS (o a b:List Int):giv o (a++b)=giv (giv o a) b:=List.foldl_append
theorem Gi_ (o:List Int) (w:Int):∃ r,giv1 o w=o++r:=by
 unfold giv1
 split
 · exact ⟨[],by simp⟩
 · exact ⟨[w],rfl⟩
theorem iY:∀ (l o:List Int),∃ r,giv o l=o++r
 | [],o=>⟨[],by simp [giv]⟩
 | w::l,o=>by
  obtain ⟨r,h⟩:=Gi_ o w
  obtain ⟨r',h'⟩:=iY l (giv1 o w)
  exact ⟨r++r',by show giv (giv1 o w) l=_;rw [h',h,List.append_assoc]⟩
theorem xS {n:Nat} (hn:n≤1000){o l:List Int} (ho:Od n o) (hl:fC n l):xG (mA n fun k=>plc o k) o l=some (mA n (fun k=>plc (giv o l) k),giv o l):=by
 have hm:aB=1099511627776:=rfl
 have key:=kC (n:=l.length) (fun j=>((mA n fun k=>plc (giv o (l.take j)) k),giv o (l.take j))) (f:=fun (k4:Nat) (s84:List Int×List Int)=>
   (idxO l ((k4:Nat):Int)).bind fun a100=>
   (idxO s84.1 a100).bind fun a108=>
   (some (decide (a108<0))).bind fun a110=>
   cond a110
   ((iA s84.1 a100 ((s84.2.length:Nat):Int)).bind fun a120=>
    (xA s84.2 [a100]).bind fun a126=>
    some (a120,a126))
   (some (s84.1,s84.2))) (fun j hj=>by
  have hOd:Od n (giv o (l.take j)):=ho.giv (fun x hx=>hl x (List.mem_of_mem_take hx))
  have hle:=hOd.le
  have hr:=hl _ (List.getElem_mem hj)
  have hs:giv o (l.take (j+1))=giv1 (giv o (l.take j)) l[j]:=by
   rw [List.take_add_one,List.getElem?_eq_getElem hj]
   exact tS _ _ _
  obtain ⟨m,hme⟩:∃ m:Nat,l[j]=(m:Int):=⟨l[j].toNat,by omega⟩
  rw [hs]
  refine bnd (pA (List.getElem?_eq_getElem hj)) ?_
  rw [hme]
  refine bnd (pE _ (by omega)) (stp ?_)
  unfold giv1
  by_cases hin:(m:Int)∈giv o (l.take j)
  ·
   rw [if_pos hin]
   exact cFW (dF (fun h=>plc_neg.1 h hin)) rfl
  ·
   rw [if_neg hin]
   refine cTW (dT (plc_neg.2 hin)) (bnd (eG _ _ (by omega)) (bnd (yB (by simp;omega)) (congrArg some (Prod.ext (gD fun k hk=>?_) rfl))))
   rw [Bs_ hin]
   by_cases hkm:k=m
   · rw [if_pos hkm,if_pos (by omega)]
   · rw [if_neg hkm,if_neg (by omega)])
 rw [List.take_length] at key
 exact bnd key rfl
theorem CF_ {n:Nat} (hn:n≤1000):oQ (n:Int)=some (mA n fun _=>(-1:Int)):=by
 have hm:aB=1099511627776:=rfl
 refine bnd (yJ _ (by omega)) ?_
 rw [fE]
 exact bnd (wN (fun _=>(-1:Int)) (fun _=>0) (fun j hj=>bnd (eG _ _ hj) rfl)) rfl
theorem eR {n:Nat} (hn:n≤1000) (a:Int):cL a (n:Int)=some (mA n fun _=>a):=by
 have hm:aB=1099511627776:=rfl
 refine bnd (wL (by omega)) ?_
 rw [oR,fE]
 exact bnd (wN (fun _=>a) (fun _=>0) (fun j hj=>bnd (eG _ _ hj) rfl)) rfl
def whrF (s:Edg→List Int):List Edg→Nat→Int→Int→Int
 | [],_,_,a=>a
 | e::E,i,x,a=>whrF s E (i+1) x (if x∈s e then (i:Int) else a)
def whr (s:Edg→List Int) (E:List Edg) (x:Int):Int:=whrF s E 0 x (-1)
theorem whrF_snoc {s:Edg→List Int}:∀ {E:List Edg}{i:Nat}{x a:Int}{e:Edg},whrF s (E++[e]) i x a=if x∈s e then ((i+E.length:Nat):Int) else whrF s E i x a
 | [],i,x,a,e=>rfl
 | d::E,i,x,a,e=>by
  show whrF s (E++[e]) (i+1) x (if x∈s d then (i:Int) else a)=if x∈s e then _ else whrF s E (i+1) x (if x∈s d then (i:Int) else a)
  rw [whrF_snoc,List.length_cons]
  congr 2;omega
theorem xN {s:Edg→List Int}{E:List Edg}{j:Nat} (hj:j<E.length) (x:Int):whr s (E.take (j+1)) x=if x∈s E[j] then (j:Int) else whr s (E.take j) x:=by
 rw [List.take_add_one,List.getElem?_eq_getElem hj]
 unfold whr
 rw [show (some E[j]).toList=[E[j]] from rfl,whrF_snoc,List.length_take,Nat.min_eq_left (by omega),Nat.zero_add]
theorem B1_ (s:Edg→List Int) (E:List Edg) (x:Int):(whr s E x = -1∧∀ e∈E,¬x∈s e)∨∃ i,∃ h:i<E.length,whr s E x=(i:Int)∧x∈s E[i]:=by
 have key:∀ j,j≤E.length→(whr s (E.take j) x = -1∧∀ e∈E.take j,¬x∈s e)∨∃ i,∃ h:i<E.length,whr s (E.take j) x=(i:Int)∧x∈s E[i]:=by
  intro j
  induction j with
  | zero=>intro _;exact .inl ⟨rfl,fun e he=>by simp at he⟩
  | succ j ih=>
   intro hj
   rw [xN (by omega)]
   by_cases h:x∈s E[j]
   · rw [if_pos h];exact .inr ⟨j,by omega,rfl,h⟩
   ·
    rw [if_neg h]
    rcases ih (by omega) with ⟨h1,h2⟩ | h1
    ·
     refine .inl ⟨h1,fun e he=>?_⟩
     rw [List.take_add_one,List.getElem?_eq_getElem (by omega)] at he
     rcases List.mem_append.1 he with he | he
     · exact h2 e he
     · simp at he;subst he;exact h
    · exact .inr h1
 have:=key E.length (Nat.le_refl _)
 rwa [List.take_length] at this
theorem dR {n:Nat} (l:List Int) (v:Int) (f:Nat→Int) (hl:fC n l){g:Nat→List Int→Option (List Int)} (hg:∀ k s,g k s=((idxO l ((k:Nat):Int)).bind fun a=>(iA s a v).bind fun b=>some b)) :
  jA g l.length 0 (mA n f)=some (mA n fun k=>if (k:Int)∈l then v else f k):=by
 have key:=kC (f:=g) (n:=l.length) (fun j=>mA n fun k=>if (k:Int)∈l.take j then v else f k) (fun j hj=>by
  rw [hg]
  have hr:=hl _ (List.getElem_mem hj)
  obtain ⟨m,hme⟩:∃ m:Nat,l[j]=(m:Int):=⟨l[j].toNat,by omega⟩
  refine bnd (pA (List.getElem?_eq_getElem hj)) ?_
  rw [hme]
  refine bnd (eG _ _ (by omega)) (congrArg some (gD fun k hk=>?_))
  rw [List.take_add_one,List.getElem?_eq_getElem hj,hme]
  by_cases h:k=m
  · subst h;rw [if_pos rfl,if_pos (by simp)]
  ·
   rw [if_neg h]
   have:¬(k:Int)=(m:Int):=by omega
   simp [this])
 rw [List.take_length] at key
 have e0:(mA n fun k=>if (k:Int)∈l.take 0 then v else f k)=mA n f:=gD fun k hk=>by simp
 rw [e0] at key
 exact key
theorem E4_ {n:Nat} (hn:n≤1000){E:List Edg}{I O:List Int} (hE:nE n E):mV ((n:Int),E,I,O)=some (mA n fun k=>whr edO E k):=by
 have hm:aB=1099511627776:=rfl
 refine bnd (yJ _ (by omega)) ?_
 rw [fE]
 refine bnd (wN (fun _=>(-1:Int)) (fun _=>0) (fun j hj=>bnd (eG _ _ hj) rfl)) ?_
 have key:=kC (n:=E.length) (fun j=>mA n fun k=>whr edO (E.take j) k) (f:=fun (k57:Nat) (s236:List Int)=>
   (idxO E ((k57:Nat):Int)).bind fun a251=>
   (jA (fun (k263:Nat) (s302:List Int)=>
     (idxO a251.2.2.2 ((k263:Nat):Int)).bind fun a317=>
     (iA s302 a317 ((k57:Nat):Int)).bind fun a325=>
     some a325) a251.2.2.2.length 0 s236).bind fun (s330:List Int)=>
   some s330) (fun j hj=>by
  refine bnd (pA (List.getElem?_eq_getElem hj)) (bnd (dR (edO E[j]) _ _ (hE _ (List.getElem_mem hj)).2 (fun _ _=>rfl)) (congrArg some (gD fun k hk=>?_)))
  rw [xN hj])
 rw [List.take_length] at key
 exact bnd key rfl
theorem mtEnds_ {n:Nat} (hn:n≤1000){E:List Edg}{I O:List Int} (hE:nE n E):cW ((n:Int),E,I,O)=some (mA n fun k=>whr edI E k):=by
 have hm:aB=1099511627776:=rfl
 refine bnd (yJ _ (by omega)) ?_
 rw [fE]
 refine bnd (wN (fun _=>(-1:Int)) (fun _=>0) (fun j hj=>bnd (eG _ _ hj) rfl)) ?_
 have key:=kC (n:=E.length) (fun j=>mA n fun k=>whr edI (E.take j) k) (f:=fun (k57:Nat) (s236:List Int)=>
   (idxO E ((k57:Nat):Int)).bind fun a251=>
   (jA (fun (k263:Nat) (s302:List Int)=>
     (idxO a251.2.2.1 ((k263:Nat):Int)).bind fun a317=>
     (iA s302 a317 ((k57:Nat):Int)).bind fun a325=>
     some a325) a251.2.2.1.length 0 s236).bind fun (s330:List Int)=>
   some s330) (fun j hj=>by
  refine bnd (pA (List.getElem?_eq_getElem hj)) (bnd (dR (edI E[j]) _ _ (hE _ (List.getElem_mem hj)).1 (fun _ _=>rfl)) (congrArg some (gD fun k hk=>?_)))
  rw [xN hj])
 rw [List.take_length] at key
 exact bnd key rfl
theorem gends_ {n:Nat} (hn:n≤1000){E:List Edg}{I O:List Int} (hE:nE n E):lV ((n:Int),E,I,O)=some (mA n (fun k=>whr edO E k),mA n (fun k=>whr edI E k)):=by
 refine bnd (bnd (eR hn _) (bnd (eR hn _) rfl)) ?_
 have key:=kC (n:=E.length) (fun j=>(mA n (fun k=>whr edO (E.take j) k),mA n (fun k=>whr edI (E.take j) k))) (f:=fun (k159:Nat) (s476:List Int×List Int)=>
   (idxO E ((k159:Nat):Int)).bind fun a491=>
   (jA (fun (k503:Nat) (s542:List Int)=>
     (idxO a491.2.2.2 ((k503:Nat):Int)).bind fun a557=>
     (iA s542 a557 ((k159:Nat):Int)).bind fun a565=>
     some a565) a491.2.2.2.length 0 s476.1).bind fun (s570:List Int)=>
   (jA (fun (k572:Nat) (s611:List Int)=>
     (idxO a491.2.2.1 ((k572:Nat):Int)).bind fun a626=>
     (iA s611 a626 ((k159:Nat):Int)).bind fun a634=>
     some a634) a491.2.2.1.length 0 s476.2).bind fun (s639:List Int)=>
   some (s570,s639)) (fun j hj=>by
  have he:=hE _ (List.getElem_mem hj)
  refine bnd (pA (List.getElem?_eq_getElem hj)) (bnd (dR (edO E[j]) _ _ he.2 (fun _ _=>rfl)) (bnd (dR (edI E[j]) _ _ he.1 (fun _ _=>rfl)) (congrArg some (Prod.ext (gD fun k hk=>?_) (gD fun k hk=>?_)))))
  · rw [xN hj]
  · rw [xN hj])
 rw [List.take_length] at key
 exact bnd key rfl
abbrev WS:=List Int×List Int
def stE (E:List Edg) (s:WS) (e:Int):WS:=if e<0∨e∈s.2 then s else match E[e.toNat]? with
 | some x=>(giv s.1 (edI x++edO x),s.2++[e])
 | none=>s
def stW (E:List Edg) (s:WS) (w:Int):WS:=stE E (stE E s (whr edI E w)) (whr edO E w)
def wlk (E:List Edg) (s0:WS):Nat→WS
 | 0=>s0
 | k+1=>match (wlk E s0 k).1[k]? with
  | some w=>stW E (wlk E s0 k) w
  | none=>wlk E s0 k
structure Ws (n m:Nat) (s:WS):Prop where
 o:Od n s.1
 e:Od m s.2
theorem vO {n:Nat}{E:List Edg} (hE:nE n E){s:WS} (h:Ws n E.length s){e:Int} (he:e = -1∨0≤e∧e<(E.length:Int)):Ws n E.length (stE E s e):=by
 unfold stE
 split
 · exact h
 ·
  rename_i hn
  rw [not_or] at hn
  split
  ·
   rename_i x hx
   have hm:=List.mem_of_getElem? hx
   exact ⟨h.o.giv (vH (hE x hm).1 (hE x hm).2),⟨vH h.e.r (fun y hy=>by simp at hy;subst hy;omega),nodup_snoc.2 ⟨h.e.d,hn.2⟩⟩⟩
  · exact h
theorem qG (s:Edg→List Int) (E:List Edg) (x:Int):whr s E x = -1∨0≤whr s E x∧whr s E x<(E.length:Int):=by
 rcases B1_ s E x with ⟨h,_⟩ | ⟨i,hi,h,_⟩
 · exact .inl h
 · exact .inr (by omega)
theorem stW_ok {n:Nat}{E:List Edg} (hE:nE n E){s:WS} (h:Ws n E.length s) (w:Int):Ws n E.length (stW E s w):=vO hE (vO hE h (qG _ _ _)) (qG _ _ _)
theorem xL {n:Nat}{E:List Edg} (hE:nE n E){s:WS} (h:Ws n E.length s):∀ k,Ws n E.length (wlk E s k)
 | 0=>h
 | k+1=>by
  show Ws n E.length (match (wlk E s k).1[k]? with
   | some w=>stW E (wlk E s k) w
   | none=>wlk E s k)
  split
  · exact stW_ok hE (xL hE h k) _
  · exact xL hE h k
theorem bJ (E:List Edg) (s:WS) (e:Int):∃ r,(stE E s e).1=s.1++r:=by
 unfold stE
 split
 · exact ⟨[],by simp⟩
 ·
  split
  · exact iY _ _
  · exact ⟨[],by simp⟩
theorem B8_ (E:List Edg) (s:WS) (w:Int):s.1.length≤(stW E s w).1.length:=by
 obtain ⟨r,h⟩:=bJ E s (whr edI E w)
 obtain ⟨r',h'⟩:=bJ E (stE E s (whr edI E w)) (whr edO E w)
 unfold stW
 rw [h',h];simp
theorem Bf_ {E:List Edg}{s:WS}{k:Nat} (h:(wlk E s k).1.length≤k):∀ d,wlk E s (k+d)=wlk E s k
 | 0=>rfl
 | d+1=>by
  have ih:=Bf_ h d
  show (match (wlk E s (k+d)).1[k+d]? with
   | some w=>stW E (wlk E s (k+d)) w
   | none=>wlk E s (k+d))=_
  rw [ih,List.getElem?_eq_none (by omega)]
theorem BX_ {n:Nat}{E:List Edg} (hE:nE n E){s:WS} (h:Ws n E.length s){k:Nat} (hk:(wlk E s k).1.length≤k) (hkn:k≤n):wlk E s n=wlk E s k:=by
 have:=Bf_ hk (n-k)
 rwa [show k+(n-k)=n by omega] at this
theorem BI_ {σ:Type}{f:Nat→σ→Option σ}{n k:Nat}{s s':σ} (h:f k s=some s'):jA f (n+1) k s=jA f n (k+1) s':=by
 show (f k s).bind _=_
 rw [h];rfl
theorem cnWalk_ {n:Nat} (hn:n≤1000){E:List Edg}{I O:List Int} (hE:nE n E) (hm:E.length≤1000){s:WS} (hs:Ws n E.length s) :
  dW ((n:Int),E,I,O) (mA n fun k=>plc s.1 k) (mA E.length fun k=>plc s.2 k) s.1 ((s.2.length:Nat):Int) =
   some (mA n (fun k=>plc (wlk E s n).1 k),mA E.length (fun k=>plc (wlk E s n).2 k),(((wlk E s n).2.length:Nat):Int),(wlk E s n).1):=by
 refine bnd (E4_ hn hE) (bnd (mtEnds_ hn hE) ?_)
 have edge:∀ (t:WS) (e:Int),Ws n E.length t→(e = -1∨0≤e∧e<(E.length:Int))→∀ l:List Int,∀ k:Nat,idxO l (k:Int)=some e →
   (((idxO l ((k:Nat):Int)).bind fun a3922=>
       ((some (decide (a3922<0))).bind fun a3944=>
        cond a3944
        (some true)
        ((idxO (mA E.length fun k=>plc t.2 k) a3922).bind fun a3953=>
         (some (decide ((0:Int)≤a3953))).bind fun a3955=>
         some a3955)).bind fun (s3938:Bool)=>
       cond s3938
       (some ((mA n fun k=>plc t.1 k),(mA E.length fun k=>plc t.2 k),t.1,((t.2.length:Nat):Int)))
       ((iA (mA E.length fun k=>plc t.2 k) a3922 ((t.2.length:Nat):Int)).bind fun a3967=>
        (uA ((t.2.length:Nat):Int) 1).bind fun a3970=>
        (idxO E a3922).bind fun a3978=>
        (xG (mA n fun k=>plc t.1 k) t.1 a3978.2.2.1).bind fun y3986=>
        (idxO E a3922).bind fun a3997=>
        (xG y3986.1 y3986.2 a3997.2.2.2).bind fun y4005=>
        some (y4005.1,a3967,y4005.2,a3970))).bind fun (s3909:List Int×List Int×List Int×Int)=>
      some (s3909.1,s3909.2.1,s3909.2.2.1,s3909.2.2.2)) =
    some ((mA n fun k=>plc (stE E t e).1 k),(mA E.length fun k=>plc (stE E t e).2 k),(stE E t e).1,(((stE E t e).2.length:Nat):Int)):=by
  intro t e ht he l k hl
  refine bnd (a:=((mA n fun k=>plc (stE E t e).1 k),(mA E.length fun k=>plc (stE E t e).2 k),(stE E t e).1,(((stE E t e).2.length:Nat):Int))) (bnd hl ?_) rfl
  by_cases h0:e<0
  ·
   have:stE E t e=t:=by unfold stE;rw [if_pos (.inl h0)]
   rw [this]
   exact bnd (a:=true) (stp (cTW (dT h0) rfl)) rfl
  obtain ⟨i,rfl⟩:∃ i:Nat,e=(i:Int):=⟨e.toNat,by omega⟩
  have hi:i<E.length:=by omega
  have hidx:=pE (fun k=>plc t.2 (k:Int)) hi
  by_cases hin:(i:Int)∈t.2
  ·
   have:stE E t (i:Int)=t:=by unfold stE;rw [if_pos (.inr hin)]
   rw [this]
   have:=mO hin
   exact bnd (a:=true) (stp (cFW (dF h0) (bnd hidx (stp (congrArg some (dT (by omega))))))) rfl
  ·
   have hst:stE E t (i:Int)=(giv (giv t.1 (edI E[i])) (edO E[i]),t.2++[(i:Int)]):=by
    unfold stE
    rw [if_neg (by rw [not_or];exact ⟨h0,hin⟩),Int.toNat_natCast,List.getElem?_eq_getElem hi]
    show (giv t.1 (edI E[i]++edO E[i]),_)=_
    rw [tS]
   have hE':=hE _ (List.getElem_mem hi)
   have hle:=ht.e.le
   have hpn:=plc_neg.2 hin
   rw [hst]
   refine bnd (a:=false) (stp (cFW (dF h0) (bnd hidx (stp (congrArg some (dF (by omega))))))) ?_
   refine bnd (eG _ _ hi) (bnd (bC (by omega) (by omega)) (bnd (pA (List.getElem?_eq_getElem hi)) (bnd (xS hn ht.o hE'.1) (bnd (pA (List.getElem?_eq_getElem hi)) (bnd (xS hn (ht.o.giv hE'.1) hE'.2) ?_)))))
   refine congrArg some (Prod.ext rfl (Prod.ext (gD fun k hk=>?_) (Prod.ext rfl ?_)))
   ·
    rw [Bs_ hin]
    by_cases hki:k=i
    · rw [if_pos hki,if_pos (by omega)]
    · rw [if_neg hki,if_neg (by omega)]
   · simp
 obtain ⟨t,h1,h2⟩:=AC_ (f:=fun (s3349:List Int×List Int×Int×List Int×Int)=>
   (some (decide (s3349.2.2.1<((s3349.2.2.2.1.length:Nat):Int)))).bind fun a3359=>
   cond a3359
   ((idxO s3349.2.2.2.1 s3349.2.2.1).bind fun a3371=>
    (idxO s3349.2.2.2.1 s3349.2.2.1).bind fun a3379=>
    (idxO (mA n fun k=>whr edI E k) a3371).bind fun a3387=>
    (idxO (mA n fun k=>whr edO E k) a3379).bind fun a3395=>
    (jA (fun (k3400:Nat) (s3804:List Int×List Int×List Int×Int)=>
      ((idxO [a3387,a3395] ((k3400:Nat):Int)).bind fun a3922=>
       ((some (decide (a3922<0))).bind fun a3944=>
        cond a3944
        (some true)
        ((idxO s3804.2.1 a3922).bind fun a3953=>
         (some (decide ((0:Int)≤a3953))).bind fun a3955=>
         some a3955)).bind fun (s3938:Bool)=>
       cond s3938
       (some (s3804.1,s3804.2.1,s3804.2.2.1,s3804.2.2.2))
       ((iA s3804.2.1 a3922 s3804.2.2.2).bind fun a3967=>
        (uA s3804.2.2.2 1).bind fun a3970=>
        (idxO E a3922).bind fun a3978=>
        (xG s3804.1 s3804.2.2.1 a3978.2.2.1).bind fun y3986=>
        (idxO E a3922).bind fun a3997=>
        (xG y3986.1 y3986.2 a3997.2.2.2).bind fun y4005=>
        some (y4005.1,a3967,y4005.2,a3970))).bind fun (s3909:List Int×List Int×List Int×Int)=>
      some (s3909.1,s3909.2.1,s3909.2.2.1,s3909.2.2.2)) ([a3387,a3395].length) 0 (s3349.1,s3349.2.1,s3349.2.2.2.1,s3349.2.2.2.2)).bind fun (s4015:List Int×List Int×List Int×Int)=>
    (uA s3349.2.2.1 1).bind fun a4018=>
    some (.inl (s4015.1,s4015.2.1,a4018,s4015.2.2.1,s4015.2.2.2)))
   (some (.inr (s3349.1,s3349.2.1,s3349.2.2.2.1,s3349.2.2.2.2))))
  (fun j u=>j≤(wlk E s j).1.length∧u=((mA n fun k=>plc (wlk E s j).1 k),(mA E.length fun k=>plc (wlk E s j).2 k),(j:Int),(wlk E s j).1,(((wlk E s j).2.length:Nat):Int)))
  (fun t=>t=((mA n fun k=>plc (wlk E s n).1 k),(mA E.length fun k=>plc (wlk E s n).2 k),(wlk E s n).1,(((wlk E s n).2.length:Nat):Int))) n (by
  rintro j u hjn ⟨hj,rfl⟩
  have hok:=xL hE hs j
  by_cases hlt:j<(wlk E s j).1.length
  ·
   have hle:=hok.o.le
   refine .inl ⟨_,stp (cTW (dT (by dsimp only;omega)) ?_),⟨?_,rfl⟩,by omega⟩
   ·
    have hr:=hok.o.r _ (List.getElem_mem hlt)
    obtain ⟨w,hw⟩:∃ w:Nat,(wlk E s j).1[j]=(w:Int):=⟨((wlk E s j).1[j]).toNat,by omega⟩
    have hget:idxO (wlk E s j).1 (j:Int)=some (w:Int):=by rw [←hw];exact pA (List.getElem?_eq_getElem hlt)
    have hstep:wlk E s (j+1)=stW E (wlk E s j) (w:Int):=by
     show (match (wlk E s j).1[j]? with
      | some w=>stW E (wlk E s j) w
      | none=>wlk E s j)=_
     rw [List.getElem?_eq_getElem hlt,hw]
    refine bnd hget (bnd hget (bnd (pE _ (by omega)) (bnd (pE _ (by omega)) ?_)))
    have ht1:=vO hE hok (qG edI E w)
    refine bnd (a:=((mA n fun k=>plc (stW E (wlk E s j) w).1 k),(mA E.length fun k=>plc (stW E (wlk E s j) w).2 k),(stW E (wlk E s j) w).1,(((stW E (wlk E s j) w).2.length:Nat):Int))) ?_ (bnd (bC (by dsimp only;omega) (by dsimp only;omega)) ?_)
    ·
     show jA _ 2 0 _=_
     refine (BI_ (edge (wlk E s j) (whr edI E w) hok (qG _ _ _) _ 0 rfl)).trans ?_
     exact (BI_ (edge _ (whr edO E w) ht1 (qG _ _ _) _ 1 rfl)).trans rfl
    · rw [hstep];rfl
   ·
    rw [show wlk E s (j+1)=stW E (wlk E s j) (wlk E s j).1[j] by
     show (match (wlk E s j).1[j]? with
      | some w=>stW E (wlk E s j) w
      | none=>wlk E s j)=_
     rw [List.getElem?_eq_getElem hlt]]
    have:=B8_ E (wlk E s j) (wlk E s j).1[j]
    omega
  ·
   refine .inr ⟨_,stp (cFW (dF (by dsimp only;omega)) rfl),?_⟩
   rw [BX_ hE hs (k:=j) (by omega) hjn]) (s:=((mA n fun k=>plc s.1 k),(mA E.length fun k=>plc s.2 k),0,s.1,((s.2.length:Nat):Int))) ⟨Nat.zero_le _,rfl⟩
 subst h2
 exact bnd h1 rfl
def w0S (I O:List Int):WS:=(giv (giv [] I) O,[])
theorem eJ (n:Nat):Od n []:=⟨(fun x hx=>by cases hx),List.nodup_nil⟩
theorem jT {n m:Nat}{I O:List Int} (hI:fC n I) (hO:fC n O):Ws n m (w0S I O):=⟨((eJ n).giv hI).giv hO,eJ m⟩
def walk (n:Nat) (g:Gra):WS:=wlk g.2.1 (w0S g.2.2.1 g.2.2.2) n
theorem cnOpen_ {n:Nat} (hn:n≤1000){E:List Edg}{I O:List Int} (hE:nE n E) (hI:fC n I) (hO:fC n O) (hm:E.length≤1000) :
  nQ ((n:Int),E,I,O)=some (mA n (fun k=>plc (walk n ((n:Int),E,I,O)).1 k),mA E.length (fun k=>plc (walk n ((n:Int),E,I,O)).2 k),(walk n ((n:Int),E,I,O)).1,(((walk n ((n:Int),E,I,O)).2.length:Nat):Int)):=by
 have h1:=(eJ n).giv hI
 refine bnd (CF_ hn) (bnd (CF_ hm) (bnd (xS hn (eJ n) hI) (bnd (xS hn h1 hO) ?_)))
 exact bnd (cnWalk_ hn hE hm (jT hI hO)) rfl
end Go.Proofs.YtngbmcbigcaapaaGreatDoor
namespace Go.Proofs.YtngbmcbigcaapaaGreatDoor
set_option linter.unusedVariables false
def enF:List Int→Nat→List (Int×Int)
 | [],_=>[]
 | a::l,i=>(a,(i:Int))::enF l (i+1)
def en (l:List Int):MI:=⟨enF l 0⟩
theorem vS:∀ (l:List Int) (i:Nat),(enF l i).length=l.length
 | [],_=>rfl
 | a::l,i=>congrArg (· + 1) (vS l (i+1))
theorem BS_:∀ (l:List Int) (i:Nat),(enF l i).map (·.1)=l
 | [],_=>rfl
 | a::l,i=>congrArg (a::·) (BS_ l (i+1))
theorem Cy_:∀ (l:List Int) (i:Nat) (x:Int),mJ (enF l i) x=decide (x∈l)
 | [],_,x=>by simp [mJ,enF]
 | a::l,i,x=>by
  have ih:=Cy_ l (i+1) x
  unfold mJ at ih ⊢
  show (decide (a=x)||(enF l (i+1)).any _)=_
  rw [ih]
  by_cases h:a=x
  · simp [h]
  ·
   have:¬x=a:=fun e=>h e.symm
   simp [h,this]
theorem C1_ (l:List Int) (x:Int):lJ (en l) x=decide (x∈l):=Cy_ l 0 x
theorem Cx_:∀ {l:List Int}{i:Nat}{x:Int},¬x∈l→gF (enF l i) x ((i+l.length:Nat):Int)=enF (l++[x]) i
 | [],i,x,_=>rfl
 | a::l,i,x,h=>by
  rw [List.mem_cons,not_or] at h
  show (if a=x then _ else (a,(i:Int))::gF (enF l (i+1)) x _)=(a,(i:Int))::enF (l++[x]) (i+1)
  rw [if_neg (fun e=>h.1 e.symm),← Cx_ h.2,List.length_cons,show i+(l.length+1)=i+1+l.length by omega]
theorem aZ {l:List Int}{x:Int} (h:¬x∈l):lH (en l) x (((en l).kvs.length:Nat):Int)=en (l++[x]):=by
 unfold lH en
 dsimp only
 rw [vS]
 have:=Cx_ (i:=0) h
 rw [Nat.zero_add] at this
 rw [this]
abbrev Wk:=(Int×List Edg×List Int×List Int)×(List Int×List Int)×MI×MI×List Int×List Int
def wkr (g:Gra) (to fr:List Int) (s:WS) (j:Nat):Wk:=(g,(fr,to),en s.1,en s.2,s.1.drop j,s.2)
theorem BY_ {g:Gra}{to fr:List Int}{o e:List Int}{j:Nat} (hj:j≤o.length) (hl:o.length≤1000) (w:Int) :
  zK (wkr g to fr (o,e) j) w=some (wkr g to fr (giv1 o w,e) j):=by
 have hm:aB=1099511627776:=rfl
 refine stp (stp ?_)
 unfold giv1
 show cond (!lJ (en o) w) _ _=_
 rw [C1_]
 by_cases h:w∈o
 ·
  rw [if_pos h]
  exact cFW (nT (dT h)) rfl
 ·
  rw [if_neg h]
  refine cTW (nF (dF h)) (bnd (yB (by simp [wkr];omega)) ?_)
  unfold wkr
  dsimp only
  rw [aZ h,List.drop_append_of_le_length hj]
theorem Bg_ {g:Gra}{to fr:List Int}{e:List Int}{j:Nat} (l:List Int){n:Nat} (hn:n≤1000){o:List Int} (ho:Od n o) (hl:fC n l) (hj:j≤o.length) :
  ∀ k,k≤l.length→(giv o (l.take k)).length≤1000∧j≤(giv o (l.take k)).length∧(∀ h:k<l.length,giv o (l.take (k+1))=giv1 (giv o (l.take k)) l[k]):=by
 intro k hk
 have hOd:Od n (giv o (l.take k)):=ho.giv (fun x hx=>hl x (List.mem_of_mem_take hx))
 have hle:=hOd.le
 obtain ⟨r,hr⟩:=iY (l.take k) o
 refine ⟨by omega,by rw [hr];simp;omega,fun h=>?_⟩
 rw [List.take_add_one,List.getElem?_eq_getElem h]
 exact tS _ _ _
theorem BZ_ {n:Nat} (hn:n≤1000){g:Gra}{to fr:List Int}{s:WS}{j:Nat} (hE:nE n g.2.1) (hm:g.2.1.length≤1000) (ht:rC g.2.1 edI≤1000) (ht2:rC g.2.1 edO≤1000) (hs:Ws n g.2.1.length s) (hj:j≤s.1.length){e:Int} (he:e = -1∨0≤e∧e<(g.2.1.length:Int)) :
  aL (wkr g to fr s j) e=some (wkr g to fr (stE g.2.1 s e) j):=by
 have hmx:aB=1099511627776:=rfl
 obtain ⟨w0,E,I,O⟩:=g
 obtain ⟨o,ds⟩:=s
 dsimp only at hE hm ht ht2 hs hj he ⊢
 refine stp ?_
 by_cases h0:e<0
 ·
  refine cTW (dT h0) ?_
  unfold stE
  rw [if_pos (.inl h0)]
 refine cFW (dF h0) (stp ?_)
 show cond (lJ (en ds) e) _ _=_
 rw [C1_]
 obtain ⟨i,rfl⟩:∃ i:Nat,e=(i:Int):=⟨e.toNat,by omega⟩
 have hi:i<E.length:=by omega
 by_cases hin:(i:Int)∈ds
 ·
  refine cTW (dT hin) ?_
  unfold stE
  rw [if_pos (.inr hin)]
 refine cFW (dF hin) ?_
 have hle:ds.length≤E.length:=hs.e.le
 have hE':=hE _ (List.getElem_mem hi)
 have hst:stE E (o,ds) (i:Int)=(giv o (edI E[i]++edO E[i]),ds++[(i:Int)]):=by
  unfold stE
  rw [if_neg (by rw [not_or];exact ⟨h0,hin⟩),Int.toNat_natCast,List.getElem?_eq_getElem hi]
 rw [hst]
 have l1:=eH edI (List.getElem_mem hi)
 have l2:=eH edO (List.getElem_mem hi)
 refine bnd (yB (by simp [wkr];omega)) (bnd (pA (List.getElem?_eq_getElem hi)) (bnd (pA (List.getElem?_eq_getElem hi)) (bnd (yR (show (edI E[i]).length+(edO E[i]).length≤_ by omega)) ?_)))
 have hl:=vH hE'.1 hE'.2
 have hw:=Bg_ (g:=(w0,E,I,O)) (to:=to) (fr:=fr) (e:=ds++[(i:Int)]) (edI E[i]++edO E[i]) hn hs.o hl hj
 have key:=kC (n:=(edI E[i]++edO E[i]).length) (fun k=>((w0:Int),en (giv o ((edI E[i]++edO E[i]).take k)),(giv o ((edI E[i]++edO E[i]).take k)).drop j)) (f:=fun (k67:Nat) (s104:Int×MI×List Int)=>
     (idxO (edI E[i]++edO E[i]) ((k67:Nat):Int)).bind fun a121=>
     (zK ((s104.1,E,I,O),(fr,to),s104.2.1,(lH (en ds) (i:Int) (((en ds).kvs.length:Nat):Int)),s104.2.2,ds++[(i:Int)]) a121).bind fun y123=>
     some (y123.1.1,y123.2.2.1,y123.2.2.2.2.1)) (fun k hk=>by
  obtain ⟨w1,w2,w3⟩:=hw k (by omega)
  refine bnd (pA (List.getElem?_eq_getElem hk)) ?_
  rw [aZ hin]
  refine bnd (BY_ (g:=(w0,E,I,O)) (to:=to) (fr:=fr) (e:=ds++[(i:Int)]) w2 w1 _) ?_
  rw [w3 hk]
  rfl)
 rw [List.take_length] at key
 refine bnd key ?_
 unfold wkr
 dsimp only
 rw [aZ hin]
theorem walkI_ {n:Nat} (hn:n≤1000){g:Gra}{s:WS} (hE:nE n g.2.1) (hm:g.2.1.length≤1000) (ht:rC g.2.1 edI≤1000) (ht2:rC g.2.1 edO≤1000) (hs:Ws n g.2.1.length s) :
  xU (wkr g (mA n fun k=>whr edI g.2.1 k) (mA n fun k=>whr edO g.2.1 k) s 0)=some (wkr g (mA n fun k=>whr edI g.2.1 k) (mA n fun k=>whr edO g.2.1 k) (wlk g.2.1 s n) (wlk g.2.1 s n).1.length):=by
 obtain ⟨w0,E,I,O⟩:=g
 dsimp only at hE hm ht ht2 hs ⊢
 generalize hto:(mA n fun k=>whr edI E (k:Int))=to
 generalize hfr:(mA n fun k=>whr edO E (k:Int))=fr
 obtain ⟨t,h1,h2⟩:=AC_ (f:=fun (s129:Int×MI×MI×List Int×List Int)=>
  (some (decide ((0:Int)<((s129.2.2.2.1.length:Nat):Int)))).bind fun a142=>
  cond a142
  ((idxO s129.2.2.2.1 0).bind fun a153=>
   (gC s129.2.2.2.1 1 ((s129.2.2.2.1.length:Nat):Int)).bind fun a155=>
   (idxO to a153).bind fun a166=>
   (aL ((s129.1,E,I,O),(fr,to),s129.2.1,s129.2.2.1,a155,s129.2.2.2.2) a166).bind fun y168=>
   (idxO fr a153).bind fun a185=>
   (aL ((y168.1.1,E,I,O),(fr,to),y168.2.2.1,y168.2.2.2.1,y168.2.2.2.2.1,y168.2.2.2.2.2) a185).bind fun y187=>
   some (.inl (y187.1.1,y187.2.2.1,y187.2.2.2.1,y187.2.2.2.2.1,y187.2.2.2.2.2)))
  (some (.inr ((s129.1,E,I,O),(fr,to),s129.2.1,s129.2.2.1,s129.2.2.2.1,s129.2.2.2.2))))
  (fun j u=>j≤(wlk E s j).1.length∧u=(w0,en (wlk E s j).1,en (wlk E s j).2,(wlk E s j).1.drop j,(wlk E s j).2))
  (fun t=>t=wkr (w0,E,I,O) to fr (wlk E s n) (wlk E s n).1.length) n (by
  rintro j u hjn ⟨hj,rfl⟩
  have hok:=xL hE hs j
  by_cases hlt:j<(wlk E s j).1.length
  ·
   have hle:=hok.o.le
   refine .inl ⟨_,stp (cTW (dT (by dsimp only;rw [List.length_drop];omega)) ?_),⟨?_,rfl⟩,by omega⟩
   ·
    have hr:=hok.o.r _ (List.getElem_mem hlt)
    obtain ⟨w,hw⟩:∃ w:Nat,(wlk E s j).1[j]=(w:Int):=⟨((wlk E s j).1[j]).toNat,by omega⟩
    have hstep:wlk E s (j+1)=stW E (wlk E s j) (w:Int):=by
     show (match (wlk E s j).1[j]? with
      | some w=>stW E (wlk E s j) w
      | none=>wlk E s j)=_
     rw [List.getElem?_eq_getElem hlt,hw]
    have hd:(wlk E s j).1.drop j=(w:Int)::(wlk E s j).1.drop (j+1):=by
     rw [List.drop_eq_getElem_cons hlt,hw]
    have ht1:=vO hE hok (qG edI E w)
    obtain ⟨r1,hr1⟩:=bJ E (wlk E s j) (whr edI E w)
    dsimp only
    rw [hd]
    refine bnd (a:=(w:Int)) rfl (bnd (a:=(wlk E s j).1.drop (j+1)) ?_ ?_)
    ·
     unfold gC
     rw [if_pos (by simp;omega)]
     rw [show ((1:Int).toNat)=1 from rfl,List.drop_succ_cons,List.drop_zero,Int.toNat_natCast,List.length_cons,Nat.add_sub_cancel,List.take_length]
    refine bnd (show idxO to (w:Int)=some (whr edI E w) by rw [←hto];exact pE _ (by omega)) (bnd (BZ_ (g:=(w0,E,I,O)) hn hE hm ht ht2 hok (j:=j+1) (by omega) (qG edI E w)) (bnd (show idxO fr (w:Int)=some (whr edO E w) by rw [←hfr];exact pE _ (by omega)) ?_))
    refine bnd (BZ_ (g:=(w0,E,I,O)) hn hE hm ht ht2 ht1 (j:=j+1) (by rw [hr1];simp;omega) (qG edO E w)) ?_
    rw [hstep]
    rfl
   ·
    rw [show wlk E s (j+1)=stW E (wlk E s j) (wlk E s j).1[j] by
     show (match (wlk E s j).1[j]? with
      | some w=>stW E (wlk E s j) w
      | none=>wlk E s j)=_
     rw [List.getElem?_eq_getElem hlt]]
    have:=B8_ E (wlk E s j) (wlk E s j).1[j]
    omega
  ·
   have hjl:j=(wlk E s j).1.length:=by omega
   refine .inr ⟨_,stp (cFW (dF (by dsimp only;rw [List.length_drop];omega)) rfl),?_⟩
   rw [BX_ hE hs (k:=j) (by omega) hjn]
   unfold wkr
   rw [←hjl]) (s:=(w0,en s.1,en s.2,s.1,s.2)) ⟨Nat.zero_le _,by simp [wlk]⟩
 subst h2
 exact h1
theorem FB_ {n:Nat} (hn:n≤1000){g:Gra} (hw:g.1=(n:Int)) (h:Rgd n g) :
  lU g=some (wkr g (mA n fun k=>whr edI g.2.1 k) (mA n fun k=>whr edO g.2.1 k) (walk n g) (walk n g).1.length):=by
 obtain ⟨w0,E,I,O⟩:=g
 dsimp only at hw
 subst hw
 obtain ⟨hI,hO,hE,li,lo,le,ti,to'⟩:=h
 dsimp only at hI hO hE li lo le ti to'
 refine bnd (bnd (bnd (gends_ hn hE) rfl) rfl) (bnd (yR (by dsimp only;omega)) ?_)
 generalize hto:(mA n fun k=>whr edI E (k:Int))=to
 generalize hfr:(mA n fun k=>whr edO E (k:Int))=fr
 have hl:=vH hI hO
 have hw:=Bg_ (g:=((n:Int),E,I,O)) (to:=to) (fr:=fr) (e:=[]) (I++O) hn (eJ n) hl (Nat.zero_le _)
 have key:=kC (n:=(I++O).length) (fun k=>((n:Int),en (giv [] ((I++O).take k)),(giv [] ((I++O).take k)).drop 0)) (f:=fun (k34:Nat) (s71:Int×MI×List Int)=>
   (idxO (I++O) ((k34:Nat):Int)).bind fun a88=>
   (zK ((s71.1,E,I,O),(fr,to),s71.2.1,⟨[]⟩,s71.2.2,[]) a88).bind fun y90=>
   some (y90.1.1,y90.2.2.1,y90.2.2.2.2.1)) (fun k hk=>by
  obtain ⟨w1,w2,w3⟩:=hw k (by omega)
  refine bnd (pA (List.getElem?_eq_getElem hk)) ?_
  refine bnd (BY_ (g:=((n:Int),E,I,O)) (to:=to) (fr:=fr) (e:=[]) w2 w1 _) ?_
  rw [w3 hk]
  rfl)
 rw [List.take_length] at key
 refine bnd key ?_
 subst hto hfr
 rw [tS]
 exact bnd (walkI_ hn (g:=((n:Int),E,I,O)) (s:=w0S I O) hE le ti to' (jT hI hO)) rfl
theorem fillK {n:Nat} (c:Int):∀ (l:List Int) (i:Nat) (f:Nat→Int),fC n l→l.Nodup→c=0→l.length+i≤1000 →
  kvO (fun (s:List Int) (k v:Int)=>(uA c v).bind fun a=>(iA s k a).bind fun b=>some b) (enF l i) (mA n f)=some (mA n fun k=>if (k:Int)∈l then plcF l i k else f k)
 | [],i,f,_,_,_,_=>congrArg some (gD fun k _=>by simp)
 | a::l,i,f,hl,hd,hc,hi=>by
  obtain ⟨d1,d2⟩:=List.nodup_cons.1 hd
  have hr:=hl a (.head _)
  obtain ⟨m,rfl⟩:∃ m:Nat,a=(m:Int):=⟨a.toNat,by omega⟩
  subst hc
  rw [List.length_cons] at hi
  show Option.bind _ (kvO _ (enF l (i+1)))=_
  refine bnd (a:=mA n fun k=>if k=m then (i:Int) else f k) (bnd (bC (by dsimp only;omega) (by dsimp only;omega)) (bnd (eG _ _ (by omega)) (congrArg some (gD fun k _=>by simp)))) ?_
  rw [fillK 0 l (i+1) _ (fun x hx=>hl x (.tail _ hx)) d2 rfl (by omega)]
  refine congrArg some (gD fun k _=>?_)
  by_cases hkm:k=m
  ·
   subst hkm
   rw [if_neg d1,if_pos rfl,if_pos (.head _)]
   unfold plcF
   rw [if_pos rfl]
  ·
   have hne:¬(m:Int)=(k:Int):=by omega
   have hne':¬(k:Int)=(m:Int):=by omega
   rw [if_neg hkm,show plcF ((m:Int)::l) i (k:Int)=plcF l (i+1) k from if_neg hne]
   by_cases hkl:(k:Int)∈l
   · rw [if_pos hkl,if_pos (.tail _ hkl)]
   · rw [if_neg hkl,if_neg (by rw [List.mem_cons,not_or];exact ⟨hne',hkl⟩)]
theorem Cr_ {n:Nat}{l:List Int} (h:Od n l) (hn:n≤1000):kvO (fun (s:List Int) (k v:Int)=>(uA 0 v).bind fun a=>(iA s k a).bind fun b=>some b) (en l).kvs (mA n fun _=>-1)=some (mA n fun k=>plc l k):=by
 have hle:=h.le
 rw [show (en l).kvs=enF l 0 from rfl,fillK 0 l 0 _ h.r h.d rfl (by omega)]
 refine congrArg some (gD fun k _=>?_)
 split
 · rfl
 · rw [Ce_ ‹_›]
theorem canon1_ {n m:Nat} (hn:n≤1000) (hm:m≤1000){g:Gra}{to fr:List Int}{s:WS} (hs:Ws n m s) (j:Nat) :
  aU (wkr g to fr s j) 0 (mA n fun _=>-1) 0 (mA m fun _=>-1)=some ((s.1.length:Int),(mA n fun k=>plc s.1 k),(s.2.length:Int),mA m fun k=>plc s.2 k):=by
 have h1:=hs.o.le;have h2:=hs.e.le
 have l1:(en s.1).kvs.length=s.1.length:=vS _ _
 have l2:(en s.2).kvs.length=s.2.length:=vS _ _
 refine bnd (bnd (Cr_ hs.o hn) rfl) (bnd (bnd (Cr_ hs.e hm) rfl) ?_)
 show (uA 0 (((en s.1).kvs.length:Nat):Int)).bind _=_
 rw [l1]
 refine bnd (bC (by omega) (by omega)) ?_
 show (uA 0 (((en s.2).kvs.length:Nat):Int)).bind _=_
 rw [l2]
 refine bnd (bC (by omega) (by omega)) ?_
 rw [Int.zero_add,Int.zero_add]
end Go.Proofs.YtngbmcbigcaapaaGreatDoor
namespace Go.Proofs.YtngbmcbigcaapaaGreatDoor
set_option linter.unusedVariables false
theorem comp_ {n:Nat} (hn:n≤1000){g:Gra} (hw:g.1=(n:Int)) (h:Rgd n g):∃ y c,fU g=some (y,c)∧y.length=n:=by
 obtain ⟨w0,E,I,O⟩:=g
 dsimp only at hw
 subst hw
 obtain ⟨hI,hO,hE,li,lo,le,ti,to'⟩:=h
 dsimp only at hI hO hE li lo le ti to'
 have id0:(mA n fun k=>(k:Int))=bG n id:=rfl
 have step:∀ (u v:Nat),u<n→v<n→∀ s:List Int,(∃ c cls,s=bG n c∧Forest n c cls∧Cls cls)→∃ s',yK s (u:Int) (v:Int)=some s'∧∃ c cls,s'=bG n c∧Forest n c cls∧Cls cls:=by
  rintro u v hu hv s ⟨c,cls,rfl,hf,hc⟩
  exact ⟨_,join_ hf hc hu hv,_,_,rfl,hf.join hc u v,hc.join u v⟩
 obtain ⟨s1,h1,c,cls,rfl,hf,hc⟩:=kO (f:=fun (k12:Nat) (s223:List Int)=>
   (idxO E ((k12:Nat):Int)).bind fun a238=>
   (xD [a238.2.2.1,a238.2.2.2]).bind fun y255=>
   (jA (fun (k260:Nat) (s303:List Int)=>
     (idxO y255 ((k260:Nat):Int)).bind fun a318=>
     (idxO y255 0).bind fun a326=>
     (yK s303 a326 a318).bind fun y328=>
     some y328) y255.length 0 s223).bind fun (s333:List Int)=>
   some s333) (n:=E.length) (s:=bG n id) (fun _ s=>∃ c cls,s=bG n c∧Forest n c cls∧Cls cls)
  ⟨id,id,rfl,⟨fun w _=>Nat.le_refl _,fun w _ _=>rfl,fun w _=>rfl⟩,⟨fun w=>Nat.le_refl _,fun w=>rfl⟩⟩ (fun j s hj hs=>by
   have he:=hE _ (List.getElem_mem hj)
   have l1:=eH edI (List.getElem_mem hj)
   have l2:=eH edO (List.getElem_mem hj)
   have hl:=vH he.1 he.2
   obtain ⟨s2,h2,h3⟩:=kO (f:=fun (k260:Nat) (s303:List Int)=>
     (idxO (edI E[j]++edO E[j]) ((k260:Nat):Int)).bind fun a318=>
     (idxO (edI E[j]++edO E[j]) 0).bind fun a326=>
     (yK s303 a326 a318).bind fun y328=>
     some y328) (n:=(edI E[j]++edO E[j]).length) (s:=s) (fun _ s=>∃ c cls,s=bG n c∧Forest n c cls∧Cls cls) hs (fun k s hk hs=>by
    have hr:=hl _ (List.getElem_mem hk)
    have hr0:=hl _ (List.getElem_mem (show 0<(edI E[j]++edO E[j]).length by omega))
    obtain ⟨s',k1,k2⟩:=step ((edI E[j]++edO E[j])[0].toNat) ((edI E[j]++edO E[j])[k].toNat) (by omega) (by omega) s hs
    refine ⟨s',bnd (pA (List.getElem?_eq_getElem hk)) (bnd (pA (k:=0) (List.getElem?_eq_getElem (by omega))) (bnd ?_ rfl)),k2⟩
    rw [←k1]
    congr 1
    · omega
    · omega)
   exact ⟨s2,bnd (pA (List.getElem?_eq_getElem hj)) (bnd (yR (show (edI E[j]).length+(edO E[j]).length≤_ by omega)) (bnd h2 rfl)),h3⟩)
 have hmx:aB=1099511627776:=rfl
 obtain ⟨s2,h2,h3⟩:=kO (f:=fun (k344:Nat) (s505:List Int×Int)=>
   ((xK (bG n c) ((k344:Nat):Int)).bind fun y555=>
    (some (decide (y555<((k344:Nat):Int)))).bind fun a558=>
    cond a558
    ((idxO s505.1 y555).bind fun a579=>
     (iA s505.1 ((k344:Nat):Int) a579).bind fun a587=>
     some (a587,s505.2))
    ((iA s505.1 ((k344:Nat):Int) s505.2).bind fun a567=>
     (uA s505.2 1).bind fun a570=>
     some (a567,a570))).bind fun (s549:List Int×Int)=>
   some (s549.1,s549.2)) (n:=n) (s:=(mA n fun _=>(0:Int),0)) (fun k s=>s.1.length=n∧0≤s.2∧s.2≤(k:Int)) ⟨fE _ _,Int.le_refl _,Int.le_refl _⟩ (fun k s hk hs=>by
  obtain ⟨hl,h0,h1⟩:=hs
  have hle:=hc.le k
  by_cases hlt:cls k<k
  ·
   have hi:cls k<s.1.length:=by omega
   refine ⟨_,bnd (bnd (qT hf hk) (stp (cTW (dT (by omega)) (bnd (pA (List.getElem?_eq_getElem hi)) (bnd (nC _ (by omega)) rfl))))) rfl,?_,h0,by dsimp only;omega⟩
   rw [List.length_set];exact hl
  ·
   refine ⟨_,bnd (bnd (qT hf hk) (stp (cFW (dF (by omega)) (bnd (nC _ (by omega)) (bnd (bC (by omega) (by omega)) rfl))))) rfl,?_,by dsimp only;omega,by dsimp only;omega⟩
   rw [List.length_set];exact hl)
 refine ⟨s2.1,s2.2,bnd (upT_ (by omega)) (bnd h1 (bnd (wL (by omega)) ?_)),h3.1⟩
 rw [oR,fE]
 exact bnd h2 rfl
structure Full (n:Nat) (g:Gra):Prop where
 w:∀ k:Nat,k<n→(k:Int)∈(walk n g).1
 e:∀ i:Nat,i<g.2.1.length→(i:Int)∈(walk n g).2
 ne:∀ e∈g.2.1,edI e++edO e≠[]
theorem aJ {n:Nat}{g:Gra} (h:Rgd n g):Ws n g.2.1.length (walk n g):=xL h.e (jT h.i h.o) n
theorem closed_ {n:Nat} (hn:n≤1000){g:Gra} (hw:g.1=(n:Int)) (h:Rgd n g) (hf:Full n g){to fr:List Int}{j:Nat} :
  dU g (wkr g to fr (walk n g) j)=some []:=by
 obtain ⟨y,c,hy,hl⟩:=comp_ hn hw h
 have hmx:aB=1099511627776:=rfl
 have hle:=h.le
 have hyx:∀ x:Int,0≤x∧x<(n:Int)→∃ v,idxO y x=some v:=fun x hx=>by
  obtain ⟨m,rfl⟩:∃ m:Nat,x=(m:Int):=⟨x.toNat,by omega⟩
  exact ⟨_,pA (List.getElem?_eq_getElem (by omega))⟩
 obtain ⟨cs,h1,h2⟩:=kO (f:=fun (k:Nat) (s:List Int)=>
   (idxO g.2.1 ((k:Nat):Int)).bind fun e=>
   (xD [e.2.2.1,e.2.2.2]).bind fun j=>
   (idxO j 0).bind fun a=>
   (idxO y a).bind fun c=>
   some (s++[c])) (n:=g.2.1.length) (s:=([]:List Int)) (fun _ s=>∀ c∈s,∃ x∈(walk n g).1,idxO y x=some c) (fun c hc=>by cases hc) (fun k s hk hs=>by
  have he:=h.e _ (List.getElem_mem hk)
  have l1:=eH edI (List.getElem_mem hk)
  have l2:=eH edO (List.getElem_mem hk)
  have ti:=h.ti;have to':=h.to
  have hlr:=vH he.1 he.2
  have hne:=hf.ne _ (List.getElem_mem hk)
  have hpos:0<(edI g.2.1[k]++edO g.2.1[k]).length:=List.length_pos_iff.2 hne
  have hr:=hlr _ (List.getElem_mem hpos)
  obtain ⟨v,hv⟩:=hyx _ hr
  refine ⟨s++[v],bnd (pA (List.getElem?_eq_getElem hk)) (bnd (yR (show (edI g.2.1[k]).length+(edO g.2.1[k]).length≤_ by omega)) (bnd (pA (k:=0) (List.getElem?_eq_getElem hpos)) (bnd hv rfl))),fun c hc=>?_⟩
  rcases List.mem_append.1 hc with hc | hc
  · exact hs c hc
  ·
   simp at hc
   subst hc
   refine ⟨_,?_,hv⟩
   obtain ⟨m,hm⟩:∃ m:Nat,(edI g.2.1[k]++edO g.2.1[k])[0]=(m:Int):=⟨(edI g.2.1[k]++edO g.2.1[k])[0].toNat,by omega⟩
   rw [hm]
   exact hf.w m (by omega))
 have hkeys:(en (walk n g).1).kvs.map (·.1)=(walk n g).1:=BS_ _ _
 have hok:=aJ h
 refine bnd hy (bnd h1 (cTW ?_ rfl))
 rw [Bool.and_eq_true,Bool.and_eq_true,decide_eq_true_eq]
 refine ⟨⟨by omega,List.all_eq_true.2 fun p hp=>?_⟩,List.all_eq_true.2 fun c hc=>?_⟩
 ·
  have hm:p.1∈(walk n g).1:=by rw [←hkeys];exact List.mem_map_of_mem hp
  obtain ⟨v,hv⟩:=hyx _ (hok.o.r _ hm)
  dsimp only
  rw [hv];rfl
 ·
  obtain ⟨x,hx,hc⟩:=h2 c hc
  rw [←hkeys] at hx
  obtain ⟨p,hp,rfl⟩:=List.mem_map.1 hx
  exact List.any_eq_true.2 ⟨p,hp,decide_eq_true hc⟩
theorem Fh_ {n:Nat} (hn:n≤1000){g:Gra} (hw:g.1=(n:Int)) (h:Rgd n g) (hf:Full n g) :
  bU g=some (mA n (fun k=>plc (walk n g).1 k),mA g.2.1.length (fun k=>plc (walk n g).2 k)):=by
 have hle:=h.le
 obtain ⟨w0,E,I,O⟩:=g
 dsimp only at hw hle
 subst hw
 refine bnd (FB_ hn rfl h) (bnd (bnd (eR hn _) (bnd (eR hle _) rfl)) (bnd (canon1_ hn hle (aJ h) _) (bnd (closed_ hn rfl h hf) rfl)))
theorem Fg_ {n:Nat} (hn:n≤1000){g:Gra} (hw:g.1=(n:Int)) (h:Rgd n g) (hf:Full n g) :
  nV g=some (mA n (fun k=>plc (walk n g).1 k),mA g.2.1.length (fun k=>plc (walk n g).2 k)):=by
 have hle:=h.le
 obtain ⟨w0,E,I,O⟩:=g
 dsimp only at hw hle
 subst hw
 have ho:=cnOpen_ (I:=I) (O:=O) hn h.e h.i h.o hle
 refine bnd ho (bnd (a:=[]) (bnd ho ?_) rfl)
 obtain ⟨_,h1,_⟩:=kO (f:=fun (k16:Nat) (_:Unit)=>
   ((idxO (mA E.length (fun k=>plc (walk n ((n:Int),E,I,O)).2 k)) ((k16:Nat):Int)).bind fun a84=>
    (some (decide ((0:Int)≤a84))).bind fun a86=>
    cond a86
    (some ())
    (none)).bind fun (s72:Unit)=>
   some ()) (n:=E.length) (s:=()) (fun _ _=>True) trivial (fun j s hj _=>by
  have hp:=mO (hf.e j hj)
  exact ⟨(),bnd (bnd (pE _ hj) (stp (cTW (dT hp.1) rfl))) rfl,trivial⟩)
 exact bnd h1 rfl
def setsL (m:Nat) (ep:Nat→Int) (L:List Edg):Nat→List Edg
 | 0=>List.replicate m (0,0,[],[])
 | j+1=>match L[j]? with
  | some e=>(setsL m ep L j).set (ep j).toNat e
  | none=>setsL m ep L j
theorem tN (m:Nat) (ep:Nat→Int) (L:List Edg):∀ j,(setsL m ep L j).length=m
 | 0=>by simp [setsL]
 | j+1=>by
  unfold setsL
  split
  · rw [List.length_set];exact tN m ep L j
  · exact tN m ep L j
theorem cX (m:Nat) (ep:Nat→Int) (L:List Edg):∀ j,∀ e∈setsL m ep L j,e=(0,0,[],[])∨e∈L
 | 0,e,he=>.inl (List.eq_of_mem_replicate he)
 | j+1,e,he=>by
  unfold setsL at he
  split at he
  ·
   rename_i x hx
   rcases List.mem_or_eq_of_mem_set he with h | h
   · exact cX m ep L j e h
   · exact .inr (h ▸ List.mem_of_getElem? hx)
  · exact cX m ep L j e he
def renG (n:Nat) (wp ep:Nat→Int) (g:Gra):Gra:=((n:Int),setsL g.2.1.length ep (g.2.1.map (mpE wp)) g.2.1.length,mp wp g.2.2.1,mp wp g.2.2.2)
theorem AX_ {m:Nat}{ep:Nat→Int}{L:List Edg} (hL:L.length=m) (hep:∀ j,j<m→0≤ep j∧ep j<(m:Int)){f:Nat→List Edg→Option (List Edg)} (hf:∀ j e s,L[j]?=some e→j<m→f j s=iA s (ep j) e) :
  jA f m 0 (List.replicate m (0,0,[],[]))=some (setsL m ep L m):=by
 refine kC (f:=f) (n:=m) (fun j=>setsL m ep L j) (fun j hj=>?_)
 have he:L[j]?=some L[j]:=List.getElem?_eq_getElem (by omega)
 rw [hf j _ _ he hj]
 have hr:=hep j hj
 obtain ⟨i,hi⟩:∃ i:Nat,ep j=(i:Int):=⟨(ep j).toNat,by omega⟩
 rw [hi,nC _ (by rw [tN];omega)]
 congr 1
 show _=(match L[j]? with
  | some e=>(setsL m ep L j).set (ep j).toNat e
  | none=>setsL m ep L j)
 rw [he,hi];rfl
theorem hgRen_ {n:Nat}{g:Gra} (hw:g.1=(n:Int)) (h:Rgd n g) (wp ep:Nat→Int) (hep:∀ j,j<g.2.1.length→0≤ep j∧ep j<(g.2.1.length:Int)) :
  eV g (mA n wp) (mA g.2.1.length ep)=some (renG n wp ep g):=by
 have hle:=h.le
 have hmx:aB=1099511627776:=rfl
 obtain ⟨w0,E,I,O⟩:=g
 dsimp only at hw hle hep ⊢
 subst hw
 refine bnd (hgMap_ wp (n:Int) h) (bnd (a:=List.replicate E.length (0,0,[],[])) (stp ?_) ?_)
 ·
  rw [fE]
  by_cases h0:0<E.length
  · exact cTW (dT (by omega)) (bnd (wF _ (by omega)) rfl)
  ·
   refine cFW (dF (by omega)) ?_
   rw [show E.length=0 by omega];rfl
 ·
  rw [fE]
  refine bnd (AX_ (L:=E.map (mpE wp)) (by simp) hep (fun j e s he hj=>?_)) rfl
  refine bnd (pE _ hj) (bnd (pA he) ?_)
  show (iA s (ep j) e).bind _=_
  cases iA s (ep j) e <;> rfl
theorem gRen_ {n:Nat}{g:Gra} (hw:g.1=(n:Int)) (h:Rgd n g) (wp ep:Nat→Int) (hep:∀ j,j<g.2.1.length→0≤ep j∧ep j<(g.2.1.length:Int)) :
  eU g (mA n wp) (mA g.2.1.length ep)=some (renG n wp ep g):=by
 have hle:=h.le
 have hmx:aB=1099511627776:=rfl
 obtain ⟨w0,E,I,O⟩:=g
 dsimp only at hw hle hep ⊢
 subst hw
 have hl:(mpG (n:Int) wp ((n:Int),E,I,O)).2.1.length=E.length:=List.length_map _
 refine bnd (moved_ wp (n:Int) h) (bnd (a:=((n:Int),List.replicate E.length (0,0,[],[]))) (bnd (a:=List.replicate E.length (0,0,[],[])) ?_ rfl) ?_)
 · rw [hl];exact wF _ (by omega)
 ·
  rw [hl]
  refine bnd (AX_ (L:=E.map (mpE wp)) (by simp) hep (fun j e s he hj=>?_)) rfl
  refine bnd (pA he) (bnd (pE _ hj) ?_)
  show (iA s (ep j) e).bind _=_
  cases iA s (ep j) e <;> rfl
def cnG (n:Nat) (g:Gra):Gra:=renG n (fun k=>plc (walk n g).1 k) (fun k=>plc (walk n g).2 k) g
theorem Gq_ {n:Nat} (hn:n≤1000){g:Gra} (hw:g.1=(n:Int)) (h:Rgd n g) (hf:Full n g):yP g=some (cnG n g):=by
 have hle:=(aJ h).e.le
 refine bnd (Fg_ hn hw h hf) (bnd (hgRen_ hw h _ _ (fun j hj=>?_)) rfl)
 have:=mO (hf.e j hj)
 exact ⟨this.1,Int.lt_of_lt_of_le this.2 (Int.ofNat_le.2 hle)⟩
theorem Fe_ {n:Nat} (hn:n≤1000){g:Gra} (hw:g.1=(n:Int)) (h:Rgd n g) (hf:Full n g):mP g=some (cnG n g):=by
 have hle:=(aJ h).e.le
 refine bnd (Fh_ hn hw h hf) (bnd (gRen_ hw h _ _ (fun j hj=>?_)) rfl)
 have:=mO (hf.e j hj)
 exact ⟨this.1,Int.lt_of_lt_of_le this.2 (Int.ofNat_le.2 hle)⟩
end Go.Proofs.YtngbmcbigcaapaaGreatDoor
