/-
  Plain laws: graphs with other wires, graphs beside each other; ParGraphs. No program in sight. No condition.
-/
import Derived.Test.YtlggnmkelgplnaaGreatDoorZP35
import Derived.Test.YtlggnmkelgplnaaGreatDoorZP17
import Derived.Test.YtlggnmkelgplnaaGreatDoorZFn
namespace Go.Proofs.YtlggnmkelgplnaaGreatDoor
def lD {α:Type} (f f0:Nat→α) (j:Nat):Nat→α:=fun k=>if k<j then f k else f0 k
theorem AG_ {α:Type}{n:Nat} (f f0:Nat→α) (j:Nat):(gB n fun k=>if k=j then f j else lD f f0 j k)=gB n (lD f f0 (j+1)):=by
 refine dE fun k _=>?_
 unfold lD
 by_cases h:k=j
 · subst h;rw [if_pos rfl,if_pos (by omega)]
 ·
  rw [if_neg h]
  by_cases h2:k<j
  · rw [if_pos h2,if_pos (by omega)]
  · rw [if_neg h2,if_neg (by omega)]
theorem pM {α:Type}{n:Nat} (f f0:Nat→α){g:Nat→List α→Option (List α)} (hg:∀ j,j<n→g j (gB n (lD f f0 j))=some (gB n fun k=>if k=j then f j else lD f f0 j k)):forS g n 0 (gB n f0)=some (gB n f):=by
 have:=iD (f:=g) (n:=n) (fun j=>gB n (lD f f0 j)) (fun j hj=>by rw [hg j hj,AG_])
 have e0:gB n (lD f f0 0)=gB n f0:=dE fun k _=>by unfold lD;rw [if_neg (by omega)]
 have e1:gB n (lD f f0 n)=gB n f:=dE fun k hk=>by unfold lD;rw [if_pos hk]
 rw [e0,e1] at this
 exact this
theorem upT_ {n:Nat} (h:n≤1048576):uJ (n:Int)=some (gB n fun k=>(k:Int)):=by
 have hm:iB=1099511627776:=rfl
 refine bnd (cK (by omega)) ?_
 rw [AV_,kF]
 exact bnd (pM (fun k=>(k:Int)) (fun _=>0) (fun j hj=>bnd (jF _ _ hj) rfl)) rfl
theorem tX {n a:Nat} (h:n≤1048576) (ha:a≤1048576):xN (a:Int) (n:Int)=some (gB n fun k=>(k:Int)+a):=by
 refine bnd (upT_ h) ?_
 rw [kF]
 refine bnd (pM (fun k=>(k:Int)+a) (fun k=>(k:Int)) (fun j hj=>?_)) rfl
 have e:lD (fun k=>(k:Int)+a) (fun k=>(k:Int)) j j=(j:Int):=by unfold lD;rw [if_neg (by omega)]
 refine bnd (cE _ hj) ?_
 rw [e]
 exact bnd (jB (by omega) (by omega)) (bnd (jF _ _ hj) rfl)
def mp (t:Nat→Int) (l:List Int):List Int:=l.map fun x=>t x.toNat
def mpE (t:Nat→Int) (e:Edg):Edg:=(e.1,e.2.1,mp t (edI e),mp t (edO e))
def mpG (n:Int) (t:Nat→Int) (g:Gra):Gra:=(n,g.2.1.map (mpE t),mp t g.2.2.1,mp t g.2.2.2)
theorem mX {n:Nat}{l:List Int} (h:sE n l):mp (fun k=>(k:Int)) l=l:=by
 unfold mp
 refine (List.map_congr_left fun x hx=>?_).trans (List.map_id _)
 have:=h x hx
 show ((x.toNat:Nat):Int)=x
 omega
theorem qW {n:Nat}{l:List Int} (t:Nat→Int) (h:sE n l) (hl:l.length≤1048576):pJ l (gB n t)=some (mp t l):=by
 have hm:iB=1099511627776:=rfl
 refine bnd (yE (fun x=>t x.toNat) l [] (by simp;omega) (fun j x s' hj hs=>?_)) rfl
 have hx:=h x (aD hj)
 obtain ⟨k,rfl⟩:∃ k:Nat,x=(k:Int):=⟨x.toNat,by omega⟩
 have hjl:=(List.getElem?_eq_some_iff.1 hj).1
 refine bnd (pA hj) (bnd (cE _ (by omega)) (bnd (vB (by simp at hs ⊢;omega)) ?_))
 rfl
theorem uM {n:Nat}{l:List Int} (t:Nat→Int) (h:sE n l) (hl:l.length≤1048576):rJ l (gB n t)=some (mp t l):=by
 have hm:iB=1099511627776:=rfl
 refine bnd (bnd (C9_ _ (by omega)) (bnd (yE (fun x=>t x.toNat) l [] (by simp;omega) (fun j x s' hj hs=>?_)) rfl)) rfl
 have hx:=h x (aD hj)
 obtain ⟨k,rfl⟩:∃ k:Nat,x=(k:Int):=⟨x.toNat,by omega⟩
 have hjl:=(List.getElem?_eq_some_iff.1 hj).1
 refine bnd (pA hj) (bnd (cE _ (by omega)) (bnd (vB (by simp at hs ⊢;omega)) ?_))
 rfl
theorem nW {E:List Edg}{e:Edg} (s:Edg→List Int) (h:e∈E):(s e).length≤jD E s:=by
 unfold jD
 induction E with
 | nil=>cases h
 | cons x E ih=>
  rw [List.map_cons,List.flatten_cons,List.length_append]
  rcases List.mem_cons.1 h with rfl | h
  · omega
  · have:=ih h;omega
structure Rgd (n:Nat) (g:Gra):Prop where
 i:sE n g.2.2.1
 o:sE n g.2.2.2
 e:edRg n g.2.1
 li:g.2.2.1.length≤1000
 lo:g.2.2.2.length≤1000
 le:g.2.1.length≤1000
 ti:jD g.2.1 edI≤1000
 to:jD g.2.1 edO≤1000
theorem GOk.rgd {g:Gra}{n:Nat} (h:GOk g n):Rgd n g:=by
 have:=h.i12;have:=h.o12;have:=h.e60;have:=h.ti;have:=h.to
 exact ⟨h.i,h.o,h.e,by omega,by omega,by omega,by omega,by omega⟩
theorem BQ_ {n:Nat}{g:Gra} (t:Nat→Int) (w:Int) (h:Rgd n g):jQ g (gB n t) w=some (mpG w t g):=by
 have hm:iB=1099511627776:=rfl
 obtain ⟨w0,E,I,O⟩:=g
 obtain ⟨h1,h2,h3,h4,h5,h6,h7,h8⟩:=h
 dsimp only at h1 h2 h3 h4 h5 h6 h7 h8
 refine bnd (bnd (qW t h1 (by dsimp only;omega)) (bnd (qW t h2 (by dsimp only;omega)) rfl)) ?_
 refine bnd (yE (mpE t) E [] (by simp;omega) (fun j e s' hj hs=>?_)) rfl
 have he:=aD hj
 have hjl:=(List.getElem?_eq_some_iff.1 hj).1
 have l1:=nW edI he
 have l2:=nW edO he
 exact bnd (pA hj) (bnd (qW t (h3 e he).1 (show (edI e).length≤_ by omega)) (bnd (qW t (h3 e he).2 (show (edO e).length≤_ by omega)) (bnd (vB (by simp at hs ⊢;omega)) rfl)))
theorem BM_ {n:Nat}{g:Gra} (t:Nat→Int) (w:Int) (h:Rgd n g):jP g w (gB n t)=some (mpG w t g):=by
 have hm:iB=1099511627776:=rfl
 obtain ⟨w0,E,I,O⟩:=g
 obtain ⟨h1,h2,h3,h4,h5,h6,h7,h8⟩:=h
 dsimp only at h1 h2 h3 h4 h5 h6 h7 h8
 refine bnd (bnd (uM t h1 (by dsimp only;omega)) (bnd (uM t h2 (by dsimp only;omega)) rfl)) ?_
 refine bnd (yE (mpE t) E [] (by simp;omega) (fun j e s' hj hs=>?_)) rfl
 have he:=aD hj
 have hjl:=(List.getElem?_eq_some_iff.1 hj).1
 have l1:=nW edI he
 have l2:=nW edO he
 exact bnd (pA hj) (bnd (uM t (h3 e he).1 (show (edI e).length≤_ by omega)) (bnd (uM t (h3 e he).2 (show (edO e).length≤_ by omega)) (bnd (vB (by simp at hs ⊢;omega)) rfl)))
theorem Fe_ {n:Nat}{g:Gra} (h:Rgd n g):mpG g.1 (fun k=>(k:Int)) g=g:=by
 obtain ⟨w0,E,I,O⟩:=g
 obtain ⟨h1,h2,h3,_,_,_,_,_⟩:=h
 unfold mpG
 refine Prod.ext rfl (Prod.ext ?_ (Prod.ext (mX h1) (mX h2)))
 refine (List.map_congr_left fun e he=>?_).trans (List.map_id _)
 obtain ⟨k,v,a,b⟩:=e
 have:=h3 _ he
 unfold mpE
 exact Prod.ext rfl (Prod.ext rfl (Prod.ext (mX this.1) (mX this.2)))
theorem hgOwn_ {n:Nat}{g:Gra} (hn:n≤1000) (hw:g.1=(n:Int)) (h:Rgd n g):pU g=some g:=by
 have hm:iB=1099511627776:=rfl
 have e:=Fe_ h
 unfold pU
 rw [hw] at e ⊢
 refine bnd (vJ _ (by omega)) ?_
 rw [kF]
 refine bnd (pM (fun k=>(k:Int)) (fun _=>0) (fun j hj=>bnd (jF _ _ hj) rfl)) ?_
 have h2:=BQ_ (g:=g) (fun k=>(k:Int)) (n:Int) h
 rw [e] at h2
 obtain ⟨w0,E,I,O⟩:=g
 obtain rfl:w0=(n:Int):=hw
 exact bnd h2 rfl
def vL (n m:Nat) (a b:Gra):Gra:=
 (((n+m:Nat):Int),a.2.1++b.2.1.map (mpE fun k=>(k:Int)+n),a.2.2.1++mp (fun k=>(k:Int)+n) b.2.2.1,a.2.2.2++mp (fun k=>(k:Int)+n) b.2.2.2)
theorem mp_len (t:Nat→Int) (l:List Int):(mp t l).length=l.length:=by unfold mp;rw [List.length_map]
theorem Dy_ {n m:Nat}{a b:Gra} (hn:n≤1000) (hm:m≤1000) (wa:a.1=(n:Int)) (wb:b.1=(m:Int)) (ha:Rgd n a) (hb:Rgd m b):lT a b=some (vL n m a b):=by
 have hmm:iB=1099511627776:=rfl
 obtain ⟨w0,E,I,O⟩:=a
 obtain ⟨w1,E',I',O'⟩:=b
 obtain rfl:w0=(n:Int):=wa
 obtain rfl:w1=(m:Int):=wb
 have l1:=ha.li;have l2:=ha.lo;have l3:=ha.le;have k1:=hb.li;have k2:=hb.lo;have k3:=hb.le
 dsimp only at l1 l2 l3 k1 k2 k3
 refine bnd (vJ _ (by omega)) ?_
 rw [kF]
 refine bnd (pM (fun k=>(k:Int)+n) (fun _=>0) (fun j hj=>bnd (jB (by omega) (by omega)) (bnd (jF _ _ hj) rfl))) ?_
 refine bnd (hgOwn_ hn rfl ha) (bnd (BQ_ _ _ hb) (bnd (jB (by dsimp only;omega) (by dsimp only;omega)) (bnd (vB ?_) (bnd (vB ?_) (bnd (vB ?_) ?_)))))
 · unfold mpG;dsimp only;rw [mp_len];omega
 · unfold mpG;dsimp only;rw [mp_len];omega
 · unfold mpG;dsimp only;rw [List.length_map];omega
 · unfold mpG vL;dsimp only;push_cast;rfl
theorem E0_ {n m:Nat}{a b:Gra} (hn:n≤1000) (hm:m≤1000) (wa:a.1=(n:Int)) (wb:b.1=(m:Int)) (ha:Rgd n a) (hb:Rgd m b):zS a b=some (((n+m:Nat):Int),a.2.1++b.2.1.map (mpE fun k=>(k:Int)+n),[],[]):=by
 have hmm:iB=1099511627776:=rfl
 have e:=Fe_ ha
 obtain ⟨w0,E,I,O⟩:=a
 obtain ⟨w1,E',I',O'⟩:=b
 obtain rfl:w0=(n:Int):=wa
 obtain rfl:w1=(m:Int):=wb
 have l3:=ha.le;have k3:=hb.le
 dsimp only at l3 k3
 have h1:=BM_ (g:=((n:Int),E,I,O)) (fun k=>(k:Int)) (n:Int) ha
 dsimp only at e
 rw [e] at h1
 refine bnd (jB (by dsimp only;omega) (by dsimp only;omega)) (bnd (bnd (upT_ (by omega)) (bnd h1 rfl)) (bnd (bnd (tX (by omega) (by omega)) (bnd (BM_ _ _ hb) rfl)) (bnd (vB ?_) ?_)))
 · unfold mpG;dsimp only;rw [List.length_map];omega
 · unfold mpG;dsimp only;push_cast;rfl
theorem D3_ {a b:List Int} (h:a.length+b.length≤1048576):jH [a,b]=some (a++b):=by
 have hm:iB=1099511627776:=rfl
 refine bnd (a:=a++b) ?_ rfl
 refine bnd (a:=a) (bnd (a:=a) rfl (bnd (vB (by simp;omega)) rfl)) (bnd (a:=a++b) (bnd (a:=b) rfl (bnd (vB (by omega)) rfl)) rfl)
theorem Hz_ {n m:Nat}{a b:Gra} (hn:n≤1000) (hm:m≤1000) (wa:a.1=(n:Int)) (wb:b.1=(m:Int)) (ha:Rgd n a) (hb:Rgd m b):nP a b=some (vL n m a b):=by
 obtain ⟨w0,E,I,O⟩:=a
 obtain ⟨w1,E',I',O'⟩:=b
 obtain rfl:w0=(n:Int):=wa
 obtain rfl:w1=(m:Int):=wb
 have l1:=ha.li;have l2:=ha.lo;have k1:=hb.li;have k2:=hb.lo
 dsimp only at l1 l2 k1 k2
 refine bnd (E0_ hn hm rfl rfl ha hb) (bnd (tX (by omega) (by omega)) (bnd (uM _ hb.i (by dsimp only;omega)) (bnd (D3_ ?_) (bnd (uM _ hb.o (by dsimp only;omega)) (bnd (D3_ ?_) rfl)))))
 · dsimp only;rw [mp_len];omega
 · dsimp only;rw [mp_len];omega
def noG:Gra:=(0,[],[],[])
def ifG (g:Gra):Gra×Bool:=if gOk g=true then (g,true) else (noG,false)
theorem hgIf_ (g:Gra):sU g=some (ifG g):=by
 refine bnd (D5_ g) (stp ?_)
 unfold ifG
 cases gOk g <;> rfl
end Go.Proofs.YtlggnmkelgplnaaGreatDoor
namespace Go.Proofs.YtlggnmkelgplnaaGreatDoor
def joinC (c:Nat→Nat) (u v:Nat):Nat→Nat:=fun w=>if c w=max (c u) (c v) then min (c u) (c v) else c w
def xF (P:List (Int×Int)):Nat→Nat:=P.foldl (fun c p=>joinC c p.1.toNat p.2.toNat) id
theorem It_ (P:List (Int×Int)) (p:Int×Int):xF (P++[p])=joinC (xF P) p.1.toNat p.2.toNat:=by unfold xF;rw [List.foldl_append];rfl
theorem DD_ {P:List (Int×Int)}{j:Nat} (hj:j<P.length):xF (P.take (j+1))=joinC (xF (P.take j)) P[j].1.toNat P[j].2.toNat:=by
 rw [List.take_add_one,List.getElem?_eq_getElem hj];exact It_ _ _
structure Cls (c:Nat→Nat):Prop where
 le:∀ w,c w≤w
 idem:∀ w,c (c w)=c w
theorem Cls.join {c:Nat→Nat} (h:Cls c) (u v:Nat):Cls (joinC c u v):=by
 have iu:=h.idem u;have iv:=h.idem v
 refine ⟨fun w=>?_,fun w=>?_⟩
 ·
  unfold joinC
  have:=h.le w
  split <;> omega
 ·
  unfold joinC
  by_cases hw:c w=max (c u) (c v)
  ·
   rw [if_pos hw]
   have hk:c (min (c u) (c v))=min (c u) (c v):=by
    rcases Nat.le_total (c u) (c v) with h1 | h1
    · rw [Nat.min_eq_left h1,iu]
    · rw [Nat.min_eq_right h1,iv]
   rw [hk]
   split <;> rfl
  · rw [if_neg hw,h.idem w,if_neg hw]
theorem uW:∀ P:List (Int×Int),Cls (xF P):=by
 intro P
 have key:∀ (P:List (Int×Int)) (c:Nat→Nat),Cls c→Cls (P.foldl (fun c p=>joinC c p.1.toNat p.2.toNat) c):=by
  intro P
  induction P with
  | nil=>intro c h;exact h
  | cons p P ih=>intro c h;exact ih _ (h.join _ _)
 exact key P id ⟨fun w=>Nat.le_refl _,fun w=>rfl⟩
structure Forest (n:Nat) (c cls:Nat→Nat):Prop where
 le:∀ w,w<n→c w≤w
 fix:∀ w,w<n→c w=w→cls w=w
 up:∀ w,w<n→cls (c w)=cls w
def kE (n:Nat) (c:Nat→Nat):List Int:=gB n fun k=>(c k:Int)
theorem jX {n:Nat}{c cls:Nat→Nat} (h:Forest n c cls){w:Nat} (hw:w<n):sK (kE n c) (w:Int)=some (cls w:Int):=by
 obtain ⟨t,h1,rfl⟩:=CY_ (f:=fun (s126:Int)=>
   (idxO (kE n c) s126).bind fun a141=>
   (some (!decide (a141=s126))).bind fun a143=>
   cond a143
   ((idxO (kE n c) s126).bind fun a154=>
    some (.inl a154))
   (some (.inr s126))) (fun s=>∃ k:Nat,s=(k:Int)∧k<n∧cls k=cls w) (fun t=>t=(cls w:Int)) (fun s=>s.toNat) (by
  rintro s ⟨k,rfl,hk,he⟩
  have hi:idxO (kE n c) (k:Int)=some (c k:Int):=cE _ hk
  have hle:=h.le k hk
  by_cases hf:c k=k
  ·
   refine .inr ⟨(k:Int),bnd hi (stp (cFW (nT (dT (by omega))) rfl)),?_⟩
   rw [←he,h.fix k hk hf]
  · exact .inl ⟨(c k:Int),bnd hi (stp (cTW (nF (dF (by omega))) (bnd hi rfl))),⟨c k,rfl,by omega,by rw [h.up k hk,he]⟩,by omega⟩) (s:=(w:Int)) ⟨w,rfl,hw,rfl⟩
 exact bnd h1 rfl
theorem Forest.join {n:Nat}{c cls:Nat→Nat} (h:Forest n c cls) (hc:Cls cls) (u v:Nat):Forest n (fun k=>if k=max (cls u) (cls v) then min (cls u) (cls v) else c k) (joinC cls u v):=by
 have iu:=hc.idem u;have iv:=hc.idem v
 have hm:cls (max (cls u) (cls v))=max (cls u) (cls v):=by
  rcases Nat.le_total (cls u) (cls v) with h1 | h1
  · rw [Nat.max_eq_right h1,iv]
  · rw [Nat.max_eq_left h1,iu]
 have hk:cls (min (cls u) (cls v))=min (cls u) (cls v):=by
  rcases Nat.le_total (cls u) (cls v) with h1 | h1
  · rw [Nat.min_eq_left h1,iu]
  · rw [Nat.min_eq_right h1,iv]
 refine ⟨fun w hw=>?_,fun w hw=>?_,fun w hw=>?_⟩
 ·
  have:=h.le w hw
  split <;> omega
 ·
  unfold joinC
  intro hf
  by_cases hwm:w=max (cls u) (cls v)
  ·
   rw [if_pos hwm] at hf
   subst hwm
   rw [hm,if_pos rfl];exact hf
  ·
   rw [if_neg hwm] at hf
   have:=h.fix w hw hf
   rw [this,if_neg hwm]
 ·
  unfold joinC
  by_cases hwm:w=max (cls u) (cls v)
  ·
   rw [if_pos hwm,hwm,hm,if_pos rfl,hk]
   split <;> rfl
  · rw [if_neg hwm,h.up w hw]
theorem Ih_ (a b:Nat):bP (a:Int) (b:Int)=((max a b:Nat):Int):=by unfold bP;split <;> omega
theorem Ig_ (a b:Nat):aP (a:Int) (b:Int)=((min a b:Nat):Int):=by unfold aP;split <;> omega
theorem join_ {n:Nat}{c cls:Nat→Nat} (h:Forest n c cls) (hc:Cls cls){u v:Nat} (hu:u<n) (hv:v<n):yS (kE n c) (u:Int) (v:Int)=some (kE n fun k=>if k=max (cls u) (cls v) then min (cls u) (cls v) else c k):=by
 have l1:=hc.le u;have l2:=hc.le v
 refine bnd (jX h hu) (bnd (jX h hv) (stp (stp ?_)))
 rw [Ih_,Ig_]
 refine bnd (jF _ _ (by omega)) (congrArg some (dE fun k _=>?_))
 show _=((if k=max (cls u) (cls v) then min (cls u) (cls v) else c k:Nat):Int)
 split <;> rfl
def sD (cls:Nat→Nat) (W:List Int) (r:Nat):Bool:=W.any fun x=>decide (cls x.toNat=r)
def numW (cls:Nat→Nat) (W:List Int) (j:Nat):Nat:=(List.range j).countP fun k=>decide (cls k=k)&&sD cls W k
theorem Ds_ (cls:Nat→Nat) (W:List Int) (j:Nat):numW cls W (j+1)=numW cls W j+(if (decide (cls j=j)&&sD cls W j)=true then 1 else 0):=by
 unfold numW
 rw [List.range_succ,List.countP_append,List.countP_singleton]
theorem ED_ (cls:Nat→Nat) (W:List Int) (j:Nat):numW cls W j≤j:=by
 have:=List.countP_le_length (p:=fun k=>decide (cls k=k)&&sD cls W k) (l:=List.range j)
 rwa [List.length_range] at this
def toW (cls:Nat→Nat) (W:List Int) (k:Nat):Int:=if sD cls W (cls k)=true then (numW cls W (cls k):Int) else -1
theorem Hf_ {n:Nat}{cls:Nat→Nat}{W:List Int} (h:sE n W) (r:Nat):((List.range n).any fun w=>decide ((w:Int)∈W)&&decide (cls w=r))=sD cls W r:=by
 unfold sD
 rw [Bool.eq_iff_iff,List.any_eq_true,List.any_eq_true]
 constructor
 ·
  rintro ⟨w,hw,hb⟩
  simp only [Bool.and_eq_true,decide_eq_true_eq] at hb
  exact ⟨(w:Int),hb.1,dT (by rw [Int.toNat_natCast];exact hb.2)⟩
 ·
  rintro ⟨x,hx,hb⟩
  have hb:=of_decide_eq_true hb
  have:=h x hx
  refine ⟨x.toNat,List.mem_range.2 (by omega),?_⟩
  have e:((x.toNat:Nat):Int)=x:=by omega
  rw [e,dT hx,dT hb];rfl
theorem bX {n:Nat}{c cls:Nat→Nat} (h:Forest n c cls) (hc:Cls cls){l:List Int} (hl:sE n l) (d:List Int):tK l (gB n (sD cls d)) (kE n c)=some (gB n (sD cls (d++l))):=by
 have:=iD (n:=l.length) (fun j=>gB n (sD cls (d++l.take j))) (f:=fun (k6:Nat) (s53:List Bool)=>
   (idxO l ((k6:Nat):Int)).bind fun a68=>
   (sK (kE n c) a68).bind fun y71=>
   (setO s53 y71 true).bind fun a80=>
   some a80) (fun j hj=>by
  have hx:=hl _ (List.getElem_mem hj)
  obtain ⟨m,hm⟩:∃ m:Nat,l[j]=(m:Int):=⟨l[j].toNat,by omega⟩
  have hle:=hc.le m
  refine bnd (pA (List.getElem?_eq_getElem hj)) ?_
  rw [hm]
  refine bnd (jX h (by omega)) (bnd (jF _ _ (by omega)) (congrArg some (dE fun k _=>?_)))
  have e:l.take (j+1)=l.take j++[(m:Int)]:=by rw [List.take_add_one,List.getElem?_eq_getElem hj,hm];rfl
  rw [e]
  unfold sD
  rw [←List.append_assoc,List.any_append (xs:=d++l.take j)]
  simp only [List.any_cons,List.any_nil,Bool.or_false,Int.toNat_natCast]
  by_cases hk:k=cls m
  · rw [if_pos hk,dT hk.symm,Bool.or_true]
  · rw [if_neg hk,dF (fun e=>hk e.symm),Bool.or_false])
 rw [List.take_zero,List.append_nil,List.take_length] at this
 exact bnd this rfl
theorem glueL_ {n:Nat}{c cls:Nat→Nat} (h:Forest n c cls) (hc:Cls cls){g:Gra} (hg:Rgd n g):yX g (gB n fun _=>false) (kE n c)=some (gB n (sD cls (mD g))):=by
 obtain ⟨w0,E,I,O⟩:=g
 have h0:(gB n fun _=>false)=gB n (sD cls []):=rfl
 rw [h0]
 refine bnd (bX h hc hg.i []) (bnd (bX h hc hg.o ([]++I)) ?_)
 have:=iD (n:=E.length) (fun j=>gB n (sD cls ([]++I++O++((E.take j).map fun e=>edI e++edO e).flatten))) (f:=fun (k17:Nat) (s70:List Bool)=>
   (idxO E ((k17:Nat):Int)).bind fun a85=>
   (tK a85.2.2.1 s70 (kE n c)).bind fun y97=>
   (tK a85.2.2.2 y97 (kE n c)).bind fun y100=>
   some y100) (fun j hj=>by
  have e1:[]++I++O++((E.take (j+1)).map fun e=>edI e++edO e).flatten=[]++I++O++((E.take j).map fun e=>edI e++edO e).flatten++edI E[j]++edO E[j]:=by
   rw [List.take_add_one,List.getElem?_eq_getElem hj,List.map_append,List.flatten_append]
   simp only [Option.toList_some,List.map_cons,List.map_nil,List.flatten_cons,List.flatten_nil,List.append_nil,List.append_assoc]
  have he:=hg.e _ (List.getElem_mem hj)
  rw [e1]
  exact bnd (pA (List.getElem?_eq_getElem hj)) (bnd (bX h hc he.1 _) (bnd (bX h hc he.2 _) rfl)))
 simp only [List.take_zero,List.take_length,List.map_nil,List.flatten_nil,List.append_nil] at this
 refine bnd this ?_
 unfold mD
 simp only [List.nil_append]
def gluG (g:Gra) (n:Nat) (P:List (Int×Int)):Gra:=mpG (numW (xF P) (mD g) n:Int) (toW (xF P) (mD g)) g
theorem glue_ {n:Nat}{g:Gra}{P:List (Int×Int)} (hn:n≤1000) (hw:g.1=(n:Int)) (hg:Rgd n g) (hP:∀ p∈P,(0≤p.1∧p.1<(n:Int))∧(0≤p.2∧p.2<(n:Int))) :
  oY g P=some (gluG g n P,gB n (toW (xF P) (mD g))):=by
 have hm:iB=1099511627776:=rfl
 obtain ⟨w0,E,I,O⟩:=g
 obtain rfl:w0=(n:Int):=hw
 have hcl:=uW P
 obtain ⟨s,a1,c,rfl,hF⟩:=D7_ (n:=P.length) (s:=gB n fun k=>(k:Int)) (f:=fun (k20:Nat) (s59:List Int)=>
   (idxO P ((k20:Nat):Int)).bind fun a74=>
   (yS s59 a74.1 a74.2).bind fun y82=>
   some y82) (fun j s=>∃ c,s=kE n c∧Forest n c (xF (P.take j))) ⟨id,rfl,fun w _=>Nat.le_refl _,fun w _ _=>rfl,fun w _=>rfl⟩ (by
  rintro j s hj ⟨c,rfl,hF⟩
  obtain ⟨p1,p2⟩:=hP _ (List.getElem_mem hj)
  obtain ⟨u,hu⟩:∃ u:Nat,P[j].1=(u:Int):=⟨P[j].1.toNat,by omega⟩
  obtain ⟨v,hv⟩:∃ v:Nat,P[j].2=(v:Int):=⟨P[j].2.toNat,by omega⟩
  have hj2:=join_ hF (uW _) (u:=u) (v:=v) (by omega) (by omega)
  rw [←hu,← hv] at hj2
  refine ⟨_,bnd (pA (List.getElem?_eq_getElem hj)) (bnd hj2 rfl),_,rfl,?_⟩
  rw [DD_ hj,hu,hv,Int.toNat_natCast,Int.toNat_natCast]
  exact hF.join (uW _) u v)
 rw [List.take_length] at hF
 generalize hcls:xF P=cls at hcl hF
 generalize hW:mD ((n:Int),E,I,O)=W
 have hG:=glueL_ hF hcl hg
 rw [hW] at hG
 have hz:wG (n:Int)=some (gB n fun _=>(0:Int)):=by rw [cK (by omega),AV_]
 have fin:=iD (n:=n) (fun j=>(gB n (lD (toW cls W) (fun _=>0) j),(numW cls W j:Int))) (f:=fun (k106:Nat) (s223:List Int×Int)=>
   (sK (kE n c) ((k106:Nat):Int)).bind fun y232=>
   (idxO (gB n (sD cls W)) y232).bind fun a241=>
   (some (!a241)).bind fun a243=>
   cond a243
   ((setO s223.1 ((k106:Nat):Int) (-1)).bind fun a285=>
    some (a285,s223.2))
   ((some (decide (y232<((k106:Nat):Int)))).bind fun a246=>
    cond a246
    ((idxO s223.1 y232).bind fun a267=>
     (setO s223.1 ((k106:Nat):Int) a267).bind fun a275=>
     some (a275,s223.2))
    ((setO s223.1 ((k106:Nat):Int) s223.2).bind fun a255=>
     (qA s223.2 1).bind fun a258=>
     some (a255,a258)))) (fun j hj=>by
  have hle:=hcl.le j
  have hid:=hcl.idem j
  have hnl:=ED_ cls W j
  have hns:=Ds_ cls W j
  refine bnd (jX hF hj) (bnd (cE _ (by omega)) (stp ?_))
  rw [←AG_]
  cases hu:sD cls W (cls j) with
  | false=>
   have ht:toW cls W j = -1:=by unfold toW;rw [hu];rfl
   have hn0:numW cls W (j+1)=numW cls W j:=by
    rw [hns]
    by_cases he:cls j=j
    · rw [he] at hu;rw [hu,Bool.and_false];rfl
    · rw [dF he];rfl
   refine cTW rfl (bnd (jF _ _ hj) ?_)
   rw [ht,hn0]
  | true=>
   have ht:toW cls W j=(numW cls W (cls j):Int):=by unfold toW;rw [hu];rfl
   by_cases he:cls j=j
   ·
    have hn1:numW cls W (j+1)=numW cls W j+1:=by
     rw [hns,dT he];rw [he] at hu;rw [hu];rfl
    refine cFW rfl (stp (cFW (dF (by omega)) (bnd (jF _ _ hj) (bnd (jB (by dsimp only;omega) (by dsimp only;omega)) ?_))))
    rw [ht,he,hn1];push_cast;rfl
   ·
    have hn0:numW cls W (j+1)=numW cls W j:=by rw [hns,dF he];rfl
    have hlt:cls j<j:=by omega
    refine cFW rfl (stp (cTW (dT (by omega)) (bnd (cE _ (by omega)) (bnd (jF _ _ hj) ?_))))
    have e:lD (toW cls W) (fun _=>0) j (cls j)=toW cls W j:=by
     unfold lD;rw [if_pos hlt];unfold toW;rw [hid]
    rw [e,hn0])
 have e0:gB n (lD (toW cls W) (fun _=>0) 0)=gB n fun _=>0:=dE fun k _=>by unfold lD;rw [if_neg (by omega)]
 have e1:gB n (lD (toW cls W) (fun _=>0) n)=gB n (toW cls W):=dE fun k hk=>by unfold lD;rw [if_pos hk]
 have e2:numW cls W 0=0:=rfl
 rw [e0,e1,e2] at fin
 refine bnd (upT_ (by omega)) (bnd a1 (bnd (vJ _ (by omega)) (bnd hG (bnd hz ?_))))
 rw [kF]
 refine bnd fin (bnd (BM_ _ _ hg) ?_)
 unfold gluG
 rw [hcls,hW]
theorem Dw_ {n:Nat}{a b:List Int} (ha:sE n a) (hb:sE n b):sE n (a++b):=by
 intro x hx
 rcases List.mem_append.1 hx with h | h
 · exact ha x h
 · exact hb x h
theorem l1Most_ (a b:Nat):bQ (a:Int) (b:Int)=some ((max a b:Nat):Int):=by
 unfold bQ
 by_cases h:b<a
 · refine stp (cTW (dT (by omega)) ?_);rw [Nat.max_eq_left (by omega)]
 · refine stp (cFW (dF (by omega)) ?_);rw [Nat.max_eq_right (by omega)]
theorem IR_ (a b:Nat):vP (a:Int) (b:Int)=some ((min a b:Nat):Int):=by
 unfold vP
 by_cases h:a<b
 · refine stp (cTW (dT (by omega)) ?_);rw [Nat.min_eq_left (by omega)]
 · refine stp (cFW (dF (by omega)) ?_);rw [Nat.min_eq_right (by omega)]
theorem cnt_mem {E:List Edg}{I O:List Int}{w:Int} (j:Nat):(j:Int)∈mD (w,E,I,O)↔(0:Int)<((I.count (j:Int)+lE E edO j:Nat):Int)+((O.count (j:Int)+lE E edI j:Nat):Int):=by
 rw [DY_]
 dsimp only
 have z1:I.count (j:Int)=0↔¬(j:Int)∈I:=List.count_eq_zero
 have z2:O.count (j:Int)=0↔¬(j:Int)∈O:=List.count_eq_zero
 have z3:=lW (E:=E) (s:=edI) (k:=j)
 have z4:=lW (E:=E) (s:=edO) (k:=j)
 constructor
 ·
  intro h
  refine Decidable.byContradiction fun h0=>?_
  have y1:=z1.1 (by omega);have y2:=z2.1 (by omega);have y3:=z3.1 (by omega);have y4:=z4.1 (by omega)
  rcases h with h | h | ⟨e,he,h | h⟩
  · exact y1 h
  · exact y2 h
  · exact y3 ⟨e,he,h⟩
  · exact y4 ⟨e,he,h⟩
 ·
  intro h
  refine Decidable.byContradiction fun hc=>?_
  simp only [not_or] at hc
  have y1:=z1.2 hc.1;have y2:=z2.2 hc.2.1
  have y3:=z3.2 (fun ⟨e,he,hk⟩=>hc.2.2 ⟨e,he,.inl hk⟩)
  have y4:=z4.2 (fun ⟨e,he,hk⟩=>hc.2.2 ⟨e,he,.inr hk⟩)
  omega
theorem IU_ {n:Nat}{g:Gra}{A B:List Int} (hn:n≤1000) (hw:g.1=(n:Int)) (hg:Rgd n g) (hA:sE n A) (hB:sE n B) (hl:A.length=B.length) :
  dZ g A B=some (gluG g n (A.zip B),gB n (toW (xF (A.zip B)) (mD g))):=by
 have hm:iB=1099511627776:=rfl
 obtain ⟨w0,E,I,O⟩:=g
 obtain rfl:w0=(n:Int):=hw
 have hcl:=uW (A.zip B)
 have hzl:(A.zip B).length=A.length:=by rw [List.length_zip,hl,Nat.min_self]
 have li:=hg.li;have lo:=hg.lo;have ti:=hg.ti;have to:=hg.to
 dsimp only at li lo ti to
 have a1:=iD (n:=A.length) (fun j=>kE n (xF ((A.zip B).take j))) (f:=fun (k62:Nat) (s337:List Int)=>
   (idxO A ((k62:Nat):Int)).bind fun a353=>
   (idxO B ((k62:Nat):Int)).bind fun a361=>
   (idxO s337 a353).bind fun a369=>
   (idxO s337 a361).bind fun a377=>
   (forS (fun (k379:Nat) (s440:List Int)=>
     (idxO s440 ((k379:Nat):Int)).bind fun a456=>
     (bQ a369 a377).bind fun y458=>
     (some (decide (a456=y458))).bind fun a461=>
     cond a461
     ((vP a369 a377).bind fun y465=>
      (setO s440 ((k379:Nat):Int) y465).bind fun a474=>
      some a474)
     (some s440)) s337.length 0 s337).bind fun (s479:List Int)=>
   some s479) (fun j hj=>by
  have hjz:j<(A.zip B).length:=by omega
  have hz:(A.zip B)[j]=(A[j],B[j]'(by omega)):=List.getElem_zip
  have h1:=hA _ (List.getElem_mem hj)
  have h2:=hB _ (List.getElem_mem (show j<B.length by omega))
  obtain ⟨u,hu⟩:∃ u:Nat,A[j]=(u:Int):=⟨A[j].toNat,by omega⟩
  obtain ⟨v,hv⟩:∃ v:Nat,B[j]'(by omega)=(v:Int):=⟨(B[j]'(by omega)).toNat,by omega⟩
  have hun:u<n:=by omega
  have hvn:v<n:=by omega
  rw [DD_ hjz,hz]
  dsimp only
  rw [hu,hv,Int.toNat_natCast,Int.toNat_natCast]
  generalize xF ((A.zip B).take j)=cls
  refine bnd (pA (List.getElem?_eq_getElem hj)) (bnd (pA (List.getElem?_eq_getElem (show j<B.length by omega))) ?_)
  rw [hu,hv]
  refine bnd (cE _ hun) (bnd (cE _ hvn) (bnd (a:=kE n (joinC cls u v)) ?_ rfl))
  unfold kE
  rw [kF]
  refine pM (fun k=>(joinC cls u v k:Int)) (fun k=>(cls k:Int)) (fun k hk=>?_)
  have e:lD (fun k=>(joinC cls u v k:Int)) (fun k=>(cls k:Int)) k k=(cls k:Int):=by unfold lD;rw [if_neg (by omega)]
  refine bnd (cE _ hk) ?_
  rw [e]
  refine bnd (l1Most_ _ _) (stp ?_)
  by_cases hc:cls k=max (cls u) (cls v)
  ·
   refine cTW (dT (by omega)) (bnd (IR_ _ _) (bnd (jF _ _ hk) ?_))
   unfold joinC;rw [if_pos hc]
  ·
   refine cFW (dF (by omega)) (congrArg some (dE fun q _=>?_))
   by_cases hq:q=k
   · subst hq;rw [if_pos rfl,e];unfold joinC;rw [if_neg hc]
   · rw [if_neg hq])
 rw [show xF ((A.zip B).take 0)=id from by rw [List.take_zero];rfl,show (A.zip B).take A.length=A.zip B from by rw [←hzl,List.take_length]] at a1
 generalize hcls:xF (A.zip B)=cls at hcl a1
 generalize hW:mD ((n:Int),E,I,O)=W
 have hWr:sE n W:=by
  rw [←hW]
  unfold mD
  refine Dw_ (Dw_ hg.i hg.o) (fun x hx=>?_)
  obtain ⟨l,hl',hx⟩:=List.mem_flatten.1 hx
  obtain ⟨e,he,rfl⟩:=List.mem_map.1 hl'
  rcases List.mem_append.1 hx with h | h
  · exact (hg.e e he).1 x h
  · exact (hg.e e he).2 x h
 have a2:=iD (n:=n) (fun j=>gB n fun r=>(List.range j).any fun w=>decide ((w:Int)∈W)&&decide (cls w=r)) (f:=fun (k497:Nat) (s582:List Bool)=>
   (idxO (kE n cls) ((k497:Nat):Int)).bind fun a597=>
   (idxO (gB n fun k=>((I.count (k:Int)+lE E edO k:Nat):Int)) ((k497:Nat):Int)).bind fun a606=>
   (idxO (gB n fun k=>((O.count (k:Int)+lE E edI k:Nat):Int)) ((k497:Nat):Int)).bind fun a614=>
   (qA a606 a614).bind fun a616=>
   (some (decide ((0:Int)<a616))).bind fun a618=>
   cond a618
   ((setO s582 a597 true).bind fun a628=>
    some a628)
   (some s582)) (fun j hj=>by
  have hle:=hcl.le j
  have c1:I.count (j:Int)≤I.length:=List.count_le_length
  have c2:O.count (j:Int)≤O.length:=List.count_le_length
  have c3:lE E edI j≤jD E edI:=List.count_le_length
  have c4:lE E edO j≤jD E edO:=List.count_le_length
  have hmem:=cnt_mem (E:=E) (I:=I) (O:=O) (w:=(n:Int)) j
  rw [hW] at hmem
  refine bnd (cE _ hj) (bnd (cE _ hj) (bnd (cE _ hj) (bnd (jB (by omega) (by omega)) (stp ?_))))
  by_cases hin:(j:Int)∈W
  ·
   refine cTW (dT (hmem.1 hin)) (bnd (jF _ _ (by omega)) (congrArg some (dE fun k _=>?_)))
   rw [List.range_succ,List.any_append]
   simp only [List.any_cons,List.any_nil,Bool.or_false,dT hin,Bool.true_and]
   by_cases hk:k=cls j
   · rw [if_pos hk,dT hk.symm,Bool.or_true]
   · rw [if_neg hk,dF (fun e=>hk e.symm),Bool.or_false]
  ·
   refine cFW (dF (fun h=>hin (hmem.2 h))) (congrArg some (dE fun k _=>?_))
   rw [List.range_succ,List.any_append]
   simp only [List.any_cons,List.any_nil,Bool.or_false,dF hin,Bool.false_and])
 have e2:(gB n fun r=>(List.range n).any fun w=>decide ((w:Int)∈W)&&decide (cls w=r))=gB n (sD cls W):=dE fun k _=>Hf_ hWr k
 have e20:(gB n fun r=>(List.range 0).any fun w=>decide ((w:Int)∈W)&&decide (cls w=r))=gB n fun _=>false:=rfl
 rw [e2,e20] at a2
 have a3:=iD (n:=n) (fun j=>(gB n (lD (fun k=>if (decide (cls k=k)&&sD cls W k)=true then (numW cls W k:Int) else 0) (fun _=>0) j),(numW cls W j:Int))) (f:=fun (k640:Nat) (s767:List Int×Int)=>
   ((idxO (kE n cls) ((k640:Nat):Int)).bind fun a808=>
    (some (decide (a808=((k640:Nat):Int)))).bind fun a810=>
    cond a810
    ((idxO (gB n (sD cls W)) ((k640:Nat):Int)).bind fun a820=>
     some a820)
    (some false)).bind fun (s796:Bool)=>
   cond s796
   ((setO s767.1 ((k640:Nat):Int) s767.2).bind fun a832=>
    (qA s767.2 1).bind fun a835=>
    some (a832,a835))
   (some (s767.1,s767.2))) (fun j hj=>by
  have hns:=Ds_ cls W j
  have hnl:=ED_ cls W j
  have hcond:((idxO (kE n cls) (j:Int)).bind fun a808=>
    (some (decide (a808=(j:Int)))).bind fun a810=>
    cond a810
    ((idxO (gB n (sD cls W)) (j:Int)).bind fun a820=>
     some a820)
    (some false))=some (decide (cls j=j)&&sD cls W j):=by
   refine bnd (cE _ hj) (stp ?_)
   by_cases he:cls j=j
   · rw [dT he];exact cTW (dT (by omega)) (bnd (cE _ hj) rfl)
   · rw [dF he];exact cFW (dF (by omega)) rfl
  refine bnd hcond ?_
  rw [←AG_]
  cases hb:(decide (cls j=j)&&sD cls W j) with
  | true=>
   rw [hb] at hns
   refine cTW rfl (bnd (jF _ _ hj) (bnd (jB (by dsimp only;omega) (by dsimp only;omega)) ?_))
   rw [hns,if_pos rfl,if_pos rfl];push_cast;rfl
  | false=>
   rw [hb] at hns
   refine cFW rfl (congrArg some (Prod.ext (dE fun k _=>?_) ?_))
   ·
    by_cases hk:k=j
    · subst hk;rw [if_pos rfl,if_neg (by simp)];unfold lD;rw [if_neg (by omega)]
    · rw [if_neg hk]
   · show (numW cls W j:Int)=(numW cls W (j+1):Int);rw [hns,if_neg (by simp)];rfl)
 have e3:∀ f:Nat→Int,gB n (lD f (fun _=>0) n)=gB n f:=fun f=>dE fun k hk=>by unfold lD;rw [if_pos hk]
 have e30:∀ f:Nat→Int,gB n (lD f (fun _=>0) 0)=gB n fun _=>0:=fun f=>dE fun k hk=>by unfold lD;rw [if_neg (by omega)]
 rw [e3,e30,show numW cls W 0=0 from rfl] at a3
 have a4:=pM (n:=n) (toW cls W) (fun k=>if (decide (cls k=k)&&sD cls W k)=true then (numW cls W k:Int) else 0) (g:=fun (k841:Nat) (s954:List Int)=>
   (idxO (kE n cls) ((k841:Nat):Int)).bind fun a969=>
   (idxO s954 a969).bind fun a977=>
   (setO s954 ((k841:Nat):Int) a977).bind fun a985=>
   (idxO (kE n cls) ((k841:Nat):Int)).bind fun a994=>
   (idxO (gB n (sD cls W)) a994).bind fun a1002=>
   (some (!a1002)).bind fun a1004=>
   cond a1004
   ((setO a985 ((k841:Nat):Int) (-1)).bind fun a1014=>
    some a1014)
   (some a985)) (fun j hj=>by
  have hle:=hcl.le j
  have hid:=hcl.idem j
  refine bnd (cE _ hj) (bnd (cE _ (by omega)) (bnd (jF _ _ hj) (bnd (cE _ hj) (bnd (cE _ (by omega)) (stp ?_)))))
  cases hu:sD cls W (cls j) with
  | false=>
   have ht:toW cls W j = -1:=by unfold toW;rw [hu];rfl
   refine cTW rfl (bnd (jF _ _ hj) (congrArg some (dE fun k _=>?_)))
   rw [ht]
   by_cases hk:k=j
   · rw [if_pos hk,if_pos hk]
   · rw [if_neg hk,if_neg hk,if_neg hk]
  | true=>
   have ht:toW cls W j=(numW cls W (cls j):Int):=by unfold toW;rw [hu];rfl
   refine cFW rfl (congrArg some (dE fun k _=>?_))
   by_cases hk:k=j
   ·
    rw [if_pos hk,if_pos hk,ht]
    unfold lD
    by_cases he:cls j<j
    · rw [if_pos he];unfold toW;rw [hid,hu];rfl
    ·
     have he:cls j=j:=by omega
     rw [he] at hu ⊢
     rw [if_neg (by omega)]
     show (if (decide (cls j=j)&&sD cls W j)=true then (numW cls W j:Int) else 0)=(numW cls W j:Int)
     rw [dT he,hu];rfl
   · rw [if_neg hk,if_neg hk])
 refine bnd (vJ _ (by omega)) ?_
 rw [kF]
 refine bnd (pM (fun k=>(k:Int)) (fun _=>0) (fun j hj=>bnd (jF _ _ hj) rfl)) ?_
 refine bnd a1 ?_
 refine bnd (Dx_ (E:=E) (I:=I) (O:=O) (by omega) hg.i hg.o hg.e (by omega)) (bnd (vJ _ (by omega)) ?_)
 have hlN:(kE n cls).length=n:=kF _ _
 rw [hlN]
 refine bnd a2 (bnd (vJ _ (by omega)) ?_)
 rw [kF]
 refine bnd a3 ?_
 dsimp only
 rw [kF]
 refine bnd a4 (bnd (BQ_ _ _ hg) ?_)
 unfold gluG
 rw [hcls,hW]
end Go.Proofs.YtlggnmkelgplnaaGreatDoor
namespace Go.Proofs.YtlggnmkelgplnaaGreatDoor
def shf (n:Nat):Nat→Int:=fun k=>(k:Int)+n
theorem qR {n m:Nat}{l:List Int} (h:sE m l):sE (n+m) (mp (shf n) l):=by
 intro x hx
 obtain ⟨y,hy,rfl⟩:=List.mem_map.1 hx
 have:=h y hy
 unfold shf
 omega
theorem cR {n m:Nat}{l:List Int} (h:sE n l):sE (n+m) l:=fun x hx=>by have:=h x hx;omega
theorem DK_ (s:Edg→List Int) (t:Nat→Int) (hs:∀ e,(s (mpE t e)).length=(s e).length):∀ E:List Edg,jD (E.map (mpE t)) s=jD E s:=by
 intro E
 induction E with
 | nil=>rfl
 | cons e E ih=>
  unfold jD at ih ⊢
  simp only [List.map_cons,List.flatten_cons,List.length_append]
  rw [hs,ih]
theorem DL_ (s:Edg→List Int) (E E':List Edg):jD (E++E') s=jD E s+jD E' s:=by
 unfold jD;rw [List.map_append,List.flatten_append,List.length_append]
theorem edI_mp (t:Nat→Int) (e:Edg):edI (mpE t e)=mp t (edI e):=rfl
theorem edO_mp (t:Nat→Int) (e:Edg):edO (mpE t e)=mp t (edO e):=rfl
def xL (n m:Nat) (a b:Gra):Gra:=(((n+m:Nat):Int),a.2.1++b.2.1.map (mpE (shf n)),a.2.2.1,mp (shf n) b.2.2.2)
theorem Eo_ {n m:Nat}{a b:Gra} (ha:GOk a n) (hb:GOk b m):Rgd (n+m) (xL n m a b):=by
 have h1:=ha.e60;have h2:=hb.e60;have h3:=ha.i12;have h4:=hb.o12;have h5:=ha.ti;have h6:=ha.to;have h7:=hb.ti;have h8:=hb.to
 refine ⟨cR ha.i,qR hb.o,fun e he=>?_,by unfold xL;dsimp only;omega,by unfold xL;dsimp only;rw [mp_len];omega,by unfold xL;dsimp only;rw [List.length_append,List.length_map];omega,?_,?_⟩
 ·
  rcases List.mem_append.1 he with h | h
  · exact ⟨cR (ha.e e h).1,cR (ha.e e h).2⟩
  ·
   obtain ⟨e',he',rfl⟩:=List.mem_map.1 h
   exact ⟨qR (hb.e e' he').1,qR (hb.e e' he').2⟩
 ·
  unfold xL;dsimp only
  rw [DL_,DK_ edI _ (fun e=>by rw [edI_mp,mp_len])];omega
 ·
  unfold xL;dsimp only
  rw [DL_,DK_ edO _ (fun e=>by rw [edO_mp,mp_len])];omega
def pSeq (n m:Nat) (a b:Gra):Gra:=gluG (xL n m a b) (n+m) (a.2.2.2.zip (mp (shf n) b.2.2.1))
theorem hgSeq_ {n m:Nat}{a b:Gra} (ha:GOk a n) (hb:GOk b m) (hl:a.2.2.2.length=b.2.2.1.length):oU a b=some (pSeq n m a b):=by
 have hmm:iB=1099511627776:=rfl
 have n1:=ha.n100;have m1:=hb.n100
 have hB:=Dy_ (by omega) (by omega) ha.w hb.w ha.rgd hb.rgd
 have hR:=Eo_ ha hb
 have oa:=ha.o12;have ib:=hb.i12;have ia:=ha.i12;have ob:=hb.o12
 have hG:=IU_ (A:=a.2.2.2) (B:=mp (shf n) b.2.2.1) (by omega) rfl hR (cR ha.o) (qR hb.i) (by rw [mp_len,hl])
 obtain ⟨w0,E,I,O⟩:=a
 obtain ⟨w1,E',I',O'⟩:=b
 obtain rfl:w0=(n:Int):=ha.w
 obtain rfl:w1=(m:Int):=hb.w
 dsimp only at oa ib ia ob hl
 have sl1:∀ x y:List Int,aB (x++y) 0 ((x.length:Nat):Int)=some x:=fun x y=>by
  unfold aB;rw [if_pos ⟨by omega,by omega,by rw [List.length_append];omega⟩];simp
 have sl2:∀ x y:List Int,aB (x++y) ((x.length:Nat):Int) (((x++y).length:Nat):Int)=some y:=fun x y=>by
  unfold aB;rw [if_pos ⟨by omega,by rw [List.length_append];omega,by omega⟩]
  rw [Int.toNat_natCast,Int.toNat_natCast,List.drop_left,List.take_of_length_le (by rw [List.length_append];omega)]
 refine bnd hB ?_
 unfold vL
 refine bnd (sl1 O _) (bnd (sl2 I _) (bnd (own_ (by omega)) (bnd (own_ (by rw [mp_len];dsimp only;omega)) (bnd (sl1 I _) (bnd (sl2 O _) (bnd (a:=pSeq n m ((n:Int),E,I,O) ((m:Int),E',I',O')) ?_ rfl))))))
 exact bnd hG rfl
theorem Ht_ {n m:Nat}{a b:Gra} (ha:GOk a n) (hb:GOk b m) (hl:a.2.2.2.length=b.2.2.1.length):mP a b=some (pSeq n m a b):=by
 have hmm:iB=1099511627776:=rfl
 have n1:=ha.n100;have m1:=hb.n100
 have hB:=E0_ (by omega) (by omega) ha.w hb.w ha.rgd hb.rgd
 have hR:=Eo_ ha hb
 have oa:=ha.o12;have ib:=hb.i12;have ia:=ha.i12;have ob:=hb.o12
 have hP:∀ p∈a.2.2.2.zip (mp (shf n) b.2.2.1),(0≤p.1∧p.1<((n+m:Nat):Int))∧(0≤p.2∧p.2<((n+m:Nat):Int)):=fun p hp=>by
  obtain ⟨x,y⟩:=p
  have h:=List.of_mem_zip hp
  exact ⟨cR ha.o x h.1,qR hb.i y h.2⟩
 have hG:=glue_ (P:=a.2.2.2.zip (mp (shf n) b.2.2.1)) (by omega) rfl hR hP
 have hO:=hb.o;have hAO:=ha.o;have hBI:=hb.i
 obtain ⟨w0,E,I,O⟩:=a
 obtain ⟨w1,E',I',O'⟩:=b
 obtain rfl:w0=(n:Int):=ha.w
 obtain rfl:w1=(m:Int):=hb.w
 dsimp only at oa ib ia ob hl hO hAO hBI
 have hzl:(O.zip (mp (shf n) I')).length=O.length:=by rw [List.length_zip,mp_len,hl,Nat.min_self]
 have loop:=iD (n:=O.length) (fun j=>(O.zip (mp (shf n) I')).take j) (f:=fun (k32:Nat) (s98:List (Int×Int))=>
   (idxO O ((k32:Nat):Int)).bind fun a114=>
   (idxO I' ((k32:Nat):Int)).bind fun a123=>
   (qA (n:Int) a123).bind fun a125=>
   (tA s98 [(a114,a125)]).bind fun a133=>
   some a133) (fun j hj=>by
  have hji:j<I'.length:=by omega
  have hx:=hBI _ (List.getElem_mem hji)
  have e:(O.zip (mp (shf n) I')).take (j+1)=(O.zip (mp (shf n) I')).take j++[(O[j],(n:Int)+I'[j])]:=by
   rw [List.take_add_one,List.getElem?_eq_getElem (by omega),List.getElem_zip]
   congr 2
   refine congrArg (fun z=>[z]) (Prod.ext rfl ?_)
   unfold mp shf
   rw [List.getElem_map]
   show ((I'[j].toNat:Nat):Int)+n=_
   omega
  rw [e]
  exact bnd (pA (List.getElem?_eq_getElem hj)) (bnd (pA (List.getElem?_eq_getElem hji)) (bnd (jB (by omega) (by omega)) (bnd (vB (by simp;omega)) rfl))))
 rw [List.take_zero,show (O.zip (mp (shf n) I')).take O.length=O.zip (mp (shf n) I') from by rw [←hzl,List.take_length]] at loop
 exact bnd hB (bnd loop (bnd (gK (by dsimp only;omega)) (bnd (tX (by omega) (by omega)) (bnd (uM _ hO (by dsimp only;omega)) (bnd hG rfl)))))
end Go.Proofs.YtlggnmkelgplnaaGreatDoor
namespace Go.Proofs.YtlggnmkelgplnaaGreatDoor
instance:Nice ByteArray:=⟨fun s=>(s.size:Int)≤9223372036854775807⟩
def byD (n:Int):ByteArray:=kO ([(48+n.tmod 10) % 256]:List Int)
def mDig:Nat→Int→ByteArray→ByteArray
 | 0,_,s=>s
 | f+1,n,s=>if 0<n then mDig f (n.tdiv 10) (byD n++s) else s
def mText (k:Int):ByteArray:=if k≤0 then ⟨#[109,48]⟩ else ⟨#[109]⟩++mDig (k.toNat+1) k .empty
theorem EX_ {a b:ByteArray} (h:a.size+b.size≤9223372036854775807):catO a b=some (a++b):=if_pos (by omega)
theorem En_ (n:Int):(byD n).size=1:=rfl
theorem Ii_ (k:Int) (h0:0≤k) (h:k≤1125899906842624):wY k=some (mText k):=by
 unfold mText
 by_cases hk:k≤0
 · rw [if_pos hk];exact stp (cTW (dT hk) rfl)
 ·
  rw [if_neg hk]
  have key:∀ (f:Nat) (n:Int) (s:ByteArray),0≤n→n.toNat<f→n+s.size≤1125899906842624→(mDig f n s).size≤1125899906842624∧zB (fun (s123:Int×ByteArray)=>
    (some (decide ((0:Int)<s123.1))).bind fun a132=>
    cond a132
    ((tD s123.1 10).bind fun a137=>
     (qA 48 a137).bind fun a139=>
     (some (a139 % 256)).bind fun a141=>
     (some (kO ([a141]:List By))).bind fun a146=>
     (catO a146 s123.2).bind fun a148=>
     (tL s123.1 10).bind fun a150=>
     some (.inl (a150,a148)))
    (some (.inr s123.2))) (n,s)=some (mDig f n s):=by
   intro f
   induction f with
   | zero=>intro n s h1 h2 h3;omega
   | succ f ih=>
    intro n s h1 h2 h3
    rw [mDig]
    by_cases hn:0<n
    ·
     rw [if_pos hn]
     have e:n.tdiv 10=n / 10:=Int.tdiv_eq_ediv_of_nonneg h1
     have e2:n.tmod 10=n % 10:=Int.tmod_eq_emod_of_nonneg h1
     have hq:tL n 10=some (n.tdiv 10):=by unfold tL;rw [if_neg (by decide)];exact gJ ⟨by omega,by omega⟩
     have hs:(byD n++s).size=s.size+1:=by rw [ByteArray.size_append,En_];omega
     obtain ⟨i1,i2⟩:=ih (n.tdiv 10) (byD n++s) (by omega) (by omega) (by rw [hs];omega)
     refine ⟨i1,?_⟩
     have st:=EX_ (a:=byD n) (b:=s) (by rw [En_];omega)
     rw [←i2]
     exact jG (stp (cTW (dT hn) (bnd (aH (by decide)) (bnd (jB (by dsimp only;omega) (by dsimp only;omega)) (stp (stp (bnd st (bnd hq rfl))))))))
    ·
     rw [if_neg hn]
     exact ⟨by omega,eF (stp (cFW (dF hn) rfl))⟩
  obtain ⟨k1,k2⟩:=key (k.toNat+1) k .empty (by omega) (by omega) (by show k+0≤_;omega)
  have hz:(⟨#[109]⟩:ByteArray).size=1:=rfl
  have hc:=EX_ (a:=⟨#[109]⟩) (b:=mDig (k.toNat+1) k .empty) (by omega)
  refine stp (cFW (dF hk) (bnd k2 ?_))
  exact bnd hc rfl
end Go.Proofs.YtlggnmkelgplnaaGreatDoor
namespace Go.Proofs.YtlggnmkelgplnaaGreatDoor
abbrev Nod:=Int×Int×ByteArray
inductive Tr where
 | leaf (n:Nod)
 | node (k:Int) (a b:Tr)
def flat:Tr→List Nod
 | .leaf n=>[n]
 | .node k a b=>flat a++flat b++[(k,0,.empty)]
theorem yF:∀ T:Tr,0<(flat T).length
 | .leaf _=>by simp [flat]
 | .node _ _ _=>by simp [flat];omega
def lfB (n:Nod):Bool:=decide (n.2.2=.empty)&&(rng n.1 1 14&&(if n.1=1 then rng n.2.1 0 12 else if n.1=7∨n.1=13 then rng n.2.1 0 96 else decide (n.2.1=0)))
def lfT (n:Nod):Int×Int:=if n.1=1 then (n.2.1,n.2.1) else kd n.1
def jn (k:Int) (x y:Int×Int):Option (Int×Int):=if k=15 then (if x.2=y.1 then some (x.1,y.2) else none) else if x.1+y.1≤12∧x.2+y.2≤12 then some (x.1+y.1,x.2+y.2) else none
abbrev Stk:=List (Tr×(Int×Int))
def rC (S:Stk) (n:Nod):Option Stk:=
 if n.1=15∨n.1=16 then
  if n.2.1=0∧n.2.2=.empty then match S with
   | (b,y)::(a,x)::S'=>(jn n.1 x y).map fun w=>(.node n.1 a b,w)::S'
   | _=>none
  else none
 else if lfB n=true then some ((.leaf n,lfT n)::S) else none
def bD:List Nod→Stk→Option Stk
 | [],S=>some S
 | n::t,S=>(rC S n).bind fun S'=>bD t S'
theorem runT_app:∀ (a b:List Nod) (S:Stk),bD (a++b) S=(bD a S).bind fun S'=>bD b S'
 | [],b,S=>rfl
 | n::a,b,S=>by
  show (rC S n).bind _=((rC S n).bind _).bind _
  cases rC S n with
  | none=>rfl
  | some S'=>exact runT_app a b S'
theorem Do_ {t:List Nod}{j:Nat} (hj:j<t.length){S:Stk} (h:bD (t.take j) []=some S):bD (t.take (j+1)) []=rC S t[j]:=by
 rw [List.take_add_one,List.getElem?_eq_getElem hj,runT_app,h]
 show (rC S t[j]).bind _=_
 cases rC S t[j] <;> rfl
theorem Dp_ {t:List Nod}{j:Nat} (h:bD (t.take j) []=none):bD t []=none:=by
 have:t=t.take j++t.drop j:=(List.take_append_drop _ _).symm
 rw [this,runT_app,h];rfl
def qC (t:List Nod):Bool:=rng t.length 1 400&&(match bD t [] with | some [_]=>true | _=>false)
def cG (w:Int×Int):Prop:=0≤w.1∧w.1≤12∧0≤w.2∧w.2≤12
theorem Fh_ {n:Nod} (h:lfB n=true):cG (lfT n):=by
 unfold lfB at h
 simp only [Bool.and_eq_true,decide_eq_true_eq] at h
 unfold lfT
 by_cases h1:n.1=1
 ·
  rw [if_pos h1]
  rw [if_pos h1] at h
  have:=rng_true.1 h.2.2
  exact ⟨this.1,this.2,this.1,this.2⟩
 ·
  rw [if_neg h1]
  have:=kd_le n.1
  exact ⟨by omega,by omega,by omega,by omega⟩
theorem jn_ok {k:Int}{x y w:Int×Int} (hx:cG x) (hy:cG y) (h:jn k x y=some w):cG w:=by
 obtain ⟨a1,a2,a3,a4⟩:=hx
 obtain ⟨b1,b2,b3,b4⟩:=hy
 unfold jn at h
 split at h
 ·
  split at h
  · obtain rfl:=Option.some.inj h;exact ⟨a1,a2,b3,b4⟩
  · cases h
 ·
  split at h
  ·
   obtain rfl:=Option.some.inj h
   exact ⟨by dsimp only;omega,by dsimp only;omega,by dsimp only;omega,by dsimp only;omega⟩
  · cases h
def gS (S:Stk):Prop:=∀ p∈S,cG p.2
theorem ID_ {S S':Stk}{n:Nod} (hS:gS S) (h:rC S n=some S'):gS S':=by
 unfold rC at h
 split at h
 ·
  split at h
  ·
   split at h
   ·
    rename_i b y a x S0
    obtain ⟨w,hw,rfl⟩:=Option.map_eq_some_iff.1 h
    intro p hp
    rcases List.mem_cons.1 hp with rfl | hp
    · exact jn_ok (hS (a,x) (by simp)) (hS (b,y) (by simp)) hw
    · exact hS p (by simp [hp])
   · cases h
  · cases h
 ·
  split at h
  ·
   obtain rfl:=Option.some.inj h
   intro p hp
   rcases List.mem_cons.1 hp with rfl | hp
   · exact Fh_ ‹_›
   · exact hS p hp
  · cases h
theorem Bh_:∀ (t:List Nod) (S S':Stk),gS S→bD t S=some S'→gS S'
 | [],S,S',hS,h=>by obtain rfl:=Option.some.inj h;exact hS
 | n::t,S,S',hS,h=>by
  obtain ⟨S1,h1,h2⟩:=aA h
  exact Bh_ t S1 S' (ID_ hS h1) h2
def sL (S:Stk):List Nod:=(S.reverse.map fun p=>flat p.1).flatten
theorem Hs_ {S S':Stk}{n:Nod} (h:rC S n=some S'):sL S'=sL S++[n]:=by
 unfold rC at h
 split at h
 ·
  split at h
  ·
   rename_i h0
   split at h
   ·
    rename_i b y a x S0
    obtain ⟨w,hw,rfl⟩:=Option.map_eq_some_iff.1 h
    unfold sL
    obtain ⟨k,v,s⟩:=n
    obtain ⟨rfl,rfl⟩:=h0
    simp [flat,List.append_assoc]
   · cases h
  · cases h
 ·
  split at h
  ·
   obtain rfl:=Option.some.inj h
   unfold sL
   simp [flat]
  · cases h
theorem AJ_:∀ (t:List Nod) (S S':Stk),bD t S=some S'→sL S'=sL S++t
 | [],S,S',h=>by obtain rfl:=Option.some.inj h;simp
 | n::t,S,S',h=>by
  obtain ⟨S1,h1,h2⟩:=aA h
  rw [AJ_ t S1 S' h2,Hs_ h1,List.append_assoc];rfl
theorem dW (n:Nod):iH n=some (lfB n):=by
 obtain ⟨k,v,s⟩:=n
 unfold iH lfB
 by_cases hs:s=.empty
 case neg=>simp [hs]
 cases hr:rng k 1 14 with
 | false=>simp [hs,l1In,hr]
 | true=>
  by_cases h1:k=1
  · subst h1;simp [hs,l1In,hr]
  by_cases h7:k=7
  · subst h7;simp [hs,l1In,hr]
  by_cases h13:k=13
  · subst h13;simp [hs,l1In,hr]
  simp [hs,l1In,hr,h1,h7,h13]
theorem DM_ (n:Nod):uP n=some (lfT n):=by
 obtain ⟨k,v,s⟩:=n
 unfold uP lfT
 by_cases h1:k=1
 · simp [h1]
 · simp [h1,tmKind_]
theorem HB_ (n:Nod):∃ w,mJ n=some (w,lfB n)∧(lfB n=true→w=lfT n):=by
 obtain ⟨k,v,s⟩:=n
 by_cases hs:s=.empty
 case neg=>
  refine ⟨(0,0),?_,fun h=>?_⟩
  · unfold mJ lfB;simp [hs]
  · unfold lfB at h;simp [hs] at h
 by_cases h1:k=1
 ·
  subst h1
  refine ⟨(v,v),?_,fun _=>rfl⟩
  have hr:rng 1 1 14=true:=by decide
  unfold mJ lfB;simp [hs,within_,hr]
 by_cases h2:k=2
 ·
  subst h2
  refine ⟨(2,2),?_,fun _=>rfl⟩
  have hr:rng 2 1 14=true:=by decide
  unfold mJ lfB;simp [hs,hr]
 cases hg:rng k 3 14 with
 | false=>
  have hr:rng k 1 14=false:=by
   cases hr:rng k 1 14 with
   | false=>rfl
   | true=>
    have:=rng_true.1 hr
    have:rng k 3 14=true:=rng_true.2 (by omega)
    rw [this] at hg;cases hg
  refine ⟨(0,0),?_,fun h=>?_⟩
  · unfold mJ lfB iN;simp [hs,h1,h2,within_,hg,hr]
  · unfold lfB at h;simp [hr] at h
 | true=>
  have hb:=rng_true.1 hg
  have hr:rng k 1 14=true:=rng_true.2 (by omega)
  refine ⟨kd k,?_,fun _=>by unfold lfT;rw [if_neg h1]⟩
  have hgen:gG k v=(if k=7∨k=13 then rng v 0 96 else decide (v=0)):=by unfold gG;rw [hg,Bool.true_and]
  unfold mJ lfB iN
  simp only [hs,h1,h2,within_,hg,hr,pP hg,mY hg,hgen,decide_true,decide_false,Bool.not_true,cond_false,cond_true,Option.bind_some,Bool.true_and,if_false]
theorem HF_ {k:Int}{x y:Int×Int} (hx:cG x) (hy:cG y):∃ w,bM k x y=some (w,(jn k x y).isSome)∧∀ z,jn k x y=some z→w=z:=by
 obtain ⟨x1,x2⟩:=x
 obtain ⟨y1,y2⟩:=y
 obtain ⟨a1,a2,a3,a4⟩:=hx
 obtain ⟨b1,b2,b3,b4⟩:=hy
 dsimp only at a1 a2 a3 a4 b1 b2 b3 b4
 by_cases hk:k=15
 ·
  refine ⟨(x1,y2),?_,fun z hz=>?_⟩
  ·
   unfold bM jn
   by_cases h:x2=y1
   · simp [hk,h]
   · simp [hk,h]
  ·
   unfold jn at hz
   rw [if_pos hk] at hz
   split at hz
   · exact Option.some.inj hz
   · cases hz
 ·
  refine ⟨(x1+y1,x2+y2),?_,fun z hz=>?_⟩
  ·
   have s1:qA x1 y1=some (x1+y1):=jB (by omega) (by omega)
   have s2:qA x2 y2=some (x2+y2):=jB (by omega) (by omega)
   unfold bM jn qY
   by_cases h1:x1+y1≤12
   ·
    by_cases h2:x2+y2≤12
    · simp [hk,s1,s2,h1,h2]
    · simp [hk,s1,s2,h1,h2]
   · simp [hk,s1,s2,h1]
  ·
   unfold jn at hz
   rw [if_neg hk] at hz
   split at hz
   · exact Option.some.inj hz
   · cases hz
def wD (S:Stk):List (Int×Int):=(S.map fun p=>p.2).reverse
def tyT (t:List Nod):Int×Int:=match bD t [] with | some [(_,w)]=>w | _=>(0,0)
theorem E2_ (t:List Nod):∃ w,bY t=some (w,qC t)∧(qC t=true→w=tyT t):=by
 have hm:iB=1099511627776:=rfl
 cases hr:rng t.length 1 400 with
 | false=>
  have hv:qC t=false:=by unfold qC;rw [hr];rfl
  refine ⟨(0,0),bnd (within_ _ _ _) (stp ?_),fun h=>by rw [hv] at h;cases h⟩
  rw [hv,hr];rfl
 | true=>
  have hl:=rng_true.1 hr
  have loop:=vV (n:=t.length) (s:=([]:List (Int×Int))) (f:=fun (k14:Nat) (s884:List (Int×Int))=>
    fC ((idxO t ((k14:Nat):Int)).bind fun a1117=>
     ((some (!decide (a1117.1=15))).bind fun a1137=>
      cond a1137
      ((some (!decide (a1117.1=16))).bind fun a1141=>
       some a1141)
      (some false)).bind fun (s1131:Bool)=>
     cond s1131
     ((mJ (a1117.1,a1117.2.1,a1117.2.2)).bind fun y1302=>
      (some (!y1302.2)).bind fun a1309=>
      cond a1309
      (some (.inr (.inr ((0,0),false))))
      ((tA s884 [(y1302.1.1,y1302.1.2)]).bind fun a1318=>
       some (.inl a1318)))
     (((some (!decide (a1117.2.1=0))).bind fun a1162=>
       cond a1162
       (some true)
       ((some (!decide ((a1117.2.2:ByteArray)=.empty))).bind fun a1165=>
        cond a1165
        (some true)
        ((some (decide (((s884.length:Nat):Int)<2))).bind fun a1168=>
         some a1168))).bind fun (s1156:Bool)=>
      cond s1156
      (some (.inr (.inr ((0,0),false))))
      ((subO ((s884.length:Nat):Int) 1).bind fun a1175=>
       ((subO a1175 1).bind fun a1228=>
        (idxO s884 a1228).bind fun a1236=>
        (idxO s884 a1175).bind fun a1245=>
        (bM a1117.1 (a1236.1,a1236.2) (a1245.1,a1245.2)).bind fun y1255=>
        some (y1255.1.1,y1255.1.2,y1255.2)).bind fun (s1220:Int×Int×Bool)=>
       (some (!s1220.2.2)).bind fun a1272=>
       cond a1272
       (some (.inr (.inr ((0,0),false))))
       ((subO a1175 1).bind fun a1276=>
        (aB s884 0 a1276).bind fun a1278=>
        (tA a1278 [(s1220.1,s1220.2.1)]).bind fun a1288=>
        some (.inl a1288))))) fun (s1104:List (Int×Int))=>
    some (.inl s1104)) (fun j s=>∃ S,bD (t.take j) []=some S∧s=wD S∧S.length≤j) (fun r=>r=(((0:Int),(0:Int)),false)∧bD t []=none) ⟨[],rfl,rfl,Nat.le_refl _⟩ (by
   rintro j s hj ⟨S,h1,rfl,h3⟩
   have hS:=Bh_ _ _ _ (fun p hp=>by cases hp) h1
   have hstep:=Do_ hj h1
   have hlen:(wD S).length=S.length:=by unfold wD;simp
   have bad:rC S t[j]=none→bD t []=none:=fun hn=>Dp_ (hstep.trans hn)
   have hi:=pA (List.getElem?_eq_getElem hj)
   generalize t[j]=n at hstep bad hi
   obtain ⟨k,v,u⟩:=n
   by_cases hk:k=15∨k=16
   ·
    have hc:((some (!decide (k=15))).bind fun a1137=>cond a1137 ((some (!decide (k=16))).bind fun a1141=>some a1141) (some false))=some false:=by
     rcases hk with rfl | rfl <;> rfl
    have hst:rC S (k,v,u)=if v=0∧u=.empty then (match S with
      | (b,y)::(a,x)::S'=>(jn k x y).map fun w=>(.node k a b,w)::S'
      | _=>none) else none:=by unfold rC;rw [if_pos hk]
    by_cases hv:v=0
    case neg=>
     have hn:rC S (k,v,u)=none:=by rw [hst,if_neg (fun h=>hv h.1)]
     exact .inr ⟨_,sqW (bnd hi (bnd hc (cFW rfl (bnd (a:=true) (stp (cTW (nF (dF hv)) rfl)) rfl)))) rfl,rfl,bad hn⟩
    by_cases hu:u=.empty
    case neg=>
     have hn:rC S (k,v,u)=none:=by rw [hst,if_neg (fun h=>hu h.2)]
     exact .inr ⟨_,sqW (bnd hi (bnd hc (cFW rfl (bnd (a:=true) (stp (cFW (nT (dT hv)) (stp (cTW (nF (dF hu)) rfl)))) rfl)))) rfl,rfl,bad hn⟩
    rw [if_pos ⟨hv,hu⟩] at hst
    by_cases h2:S.length<2
    ·
     have hn:rC S (k,v,u)=none:=by
      rw [hst]
      match S,h2 with
      | [],_=>rfl
      | [p],_=>rfl
     refine .inr ⟨_,sqW (bnd hi (bnd hc (cFW rfl (bnd (a:=true) (stp (cFW (nT (dT hv)) (stp (cFW (nT (dT hu)) (stp (congrArg some (dT ?_))))))) rfl)))) rfl,rfl,bad hn⟩
     rw [hlen];omega
    ·
     obtain ⟨b,y,a,x,S',rfl⟩:∃ b y a x S',S=(b,y)::(a,x)::S':=by
      match S,h2 with
      | (b,y)::(a,x)::S',_=>exact ⟨_,_,_,_,_,rfl⟩
      | [p],h2=>exact (h2 (by simp)).elim
      | [],h2=>exact (h2 (by simp)).elim
     have h3':S'.length+2≤j:=by simpa using h3
     have hlen':(wD ((b,y)::(a,x)::S')).length=S'.length+2:=by simpa using hlen
     have hx:=hS (a,x) (by simp)
     have hy:=hS (b,y) (by simp)
     obtain ⟨w,w1,w2⟩:=HF_ (k:=k) hx hy
     have e0:wD ((b,y)::(a,x)::S')=wD S'++[x]++[y]:=by unfold wD;simp
     have l0:(wD S').length=S'.length:=by unfold wD;simp
     have i1:idxO (wD ((b,y)::(a,x)::S')) ((S'.length:Nat):Int)=some x:=by
      rw [e0,idxO_nat,← l0,List.append_assoc,List.getElem?_append_right (Nat.le_refl _),Nat.sub_self];rfl
     have i2:idxO (wD ((b,y)::(a,x)::S')) (((S'.length+1:Nat)):Int)=some y:=by
      rw [e0,idxO_nat,← l0,List.append_assoc,List.getElem?_append_right (by omega),Nat.add_sub_cancel_left];rfl
     have s1:subO (((wD ((b,y)::(a,x)::S')).length:Nat):Int) 1=some ((S'.length+1:Nat):Int):=by
      rw [hlen',fD (by omega) (by omega)];congr 1;omega
     have s2:subO ((S'.length+1:Nat):Int) 1=some ((S'.length:Nat):Int):=by
      rw [fD (by omega) (by omega)];congr 1;omega
     have sl:aB (wD ((b,y)::(a,x)::S')) 0 ((S'.length:Nat):Int)=some (wD S'):=by
      unfold aB;rw [if_pos ⟨by omega,by omega,by rw [hlen'];omega⟩,e0]
      simp [←l0,List.append_assoc]
     have hpre:∀ {α:Type} {r:Option α} {K:Bool→Option α},K false=r→(((some (!decide (v=0))).bind fun a1162=>
      cond a1162
      (some true)
      ((some (!decide ((u:ByteArray)=.empty))).bind fun a1165=>
       cond a1165
       (some true)
       ((some (decide ((((wD ((b,y)::(a,x)::S')).length:Nat):Int)<2))).bind fun a1168=>
        some a1168))).bind K)=r:=fun h=>bnd (a:=false) (stp (cFW (nT (dT hv)) (stp (cFW (nT (dT hu)) (stp (congrArg some (dF (by rw [hlen'];omega)))))))) h
     have hj2:∀ {α:Type} {r:Option α} {K:Int×Int×Bool→Option α},K (w.1,w.2,(jn k x y).isSome)=r→(((subO ((S'.length+1:Nat):Int) 1).bind fun a1228=>
       (idxO (wD ((b,y)::(a,x)::S')) a1228).bind fun a1236=>
       (idxO (wD ((b,y)::(a,x)::S')) ((S'.length+1:Nat):Int)).bind fun a1245=>
       (bM k (a1236.1,a1236.2) (a1245.1,a1245.2)).bind fun y1255=>
       some (y1255.1.1,y1255.1.2,y1255.2)).bind K)=r:=fun h=>bnd (bnd s2 (bnd i1 (bnd i2 (bnd w1 rfl)))) h
     cases hjn:jn k x y with
     | none=>
      rw [hjn] at hj2
      have hn:rC ((b,y)::(a,x)::S') (k,v,u)=none:=by rw [hst];simp only [hjn,Option.map_none]
      exact .inr ⟨_,sqW (bnd hi (bnd hc (cFW rfl (hpre (cFW rfl (bnd s1 (hj2 rfl))))))) rfl,rfl,bad hn⟩
     | some z=>
      rw [hjn] at hj2
      have hz:=w2 z hjn
      subst hz
      have hn:rC ((b,y)::(a,x)::S') (k,v,u)=some ((.node k a b,w)::S'):=by rw [hst];simp only [hjn,Option.map_some]
      refine .inl ⟨wD S'++[w],sqW (bnd hi (bnd hc (cFW rfl (hpre (cFW rfl (bnd s1 (hj2 (stp (cFW rfl (bnd s2 (bnd sl (bnd (vB ?_) rfl))))))))))) ) rfl,(.node k a b,w)::S',by rw [hstep,hn],by unfold wD;simp,by simp;omega⟩
      rw [l0];simp;omega
   ·
    have hc:((some (!decide (k=15))).bind fun a1137=>cond a1137 ((some (!decide (k=16))).bind fun a1141=>some a1141) (some false))=some true:=by
     simp only [not_or] at hk
     simp [hk.1,hk.2]
    obtain ⟨w,w1,w2⟩:=HB_ (k,v,u)
    cases hb:lfB (k,v,u) with
    | false=>
     rw [hb] at w1
     have hn:rC S (k,v,u)=none:=by unfold rC;rw [if_neg hk,if_neg (by rw [hb];simp)]
     exact .inr ⟨_,sqW (bnd hi (bnd hc (cTW rfl (bnd w1 rfl)))) rfl,rfl,bad hn⟩
    | true=>
     rw [hb] at w1
     have hn:rC S (k,v,u)=some ((.leaf (k,v,u),lfT (k,v,u))::S):=by unfold rC;rw [if_neg hk,if_pos hb]
     refine .inl ⟨wD S++[w],sqW (bnd hi (bnd hc (cTW rfl (bnd w1 (stp (cFW rfl (bnd (vB ?_) rfl))))))) rfl,_,by rw [hstep,hn],by rw [w2 hb];unfold wD;simp,by simp;omega⟩
     rw [hlen];simp;omega)
  rcases loop with ⟨s,h1,S,h2,rfl,h4⟩ | ⟨r,h1,rfl,h2⟩
  ·
   rw [List.take_length] at h2
   have hlen:(wD S).length=S.length:=by unfold wD;simp
   have hne:S≠[]:=by
    rintro rfl
    have:=AJ_ _ _ _ h2
    unfold sL at this
    simp at this
    rw [this] at hl;simp at hl
   cases hS:wD S with
   | nil=>rw [hS] at hlen;exact (hne (List.eq_nil_of_length_eq_zero hlen.symm)).elim
   | cons w ws=>
    have hty:qC t=true→w=tyT t:=fun hv=>by
     unfold qC at hv
     unfold tyT
     rw [hr,h2] at hv
     rw [h2]
     match S,hS,hv with
     | [(T,w')],hS,_=>exact (List.cons.inj hS).1.symm
    refine ⟨w,bnd (within_ _ _ _) (stp ?_),hty⟩
    rw [hr]
    refine cFW rfl (sqW h1 ?_)
    rw [zI,hS]
    refine bnd (a:=w) rfl (stp (congrArg some (Prod.ext rfl ?_)))
    unfold qC
    rw [hr,h2]
    rw [←hS,hlen]
    match S with
    | []=>exact (hne rfl).elim
    | [p]=>simp
    | p::q::S=>simp;omega
  ·
   have hv:qC t=false:=by unfold qC;rw [h2,hr];rfl
   refine ⟨(0,0),bnd (within_ _ _ _) (stp ?_),fun h=>by rw [hv] at h;cases h⟩
   rw [hr]
   refine cFW rfl (sqW h1 ?_)
   rw [BL_,hv]
theorem D4_ (t:List Nod):fY t=some (qC t):=by
 obtain ⟨w,h,_⟩:=E2_ t
 exact bnd (bnd h rfl) rfl
def ScR (x:List Int×List Int×List Int):Nat→Stk→Prop
 | i,[]=>i=0
 | i,(T,w)::S=>(flat T).length≤i∧x.1[i-1]?=some ((i-(flat T).length:Nat):Int)∧x.2.1[i-1]?=some w.1∧x.2.2[i-1]?=some w.2∧ScR x (i-(flat T).length) S
theorem ScR.mono {x x':List Int×List Int×List Int}:∀ {S:Stk}{i:Nat},ScR x i S→(∀ k,k<i→x'.1[k]?=x.1[k]?∧x'.2.1[k]?=x.2.1[k]?∧x'.2.2[k]?=x.2.2[k]?)→ScR x' i S
 | [],_,h,_=>h
 | (T,w)::S,i,⟨h1,h2,h3,h4,h5⟩,h=>by
  have hp:=yF T
  obtain ⟨k1,k2,k3⟩:=h (i-1) (by omega)
  exact ⟨h1,k1.trans h2,k2.trans h3,k3.trans h4,h5.mono (fun k hk=>h k (by omega))⟩
theorem fO {l:List Int}{i:Nat} (hl:l.length=i) (a:Int):(∀ k,k<i→(l++[a])[k]?=l[k]?)∧(l++[a])[i]?=some a:=
 ⟨fun k hk=>List.getElem?_append_left (by omega),by rw [List.getElem?_append_right (by omega),hl,Nat.sub_self];rfl⟩
theorem ScR.push {x:List Int×List Int×List Int}{S:Stk}{i:Nat}{T:Tr}{w:Int×Int} (l1:x.1.length=i) (l2:x.2.1.length=i) (l3:x.2.2.length=i) (hT:(flat T).length≤i+1) (h:ScR x (i+1-(flat T).length) S) :
  ScR (x.1++[((i+1-(flat T).length:Nat):Int)],x.2.1++[w.1],x.2.2++[w.2]) (i+1) ((T,w)::S):=by
 have hp:=yF T
 have g1:=fO l1 ((i+1-(flat T).length:Nat):Int)
 have g2:=fO l2 w.1
 have g3:=fO l3 w.2
 refine ⟨hT,?_,?_,?_,h.mono (fun k hk=>⟨g1.1 k (by omega),g2.1 k (by omega),g3.1 k (by omega)⟩)⟩
 · rw [Nat.add_sub_cancel];exact g1.2
 · rw [Nat.add_sub_cancel];exact g2.2
 · rw [Nat.add_sub_cancel];exact g3.2
theorem Ep_ {a b:Int} (h1:0≤a) (h2:a≤12) (h3:0≤b) (h4:b≤12):qA a b=some (a+b):=jB (by omega) (by omega)
theorem HE_ (s:ByteArray):xT [] s=some (-1):=rfl
theorem Bv_ (t:List Nod):∃ x,wT [] t=some (x,qC t)∧(∀ S,bD t []=some S→rng t.length 1 400=true→x.1.length=t.length∧ScR x t.length S ∧
  ∀ S0 (p q:List Nod),t=p++q→bD p []=some S0→ScR x p.length S0):=by
 have hm:iB=1099511627776:=rfl
 cases hr:rng t.length 1 400 with
 | false=>
  refine ⟨([],[],[]),bnd (l1In _ _ _) (stp ?_),fun _ _ h=>by cases h⟩
  unfold qC
  rw [hr];rfl
 | true=>
  have hl:=rng_true.1 hr
  have loop:=vV (n:=t.length) (s:=(([]:List Int),([]:List Int),([]:List Int))) (f:=fun (k18:Nat) (s2156:List Int×List Int×List Int)=>
    fC ((idxO t ((k18:Nat):Int)).bind fun a2699=>
     ((iH (a2699.1,a2699.2.1,a2699.2.2)).bind fun y2720=>
      cond y2720
      (some true)
      ((some (decide (a2699.1=17))).bind fun a2724=>
       some a2724)).bind fun (s2714:Bool)=>
     cond s2714
     ((uP (a2699.1,a2699.2.1,a2699.2.2)).bind fun y3063=>
      fC ((some (decide (a2699.1=17))).bind fun a3127=>
       cond a3127
       ((xT [] a2699.2.2).bind fun y3131=>
        ((some (decide (y3131<0))).bind fun a3146=>
         cond a3146
         (some true)
         ((some (!decide (a2699.2.1=0))).bind fun a3149=>
          some a3149)).bind fun (s3140:Bool)=>
        cond s3140
        (some (.inr (.inr (.inr ((s2156.1,s2156.2.1,s2156.2.2),false)))))
        ((idxO ([]:List (ByteArray×Int×Int×List Nod)) y3131).bind fun a3162=>
         (idxO ([]:List (ByteArray×Int×Int×List Nod)) y3131).bind fun a3174=>
         some (.inl (a3174.2.2.1,a3162.2.1))))
       (some (.inl (y3063.2,y3063.1)))) fun (s3121:Int×Int)=>
      (tA s2156.1 [((k18:Nat):Int)]).bind fun a3190=>
      (tA s2156.2.1 [s3121.2]).bind fun a3199=>
      (tA s2156.2.2 [s3121.1]).bind fun a3208=>
      some (.inl (a3190,a3199,a3208)))
     (((some (!decide (a2699.1=15))).bind fun a2792=>
       cond a2792
       ((some (!decide (a2699.1=16))).bind fun a2820=>
        cond a2820
        (some true)
        ((some (!decide ((a2699.2.2:ByteArray)=.empty))).bind fun a2823=>
         cond a2823
         (some true)
         ((some (!decide (a2699.2.1=0))).bind fun a2826=>
          cond a2826
          (some true)
          ((some (decide (((k18:Nat):Int)<2))).bind fun a2829=>
           cond a2829
           (some true)
           ((subO ((k18:Nat):Int) 1).bind fun a2832=>
            (idxO s2156.1 a2832).bind fun a2840=>
            (some (decide (a2840<1))).bind fun a2842=>
            some a2842)))))
       ((some (!decide ((a2699.2.2:ByteArray)=.empty))).bind fun a2795=>
        cond a2795
        (some true)
        ((some (!decide (a2699.2.1=0))).bind fun a2798=>
         cond a2798
         (some true)
         ((some (decide (((k18:Nat):Int)<2))).bind fun a2801=>
          cond a2801
          (some true)
          ((subO ((k18:Nat):Int) 1).bind fun a2804=>
           (idxO s2156.1 a2804).bind fun a2812=>
           (some (decide (a2812<1))).bind fun a2814=>
           some a2814))))).bind fun (s2786:Bool)=>
      cond s2786
      (some (.inr (.inr ((s2156.1,s2156.2.1,s2156.2.2),false))))
      ((subO ((k18:Nat):Int) 1).bind fun a2851=>
       (idxO s2156.1 a2851).bind fun a2859=>
       (subO a2859 1).bind fun a2861=>
       (idxO s2156.2.1 a2861).bind fun a2870=>
       (idxO s2156.2.1 a2851).bind fun a2878=>
       (qA a2870 a2878).bind fun a2880=>
       (idxO s2156.2.2 a2861).bind fun a2888=>
       (idxO s2156.2.2 a2851).bind fun a2896=>
       (qA a2888 a2896).bind fun a2898=>
       fC ((some (decide (a2699.1=15))).bind fun a2949=>
        cond a2949
        ((idxO s2156.2.2 a2861).bind fun a2960=>
         (idxO s2156.2.1 a2851).bind fun a2968=>
         (some (!decide (a2960=a2968))).bind fun a2970=>
         cond a2970
         (some (.inr (.inr (.inr ((s2156.1,s2156.2.1,s2156.2.2),false)))))
         ((idxO s2156.2.1 a2861).bind fun a2980=>
          (idxO s2156.2.2 a2851).bind fun a2988=>
          some (.inl (a2980,a2988))))
        (some (.inl (a2880,a2898)))) fun (s2943:Int×Int)=>
       ((some (decide ((12:Int)<s2943.1))).bind fun a3009=>
        cond a3009
        (some true)
        ((some (decide ((12:Int)<s2943.2))).bind fun a3012=>
         some a3012)).bind fun (s3003:Bool)=>
       cond s3003
       (some (.inr (.inr ((s2156.1,s2156.2.1,s2156.2.2),false))))
       ((idxO s2156.1 a2861).bind fun a3025=>
        (tA s2156.1 [a3025]).bind fun a3030=>
        (tA s2156.2.1 [s2943.1]).bind fun a3039=>
        (tA s2156.2.2 [s2943.2]).bind fun a3048=>
        some (.inl (a3030,a3039,a3048)))))) fun (s2684:List Int×List Int×List Int)=>
    some (.inl (s2684.1,s2684.2.1,s2684.2.2)))
   (fun j x=>∃ S,bD (t.take j) []=some S∧x.1.length=j∧x.2.1.length=j∧x.2.2.length=j∧ScR x j S∧∀ i S0,i≤j→bD (t.take i) []=some S0→ScR x i S0) (fun r=>r.2=false∧bD t []=none)
   ⟨[],rfl,rfl,rfl,rfl,rfl,fun i S0 hi h=>by
    obtain rfl:i=0:=by omega
    obtain rfl:=Option.some.inj h
    rfl⟩ (by
   rintro j ⟨x1,x2,x3⟩ hj ⟨S,h1,l1,l2,l3,h2,hall⟩
   dsimp only at l1 l2 l3
   have hS:=Bh_ _ _ _ (fun p hp=>by cases hp) h1
   have hstep:=Do_ hj h1
   have bad:rC S t[j]=none→bD t []=none:=fun hn=>Dp_ (hstep.trans hn)
   have hi:=pA (List.getElem?_eq_getElem hj)
   have good:∀ (T:Tr) (w:Int×Int) (S':Stk),bD (t.take (j+1)) []=some ((T,w)::S')→(flat T).length≤j+1→ScR (x1,x2,x3) (j+1-(flat T).length) S'→∃ S1,bD (t.take (j+1)) []=some S1∧(x1++[((j+1-(flat T).length:Nat):Int)]).length=j+1∧(x2++[w.1]).length=j+1∧(x3++[w.2]).length=j+1 ∧
     ScR (x1++[((j+1-(flat T).length:Nat):Int)],x2++[w.1],x3++[w.2]) (j+1) S1∧∀ i S0,i≤j+1→bD (t.take i) []=some S0→ScR (x1++[((j+1-(flat T).length:Nat):Int)],x2++[w.1],x3++[w.2]) i S0:=by
    intro T w S' hr1 hT hsc
    have hp:=ScR.push (x:=(x1,x2,x3)) (w:=w) l1 l2 l3 hT hsc
    refine ⟨_,hr1,by simp [l1],by simp [l2],by simp [l3],hp,fun i S0 hi0 hS0=>?_⟩
    by_cases hij:i=j+1
    ·
     subst hij
     rw [hr1] at hS0
     obtain rfl:=Option.some.inj hS0
     exact hp
    ·
     refine (hall i S0 (by omega) hS0).mono (fun k hk=>?_)
     exact ⟨(fO l1 _).1 k (by omega),(fO l2 _).1 k (by omega),(fO l3 _).1 k (by omega)⟩
   generalize t[j]=n at hstep bad hi
   obtain ⟨k,v,u⟩:=n
   by_cases hk:k=15∨k=16
   ·
    have hlf:lfB (k,v,u)=false:=by
     have hr:rng k 1 14=false:=by rcases hk with rfl | rfl <;> decide
     unfold lfB;dsimp only;rw [hr];simp
    have hk17:¬k=17:=by omega
    have hc:((iH (k,v,u)).bind fun y2720=>cond y2720 (some true) ((some (decide (k=17))).bind fun a2724=>some a2724))=some false:=
     bnd (dW _) (by rw [hlf];exact cFW rfl (stp (congrArg some (dF hk17))))
    have hst:rC S (k,v,u)=if v=0∧u=.empty then (match S with
      | (b,y)::(a,x)::S'=>(jn k x y).map fun w=>(.node k a b,w)::S'
      | _=>none) else none:=by unfold rC;rw [if_pos hk]
    have hten:∀ b:Bool,((some (!decide ((u:ByteArray)=.empty))).bind fun a2795=>
        cond a2795
        (some true)
        ((some (!decide (v=0))).bind fun a2798=>
         cond a2798
         (some true)
         ((some (decide (((j:Nat):Int)<2))).bind fun a2801=>
          cond a2801
          (some true)
          ((subO ((j:Nat):Int) 1).bind fun a2804=>
           (idxO x1 a2804).bind fun a2812=>
           (some (decide (a2812<1))).bind fun a2814=>
           some a2814))))=some b→(((some (!decide (k=15))).bind fun a2792=>
       cond a2792
       ((some (!decide (k=16))).bind fun a2820=>
        cond a2820
        (some true)
        ((some (!decide ((u:ByteArray)=.empty))).bind fun a2823=>
         cond a2823
         (some true)
         ((some (!decide (v=0))).bind fun a2826=>
          cond a2826
          (some true)
          ((some (decide (((j:Nat):Int)<2))).bind fun a2829=>
           cond a2829
           (some true)
           ((subO ((j:Nat):Int) 1).bind fun a2832=>
            (idxO x1 a2832).bind fun a2840=>
            (some (decide (a2840<1))).bind fun a2842=>
            some a2842)))))
       ((some (!decide ((u:ByteArray)=.empty))).bind fun a2795=>
        cond a2795
        (some true)
        ((some (!decide (v=0))).bind fun a2798=>
         cond a2798
         (some true)
         ((some (decide (((j:Nat):Int)<2))).bind fun a2801=>
          cond a2801
          (some true)
          ((subO ((j:Nat):Int) 1).bind fun a2804=>
           (idxO x1 a2804).bind fun a2812=>
           (some (decide (a2812<1))).bind fun a2814=>
           some a2814)))))=some b):=by
     intro b hb
     rcases hk with rfl | rfl
     · exact stp (cFW rfl hb)
     · exact stp (cTW rfl (stp (cFW rfl hb)))
    have fail:∀ {n:Option Stk},((some (!decide ((u:ByteArray)=.empty))).bind fun a2795=>
        cond a2795
        (some true)
        ((some (!decide (v=0))).bind fun a2798=>
         cond a2798
         (some true)
         ((some (decide (((j:Nat):Int)<2))).bind fun a2801=>
          cond a2801
          (some true)
          ((subO ((j:Nat):Int) 1).bind fun a2804=>
           (idxO x1 a2804).bind fun a2812=>
           (some (decide (a2812<1))).bind fun a2814=>
           some a2814))))=some true→n=none→n=none:=fun _ h=>h
    by_cases hu:u=.empty
    case neg=>
     have hn:rC S (k,v,u)=none:=by rw [hst,if_neg (fun h=>hu h.2)]
     exact .inr ⟨_,sqW (bnd hi (bnd hc (cFW rfl (bnd (hten true (stp (cTW (nF (dF hu)) rfl))) rfl)))) rfl,rfl,bad hn⟩
    by_cases hv:v=0
    case neg=>
     have hn:rC S (k,v,u)=none:=by rw [hst,if_neg (fun h=>hv h.1)]
     exact .inr ⟨_,sqW (bnd hi (bnd hc (cFW rfl (bnd (hten true (stp (cFW (nT (dT hu)) (stp (cTW (nF (dF hv)) rfl))))) rfl)))) rfl,rfl,bad hn⟩
    rw [if_pos ⟨hv,hu⟩] at hst
    match S,h2,hst,hS with
    | [],h2,hst,_=>
     obtain rfl:j=0:=h2
     exact .inr ⟨_,sqW (bnd hi (bnd hc (cFW rfl (bnd (hten true (stp (cFW (nT (dT hu)) (stp (cFW (nT (dT hv)) (stp (cTW (dT (by omega)) rfl))))))) rfl)))) rfl,rfl,bad hst⟩
    | [(b,y)],h2,hst,_=>
     obtain ⟨s1,s2,s3,s4,s5⟩:=h2
     have s5:j-(flat b).length=0:=s5
     refine .inr ⟨_,sqW (bnd hi (bnd hc (cFW rfl (bnd (hten true (stp (cFW (nT (dT hu)) (stp (cFW (nT (dT hv)) (stp ?_)))))) rfl)))) rfl,rfl,bad hst⟩
     by_cases h2:((j:Nat):Int)<2
     · exact cTW (dT h2) rfl
     ·
      refine cFW (dF h2) (bnd (fD (by omega) (by omega)) (bnd (a:=0) ?_ rfl))
      rw [s5] at s2
      have e:(j:Int)-1=((j-1:Nat):Int):=by omega
      rw [e];exact pA s2
    | (b,y)::(a,x)::S',h2,hst,hS=>
     have hx:=hS (a,x) (by simp)
     have hy:=hS (b,y) (by simp)
     obtain ⟨s1,s2,s3,s4,r1,r2,r3,r4,r5⟩:=h2
     dsimp only at s2 s3 s4 r2 r3 r4
     have hpa:=yF a
     have hpb:=yF b
     have hj2:2≤j:=by omega
     obtain ⟨a1,a2,a3,a4⟩:=hx
     obtain ⟨b1,b2,b3,b4⟩:=hy
     have e1:subO ((j:Nat):Int) 1=some ((j-1:Nat):Int):=by rw [fD (by omega) (by omega)];congr 1;omega
     have e2:subO ((j-(flat b).length:Nat):Int) 1=some ((j-(flat b).length-1:Nat):Int):=by rw [fD (by omega) (by omega)];congr 1;omega
     have hpass:=hten false (stp (cFW (nT (dT hu)) (stp (cFW (nT (dT hv)) (stp (cFW (dF (by omega)) (bnd e1 (bnd (pA s2) (stp (congrArg some (dF (by omega))))))))))))
     have hlenT:(flat (.node k a b)).length=(flat a).length+(flat b).length+1:=by simp [flat];omega
     have hidx:j+1-(flat (.node k a b)).length=j-(flat b).length-(flat a).length:=by rw [hlenT];omega
     dsimp only at a1 a2 a3 a4 b1 b2 b3 b4
     have hS1:gS S':=fun p hp=>hS p (by simp [hp])
     have bg:∀ w:Int×Int,jn k x y=some w→cG w∧(¬(12:Int)<w.1)∧¬(12:Int)<w.2:=fun w h=>by
      have:=jn_ok (x:=x) (y:=y) ⟨a1,a2,a3,a4⟩ ⟨b1,b2,b3,b4⟩ h
      obtain ⟨c1,c2,c3,c4⟩:=this
      exact ⟨⟨c1,c2,c3,c4⟩,by omega,by omega⟩
     have hgood:∀ w:Int×Int,jn k x y=some w→∃ S1,bD (t.take (j+1)) []=some S1∧(x1++[((j-(flat b).length-(flat a).length:Nat):Int)]).length=j+1∧(x2++[w.1]).length=j+1∧(x3++[w.2]).length=j+1 ∧
       ScR (x1++[((j-(flat b).length-(flat a).length:Nat):Int)],x2++[w.1],x3++[w.2]) (j+1) S1∧∀ i S0,i≤j+1→bD (t.take i) []=some S0→ScR (x1++[((j-(flat b).length-(flat a).length:Nat):Int)],x2++[w.1],x3++[w.2]) i S0:=fun w hw=>by
      have hn:rC ((b,y)::(a,x)::S') (k,v,u)=some ((.node k a b,w)::S'):=by rw [hst];simp only [hw,Option.map_some]
      have:=good (.node k a b) w S' (by rw [hstep,hn]) (by rw [hlenT];omega) (by rw [hidx];exact r5)
      rw [hidx] at this
      exact this
     have hbad:jn k x y=none→bD t []=none:=fun hw=>bad (by rw [hst];simp only [hw,Option.map_none])
     have ap:∀ (l:List Int) (z:Int),l.length=j→tA l [z]=some (l++[z]):=fun l z h=>vB (by simp;omega)
     have s1':=Ep_ a1 a2 b1 b2
     have s2':=Ep_ a3 a4 b3 b4
     by_cases h15:k=15
     ·
      by_cases hxy:x.2=y.1
      ·
       have hw:jn k x y=some (x.1,y.2):=by unfold jn;rw [if_pos h15,if_pos hxy]
       obtain ⟨_,w1,w2⟩:=bg _ hw
       refine .inl ⟨(x1++[((j-(flat b).length-(flat a).length:Nat):Int)],x2++[x.1],x3++[y.2]),sqW (r:=some (.inl (x1++[((j-(flat b).length-(flat a).length:Nat):Int)],x2++[x.1],x3++[y.2]))) ?_ rfl,hgood _ hw⟩
       refine bnd hi (bnd hc (cFW rfl (bnd hpass (cFW rfl ?_))))
       refine bnd e1 (bnd (pA s2) (bnd e2 (bnd (pA r3) (bnd (pA s3) (bnd s1' (bnd (pA r4) (bnd (pA s4) (bnd s2' ?_))))))))
       refine sqW (r:=some (.inl (x.1,y.2))) (bnd (congrArg some (dT h15)) (cTW rfl (bnd (pA r4) (bnd (pA s3) (stp (cFW (nT (dT hxy)) (bnd (pA r3) (bnd (pA s4) rfl)))))))) ?_
       rw [zI]
       refine bnd (a:=false) (bnd (congrArg some (dF w1)) (bnd (congrArg some (dF w2)) rfl)) (cFW rfl ?_)
       exact bnd (pA r2) (bnd (ap _ _ l1) (bnd (ap _ _ l2) (bnd (ap _ _ l3) rfl)))
      ·
       have hw:jn k x y=none:=by unfold jn;rw [if_pos h15,if_neg hxy]
       refine .inr ⟨((x1,x2,x3),false),sqW (r:=some (.inr (.inr ((x1,x2,x3),false)))) ?_ rfl,rfl,hbad hw⟩
       refine bnd hi (bnd hc (cFW rfl (bnd hpass (cFW rfl ?_))))
       refine bnd e1 (bnd (pA s2) (bnd e2 (bnd (pA r3) (bnd (pA s3) (bnd s1' (bnd (pA r4) (bnd (pA s4) (bnd s2' ?_))))))))
       exact sqW (r:=some (.inr (.inr (.inr ((x1,x2,x3),false))))) (bnd (congrArg some (dT h15)) (cTW rfl (bnd (pA r4) (bnd (pA s3) (stp (cTW (nF (dF hxy)) rfl)))))) rfl
     ·
      by_cases h1:x.1+y.1≤12
      ·
       by_cases h2:x.2+y.2≤12
       ·
        have hw:jn k x y=some (x.1+y.1,x.2+y.2):=by unfold jn;rw [if_neg h15,if_pos ⟨h1,h2⟩]
        obtain ⟨_,w1,w2⟩:=bg _ hw
        refine .inl ⟨(x1++[((j-(flat b).length-(flat a).length:Nat):Int)],x2++[x.1+y.1],x3++[x.2+y.2]),sqW (r:=some (.inl (x1++[((j-(flat b).length-(flat a).length:Nat):Int)],x2++[x.1+y.1],x3++[x.2+y.2]))) ?_ rfl,hgood _ hw⟩
        refine bnd hi (bnd hc (cFW rfl (bnd hpass (cFW rfl ?_))))
        refine bnd e1 (bnd (pA s2) (bnd e2 (bnd (pA r3) (bnd (pA s3) (bnd s1' (bnd (pA r4) (bnd (pA s4) (bnd s2' ?_))))))))
        refine sqW (r:=some (.inl (x.1+y.1,x.2+y.2))) (bnd (congrArg some (dF h15)) (cFW rfl rfl)) ?_
        rw [zI]
        refine bnd (a:=false) (bnd (congrArg some (dF w1)) (bnd (congrArg some (dF w2)) rfl)) (cFW rfl ?_)
        exact bnd (pA r2) (bnd (ap _ _ l1) (bnd (ap _ _ l2) (bnd (ap _ _ l3) rfl)))
       ·
        have hw:jn k x y=none:=by unfold jn;rw [if_neg h15,if_neg (fun h=>h2 h.2)]
        refine .inr ⟨((x1,x2,x3),false),sqW (r:=some (.inr (.inr ((x1,x2,x3),false)))) ?_ rfl,rfl,hbad hw⟩
        refine bnd hi (bnd hc (cFW rfl (bnd hpass (cFW rfl ?_))))
        refine bnd e1 (bnd (pA s2) (bnd e2 (bnd (pA r3) (bnd (pA s3) (bnd s1' (bnd (pA r4) (bnd (pA s4) (bnd s2' ?_))))))))
        refine sqW (r:=some (.inl (x.1+y.1,x.2+y.2))) (bnd (congrArg some (dF h15)) (cFW rfl rfl)) ?_
        rw [zI]
        exact bnd (a:=true) (bnd (congrArg some (dF (by dsimp only;omega))) (bnd (congrArg some (dT (by dsimp only;omega))) rfl)) (cTW rfl rfl)
      ·
       have hw:jn k x y=none:=by unfold jn;rw [if_neg h15,if_neg (fun h=>h1 h.1)]
       refine .inr ⟨((x1,x2,x3),false),sqW (r:=some (.inr (.inr ((x1,x2,x3),false)))) ?_ rfl,rfl,hbad hw⟩
       refine bnd hi (bnd hc (cFW rfl (bnd hpass (cFW rfl ?_))))
       refine bnd e1 (bnd (pA s2) (bnd e2 (bnd (pA r3) (bnd (pA s3) (bnd s1' (bnd (pA r4) (bnd (pA s4) (bnd s2' ?_))))))))
       refine sqW (r:=some (.inl (x.1+y.1,x.2+y.2))) (bnd (congrArg some (dF h15)) (cFW rfl rfl)) ?_
       rw [zI]
       exact bnd (a:=true) (bnd (congrArg some (dT (by dsimp only;omega))) rfl) (cTW rfl rfl)
   ·
    have ap:∀ (l:List Int) (z:Int),l.length=j→tA l [z]=some (l++[z]):=fun l z h=>vB (by simp;omega)
    cases hb:lfB (k,v,u) with
    | true=>
     have hr:rng k 1 14=true:=by
      unfold lfB at hb;simp only [Bool.and_eq_true] at hb;exact hb.2.1
     have hk17:¬k=17:=by have:=rng_true.1 hr;omega
     have hn:rC S (k,v,u)=some ((.leaf (k,v,u),lfT (k,v,u))::S):=by unfold rC;rw [if_neg hk,if_pos hb]
     have hc:((iH (k,v,u)).bind fun y2720=>cond y2720 (some true) ((some (decide (k=17))).bind fun a2724=>some a2724))=some true:=
      bnd (dW _) (by rw [hb];rfl)
     have:=good (.leaf (k,v,u)) (lfT (k,v,u)) S (by rw [hstep,hn]) (by simp [flat]) (by simpa [flat] using h2)
     rw [show j+1-(flat (.leaf (k,v,u))).length=j by simp [flat]] at this
     refine .inl ⟨(x1++[((j:Nat):Int)],x2++[(lfT (k,v,u)).1],x3++[(lfT (k,v,u)).2]),sqW (r:=some (.inl (x1++[((j:Nat):Int)],x2++[(lfT (k,v,u)).1],x3++[(lfT (k,v,u)).2]))) ?_ rfl,this⟩
     refine bnd hi (bnd hc (cTW rfl (bnd (DM_ _) ?_)))
     refine sqW (r:=some (.inl ((lfT (k,v,u)).2,(lfT (k,v,u)).1))) (bnd (congrArg some (dF hk17)) (cFW rfl rfl)) ?_
     rw [zI]
     exact bnd (ap _ _ l1) (bnd (ap _ _ l2) (bnd (ap _ _ l3) rfl))
    | false=>
     have hn:rC S (k,v,u)=none:=by unfold rC;rw [if_neg hk,if_neg (by rw [hb];simp)]
     by_cases h17:k=17
     ·
      have hc:((iH (k,v,u)).bind fun y2720=>cond y2720 (some true) ((some (decide (k=17))).bind fun a2724=>some a2724))=some true:=
       bnd (dW _) (by rw [hb];exact cFW rfl (stp (congrArg some (dT h17))))
      refine .inr ⟨((x1,x2,x3),false),sqW (r:=some (.inr (.inr ((x1,x2,x3),false)))) ?_ rfl,rfl,bad hn⟩
      refine bnd hi (bnd hc (cTW rfl (bnd (DM_ _) ?_)))
      exact sqW (r:=some (.inr (.inr (.inr ((x1,x2,x3),false))))) (bnd (congrArg some (dT h17)) (cTW rfl (bnd (HE_ _) (bnd (a:=true) rfl (cTW rfl rfl))))) rfl
     ·
      have hc:((iH (k,v,u)).bind fun y2720=>cond y2720 (some true) ((some (decide (k=17))).bind fun a2724=>some a2724))=some false:=
       bnd (dW _) (by rw [hb];exact cFW rfl (stp (congrArg some (dF h17))))
      have hk1:¬k=15:=fun h=>hk (.inl h)
      have hk2:¬k=16:=fun h=>hk (.inr h)
      exact .inr ⟨_,sqW (bnd hi (bnd hc (cFW rfl (bnd (a:=true) (stp (cTW (nF (dF hk1)) (stp (cTW (nF (dF hk2)) rfl)))) rfl)))) rfl,rfl,bad hn⟩)
  rcases loop with ⟨x,h1,S,h2,k1,k2,k3,h3,hall⟩ | ⟨⟨x,r⟩,h1,rfl,h2⟩
  ·
   rw [List.take_length] at h2
   have hne:S≠[]:=by
    rintro rfl
    have:t.length=0:=h3
    omega
   obtain ⟨⟨T,w⟩,S',rfl⟩:∃ p S',S=p::S':=by
    cases S with
    | nil=>exact (hne rfl).elim
    | cons p S'=>exact ⟨p,S',rfl⟩
   obtain ⟨s1,s2,s3,s4,s5⟩:=h3
   have hT:=yF T
   have ev:qC t=decide (((t.length-(flat T).length:Nat):Int)=0):=by
    unfold qC
    rw [hr,h2,Bool.true_and]
    match S',s5 with
    | [],s5=>
     have s5:t.length-(flat T).length=0:=s5
     rw [s5];rfl
    | (T',w')::S'',s5=>
     have:=yF T'
     exact (dF (by have:=s5.1;omega)).symm
   refine ⟨x,bnd (l1In _ _ _) (stp ?_),fun S0 hS0 _=>?_⟩
   ·
    rw [hr]
    refine cFW rfl (sqW h1 ?_)
    rw [zI]
    refine bnd (a:=((t.length-1:Nat):Int)) (by rw [fD (by omega) (by omega)];congr 1;omega) (bnd (pA s2) (stp ?_))
    rw [ev]
   ·
    rw [h2] at hS0
    obtain rfl:=Option.some.inj hS0
    refine ⟨k1,⟨s1,s2,s3,s4,s5⟩,fun S0 p q hpq hp=>?_⟩
    refine hall p.length S0 (by rw [hpq];simp) ?_
    rw [hpq,List.take_left];exact hp
  ·
   refine ⟨x,bnd (l1In _ _ _) (stp ?_),fun S hS=>by rw [h2] at hS;cases hS⟩
   rw [hr]
   refine cFW rfl (sqW h1 ?_)
   rw [BL_]
   unfold qC
   rw [h2,hr];rfl
end Go.Proofs.YtlggnmkelgplnaaGreatDoor
namespace Go.Proofs.YtlggnmkelgplnaaGreatDoor
def zD:Tr→Option (Int×Int)
 | .leaf n=>if lfB n=true then some (lfT n) else none
 | .node k a b=>if k=15∨k=16 then (zD a).bind fun x=>(zD b).bind fun y=>jn k x y else none
def typS (S:Stk):Prop:=∀ p∈S,zD p.1=some p.2
theorem HZ_ {S S':Stk}{n:Nod} (hS:typS S) (h:rC S n=some S'):typS S':=by
 unfold rC at h
 split at h
 ·
  rename_i hk
  split at h
  ·
   split at h
   ·
    rename_i b y a x S0
    obtain ⟨w,hw,rfl⟩:=Option.map_eq_some_iff.1 h
    intro p hp
    rcases List.mem_cons.1 hp with rfl | hp
    ·
     have h1:=hS (a,x) (by simp)
     have h2:=hS (b,y) (by simp)
     dsimp only at h1 h2
     show (if n.1=15∨n.1=16 then _ else none)=_
     rw [if_pos hk,h1,h2];exact hw
    · exact hS p (by simp [hp])
   · cases h
  · cases h
 ·
  split at h
  ·
   obtain rfl:=Option.some.inj h
   intro p hp
   rcases List.mem_cons.1 hp with rfl | hp
   ·
    show (if lfB n=true then _ else none)=_
    rw [if_pos ‹_›]
   · exact hS p hp
  · cases h
theorem DQ_:∀ (t:List Nod) (S S':Stk),typS S→bD t S=some S'→typS S'
 | [],S,S',hS,h=>by obtain rfl:=Option.some.inj h;exact hS
 | n::t,S,S',hS,h=>by
  obtain ⟨S1,h1,h2⟩:=aA h
  exact DQ_ t S1 S' (HZ_ hS h1) h2
theorem wJ {k:Int}{a b:Tr}{w:Int×Int} (h:zD (.node k a b)=some w):(k=15∨k=16)∧∃ x y,zD a=some x∧zD b=some y∧jn k x y=some w:=by
 unfold zD at h
 split at h
 ·
  obtain ⟨x,h1,h2⟩:=aA h
  obtain ⟨y,h3,h4⟩:=aA h2
  exact ⟨‹_›,x,y,h1,h3,h4⟩
 · cases h
theorem fL {n:Nod}{w:Int×Int} (h:zD (.leaf n)=some w):lfB n=true∧w=lfT n:=by
 unfold zD at h
 split at h
 · exact ⟨‹_›,(Option.some.inj h).symm⟩
 · cases h
theorem qL {n:Nod} (h:lfB n=true):1≤n.1∧n.1≤14:=by
 unfold lfB at h;simp only [Bool.and_eq_true] at h
 exact rng_true.1 h.2.1
theorem rM:∀ {T:Tr}{w:Int×Int},zD T=some w→∀ S,bD (flat T) S=some ((T,w)::S)
 | .leaf n,w,h,S=>by
  obtain ⟨h1,rfl⟩:=fL h
  have hk:=qL h1
  show (rC S n).bind _=_
  unfold rC
  rw [if_neg (by omega),if_pos h1];rfl
 | .node k a b,w,h,S=>by
  obtain ⟨hk,x,y,h1,h2,h3⟩:=wJ h
  show bD (flat a++flat b++[(k,0,.empty)]) S=_
  rw [runT_app,runT_app,rM h1 S]
  show ((bD (flat b) ((a,x)::S)).bind _)=_
  rw [rM h2]
  show (rC ((b,y)::(a,x)::S) (k,0,.empty)).bind _=_
  unfold rC
  rw [if_pos hk,if_pos ⟨rfl,rfl⟩]
  show ((jn k x y).map _).bind _=_
  rw [h3];rfl
theorem lQ {t:List Nod} (h:qC t=true):∃ T w,t=flat T∧zD T=some w∧t.length≤400:=by
 unfold qC at h
 rw [Bool.and_eq_true] at h
 have hl:=rng_true.1 h.1
 cases hr:bD t [] with
 | none=>rw [hr] at h;cases h.2
 | some S=>
  rw [hr] at h
  match S,hr,h.2 with
  | [(T,w)],hr,_=>
   have h1:=AJ_ _ _ _ hr
   have h2:=DQ_ _ _ _ (fun p hp=>by cases hp) hr
   refine ⟨T,w,?_,h2 (T,w) (by simp),by omega⟩
   unfold sL at h1
   simpa using h1.symm
theorem AE_ {t:List Nod}{x:List Int×List Int×List Int}{b:Bool} (h:wT [] t=some (x,b)):yP t=some (x,b):=bnd h rfl
theorem E5_ {t:List Nod} (h:t.length≤iB):mU t=some t:=bnd (vB (by simpa using h)) rfl
theorem Iz_ {k:Int}{a b:Tr}{w:Int×Int} (h:zD (.node k a b)=some w) (hl:(flat (.node k a b)).length≤400):bZ (flat (.node k a b))=some (flat a,flat b):=by
 have hm:iB=1099511627776:=rfl
 obtain ⟨hk,x,y,h1,h2,h3⟩:=wJ h
 obtain ⟨X,hX,hs⟩:=Bv_ (flat (.node k a b))
 have hpa:=yF a
 have hpb:=yF b
 have hlen:(flat (.node k a b)).length=(flat a).length+(flat b).length+1:=by simp [flat];omega
 obtain ⟨k1,_,hsc⟩:=hs _ (rM h []) (rng_true.2 (by omega))
 have hsc:=hsc [(b,y),(a,x)] (flat a++flat b) [(k,0,.empty)] rfl (by
  rw [runT_app,rM h1]
  show bD (flat b) [(a,x)]=_
  rw [rM h2])
 obtain ⟨_,s2,_⟩:=hsc
 rw [List.length_append,Nat.add_sub_cancel] at s2
 have sl1:aB (flat (.node k a b)) 0 (((flat a).length:Nat):Int)=some (flat a):=by
  unfold aB;rw [if_pos ⟨by omega,by omega,by omega⟩]
  simp [flat]
 have sl2:aB (flat (.node k a b)) (((flat a).length:Nat):Int) (((flat a).length+(flat b).length:Nat):Int)=some (flat b):=by
  unfold aB;rw [if_pos ⟨by omega,by omega,by omega⟩]
  have e:(((flat a).length:Int)+((flat b).length:Int)).toNat-(flat a).length=(flat b).length:=by omega
  simp [flat,e]
 refine bnd (AE_ hX) (bnd (a:=(((flat a).length+(flat b).length:Nat):Int)) (by rw [hlen,fD (by omega) (by omega)];congr 1;omega)
  (bnd (a:=(((flat a).length+(flat b).length-1:Nat):Int)) (by rw [fD (by omega) (by omega)];congr 1;omega) (bnd (pA s2) (bnd sl1 (bnd sl2 (bnd (E5_ (by omega)) (bnd (E5_ (by omega)) rfl)))))))
def frL (a b:Nat):List Int:=(List.range b).map fun j:Nat=>((j:Int)+(a:Int))
theorem frL_len (a b:Nat):(frL a b).length=b:=by simp [frL]
def ugL (n:Nat):List Int:=(List.range n).map fun q:Nat=>(q:Int)
theorem ugL_len (n:Nat):(ugL n).length=n:=by simp [ugL]
theorem ugTo_ {n:Nat} (hn:n≤1048576):uJ (n:Int)=some (ugL n):=upT_ hn
theorem DJ_ (n:Nat):ugL (n+1)=ugL n++[(n:Int)]:=by unfold ugL;rw [List.range_succ];simp
theorem frL_succ (a b:Nat):frL a (b+1)=frL a b++[(b:Int)+a]:=by unfold frL;rw [List.range_succ];simp
theorem IB_ (a b:Nat):(gB b fun k=>(k:Int)+a)=frL a b:=rfl
def pG (n:Nod):Gra:=if n.1=1 then (n.2.1,[],ugL n.2.1.toNat,ugL n.2.1.toNat) else if n.1=2 then (2,[],[0,1],[1,0]) else
 ((kd n.1).1+(kd n.1).2,[(n.1,n.2.1,ugL (kd n.1).1.toNat,frL (kd n.1).1.toNat (kd n.1).2.toNat)],ugL (kd n.1).1.toNat,frL (kd n.1).1.toNat (kd n.1).2.toNat)
theorem hgId_ {n:Nat} (hn:n≤1000):At_ (n:Int)=some ((n:Int),[],ugL n,ugL n):=by
 have hm:iB=1099511627776:=rfl
 have loop:=aO (f:=fun (s166:List Int×List Int×Int)=>
   (some (decide (s166.2.2<(n:Int)))).bind fun a179=>
   cond a179
   ((tA s166.1 [s166.2.2]).bind fun a187=>
    (tA s166.2.1 [s166.2.2]).bind fun a196=>
    (qA s166.2.2 1).bind fun a202=>
    some (.inl (a187,a196,a202)))
   (some (.inr (s166.1,s166.2.1)))) (fun j=>(ugL j,ugL j,(j:Int))) (t:=(ugL n,ugL n)) n (fun j hj=>by
  refine stp (cTW (dT (by dsimp only;omega)) ?_)
  have e:tA (ugL j) [(j:Int)]=some (ugL (j+1)):=by rw [DJ_];exact vB (by rw [ugL_len];simp;omega)
  exact bnd e (bnd e (bnd (jB (by dsimp only;omega) (by dsimp only;omega)) rfl)))
  (stp (cFW (dF (by dsimp only;omega)) rfl))
 exact bnd loop rfl
theorem HJ_ {a b:Nat} (ha:a≤1000) (hb:b≤1000):zB (fun (s328:List Int×List Int×List Int×List Int×Int)=>
     (qA (a:Int) (b:Int)).bind fun a345=>
     (some (decide (s328.2.2.2.2<a345))).bind fun a347=>
     cond a347
     ((some (decide (s328.2.2.2.2<(a:Int)))).bind fun a352=>
      cond a352
      ((tA s328.1 [s328.2.2.2.2]).bind fun a379=>
       (tA s328.2.2.1 [s328.2.2.2.2]).bind fun a388=>
       (qA s328.2.2.2.2 1).bind fun a394=>
       some (.inl (a379,s328.2.1,a388,s328.2.2.2.1,a394)))
      ((tA s328.2.1 [s328.2.2.2.2]).bind fun a358=>
       (tA s328.2.2.2.1 [s328.2.2.2.2]).bind fun a367=>
       (qA s328.2.2.2.2 1).bind fun a373=>
       some (.inl (s328.1,a358,s328.2.2.1,a367,a373))))
     (some (.inr (s328.1,s328.2.1,s328.2.2.1,s328.2.2.2.1)))) (([]:List Int),([]:List Int),([]:List Int),([]:List Int),(0:Int))=some (ugL a,frL a b,ugL a,frL a b):=by
 have hm:iB=1099511627776:=rfl
 have hs:qA (a:Int) (b:Int)=some ((a:Int)+b):=jB (by omega) (by omega)
 have loop:=aO (f:=fun (s328:List Int×List Int×List Int×List Int×Int)=>
     (qA (a:Int) (b:Int)).bind fun a345=>
     (some (decide (s328.2.2.2.2<a345))).bind fun a347=>
     cond a347
     ((some (decide (s328.2.2.2.2<(a:Int)))).bind fun a352=>
      cond a352
      ((tA s328.1 [s328.2.2.2.2]).bind fun a379=>
       (tA s328.2.2.1 [s328.2.2.2.2]).bind fun a388=>
       (qA s328.2.2.2.2 1).bind fun a394=>
       some (.inl (a379,s328.2.1,a388,s328.2.2.2.1,a394)))
      ((tA s328.2.1 [s328.2.2.2.2]).bind fun a358=>
       (tA s328.2.2.2.1 [s328.2.2.2.2]).bind fun a367=>
       (qA s328.2.2.2.2 1).bind fun a373=>
       some (.inl (s328.1,a358,s328.2.2.1,a367,a373))))
     (some (.inr (s328.1,s328.2.1,s328.2.2.1,s328.2.2.2.1)))) (fun j=>(ugL (min j a),frL a (j-a),ugL (min j a),frL a (j-a),(j:Int))) (t:=(ugL a,frL a b,ugL a,frL a b)) (a+b) (fun j hj=>by
  refine bnd hs (stp (cTW (dT (by dsimp only;omega)) ?_))
  have e1:qA ((j:Nat):Int) 1=some ((j+1:Nat):Int):=jB (by omega) (by omega)
  by_cases hja:j<a
  ·
   have e:tA (ugL (min j a)) [(j:Int)]=some (ugL (min (j+1) a)):=by
    rw [Nat.min_eq_left (by omega),Nat.min_eq_left (by omega),DJ_];exact vB (by rw [ugL_len];simp;omega)
   refine stp (cTW (dT (by dsimp only;omega)) (bnd e (bnd e (bnd e1 ?_))))
   rw [show j+1-a=j-a by omega]
  ·
   have e:tA (frL a (j-a)) [(j:Int)]=some (frL a (j+1-a)):=by
    rw [show j+1-a=j-a+1 by omega,frL_succ,show ((j-a:Nat):Int)+a=j by omega];exact vB (by rw [frL_len];simp;omega)
   refine stp (cFW (dF (by dsimp only;omega)) (bnd e (bnd e (bnd e1 ?_))))
   rw [Nat.min_eq_right (by omega),Nat.min_eq_right (by omega)])
  (bnd hs (stp (cFW (dF (by dsimp only;omega)) (by rw [Nat.min_eq_right (by omega),Nat.add_sub_cancel_left]))))
 rw [Nat.zero_min,Nat.zero_sub] at loop
 exact loop
theorem rO (k:Int):∃ a b:Nat,kd k=((a:Int),(b:Int))∧a≤2∧b≤2:=by
 have h:=kd_le k
 refine ⟨(kd k).1.toNat,(kd k).2.toNat,Prod.ext (by dsimp only;omega) (by dsimp only;omega),by omega,by omega⟩
theorem yW {n:Nod} (h:lfB n=true) (h1:n.1=1):0≤n.2.1∧n.2.1≤12:=by
 unfold lfB at h
 simp only [Bool.and_eq_true] at h
 rw [if_pos h1] at h
 exact rng_true.1 h.2.2
theorem rW {n:Nod} (h:lfB n=true):cQ n=some (pG n):=by
 obtain ⟨k,v,s⟩:=n
 unfold cQ pG
 by_cases h1:k=1
 ·
  have hv:=yW h h1
  dsimp only at hv
  obtain ⟨m,rfl⟩:∃ m:Nat,v=(m:Int):=⟨v.toNat,by omega⟩
  simp [h1,hgId_ (n:=m) (by omega)]
 by_cases h2:k=2
 · simp [h2]
 obtain ⟨a,b,hk,ha,hb⟩:=rO k
 have hs:qA (a:Int) (b:Int)=some ((a:Int)+b):=jB (by omega) (by omega)
 rw [if_neg h1,if_neg h2]
 refine stp (cFW (dF h1) (stp (cFW (dF h2) (bnd (tmKind_ k) ?_))))
 simp only [hk,Int.toNat_natCast]
 exact bnd hs (bnd (HJ_ (by omega) (by omega)) rfl)
theorem HC_ {n:Nod} (h:lfB n=true):oP n=some (pG n):=by
 have hm:iB=1099511627776:=rfl
 have hkk:=qL h
 obtain ⟨k,v,s⟩:=n
 dsimp only at hkk
 unfold oP pG
 by_cases h1:k=1
 ·
  have hv:=yW h h1
  dsimp only at hv
  obtain ⟨m,rfl⟩:∃ m:Nat,v=(m:Int):=⟨v.toNat,by omega⟩
  have:dY (m:Int)=some ((m:Int),[],ugL m,ugL m):=bnd (ugTo_ (by omega)) (bnd (ugTo_ (by omega)) rfl)
  simp [h1,this]
 by_cases h2:k=2
 · simp [h2]
 obtain ⟨a,b,hk,ha,hb⟩:=rO k
 have hs:qA (a:Int) (b:Int)=some ((a:Int)+b):=jB (by omega) (by omega)
 have hr:rng k 3 14=true:=rng_true.2 (by omega)
 have c1:xG (ugL a)=some (ugL a):=gK (by rw [ugL_len];omega)
 have c2:xG (frL a b)=some (frL a b):=gK (by rw [frL_len];omega)
 have f1:=tX (n:=b) (a:=a) (by omega) (by omega)
 rw [IB_] at f1
 simp only [h1,h2,pP hr,hk,decide_false,cond_false,Option.bind_some,hs,if_false,Int.toNat_natCast,ugTo_ (n:=a) (by omega),f1,c1,c2]
theorem sV {n:Nod} (h:lfB n=true):gOk (pG n)=true∧((pG n).2.2.1.length:Int)=(lfT n).1∧((pG n).2.2.2.length:Int)=(lfT n).2:=by
 have hkk:=qL h
 obtain ⟨k,v,s⟩:=n
 dsimp only at hkk
 unfold pG lfT
 by_cases h1:k=1
 ·
  have hv:=yW h h1
  dsimp only at hv
  obtain ⟨m,rfl⟩:∃ m:Nat,v=(m:Int):=⟨v.toNat,by omega⟩
  have key:∀ m:Nat,m<13→gOk ((m:Int),[],ugL m,ugL m)=true:=by decide
  simp only [h1,if_true,Int.toNat_natCast,ugL_len]
  exact ⟨key m (by omega),trivial,trivial⟩
 by_cases h2:k=2
 ·
  subst h2
  have e:gOk (2,[],[0,1],[1,0])=true:=by decide
  exact ⟨e,rfl,rfl⟩
 have hr:rng k 3 14=true:=rng_true.2 (by omega)
 have hg:gG k v=true:=by
  unfold lfB at h
  simp only [Bool.and_eq_true] at h
  rw [if_neg h1] at h
  unfold gG
  rw [hr,Bool.true_and];exact h.2.2
 obtain ⟨a,b,hk,ha,hb⟩:=rO k
 have h0:=hk
 simp only [h1,h2,if_false,hk,Int.toNat_natCast,ugL_len,frL_len,and_true]
 have hE:edW ((a:Int)+b) (k,v,ugL a,frL a b)=(wOk ((a:Int)+b) (ugL a)&&wOk ((a:Int)+b) (frL a b)):=by
  unfold edW arB edI edO
  simp only [hg,hk,ugL_len,frL_len,decide_true,Bool.true_and]
 have e1:((a:Int)+b)=((a+b:Nat):Int):=by omega
 unfold gOk mD
 simp only [List.all_cons,List.all_nil,hE,ugL_len,frL_len,List.map_cons,List.map_nil]
 have key:∀ a:Nat,a<3→∀ b:Nat,b<3→(rng ((a:Int)+b) 0 100&&(decide (1≤60)&&(decide (a≤12)&&(decide (b≤12)&&(wOk ((a:Int)+b) (ugL a)&&(wOk ((a:Int)+b) (frL a b)&&((wOk ((a:Int)+b) (ugL a)&&wOk ((a:Int)+b) (frL a b)&&true)&&(List.range ((a:Int)+b).toNat).all fun j:Nat=>decide ((j:Int)∈ugL a++frL a b++([ugL a++frL a b]).flatten))))))))=true:=by decide
 exact key a (by omega) b (by omega)
def iF (k:Int) (a b:Gra):Gra:=if k=15 then pSeq a.1.toNat b.1.toNat a b else vL a.1.toNat b.1.toNat a b
def tC:Tr→Gra×Bool
 | .leaf n=>(pG n,true)
 | .node k a b=>if (tC a).2=true∧(tC b).2=true then ifG (iF k (tC a).1 (tC b).1) else (noG,false)
theorem ifG_ok {g:Gra} (h:(ifG g).2=true):gOk g=true∧(ifG g).1=g:=by
 unfold ifG at h ⊢
 split at h
 ·
  rename_i hg
  rw [if_pos hg];exact ⟨hg,rfl⟩
 · cases h
theorem IK_ (n m:Nat) (a b:Gra):(pSeq n m a b).2.2.1.length=a.2.2.1.length∧(pSeq n m a b).2.2.2.length=b.2.2.2.length:=by
 unfold pSeq gluG mpG xL
 dsimp only
 rw [mp_len,mp_len,mp_len];exact ⟨rfl,rfl⟩
theorem IL_ (n m:Nat) (a b:Gra):(vL n m a b).2.2.1.length=a.2.2.1.length+b.2.2.1.length∧(vL n m a b).2.2.2.length=a.2.2.2.length+b.2.2.2.length:=by
 unfold vL
 dsimp only
 rw [List.length_append,List.length_append,mp_len,mp_len];exact ⟨rfl,rfl⟩
def lens (g:Gra) (w:Int×Int):Prop:=(g.2.2.1.length:Int)=w.1∧(g.2.2.2.length:Int)=w.2
theorem AQ_ {k:Int}{a b:Gra}{x y w:Int×Int} (ha:lens a x) (hb:lens b y) (h:jn k x y=some w):lens (iF k a b) w∧(k=15→a.2.2.2.length=b.2.2.1.length):=by
 obtain ⟨a1,a2⟩:=ha
 obtain ⟨b1,b2⟩:=hb
 unfold iF
 unfold jn at h
 by_cases hk:k=15
 ·
  rw [if_pos hk] at h ⊢
  split at h
  ·
   obtain rfl:=Option.some.inj h
   have:=IK_ a.1.toNat b.1.toNat a b
   exact ⟨⟨by dsimp only;omega,by dsimp only;omega⟩,fun _=>by omega⟩
  · cases h
 ·
  rw [if_neg hk] at h ⊢
  split at h
  ·
   obtain rfl:=Option.some.inj h
   have:=IL_ a.1.toNat b.1.toNat a b
   exact ⟨⟨by dsimp only;omega,by dsimp only;omega⟩,fun h=>(hk h).elim⟩
  · cases h
theorem lO:∀ {T:Tr}{w:Int×Int},zD T=some w→(tC T).2=true→gOk (tC T).1=true∧lens (tC T).1 w
 | .leaf n,w,h,_=>by
  obtain ⟨h1,rfl⟩:=fL h
  have:=sV h1
  exact ⟨this.1,this.2.1,this.2.2⟩
 | .node k a b,w,h,hm=>by
  obtain ⟨hk,x,y,h1,h2,h3⟩:=wJ h
  unfold tC at hm ⊢
  split at hm
  ·
   rename_i hab
   rw [if_pos hab]
   obtain ⟨g1,g2⟩:=ifG_ok hm
   rw [g2]
   exact ⟨g1,(AQ_ (lO h1 hab.1).2 (lO h2 hab.2).2 h3).1⟩
  · cases hm
theorem Fl_ {k:Int}{a b:Gra} (ga:gOk a=true) (gb:gOk b=true) (hl:k=15→a.2.2.2.length=b.2.2.1.length):(k=15→oU a b=some (iF k a b)∧mP a b=some (iF k a b))∧(k≠15→Al_ a b=some (iF k a b)∧nP a b=some (iF k a b)):=by
 obtain ⟨n,ha⟩:=AN_ ga
 obtain ⟨m,hb⟩:=AN_ gb
 have n1:=ha.n100;have m1:=hb.n100
 unfold iF
 rw [ha.w,hb.w,Int.toNat_natCast,Int.toNat_natCast]
 constructor
 · intro h;rw [if_pos h];exact ⟨hgSeq_ ha hb (hl h),Ht_ ha hb (hl h)⟩
 · intro h;rw [if_neg h];exact ⟨bnd (Dy_ (by omega) (by omega) ha.w hb.w ha.rgd hb.rgd) rfl,Hz_ (by omega) (by omega) ha.w hb.w ha.rgd hb.rgd⟩
theorem Hr_ (n:Nod):lU (flat (.leaf n))=some n.1:=rfl
theorem Hq_ (k:Int) (a b:Tr) (hl:(flat (.node k a b)).length≤400):lU (flat (.node k a b))=some k:=by
 have hlen:(flat (.node k a b)).length=(flat a).length+(flat b).length+1:=by simp [flat];omega
 refine bnd (a:=(((flat a).length+(flat b).length:Nat):Int)) (by rw [hlen,fD (by omega) (by omega)];congr 1;omega) (bnd (a:=(k,0,.empty)) (pA ?_) rfl)
 show (flat a++flat b++[_])[_]?=_
 rw [List.getElem?_append_right (by simp)];simp
theorem Bx_:∀ (fuel:Nat){T:Tr}{w:Int×Int},zD T=some w→(flat T).length≤400→(flat T).length≤fuel→sP fuel (flat T)=some (tC T)
 | 0,T,_,_,_,hf=>by have:=yF T;omega
 | fuel+1,.leaf n,w,h,hl,hf=>by
  obtain ⟨h1,rfl⟩:=fL h
  have hk:=qL h1
  exact bnd (Hr_ n) (stp (cTW (dT (by omega)) (bnd (a:=n) rfl (bnd (rW h1) rfl))))
 | fuel+1,.node k a b,w,h,hl,hf=>by
  obtain ⟨hk,x,y,h1,h2,h3⟩:=wJ h
  have hpa:=yF a
  have hpb:=yF b
  have hlen:(flat (.node k a b)).length=(flat a).length+(flat b).length+1:=by simp [flat];omega
  have ia:=Bx_ fuel h1 (by omega) (by omega)
  have ib:=Bx_ fuel h2 (by omega) (by omega)
  refine bnd (Hq_ k a b hl) (stp (cFW (dF (by omega)) (bnd (Iz_ h hl) (bnd ia (bnd ib ?_)))))
  rw [tC]
  cases ma:(tC a).2 with
  | false=>
   rw [if_neg (fun h=>by cases h.1)]
   exact bnd (a:=true) rfl rfl
  | true=>
   cases mb:(tC b).2 with
   | false=>
    rw [if_neg (fun h=>by cases h.2)]
    exact bnd (a:=true) rfl rfl
   | true=>
    rw [if_pos ⟨rfl,rfl⟩]
    obtain ⟨ga,la⟩:=lO h1 ma
    obtain ⟨gb,lb⟩:=lO h2 mb
    have hc:=Fl_ (k:=k) ga gb (AQ_ la lb h3).2
    refine bnd (a:=false) rfl (cFW rfl ?_)
    by_cases h15:k=15
    · exact stp (cTW (dT h15) (bnd (hc.1 h15).1 (bnd (hgIf_ _) rfl)))
    · exact stp (cFW (dF h15) (bnd (hc.2 h15).1 (bnd (hgIf_ _) rfl)))
noncomputable def mS (t_:List Nod) (k11:Nat) (s383:List Gra):Option (List Gra⊕(Gra×Bool)):=
   (idxO t_ ((k11:Nat):Int)).bind fun a399=>
   (subO ((s383.length:Nat):Int) 1).bind fun a407=>
   (some (decide (a399.1=15))).bind fun a412=>
   cond a412
   ((subO a407 1).bind fun a522=>
    (idxO s383 a522).bind fun a530=>
    (idxO s383 a407).bind fun a542=>
    (mP (a530.1,a530.2.1,a530.2.2.1,a530.2.2.2) (a542.1,a542.2.1,a542.2.2.1,a542.2.2.2)).bind fun y548=>
    (subO a407 1).bind fun a558=>
    (aB s383 0 a558).bind fun a560=>
    (lJ (y548.1,y548.2.1,y548.2.2.1,y548.2.2.2)).bind fun y564=>
    (some (!y564)).bind fun a567=>
    cond a567
    (some (.inr ((0,[],[],[]),false)))
    ((tA a560 [(y548.1,y548.2.1,y548.2.2.1,y548.2.2.2)]).bind fun a577=>
     some (.inl a577)))
   ((some (decide (a399.1=16))).bind fun a415=>
    cond a415
    ((subO a407 1).bind fun a454=>
     (idxO s383 a454).bind fun a462=>
     (idxO s383 a407).bind fun a474=>
     (nP (a462.1,a462.2.1,a462.2.2.1,a462.2.2.2) (a474.1,a474.2.1,a474.2.2.1,a474.2.2.2)).bind fun y480=>
     (subO a407 1).bind fun a490=>
     (aB s383 0 a490).bind fun a492=>
     (lJ (y480.1,y480.2.1,y480.2.2.1,y480.2.2.2)).bind fun y496=>
     (some (!y496)).bind fun a499=>
     cond a499
     (some (.inr ((0,[],[],[]),false)))
     ((tA a492 [(y480.1,y480.2.1,y480.2.2.1,y480.2.2.2)]).bind fun a509=>
      some (.inl a509)))
    ((oP (a399.1,a399.2.1,a399.2.2)).bind fun y418=>
     (lJ (y418.1,y418.2.1,y418.2.2.1,y418.2.2.2)).bind fun y428=>
     (some (!y428)).bind fun a431=>
     cond a431
     (some (.inr ((0,[],[],[]),false)))
     ((tA s383 [(y418.1,y418.2.1,y418.2.2.1,y418.2.2.2)]).bind fun a441=>
      some (.inl a441))))
theorem HL_ {t:List Nod}{j:Nat}{n:Nod}{s:List Gra} (ht:t[j]?=some n) (hn:lfB n=true) (hs:s.length≤1000):mS t j s=some (.inl (s++[pG n])):=by
 have hm:iB=1099511627776:=rfl
 have hk:=qL hn
 refine bnd (pA ht) (bnd (fD (by omega) (by omega)) (stp (cFW (dF (by omega)) (stp (cFW (dF (by omega)) (bnd (HC_ hn) (bnd (A5_ _) (stp ?_))))))))
 rw [(sV hn).1]
 exact cFW rfl (bnd (vB (by simp;omega)) rfl)
theorem HK_ {t:List Nod}{j:Nat}{k:Int}{s:List Gra}{a b:Gra} (ht:t[j]?=some (k,0,.empty)) (hk:k=15∨k=16) (hs:s.length≤1000) (ga:gOk a=true) (gb:gOk b=true) (hl:k=15→a.2.2.2.length=b.2.2.1.length) :
  mS t j (s++[a]++[b])=if gOk (iF k a b)=true then some (.inl (s++[iF k a b])) else some (.inr (noG,false)):=by
 have hm:iB=1099511627776:=rfl
 have hlen:(s++[a]++[b]).length=s.length+2:=by simp
 have e1:subO (((s++[a]++[b]).length:Nat):Int) 1=some ((s.length+1:Nat):Int):=by rw [hlen,fD (by omega) (by omega)];congr 1;omega
 have e2:subO ((s.length+1:Nat):Int) 1=some ((s.length:Nat):Int):=by rw [fD (by omega) (by omega)];congr 1;omega
 have i1:(s++[a]++[b])[s.length]?=some a:=by rw [List.append_assoc,List.getElem?_append_right (Nat.le_refl _),Nat.sub_self];rfl
 have i2:(s++[a]++[b])[s.length+1]?=some b:=by rw [List.append_assoc,List.getElem?_append_right (by omega),Nat.add_sub_cancel_left];rfl
 have sl:aB (s++[a]++[b]) 0 ((s.length:Nat):Int)=some s:=by
  unfold aB;rw [if_pos ⟨by omega,by omega,by rw [hlen];omega⟩,List.append_assoc]
  simp
 have hc:=Fl_ (k:=k) ga gb hl
 refine bnd (pA ht) (bnd e1 ?_)
 by_cases h15:k=15
 ·
  refine stp (cTW (dT h15) (bnd e2 (bnd (pA i1) (bnd (pA i2) (bnd (hc.1 h15).2 (bnd e2 (bnd sl (bnd (A5_ _) (stp ?_)))))))))
  cases hg:gOk (iF k a b) with
  | false=>rfl
  | true=>exact cFW rfl (bnd (vB (by simp;omega)) rfl)
 ·
  refine stp (cFW (dF h15) (stp (cTW (dT (by dsimp only;omega)) (bnd e2 (bnd (pA i1) (bnd (pA i2) (bnd (hc.2 h15).2 (bnd e2 (bnd sl (bnd (A5_ _) (stp ?_)))))))))))
  cases hg:gOk (iF k a b) with
  | false=>rfl
  | true=>exact cFW rfl (bnd (vB (by simp;omega)) rfl)
theorem xU {σ τ:Type}{f:Nat→σ→Option (σ⊕τ)}{n k:Nat}{s s':σ} (h:f k s=some (.inl s')):nC f (n+1) k s=nC f n (k+1) s':=by
 show (f k s).bind _=_
 rw [h];rfl
theorem Dc_ {σ τ:Type}{f:Nat→σ→Option (σ⊕τ)}{n k:Nat}{s:σ}{r:τ} (h:f k s=some (.inr r)):nC f (n+1) k s=some (.inr r):=by
 show (f k s).bind _=_
 rw [h];rfl
theorem AA_ {t:List Nod} (ht:t.length≤400):∀ {T:Tr}{w:Int×Int},zD T=some w→∀ (p q:List Nod) (r:List Gra),t=p++(flat T++q)→r.length≤p.length →
  nC (mS t) ((flat T).length+q.length) p.length r=if (tC T).2=true then nC (mS t) q.length (p.length+(flat T).length) (r++[(tC T).1]) else some (.inr (noG,false))
 | .leaf n,w,h,p,q,r,e,hr=>by
  obtain ⟨h1,rfl⟩:=fL h
  have hlt:p.length<t.length:=by rw [e];simp [flat]
  have hn:t[p.length]?=some n:=by rw [e,List.getElem?_append_right (Nat.le_refl _),Nat.sub_self];rfl
  rw [show (flat (.leaf n)).length+q.length=q.length+1 by simp [flat];omega,xU (HL_ hn h1 (by omega))]
  rfl
 | .node k a b,w,h,p,q,r,e,hr=>by
  obtain ⟨hk,x,y,h1,h2,h3⟩:=wJ h
  have hlen:(flat (.node k a b)).length=(flat a).length+(flat b).length+1:=by simp [flat];omega
  have htl:t.length=p.length+((flat a).length+(flat b).length+1+q.length):=by rw [e,List.length_append,List.length_append,hlen]
  have ea:t=p++(flat a++(flat b++([((k,(0:Int),ByteArray.empty):Nod)]++q))):=by rw [e];simp [flat]
  have eb:t=(p++flat a)++(flat b++([((k,(0:Int),ByteArray.empty):Nod)]++q)):=by rw [ea];simp
  have hpa:=yF a
  have la:=AA_ ht h1 p (flat b++([((k,(0:Int),ByteArray.empty):Nod)]++q)) r ea hr
  rw [show (flat (.node k a b)).length+q.length=(flat a).length+(flat b++([((k,(0:Int),ByteArray.empty):Nod)]++q)).length by rw [hlen];simp;omega,la,tC]
  cases ma:(tC a).2 with
  | false=>simp
  | true=>
   rw [if_pos rfl]
   have lb:=AA_ ht h2 (p++flat a) ([((k,(0:Int),ByteArray.empty):Nod)]++q) (r++[(tC a).1]) eb (by simp;omega)
   rw [show (p++flat a).length=p.length+(flat a).length from List.length_append] at lb
   rw [show (flat b++([((k,(0:Int),ByteArray.empty):Nod)]++q)).length=(flat b).length+([((k,(0:Int),ByteArray.empty):Nod)]++q).length from List.length_append,lb]
   cases mb:(tC b).2 with
   | false=>simp
   | true=>
    have e3:(if true=true∧true=true then ifG (iF k (tC a).1 (tC b).1) else (noG,false))=ifG (iF k (tC a).1 (tC b).1):=if_pos ⟨rfl,rfl⟩
    have e4:∀ {α:Type} (u v:α),(if true=true then u else v)=u:=fun u v=>if_pos rfl
    rw [e3,e4]
    obtain ⟨ga,la⟩:=lO h1 ma
    obtain ⟨gb,lb⟩:=lO h2 mb
    have hn:t[p.length+(flat a).length+(flat b).length]?=some (k,0,.empty):=by
     rw [show t=(p++flat a++flat b)++([((k,(0:Int),ByteArray.empty):Nod)]++q) by rw [ea];simp,List.getElem?_append_right (by simp;omega)]
     simp [Nat.add_assoc]
    have st:=HK_ (s:=r) hn hk (by omega) ga gb (AQ_ la lb h3).2
    rw [show ([((k,(0:Int),ByteArray.empty):Nod)]++q).length=q.length+1 by simp]
    by_cases hg:gOk (iF k (tC a).1 (tC b).1)=true
    ·
     rw [if_pos hg] at st
     have hi:ifG (iF k (tC a).1 (tC b).1)=(iF k (tC a).1 (tC b).1,true):=if_pos hg
     rw [xU st]
     simp only [hi,and_self,if_true]
     rw [hlen,show p.length+((flat a).length+(flat b).length+1)=p.length+(flat a).length+(flat b).length+1 by omega]
    ·
     rw [if_neg hg] at st
     have hi:ifG (iF k (tC a).1 (tC b).1)=(noG,false):=if_neg hg
     rw [Dc_ st]
     simp [hi]
theorem IX_ {T:Tr}{w:Int×Int} (h:zD T=some w) (hl:(flat T).length≤400):nN (flat T)=some (tC T):=by
 have loop:=AA_ hl h [] [] [] (by simp) (by simp)
 rw [List.length_nil,Nat.add_zero,Nat.zero_add,List.nil_append] at loop
 have e:nN (flat T)=fC (nC (mS (flat T)) (flat T).length 0 []) fun s590=>(idxO s590 0).bind fun a599=>some ((a599.1,a599.2.1,a599.2.2.1,a599.2.2.2),true):=rfl
 rw [e,loop]
 cases hm:(tC T).2 with
 | false=>
  have:tC T=(noG,false):=by
   cases T with
   | leaf n=>cases hm
   | node k a b=>
    rw [tC] at hm ⊢
    split
    ·
     rename_i hab
     rw [if_pos hab] at hm
     unfold ifG at hm ⊢
     split at hm
     · cases hm
     · rw [if_neg ‹_›]
    · rfl
  rw [if_neg (by simp),this];rfl
 | true=>
  rw [if_pos rfl]
  refine congrArg some (Prod.ext rfl hm.symm)
open Classical in
noncomputable def mH (t:List Nod):Gra×Bool:=if h:qC t=true then tC (Classical.choose (lQ h)) else (noG,false)
theorem Hd_ {t:List Nod} (h:qC t=true):∃ T w,t=flat T∧zD T=some w∧t.length≤400∧mH t=tC T:=by
 obtain ⟨w,h1,h2,h3⟩:=Classical.choose_spec (lQ h)
 exact ⟨_,w,h1,h2,h3,by unfold mH;rw [dif_pos h]⟩
end Go.Proofs.YtlggnmkelgplnaaGreatDoor
namespace Go.Proofs.YtlggnmkelgplnaaGreatDoor
def selR (ends:List Nat) (v:List Int):List Int:=ends.map fun q=>el v q
theorem uO {ends:List Nat}{v:List Int}{j:Nat} (h:j<ends.length):el (selR ends v) j=el v (ends.getD j 0):=by
 unfold selR el
 rw [List.getD_eq_getElem?_getD,List.getElem?_map,List.getElem?_eq_getElem h,List.getD_eq_getElem?_getD (l:=ends),List.getElem?_eq_getElem h]
 rfl
theorem aX {f:List Int→List Int}{m:Rows}{i:Nat} (h:i<m.length):gr (m.map f) i=f (gr m i):=by
 unfold gr
 rw [List.getD_eq_getElem?_getD,List.getD_eq_getElem?_getD,List.getElem?_map,List.getElem?_eq_getElem h];rfl
theorem AX_ {p:Int}{W:Nat}{V:Rows}{ends:List Nat} (hlt:∀ q∈ends,q<W){x y:List Int} (hx:eE p W V x) (hy:∀ j,j<ends.length→el y j % p=el x (ends.getD j 0) % p):eE p ends.length (V.map (selR ends)) y:=by
 obtain ⟨c,hc⟩:=hx
 refine ⟨c,fun j hj=>?_⟩
 have hm:ends.getD j 0<W:=by
  rw [List.getD_eq_getElem?_getD,List.getElem?_eq_getElem hj]
  exact hlt _ (List.getElem_mem hj)
 rw [hy j hj,hc _ hm,List.length_map]
 congr 1
 exact cD fun i hi=>by rw [aX hi,uO hj]
theorem wW {p:Int}{W:Nat}{V:Rows}{ends:List Nat} (hlt:∀ q∈ends,q<W) (h:okM p W V):okM p ends.length (V.map (selR ends)):=by
 intro r hr
 obtain ⟨v,hv,rfl⟩:=List.mem_map.1 hr
 obtain ⟨h1,h2⟩:=h v hv
 refine ⟨by simp [selR],fun x hx=>?_⟩
 obtain ⟨q,hq,rfl⟩:=List.mem_map.1 hx
 exact h2 _ (fF (by rw [h1];exact hlt q hq))
theorem Bu_ {p:Int}{W:Nat}{eqs G:Rows}{ends:List Nat} (hf:fdB p=true) (hlt:∀ q∈ends,q<W) (he:okM p W eqs) (hG:okM p ends.length G)
  (f1:∀ v:List Int,uH p W eqs v→eE p ends.length G (selR ends v))
  (f2:∀ i,i<G.length→∃ x,uH p W eqs x∧∀ j,j<ends.length→el (gr G i) j % p=el x (ends.getD j 0) % p) :
  eC p ends.length ((fG p W eqs).map (selR ends))=eC p ends.length G:=by
 have hN:=A1_ (n:=W) (m:=eqs) hf
 refine CS_ hf (wW hlt hN.ok) hG (fun i hi=>?_) (fun i hi=>?_)
 ·
  rw [List.length_map] at hi
  rw [aX hi]
  exact f1 _ ((oV hf he _).1 (qF hi))
 ·
  obtain ⟨x,h1,h2⟩:=f2 i hi
  exact AX_ hlt ((oV hf he x).2 h1) h2
def oX (p k v:Int):Rows:=
 if k=3 then [[p-1,1,0],[p-1,0,1]] else if k=5 then [[p-1,p-1,1]] else if k=6 then [[1]] else if k=7 then [[(p-v) % p,1]] else
 if k=9 then [[1,0,p-1],[0,1,p-1]] else if k=11 then [[1,p-1,p-1]] else if k=12 then [[1]] else if k=13 then [[1,(p-v) % p]] else []
def kL (k v:Int):Rows:=
 if k=3 then [[1,1,1]] else if k=4 then [[1]] else if k=5 then [[1,0,1],[0,1,1]] else if k=7 then [[1,v]] else
 if k=9 then [[1,1,1]] else if k=10 then [[1]] else if k=11 then [[1,1,0],[1,0,1]] else if k=13 then [[v,1]] else []
theorem Fo_ {p v:Int} (hp:2≤p∧p≤97) (hv:0≤v∧v<p):Am_ p 0 v=some v:=by
 refine bnd (jB (by omega) (by omega)) (bnd (aH (by omega)) ?_)
 rw [Int.tmod_eq_emod_of_nonneg (by omega),Int.zero_add,Int.emod_eq_of_lt hv.1 hv.2]
theorem Fu_ {p:Int} (hp:2≤p∧p≤97){v w:Int} (hv:0≤v∧v<p) (hw:0≤w∧w<p) :
  pF p 1 [0] [v]=some [v]∧pF p 2 [1,0] [v,w]=some [w,v]∧pF p 2 [0,1] [v,w]=some [v,w] ∧
  pF p 3 [1,0] [v,w]=some [w,v,0]∧pF p 3 [2,0] [v,w]=some [w,0,v]∧pF p 3 [0,2] [v,w]=some [v,0,w]∧pF p 3 [1,2] [v,w]=some [0,v,w] ∧
  pF p 3 [2,0,1] [v,w,w]=some [w,w,v]∧pF p 3 [0,1,2] [v,w,w]=some [v,w,w]:=by
 have a1:=Fo_ hp hv
 have a2:=Fo_ hp hw
 have m1:nD (1:Int) (0:Int)=some [0]:=rfl
 have m2:nD (2:Int) (0:Int)=some [0,0]:=rfl
 have m3:nD (3:Int) (0:Int)=some [0,0,0]:=rfl
 refine ⟨?_,?_,?_,?_,?_,?_,?_,?_,?_⟩ <;> simp [pF,m1,m2,m3,forS,idxO,setO,a1,a2]
theorem hgSel_ {ends:List Nat}{v:List Int}{W:Nat} (hv:v.length=W) (hlt:∀ q∈ends,q<W) (hl:ends.length≤1000):pJ (ends.map fun q:Nat=>(q:Int)) v=some (selR ends v):=by
 have hm:iB=1099511627776:=rfl
 have loop:=yE (f:=fun (k3:Nat) (s58:List Int)=>
   (idxO (ends.map fun q:Nat=>(q:Int)) ((k3:Nat):Int)).bind fun a75=>
   (idxO v a75).bind fun a83=>
   (tA s58 [a83]).bind fun a88=>
   some a88) (fun a:Int=>el v a.toNat) (ends.map fun q:Nat=>(q:Int)) [] (by simp;omega) (fun j a s hj hs=>by
  have hjl:=(List.getElem?_eq_some_iff.1 hj).1
  rw [List.length_map] at hjl
  rw [List.getElem?_map,List.getElem?_eq_getElem hjl] at hj
  obtain rfl:=Option.some.inj hj
  have hq:=hlt _ (List.getElem_mem hjl)
  refine bnd (pA (by rw [List.getElem?_map,List.getElem?_eq_getElem hjl];rfl)) (bnd (yD (by omega)) (bnd (vB (by simp at hs ⊢;omega)) ?_))
  rw [Int.toNat_natCast])
 refine bnd loop (congrArg some ?_)
 rw [List.nil_append,List.map_map]
 unfold selR
 exact List.map_congr_left fun q _=>by show el v ((q:Int)).toNat=_;rw [Int.toNat_natCast]
theorem AF_ (k:Int):uK k=some (decide (k≠8∧k≠14)):=by
 unfold uK
 by_cases h1:k=8
 · simp [h1]
 · by_cases h2:k=14 <;> simp [h1,h2]
theorem asked_ {p:Int}{g:Gra} (hf:fdB p=true) (hg:gOk g=true) (he:∀ e∈g.2.1,e.2.1<p∧e.1≠8∧e.1≠14):fZ p g=some true:=by
 have h1:uZ p g=some true:=by
  refine bnd (a:=false) (bnd (BS_ p) (stp (by rw [hf];exact cFW rfl (bnd (D5_ g) (stp (by rw [hg];rfl)))))) (cFW rfl (sqW (nH (fun e:Edg=>decide (¬p≤e.2.1)) g.2.1 0 (t:=false) (fun j e hj=>?_)) ?_))
  ·
   rw [Nat.zero_add]
   have:=(he e (aD hj)).1
   refine bnd (pA hj) (stp (cFW (dF (by omega)) ?_))
   rw [show decide (¬p≤e.2.1)=true from dT (by omega)];rfl
  · rw [List.all_eq_true.2 fun e h=>dT (by have:=(he e h).1;omega)];rfl
 refine bnd h1 (stp (cFW rfl (sqW (nH (fun e:Edg=>decide (e.1≠8∧e.1≠14)) g.2.1 0 (t:=false) (fun j e hj=>?_)) ?_)))
 ·
  rw [Nat.zero_add]
  have:=(he e (aD hj)).2
  refine bnd (pA hj) (bnd (AF_ e.1) (stp ?_))
  rw [dT this];rfl
 · rw [List.all_eq_true.2 fun e h=>dT (he e h).2];rfl
theorem Bb_ {p:Int}{W a b:Nat}{E:List Edg}{I O:List Int}{ends:List Nat}{eqs:Rows} (hf:fdB p=true) (hg:gOk ((W:Int),E,I,O)=true) (he:∀ e∈E,e.2.1<p∧e.1≠8∧e.1≠14)
  (hI:I.length=a) (hO:O.length=b) (hends:I++O=ends.map fun q:Nat=>(q:Int)) (hlt:∀ q∈ends,q<W) (hq:okM p W eqs) (hql:eqs.length≤1000)
  (hrows:forS (fun (k7:Nat) (s70:List (List Int))=>
   (idxO E ((k7:Nat):Int)).bind fun a87=>
   (eQ p (W:Int) (a87.1,a87.2.1,a87.2.2.1,a87.2.2.2)).bind fun y99=>
   (tA s70 y99).bind fun a104=>
   some a104) E.length 0 []=some eqs):eZ p ((W:Int),E,I,O)=some (((a:Int),(b:Int),eC p (a+b) ((fG p W eqs).map (selR ends))),true):=by
 have hm:iB=1099511627776:=rfl
 obtain ⟨n,hgk⟩:=AN_ hg
 have hW:W≤100:=by have:=hgk.w;have:=hgk.n100;dsimp only at *;omega
 have hi12:=hgk.i12;have ho12:=hgk.o12
 dsimp only at hi12 ho12
 have hel:ends.length=a+b:=by
  have:=congrArg List.length hends
  rw [List.length_append,List.length_map] at this;omega
 have hN:=A1_ (n:=W) (m:=eqs) hf
 have hNl:=jO hf hN
 have hV:vY p ((W:Int),E,I,O)=some (fG p W eqs):=bnd hrows (bnd (Ey_ hf (by omega) hq (by omega)) rfl)
 have hsel:=yE (f:=fun (k32:Nat) (s111:List (List Int))=>
    (idxO (fG p W eqs) ((k32:Nat):Int)).bind fun a128=>
    (pJ (I++O) a128).bind fun y132=>
    (tA s111 [y132]).bind fun a140=>
    some a140) (selR ends) (fG p W eqs) [] (by simp;omega) (fun j v s hj hs=>by
  have hv:=(hN.ok v (aD hj)).1
  have hjl:=(List.getElem?_eq_some_iff.1 hj).1
  have:=hgSel_ hv hlt (by omega)
  rw [←hends] at this
  exact bnd (pA hj) (bnd this (bnd (vB (by simp at hs ⊢;omega)) rfl)))
 have hok:=wW hlt hN.ok
 rw [hel] at hok
 have hred:=yQ hf (Nat.le_refl (a+b)) (by omega) hok (by simp;omega)
 refine bnd (asked_ hf hg he) (stp (cFW rfl (bnd (own_ (by dsimp only;omega)) (bnd (vB (by dsimp only;omega)) (bnd hV (bnd hsel ?_))))))
 refine bnd (a:=((a:Int),(b:Int),eC p (a+b) ((fG p W eqs).map (selR ends)))) ?_ rfl
 dsimp only
 rw [hI,hO]
 refine bnd (a:=((a+b:Nat):Int)) (by rw [jB (by omega) (by omega)];congr 1) (bnd ?_ rfl)
 exact hred
end Go.Proofs.YtlggnmkelgplnaaGreatDoor
