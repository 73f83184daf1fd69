/-
  Plain laws: the program's walk for canonical numbers, over plain lists. No program in sight. No condition.
-/
import Derived.Test.YtodfjigndedehaaGreatDoorZP92
namespace Go.Proofs.YtodfjigndedehaaGreatDoor
set_option linter.unusedVariables false
def enF:List Int→Nat→List (Int×Int)
 | [],_=>[]
 | a::l,i=>(a,(i:Int))::enF l (i+1)
def en (l:List Int):MI:=⟨enF l 0⟩
theorem lW:∀ (l:List Int) (i:Nat),(enF l i).length=l.length
 | [],_=>rfl
 | a::l,i=>congrArg (· + 1) (lW l (i+1))
theorem Eq_:∀ (l:List Int) (i:Nat),(enF l i).map (·.1)=l
 | [],_=>rfl
 | a::l,i=>congrArg (a::·) (Eq_ l (i+1))
theorem Fl_:∀ (l:List Int) (i:Nat) (x:Int),eM (enF l i) x=decide (x∈l)
 | [],_,x=>by simp [eM,enF]
 | a::l,i,x=>by
  have ih:=Fl_ l (i+1) x
  unfold eM at ih ⊢
  show (decide (a=x)||(enF l (i+1)).any _)=_
  rw [ih]
  by_cases h:a=x
  · simp [h]
  ·
   have:¬x=a:=fun e=>h e.symm
   simp [h,this]
theorem FV_ (l:List Int) (x:Int):dM (en l) x=decide (x∈l):=Fl_ l 0 x
theorem Fk_:∀ {l:List Int}{i:Nat}{x:Int},¬x∈l→jG (enF l i) x ((i+l.length:Nat):Int)=enF (l++[x]) i
 | [],i,x,_=>rfl
 | a::l,i,x,h=>by
  rw [List.mem_cons,not_or] at h
  show (if a=x then _ else (a,(i:Int))::jG (enF l (i+1)) x _)=(a,(i:Int))::enF (l++[x]) (i+1)
  rw [if_neg (fun e=>h.1 e.symm),← Fk_ h.2,List.length_cons,show i+(l.length+1)=i+1+l.length by omega]
theorem BQ_ {l:List Int}{x:Int} (h:¬x∈l):eJ (en l) x (((en l).kvs.length:Nat):Int)=en (l++[x]):=by
 unfold eJ en
 dsimp only
 rw [lW]
 have:=Fk_ (i:=0) h
 rw [Nat.zero_add] at this
 rw [this]
abbrev Wk:=(Int×List Edg×List Int×List Int)×(List Int×List Int)×MI×MI×List Int×List Int
def wkr (g:Gra) (to fr:List Int) (s:WS) (j:Nat):Wk:=(g,(fr,to),en s.1,en s.2,s.1.drop j,s.2)
theorem ED_ {g:Gra}{to fr:List Int}{o e:List Int}{j:Nat} (hj:j≤o.length) (hl:o.length≤1000) (w:Int) :
  nN (wkr g to fr (o,e) j) w=some (wkr g to fr (giv1 o w,e) j):=by
 have hm:bB=1099511627776:=rfl
 refine stp (stp ?_)
 unfold giv1
 show cond (!dM (en o) w) _ _=_
 rw [FV_]
 by_cases h:w∈o
 ·
  rw [if_pos h]
  exact cFW (nT (dT h)) rfl
 ·
  rw [if_neg h]
  refine cTW (nF (dF h)) (bnd (jB (by simp [wkr];omega)) ?_)
  unfold wkr
  dsimp only
  rw [BQ_ h,List.drop_append_of_le_length hj]
theorem DH_ {g:Gra}{to fr:List Int}{e:List Int}{j:Nat} (l:List Int){n:Nat} (hn:n≤1000){o:List Int} (ho:Od n o) (hl:rC n l) (hj:j≤o.length) :
  ∀ k,k≤l.length→(giv o (l.take k)).length≤1000∧j≤(giv o (l.take k)).length∧(∀ h:k<l.length,giv o (l.take (k+1))=giv1 (giv o (l.take k)) l[k]):=by
 intro k hk
 have hOd:Od n (giv o (l.take k)):=ho.giv (fun x hx=>hl x (List.mem_of_mem_take hx))
 have hle:=hOd.le
 obtain ⟨r,hr⟩:=Bv_ (l.take k) o
 refine ⟨by omega,by rw [hr];simp;omega,fun h=>?_⟩
 rw [List.take_add_one,List.getElem?_eq_getElem h]
 exact jW _ _ _
theorem EE_ {n:Nat} (hn:n≤1000){g:Gra}{to fr:List Int}{s:WS}{j:Nat} (hE:zE n g.2.1) (hm:g.2.1.length≤1000) (ht:cD g.2.1 edI≤1000) (ht2:cD g.2.1 edO≤1000) (hs:Ws n g.2.1.length s) (hj:j≤s.1.length){e:Int} (he:e = -1∨0≤e∧e<(g.2.1.length:Int)) :
  oN (wkr g to fr s j) e=some (wkr g to fr (stE g.2.1 s e) j):=by
 have hmx:bB=1099511627776:=rfl
 obtain ⟨w0,E,I,O⟩:=g
 obtain ⟨o,ds⟩:=s
 dsimp only at hE hm ht ht2 hs hj he ⊢
 refine stp ?_
 by_cases h0:e<0
 ·
  refine cTW (dT h0) ?_
  unfold stE
  rw [if_pos (.inl h0)]
 refine cFW (dF h0) (stp ?_)
 show cond (dM (en ds) e) _ _=_
 rw [FV_]
 obtain ⟨i,rfl⟩:∃ i:Nat,e=(i:Int):=⟨e.toNat,by omega⟩
 have hi:i<E.length:=by omega
 by_cases hin:(i:Int)∈ds
 ·
  refine cTW (dT hin) ?_
  unfold stE
  rw [if_pos (.inr hin)]
 refine cFW (dF hin) ?_
 have hle:ds.length≤E.length:=hs.e.le
 have hE':=hE _ (List.getElem_mem hi)
 have hst:stE E (o,ds) (i:Int)=(giv o (edI E[i]++edO E[i]),ds++[(i:Int)]):=by
  unfold stE
  rw [if_neg (by rw [not_or];exact ⟨h0,hin⟩),Int.toNat_natCast,List.getElem?_eq_getElem hi]
 rw [hst]
 have l1:=tI edI (List.getElem_mem hi)
 have l2:=tI edO (List.getElem_mem hi)
 refine bnd (jB (by simp [wkr];omega)) (bnd (kA (List.getElem?_eq_getElem hi)) (bnd (kA (List.getElem?_eq_getElem hi)) (bnd (pV (show (edI E[i]).length+(edO E[i]).length≤_ by omega)) ?_)))
 have hl:=uJ hE'.1 hE'.2
 have hw:=DH_ (g:=(w0,E,I,O)) (to:=to) (fr:=fr) (e:=ds++[(i:Int)]) (edI E[i]++edO E[i]) hn hs.o hl hj
 have key:=vC (n:=(edI E[i]++edO E[i]).length) (fun k=>((w0:Int),en (giv o ((edI E[i]++edO E[i]).take k)),(giv o ((edI E[i]++edO E[i]).take k)).drop j)) (f:=fun (k67:Nat) (s104:Int×MI×List Int)=>
     (idxO (edI E[i]++edO E[i]) ((k67:Nat):Int)).bind fun a121=>
     (nN ((s104.1,E,I,O),(fr,to),s104.2.1,(eJ (en ds) (i:Int) (((en ds).kvs.length:Nat):Int)),s104.2.2,ds++[(i:Int)]) a121).bind fun y123=>
     some (y123.1.1,y123.2.2.1,y123.2.2.2.2.1)) (fun k hk=>by
  obtain ⟨w1,w2,w3⟩:=hw k (by omega)
  refine bnd (kA (List.getElem?_eq_getElem hk)) ?_
  rw [BQ_ hin]
  refine bnd (ED_ (g:=(w0,E,I,O)) (to:=to) (fr:=fr) (e:=ds++[(i:Int)]) w2 w1 _) ?_
  rw [w3 hk]
  rfl)
 rw [List.take_length] at key
 refine bnd key ?_
 unfold wkr
 dsimp only
 rw [BQ_ hin]
theorem walkI_ {n:Nat} (hn:n≤1000){g:Gra}{s:WS} (hE:zE n g.2.1) (hm:g.2.1.length≤1000) (ht:cD g.2.1 edI≤1000) (ht2:cD g.2.1 edO≤1000) (hs:Ws n g.2.1.length s) :
  qY (wkr g (sA n fun k=>whr edI g.2.1 k) (sA n fun k=>whr edO g.2.1 k) s 0)=some (wkr g (sA n fun k=>whr edI g.2.1 k) (sA n fun k=>whr edO g.2.1 k) (wlk g.2.1 s n) (wlk g.2.1 s n).1.length):=by
 obtain ⟨w0,E,I,O⟩:=g
 dsimp only at hE hm ht ht2 hs ⊢
 generalize hto:(sA n fun k=>whr edI E (k:Int))=to
 generalize hfr:(sA n fun k=>whr edO E (k:Int))=fr
 obtain ⟨t,h1,h2⟩:=CT_ (f:=fun (s129:Int×MI×MI×List Int×List Int)=>
  (some (decide ((0:Int)<((s129.2.2.2.1.length:Nat):Int)))).bind fun a142=>
  cond a142
  ((idxO s129.2.2.2.1 0).bind fun a153=>
   (iB s129.2.2.2.1 1 ((s129.2.2.2.1.length:Nat):Int)).bind fun a155=>
   (idxO to a153).bind fun a166=>
   (oN ((s129.1,E,I,O),(fr,to),s129.2.1,s129.2.2.1,a155,s129.2.2.2.2) a166).bind fun y168=>
   (idxO fr a153).bind fun a185=>
   (oN ((y168.1.1,E,I,O),(fr,to),y168.2.2.1,y168.2.2.2.1,y168.2.2.2.2.1,y168.2.2.2.2.2) a185).bind fun y187=>
   some (.inl (y187.1.1,y187.2.2.1,y187.2.2.2.1,y187.2.2.2.2.1,y187.2.2.2.2.2)))
  (some (.inr ((s129.1,E,I,O),(fr,to),s129.2.1,s129.2.2.1,s129.2.2.2.1,s129.2.2.2.2))))
  (fun j u=>j≤(wlk E s j).1.length∧u=(w0,en (wlk E s j).1,en (wlk E s j).2,(wlk E s j).1.drop j,(wlk E s j).2))
  (fun t=>t=wkr (w0,E,I,O) to fr (wlk E s n) (wlk E s n).1.length) n (by
  rintro j u hjn ⟨hj,rfl⟩
  have hok:=sO hE hs j
  by_cases hlt:j<(wlk E s j).1.length
  ·
   have hle:=hok.o.le
   refine .inl ⟨_,stp (cTW (dT (by dsimp only;rw [List.length_drop];omega)) ?_),⟨?_,rfl⟩,by omega⟩
   ·
    have hr:=hok.o.r _ (List.getElem_mem hlt)
    obtain ⟨w,hw⟩:∃ w:Nat,(wlk E s j).1[j]=(w:Int):=⟨((wlk E s j).1[j]).toNat,by omega⟩
    have hstep:wlk E s (j+1)=stW E (wlk E s j) (w:Int):=by
     show (match (wlk E s j).1[j]? with
      | some w=>stW E (wlk E s j) w
      | none=>wlk E s j)=_
     rw [List.getElem?_eq_getElem hlt,hw]
    have hd:(wlk E s j).1.drop j=(w:Int)::(wlk E s j).1.drop (j+1):=by
     rw [List.drop_eq_getElem_cons hlt,hw]
    have ht1:=rR hE hok (bI edI E w)
    obtain ⟨r1,hr1⟩:=mL E (wlk E s j) (whr edI E w)
    dsimp only
    rw [hd]
    refine bnd (a:=(w:Int)) rfl (bnd (a:=(wlk E s j).1.drop (j+1)) ?_ ?_)
    ·
     unfold iB
     rw [if_pos (by simp;omega)]
     rw [show ((1:Int).toNat)=1 from rfl,List.drop_succ_cons,List.drop_zero,Int.toNat_natCast,List.length_cons,Nat.add_sub_cancel,List.take_length]
    refine bnd (show idxO to (w:Int)=some (whr edI E w) by rw [←hto];exact bF _ (by omega)) (bnd (EE_ (g:=(w0,E,I,O)) hn hE hm ht ht2 hok (j:=j+1) (by omega) (bI edI E w)) (bnd (show idxO fr (w:Int)=some (whr edO E w) by rw [←hfr];exact bF _ (by omega)) ?_))
    refine bnd (EE_ (g:=(w0,E,I,O)) hn hE hm ht ht2 ht1 (j:=j+1) (by rw [hr1];simp;omega) (bI edO E w)) ?_
    rw [hstep]
    rfl
   ·
    rw [show wlk E s (j+1)=stW E (wlk E s j) (wlk E s j).1[j] by
     show (match (wlk E s j).1[j]? with
      | some w=>stW E (wlk E s j) w
      | none=>wlk E s j)=_
     rw [List.getElem?_eq_getElem hlt]]
    have:=EP_ E (wlk E s j) (wlk E s j).1[j]
    omega
  ·
   have hjl:j=(wlk E s j).1.length:=by omega
   refine .inr ⟨_,stp (cFW (dF (by dsimp only;rw [List.length_drop];omega)) rfl),?_⟩
   rw [EC_ hE hs (k:=j) (by omega) hjn]
   unfold wkr
   rw [←hjl]) (s:=(w0,en s.1,en s.2,s.1,s.2)) ⟨Nat.zero_le _,by simp [wlk]⟩
 subst h2
 exact h1
theorem I1_ {n:Nat} (hn:n≤1000){g:Gra} (hw:g.1=(n:Int)) (h:Rgd n g) :
  eY g=some (wkr g (sA n fun k=>whr edI g.2.1 k) (sA n fun k=>whr edO g.2.1 k) (walk n g) (walk n g).1.length):=by
 obtain ⟨w0,E,I,O⟩:=g
 dsimp only at hw
 subst hw
 obtain ⟨hI,hO,hE,li,lo,le,ti,to'⟩:=h
 dsimp only at hI hO hE li lo le ti to'
 refine bnd (bnd (bnd (gends_ hn hE) rfl) rfl) (bnd (pV (by dsimp only;omega)) ?_)
 generalize hto:(sA n fun k=>whr edI E (k:Int))=to
 generalize hfr:(sA n fun k=>whr edO E (k:Int))=fr
 have hl:=uJ hI hO
 have hw:=DH_ (g:=((n:Int),E,I,O)) (to:=to) (fr:=fr) (e:=[]) (I++O) hn (sL n) hl (Nat.zero_le _)
 have key:=vC (n:=(I++O).length) (fun k=>((n:Int),en (giv [] ((I++O).take k)),(giv [] ((I++O).take k)).drop 0)) (f:=fun (k34:Nat) (s71:Int×MI×List Int)=>
   (idxO (I++O) ((k34:Nat):Int)).bind fun a88=>
   (nN ((s71.1,E,I,O),(fr,to),s71.2.1,⟨[]⟩,s71.2.2,[]) a88).bind fun y90=>
   some (y90.1.1,y90.2.2.1,y90.2.2.2.2.1)) (fun k hk=>by
  obtain ⟨w1,w2,w3⟩:=hw k (by omega)
  refine bnd (kA (List.getElem?_eq_getElem hk)) ?_
  refine bnd (ED_ (g:=((n:Int),E,I,O)) (to:=to) (fr:=fr) (e:=[]) w2 w1 _) ?_
  rw [w3 hk]
  rfl)
 rw [List.take_length] at key
 refine bnd key ?_
 subst hto hfr
 rw [jW]
 exact bnd (walkI_ hn (g:=((n:Int),E,I,O)) (s:=w0S I O) hE le ti to' (aX hI hO)) rfl
theorem fillK {n:Nat} (c:Int):∀ (l:List Int) (i:Nat) (f:Nat→Int),rC n l→l.Nodup→c=0→l.length+i≤1000 →
  kvO (fun (s:List Int) (k v:Int)=>(nA c v).bind fun a=>(setO s k a).bind fun b=>some b) (enF l i) (sA n f)=some (sA n fun k=>if (k:Int)∈l then plcF l i k else f k)
 | [],i,f,_,_,_,_=>congrArg some (yD fun k _=>by simp)
 | a::l,i,f,hl,hd,hc,hi=>by
  obtain ⟨d1,d2⟩:=List.nodup_cons.1 hd
  have hr:=hl a (.head _)
  obtain ⟨m,rfl⟩:∃ m:Nat,a=(m:Int):=⟨a.toNat,by omega⟩
  subst hc
  rw [List.length_cons] at hi
  show Option.bind _ (kvO _ (enF l (i+1)))=_
  refine bnd (a:=sA n fun k=>if k=m then (i:Int) else f k) (bnd (gB (by dsimp only;omega) (by dsimp only;omega)) (bnd (kH _ _ (by omega)) (congrArg some (yD fun k _=>by simp)))) ?_
  rw [fillK 0 l (i+1) _ (fun x hx=>hl x (.tail _ hx)) d2 rfl (by omega)]
  refine congrArg some (yD fun k _=>?_)
  by_cases hkm:k=m
  ·
   subst hkm
   rw [if_neg d1,if_pos rfl,if_pos (.head _)]
   unfold plcF
   rw [if_pos rfl]
  ·
   have hne:¬(m:Int)=(k:Int):=by omega
   have hne':¬(k:Int)=(m:Int):=by omega
   rw [if_neg hkm,show plcF ((m:Int)::l) i (k:Int)=plcF l (i+1) k from if_neg hne]
   by_cases hkl:(k:Int)∈l
   · rw [if_pos hkl,if_pos (.tail _ hkl)]
   · rw [if_neg hkl,if_neg (by rw [List.mem_cons,not_or];exact ⟨hne',hkl⟩)]
theorem Fe_ {n:Nat}{l:List Int} (h:Od n l) (hn:n≤1000):kvO (fun (s:List Int) (k v:Int)=>(nA 0 v).bind fun a=>(setO s k a).bind fun b=>some b) (en l).kvs (sA n fun _=>-1)=some (sA n fun k=>plc l k):=by
 have hle:=h.le
 rw [show (en l).kvs=enF l 0 from rfl,fillK 0 l 0 _ h.r h.d rfl (by omega)]
 refine congrArg some (yD fun k _=>?_)
 split
 · rfl
 · rw [EX_ ‹_›]
theorem canon1_ {n m:Nat} (hn:n≤1000) (hm:m≤1000){g:Gra}{to fr:List Int}{s:WS} (hs:Ws n m s) (j:Nat) :
  vX (wkr g to fr s j) 0 (sA n fun _=>-1) 0 (sA m fun _=>-1)=some ((s.1.length:Int),(sA n fun k=>plc s.1 k),(s.2.length:Int),sA m fun k=>plc s.2 k):=by
 have h1:=hs.o.le;have h2:=hs.e.le
 have l1:(en s.1).kvs.length=s.1.length:=lW _ _
 have l2:(en s.2).kvs.length=s.2.length:=lW _ _
 refine bnd (bnd (Fe_ hs.o hn) rfl) (bnd (bnd (Fe_ hs.e hm) rfl) ?_)
 show (nA 0 (((en s.1).kvs.length:Nat):Int)).bind _=_
 rw [l1]
 refine bnd (gB (by omega) (by omega)) ?_
 show (nA 0 (((en s.2).kvs.length:Nat):Int)).bind _=_
 rw [l2]
 refine bnd (gB (by omega) (by omega)) ?_
 rw [Int.zero_add,Int.zero_add]
end Go.Proofs.YtodfjigndedehaaGreatDoor
namespace Go.Proofs.YtodfjigndedehaaGreatDoor
set_option linter.unusedVariables false
theorem comp_ {n:Nat} (hn:n≤1000){g:Gra} (hw:g.1=(n:Int)) (h:Rgd n g):∃ y c,bY g=some (y,c)∧y.length=n:=by
 obtain ⟨w0,E,I,O⟩:=g
 dsimp only at hw
 subst hw
 obtain ⟨hI,hO,hE,li,lo,le,ti,to'⟩:=h
 dsimp only at hI hO hE li lo le ti to'
 have id0:(sA n fun k=>(k:Int))=dH n id:=rfl
 have step:∀ (u v:Nat),u<n→v<n→∀ s:List Int,(∃ c cls,s=dH n c∧Forest n c cls∧Cls cls)→∃ s',mN s (u:Int) (v:Int)=some s'∧∃ c cls,s'=dH n c∧Forest n c cls∧Cls cls:=by
  rintro u v hu hv s ⟨c,cls,rfl,hf,hc⟩
  exact ⟨_,join_ hf hc hu hv,_,_,rfl,hf.join hc u v,hc.join u v⟩
 obtain ⟨s1,h1,c,cls,rfl,hf,hc⟩:=lO (f:=fun (k12:Nat) (s223:List Int)=>
   (idxO E ((k12:Nat):Int)).bind fun a238=>
   (rE [a238.2.2.1,a238.2.2.2]).bind fun y255=>
   (forS (fun (k260:Nat) (s303:List Int)=>
     (idxO y255 ((k260:Nat):Int)).bind fun a318=>
     (idxO y255 0).bind fun a326=>
     (mN s303 a326 a318).bind fun y328=>
     some y328) y255.length 0 s223).bind fun (s333:List Int)=>
   some s333) (n:=E.length) (s:=dH n id) (fun _ s=>∃ c cls,s=dH n c∧Forest n c cls∧Cls cls)
  ⟨id,id,rfl,⟨fun w _=>Nat.le_refl _,fun w _ _=>rfl,fun w _=>rfl⟩,⟨fun w=>Nat.le_refl _,fun w=>rfl⟩⟩ (fun j s hj hs=>by
   have he:=hE _ (List.getElem_mem hj)
   have l1:=tI edI (List.getElem_mem hj)
   have l2:=tI edO (List.getElem_mem hj)
   have hl:=uJ he.1 he.2
   obtain ⟨s2,h2,h3⟩:=lO (f:=fun (k260:Nat) (s303:List Int)=>
     (idxO (edI E[j]++edO E[j]) ((k260:Nat):Int)).bind fun a318=>
     (idxO (edI E[j]++edO E[j]) 0).bind fun a326=>
     (mN s303 a326 a318).bind fun y328=>
     some y328) (n:=(edI E[j]++edO E[j]).length) (s:=s) (fun _ s=>∃ c cls,s=dH n c∧Forest n c cls∧Cls cls) hs (fun k s hk hs=>by
    have hr:=hl _ (List.getElem_mem hk)
    have hr0:=hl _ (List.getElem_mem (show 0<(edI E[j]++edO E[j]).length by omega))
    obtain ⟨s',k1,k2⟩:=step ((edI E[j]++edO E[j])[0].toNat) ((edI E[j]++edO E[j])[k].toNat) (by omega) (by omega) s hs
    refine ⟨s',bnd (kA (List.getElem?_eq_getElem hk)) (bnd (kA (k:=0) (List.getElem?_eq_getElem (by omega))) (bnd ?_ rfl)),k2⟩
    rw [←k1]
    congr 1
    · omega
    · omega)
   exact ⟨s2,bnd (kA (List.getElem?_eq_getElem hj)) (bnd (pV (show (edI E[j]).length+(edO E[j]).length≤_ by omega)) (bnd h2 rfl)),h3⟩)
 have hmx:bB=1099511627776:=rfl
 obtain ⟨s2,h2,h3⟩:=lO (f:=fun (k344:Nat) (s505:List Int×Int)=>
   ((lN (dH n c) ((k344:Nat):Int)).bind fun y555=>
    (some (decide (y555<((k344:Nat):Int)))).bind fun a558=>
    cond a558
    ((idxO s505.1 y555).bind fun a579=>
     (setO s505.1 ((k344:Nat):Int) a579).bind fun a587=>
     some (a587,s505.2))
    ((setO s505.1 ((k344:Nat):Int) s505.2).bind fun a567=>
     (nA s505.2 1).bind fun a570=>
     some (a567,a570))).bind fun (s549:List Int×Int)=>
   some (s549.1,s549.2)) (n:=n) (s:=(sA n fun _=>(0:Int),0)) (fun k s=>s.1.length=n∧0≤s.2∧s.2≤(k:Int)) ⟨tE _ _,Int.le_refl _,Int.le_refl _⟩ (fun k s hk hs=>by
  obtain ⟨hl,h0,h1⟩:=hs
  have hle:=hc.le k
  by_cases hlt:cls k<k
  ·
   have hi:cls k<s.1.length:=by omega
   refine ⟨_,bnd (bnd (gX hf hk) (stp (cTW (dT (by omega)) (bnd (kA (List.getElem?_eq_getElem hi)) (bnd (lC _ (by omega)) rfl))))) rfl,?_,h0,by dsimp only;omega⟩
   rw [List.length_set];exact hl
  ·
   refine ⟨_,bnd (bnd (gX hf hk) (stp (cFW (dF (by omega)) (bnd (lC _ (by omega)) (bnd (gB (by omega) (by omega)) rfl))))) rfl,?_,by dsimp only;omega,by dsimp only;omega⟩
   rw [List.length_set];exact hl)
 refine ⟨s2.1,s2.2,bnd (upT_ (by omega)) (bnd h1 (bnd (uI (by omega)) ?_)),h3.1⟩
 rw [aV,tE]
 exact bnd h2 rfl
structure Full (n:Nat) (g:Gra):Prop where
 w:∀ k:Nat,k<n→(k:Int)∈(walk n g).1
 e:∀ i:Nat,i<g.2.1.length→(i:Int)∈(walk n g).2
 ne:∀ e∈g.2.1,edI e++edO e≠[]
theorem lL {n:Nat}{g:Gra} (h:Rgd n g):Ws n g.2.1.length (walk n g):=sO h.e (aX h.i h.o) n
theorem closed_ {n:Nat} (hn:n≤1000){g:Gra} (hw:g.1=(n:Int)) (h:Rgd n g) (hf:Full n g){to fr:List Int}{j:Nat} :
  zX g (wkr g to fr (walk n g) j)=some []:=by
 obtain ⟨y,c,hy,hl⟩:=comp_ hn hw h
 have hmx:bB=1099511627776:=rfl
 have hle:=h.le
 have hyx:∀ x:Int,0≤x∧x<(n:Int)→∃ v,idxO y x=some v:=fun x hx=>by
  obtain ⟨m,rfl⟩:∃ m:Nat,x=(m:Int):=⟨x.toNat,by omega⟩
  exact ⟨_,kA (List.getElem?_eq_getElem (by omega))⟩
 obtain ⟨cs,h1,h2⟩:=lO (f:=fun (k:Nat) (s:List Int)=>
   (idxO g.2.1 ((k:Nat):Int)).bind fun e=>
   (rE [e.2.2.1,e.2.2.2]).bind fun j=>
   (idxO j 0).bind fun a=>
   (idxO y a).bind fun c=>
   some (s++[c])) (n:=g.2.1.length) (s:=([]:List Int)) (fun _ s=>∀ c∈s,∃ x∈(walk n g).1,idxO y x=some c) (fun c hc=>by cases hc) (fun k s hk hs=>by
  have he:=h.e _ (List.getElem_mem hk)
  have l1:=tI edI (List.getElem_mem hk)
  have l2:=tI edO (List.getElem_mem hk)
  have ti:=h.ti;have to':=h.to
  have hlr:=uJ he.1 he.2
  have hne:=hf.ne _ (List.getElem_mem hk)
  have hpos:0<(edI g.2.1[k]++edO g.2.1[k]).length:=List.length_pos_iff.2 hne
  have hr:=hlr _ (List.getElem_mem hpos)
  obtain ⟨v,hv⟩:=hyx _ hr
  refine ⟨s++[v],bnd (kA (List.getElem?_eq_getElem hk)) (bnd (pV (show (edI g.2.1[k]).length+(edO g.2.1[k]).length≤_ by omega)) (bnd (kA (k:=0) (List.getElem?_eq_getElem hpos)) (bnd hv rfl))),fun c hc=>?_⟩
  rcases List.mem_append.1 hc with hc | hc
  · exact hs c hc
  ·
   simp at hc
   subst hc
   refine ⟨_,?_,hv⟩
   obtain ⟨m,hm⟩:∃ m:Nat,(edI g.2.1[k]++edO g.2.1[k])[0]=(m:Int):=⟨(edI g.2.1[k]++edO g.2.1[k])[0].toNat,by omega⟩
   rw [hm]
   exact hf.w m (by omega))
 have hkeys:(en (walk n g).1).kvs.map (·.1)=(walk n g).1:=Eq_ _ _
 have hok:=lL h
 refine bnd hy (bnd h1 (cTW ?_ rfl))
 rw [Bool.and_eq_true,Bool.and_eq_true,decide_eq_true_eq]
 refine ⟨⟨by omega,List.all_eq_true.2 fun p hp=>?_⟩,List.all_eq_true.2 fun c hc=>?_⟩
 ·
  have hm:p.1∈(walk n g).1:=by rw [←hkeys];exact List.mem_map_of_mem hp
  obtain ⟨v,hv⟩:=hyx _ (hok.o.r _ hm)
  dsimp only
  rw [hv];rfl
 ·
  obtain ⟨x,hx,hc⟩:=h2 c hc
  rw [←hkeys] at hx
  obtain ⟨p,hp,rfl⟩:=List.mem_map.1 hx
  exact List.any_eq_true.2 ⟨p,hp,decide_eq_true hc⟩
theorem ID_ {n:Nat} (hn:n≤1000){g:Gra} (hw:g.1=(n:Int)) (h:Rgd n g) (hf:Full n g) :
  wX g=some (sA n (fun k=>plc (walk n g).1 k),sA g.2.1.length (fun k=>plc (walk n g).2 k)):=by
 have hle:=h.le
 obtain ⟨w0,E,I,O⟩:=g
 dsimp only at hw hle
 subst hw
 refine bnd (I1_ hn rfl h) (bnd (bnd (pU hn _) (bnd (pU hle _) rfl)) (bnd (canon1_ hn hle (lL h) _) (bnd (closed_ hn rfl h hf) rfl)))
theorem IC_ {n:Nat} (hn:n≤1000){g:Gra} (hw:g.1=(n:Int)) (h:Rgd n g) (hf:Full n g) :
  cZ g=some (sA n (fun k=>plc (walk n g).1 k),sA g.2.1.length (fun k=>plc (walk n g).2 k)):=by
 have hle:=h.le
 obtain ⟨w0,E,I,O⟩:=g
 dsimp only at hw hle
 subst hw
 have ho:=cnOpen_ (I:=I) (O:=O) hn h.e h.i h.o hle
 refine bnd ho (bnd (a:=[]) (bnd ho ?_) rfl)
 obtain ⟨_,h1,_⟩:=lO (f:=fun (k16:Nat) (_:Unit)=>
   ((idxO (sA E.length (fun k=>plc (walk n ((n:Int),E,I,O)).2 k)) ((k16:Nat):Int)).bind fun a84=>
    (some (decide ((0:Int)≤a84))).bind fun a86=>
    cond a86
    (some ())
    (none)).bind fun (s72:Unit)=>
   some ()) (n:=E.length) (s:=()) (fun _ _=>True) trivial (fun j s hj _=>by
  have hp:=iR (hf.e j hj)
  exact ⟨(),bnd (bnd (bF _ hj) (stp (cTW (dT hp.1) rfl))) rfl,trivial⟩)
 exact bnd h1 rfl
def setsL (m:Nat) (ep:Nat→Int) (L:List Edg):Nat→List Edg
 | 0=>List.replicate m (0,0,[],[])
 | j+1=>match L[j]? with
  | some e=>(setsL m ep L j).set (ep j).toNat e
  | none=>setsL m ep L j
theorem qQ (m:Nat) (ep:Nat→Int) (L:List Edg):∀ j,(setsL m ep L j).length=m
 | 0=>by simp [setsL]
 | j+1=>by
  unfold setsL
  split
  · rw [List.length_set];exact qQ m ep L j
  · exact qQ m ep L j
theorem AE_ (m:Nat) (ep:Nat→Int) (L:List Edg):∀ j,∀ e∈setsL m ep L j,e=(0,0,[],[])∨e∈L
 | 0,e,he=>.inl (List.eq_of_mem_replicate he)
 | j+1,e,he=>by
  unfold setsL at he
  split at he
  ·
   rename_i x hx
   rcases List.mem_or_eq_of_mem_set he with h | h
   · exact AE_ m ep L j e h
   · exact .inr (h ▸ List.mem_of_getElem? hx)
  · exact AE_ m ep L j e he
def renG (n:Nat) (wp ep:Nat→Int) (g:Gra):Gra:=((n:Int),setsL g.2.1.length ep (g.2.1.map (mpE wp)) g.2.1.length,mp wp g.2.2.1,mp wp g.2.2.2)
theorem Di_ {m:Nat}{ep:Nat→Int}{L:List Edg} (hL:L.length=m) (hep:∀ j,j<m→0≤ep j∧ep j<(m:Int)){f:Nat→List Edg→Option (List Edg)} (hf:∀ j e s,L[j]?=some e→j<m→f j s=setO s (ep j) e) :
  forS f m 0 (List.replicate m (0,0,[],[]))=some (setsL m ep L m):=by
 refine vC (f:=f) (n:=m) (fun j=>setsL m ep L j) (fun j hj=>?_)
 have he:L[j]?=some L[j]:=List.getElem?_eq_getElem (by omega)
 rw [hf j _ _ he hj]
 have hr:=hep j hj
 obtain ⟨i,hi⟩:∃ i:Nat,ep j=(i:Int):=⟨(ep j).toNat,by omega⟩
 rw [hi,lC _ (by rw [qQ];omega)]
 congr 1
 show _=(match L[j]? with
  | some e=>(setsL m ep L j).set (ep j).toNat e
  | none=>setsL m ep L j)
 rw [he,hi];rfl
theorem hgRen_ {n:Nat}{g:Gra} (hw:g.1=(n:Int)) (h:Rgd n g) (wp ep:Nat→Int) (hep:∀ j,j<g.2.1.length→0≤ep j∧ep j<(g.2.1.length:Int)) :
  wY g (sA n wp) (sA g.2.1.length ep)=some (renG n wp ep g):=by
 have hle:=h.le
 have hmx:bB=1099511627776:=rfl
 obtain ⟨w0,E,I,O⟩:=g
 dsimp only at hw hle hep ⊢
 subst hw
 refine bnd (hgMap_ wp (n:Int) h) (bnd (a:=List.replicate E.length (0,0,[],[])) (stp ?_) ?_)
 ·
  rw [tE]
  by_cases h0:0<E.length
  · exact cTW (dT (by omega)) (bnd (sG _ (by omega)) rfl)
  ·
   refine cFW (dF (by omega)) ?_
   rw [show E.length=0 by omega];rfl
 ·
  rw [tE]
  refine bnd (Di_ (L:=E.map (mpE wp)) (by simp) hep (fun j e s he hj=>?_)) rfl
  refine bnd (bF _ hj) (bnd (kA he) ?_)
  show (setO s (ep j) e).bind _=_
  cases setO s (ep j) e <;> rfl
theorem gRen_ {n:Nat}{g:Gra} (hw:g.1=(n:Int)) (h:Rgd n g) (wp ep:Nat→Int) (hep:∀ j,j<g.2.1.length→0≤ep j∧ep j<(g.2.1.length:Int)) :
  aY g (sA n wp) (sA g.2.1.length ep)=some (renG n wp ep g):=by
 have hle:=h.le
 have hmx:bB=1099511627776:=rfl
 obtain ⟨w0,E,I,O⟩:=g
 dsimp only at hw hle hep ⊢
 subst hw
 have hl:(mpG (n:Int) wp ((n:Int),E,I,O)).2.1.length=E.length:=List.length_map _
 refine bnd (moved_ wp (n:Int) h) (bnd (a:=((n:Int),List.replicate E.length (0,0,[],[]))) (bnd (a:=List.replicate E.length (0,0,[],[])) ?_ rfl) ?_)
 · rw [hl];exact sG _ (by omega)
 ·
  rw [hl]
  refine bnd (Di_ (L:=E.map (mpE wp)) (by simp) hep (fun j e s he hj=>?_)) rfl
  refine bnd (kA he) (bnd (bF _ hj) ?_)
  show (setO s (ep j) e).bind _=_
  cases setO s (ep j) e <;> rfl
def cnG (n:Nat) (g:Gra):Gra:=renG n (fun k=>plc (walk n g).1 k) (fun k=>plc (walk n g).2 k) g
theorem JM_ {n:Nat} (hn:n≤1000){g:Gra} (hw:g.1=(n:Int)) (h:Rgd n g) (hf:Full n g):kT g=some (cnG n g):=by
 have hle:=(lL h).e.le
 refine bnd (IC_ hn hw h hf) (bnd (hgRen_ hw h _ _ (fun j hj=>?_)) rfl)
 have:=iR (hf.e j hj)
 exact ⟨this.1,Int.lt_of_lt_of_le this.2 (Int.ofNat_le.2 hle)⟩
theorem IA_ {n:Nat} (hn:n≤1000){g:Gra} (hw:g.1=(n:Int)) (h:Rgd n g) (hf:Full n g):pS g=some (cnG n g):=by
 have hle:=(lL h).e.le
 refine bnd (ID_ hn hw h hf) (bnd (gRen_ hw h _ _ (fun j hj=>?_)) rfl)
 have:=iR (hf.e j hj)
 exact ⟨this.1,Int.lt_of_lt_of_le this.2 (Int.ofNat_le.2 hle)⟩
end Go.Proofs.YtodfjigndedehaaGreatDoor
namespace Go.Proofs.YtodfjigndedehaaGreatDoor
set_option linter.unusedVariables false
structure Ij (n:Nat) (t:Nat→Int):Prop where
 r:∀ k,k<n→0≤t k∧t k<(n:Int)
 i:∀ j k,j<n→k<n→t j=t k→j=k
section
variable {n:Nat}{t:Nat→Int} (h:Ij n t)
include h
theorem Ij.rg {l:List Int} (hl:rC n l):rC n (mp t l):=fun x hx=>by
 obtain ⟨y,hy,rfl⟩:=List.mem_map.1 hx
 have:=hl y hy
 exact h.r _ (by omega)
theorem Ij.mem {l:List Int} (hl:rC n l){k:Nat} (hk:k<n):t k∈mp t l↔(k:Int)∈l:=by
 constructor
 ·
  intro hx
  obtain ⟨y,hy,e⟩:=List.mem_map.1 hx
  have:=hl y hy
  have:=h.i _ _ (by omega) hk e
  rw [←this,show ((y.toNat:Nat):Int)=y by omega];exact hy
 ·
  intro hx
  exact List.mem_map.2 ⟨(k:Int),hx,rfl⟩
theorem Ij.giv1 {o:List Int} (ho:rC n o){w:Int} (hw:0≤w∧w<(n:Int)):giv1 (mp t o) (t w.toNat)=mp t (giv1 o w):=by
 have hm:=h.mem ho (k:=w.toNat) (by omega)
 rw [show ((w.toNat:Nat):Int)=w by omega] at hm
 unfold Go.Proofs.YtodfjigndedehaaGreatDoor.giv1
 by_cases hin:w∈o
 · rw [if_pos hin,if_pos (hm.2 hin)]
 ·
  rw [if_neg hin,if_neg (fun e=>hin (hm.1 e))]
  unfold mp
  rw [List.map_append];rfl
theorem Ij.giv:∀ {l o:List Int},Od n o→rC n l→giv (mp t o) (mp t l)=mp t (giv o l)
 | [],o,_,_=>rfl
 | w::l,o,ho,hl=>by
  have hw:=hl w (.head _)
  show Go.Proofs.YtodfjigndedehaaGreatDoor.giv (Go.Proofs.YtodfjigndedehaaGreatDoor.giv1 (mp t o) (t w.toNat)) (mp t l)=mp t (Go.Proofs.YtodfjigndedehaaGreatDoor.giv (Go.Proofs.YtodfjigndedehaaGreatDoor.giv1 o w) l)
  rw [h.giv1 ho.r hw]
  exact Ij.giv (ho.giv1 hw) (fun x hx=>hl x (.tail _ hx))
theorem Ij.whrF (s:Edg→List Int) (hs:∀ e,s (mpE t e)=mp t (s e)){k:Nat} (hk:k<n):∀ {E:List Edg}{i:Nat}{a:Int},(∀ e∈E,rC n (s e))→whrF s (E.map (mpE t)) i (t k) a=whrF s E i k a
 | [],_,_,_=>rfl
 | e::E,i,a,hE=>by
  show Go.Proofs.YtodfjigndedehaaGreatDoor.whrF s (E.map (mpE t)) (i+1) (t k) (if t k∈s (mpE t e) then (i:Int) else a)=Go.Proofs.YtodfjigndedehaaGreatDoor.whrF s E (i+1) k (if (k:Int)∈s e then (i:Int) else a)
  rw [Ij.whrF s hs hk (fun e he=>hE e (.tail _ he)),hs]
  have:=h.mem (hE e (.head _)) hk
  by_cases hin:(k:Int)∈s e
  · rw [if_pos hin,if_pos (this.2 hin)]
  · rw [if_neg hin,if_neg (fun e=>hin (this.1 e))]
theorem Ij.stE {E:List Edg} (hE:zE n E){s:WS} (ho:Od n s.1) (e:Int):stE (E.map (mpE t)) (mp t s.1,s.2) e=(mp t (stE E s e).1,(stE E s e).2):=by
 unfold Go.Proofs.YtodfjigndedehaaGreatDoor.stE
 by_cases hc:e<0∨e∈s.2
 · rw [if_pos hc,if_pos hc]
 ·
  rw [if_neg hc,if_neg hc,List.getElem?_map]
  cases hx:E[e.toNat]? with
  | none=>rfl
  | some x=>
   have hm:=List.mem_of_getElem? hx
   show (Go.Proofs.YtodfjigndedehaaGreatDoor.giv (mp t s.1) (mp t (edI x)++mp t (edO x)),_)=_
   rw [show mp t (edI x)++mp t (edO x)=mp t (edI x++edO x) from List.map_append.symm,h.giv ho (uJ (hE x hm).1 (hE x hm).2)]
theorem Ij.wlk {E:List Edg} (hE:zE n E){s:WS} (hs:Ws n E.length s):∀ k,wlk (E.map (mpE t)) (mp t s.1,s.2) k=(mp t (wlk E s k).1,(wlk E s k).2)
 | 0=>rfl
 | k+1=>by
  have ih:=Ij.wlk hE hs k
  have hok:=sO hE hs k
  show (match (Go.Proofs.YtodfjigndedehaaGreatDoor.wlk (E.map (mpE t)) (mp t s.1,s.2) k).1[k]? with
   | some w=>stW (E.map (mpE t)) (Go.Proofs.YtodfjigndedehaaGreatDoor.wlk (E.map (mpE t)) (mp t s.1,s.2) k) w
   | none=>Go.Proofs.YtodfjigndedehaaGreatDoor.wlk (E.map (mpE t)) (mp t s.1,s.2) k)=(mp t (match (Go.Proofs.YtodfjigndedehaaGreatDoor.wlk E s k).1[k]? with
   | some w=>stW E (Go.Proofs.YtodfjigndedehaaGreatDoor.wlk E s k) w
   | none=>Go.Proofs.YtodfjigndedehaaGreatDoor.wlk E s k).1,(match (Go.Proofs.YtodfjigndedehaaGreatDoor.wlk E s k).1[k]? with
   | some w=>stW E (Go.Proofs.YtodfjigndedehaaGreatDoor.wlk E s k) w
   | none=>Go.Proofs.YtodfjigndedehaaGreatDoor.wlk E s k).2)
  rw [ih]
  dsimp only
  rw [show (mp t (Go.Proofs.YtodfjigndedehaaGreatDoor.wlk E s k).1)[k]?=(Go.Proofs.YtodfjigndedehaaGreatDoor.wlk E s k).1[k]?.map (fun x=>t x.toNat) from List.getElem?_map]
  cases hx:(Go.Proofs.YtodfjigndedehaaGreatDoor.wlk E s k).1[k]? with
  | none=>rfl
  | some w=>
   have hr:=hok.o.r w (List.mem_of_getElem? hx)
   have e:((w.toNat:Nat):Int)=w:=by omega
   have w1:=h.whrF edI (fun e=>rfl) (k:=w.toNat) (by omega) (E:=E) (i:=0) (a:=-1) (fun e he=>(hE e he).1)
   have w2:=h.whrF edO (fun e=>rfl) (k:=w.toNat) (by omega) (E:=E) (i:=0) (a:=-1) (fun e he=>(hE e he).2)
   rw [e] at w1 w2
   show stW (E.map (mpE t)) (mp t (Go.Proofs.YtodfjigndedehaaGreatDoor.wlk E s k).1,(Go.Proofs.YtodfjigndedehaaGreatDoor.wlk E s k).2) (t w.toNat)=(mp t (stW E (Go.Proofs.YtodfjigndedehaaGreatDoor.wlk E s k) w).1,(stW E (Go.Proofs.YtodfjigndedehaaGreatDoor.wlk E s k) w).2)
   unfold stW
   rw [show whr edI (E.map (mpE t)) (t w.toNat)=whr edI E w from w1,show whr edO (E.map (mpE t)) (t w.toNat)=whr edO E w from w2,h.stE hE hok.o]
   exact h.stE hE (rR hE hok (bI _ _ _)).o _
theorem Ij.walk {g:Gra} (hg:Rgd n g) (w:Int):walk n (mpG w t g)=(mp t (walk n g).1,(walk n g).2):=by
 have h1:=h.giv (sL n) hg.i
 have h2:=h.giv ((sL n).giv hg.i) hg.o
 unfold Go.Proofs.YtodfjigndedehaaGreatDoor.walk
 rw [←h.wlk hg.e (aX hg.i hg.o)]
 show Go.Proofs.YtodfjigndedehaaGreatDoor.wlk _ (Go.Proofs.YtodfjigndedehaaGreatDoor.giv (Go.Proofs.YtodfjigndedehaaGreatDoor.giv (mp t []) (mp t g.2.2.1)) (mp t g.2.2.2),[]) n=_
 rw [h1,h2];rfl
theorem Ij.plcF {k:Nat} (hk:k<n):∀ {l:List Int}{i:Nat},rC n l→plcF (mp t l) i (t k)=plcF l i k
 | [],_,_=>rfl
 | a::l,i,hl=>by
  have ha:=hl a (.head _)
  show (if t a.toNat=t k then (i:Int) else Go.Proofs.YtodfjigndedehaaGreatDoor.plcF (mp t l) (i+1) (t k))=if a=(k:Int) then (i:Int) else Go.Proofs.YtodfjigndedehaaGreatDoor.plcF l (i+1) k
  rw [Ij.plcF hk (fun x hx=>hl x (.tail _ hx))]
  by_cases e:a=(k:Int)
  · rw [if_pos e,if_pos (by rw [e];rfl)]
  · rw [if_neg e,if_neg (fun e2=>e (by have:=h.i _ _ (by omega) hk e2;omega))]
theorem Ij.rgd {g:Gra} (hg:Rgd n g) (w:Int):Rgd n (mpG w t g):=by
 have key:∀ (s:Edg→List Int) (hs:∀ e,s (mpE t e)=mp t (s e)) (E:List Edg),cD (E.map (mpE t)) s=cD E s:=by
  intro s hs E
  induction E with
  | nil=>rfl
  | cons e E ih=>
   unfold cD at ih ⊢
   simp only [List.map_cons,List.flatten_cons,List.length_append]
   rw [hs,mp_len,ih]
 refine ⟨h.rg hg.i,h.rg hg.o,fun e he=>?_,?_,?_,?_,?_,?_⟩
 ·
  obtain ⟨x,hx,rfl⟩:=List.mem_map.1 he
  exact ⟨h.rg (hg.e x hx).1,h.rg (hg.e x hx).2⟩
 · exact (mp_len t _).symm ▸ hg.li
 · exact (mp_len t _).symm ▸ hg.lo
 · exact (List.length_map (as:=g.2.1) (mpE t)).symm ▸ hg.le
 · exact (key edI (fun _=>rfl) g.2.1).symm ▸ hg.ti
 · exact (key edO (fun _=>rfl) g.2.1).symm ▸ hg.to
theorem Ij.full {g:Gra} (hg:Rgd n g) (w:Int) (hf:Full n g):Full n (mpG w t g):=by
 have hw:=h.walk hg w
 have hl:(Go.Proofs.YtodfjigndedehaaGreatDoor.walk n g).1.length=n:=by
  have ho:=(lL hg).o
  rw [←iU ho.r ho.d]
  exact seenN_full.2 hf.w
 have ho:=(lL (h.rgd hg w)).o
 have hl2:(Go.Proofs.YtodfjigndedehaaGreatDoor.walk n (mpG w t g)).1.length=n:=by
  rw [hw]
  exact (mp_len _ _).trans hl
 refine ⟨seenN_full.1 ((iU ho.r ho.d).trans hl2),fun i hi=>?_,fun e he=>?_⟩
 ·
  rw [hw]
  exact hf.e i (by simpa [mpG] using hi)
 ·
  obtain ⟨x,hx,rfl⟩:=List.mem_map.1 he
  have:=hf.ne x hx
  show mp t (edI x)++mp t (edO x)≠[]
  rw [show mp t (edI x)++mp t (edO x)=mp t (edI x++edO x) from List.map_append.symm]
  exact fun e=>this (List.map_eq_nil_iff.1 e)
theorem Ij.cnG {g:Gra} (hg:Rgd n g) (w:Int):cnG n (mpG w t g)=cnG n g:=by
 have hw:=h.walk hg w
 have ho:=(lL hg).o
 have hmp:∀ l,rC n l→mp (fun k=>plc (mp t (Go.Proofs.YtodfjigndedehaaGreatDoor.walk n g).1) k) (mp t l)=mp (fun k=>plc (Go.Proofs.YtodfjigndedehaaGreatDoor.walk n g).1 k) l:=by
  intro l hl
  unfold mp
  rw [List.map_map]
  refine List.map_congr_left fun x hx=>?_
  have hx:=hl x hx
  have hr:=h.r x.toNat (by omega)
  show plc (List.map _ _) (((t x.toNat).toNat:Nat):Int)=plc _ ((x.toNat:Nat):Int)
  rw [show (((t x.toNat).toNat:Nat):Int)=t x.toNat by omega]
  exact h.plcF (by omega) ho.r
 unfold Go.Proofs.YtodfjigndedehaaGreatDoor.cnG renG
 rw [hw]
 show (_,setsL (g.2.1.map (mpE t)).length _ ((g.2.1.map (mpE t)).map (mpE _)) (g.2.1.map (mpE t)).length,mp _ (mp t g.2.2.1),mp _ (mp t g.2.2.2))=_
 rw [hmp _ hg.i,hmp _ hg.o,List.length_map,List.map_map]
 refine Prod.ext rfl (Prod.ext ?_ rfl)
 dsimp only
 congr 1
 refine List.map_congr_left fun e he=>?_
 show (_,_,mp _ (mp t (edI e)),mp _ (mp t (edO e)))=(_,_,_,_)
 rw [hmp _ (hg.e e he).1,hmp _ (hg.e e he).2];rfl
end
def Con (n:Nat) (g:Gra):Prop:=∀ S:Int→Prop,(∀ x∈g.2.2.1,S x)→(∀ x∈g.2.2.2,S x)→(∀ e∈g.2.1,(∃ x∈edI e++edO e,S x)→∀ x∈edI e++edO e,S x)→∀ k:Nat,k<n→S (k:Int)
theorem DI_ {s:Edg→List Int}{E:List Edg} (hd:(E.map s).flatten.Nodup){i:Nat} (hi:i<E.length){x:Int} (hx:x∈s E[i]):whr s E x=(i:Int):=by
 rcases EG_ s E x with ⟨_,h⟩ | ⟨j,hj,h,hxj⟩
 · exact (h _ (List.getElem_mem hi) hx).elim
 ·
  have hp:=(List.pairwise_flatten.1 hd).2
  rw [List.pairwise_map,List.pairwise_iff_getElem] at hp
  rcases Nat.lt_trichotomy i j with hl | he | hl
  · exact (hp i j hi hj hl x hx x hxj rfl).elim
  · rw [h,he]
  · exact (hp j i hj hi hl x hxj x hx rfl).elim
theorem DN_ (E:List Edg) (s:WS) (e:Int):∃ r,(stE E s e).2=s.2++r:=by
 unfold stE
 split
 · exact ⟨[],by simp⟩
 ·
  split
  · exact ⟨_,rfl⟩
  · exact ⟨[],by simp⟩
theorem FF_ {E:List Edg}{s:WS}{e:Int} (he:e = -1∨0≤e∧e<(E.length:Int)):e<0∨e∈(stE E s e).2:=by
 unfold stE
 by_cases hc:e<0∨e∈s.2
 · rw [if_pos hc];exact hc
 ·
  rw [if_neg hc]
  rw [not_or] at hc
  rw [List.getElem?_eq_getElem (show e.toNat<E.length by omega)]
  exact .inr (by simp)
def Clo (E:List Edg) (s:WS):Prop:=∀ e∈s.2,∃ i,∃ h:i<E.length,e=(i:Int)∧∀ x∈edI E[i]++edO E[i],x∈s.1
theorem EQ_ {E:List Edg}{s:WS} (h:Clo E s) (e:Int):Clo E (stE E s e):=by
 intro d hd
 obtain ⟨r,hr⟩:=mL E s e
 have old:d∈s.2→∃ i,∃ h:i<E.length,d=(i:Int)∧∀ x∈edI E[i]++edO E[i],x∈(stE E s e).1:=fun hd=>by
  obtain ⟨i,hi,h1,h2⟩:=h d hd
  exact ⟨i,hi,h1,fun x hx=>by rw [hr];exact List.mem_append_left _ (h2 x hx)⟩
 by_cases hc:e<0∨e∈s.2
 ·
  have hs:stE E s e=s:=by unfold stE;rw [if_pos hc]
  rw [hs] at hd
  exact old hd
 ·
  cases hx:E[e.toNat]? with
  | none=>
   have hs:stE E s e=s:=by unfold stE;rw [if_neg hc,hx]
   rw [hs] at hd
   exact old hd
  | some x=>
   have hs:stE E s e=(giv s.1 (edI x++edO x),s.2++[e]):=by unfold stE;rw [if_neg hc,hx]
   rw [hs] at hd
   rcases List.mem_append.1 hd with hd | hd
   · exact old hd
   ·
    simp at hd
    subst hd
    rw [not_or] at hc
    obtain ⟨hi,he⟩:=List.getElem?_eq_some_iff.1 hx
    refine ⟨d.toNat,hi,by omega,fun y hy=>?_⟩
    rw [hs]
    rw [he] at hy
    exact giv_mem.2 (.inr hy)
theorem A9_ {E:List Edg}{s:WS} (h:Clo E s):∀ k,Clo E (wlk E s k)
 | 0=>h
 | k+1=>by
  show Clo E (match (wlk E s k).1[k]? with
   | some w=>stW E (wlk E s k) w
   | none=>wlk E s k)
  split
  · exact EQ_ (EQ_ (A9_ h k) _) _
  · exact A9_ h k
theorem AP_ {E:List Edg}{s:WS}:∀ k j w,j<k→(wlk E s k).1[j]?=some w→(whr edI E w<0∨whr edI E w∈(wlk E s k).2)∧(whr edO E w<0∨whr edO E w∈(wlk E s k).2)
 | 0,j,w,hj,_=>by omega
 | k+1,j,w,hj,hw=>by
  have e:wlk E s (k+1)=match (wlk E s k).1[k]? with
   | some w=>stW E (wlk E s k) w
   | none=>wlk E s k:=rfl
  cases hx:(wlk E s k).1[k]? with
  | none=>
   rw [hx] at e
   dsimp only at e
   rw [e] at hw ⊢
   have h1:=(List.getElem?_eq_some_iff.1 hw).1
   have h2:=List.getElem?_eq_none_iff.1 hx
   exact AP_ k j w (by omega) hw
  | some v=>
   rw [hx] at e
   dsimp only at e
   rw [e] at hw ⊢
   obtain ⟨r,hr⟩:=mL E (wlk E s k) (whr edI E v)
   obtain ⟨r',hr'⟩:=mL E (stE E (wlk E s k) (whr edI E v)) (whr edO E v)
   obtain ⟨q,hq⟩:=DN_ E (wlk E s k) (whr edI E v)
   obtain ⟨q',hq'⟩:=DN_ E (stE E (wlk E s k) (whr edI E v)) (whr edO E v)
   have hkl:=(List.getElem?_eq_some_iff.1 hx).1
   have hw2:(wlk E s k).1[j]?=some w:=by
    unfold stW at hw
    rw [hr',hr,List.append_assoc,List.getElem?_append_left (by omega)] at hw
    exact hw
   by_cases hjk:j<k
   ·
    obtain ⟨h1,h2⟩:=AP_ k j w hjk hw2
    unfold stW
    rw [hq',hq]
    exact ⟨h1.imp id fun h=>List.mem_append_left _ (List.mem_append_left _ h),h2.imp id fun h=>List.mem_append_left _ (List.mem_append_left _ h)⟩
   ·
    obtain rfl:j=k:=by omega
    obtain rfl:v=w:=Option.some.inj (hx.symm.trans hw2)
    refine ⟨?_,FF_ (bI _ _ _)⟩
    unfold stW
    rw [hq']
    exact (FF_ (bI edI E v)).imp id fun h=>List.mem_append_left _ h
theorem full_of {n:Nat}{g:Gra} (h:Rgd n g) (hi:(g.2.1.map edI).flatten.Nodup) (ho:(g.2.1.map edO).flatten.Nodup) (hne:∀ e∈g.2.1,edI e++edO e≠[]) (hc:Con n g):Full n g:=by
 have hok:=lL h
 have hle:=hok.o.le
 have hclo:Clo g.2.1 (walk n g):=A9_ (fun e he=>by cases he) n
 have hpre:∀ k x,x∈(w0S g.2.2.1 g.2.2.2).1→x∈(wlk g.2.1 (w0S g.2.2.1 g.2.2.2) k).1:=by
  intro k x hx
  induction k with
  | zero=>exact hx
  | succ k ih=>
   show x∈(match (wlk g.2.1 (w0S g.2.2.1 g.2.2.2) k).1[k]? with
    | some w=>stW g.2.1 (wlk g.2.1 (w0S g.2.2.1 g.2.2.2) k) w
    | none=>wlk g.2.1 (w0S g.2.2.1 g.2.2.2) k).1
   split
   ·
    rename_i w _
    obtain ⟨r,hr⟩:=mL g.2.1 (wlk g.2.1 (w0S g.2.2.1 g.2.2.2) k) (whr edI g.2.1 w)
    obtain ⟨r',hr'⟩:=mL g.2.1 (stE g.2.1 (wlk g.2.1 (w0S g.2.2.1 g.2.2.2) k) (whr edI g.2.1 w)) (whr edO g.2.1 w)
    unfold stW
    rw [hr',hr]
    exact List.mem_append_left _ (List.mem_append_left _ ih)
   · exact ih
 have hedge:∀ i,∀ hil:i<g.2.1.length,(∃ x∈edI g.2.1[i]++edO g.2.1[i],x∈(walk n g).1)→(i:Int)∈(walk n g).2:=by
  rintro i hil ⟨x,hx,hxo⟩
  obtain ⟨j,hj⟩:=List.getElem?_of_mem hxo
  have hjl:=(List.getElem?_eq_some_iff.1 hj).1
  obtain ⟨h1,h2⟩:=AP_ n j x (by unfold walk at hle hjl;omega) hj
  rcases List.mem_append.1 hx with hx | hx
  ·
   rw [DI_ hi hil hx] at h1
   exact h1.resolve_left (by omega)
  ·
   rw [DI_ ho hil hx] at h2
   exact h2.resolve_left (by omega)
 have hw:∀ k:Nat,k<n→(k:Int)∈(walk n g).1:=by
  refine hc (fun x=>x∈(walk n g).1) (fun x hx=>hpre n x ?_) (fun x hx=>hpre n x ?_) (fun e he hx=>?_)
  · exact giv_mem.2 (.inl (giv_mem.2 (.inr hx)))
  · exact giv_mem.2 (.inr hx)
  ·
   obtain ⟨i,hil,rfl⟩:=List.mem_iff_getElem.1 he
   obtain ⟨i',hi',e1,h2⟩:=hclo _ (hedge i hil hx)
   obtain rfl:i=i':=by omega
   exact h2
 refine ⟨hw,fun i hil=>hedge i hil ?_,hne⟩
 have hn:=hne _ (List.getElem_mem hil)
 obtain ⟨x,hx⟩:=List.exists_mem_of_ne_nil _ hn
 have he:=h.e _ (List.getElem_mem hil)
 have hr:=uJ he.1 he.2 x hx
 refine ⟨x,hx,?_⟩
 have:=hw x.toNat (by omega)
 rwa [show ((x.toNat:Nat):Int)=x by omega] at this
theorem IB_ {n:Nat} (hn:n≤1000){g:Gra} (hw:g.1=(n:Int)) (h:Rgd n g) (hf:Full n g){t:Nat→Int} (ht:Ij n t) :
  kT g=some (cnG n g)∧pS (mpG (n:Int) t g)=some (cnG n g):=by
 refine ⟨JM_ hn hw h hf,?_⟩
 rw [IA_ hn rfl (ht.rgd h _) (ht.full h _ hf),ht.cnG h]
end Go.Proofs.YtodfjigndedehaaGreatDoor
namespace Go.Proofs.YtodfjigndedehaaGreatDoor
set_option linter.unusedVariables false
def LsR (P:List (Int×Int)):List Int→List Int→Prop
 | [],[]=>True
 | x::l,y::l'=>(x,y)∈P∧LsR P l l'
 | _,_=>False
def EdR (P:List (Int×Int)) (e e':Edg):Prop:=e.1=e'.1∧e.2.1=e'.2.1∧LsR P (edI e) (edI e')∧LsR P (edO e) (edO e')
def EsR (P:List (Int×Int)):List Edg→List Edg→Prop
 | [],[]=>True
 | e::l,e'::l'=>EdR P e e'∧EsR P l l'
 | _,_=>False
theorem LsR.mono {P Q:List (Int×Int)} (h:∀ p∈P,p∈Q):∀ {l l':List Int},LsR P l l'→LsR Q l l'
 | [],[],_=>trivial
 | x::l,y::l',hl=>⟨h _ hl.1,LsR.mono h hl.2⟩
 | [],_::_,hl=>hl.elim
 | _::_,[],hl=>hl.elim
theorem LsR.app {P:List (Int×Int)}:∀ {l l' m m':List Int},LsR P l l'→LsR P m m'→LsR P (l++m) (l'++m')
 | [],[],_,_,_,hm=>hm
 | x::l,y::l',_,_,hl,hm=>⟨hl.1,LsR.app hl.2 hm⟩
 | [],_::_,_,_,hl,_=>hl.elim
 | _::_,[],_,_,hl,_=>hl.elim
theorem LsR.len {P:List (Int×Int)}:∀ {l l':List Int},LsR P l l'→l.length=l'.length
 | [],[],_=>rfl
 | x::l,y::l',hl=>congrArg (· + 1) hl.2.len
 | [],_::_,hl=>hl.elim
 | _::_,[],hl=>hl.elim
theorem LsR.get {P:List (Int×Int)}:∀ {l l':List Int}{i:Nat},LsR P l l'→i<l.length→∃ x y,l[i]?=some x∧l'[i]?=some y∧(x,y)∈P
 | [],[],_,_,h=>by simp at h
 | x::l,y::l',0,hl,_=>⟨x,y,rfl,rfl,hl.1⟩
 | x::l,y::l',i+1,hl,h=>by
  obtain ⟨x,y,h1,h2,h3⟩:=hl.2.get (i:=i) (by simpa using h)
  exact ⟨x,y,by simpa using h1,by simpa using h2,h3⟩
 | [],_::_,_,hl,_=>hl.elim
 | _::_,[],_,hl,_=>hl.elim
theorem LsR.take {P:List (Int×Int)}:∀ {l l':List Int} (i:Nat),LsR P l l'→LsR P (l.take i) (l'.take i)
 | [],[],i,_=>by simp [LsR]
 | x::l,y::l',0,_=>trivial
 | x::l,y::l',i+1,hl=>⟨hl.1,hl.2.take i⟩
 | [],_::_,_,hl=>hl.elim
 | _::_,[],_,hl=>hl.elim
theorem LsR.drop {P:List (Int×Int)}:∀ {l l':List Int} (i:Nat),LsR P l l'→LsR P (l.drop i) (l'.drop i)
 | [],[],i,_=>by simp [LsR]
 | x::l,y::l',0,hl=>hl
 | x::l,y::l',i+1,hl=>hl.2.drop i
 | [],_::_,_,hl=>hl.elim
 | _::_,[],_,hl=>hl.elim
theorem EdR.mono {P Q:List (Int×Int)} (h:∀ p∈P,p∈Q){e e':Edg} (he:EdR P e e'):EdR Q e e':=⟨he.1,he.2.1,he.2.2.1.mono h,he.2.2.2.mono h⟩
theorem EsR.mono {P Q:List (Int×Int)} (h:∀ p∈P,p∈Q):∀ {l l':List Edg},EsR P l l'→EsR Q l l'
 | [],[],_=>trivial
 | x::l,y::l',hl=>⟨hl.1.mono h,EsR.mono h hl.2⟩
 | [],_::_,hl=>hl.elim
 | _::_,[],hl=>hl.elim
theorem EsR.snoc {P:List (Int×Int)}{e e':Edg} (he:EdR P e e'):∀ {l l':List Edg},EsR P l l'→EsR P (l++[e]) (l'++[e'])
 | [],[],_=>⟨he,trivial⟩
 | x::l,y::l',hl=>⟨hl.1,EsR.snoc he hl.2⟩
 | [],_::_,hl=>hl.elim
 | _::_,[],hl=>hl.elim
theorem EsR.len {P:List (Int×Int)}:∀ {l l':List Edg},EsR P l l'→l.length=l'.length
 | [],[],_=>rfl
 | x::l,y::l',hl=>congrArg (· + 1) hl.2.len
 | [],_::_,hl=>hl.elim
 | _::_,[],hl=>hl.elim
def inN (n:Nat) (x:Int):Nat:=if 0≤x∧x<(n:Int) then 1 else 0
theorem inN_succ (n:Nat) (x:Int):inN (n+1) x=inN n x+(if x=(n:Int) then 1 else 0):=by
 unfold inN
 by_cases h:x=(n:Int)
 · rw [if_pos h,if_pos (by omega),if_neg (by omega)]
 ·
  rw [if_neg h]
  by_cases h2:0≤x∧x<(n:Int)
  · rw [if_pos h2,if_pos (by omega)]
  · rw [if_neg h2,if_neg (by omega)]
def csE (s:Edg→List Int) (E:List Edg) (x:Int):Nat:=((E.map s).flatten).count x
theorem csE_snoc (s:Edg→List Int) (E:List Edg) (e:Edg) (x:Int):csE s (E++[e]) x=csE s E x+(s e).count x:=by
 unfold csE
 simp only [List.map_append,List.flatten_append,List.map_cons,List.map_nil,List.flatten_cons,List.flatten_nil,List.append_nil,List.count_append]
theorem cnt1 (x y:Int):List.count x [y]=if x=y then 1 else 0:=by
 rw [List.count_singleton]
 by_cases h:x=y
 · simp [h]
 ·
  have:¬y=x:=fun e=>h e.symm
  simp [h,this]
theorem cntC (x y:Int) (l:List Int):List.count x (y::l)=l.count x+if x=y then 1 else 0:=by
 rw [List.count_cons]
 by_cases h:x=y
 · simp [h]
 ·
  have:¬y=x:=fun e=>h e.symm
  simp [h,this]
def ClE (E:List Edg) (S:Int→Prop):Prop:=∀ e∈E,(∃ x∈edI e++edO e,S x)→∀ x∈edI e++edO e,S x
structure Dw (P:List (Int×Int)) (U V D:List Int) (n:Nat) (I:List Int) (E:List Edg) (n':Nat) (E':List Edg) (B:Nat):Prop where
 pa:∀ x,(P.map (·.1)).count x+U.count x=inN n x
 pb:∀ x,(P.map (·.2)).count x+V.count x=inN n' x
 ed:EsR P E E'
 og:∀ x,I.count x+csE edO E x=inN n x
 en:∀ x,csE edI E x+D.count x=inN n x
 co:∀ S:Int→Prop,(∀ x∈I,S x)→(∀ x∈D,S x)→ClE E S→∀ x:Int,0≤x→x<(n:Int)→S x
 b1:n≤B
 b2:n'≤B
 b3:E.length≤B
section
variable {P:List (Int×Int)}{U V D:List Int}{n n' B:Nat}{I:List Int}{E E':List Edg}
theorem Dw.cnt (h:Dw P U V D n I E n' E' B){V1 D1:List Int}{B1:Nat} (hV:∀ x,V.count x=V1.count x) (hD:∀ x,D.count x=D1.count x) (hB:B≤B1):Dw P U V1 D1 n I E n' E' B1:=
 ⟨h.pa,fun x=>by rw [←hV];exact h.pb x,h.ed,h.og,fun x=>by rw [←hD];exact h.en x,fun S h1 h2 h3=>h.co S h1 (fun x hx=>h2 x (by
  have h4:=List.count_pos_iff.2 hx
  rw [hD] at h4
  exact List.count_pos_iff.1 h4)) h3,Nat.le_trans h.b1 hB,Nat.le_trans h.b2 hB,Nat.le_trans h.b3 hB⟩
theorem Dw.setB (h:Dw P U V D n I E n' E' B){B1:Nat} (h1:n≤B1) (h2:n'≤B1) (h3:E.length≤B1):Dw P U V D n I E n' E' B1:=⟨h.pa,h.pb,h.ed,h.og,h.en,h.co,h1,h2,h3⟩
theorem Dw.perm (h:Dw P U V D n I E n' E' B){D1:List Int} (hD:∀ x,D.count x=D1.count x):Dw P U V D1 n I E n' E' B:=h.cnt (fun _=>rfl) hD (Nat.le_refl _)
theorem Dw.up (h:Dw P U V D n I E n' E' B){B1:Nat} (hB:B≤B1):Dw P U V D n I E n' E' B1:=h.cnt (fun _=>rfl) (fun _=>rfl) hB
theorem Dw.wireI (h:Dw P U V D n I E n' E' B):Dw P U ((n':Int)::V) D n I E (n'+1) E' (B+1):=
 ⟨h.pa,fun x=>by rw [inN_succ,cntC,← h.pb x];omega,h.ed,h.og,h.en,h.co,by have:=h.b1;omega,by have:=h.b2;omega,by have:=h.b3;omega⟩
theorem Dw.wireS (h:Dw P U V D n I E n' E' B):Dw P ((n:Int)::U) V ((n:Int)::D) (n+1) (I++[(n:Int)]) E n' E' (B+1):=
 ⟨fun x=>by rw [inN_succ,cntC,← h.pa x];omega,h.pb,h.ed,fun x=>by rw [inN_succ,List.count_append,cnt1,← h.og x];omega,fun x=>by rw [inN_succ,cntC,← h.en x];omega,fun S h1 h2 h3 x hx0 hx1=>by
  by_cases hx:x=(n:Int)
  · rw [hx];exact h2 _ (.head _)
  · exact h.co S (fun y hy=>h1 y (List.mem_append_left _ hy)) (fun y hy=>h2 y (.tail _ hy)) h3 x hx0 (by omega),by have:=h.b1;omega,by have:=h.b2;omega,by have:=h.b3;omega⟩
theorem Dw.pair {x y:Int} (h:Dw P (x::U) (y::V) D n I E n' E' B):Dw (P++[(x,y)]) U V D n I E n' E' B:=
 ⟨fun z=>by
  have:=h.pa z
  rw [cntC] at this
  rw [List.map_append,List.count_append,← this]
  show _+List.count z [x]+_=_
  rw [cnt1];omega,fun z=>by
  have:=h.pb z
  rw [cntC] at this
  rw [List.map_append,List.count_append,← this]
  show _+List.count z [y]+_=_
  rw [cnt1];omega,h.ed.mono (fun p hp=>List.mem_append_left _ hp),h.og,h.en,h.co,h.b1,h.b2,h.b3⟩
theorem ClE.left {e:Edg}{S:Int→Prop} (h:ClE (E++[e]) S):ClE E S:=fun d hd=>h d (List.mem_append_left _ hd)
theorem Dw.edge1 {y:Int}{ins ins':List Int} (k v:Int) (h:Dw P U (y::V) (ins++D) n I E n' E' B) (hi:LsR P ins ins') :
  Dw (P++[((n:Int),y)]) U V ((n:Int)::D) (n+1) I (E++[(k,v,ins,[(n:Int)])]) n' (E'++[(k,v,ins',[y])]) (B+1):=by
 have hsub:∀ p∈P,p∈P++[((n:Int),y)]:=fun p hp=>List.mem_append_left _ hp
 refine ⟨fun z=>?_,fun z=>?_,EsR.snoc (e:=(k,v,ins,[(n:Int)])) (e':=(k,v,ins',[y])) ⟨rfl,rfl,hi.mono hsub,(⟨by simp,trivial⟩:LsR _ [(n:Int)] [y])⟩ (h.ed.mono hsub),fun z=>?_,fun z=>?_,fun S h1 h2 h3 x hx0 hx1=>?_,?_,?_,?_⟩
 ·
  rw [inN_succ,List.map_append,List.count_append,← h.pa z]
  show _+List.count z [(n:Int)]+_=_
  rw [cnt1];omega
 ·
  have:=h.pb z
  rw [cntC] at this
  rw [List.map_append,List.count_append,← this]
  show _+List.count z [y]+_=_
  rw [cnt1];omega
 ·
  rw [inN_succ,csE_snoc,← h.og z]
  show _+(_+List.count z [(n:Int)])=_
  rw [cnt1];omega
 ·
  have:=h.en z
  rw [List.count_append] at this
  rw [inN_succ,csE_snoc,cntC,← this]
  show _+List.count z ins+_=_
  omega
 ·
  have hn:S (n:Int):=h2 _ (.head _)
  have hall:=h3 _ (List.mem_append_right _ (.head _)) ⟨(n:Int),List.mem_append_right _ (.head _),hn⟩
  by_cases hx:x=(n:Int)
  · rw [hx];exact hn
  ·
   refine h.co S h1 (fun y hy=>?_) h3.left x hx0 (by omega)
   rcases List.mem_append.1 hy with hy | hy
   · exact hall y (List.mem_append_left _ hy)
   · exact h2 y (.tail _ hy)
 · have:=h.b1;omega
 · have:=h.b2;omega
 · have:=h.b3;simp;omega
theorem Dw.edge2 {y z:Int}{ins ins':List Int} (k v:Int) (h:Dw P U (y::z::V) (ins++D) n I E n' E' B) (hi:LsR P ins ins') :
  Dw (P++[((n:Int),y),((n:Int)+1,z)]) U V ((n:Int)::((n:Int)+1)::D) (n+2) I (E++[(k,v,ins,[(n:Int),(n:Int)+1])]) n' (E'++[(k,v,ins',[y,z])]) (B+2):=by
 have hsub:∀ p∈P,p∈P++[((n:Int),y),((n:Int)+1,z)]:=fun p hp=>List.mem_append_left _ hp
 have ho:∀ x,inN (n+2) x=inN n x+(if x=(n:Int) then 1 else 0)+(if x=(n:Int)+1 then 1 else 0):=fun x=>by
  rw [show n+2=(n+1)+1 from rfl,inN_succ,inN_succ,show ((n+1:Nat):Int)=(n:Int)+1 by omega]
 refine ⟨fun u=>?_,fun u=>?_,EsR.snoc (e:=(k,v,ins,[(n:Int),(n:Int)+1])) (e':=(k,v,ins',[y,z])) ⟨rfl,rfl,hi.mono hsub,(⟨by simp,by simp,trivial⟩:LsR _ [(n:Int),(n:Int)+1] [y,z])⟩ (h.ed.mono hsub),fun u=>?_,fun u=>?_,fun S h1 h2 h3 x hx0 hx1=>?_,?_,?_,?_⟩
 ·
  rw [ho,List.map_append,List.count_append,← h.pa u]
  show _+List.count u [(n:Int),(n:Int)+1]+_=_
  rw [cntC,cnt1];omega
 ·
  have:=h.pb u
  rw [cntC,cntC] at this
  rw [List.map_append,List.count_append,← this]
  show _+List.count u [y,z]+_=_
  rw [cntC,cnt1];omega
 ·
  rw [ho,csE_snoc,← h.og u]
  show _+(_+List.count u [(n:Int),(n:Int)+1])=_
  rw [cntC,cnt1];omega
 ·
  have:=h.en u
  rw [List.count_append] at this
  rw [ho,csE_snoc,cntC,cntC,← this]
  show _+List.count u ins+_=_
  omega
 ·
  have hn:S (n:Int):=h2 _ (.head _)
  have hall:=h3 _ (List.mem_append_right _ (.head _)) ⟨(n:Int),List.mem_append_right _ (.head _),hn⟩
  by_cases hx:x=(n:Int)
  · rw [hx];exact hn
  ·
   by_cases hx':x=(n:Int)+1
   · rw [hx'];exact h2 _ (.tail _ (.head _))
   ·
    refine h.co S h1 (fun y hy=>?_) h3.left x hx0 (by omega)
    rcases List.mem_append.1 hy with hy | hy
    · exact hall y (List.mem_append_left _ hy)
    · exact h2 y (.tail _ (.tail _ hy))
 · have:=h.b1;omega
 · have:=h.b2;omega
 · have:=h.b3;simp;omega
theorem Dw.edge0 {w w':Int} (k v:Int) (h:Dw P U V (w::D) n I E n' E' B) (hw:(w,w')∈P) (hc:∀ S:Int→Prop,(∀ x∈I,S x)→ClE E S→S w) :
  Dw P U V D n I (E++[(k,v,[w],[])]) n' (E'++[(k,v,[w'],[])]) (B+1):=by
 refine ⟨h.pa,h.pb,EsR.snoc (e:=(k,v,[w],[])) (e':=(k,v,[w'],[])) ⟨rfl,rfl,(⟨hw,trivial⟩:LsR P [w] [w']),trivial⟩ h.ed,fun z=>?_,fun z=>?_,fun S h1 h2 h3 x hx0 hx1=>?_,?_,?_,?_⟩
 ·
  rw [csE_snoc,← h.og z]
  rfl
 ·
  have:=h.en z
  rw [cntC] at this
  rw [csE_snoc,← this]
  show _+List.count z [w]+_=_
  rw [cnt1];omega
 ·
  refine h.co S h1 (fun y hy=>?_) h3.left x hx0 hx1
  rcases List.mem_cons.1 hy with rfl | hy
  · exact hc S h1 h3.left
  · exact h2 y hy
 · have:=h.b1;omega
 · have:=h.b2;omega
 · have:=h.b3;simp;omega
theorem inN_le (n:Nat) (x:Int):inN n x≤1:=by unfold inN;split <;> omega
theorem inN_pos {n:Nat}{x:Int} (h:0<inN n x):0≤x∧x<(n:Int):=by
 unfold inN at h
 split at h
 · assumption
 · omega
theorem od_of {n:Nat}{l:List Int} (h:∀ x,l.count x≤inN n x):Od n l:=
 ⟨fun x hx=>inN_pos (Nat.lt_of_lt_of_le (List.count_pos_iff.2 hx) (h x)),List.nodup_iff_count.2 fun x=>Nat.le_trans (h x) (inN_le n x)⟩
theorem Dw.len (h:Dw P U V D n I E n' E' B):D.length≤n:=(od_of fun x=>by have:=h.en x;omega).le
end
theorem rL {n:Nat}{E:List Edg}{I O:List Int} (hn:n≤1000000):vF ((n:Int),E,I,O)=some ((((n+1:Nat):Int),E,I,O),(n:Int)):=by
 refine bnd (gB (by dsimp only;omega) (by dsimp only;omega)) (bnd (yC (by dsimp only;omega) (by dsimp only;omega)) ?_)
 dsimp only
 rw [show (n:Int)+1-1=(n:Int) by omega,show ((n+1:Nat):Int)=(n:Int)+1 by omega]
theorem tO {n:Nat}{E:List Edg}{I O:List Int} (hn:n≤1000000):iH ((n:Int),E,I,O)=some ((((n+1:Nat):Int),E,I,O),(n:Int)):=by
 refine bnd (gB (by dsimp only;omega) (by dsimp only;omega)) (bnd (yC (by dsimp only;omega) (by dsimp only;omega)) ?_)
 dsimp only
 rw [show (n:Int)+1-1=(n:Int) by omega,show ((n+1:Nat):Int)=(n:Int)+1 by omega]
theorem uL {n:Int}{E:List Edg}{I O:List Int} (hE:E.length≤1000000) (k v:Int) (a b:List Int):jF (n,E,I,O) k v a b=some (n,E++[(k,v,a,b)],I,O):=by
 have hm:bB=1099511627776:=rfl
 exact bnd (jB (by simp;omega)) rfl
theorem vL {n:Int}{E:List Edg}{I O:List Int} (hE:E.length≤1000000) (k v:Int) (a b:List Int):iF (n,E,I,O) k v a b=some (n,E++[(k,v,a,b)],I,O):=by
 have hm:bB=1099511627776:=rfl
 exact bnd (jB (by simp;omega)) rfl
theorem EF_ {n:Nat}{E:List Edg}{I O:List Int} (k:Nat) (hn:n+k≤1000000):oP ((n:Int),E,I,O) (k:Int)=some ((((n+k:Nat):Int),E,I,O),(List.range k).map fun i=>((n+i:Nat):Int)):=by
 have hm:bB=1099511627776:=rfl
 refine bnd (nK (by unfold inI;omega)) ?_
 rw [Int.toNat_natCast]
 refine bnd (vC (n:=k) (fun j=>(((n+j:Nat):Int),(List.range j).map fun i=>((n+i:Nat):Int))) (fun j hj=>?_)) rfl
 refine bnd (tO (by omega)) (bnd (jB (by simp;omega)) ?_)
 rw [List.range_succ,List.map_append]
 rfl
theorem Fg_ (I2 O2 I3 O3:List Int):∀ (k fuel:Nat),1≤k→k<fuel→∀ {P:List (Int×Int)}{U V D:List Int}{n n' B:Nat}{I:List Int}{E E':List Edg}{w w':Int},Dw P U V (w::D) n I E n' E' B→(w,w')∈P→B+2*k≤1000000 →
  ∃ P' n1 E1 n1' E1' r r',kN fuel ((n:Int),E,I2,O2) w (k:Int)=some ((((n1:Nat):Int),E1,I2,O2),r)∧fN fuel ((n':Int),E',I3,O3) w' (k:Int)=some ((((n1':Nat):Int),E1',I3,O3),r') ∧
   (∀ p∈P,p∈P')∧LsR P' r r'∧r.length=k∧Dw P' U V (r++D) n1 I E1 n1' E1' (B+2*k)
 | 0,_,h1,_,_,_,_,_,_,_,_,_,_,_,_,_,_,_,_=>by omega
 | 1,fuel+1,_,_,P,U,V,D,n,n',B,I,E,E',w,w',h,hw,hB=>by
  refine ⟨P,n,E,n',E',[w],[w'],?_,?_,fun p hp=>hp,⟨hw,trivial⟩,rfl,h.up (by omega)⟩
  · exact stp (cFW rfl (stp (cTW rfl rfl)))
  · exact stp (cFW rfl (stp (cTW rfl rfl)))
 | k+2,fuel+1,_,hf,P,U,V,D,n,n',B,I,E,E',w,w',h,hw,hB=>by
  have hm:bB=1099511627776:=rfl
  have b1:=h.b1;have b2:=h.b2;have b3:=h.b3
  have hl:=h.ed.len
  have h2:=((h.wireI.wireI).cnt (V1:=(n':Int)::((n':Int)+1)::V) (D1:=[w]++D) (fun x=>by
   rw [cntC,cntC,cntC,cntC,show ((n'+1:Nat):Int)=(n':Int)+1 by omega];omega) (fun _=>rfl) (Nat.le_refl _)).edge2 3 0 (ins':=[w']) ⟨hw,trivial⟩
  have h3:=h2.perm (D1:=((n:Int)+1)::((n:Int)::D)) (fun x=>by rw [cntC,cntC,cntC,cntC];omega)
  obtain ⟨P',n1,E1,n1',E1',r,r',k1,k2,k3,k4,k5,k6⟩:=Fg_ I2 O2 I3 O3 (k+1) fuel (by omega) (by omega) (h3.setB (B1:=B+2) (by omega) (by omega) (by simp;omega)) (w':=(n':Int)+1) (List.mem_append_right _ (by simp)) (by omega)
  have hk:((k+2:Nat):Int)-1=((k+1:Nat):Int):=by omega
  refine ⟨P',n1,E1,n1',E1',(n:Int)::r,(n':Int)::r',?_,?_,fun p hp=>k3 p (List.mem_append_left _ hp),⟨k3 _ (List.mem_append_right _ (by simp)),k4⟩,by simp [k5],(k6.perm (fun x=>by
   simp only [List.count_append,List.cons_append,cntC];omega)).up (by omega)⟩
  ·
   refine stp (cFW (dF (by omega)) (stp (cFW (dF (by omega)) ?_)))
   refine bnd (rL (by omega)) (bnd (rL (by omega)) (bnd (uL (by dsimp only;omega) _ _ _ _) (bnd (yC (by omega) (by omega)) ?_)))
   rw [hk]
   dsimp only
   rw [show ((n+1:Nat):Int)=(n:Int)+1 by omega]
   refine bnd (show kN fuel (((n+1+1:Nat):Int),E++[(3,0,[w],[(n:Int),(n:Int)+1])],I2,O2) ((n:Int)+1) ((k+1:Nat):Int)=_ from k1) (bnd (jB (by simp;omega)) rfl)
  ·
   refine stp (cFW (dF (by omega)) (stp (cFW (dF (by omega)) ?_)))
   refine bnd (EF_ 2 (by omega)) (bnd (vL (by dsimp only;omega) _ _ _ _) (bnd (a:=(((n1':Nat):Int),E1',(n':Int)::r')) (bnd (yC (by omega) (by omega)) ?_) rfl))
   rw [hk]
   dsimp only
   refine bnd (a:=(n':Int)) rfl (bnd (a:=(n':Int)+1) rfl ?_)
   refine bnd (show fN fuel (((n'+1+1:Nat):Int),E'++[(3,0,[w'],[(n':Int),(n':Int)+1])],I3,O3) ((n':Int)+1) ((k+1:Nat):Int)=_ from k2) (bnd (jB (by have:=k4.len;simp;omega)) rfl)
theorem EO_ (I2 O2 I3 O3:List Int):∀ (k fuel:Nat),k<fuel→∀ {P:List (Int×Int)}{U V D:List Int}{n n' B:Nat}{I:List Int}{E E':List Edg}{l l':List Int},l.length=k→Dw P U V (l++D) n I E n' E' B→LsR P l l'→B+2*k+2≤1000000 →
  ∃ P' n1 E1 n1' E1' r r',vS fuel ((n:Int),E,I2,O2) l=some ((((n1:Nat):Int),E1,I2,O2),r)∧tS fuel ((n':Int),E',I3,O3) l'=some ((((n1':Nat):Int),E1',I3,O3),r') ∧
   (∀ p∈P,p∈P')∧(r,r')∈P'∧Dw P' U V (r::D) n1 I E1 n1' E1' (B+2*k+2)
 | 0,fuel+1,_,P,U,V,D,n,n',B,I,E,E',l,l',hl,h,hr,hB=>by
  obtain rfl:l=[]:=List.length_eq_zero_iff.1 hl
  obtain rfl:l'=[]:=List.length_eq_zero_iff.1 (hr.len.symm.trans hl)
  have b1:=h.b1;have b2:=h.b2;have b3:=h.b3
  have hle:=h.ed.len
  have h1:=h.wireI.edge1 (ins:=[]) (ins':=[]) 6 0 trivial
  refine ⟨_,_,_,_,_,(n:Int),(n':Int),?_,?_,fun p hp=>List.mem_append_left _ hp,by simp,h1.up (by omega)⟩
  · exact stp (cFW rfl (stp (cTW rfl (bnd (rL (by omega)) (bnd (uL (by dsimp only;omega) _ _ _ _) rfl)))))
  · exact bnd (a:=-1) rfl (stp (cFW rfl (bnd (tO (by omega)) (stp (cTW rfl (bnd (vL (by dsimp only;omega) _ _ _ _) rfl))))))
 | 1,fuel+1,_,P,U,V,D,n,n',B,I,E,E',l,l',hl,h,hr,hB=>by
  match l,l',hl,hr with
  | [x],[y],_,hr=>
   refine ⟨P,n,E,n',E',x,y,?_,?_,fun p hp=>hp,hr.1,h.up (by omega)⟩
   · exact stp (cTW rfl (bnd (a:=x) rfl rfl))
   · exact bnd (a:=0) rfl (stp (cTW rfl (bnd (a:=y) rfl rfl)))
 | k+2,fuel+1,hf,P,U,V,D,n,n',B,I,E,E',l,l',hl,h,hr,hB=>by
  have hm:bB=1099511627776:=rfl
  have b1:=h.b1;have b2:=h.b2;have b3:=h.b3
  have hle:=h.ed.len
  have hl':l'.length=k+2:=hr.len.symm.trans hl
  obtain ⟨x,y,hx,hy,hxy⟩:=hr.get (i:=k+1) (by omega)
  have hsp:l=l.take (k+1)++[x]:=by
   obtain ⟨h1,h2⟩:=List.getElem?_eq_some_iff.1 hx
   rw [←h2,← List.take_succ_eq_append_getElem h1]
   exact (List.take_of_length_le (by omega)).symm
  have h1:=h.wireI.perm (D1:=l.take (k+1)++(x::D)) (fun u=>by
   conv=>lhs;rw [hsp]
   rw [List.append_assoc];rfl)
  obtain ⟨P',n1,E1,n1',E1',r,r',k1,k2,k3,k4,k5⟩:=EO_ I2 O2 I3 O3 (k+1) fuel (by omega) (by rw [List.length_take];omega) h1 (hr.take (k+1)) (by omega)
  have c1:=k5.b1;have c2:=k5.b2;have c3:=k5.b3
  have cl:=k5.ed.len
  have h2:=Dw.edge1 (ins:=[r,x]) (ins':=[r',y]) 5 0 k5 ⟨k4,k3 _ hxy,trivial⟩
  have hk:((l.length:Nat):Int)-1=((k+1:Nat):Int):=by omega
  have hk':((l'.length:Nat):Int)-1=((k+1:Nat):Int):=by omega
  have hs:iB l 0 ((k+1:Nat):Int)=some (l.take (k+1)):=by
   unfold iB
   rw [if_pos (by omega)];rfl
  have hs':iB l' 0 ((k+1:Nat):Int)=some (l'.take (k+1)):=by
   unfold iB
   rw [if_pos (by omega)];rfl
  refine ⟨_,_,_,_,_,(n1:Int),(n':Int),?_,?_,fun p hp=>List.mem_append_left _ (k3 p hp),by simp,h2.up (by omega)⟩
  ·
   refine stp (cFW (dF (by omega)) (stp (cFW (dF (by omega)) (bnd (yC (by omega) (by omega)) ?_))))
   rw [hk]
   exact bnd hs (bnd k1 (bnd (rL (by omega)) (bnd (kA hx) (bnd (uL (by dsimp only;omega) _ _ _ _) rfl))))
  ·
   refine bnd (yC (by omega) (by omega)) ?_
   rw [hk']
   refine stp (cFW (dF (by omega)) (bnd (tO (by omega)) (stp (cFW (dF (by omega)) (bnd (a:=(((n1':Nat):Int),E1'++[(5,0,[r',y],[(n':Int)])])) ?_ rfl)))))
   exact bnd hs' (bnd k2 (bnd (kA hy) (bnd (vL (by dsimp only;omega) _ _ _ _) rfl)))
end Go.Proofs.YtodfjigndedehaaGreatDoor
namespace Go.Proofs.YtodfjigndedehaaGreatDoor
set_option linter.unusedVariables false
def lkp:List (Int×Int)→Int→Int
 | [],_=>0
 | p::l,x=>if p.1=x then p.2 else lkp l x
theorem xO:∀ {P:List (Int×Int)}{x y:Int},(P.map (·.1)).Nodup→(x,y)∈P→lkp P x=y
 | p::l,x,y,hn,h=>by
  obtain ⟨h1,h2⟩:=List.nodup_cons.1 hn
  unfold lkp
  rcases List.mem_cons.1 h with rfl | h
  · exact if_pos rfl
  ·
   rw [if_neg (fun e=>h1 (by show p.1∈_;rw [e];exact List.mem_map.2 ⟨(x,y),h,rfl⟩))]
   exact xO h2 h
theorem dW {n:Nat}{l:List Int} (h:∀ x,l.count x=inN n x):Od n l∧l.length=n∧∀ k:Nat,k<n→(k:Int)∈l:=by
 have ho:Od n l:=od_of fun x=>by rw [h];exact Nat.le_refl _
 have hc:∀ k:Nat,k<n→(k:Int)∈l:=fun k hk=>List.count_pos_iff.1 (by rw [h];unfold inN;rw [if_pos (by omega)];omega)
 refine ⟨ho,?_,hc⟩
 rw [←iU ho.r ho.d]
 exact seenN_full.2 hc
theorem DO_:∀ {P:List (Int×Int)}{x x' y:Int},(P.map (·.2)).Nodup→(x,y)∈P→(x',y)∈P→x=x'
 | p::l,x,x',y,hn,h,h'=>by
  obtain ⟨h1,h2⟩:=List.nodup_cons.1 hn
  rcases List.mem_cons.1 h with e | hq
  ·
   rcases List.mem_cons.1 h' with e' | hq'
   · exact congrArg Prod.fst (e.trans e'.symm)
   · exact (h1 (List.mem_map.2 ⟨(x',y),hq',by rw [←e]⟩)).elim
  ·
   rcases List.mem_cons.1 h' with e' | hq'
   · exact (h1 (List.mem_map.2 ⟨(x,y),hq,by rw [←e']⟩)).elim
   · exact DO_ h2 hq hq'
theorem Dw.same {P:List (Int×Int)}{D:List Int}{n n' B:Nat}{I:List Int}{E E':List Edg} (h:Dw P [] [] D n I E n' E' B) :
  n'=n∧∃ t,Ij n t∧(∀ y:Nat,y<n→∃ k:Nat,k<n∧t k=(y:Int))∧(∀ l l',LsR P l l'→l'=mp t l)∧E'=E.map (mpE t):=by
 obtain ⟨a1,a2,a3⟩:=dW (n:=n) (l:=P.map (·.1)) (fun x=>by have:=h.pa x;simpa using this)
 obtain ⟨b1,b2,b3⟩:=dW (n:=n') (l:=P.map (·.2)) (fun x=>by have:=h.pb x;simpa using this)
 rw [List.length_map] at a2 b2
 have hnn:n'=n:=b2.symm.trans a2
 subst hnn
 have hex:∀ k:Nat,k<n'→∃ y,((k:Int),y)∈P:=fun k hk=>by
  obtain ⟨p,hp,e⟩:=List.mem_map.1 (a3 k hk)
  exact ⟨p.2,by rw [←e];exact hp⟩
 have hls:∀ l l',LsR P l l'→l'=mp (fun k:Nat=>lkp P (k:Int)) l:=by
  intro l
  induction l with
  | nil=>
   intro l' hl
   cases l' with
   | nil=>rfl
   | cons y l'=>exact hl.elim
  | cons x l ih=>
   intro l' hl
   cases l' with
   | nil=>exact hl.elim
   | cons y l'=>
    have hx:=a1.r x (List.mem_map.2 ⟨(x,y),hl.1,rfl⟩)
    show y::l'=lkp P ((x.toNat:Nat):Int)::mp (fun k:Nat=>lkp P (k:Int)) l
    rw [show ((x.toNat:Nat):Int)=x by omega,xO a1.d hl.1,← ih l' hl.2]
 refine ⟨rfl,fun k:Nat=>lkp P (k:Int),⟨fun k hk=>?_,fun j k hj hk e=>?_⟩,fun y hy=>?_,hls,?_⟩
 ·
  obtain ⟨y,hy⟩:=hex k hk
  rw [xO a1.d hy]
  exact b1.r y (List.mem_map.2 ⟨_,hy,rfl⟩)
 ·
  obtain ⟨y,hy⟩:=hex j hj
  obtain ⟨z,hz⟩:=hex k hk
  rw [xO a1.d hy,xO a1.d hz] at e
  subst e
  have:=DO_ b1.d hy hz
  omega
 ·
  obtain ⟨p,hp,e⟩:=List.mem_map.1 (b3 y hy)
  have hx:=a1.r p.1 (List.mem_map.2 ⟨p,hp,rfl⟩)
  refine ⟨p.1.toNat,by omega,?_⟩
  show lkp P ((p.1.toNat:Nat):Int)=_
  rw [show ((p.1.toNat:Nat):Int)=p.1 by omega,← e]
  exact xO a1.d hp
 ·
  have key:∀ E E':List Edg,EsR P E E'→E'=E.map (mpE fun k:Nat=>lkp P (k:Int)):=by
   intro E
   induction E with
   | nil=>
    intro E' hE
    cases E' with
    | nil=>rfl
    | cons e E'=>exact hE.elim
   | cons e E ih=>
    intro E' hE
    cases E' with
    | nil=>exact hE.elim
    | cons e' E'=>
     obtain ⟨⟨h1,h2,h3,h4⟩,h5⟩:=hE
     rw [List.map_cons,← ih E' h5]
     congr 1
     exact Prod.ext h1.symm (Prod.ext h2.symm (Prod.ext (hls _ _ h3) (hls _ _ h4)))
  exact key _ _ h.ed
theorem Ij.od {n:Nat}{t:Nat→Int} (h:Ij n t):∀ {l:List Int},Od n l→Od n (mp t l)
 | [],_=>sL n
 | x::l,ho=>by
  obtain ⟨d1,d2⟩:=List.nodup_cons.1 ho.d
  have hl:rC n l:=fun y hy=>ho.r y (.tail _ hy)
  have ih:=Ij.od h (l:=l) ⟨hl,d2⟩
  have hx:=ho.r x (.head _)
  refine ⟨h.rg ho.r,List.nodup_cons.2 ⟨fun hm=>d1 ?_,ih.d⟩⟩
  have:=(h.mem hl (k:=x.toNat) (by omega)).1 hm
  rwa [show ((x.toNat:Nat):Int)=x by omega] at this
theorem Fc_ {n:Nat}{g:Gra} (hw:g.1=(n:Int)) (hI:rC n g.2.2.1) (hO:rC n g.2.2.2) (hE:zE n g.2.1) (hc:∀ k:Nat,k<n→(k:Int)∈bE g) :
  gOk g=(rng (n:Int) 0 100&&(decide (g.2.1.length≤60)&&(decide (g.2.2.1.length≤12)&&(decide (g.2.2.2.length≤12)&&g.2.1.all arB)))):=by
 unfold gOk
 have h1:(g.2.1.all (edW g.1))=g.2.1.all arB:=by
  rw [hw]
  rw [Bool.eq_iff_iff,List.all_eq_true,List.all_eq_true]
  refine forall_congr' fun e=>forall_congr' fun he=>?_
  unfold edW
  rw [uO (hE e he).1,uO (hE e he).2]
  simp
 have h2:((List.range g.1.toNat).all fun k:Nat=>decide ((k:Int)∈bE g))=true:=by
  rw [hw,Int.toNat_natCast]
  exact List.all_eq_true.2 fun k hk=>decide_eq_true (hc k (List.mem_range.1 hk))
 rw [h1,h2,hw,uO hI,uO hO]
 simp
theorem arB_mp (t:Nat→Int) (e:Edg):arB (mpE t e)=arB e:=by
 unfold arB
 show (fF e.1 e.2.1&&(decide (((mp t (edI e)).length:Int)=_)&&decide (((mp t (edO e)).length:Int)=_)))=_
 rw [mp_len,mp_len];rfl
theorem org_mp (w:Int) (t:Nat→Int) (g:Gra):zH (mpG w t g)=mp t (zH g):=by
 have key:∀ E:List Edg,((E.map (mpE t)).map edO).flatten=mp t (E.map edO).flatten:=by
  intro E
  induction E with
  | nil=>rfl
  | cons e E ih=>
   rw [List.map_cons,List.map_cons,List.flatten_cons,ih,List.map_cons,List.flatten_cons]
   exact List.map_append.symm
 show mp t g.2.2.1++((g.2.1.map (mpE t)).map edO).flatten=mp t (g.2.2.1++_)
 rw [key]
 exact List.map_append.symm
theorem end_mp (w:Int) (t:Nat→Int) (g:Gra):ends (mpG w t g)=mp t (ends g):=by
 have key:∀ E:List Edg,((E.map (mpE t)).map edI).flatten=mp t (E.map edI).flatten:=by
  intro E
  induction E with
  | nil=>rfl
  | cons e E ih=>
   rw [List.map_cons,List.map_cons,List.flatten_cons,ih,List.map_cons,List.flatten_cons]
   exact List.map_append.symm
 show mp t g.2.2.2++((g.2.1.map (mpE t)).map edI).flatten=mp t (g.2.2.2++_)
 rw [key]
 exact List.map_append.symm
theorem arB_ne {e:Edg} (h:arB e=true):edI e++edO e≠[]:=by
 intro he
 obtain ⟨h1,h2⟩:=List.append_eq_nil_iff.1 he
 unfold arB at h
 simp only [Bool.and_eq_true,decide_eq_true_eq] at h
 obtain ⟨hg,h3,h4⟩:=h
 have e1:e.2.2.1=[]:=h1
 have e2:e.2.2.2=[]:=h2
 rw [e1] at h3
 rw [e2] at h4
 unfold fF at hg
 simp only [Bool.and_eq_true] at hg
 have hr:=rng_true.1 hg.1
 have:e.1=3∨e.1=4∨e.1=5∨e.1=6∨e.1=7∨e.1=8∨e.1=9∨e.1=10∨e.1=11∨e.1=12∨e.1=13∨e.1=14:=by omega
 rcases this with h | h | h | h | h | h | h | h | h | h | h | h <;> rw [h] at h3 h4 <;> revert h3 h4 <;> decide
theorem Jm_ {n:Nat}{g:Gra} (h:GOk g n):yF (cnG n g)≤1048576:=by
 have h60:=h.e60;have h12:=h.i12;have h13:=h.o12
 have key:∀ (wp ep:Nat→Int),∀ e∈setsL g.2.1.length ep (g.2.1.map (mpE wp)) g.2.1.length,cF e≤4:=by
  intro wp ep e he
  rcases AE_ _ _ _ _ e he with rfl | he
  · exact Nat.zero_le _
  ·
   obtain ⟨x,hx,rfl⟩:=List.mem_map.1 he
   have:=Fz_ (List.all_eq_true.1 h.ar x hx)
   unfold cF tG
   show (mp wp (edI x)).length+(mp wp (edO x)).length≤4
   rw [mp_len,mp_len];omega
 have hsum:∀ {l:List Edg} {c:Nat},(∀ a∈l,cF a≤c)→tot cF l≤l.length*c:=by
  intro l c
  induction l with
  | nil=>intro _;exact Nat.zero_le _
  | cons a l ih=>
   intro hl
   have h1:=ih fun b hb=>hl b (.tail _ hb)
   have h2:=hl a (.head _)
   rw [tot_cons,List.length_cons,Nat.add_mul];omega
 have hs:=hsum (key (fun k=>plc (walk n g).1 k) (fun k=>plc (walk n g).2 k))
 rw [qQ] at hs
 unfold yF fK tG cnG renG
 dsimp only
 rw [qQ,mp_len,mp_len]
 have:tot cF (setsL g.2.1.length (fun k=>plc (walk n g).2 k) (g.2.1.map (mpE fun k=>plc (walk n g).1 k)) g.2.1.length)≤240:=by omega
 refine Nat.le_trans (Nat.add_le_add (Nat.add_le_add (Nat.add_le_add h60 this) h12) h13) ?_
 omega
theorem H2_ {P:List (Int×Int)}{n n' B:Nat}{I I' O O':List Int}{E E':List Edg} (h:Dw P [] [] O n I E n' E' B) (hI:LsR P I I') (hO:LsR P O O') :
  ∃ G,pY ((n:Int),E,I,O)=some G∧dY ((n':Int),E',I',O')=some G∧yF G.1≤1048576:=by
 obtain ⟨rfl,t,ht,hsur,hls,rfl⟩:=h.same
 obtain rfl:=hls _ _ hI
 obtain rfl:=hls _ _ hO
 have og:=dW (n:=n') (l:=zH ((n':Int),E,I,O)) (fun x=>by
  show (I++(E.map edO).flatten).count x=_
  rw [List.count_append];exact h.og x)
 have en:=dW (n:=n') (l:=ends ((n':Int),E,I,O)) (fun x=>by
  show (O++(E.map edI).flatten).count x=_
  rw [List.count_append,Nat.add_comm];exact h.en x)
 have hIr:rC n' I:=fun x hx=>og.1.r x (List.mem_append_left _ hx)
 have hOr:rC n' O:=fun x hx=>en.1.r x (List.mem_append_left _ hx)
 have hEr:zE n' E:=fun e he=>⟨fun x hx=>en.1.r x (List.mem_append_right _ (List.mem_flatten.2 ⟨edI e,List.mem_map_of_mem he,hx⟩)),fun x hx=>og.1.r x (List.mem_append_right _ (List.mem_flatten.2 ⟨edO e,List.mem_map_of_mem he,hx⟩))⟩
 have hcov:∀ k:Nat,k<n'→(k:Int)∈bE ((n':Int),E,I,O):=fun k hk=>by
  rcases List.mem_append.1 (og.2.2 k hk) with h1 | h1
  · exact mem_allW.2 (.inl h1)
  ·
   obtain ⟨l,hl,hx⟩:=List.mem_flatten.1 h1
   obtain ⟨e,he,rfl⟩:=List.mem_map.1 hl
   exact mem_allW.2 (.inr (.inr ⟨e,he,.inr hx⟩))
 have hcov':∀ k:Nat,k<n'→(k:Int)∈bE (mpG (n':Int) t ((n':Int),E,I,O)):=fun y hy=>by
  obtain ⟨k,hk,e⟩:=hsur y hy
  rw [←e]
  rcases mem_allW.1 (hcov k hk) with h1 | h1 | ⟨e,he,h1⟩
  · exact mem_allW.2 (.inl ((ht.mem hIr hk).2 h1))
  · exact mem_allW.2 (.inr (.inl ((ht.mem hOr hk).2 h1)))
  ·
   refine mem_allW.2 (.inr (.inr ⟨mpE t e,List.mem_map_of_mem he,?_⟩))
   exact h1.imp (fun h1=>(ht.mem (hEr e he).1 hk).2 h1) (fun h1=>(ht.mem (hEr e he).2 hk).2 h1)
 have hEr':zE n' (E.map (mpE t)):=fun e he=>by
  obtain ⟨x,hx,rfl⟩:=List.mem_map.1 he
  exact ⟨ht.rg (hEr x hx).1,ht.rg (hEr x hx).2⟩
 have g1:=Fc_ (g:=((n':Int),E,I,O)) rfl hIr hOr hEr hcov
 have g2:=Fc_ (g:=mpG (n':Int) t ((n':Int),E,I,O)) rfl (ht.rg hIr) (ht.rg hOr) hEr' hcov'
 have hall:(E.map (mpE t)).all arB=E.all arB:=by
  rw [List.all_map]
  congr 1
  funext e
  exact arB_mp t e
 have hgg:gOk (mpG (n':Int) t ((n':Int),E,I,O))=gOk ((n':Int),E,I,O):=by
  rw [g1,g2]
  show (_&&(decide ((E.map (mpE t)).length≤60)&&(decide ((mp t I).length≤12)&&(decide ((mp t O).length≤12)&&(E.map (mpE t)).all arB))))=_
  rw [hall,mp_len,mp_len,List.length_map]
 have hmono:kX (mpG (n':Int) t ((n':Int),E,I,O))=gOk ((n':Int),E,I,O):=by
  have o1:=ht.od og.1
  have o2:=ht.od en.1
  unfold kX
  rw [hgg,org_mp,end_mp]
  show (gOk _&&((decide ((mp t _).length=((n':Int)).toNat)&&yE ((n':Int)).toNat (mp t _))&&(decide ((mp t _).length=((n':Int)).toNat)&&yE ((n':Int)).toNat (mp t _))))=_
  rw [Int.toNat_natCast,mp_len,mp_len,og.2.1,en.2.1]
  unfold yE
  rw [uO o1.r,uO o2.r,decide_eq_true o1.d,decide_eq_true o2.d]
  simp
 cases hg:gOk ((n':Int),E,I,O) with
 | false=>
  rw [hg] at hmono
  refine ⟨(noG,false),bnd (A0_ _) (stp (cTW (nF hg) rfl)),bnd (Ec_ _) (stp (cTW (nF hmono) rfl)),by decide⟩
 | true=>
  rw [hg] at hmono
  obtain ⟨m,hm⟩:=AL_ hg
  obtain rfl:m=n':=by have:=hm.w;dsimp only at this;omega
  have hrg:=hm.rgd
  have hn:=hm.n100
  have hf:Full m ((m:Int),E,I,O):=by
   refine full_of hrg ?_ ?_ (fun e he=>arB_ne (List.all_eq_true.1 hm.ar e he)) (fun S h1 h2 h3 k hk=>h.co S h1 h2 h3 k (by omega) (by omega))
   · exact (List.nodup_append.1 en.1.d).2.1
   · exact (List.nodup_append.1 og.1.d).2.1
  obtain ⟨c1,c2⟩:=IB_ (by omega) rfl hrg hf ht
  exact ⟨(cnG m ((m:Int),E,I,O),true),bnd (A0_ _) (stp (cFW (nT hg) (bnd c1 rfl))),bnd (Ec_ _) (stp (cFW (nT hmono) (bnd c2 rfl))),Jm_ hm⟩
def ug (n:Nat):List Int:=(List.range n).map fun i:Nat=>(i:Int)
theorem zM (n:Nat):(ug n).length=n:=by simp [ug]
theorem inputs_ {n:Nat} (hn:n≤1000):gY (0,[],[],[]) (n:Int)=some ((n:Int),[],ug n,[]):=by
 have hm:bB=1099511627776:=rfl
 have h0:((0:Int),([]:List Int),(n:Int))=((((0:Nat):Int)),ug 0,((n:Int)-((0:Nat):Int))):=by
  show _=((0:Int),([]:List Int),(n:Int)-0)
  rw [Int.sub_zero]
 show qB _ ((0:Int),([]:List Int),(n:Int))=_
 rw [h0]
 refine fL (fun j=>((j:Int),ug j,(n:Int)-(j:Int))) n (fun j hj=>?_) ?_
 ·
  refine stp (cTW (dT (by dsimp only;omega)) (bnd (rL (by omega)) (bnd (jB (by rw [zM];simp;omega)) (bnd (yC (by dsimp only;omega) (by dsimp only;omega)) ?_))))
  unfold ug
  dsimp only
  rw [List.range_succ,List.map_append,show (n:Int)-(j:Int)-1=(n:Int)-((j+1:Nat):Int) by omega]
  rfl
 · exact stp (cFW (dF (by dsimp only;omega)) rfl)
theorem wires0_ {n:Nat} (hn:n≤1000):oP (0,[],[],[]) (n:Int)=some (((n:Int),[],[],[]),ug n):=by
 have:=EF_ (n:=0) (E:=[]) (I:=[]) (O:=[]) n (by omega)
 simp only [Nat.zero_add] at this
 exact this
end Go.Proofs.YtodfjigndedehaaGreatDoor
namespace Go.Proofs.YtodfjigndedehaaGreatDoor
set_option linter.unusedVariables false
def LLsR (P:List (Int×Int)):List (List Int)→List (List Int)→Prop
 | [],[]=>True
 | x::l,y::l'=>LsR P x y∧LLsR P l l'
 | _,_=>False
theorem LLsR.mono {P Q:List (Int×Int)} (h:∀ p∈P,p∈Q):∀ {l l':List (List Int)},LLsR P l l'→LLsR Q l l'
 | [],[],_=>trivial
 | x::l,y::l',hl=>⟨hl.1.mono h,LLsR.mono h hl.2⟩
 | [],_::_,hl=>hl.elim
 | _::_,[],hl=>hl.elim
theorem LLsR.len {P:List (Int×Int)}:∀ {l l':List (List Int)},LLsR P l l'→l.length=l'.length
 | [],[],_=>rfl
 | x::l,y::l',hl=>congrArg (· + 1) hl.2.len
 | [],_::_,hl=>hl.elim
 | _::_,[],hl=>hl.elim
theorem LLsR.get {P:List (Int×Int)}:∀ {l l':List (List Int)}{i:Nat},LLsR P l l'→i<l.length→∃ x y,l[i]?=some x∧l'[i]?=some y∧LsR P x y
 | [],[],_,_,h=>by simp at h
 | x::l,y::l',0,hl,_=>⟨x,y,rfl,rfl,hl.1⟩
 | x::l,y::l',i+1,hl,h=>by
  obtain ⟨x,y,h1,h2,h3⟩:=hl.2.get (i:=i) (by simpa using h)
  exact ⟨x,y,by simpa using h1,by simpa using h2,h3⟩
 | [],_::_,_,hl,_=>hl.elim
 | _::_,[],_,hl,_=>hl.elim
theorem LLsR.set {P:List (Int×Int)}{a b:List Int} (hab:LsR P a b):∀ {l l':List (List Int)} (i:Nat),LLsR P l l'→LLsR P (l.set i a) (l'.set i b)
 | [],[],i,_=>by simp [LLsR]
 | x::l,y::l',0,hl=>⟨hab,hl.2⟩
 | x::l,y::l',i+1,hl=>⟨hl.1,LLsR.set hab i hl.2⟩
 | [],_::_,_,hl=>hl.elim
 | _::_,[],_,hl=>hl.elim
theorem LLsR.rep (P:List (Int×Int)):∀ n,LLsR P (List.replicate n []) (List.replicate n [])
 | 0=>trivial
 | n+1=>⟨trivial,LLsR.rep P n⟩
theorem Ej_:∀ {A:List (List Int)}{j:Nat}{l:List Int} (w x:Int),A[j]?=some l→(A.set j (l++[w])).flatten.count x=A.flatten.count x+(if x=w then 1 else 0)
 | [],j,l,w,x,h=>by simp at h
 | a::A,0,l,w,x,h=>by
  obtain rfl:=Option.some.inj h
  simp only [List.set_cons_zero,List.flatten_cons,List.count_append,cnt1];omega
 | a::A,j+1,l,w,x,h=>by
  have ih:=Ej_ (A:=A) (j:=j) w x (by simpa using h)
  simp only [List.set_cons_succ,List.flatten_cons,List.count_append,ih];omega
theorem fO {σ τ:Type}{f:Nat→σ→Option σ}{g:Nat→τ→Option τ} (I:Nat→σ→τ→Prop):∀ (n k:Nat) (s:σ) (t:τ),I k s t→(∀ j s t,k≤j→j<k+n→I j s t→∃ s' t',f j s=some s'∧g j t=some t'∧I (j+1) s' t') →
  ∃ r q,forS f n k s=some r∧forS g n k t=some q∧I (k+n) r q
 | 0,k,s,t,h0,_=>⟨s,t,rfl,rfl,h0⟩
 | n+1,k,s,t,h0,h=>by
  obtain ⟨s',t',h1,h2,h3⟩:=h k s t (Nat.le_refl _) (by omega) h0
  obtain ⟨r,q,h4,h5,h6⟩:=fO I n (k+1) s' t' h3 (fun j s t hj hl hi=>h j s t (by omega) (by omega) hi)
  refine ⟨r,q,?_,?_,by rwa [show k+1+n=k+(n+1) by omega] at h6⟩
  ·
   show (f k s).bind _=_
   rw [h1];exact h4
  ·
   show (g k t).bind _=_
   rw [h2];exact h5
def plN (row:List Int):Nat→List Int
 | 0=>[]
 | j+1=>match row[j]? with
  | some a=>if a=0 then plN row j else plN row j++[(j:Int)]
  | none=>plN row j
theorem gV {row:List Int}{j:Nat} (hj:j<row.length):plN row (j+1)=if row[j]=0 then plN row j else plN row j++[(j:Int)]:=by
 show (match row[j]? with
  | some a=>if a=0 then plN row j else plN row j++[(j:Int)]
  | none=>plN row j)=_
 rw [List.getElem?_eq_getElem hj]
theorem Bg_ (row:List Int):∀ j,j≤row.length→(plN row j).length≤j
 | 0,_=>Nat.le_refl _
 | j+1,hj=>by
  have:=Bg_ row j (by omega)
  rw [gV (by omega)]
  split
  · omega
  · simp;omega
theorem Bf_ (row:List Int):∀ j,j≤row.length→∀ x∈plN row j,∃ k:Nat,x=(k:Int)∧∃ h:k<row.length,row[k]≠0
 | 0,_,x,hx=>by cases hx
 | j+1,hj,x,hx=>by
  rw [gV (by omega)] at hx
  split at hx
  · exact Bf_ row j (by omega) x hx
  ·
   rcases List.mem_append.1 hx with hx | hx
   · exact Bf_ row j (by omega) x hx
   ·
    simp at hx
    exact ⟨j,hx,by omega,‹_›⟩
theorem EY_ (row:List Int):∀ j,j≤row.length→plN row j=[]→∀ k,∀ h:k<row.length,k<j→row[k]=0
 | 0,_,_,k,_,hk=>by omega
 | j+1,hj,he,k,h,hk=>by
  rw [gV (by omega)] at he
  split at he
  ·
   by_cases hkj:k=j
   · subst hkj;assumption
   · exact EY_ row j (by omega) he k h (by omega)
  · simp at he
theorem plS_ {row:List Int} (hl:row.length≤1000){f:Nat→List Int→Option (List Int)} (hf:∀ k s,f k s=((idxO row ((k:Nat):Int)).bind fun a=>(some (!decide (a=0))).bind fun b=>cond b ((oA s [((k:Nat):Int)]).bind fun c=>some c) (some s))) :
  forS f row.length 0 []=some (plN row row.length):=by
 have hm:bB=1099511627776:=rfl
 refine vC (f:=f) (n:=row.length) (fun j=>plN row j) (fun j hj=>?_)
 rw [hf]
 have:=Bg_ row j (by omega)
 rw [gV hj]
 refine bnd (kA (List.getElem?_eq_getElem hj)) (stp ?_)
 by_cases h0:row[j]=0
 ·
  rw [if_pos h0]
  exact cFW (nT (dT h0)) rfl
 ·
  rw [if_neg h0]
  exact cTW (nF (dF h0)) (bnd (jB (by simp;omega)) rfl)
structure Mx (cols:Nat) (P:List (Int×Int)) (U V D:List Int) (n:Nat) (I:List Int) (E:List Edg) (n':Nat) (E':List Edg) (B:Nat) (A A':List (List Int)):Prop where
 d:Dw P U V (A.flatten++D) n I E n' E' B
 r:LLsR P A A'
 l:A.length=cols
theorem Mx.put {cols:Nat}{P:List (Int×Int)}{U V D:List Int}{n n' B:Nat}{I:List Int}{E E':List Edg}{A A':List (List Int)}{j:Nat}{x y:Int}{a b:List Int}
  (d:Dw P U V (x::(A.flatten++D)) n I E n' E' B) (r:LLsR P A A') (l:A.length=cols) (ha:A[j]?=some a) (hb:A'[j]?=some b) (hab:LsR P a b) (hxy:(x,y)∈P):Mx cols P U V D n I E n' E' B (A.set j (a++[x])) (A'.set j (b++[y])):=by
 refine ⟨d.perm fun z=>?_,r.set (hab.app (m:=[x]) (m':=[y]) ⟨hxy,trivial⟩) j,by rw [List.length_set];exact l⟩
 rw [cntC,List.count_append,List.count_append,Ej_ x z ha];omega
theorem Em_:∀ {A:List (List Int)}{j:Nat}{a:List Int},A[j]?=some a→a.length≤A.flatten.length
 | [],_,_,h=>by simp at h
 | b::A,0,a,h=>by
  obtain rfl:=Option.some.inj h
  rw [List.flatten_cons,List.length_append];omega
 | b::A,j+1,a,h=>by
  have:=Em_ (A:=A) (j:=j) (by simpa using h)
  rw [List.flatten_cons,List.length_append];omega
theorem fan0S {fuel:Nat}{n:Int}{E:List Edg}{I O:List Int} (w:Int) (hE:E.length≤1000000):kN (fuel+1) (n,E,I,O) w 0=some ((n,E++[(4,0,[w],[])],I,O),[]):=stp (cTW rfl (bnd (uL hE _ _ _ _) rfl))
theorem fan0I {fuel:Nat}{n:Int}{E:List Edg}{I O:List Int} (w:Int) (hE:E.length≤1000000):fN (fuel+1) (n,E,I,O) w 0=some ((n,E++[(4,0,[w],[])],I,O),[]):=stp (cTW rfl (bnd (vL hE _ _ _ _) rfl))
theorem row_sim (I2 O2 I3 O3:List Int){cols:Nat}{row:List Int} (hrow:row.length=cols) (hcols:cols≤24){P:List (Int×Int)}{U V D:List Int}{n n' B:Nat}{I:List Int}{E E':List Edg}{A A':List (List Int)}{w w':Int}
  (h:Mx cols P U V (w::D) n I E n' E' B A A') (hw:(w,w')∈P) (hz:plN row row.length=[]→w∈I) (hB:B≤100000) :
  ∃ P' n1 E1 n1' E1' A1 A1',
   ((sP ((n:Int),E,I2,O2) w (((plN row row.length).length:Nat):Int)).bind fun y1105=>
    (forS (fun (k1112:Nat) (s1358:Int×(List (Int×Int×List Int×List Int))×List (List Int))=>
     (idxO y1105.2 ((k1112:Nat):Int)).bind fun a1374=>
     (idxO (plN row row.length) ((k1112:Nat):Int)).bind fun a1382=>
     ((idxO row a1382).bind fun a1431=>
      (some (!decide (a1431=1))).bind fun a1433=>
      cond a1433
      ((vF (s1358.1,s1358.2.1,I2,O2)).bind fun y1437=>
       (idxO row a1382).bind fun a1446=>
       (jF (y1437.1.1,s1358.2.1,I2,O2) 7 a1446 [a1374] [y1437.2]).bind fun y1454=>
       some (y1454.1,y1454.2.1,y1437.2))
      (some (s1358.1,s1358.2.1,a1374))).bind fun (s1418:Int×(List (Int×Int×List Int×List Int))×Int)=>
     (idxO s1358.2.2 a1382).bind fun a1467=>
     (oA a1467 [s1418.2.2]).bind fun a1474=>
     (setO s1358.2.2 a1382 a1474).bind fun a1486=>
     some (s1418.1,s1418.2.1,a1486)) y1105.2.length 0 (y1105.1.1,y1105.1.2.1,A)))=some (((n1:Nat):Int),E1,A1) ∧
   ((nP ((n':Int),E',I3,O3) w' (((plN row row.length).length:Nat):Int)).bind fun y1012=>
    (forS (fun (k1019:Nat) (s1233:Int×(List (Int×Int×List Int×List Int))×List (List Int))=>
     (idxO y1012.2 ((k1019:Nat):Int)).bind fun a1249=>
     (idxO (plN row row.length) ((k1019:Nat):Int)).bind fun a1257=>
     ((idxO row a1257).bind fun a1298=>
      (some (!decide (a1298=1))).bind fun a1300=>
      cond a1300
      ((iH (s1233.1,s1233.2.1,I3,O3)).bind fun y1304=>
       (iF (y1304.1.1,s1233.2.1,I3,O3) 7 a1298 [a1249] [y1304.2]).bind fun y1313=>
       some (y1313.1,y1313.2.1,y1304.2))
      (some (s1233.1,s1233.2.1,a1249))).bind fun (s1285:Int×(List (Int×Int×List Int×List Int))×Int)=>
     (idxO s1233.2.2 a1257).bind fun a1326=>
     (oA a1326 [s1285.2.2]).bind fun a1333=>
     (setO s1233.2.2 a1257 a1333).bind fun a1345=>
     some (s1285.1,s1285.2.1,a1345)) y1012.2.length 0 (y1012.1.1,y1012.1.2.1,A')))=some (((n1':Nat):Int),E1',A1') ∧
   (∀ p∈P,p∈P')∧Mx cols P' U V D n1 I E1 n1' E1' (B+80) A1 A1':=by
 have hm:bB=1099511627776:=rfl
 have hk:=Bg_ row row.length (Nat.le_refl _)
 have hpm:=Bf_ row row.length (Nat.le_refl _)
 generalize plN row row.length=cl at hk hpm hz
 have d0:=h.d
 have b1:=d0.b1;have b2:=d0.b2;have b3:=d0.b3
 have hle:=d0.ed.len
 by_cases h0:cl=[]
 ·
  subst h0
  have d1:=(d0.perm (D1:=w::(A.flatten++D)) (fun x=>by simp only [List.count_append,cntC];omega)).edge0 4 0 hw (fun S h1 _=>h1 w (hz rfl))
  refine ⟨P,n,_,n',_,A,A',?_,?_,fun p hp=>hp,d1.up (by omega),h.r,h.l⟩
  · exact bnd (fan0S (fuel:=999999) w (by omega)) rfl
  · exact bnd (fan0I (fuel:=999999) w' (by omega)) rfl
 have hpos:1≤cl.length:=List.length_pos_iff.2 h0
 obtain ⟨P1,n1,E1,n1',E1',r,r',k1,k2,k3,k4,k5,k6⟩:=Fg_ I2 O2 I3 O3 cl.length 1000000 hpos (by omega) (d0.perm (D1:=w::(A.flatten++D)) (fun x=>by simp only [List.count_append,cntC];omega)) hw (by omega)
 obtain ⟨s,t,h1,h2,P2,n2,E2,n2',E2',A2,A2',rfl,rfl,h3,h4⟩:=fO (f:=fun (k1112:Nat) (s1358:Int×(List (Int×Int×List Int×List Int))×List (List Int))=>
     (idxO r ((k1112:Nat):Int)).bind fun a1374=>
     (idxO cl ((k1112:Nat):Int)).bind fun a1382=>
     ((idxO row a1382).bind fun a1431=>
      (some (!decide (a1431=1))).bind fun a1433=>
      cond a1433
      ((vF (s1358.1,s1358.2.1,I2,O2)).bind fun y1437=>
       (idxO row a1382).bind fun a1446=>
       (jF (y1437.1.1,s1358.2.1,I2,O2) 7 a1446 [a1374] [y1437.2]).bind fun y1454=>
       some (y1454.1,y1454.2.1,y1437.2))
      (some (s1358.1,s1358.2.1,a1374))).bind fun (s1418:Int×(List (Int×Int×List Int×List Int))×Int)=>
     (idxO s1358.2.2 a1382).bind fun a1467=>
     (oA a1467 [s1418.2.2]).bind fun a1474=>
     (setO s1358.2.2 a1382 a1474).bind fun a1486=>
     some (s1418.1,s1418.2.1,a1486))
  (g:=fun (k1019:Nat) (s1233:Int×(List (Int×Int×List Int×List Int))×List (List Int))=>
     (idxO r' ((k1019:Nat):Int)).bind fun a1249=>
     (idxO cl ((k1019:Nat):Int)).bind fun a1257=>
     ((idxO row a1257).bind fun a1298=>
      (some (!decide (a1298=1))).bind fun a1300=>
      cond a1300
      ((iH (s1233.1,s1233.2.1,I3,O3)).bind fun y1304=>
       (iF (y1304.1.1,s1233.2.1,I3,O3) 7 a1298 [a1249] [y1304.2]).bind fun y1313=>
       some (y1313.1,y1313.2.1,y1304.2))
      (some (s1233.1,s1233.2.1,a1249))).bind fun (s1285:Int×(List (Int×Int×List Int×List Int))×Int)=>
     (idxO s1233.2.2 a1257).bind fun a1326=>
     (oA a1326 [s1285.2.2]).bind fun a1333=>
     (setO s1233.2.2 a1257 a1333).bind fun a1345=>
     some (s1285.1,s1285.2.1,a1345))
  (fun j s t=>∃ P2 n2 E2 n2' E2' A2 A2',s=(((n2:Nat):Int),E2,A2)∧t=(((n2':Nat):Int),E2',A2')∧(∀ p∈P1,p∈P2)∧Mx cols P2 U V (r.drop j++D) n2 I E2 n2' E2' (B+2*cl.length+j) A2 A2') cl.length 0 (((n1:Nat):Int),E1,A) (((n1':Nat):Int),E1',A')
  ⟨P1,n1,E1,n1',E1',A,A',rfl,rfl,fun p hp=>hp,k6.perm (fun x=>by simp only [List.drop_zero,List.count_append];omega),h.r.mono k3,h.l⟩ (by
   rintro j s t _ hj ⟨P2,n2,E2,n2',E2',A2,A2',rfl,rfl,hP,hd,hr,hl⟩
   rw [Nat.zero_add] at hj
   obtain ⟨x,y,hx,hy,hxy⟩:=(k4.mono hP).get (i:=j) (by omega)
   have hxr:r.drop j=x::r.drop (j+1):=by
    obtain ⟨q1,q2⟩:=List.getElem?_eq_some_iff.1 hx
    rw [List.drop_eq_getElem_cons q1,q2]
   obtain ⟨c,hc,hcl,hcn⟩:=hpm _ (List.getElem_mem hj)
   obtain ⟨a,b,ha,hb,hab⟩:=hr.get (i:=c) (by omega)
   have e1:=hd.b1;have e2:=hd.b2;have e3:=hd.b3;have el:=hd.ed.len
   have hda:=hd.len
   have hfl:=Em_ ha
   rw [List.length_append] at hda
   have hal:=hab.len
   have hci:idxO cl (j:Int)=some (c:Int):=by rw [←hc];exact kA (List.getElem?_eq_getElem hj)
   have hrc:idxO row (c:Int)=some row[c]:=kA (List.getElem?_eq_getElem hcl)
   have hd2:=hd.perm (D1:=x::(A2.flatten++(r.drop (j+1)++D))) (fun z=>by rw [hxr];simp only [List.count_append,List.cons_append,cntC];omega)
   have hcA:c<A2.length:=by omega
   have hcA':c<A2'.length:=by rw [←hr.len];omega
   by_cases h1:row[c]=1
   ·
    have hmx:=Mx.put hd2 hr hl ha hb hab hxy
    refine ⟨_,_,?_,?_,P2,n2,E2,n2',E2',_,_,rfl,rfl,hP,hmx.1.up (by omega),hmx.2,hmx.3⟩
    · exact bnd (kA hx) (bnd hci (bnd (bnd hrc (stp (cFW (nT (dT h1)) rfl))) (bnd (kA ha) (bnd (jB (by simp;omega)) (bnd (lC _ hcA) rfl)))))
    · exact bnd (kA hy) (bnd hci (bnd (bnd hrc (stp (cFW (nT (dT h1)) rfl))) (bnd (kA hb) (bnd (jB (by simp;omega)) (bnd (lC _ hcA') rfl)))))
   ·
    have hd3:=Dw.edge1 (ins:=[x]) (ins':=[y]) 7 row[c] hd2.wireI ⟨hxy,trivial⟩
    have hsub:∀ p∈P2,p∈P2++[((n2:Int),(n2':Int))]:=fun p hp=>List.mem_append_left _ hp
    have hmx:=Mx.put (y:=(n2':Int)) (hd3.setB (B1:=B+2*cl.length+(j+1)) (by omega) (by omega) (by simp;omega)) (hr.mono hsub) hl ha hb (hab.mono hsub) (by simp)
    refine ⟨_,_,?_,?_,_,n2+1,_,n2'+1,_,_,_,rfl,rfl,fun p hp=>hsub p (hP p hp),hmx⟩
    · exact bnd (kA hx) (bnd hci (bnd (bnd hrc (stp (cTW (nF (dF h1)) (bnd (rL (by omega)) (bnd hrc (bnd (uL (by dsimp only;omega) _ _ _ _) rfl)))))) (bnd (kA ha) (bnd (jB (by simp;omega)) (bnd (lC _ hcA) rfl)))))
    · exact bnd (kA hy) (bnd hci (bnd (bnd hrc (stp (cTW (nF (dF h1)) (bnd (tO (by omega)) (bnd (vL (by dsimp only;omega) _ _ _ _) rfl))))) (bnd (kA hb) (bnd (jB (by simp;omega)) (bnd (lC _ hcA') rfl))))))
 refine ⟨P2,n2,E2,n2',E2',A2,A2',bnd k1 ?_,bnd k2 ?_,fun p hp=>h3 p (k3 p hp),(h4.d.perm fun x=>?_).up (by omega),h4.r,h4.l⟩
 ·
  dsimp only
  rw [k5];exact h1
 ·
  dsimp only
  rw [←k4.len,k5];exact h2
 · rw [Nat.zero_add,← k5,List.drop_length,List.nil_append]
theorem Ih_ (I2 O2 I3 O3:List Int){cols:Nat}{rows:List (List Int)} (hrows:∀ row∈rows,row.length=cols) (hcols:cols≤24) (hr24:rows.length≤24){P:List (Int×Int)}{U V D:List Int}{n n' B:Nat}{I:List Int}{E E':List Edg}{ins ins':List Int}
  (h:Dw P U V (ins++D) n I E n' E' B) (hi:LsR P ins ins') (hl:ins.length=rows.length) (hz:∀ (i:Nat) (row:List Int) (w:Int),rows[i]?=some row→ins[i]?=some w→plN row row.length=[]→w∈I) (hB:B≤1000) :
  ∃ P' n1 E1 n1' E1' out out',fY ((n:Int),E,I2,O2) ins rows (cols:Int)=some ((((n1:Nat):Int),E1,I2,O2),out)∧cY ((n':Int),E',I3,O3) ins' rows (cols:Int)=some ((((n1':Nat):Int),E1',I3,O3),out') ∧
   (∀ p∈P,p∈P')∧LsR P' out out'∧out.length=cols∧Dw P' U V (out++D) n1 I E1 n1' E1' 20000:=by
 have hm:bB=1099511627776:=rfl
 obtain ⟨s,t,h1,h2,P1,n1,E1,n1',E1',A1,A1',rfl,rfl,h3,h4⟩:=fO (f:=fun (k10:Nat) (s994:Int×(List (Int×Int×List Int×List Int))×List (List Int))=>
   (idxO rows ((k10:Nat):Int)).bind fun a1010=>
   (forS (fun (k1014:Nat) (s1061:List Int)=>
     (idxO a1010 ((k1014:Nat):Int)).bind fun a1078=>
     (some (!decide (a1078=0))).bind fun a1080=>
     cond a1080
     ((oA s1061 [((k1014:Nat):Int)]).bind fun a1087=>
      some a1087)
     (some s1061)) a1010.length 0 []).bind fun (s1094:List Int)=>
   (idxO ins ((k10:Nat):Int)).bind fun a1103=>
   (sP (s994.1,s994.2.1,I2,O2) a1103 ((s1094.length:Nat):Int)).bind fun y1105=>
   (forS (fun (k1112:Nat) (s1358:Int×(List (Int×Int×List Int×List Int))×List (List Int))=>
     (idxO y1105.2 ((k1112:Nat):Int)).bind fun a1374=>
     (idxO s1094 ((k1112:Nat):Int)).bind fun a1382=>
     ((idxO a1010 a1382).bind fun a1431=>
      (some (!decide (a1431=1))).bind fun a1433=>
      cond a1433
      ((vF (s1358.1,s1358.2.1,I2,O2)).bind fun y1437=>
       (idxO a1010 a1382).bind fun a1446=>
       (jF (y1437.1.1,s1358.2.1,I2,O2) 7 a1446 [a1374] [y1437.2]).bind fun y1454=>
       some (y1454.1,y1454.2.1,y1437.2))
      (some (s1358.1,s1358.2.1,a1374))).bind fun (s1418:Int×(List (Int×Int×List Int×List Int))×Int)=>
     (idxO s1358.2.2 a1382).bind fun a1467=>
     (oA a1467 [s1418.2.2]).bind fun a1474=>
     (setO s1358.2.2 a1382 a1474).bind fun a1486=>
     some (s1418.1,s1418.2.1,a1486)) y1105.2.length 0 (y1105.1.1,y1105.1.2.1,s994.2.2)).bind fun (s1490:Int×(List (Int×Int×List Int×List Int))×List (List Int))=>
   some (s1490.1,s1490.2.1,s1490.2.2))
  (g:=fun (k10:Nat) (s900:Int×(List (Int×Int×List Int×List Int))×List (List Int))=>
   (idxO rows ((k10:Nat):Int)).bind fun a916=>
   (forS (fun (k923:Nat) (s969:List Int)=>
     (idxO a916 ((k923:Nat):Int)).bind fun a985=>
     (some (!decide (a985=0))).bind fun a987=>
     cond a987
     ((oA s969 [((k923:Nat):Int)]).bind fun a994=>
      some a994)
     (some s969)) a916.length 0 ([]:List Int)).bind fun (s1001:List Int)=>
   (idxO ins' ((k10:Nat):Int)).bind fun a1010=>
   (nP (s900.1,s900.2.1,I3,O3) a1010 ((s1001.length:Nat):Int)).bind fun y1012=>
   (forS (fun (k1019:Nat) (s1233:Int×(List (Int×Int×List Int×List Int))×List (List Int))=>
     (idxO y1012.2 ((k1019:Nat):Int)).bind fun a1249=>
     (idxO s1001 ((k1019:Nat):Int)).bind fun a1257=>
     ((idxO a916 a1257).bind fun a1298=>
      (some (!decide (a1298=1))).bind fun a1300=>
      cond a1300
      ((iH (s1233.1,s1233.2.1,I3,O3)).bind fun y1304=>
       (iF (y1304.1.1,s1233.2.1,I3,O3) 7 a1298 [a1249] [y1304.2]).bind fun y1313=>
       some (y1313.1,y1313.2.1,y1304.2))
      (some (s1233.1,s1233.2.1,a1249))).bind fun (s1285:Int×(List (Int×Int×List Int×List Int))×Int)=>
     (idxO s1233.2.2 a1257).bind fun a1326=>
     (oA a1326 [s1285.2.2]).bind fun a1333=>
     (setO s1233.2.2 a1257 a1333).bind fun a1345=>
     some (s1285.1,s1285.2.1,a1345)) y1012.2.length 0 (y1012.1.1,y1012.1.2.1,s900.2.2)).bind fun (s1349:Int×(List (Int×Int×List Int×List Int))×List (List Int))=>
   some (s1349.1,s1349.2.1,s1349.2.2))
  (fun i s t=>∃ P1 n1 E1 n1' E1' A1 A1',s=(((n1:Nat):Int),E1,A1)∧t=(((n1':Nat):Int),E1',A1')∧(∀ p∈P,p∈P1)∧Mx cols P1 U V (ins.drop i++D) n1 I E1 n1' E1' (B+80*i) A1 A1') rows.length 0 ((n:Int),E,List.replicate cols []) ((n':Int),E',List.replicate cols [])
  ⟨P,n,E,n',E',_,_,rfl,rfl,fun p hp=>hp,h.perm (fun x=>by simp [List.count_append]),LLsR.rep P cols,by simp⟩ (by
   rintro i s t _ hj ⟨P1,n1,E1,n1',E1',A1,A1',rfl,rfl,hP,hx⟩
   rw [Nat.zero_add] at hj
   obtain ⟨w,w',hw,hw',hww⟩:=(hi.mono hP).get (i:=i) (by omega)
   have hwr:ins.drop i=w::ins.drop (i+1):=by
    obtain ⟨q1,q2⟩:=List.getElem?_eq_some_iff.1 hw
    rw [List.drop_eq_getElem_cons q1,q2]
   have hrow:=hrows _ (List.getElem_mem hj)
   rw [hwr] at hx
   obtain ⟨P2,n2,E2,n2',E2',A2,A2',k1,k2,k3,k4⟩:=row_sim I2 O2 I3 O3 hrow hcols hx hww (hz i _ w (List.getElem?_eq_getElem hj) hw) (by omega)
   refine ⟨_,_,bnd (kA (List.getElem?_eq_getElem hj)) (bnd (plS_ (by omega) (fun _ _=>rfl)) (bnd (kA hw) ?_)),bnd (kA (List.getElem?_eq_getElem hj)) (bnd (plS_ (by omega) (fun _ _=>rfl)) (bnd (kA hw') ?_)),P2,n2,E2,n2',E2',A2,A2',rfl,rfl,fun p hp=>k3 p (hP p hp),k4.d.up (by omega),k4.r,k4.l⟩
   ·
    revert k1
    generalize (sP _ _ _)=m
    intro k1
    cases m with
    | none=>cases k1
    | some y=>exact stp (bnd k1 rfl)
   ·
    revert k2
    generalize (nP _ _ _)=m
    intro k2
    cases m with
    | none=>cases k2
    | some y=>exact stp (bnd k2 rfl))
 rw [Nat.zero_add] at h4
 have d4:Dw P1 U V (A1.flatten++D) n1 I E1 n1' E1' (B+80*rows.length):=h4.d.perm fun x=>by rw [←hl,List.drop_length,List.nil_append]
 have hn1:=d4.b1
 have hfl:A1.flatten.length≤3000:=by
  have:=d4.len
  rw [List.length_append] at this
  omega
 have hAl:=h4.l
 have hAr:=h4.r
 have hdl:∀ (A:List (List Int)) (j:Nat) (a:List Int),A[j]?=some a→(A.drop j).flatten.length=a.length+(A.drop (j+1)).flatten.length:=fun A j a ha=>by
  obtain ⟨q1,q2⟩:=List.getElem?_eq_some_iff.1 ha
  rw [List.drop_eq_getElem_cons q1,q2];simp
 obtain ⟨s,t,c1,c2,P2,n2,E2,n2',E2',out,out',rfl,rfl,c3,c4,c5,c6⟩:=fO (f:=fun (k1498:Nat) (s1578:Int×(List (Int×Int×List Int×List Int))×List Int)=>
   (idxO A1 ((k1498:Nat):Int)).bind fun a1596=>
   (yY (s1578.1,s1578.2.1,I2,O2) a1596).bind fun y1600=>
   (oA s1578.2.2 [y1600.2]).bind fun a1608=>
   some (y1600.1.1,y1600.1.2.1,a1608))
  (g:=fun (k1360:Nat) (s1438:Int×(List (Int×Int×List Int×List Int))×List Int)=>
   (idxO A1' ((k1360:Nat):Int)).bind fun a1455=>
   (rY (s1438.1,s1438.2.1,I3,O3) a1455).bind fun y1459=>
   (oA s1438.2.2 [y1459.2]).bind fun a1467=>
   some (y1459.1.1,y1459.1.2.1,a1467))
  (fun j s t=>∃ P2 n2 E2 n2' E2' out out',s=(((n2:Nat):Int),E2,out)∧t=(((n2':Nat):Int),E2',out')∧(∀ p∈P1,p∈P2)∧LsR P2 out out'∧out.length=j∧Dw P2 U V (out++((A1.drop j).flatten++D)) n2 I E2 n2' E2' (10000-2*(A1.drop j).flatten.length+2*j)) cols 0 (((n1:Nat):Int),E1,[]) (((n1':Nat):Int),E1',[])
  ⟨P1,n1,E1,n1',E1',[],[],rfl,rfl,fun p hp=>hp,trivial,rfl,d4.up (by rw [List.drop_zero];omega)⟩ (by
   rintro j s t _ hj ⟨P2,n2,E2,n2',E2',out,out',rfl,rfl,hP,ho,hol,hd⟩
   rw [Nat.zero_add] at hj
   obtain ⟨a,b,ha,hb,hab⟩:=(hAr.mono hP).get (i:=j) (by omega)
   have hd1:=hdl A1 j a ha
   have hdr:A1.drop j=a::A1.drop (j+1):=by
    obtain ⟨q1,q2⟩:=List.getElem?_eq_some_iff.1 ha
    rw [List.drop_eq_getElem_cons q1,q2]
   have hdf:(A1.drop j).flatten.length≤3000:=by
    have:(A1.take j).flatten.length+(A1.drop j).flatten.length=A1.flatten.length:=by
     rw [←List.length_append,← List.flatten_append,List.take_append_drop]
    omega
   have hd2:=hd.perm (D1:=a++(out++((A1.drop (j+1)).flatten++D))) (fun x=>by
    rw [hdr,List.flatten_cons]
    simp only [List.count_append];omega)
   obtain ⟨P3,n3,E3,n3',E3',x,y,k1,k2,k3,k4,k5⟩:=EO_ I2 O2 I3 O3 a.length 1000000 (by omega) rfl hd2 hab (by omega)
   refine ⟨_,_,bnd (kA ha) (bnd k1 (bnd (jB (by simp;omega)) rfl)),bnd (kA hb) (bnd k2 (bnd (jB (by rw [←ho.len];simp;omega)) rfl)),P3,n3,E3,n3',E3',out++[x],out'++[y],rfl,rfl,fun p hp=>k3 p (hP p hp),(ho.mono k3).app (m:=[x]) (m':=[y]) ⟨k4,trivial⟩,by simp [hol],(k5.perm fun z=>?_).up (by omega)⟩
   rw [cntC]
   simp only [List.count_append,cnt1];omega)
 rw [Nat.zero_add] at c5 c6
 refine ⟨P2,n2,E2,n2',E2',out,out',?_,?_,fun p hp=>c3 p (h3 p hp),c4,c5,(c6.perm fun x=>?_).up (by omega)⟩
 ·
  refine bnd (sG _ (by omega)) (bnd h1 ?_)
  dsimp only
  rw [hAl]
  exact bnd c1 rfl
 ·
  refine bnd (sG _ (by omega)) (bnd h2 ?_)
  dsimp only
  rw [←hAr.len,hAl]
  exact bnd c2 rfl
 · rw [←hAl,List.drop_length,List.flatten_nil,List.nil_append]
end Go.Proofs.YtodfjigndedehaaGreatDoor
namespace Go.Proofs.YtodfjigndedehaaGreatDoor
def powBody (p:Int) (s:Int×Int×Int):Option ((Int×Int×Int)⊕Int):=
   (some (decide ((0:Int)<s.2.1))).bind fun a226=>
   cond a226
   (((nD s.2.1 2).bind fun a247=>
     (some (decide (a247=1))).bind fun a249=>
     cond a249
     ((sF s.2.2 s.1).bind fun a253=>
      (nD a253 p).bind fun a255=>
      some a255)
     (some s.2.2)).bind fun (s241:Int)=>
    (sF s.1 s.1).bind fun a259=>
    (nD a259 p).bind fun a261=>
    (bM s.2.1 2).bind fun a263=>
    some (.inl (a261,a263,s241)))
   (some (.inr s.2.2))
def invN (p x:Nat):Option Int:=uG (powBody p) 9 ((x:Int),(p:Int)-2+(if p=2 then 1 else 0),(1:Int).tmod p)
def oX (p x:Nat):Bool:=match invN p x with
 | some v=>decide (((x:Int)*v) % p=1)&&decide (0≤v)&&decide (v<p)
 | none=>false
theorem inv_all:((List.range 98).all fun p=>!fdB p||(List.range p).all fun x=>decide (x=0)||oX p x)=true:=by decide +kernel
def iE (p x:Int):Int:=(invN p.toNat x.toNat).getD 0
theorem dR {p x:Int} (hf:fdB p=true) (hx:0<x∧x<p):wZ p x=some (iE p x)∧(x*iE p x) % p=1∧0≤iE p x∧iE p x<p:=by
 have hp:=gC hf
 obtain ⟨k,rfl⟩:∃ k:Nat,p=(k:Int):=⟨p.toNat,by omega⟩
 obtain ⟨y,rfl⟩:∃ y:Nat,x=(y:Int):=⟨x.toNat,by omega⟩
 have h1:=List.all_eq_true.1 inv_all k (List.mem_range.2 (by omega))
 rw [hf] at h1
 have h2:∀ x:Nat,x<k→x=0∨oX k x=true:=by simpa using h1
 have h3:oX k y=true:=by
  rcases h2 y (by omega) with h2 | h2
  · omega
  · exact h2
 unfold oX at h3
 unfold iE
 rw [Int.toNat_natCast,Int.toNat_natCast]
 cases hv:invN k y with
 | none=>rw [hv] at h3;cases h3
 | some v=>
  rw [hv] at h3
  simp only [Bool.and_eq_true,decide_eq_true_eq] at h3
  refine ⟨?_,h3.1.1,h3.1.2,h3.2⟩
  refine bnd (yC (by omega) (by omega)) (stp (bnd (a:=(if k=2 then 1 else 0:Int)) ?_ (bnd (gB (by split <;> omega) (by split <;> omega)) (bnd (a:=v) ?_ rfl))))
  ·
   by_cases h:k=2
   · subst h;rfl
   · rw [dF (by omega),if_neg h];rfl
  ·
   refine bnd (aH (by omega)) (bnd ?_ rfl)
   exact whileO_iff.2 ⟨9,hv⟩
theorem Im_ {p x s t:Int} (h1:(x*s) % p=1) (h2:(x*t) % p=1) (hs:0≤s∧s<p) (ht:0≤t∧t<p):s=t:=by
 have e1:s % p=(s*((x*t) % p)) % p:=by rw [h2,Int.mul_one]
 have e2:t % p=(t*((x*s) % p)) % p:=by rw [h1,Int.mul_one]
 rw [Int.mul_emod,Int.emod_emod_of_dvd _ (Int.dvd_refl p),← Int.mul_emod] at e1 e2
 rw [show s*(x*t)=t*(x*s) by rw [Int.mul_left_comm,Int.mul_comm s t,Int.mul_left_comm]] at e1
 rw [←e2,Int.emod_eq_of_lt hs.1 hs.2,Int.emod_eq_of_lt ht.1 ht.2] at e1
 exact e1
theorem fdInv_ {p x:Int} (hf:fdB p=true) (hx:0<x∧x<p):hU p x=some (iE p x):=by
 have hp:=gC hf
 obtain ⟨_,h1,h2,h3⟩:=dR hf hx
 have h0:iE p x≠0:=by intro h;rw [h,Int.mul_zero,Int.zero_emod] at h1;cases h1
 obtain ⟨k,hk⟩:∃ k:Nat,iE p x=(k:Int)+1:=⟨(iE p x-1).toNat,by omega⟩
 refine sqW (fL (fun j=>(j:Int)+1) (t:=.inr (iE p x)) k ?_ ?_) rfl
 ·
  intro j hj
  have hm:=bN hp (by omega:0≤x∧x<p) (by omega:0≤(j:Int)+1∧(j:Int)+1<p)
  refine stp (cTW (dT (by omega)) (bnd (nL (by omega) (by omega)) (bnd (aH (by omega)) (stp ?_))))
  rw [Int.tmod_eq_emod_of_nonneg hm.1]
  refine cFW (dF ?_) (bnd (gB (by omega) (by omega)) rfl)
  intro h
  have:=Im_ h h1 (by omega) (by omega)
  omega
 ·
  have hm:=bN hp (by omega:0≤x∧x<p) (by omega:0≤(k:Int)+1∧(k:Int)+1<p)
  refine stp (cTW (dT (by omega)) (bnd (nL (by omega) (by omega)) (bnd (aH (by omega)) (stp ?_))))
  rw [Int.tmod_eq_emod_of_nonneg hm.1,← hk]
  exact cTW (dT h1) rfl
theorem modG {p a:Int} (hp:2≤p∧p≤97) (_:-1000000≤a∧a≤1000000):dO p a=some (a % p):=by
 have h1:=Int.tmod_add_mul_tdiv a p
 have h2:=Int.tmod_lt_of_pos a (show 0<p by omega)
 have h3:=Int.lt_tmod_of_pos a (show 0<p by omega)
 have h4:a % p=a.tmod p % p:=by
  conv=>lhs;rw [←h1]
  rw [Int.add_mul_emod_self_left]
 refine bnd (aH (by omega)) (stp ?_)
 by_cases h:a.tmod p<0
 ·
  refine cTW (dT h) (bnd (gB (by omega) (by omega)) ?_)
  rw [h4,← Int.add_emod_right,Int.emod_eq_of_lt (by omega) (by omega)]
 ·
  refine cFW (dF h) ?_
  rw [h4,Int.emod_eq_of_lt (by omega) (by omega)]
theorem sub_mod (v p t:Int):(v+p-t % p) % p=(v-t) % p:=by
 have h:=Int.emod_add_mul_ediv t p
 have:v+p-t % p=(v-t)+p*(1+t / p):=by rw [Int.mul_add,Int.mul_one];omega
 rw [this,Int.add_mul_emod_self_left]
end Go.Proofs.YtodfjigndedehaaGreatDoor
namespace Go.Proofs.YtodfjigndedehaaGreatDoor
abbrev Rows:=List (List Int)
def gr (m:Rows) (i:Nat):List Int:=m.getD i []
def el (r:List Int) (c:Nat):Int:=r.getD c 0
theorem wE {m:Rows}{i:Nat} (h:i<m.length):m[i]?=some (gr m i):=by unfold gr;rw [List.getD_eq_getElem?_getD,List.getElem?_eq_getElem h];rfl
theorem jK {r:List Int}{c:Nat} (h:c<r.length):r[c]?=some (el r c):=by unfold el;rw [List.getD_eq_getElem?_getD,List.getElem?_eq_getElem h];rfl
theorem eD {m:Rows}{i:Nat} (h:i<m.length):idxO m (i:Int)=some (gr m i):=kA (wE h)
theorem gE {r:List Int}{c:Nat} (h:c<r.length):idxO r (c:Int)=some (el r c):=kA (jK h)
theorem cN {m:Rows}{i:Nat} (h:i<m.length):gr m i∈m:=xC (wE h)
theorem oH {r:List Int}{c:Nat} (h:c<r.length):el r c∈r:=xC (jK h)
theorem xI {m:Rows}{i j:Nat}{r:List Int} (h:i<m.length):gr (m.set i r) j=if i=j then r else gr m j:=by
 unfold gr
 rw [List.getD_eq_getElem?_getD,List.getD_eq_getElem?_getD,List.getElem?_set]
 split
 · rename_i e;subst e;simp
 · rfl
theorem aN {m:Rows}{i:Nat} (h:i<m.length):m.set i (gr m i)=m:=by
 have h2:gr m i=m[i]:=by have:=wE h;rw [List.getElem?_eq_getElem h] at this;exact (Option.some.inj this).symm
 rw [h2,List.set_getElem_self]
def okM (p:Int) (n:Nat) (m:Rows):Prop:=yL p n m
theorem nC {p:Int}{n:Nat}{m:Rows} (h:okM p n m){i:Nat} (hi:i<m.length):(gr m i).length=n∧inP p (gr m i):=h _ (cN hi)
theorem fI {p:Int}{n:Nat}{m:Rows} (h:okM p n m){i c:Nat} (hi:i<m.length) (hc:c<n):0≤el (gr m i) c∧el (gr m i) c<p:=by
 have h1:=nC h hi
 exact h1.2 _ (oH (by omega))
theorem Bi_ {p:Int}{n:Nat}{m:Rows} (h:okM p n m){i:Nat}{r:List Int} (hr:r.length=n∧inP p r):okM p n (m.set i r):=by
 intro x hx
 rcases List.mem_or_eq_of_mem_set hx with hx | rfl
 · exact h x hx
 · exact hr
def oD (g:Nat→Int→Int) (r:List Int):List Int:=r.mapIdx g
theorem mV (g:Nat→Int→Int) (r:List Int):(oD g r).length=r.length:=by simp [oD]
theorem E3_ {p:Int} (hp:2≤p){g:Nat→Int→Int} (hg:∀ j x,∃ y,g j x=y % p) (r:List Int):inP p (oD g r):=by
 intro x hx
 obtain ⟨j,hj,rfl⟩:=List.mem_iff_getElem.1 hx
 simp only [oD,List.getElem_mapIdx]
 obtain ⟨y,hy⟩:=hg j (r[j]'(by simpa [oD] using hj))
 rw [hy];exact qL hp
def part (g:Nat→Int→Int) (r:List Int) (j:Nat):List Int:=(r.take j).mapIdx g++r.drop j
theorem jX (g:Nat→Int→Int) (r:List Int):part g r 0=r:=by simp [part]
theorem dS (g:Nat→Int→Int) (r:List Int):part g r r.length=oD g r:=by simp [part,oD]
theorem yQ (g:Nat→Int→Int) (r:List Int) (j:Nat):(part g r j).length=r.length:=by simp [part];omega
theorem iV (g:Nat→Int→Int) (r:List Int){j:Nat} (h:j<r.length):(part g r j)[j]?=some (el r j):=by
 unfold part
 rw [List.getElem?_append_right (by simp;omega)]
 have:j-((r.take j).mapIdx g).length=0:=by simp;omega
 rw [this,List.getElem?_drop,Nat.add_zero,jK h]
theorem xQ (g:Nat→Int→Int) (r:List Int){j:Nat} (h:j<r.length):(part g r j).set j (g j (el r j))=part g r (j+1):=by
 have h2:el r j=r[j]:=by have:=jK h;rw [List.getElem?_eq_getElem h] at this;exact (Option.some.inj this).symm
 rw [h2]
 exact DQ_ r g j h
def bH (p k:Int):Nat→Int→Int:=fun _ a=>(a*k) % p
def qE (p f:Int) (w:List Int):Nat→Int→Int:=fun j x=>(x-f*el w j) % p
theorem FD_ {m:Rows}{i j:Nat} (hi:i<m.length) (hj:j<m.length):dN m (i:Int) (j:Int)=some ((m.set i (gr m j)).set j (gr m i)):=by
 unfold dN
 refine bnd (eD hi) (bnd (eD hj) (bnd (lC _ hi) (lC _ (by rw [List.length_set];exact hj))))
def bC (m:Rows) (i j:Nat):Rows:=(m.set i (gr m j)).set j (gr m i)
theorem CV_ {m:Rows}{i:Nat} (h:i<m.length):bC m i i=m:=by
 unfold bC;rw [List.set_set,aN h]
theorem qG (m:Rows) (i j:Nat):(bC m i j).length=m.length:=by simp [bC]
theorem tM {p:Int}{n:Nat}{m:Rows} (h:okM p n m){i j:Nat} (hi:i<m.length) (hj:j<m.length):okM p n (bC m i j):=
 Bi_ (Bi_ h (nC h hj)) (nC h hi)
theorem iO {m:Rows}{i j:Nat} (hi:i<m.length) (hj:j<m.length):gr (bC m i j) i=gr m j:=by
 unfold bC
 rw [xI (by rw [List.length_set];exact hj)]
 split
 · rename_i e;subst e;rfl
 · rw [xI hi,if_pos rfl]
def eK (p k:Int) (m:Rows) (r:Nat):Rows:=m.set r (oD (bH p k) (gr m r))
theorem H9_ (p k:Int) (m:Rows) (r:Nat):(eK p k m r).length=m.length:=by simp [eK]
theorem IR_ {p k:Int}{n:Nat}{m:Rows} (hp:2≤p) (h:okM p n m){r:Nat} (hr:r<m.length):okM p n (eK p k m r):=
 Bi_ h ⟨by rw [mV];exact (nC h hr).1,E3_ hp (fun j x=>⟨_,rfl⟩) _⟩
theorem FP_ {p a b:Int} (hp:2≤p∧p≤97) (ha:0≤a∧a<p) (hb:0≤b∧b<p):vH p a b=some ((a*b) % p):=by
 have hm:=bN hp ha hb
 refine bnd (nL (by omega) (by omega)) (bnd (aH (by omega)) ?_)
 rw [Int.tmod_eq_emod_of_nonneg hm.1]
theorem fdSub_ {p a b:Int} (hp:2≤p∧p≤97) (ha:0≤a∧a<p) (hb:0≤b∧b<p):pM p a b=some ((a+p-b) % p):=by
 refine bnd (gB (by omega) (by omega)) (bnd (yC (by omega) (by omega)) (bnd (aH (by omega)) ?_))
 rw [Int.tmod_eq_emod_of_nonneg (by omega)]
theorem IP_ {p k:Int}{n:Nat}{m:Rows}{r:Nat} (hp:2≤p∧p≤97) (h:okM p n m) (hr:r<m.length) (hk:0≤k∧k<p) :
  forS (fun (j:Nat) (s:List (List Int))=>
        (idxO s (r:Int)).bind fun a26854=>
        (idxO s (r:Int)).bind fun a26863=>
        (idxO a26863 ((j:Nat):Int)).bind fun a26872=>
        (vH p a26872 k).bind fun y26874=>
        (setO a26854 ((j:Nat):Int) y26874).bind fun a26884=>
        (setO s (r:Int) a26884).bind fun a26887=>
        some a26887) (gr m r).length 0 m=some (eK p k m r):=by
 have hrow:=nC h hr
 have:=vC (n:=(gr m r).length) (fun j=>m.set r (part (bH p k) (gr m r) j)) (f:=fun (j:Nat) (s:List (List Int))=>
        (idxO s (r:Int)).bind fun a26854=>
        (idxO s (r:Int)).bind fun a26863=>
        (idxO a26863 ((j:Nat):Int)).bind fun a26872=>
        (vH p a26872 k).bind fun y26874=>
        (setO a26854 ((j:Nat):Int) y26874).bind fun a26884=>
        (setO s (r:Int) a26884).bind fun a26887=>
        some a26887) (by
  intro j hj
  have hl:r<(m.set r (part (bH p k) (gr m r) j)).length:=by rw [List.length_set];exact hr
  have hg:gr (m.set r (part (bH p k) (gr m r) j)) r=part (bH p k) (gr m r) j:=by rw [xI hr,if_pos rfl]
  have h1:=eD hl
  rw [hg] at h1
  refine bnd h1 (bnd h1 (bnd (kA (iV _ _ hj)) (bnd (FP_ hp (hrow.2 _ (oH hj)) hk) (bnd (lC _ (by rw [yQ];exact hj)) (bnd (lC _ hl) ?_)))))
  rw [List.set_set]
  congr 2
  exact xQ (bH p k) (gr m r) hj)
 rw [jX,aN hr,dS] at this
 exact this
theorem Jb_ {p k:Int}{r:List Int} (hp:2≤p∧p≤97) (h:inP p r) (hk:0≤k∧k<p) :
  forS (fun (j:Nat) (s:List Int)=>
     (idxO s ((j:Nat):Int)).bind fun a137=>
     (sF a137 k).bind fun a140=>
     (nD a140 p).bind fun a142=>
     (setO s ((j:Nat):Int) a142).bind fun a156=>
     some a156) r.length 0 r=some (oD (bH p k) r):=by
 have:=vC (n:=r.length) (fun j=>part (bH p k) r j) (f:=fun (j:Nat) (s:List Int)=>
     (idxO s ((j:Nat):Int)).bind fun a137=>
     (sF a137 k).bind fun a140=>
     (nD a140 p).bind fun a142=>
     (setO s ((j:Nat):Int) a142).bind fun a156=>
     some a156) (by
  intro j hj
  have hm:=bN hp (h _ (oH hj)) hk
  refine bnd (kA (iV _ _ hj)) (bnd (nL (by omega) (by omega)) (bnd (aH (by omega)) (bnd (lC _ (by rw [yQ];exact hj)) ?_)))
  rw [Int.tmod_eq_emod_of_nonneg hm.1]
  exact congrArg some (xQ (bH p k) r hj))
 rw [jX,dS] at this
 exact this
theorem specSub {p f:Int}{n:Nat}{m:Rows}{r i:Nat} (hp:2≤p∧p≤97) (h:okM p n m) (hr:r<m.length) (hi:i<m.length) (hri:i≠r) (hf:0≤f∧f<p) :
  forS (fun (j:Nat) (s:List (List Int))=>
            (idxO s ((i:Nat):Int)).bind fun a28591=>
            (idxO s ((i:Nat):Int)).bind fun a28600=>
            (idxO s (r:Int)).bind fun a28609=>
            (idxO a28600 ((j:Nat):Int)).bind fun a28618=>
            (idxO a28609 ((j:Nat):Int)).bind fun a28626=>
            (vH p f a28626).bind fun y28628=>
            (pM p a28618 y28628).bind fun y28631=>
            (setO a28591 ((j:Nat):Int) y28631).bind fun a28641=>
            (setO s ((i:Nat):Int) a28641).bind fun a28644=>
            some a28644) (gr m i).length 0 m=some (m.set i (oD (qE p f (gr m r)) (gr m i))):=by
 have hrow:=nC h hi
 have hrr:=nC h hr
 have:=vC (n:=(gr m i).length) (fun j=>m.set i (part (qE p f (gr m r)) (gr m i) j)) (f:=fun (j:Nat) (s:List (List Int))=>
            (idxO s ((i:Nat):Int)).bind fun a28591=>
            (idxO s ((i:Nat):Int)).bind fun a28600=>
            (idxO s (r:Int)).bind fun a28609=>
            (idxO a28600 ((j:Nat):Int)).bind fun a28618=>
            (idxO a28609 ((j:Nat):Int)).bind fun a28626=>
            (vH p f a28626).bind fun y28628=>
            (pM p a28618 y28628).bind fun y28631=>
            (setO a28591 ((j:Nat):Int) y28631).bind fun a28641=>
            (setO s ((i:Nat):Int) a28641).bind fun a28644=>
            some a28644) (by
  intro j hj
  have hl:i<(m.set i (part (qE p f (gr m r)) (gr m i) j)).length:=by rw [List.length_set];exact hi
  have hl2:r<(m.set i (part (qE p f (gr m r)) (gr m i) j)).length:=by rw [List.length_set];exact hr
  have hg:gr (m.set i (part (qE p f (gr m r)) (gr m i) j)) i=part (qE p f (gr m r)) (gr m i) j:=by rw [xI hi,if_pos rfl]
  have hg2:gr (m.set i (part (qE p f (gr m r)) (gr m i) j)) r=gr m r:=by rw [xI hi,if_neg hri]
  have h1:=eD hl
  have h2:=eD hl2
  rw [hg] at h1
  rw [hg2] at h2
  have hjr:j<(gr m r).length:=by omega
  have hm:=qL (p:=p) (x:=f*el (gr m r) j) hp.1
  refine bnd h1 (bnd h1 (bnd h2 (bnd (kA (iV _ _ hj)) (bnd (gE hjr) (bnd (FP_ hp hf (hrr.2 _ (oH hjr))) (bnd (fdSub_ hp (hrow.2 _ (oH hj)) hm) (bnd (lC _ (by rw [yQ];exact hj)) (bnd (lC _ hl) ?_))))))))
  rw [List.set_set,sub_mod]
  congr 2
  exact xQ (qE p f (gr m r)) (gr m i) hj)
 rw [jX,aN hi,dS] at this
 exact this
theorem implSub {p f:Int}{v w:List Int} (hp:2≤p∧p≤97) (hv:inP p v) (hw:inP p w) (hl:v.length=w.length) (hf:0≤f∧f<p):mI p v (0-f) w=some (oD (qE p f w) v):=by
 have:=vC (n:=w.length) (fun j=>part (qE p f w) v j) (f:=fun (k3:Nat) (s72:List Int)=>
   (idxO w ((k3:Nat):Int)).bind fun a87=>
   (idxO s72 ((k3:Nat):Int)).bind fun a95=>
   (sF (0-f) a87).bind fun a97=>
   (nA a95 a97).bind fun a99=>
   (dO p a99).bind fun y101=>
   (setO s72 ((k3:Nat):Int) y101).bind fun a110=>
   some a110) (by
  intro j hj
  have hjv:j<v.length:=by omega
  have h1:=bN hp hf (hw _ (oH hj))
  have h2:=hv _ (oH hjv)
  have h3:(0-f)*el w j = -(f*el w j):=by rw [Int.zero_sub,Int.neg_mul]
  refine bnd (gE hj) (bnd (kA (iV _ _ hjv)) (bnd (nL (by omega) (by omega)) (bnd (gB (by omega) (by omega)) (bnd (modG hp (by omega)) (bnd (lC _ (by rw [yQ];exact hjv)) ?_)))))
  rw [h3,← Int.sub_eq_add_neg]
  exact congrArg some (xQ (qE p f w) v hjv))
 rw [jX,← hl,dS] at this
 rw [hl] at this
 exact bnd this rfl
end Go.Proofs.YtodfjigndedehaaGreatDoor
