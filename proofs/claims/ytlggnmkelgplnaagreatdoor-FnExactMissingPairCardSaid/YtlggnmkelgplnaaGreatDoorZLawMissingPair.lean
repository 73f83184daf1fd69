/-
  Plain laws: the relation of a term: the loops of both. No program in sight. No condition.
-/
import Derived.Test.YtlggnmkelgplnaaGreatDoorZP53
import Derived.Test.YtlggnmkelgplnaaGreatDoorZP49
namespace Go.Proofs.YtlggnmkelgplnaaGreatDoor
def tmlT (T:Tr):Bool:=(flat T).all tmlB
def noR:Rel:=(0,0,[])
noncomputable def dStep (p:Int) (t:List Nod) (k11:Nat) (s299:List Rel):Option (List Rel):=
      (idxO t ((k11:Nat):Int)).bind fun a315=>
      (subO ((s299.length:Nat):Int) 1).bind fun a323=>
      (some (decide (a315.1 = 15))).bind fun a325=>
      cond a325
      ((subO a323 1).bind fun a401=>
        (subO a323 1).bind fun a403=>
        (idxO s299 a403).bind fun a411=>
        (idxO s299 a323).bind fun a423=>
        (sliceO s299 0 a401).bind fun a429=>
        (F_impl_composed p (a411.1,a411.2.1,a411.2.2) (a423.1,a423.2.1,a423.2.2)).bind fun y433=>
        (appO a429 [(y433.1,y433.2.1,y433.2.2)]).bind fun a445=>
        some a445)
      ((some (decide (a315.1 = 16))).bind fun a328=>
        cond a328
        ((subO a323 1).bind fun a350=>
          (subO a323 1).bind fun a352=>
          (idxO s299 a352).bind fun a360=>
          (idxO s299 a323).bind fun a372=>
          (sliceO s299 0 a350).bind fun a378=>
          (F_impl_tensor p (a360.1,a360.2.1,a360.2.2) (a372.1,a372.2.1,a372.2.2)).bind fun y382=>
          (appO a378 [(y382.1,y382.2.1,y382.2.2)]).bind fun a394=>
          some a394)
        ((F_impl_leafRelation p (a315.1,a315.2.1,a315.2.2)).bind fun y331=>
          (appO s299 [(y331.1,y331.2.1,y331.2.2)]).bind fun a343=>
          some a343))
theorem top2 {s:List Rel} {x y:Rel} (hs:s.length ≤ 1000):(s ++ [x] ++ [y]).length = s.length + 2 ∧ subO (((s ++ [x] ++ [y]).length:Nat):Int) 1 = some ((s.length + 1:Nat):Int) ∧ subO ((s.length + 1:Nat):Int) 1 = some ((s.length:Nat):Int) ∧
    subO (((s ++ [x] ++ [y]).length:Nat):Int) 2 = some ((s.length:Nat):Int) ∧ idxO (s ++ [x] ++ [y]) ((s.length:Nat):Int) = some x ∧ idxO (s ++ [x] ++ [y]) ((s.length + 1:Nat):Int) = some y ∧ sliceO (s ++ [x] ++ [y]) 0 ((s.length:Nat):Int) = some s:=by
  have hlen:(s ++ [x] ++ [y]).length = s.length + 2:=by simp
  refine ⟨hlen,by rw [hlen,subO_of (by omega) (by omega)];congr 1;omega,by rw [subO_of (by omega) (by omega)];congr 1;omega,by rw [hlen,subO_of (by omega) (by omega)];congr 1;omega,?_,?_,?_⟩
  · rw [idxO_nat,List.append_assoc,List.getElem?_append_right (Nat.le_refl _),Nat.sub_self];rfl
  · rw [idxO_nat,List.append_assoc,List.getElem?_append_right (by omega),Nat.add_sub_cancel_left];rfl
  · unfold sliceO;rw [if_pos ⟨by omega,by omega,by rw [hlen];omega⟩,List.append_assoc]
    simp
theorem dStep_leaf {p:Int} {t:List Nod} {j:Nat} {n:Nod} {s:List Rel} (hf:fdB p = true) (ht:t[j]? = some n) (hn:lfB n = true) (h1:tmlB n = true) (h2:ovN p n = true) (hs:s.length ≤ 1000):dStep p t j s = some (s ++ [leafV p n]):=by
  have hm:maxN = 1099511627776:=rfl
  have hk:=lfB_k hn
  exact bnd (idxO_of ht) (bnd (subO_of (by omega) (by omega)) (stp (cFW (dF (by omega)) (stp (cFW (dF (by omega)) (bnd (leafV_ hf hn h1 h2).2.2 (bnd (appO_of (by simp;omega)) rfl)))))))
theorem dStep_node {p:Int} {t:List Nod} {j:Nat} {k:Int} {s:List Rel} {x y:Rel} {u v w:Int × Int} (hf:fdB p = true) (ht:t[j]? = some (k,0,.empty)) (hk:k = 15 ∨ k = 16) (hs:s.length ≤ 1000) (hu:wOk2 u) (hv:wOk2 v) (hx:RelOk p u x) (hy:RelOk p v y) (h:jn k u v = some w) :
    dStep p t j (s ++ [x] ++ [y]) = some (s ++ [combV p k x y]):=by
  have hm:maxN = 1099511627776:=rfl
  obtain ⟨q1,q2,q3,_,q5,q6,q7⟩:=top2 (s:=s) (x:=x) (y:=y) hs
  obtain ⟨_,c1,c2⟩:=combV_ hf hu hv hx hy h
  refine bnd (idxO_of ht) (bnd q2 ?_)
  by_cases h15:k = 15
  · exact stp (cTW (dT h15) (bnd q3 (bnd q3 (bnd q5 (bnd q6 (bnd q7 (bnd (c1 h15).2 (bnd (appO_of (by simp;omega)) rfl))))))))
  · exact stp (cFW (dF h15) (stp (cTW (dT (by dsimp only;omega)) (bnd q3 (bnd q3 (bnd q5 (bnd q6 (bnd q7 (bnd (c2 h15).2 (bnd (appO_of (by simp;omega)) rfl))))))))))
theorem forS_step1 {σ:Type} {f:Nat → σ → Option σ} {n k:Nat} {s s':σ} (h:f k s = some s'):forS f (n + 1) k s = forS f n (k + 1) s':=by
  show (f k s).bind _ = _
  rw [h];rfl
theorem den_loop {p:Int} (hf:fdB p = true) {t:List Nod} (ht:t.length ≤ 400):∀ {T:Tr} {w:Int × Int},typT T = some w → okT p T → ∀ (pre q:List Nod) (r:List Rel),t = pre ++ (flat T ++ q) → r.length ≤ pre.length →
    forS (dStep p t) ((flat T).length + q.length) pre.length r = forS (dStep p t) q.length (pre.length + (flat T).length) (r ++ [denT p T])
  | .leaf n,w,h,ho,pre,q,r,e,hr=>by
    obtain ⟨h1,rfl⟩:=typ_leaf h
    have hlt:pre.length < t.length:=by rw [e];simp [flat]
    have hn:t[pre.length]? = some n:=by rw [e,List.getElem?_append_right (Nat.le_refl _),Nat.sub_self];rfl
    have h2:=ho n (by simp [flat])
    rw [show (flat (.leaf n)).length + q.length = q.length + 1 by simp [flat];omega,forS_step1 (dStep_leaf hf hn h1 h2.1 h2.2 (by omega))]
    rfl
  | .node k a b,w,h,ho,pre,q,r,e,hr=>by
    obtain ⟨hk,x,y,h1,h2,h3⟩:=typ_node h
    have oa:okT p a:=fun n hn=>ho n (by simp [flat,hn])
    have ob:okT p b:=fun n hn=>ho n (by simp [flat,hn])
    have hlen:(flat (.node k a b)).length = (flat a).length + (flat b).length + 1:=by simp [flat];omega
    have htl:t.length = pre.length + ((flat a).length + (flat b).length + 1 + q.length):=by rw [e,List.length_append,List.length_append,hlen]
    have ea:t = pre ++ (flat a ++ (flat b ++ ([((k,(0:Int),ByteArray.empty):Nod)] ++ q))):=by rw [e];simp [flat]
    have eb:t = (pre ++ flat a) ++ (flat b ++ ([((k,(0:Int),ByteArray.empty):Nod)] ++ q)):=by rw [ea];simp
    have hpa:=flat_pos a
    have la:=den_loop hf ht h1 oa pre (flat b ++ ([((k,(0:Int),ByteArray.empty):Nod)] ++ q)) r ea hr
    have lb:=den_loop hf ht h2 ob (pre ++ flat a) ([((k,(0:Int),ByteArray.empty):Nod)] ++ q) (r ++ [denT p a]) eb (by simp;omega)
    rw [show (pre ++ flat a).length = pre.length + (flat a).length from List.length_append] at lb
    rw [show (flat (.node k a b)).length + q.length = (flat a).length + (flat b ++ ([((k,(0:Int),ByteArray.empty):Nod)] ++ q)).length by rw [hlen];simp;omega,la,
      show (flat b ++ ([((k,(0:Int),ByteArray.empty):Nod)] ++ q)).length = (flat b).length + ([((k,(0:Int),ByteArray.empty):Nod)] ++ q).length from List.length_append,lb]
    have hn:t[pre.length + (flat a).length + (flat b).length]? = some (k,0,.empty):=by
      rw [show t = (pre ++ flat a ++ flat b) ++ ([((k,(0:Int),ByteArray.empty):Nod)] ++ q) by rw [ea];simp,List.getElem?_append_right (by simp;omega)]
      simp [Nat.add_assoc]
    have st:=dStep_node (s:=r) hf hn hk (by omega) (typ_ok h1) (typ_ok h2) (denT_ok hf h1 oa) (denT_ok hf h2 ob) h3
    rw [show ([((k,(0:Int),ByteArray.empty):Nod)] ++ q).length = q.length + 1 by simp,forS_step1 st,hlen,show pre.length + ((flat a).length + (flat b).length + 1) = pre.length + (flat a).length + (flat b).length + 1 by omega]
    rfl
theorem denote_ {p:Int} (hf:fdB p = true) {T:Tr} {w:Int × Int} (h:typT T = some w) (ho:okT p T) (hl:(flat T).length ≤ 400):F_impl_denote p (flat T) = some (denT p T):=by
  have loop:=den_loop hf hl h ho [] [] [] (by simp) (by simp)
  rw [List.length_nil,Nat.add_zero,Nat.zero_add,List.nil_append] at loop
  have e:F_impl_denote p (flat T) = (forS (dStep p (flat T)) (flat T).length 0 []).bind fun s452=>(idxO s452 0).bind fun a461=>some (a461.1,a461.2.1,a461.2.2):=rfl
  rw [e,loop];rfl
noncomputable def sStep (p:Int) (t:List Nod) (k14:Nat) (s16808:List Rel):Option (List Rel ⊕ (Rel × Bool)):=
        seqO ((idxO t ((k14:Nat):Int)).bind fun a20937=>
          (F_spec_dnTimeless a20937.1).bind fun y20945=>
          (some (!y20945)).bind fun a20948=>
          cond a20948
          (some (.inr (.inr ((0,0,[]),false))))
          (((some (!decide (a20937.1 = 15))).bind fun a20963=>
              cond a20963
              ((some (!decide (a20937.1 = 16))).bind fun a20967=>
                some a20967)
              (some false)).bind fun (s20957:Bool)=>
            cond s20957
            ((F_spec_dnLeaf p (a20937.1,a20937.2.1,a20937.2.2)).bind fun y25017=>
              (appO s16808 [(y25017.1,y25017.2.1,y25017.2.2)]).bind fun a25029=>
              some (.inl a25029))
            (((subO ((s16808.length:Nat):Int) 2).bind fun a22977=>
                (idxO s16808 a22977).bind fun a23019=>
                (subO ((s16808.length:Nat):Int) 1).bind fun a22979=>
                (idxO s16808 a22979).bind fun a23071=>
                some (a23071.1,a23071.2.1,a23071.2.2,a23019.1,a23019.2.1,a23019.2.2)).bind fun (s22966:Int × Int × List (List Int) × Int × Int × List (List Int))=>
              (subO ((s16808.length:Nat):Int) 2).bind fun a24972=>
              (sliceO s16808 0 a24972).bind fun a24974=>
              (some (decide (a20937.1 = 15))).bind fun a24978=>
              cond a24978
              ((F_spec_rlCompose p (s22966.2.2.2.1,s22966.2.2.2.2.1,s22966.2.2.2.2.2) (s22966.1,s22966.2.1,s22966.2.2.1)).bind fun y24999=>
                (appO a24974 [(y24999.1,y24999.2.1,y24999.2.2)]).bind fun a25011=>
                some (.inl a25011))
              ((F_spec_rlTensor p (s22966.2.2.2.1,s22966.2.2.2.2.1,s22966.2.2.2.2.2) (s22966.1,s22966.2.1,s22966.2.2.1)).bind fun y24981=>
                (appO a24974 [(y24981.1,y24981.2.1,y24981.2.2)]).bind fun a24993=>
                some (.inl a24993))))) fun (s20924:List (Int × Int × List (List Int)))=>
        some (.inl s20924)
theorem sStep_leaf {p:Int} {t:List Nod} {j:Nat} {n:Nod} {s:List Rel} (hf:fdB p = true) (ht:t[j]? = some n) (hn:lfB n = true) (h2:ovN p n = true) (hs:s.length ≤ 1000):sStep p t j s = if tmlB n = true then some (.inl (s ++ [leafV p n])) else some (.inr (noR,false)):=by
  have hm:maxN = 1099511627776:=rfl
  have hk:=lfB_k hn
  have hT:F_spec_dnTimeless n.1 = some (tmlB n):=timeless_ n.1
  cases h1:tmlB n with
  | false=>
    rw [h1] at hT
    exact sqW (r:=some (.inr (.inr (noR,false)))) (bnd (idxO_of ht) (bnd hT rfl)) rfl
  | true=>
    rw [h1] at hT
    rw [if_pos rfl]
    refine sqW (r:=some (.inl (s ++ [leafV p n]))) (bnd (idxO_of ht) (bnd hT (stp (cFW rfl (bnd (a:=true) (stp (cTW (nF (dF (by omega))) (stp (congrArg some (nF (dF (by omega))))))) (cTW rfl (bnd (leafV_ hf hn h1 h2).2.1 (bnd (appO_of (by simp;omega)) rfl)))))))) rfl
theorem sStep_node {p:Int} {t:List Nod} {j:Nat} {k:Int} {s:List Rel} {x y:Rel} {u v w:Int × Int} (hf:fdB p = true) (ht:t[j]? = some (k,0,.empty)) (hk:k = 15 ∨ k = 16) (hs:s.length ≤ 1000) (hu:wOk2 u) (hv:wOk2 v) (hx:RelOk p u x) (hy:RelOk p v y) (h:jn k u v = some w) :
    sStep p t j (s ++ [x] ++ [y]) = some (.inl (s ++ [combV p k x y])):=by
  have hm:maxN = 1099511627776:=rfl
  obtain ⟨q1,q2,q3,q4,q5,q6,q7⟩:=top2 (s:=s) (x:=x) (y:=y) hs
  obtain ⟨_,c1,c2⟩:=combV_ hf hu hv hx hy h
  have hT:F_spec_dnTimeless k = some true:=by rw [timeless_,dT (by omega)]
  have hc:((some (!decide (k = 15))).bind fun a20963=>cond a20963 ((some (!decide (k = 16))).bind fun a20967=>some a20967) (some false)) = some false:=by
    rcases hk with rfl | rfl <;> rfl
  refine sqW (r:=some (.inl (s ++ [combV p k x y]))) (bnd (idxO_of ht) (bnd hT (stp (cFW rfl (bnd hc (cFW rfl (bnd (bnd q4 (bnd q5 (bnd q2 (bnd q6 rfl)))) (bnd q4 (bnd q7 ?_))))))))) rfl
  by_cases h15:k = 15
  · exact stp (cTW (dT h15) (bnd (c1 h15).1 (bnd (appO_of (by simp;omega)) rfl)))
  · exact stp (cFW (dF h15) (bnd (c2 h15).1 (bnd (appO_of (by simp;omega)) rfl)))
def ovT (p:Int) (T:Tr):Prop:=∀ n ∈ flat T,ovN p n = true
theorem tmlT_node (k:Int) (a b:Tr) (hk:k = 15 ∨ k = 16):tmlT (.node k a b) = (tmlT a && tmlT b):=by
  have:tmlB (k,0,.empty) = true:=dT (by dsimp only;omega)
  unfold tmlT
  simp [flat,List.all_append,this]
theorem okT_of {p:Int} {T:Tr} (h1:tmlT T = true) (h2:ovT p T):okT p T:=fun n hn=>⟨List.all_eq_true.1 h1 n hn,h2 n hn⟩
theorem sden_loop {p:Int} (hf:fdB p = true) {t:List Nod} (ht:t.length ≤ 400):∀ {T:Tr} {w:Int × Int},typT T = some w → ovT p T → ∀ (pre q:List Nod) (r:List Rel),t = pre ++ (flat T ++ q) → r.length ≤ pre.length →
    forO (sStep p t) ((flat T).length + q.length) pre.length r = if tmlT T = true then forO (sStep p t) q.length (pre.length + (flat T).length) (r ++ [denT p T]) else some (.inr (noR,false))
  | .leaf n,w,h,ho,pre,q,r,e,hr=>by
    obtain ⟨h1,rfl⟩:=typ_leaf h
    have hlt:pre.length < t.length:=by rw [e];simp [flat]
    have hn:t[pre.length]? = some n:=by rw [e,List.getElem?_append_right (Nat.le_refl _),Nat.sub_self];rfl
    have st:=sStep_leaf (s:=r) hf hn h1 (ho n (by simp [flat])) (by omega)
    have e1:tmlT (.leaf n) = tmlB n:=by simp [tmlT,flat]
    rw [e1,show (flat (.leaf n)).length + q.length = q.length + 1 by simp [flat];omega]
    cases hb:tmlB n with
    | true=>
      rw [hb,if_pos rfl] at st
      rw [if_pos rfl,forO_stepL st];rfl
    | false=>
      rw [hb] at st
      rw [if_neg (by simp),forO_stepR (st.trans (if_neg (by simp)))]
  | .node k a b,w,h,ho,pre,q,r,e,hr=>by
    obtain ⟨hk,x,y,h1,h2,h3⟩:=typ_node h
    have oa:ovT p a:=fun n hn=>ho n (by simp [flat,hn])
    have ob:ovT p b:=fun n hn=>ho n (by simp [flat,hn])
    have hlen:(flat (.node k a b)).length = (flat a).length + (flat b).length + 1:=by simp [flat];omega
    have htl:t.length = pre.length + ((flat a).length + (flat b).length + 1 + q.length):=by rw [e,List.length_append,List.length_append,hlen]
    have ea:t = pre ++ (flat a ++ (flat b ++ ([((k,(0:Int),ByteArray.empty):Nod)] ++ q))):=by rw [e];simp [flat]
    have eb:t = (pre ++ flat a) ++ (flat b ++ ([((k,(0:Int),ByteArray.empty):Nod)] ++ q)):=by rw [ea];simp
    have hpa:=flat_pos a
    have la:=sden_loop hf ht h1 oa pre (flat b ++ ([((k,(0:Int),ByteArray.empty):Nod)] ++ q)) r ea hr
    rw [show (flat (.node k a b)).length + q.length = (flat a).length + (flat b ++ ([((k,(0:Int),ByteArray.empty):Nod)] ++ q)).length by rw [hlen];simp;omega,la,tmlT_node k a b hk]
    cases ma:tmlT a with
    | false=>simp
    | true=>
      have e4:∀ {α:Type} (u v:α),(if true = true then u else v) = u:=fun u v=>if_pos rfl
      have lb:=sden_loop hf ht h2 ob (pre ++ flat a) ([((k,(0:Int),ByteArray.empty):Nod)] ++ q) (r ++ [denT p a]) eb (by simp;omega)
      rw [show (pre ++ flat a).length = pre.length + (flat a).length from List.length_append] at lb
      rw [e4,show (flat b ++ ([((k,(0:Int),ByteArray.empty):Nod)] ++ q)).length = (flat b).length + ([((k,(0:Int),ByteArray.empty):Nod)] ++ q).length from List.length_append,lb]
      cases mb:tmlT b with
      | false=>simp
      | true=>
        have hn:t[pre.length + (flat a).length + (flat b).length]? = some (k,0,.empty):=by
          rw [show t = (pre ++ flat a ++ flat b) ++ ([((k,(0:Int),ByteArray.empty):Nod)] ++ q) by rw [ea];simp,List.getElem?_append_right (by simp;omega)]
          simp [Nat.add_assoc]
        have st:=sStep_node (s:=r) hf hn hk (by omega) (typ_ok h1) (typ_ok h2) (denT_ok hf h1 (okT_of ma oa)) (denT_ok hf h2 (okT_of mb ob)) h3
        have e5:(true && true) = true:=rfl
        rw [e4,e5,e4,show ([((k,(0:Int),ByteArray.empty):Nod)] ++ q).length = q.length + 1 by simp,forO_stepL st,hlen,show pre.length + ((flat a).length + (flat b).length + 1) = pre.length + (flat a).length + (flat b).length + 1 by omega]
        rfl
def statB (p:Int) (t:List Nod):Bool:=ovB p t && t.all tmlB
open Classical in
noncomputable def denV (p:Int) (t:List Nod):Rel:=if h:validB t = true then denT p (Classical.choose (validB_tree h)) else noR
theorem denV_eq {p:Int} {t:List Nod} (h:validB t = true):∃ T w,t = flat T ∧ typT T = some w ∧ t.length ≤ 400 ∧ denV p t = denT p T:=by
  obtain ⟨w,h1,h2,h3⟩:=Classical.choose_spec (validB_tree h)
  exact ⟨_,w,h1,h2,h3,by unfold denV;rw [dif_pos h]⟩
theorem ovB_true {p:Int} {t:List Nod} (h:ovB p t = true):validB t = true ∧ fdB p = true ∧ ∀ n ∈ t,ovN p n = true:=by
  unfold ovB at h
  simp only [Bool.and_eq_true] at h
  exact ⟨h.1,h.2.1,fun n hn=>List.all_eq_true.1 h.2.2 n hn⟩
theorem dnTerm_ (p:Int) (t:List Nod):F_spec_dnTerm p t = some (if statB p t = true then (denV p t,true) else (noR,false)):=by
  refine bnd (tmGood_ p t) (stp ?_)
  unfold statB
  cases ho:ovB p t with
  | false=>rfl
  | true=>
    obtain ⟨hv,hf,hn⟩:=ovB_true ho
    obtain ⟨T,w,rfl,h2,h3,h4⟩:=denV_eq (p:=p) hv
    rw [h4]
    have loop:=sden_loop hf h3 h2 hn [] [] [] (by simp) (by simp)
    rw [List.length_nil,Nat.add_zero,Nat.zero_add,List.nil_append] at loop
    refine cFW rfl (sqW (r:=if tmlT T = true then some (.inl [denT p T]) else some (.inr (noR,false))) (loop.trans ?_) ?_)
    · cases tmlT T <;> rfl
    · rw [Bool.true_and]
      show _ = some (if tmlT T = true then (denT p T,true) else (noR,false))
      cases tmlT T <;> rfl
end Go.Proofs.YtlggnmkelgplnaaGreatDoor
namespace Go.Proofs.YtlggnmkelgplnaaGreatDoor
theorem isStatic_ (p:Int) (t:List Nod):F_impl_Term_isStatic t p = some (statB p t):=by
  refine bnd (isOver_ p t) (stp ?_)
  unfold statB
  cases ovB p t with
  | false=>rfl
  | true=>
    refine cFW rfl (sqW (forO_all tmlB t 0 (t:=false) (fun j n hj=>?_)) ?_)
    · rw [Nat.zero_add]
      have hd:F_impl_isDelay n.1 = some (!tmlB n):=by
        unfold F_impl_isDelay tmlB
        by_cases h1:n.1 = 8
        · simp [h1]
        · by_cases h2:n.1 = 14 <;> simp [h1,h2]
      refine bnd (idxO_of hj) (bnd hd ?_)
      cases tmlB n <;> rfl
    · cases t.all tmlB <;> rfl
theorem stat_facts {p:Int} {t:List Nod} (h:statB p t = true):fdB p = true ∧ ∃ l r:Nat,l ≤ 12 ∧ r ≤ 12 ∧ RlOk p l r (denV p t) ∧ F_impl_denote p t = some (denV p t):=by
  unfold statB at h
  rw [Bool.and_eq_true] at h
  obtain ⟨hv,hf,hn⟩:=ovB_true h.1
  obtain ⟨T,w,rfl,h2,h3,h4⟩:=denV_eq (p:=p) hv
  have ho:okT p T:=fun n hm=>⟨List.all_eq_true.1 h.2 n hm,hn n hm⟩
  have hd:=denT_ok hf h2 ho
  obtain ⟨a1,a2,a3,a4⟩:=typ_ok h2
  rw [h4]
  have hl:=red_len hf hd.red
  exact ⟨hf,w.1.toNat,w.2.toNat,by omega,by omega,⟨hf,by rw [hd.l];omega,by rw [hd.r];omega,by omega,hd.red,hl⟩,denote_ hf h2 ho h3⟩
def twoS (p:Int) (a b:List Nod):Bool:=statB p a && statB p b
noncomputable def sameW (p:Int) (a b:List Nod):Bool:=decide ((denV p a).1 = (denV p b).1) && decide ((denV p a).2.1 = (denV p b).2.1)
noncomputable def twoOk (p:Int) (a b:List Nod):Bool:=statB p a && (statB p b && sameW p a b)
theorem dnTwo_ (p:Int) (a b:List Nod):F_spec_dnTwo p a b = some (if statB p a = true then denV p a else noR,if statB p b = true then denV p b else noR,twoOk p a b):=by
  refine bnd (dnTerm_ p a) (bnd (dnTerm_ p b) ?_)
  unfold twoOk sameW
  cases statB p a with
  | false=>cases statB p b <;> rfl
  | true=>
    cases statB p b with
    | false=>rfl
    | true=>
      by_cases h1:(denV p a).1 = (denV p b).1
      · refine bnd (cTW rfl (cTW rfl (stp (cTW (dT h1) rfl)))) ?_
        rw [dT h1];rfl
      · refine bnd (cTW rfl (cTW rfl (stp (cFW (dF h1) rfl)))) ?_
        rw [dF h1];rfl
theorem twoTerms_ (p:Int) (a b:List Nod):F_impl_twoTerms p a b = some (if twoS p a b = true then denV p a else noR,if twoS p a b = true then denV p b else noR,twoOk p a b):=by
  unfold twoOk sameW twoS
  cases ha:statB p a with
  | false=>exact bnd (a:=true) (bnd (isStatic_ p a) (stp (by rw [ha];rfl))) rfl
  | true=>
    cases hb:statB p b with
    | false=>exact bnd (a:=true) (bnd (isStatic_ p a) (stp (by rw [ha];exact cFW rfl (bnd (isStatic_ p b) (stp (by rw [hb];rfl)))))) rfl
    | true=>
      obtain ⟨_,_,_,_,_,_,da⟩:=stat_facts ha
      obtain ⟨_,_,_,_,_,_,db⟩:=stat_facts hb
      refine bnd (a:=false) (bnd (isStatic_ p a) (stp (by rw [ha];exact cFW rfl (bnd (isStatic_ p b) (stp (by rw [hb];rfl)))))) (cFW rfl ?_)
      refine bnd (bnd da (bnd db rfl)) ?_
      by_cases h1:(denV p a).1 = (denV p b).1
      · refine bnd (stp (cTW (dT h1) rfl)) ?_
        rw [dT h1];rfl
      · refine bnd (stp (cFW (dF h1) rfl)) ?_
        rw [dF h1];rfl
theorem twoOk_facts {p:Int} {a b:List Nod} (h:twoOk p a b = true):twoS p a b = true ∧ statB p a = true ∧ statB p b = true ∧ ∃ l r:Nat,RlOk p l r (denV p a) ∧ RlOk p l r (denV p b):=by
  unfold twoOk sameW at h
  simp only [Bool.and_eq_true,decide_eq_true_eq] at h
  obtain ⟨h1,h2,h3,h4⟩:=h
  obtain ⟨_,l,r,_,_,ka,_⟩:=stat_facts h1
  obtain ⟨_,l',r',_,_,kb,_⟩:=stat_facts h2
  have e1:=ka.left;have e2:=ka.right;have e3:=kb.left;have e4:=kb.right
  obtain rfl:l = l':=by omega
  obtain rfl:r = r':=by omega
  exact ⟨by unfold twoS;rw [h1,h2];rfl,h1,h2,l,r,ka,kb⟩
def missL (p:Int) (n:Nat) (a b:Rel):List Int:=(b.2.2.find? (fun x=>!hasB p n a.2.2 x)).getD []
theorem missing_ {p:Int} {l r:Nat} {a b:Rel} (h1:RlOk p l r a) (h2:RlOk p l r b):F_impl_missing p a b = some (missL p (l + r) a b) ∧ (missL p (l + r) a b).isEmpty = b.2.2.all (hasB p (l + r) a.2.2):=by
  have hf:=forO_find (hasB p (l + r) a.2.2) (fun x:List Int=>x) b.2.2 0 (f:=fun (k9:Nat) (_:Unit)=>
      (idxO b.2.2 ((k9:Nat):Int)).bind fun a44=>
      (F_impl_hasPair p (a.1,a.2.1,a.2.2) a44).bind fun y48=>
      (some (!y48)).bind fun a51=>
      cond a51
      ((neO a44).bind fun _=>
        some (.inr a44))
      (some (.inl ()))) (by
        intro j x hj
        rw [Nat.zero_add]
        refine bnd (idxO_of hj) (bnd (hasPair_ h1 (h2.red.ok x (mem_of_get hj))) (stp ?_))
        have hne:=red_row h2.red (mem_of_get hj)
        cases hasB p (l + r) a.2.2 x with
        | false=>
          refine cTW rfl (bnd (a:=()) ?_ rfl)
          unfold neO
          cases x with
          | nil=>exact absurd rfl hne
          | cons _ _=>rfl
        | true=>rfl)
  unfold missL
  refine ⟨sqW hf ?_,?_⟩
  · cases b.2.2.find? (fun x=>!hasB p (l + r) a.2.2 x) <;> rfl
  · rw [← find_all]
    cases hq:b.2.2.find? (fun x=>!hasB p (l + r) a.2.2 x) with
    | none=>rfl
    | some x=>
      have hne:=red_row h2.red (List.mem_of_find?_eq_some hq)
      cases x with
      | nil=>exact absurd rfl hne
      | cons _ _=>rfl
end Go.Proofs.YtlggnmkelgplnaaGreatDoor
namespace Go.Proofs.YtlggnmkelgplnaaGreatDoor
theorem hasL_ {p:Int} {l r:Nat} {a:Rel} {x:List Int} (h:RlOk p l r a) (hx:okR p (l + r) x):F_spec_spHas p a.2.2 x = some (hasB p (l + r) a.2.2 x):=by
  have:=h.n24;have:=h.len
  exact spHas_ h.hf h.red hx (by omega) (by omega)
noncomputable def wdT (p:Int) (a:List Nod):Nat:=((denV p a).1 + (denV p a).2.1).toNat
theorem wdT_eq {p:Int} {l r:Nat} {a:List Nod} (h:RlOk p l r (denV p a)):wdT p a = l + r:=by
  unfold wdT;rw [h.left,h.right];omega
noncomputable def wit (p:Int) (a b:List Nod):List Int:=missL p (wdT p a) (denV p b) (denV p a)
noncomputable def wMissingPair (p:Int) (a b:List Nod):List Int × List Int × Bool:=
  if twoOk p a b = true then (if (wit p a b).isEmpty = true then ([],[],false) else ((wit p a b).take (denV p a).1.toNat,(wit p a b).drop (denV p a).1.toNat,true)) else ([],[],false)
theorem wit_row {p:Int} {l r:Nat} {a b:Rel} (ha:RlOk p l r a) (h:¬ (missL p (l + r) b a).isEmpty = true):okR p (l + r) (missL p (l + r) b a):=by
  unfold missL at h ⊢
  cases hq:a.2.2.find? (fun x=>!hasB p (l + r) b.2.2 x) with
  | none=>rw [hq] at h;exact absurd rfl h
  | some x=>exact ha.red.ok x (List.mem_of_find?_eq_some hq)
theorem halves {l:Nat} {x:List Int} (h:l ≤ x.length):sliceO x 0 (l:Int) = some (x.take l) ∧ sliceO x (l:Int) ((x.length:Nat):Int) = some (x.drop l):=by
  constructor
  · unfold sliceO;rw [if_pos ⟨by omega,by omega,by omega⟩];simp
  · unfold sliceO;rw [if_pos ⟨by omega,by omega,by omega⟩]
    simp only [Int.toNat_natCast]
    rw [List.take_of_length_le (by simp)]
theorem specMissingPair (p:Int) (a b:List Nod):F_spec_MissingPair p a b = some (wMissingPair p a b):=by
  have hm:maxN = 1099511627776:=rfl
  refine bnd (dnTwo_ p a b) (stp ?_)
  unfold wMissingPair
  cases h:twoOk p a b with
  | false=>rfl
  | true=>
    obtain ⟨_,h1,h2,l,r,ka,kb⟩:=twoOk_facts h
    rw [if_pos rfl]
    simp only [if_pos h1,if_pos h2]
    have hl:(denV p a).1.toNat = l:=by rw [ka.left];omega
    rw [hl]
    refine cFW rfl (sqW (forO_find (hasB p (l + r) (denV p b).2.2) (fun x:List Int=>(x.take l,x.drop l,true)) (denV p a).2.2 0 (fun j x hj=>?_)) ?_)
    · rw [Nat.zero_add]
      have hx:=ka.red.ok x (mem_of_get hj)
      have hxl:=hx.1
      have:=ka.n24
      refine bnd (idxO_of hj) (bnd (hasL_ kb hx) (stp ?_))
      cases hasB p (l + r) (denV p b).2.2 x with
      | true=>rfl
      | false=>
        rw [ka.left]
        obtain ⟨s1,s2⟩:=halves (l:=l) (x:=x) (by omega)
        exact cTW rfl (bnd s1 (bnd s2 (bnd (own_ (by simp;omega)) (bnd (own_ (by simp;omega)) rfl))))
    · unfold wit missL;rw [wdT_eq ka]
      cases hq:(denV p a).2.2.find? (fun x=>!hasB p (l + r) (denV p b).2.2 x) with
      | none=>rfl
      | some x=>
        have hne:=red_row ka.red (List.mem_of_find?_eq_some hq)
        cases x with
        | nil=>exact absurd rfl hne
        | cons _ _=>rfl
theorem implMissingPair (p:Int) (a b:List Nod):F_impl_MissingPair p a b = some (wMissingPair p a b):=by
  have hm:maxN = 1099511627776:=rfl
  refine bnd (twoTerms_ p a b) (stp ?_)
  unfold wMissingPair
  cases h:twoOk p a b with
  | false=>rfl
  | true=>
    obtain ⟨h0,h1,h2,l,r,ka,kb⟩:=twoOk_facts h
    rw [if_pos rfl]
    simp only [if_pos h0]
    have hl:(denV p a).1.toNat = l:=by rw [ka.left];omega
    have hn:=ka.n24
    obtain ⟨m1,m2⟩:=missing_ kb ka
    refine cFW rfl (bnd m1 (stp ?_))
    rw [hl]
    unfold wit
    rw [wdT_eq ka]
    cases he:(missL p (l + r) (denV p b) (denV p a)).isEmpty with
    | true=>rfl
    | false=>
      have hx:=(wit_row ka (by rw [he];decide)).1
      refine cFW rfl (bnd (first_ (R:=denV p a) ka.left (by omega)) (bnd (clone_ (by simp;omega)) (bnd (second_ (R:=denV p a) ka.left (by omega)) (bnd (clone_ (by simp;omega)) rfl))))
theorem wit_len {p:Int} {a b:List Nod} (h:twoOk p a b = true):(wit p a b).length ≤ 24:=by
  obtain ⟨h0,h1,h2,l,r,ka,kb⟩:=twoOk_facts h
  have:=ka.n24
  unfold wit
  rw [wdT_eq ka]
  by_cases he:(missL p (l + r) (denV p b) (denV p a)).isEmpty = true
  · rw [List.isEmpty_iff.1 he];simp
  · have:=(wit_row ka he).1;omega
theorem boundMissingPair_0 (p:Int) (a b:List Nod):(wMissingPair p a b).1.length ≤ 1048576:=by
  unfold wMissingPair
  cases h:twoOk p a b with
  | false=>simp
  | true=>
    have:=wit_len h
    rw [if_pos rfl]
    split <;> simp;omega
theorem boundMissingPair_1 (p:Int) (a b:List Nod):(wMissingPair p a b).2.1.length ≤ 1048576:=by
  unfold wMissingPair
  cases h:twoOk p a b with
  | false=>simp
  | true=>
    have:=wit_len h
    rw [if_pos rfl]
    split <;> simp;omega
end Go.Proofs.YtlggnmkelgplnaaGreatDoor
namespace Go.Proofs.YtlggnmkelgplnaaGreatDoor
set_option linter.unusedVariables false
abbrev TyNode:=Int × Int × ByteArray
def nNode (a:TyNode):Nat:=a.2.2.size
def lensNode (a:TyNode):Prop:=(a.2.2.size:Int) ≤ 9223372036854775807
theorem z_Node (a:TyNode) (left:Int) (h0:0 ≤ left) (h1:left ≤ bigN) (hl:lensNode a):F_laws_szNode a left = some (if (nNode a:Int) ≤ left then left - nNode a else -1):=by
  unfold bigN at h1
  have l0:=hl
  unfold lensNode at l0
  unfold nNode
  refine bnd (subO_of (by omega) (by omega)) (stp ?_)
  by_cases g0:(a.2.2.size:Int) ≤ left
  case neg=>
    rw [if_neg (by omega)]
    exact cTW (dT (by omega)) rfl
  rw [if_pos (by omega)]
  refine cFW (dF (by omega)) ?_
  congr 1;try omega
theorem niceLensNode {a:TyNode} (h:Nice.ok a):lensNode a:=by
  obtain ⟨h0,h1,h2⟩:=h
  exact h2
theorem t_Node (a:TyNode) (h:nNode a ≤ 1048576):F_laws_toNode a = some a:=by
  unfold nNode at h
  exact rfl
theorem e_Node (a:TyNode) (h:nNode a ≤ 1048576):F_laws_eqNode a a = some true:=by
  unfold nNode at h
  exact stp (cFW (nT (dT rfl)) (stp (cFW (nT (dT rfl)) (stp (cFW (nT (dT rfl)) (rfl))))))
abbrev TyNodeS:=List TyNode
def nNodeS (a:TyNodeS):Nat:=a.length + tot nNode a
def lensNodeS (a:TyNodeS):Prop:=lenOk a ∧ ∀ x ∈ a,lensNode x
theorem z_NodeS (a:TyNodeS) (left:Int) (h0:0 ≤ left) (h1:left ≤ bigN) (hl:lensNodeS a):F_laws_szNodeS a left = some (if (nNodeS a:Int) ≤ left then left - nNodeS a else -1):=by
  have hl1:=hl.1;unfold lenOk at hl1;unfold bigN at h1
  unfold nNodeS
  refine bnd (subO_of (by omega) (by omega)) (stp ?_)
  by_cases h:(a.length:Int) ≤ left
  · refine cFW (dF (by omega)) (sqW (sz_loop nNode a (left - a.length) ?_ ?_ a [] _ rfl ?_ (Int.le_refl _)) ?_)
    · intro j r s hj hjl hs hsB
      dsimp only
      refine stp (cTW (dT (by omega)) (bnd (idxO_of hj) (bnd (z_Node r s hs (by unfold bigN;omega) (hl.2 r (mem_of_get hj))) (stp ?_))))
      by_cases h2:(nNode r:Int) ≤ s
      · rw [if_pos h2,if_pos h2];exact cFW (dF (by omega)) (bnd (addO_of (by omega) (by omega)) rfl)
      · rw [if_neg h2,if_neg h2];exact cTW (dT (by omega)) rfl
    · intro s;dsimp only;exact stp (cFW (dF (by omega)) rfl)
    · omega
    · by_cases h2:(tot nNode a:Int) ≤ left - a.length
      · rw [if_pos h2,if_pos (by omega),seqO_l];congr 1;omega
      · rw [if_neg h2,if_neg (by omega),seqO_r]
  · rw [if_neg (by omega)];exact cTW (dT (by omega)) rfl
theorem niceLensNodeS {a:TyNodeS} (h:Nice.ok a):lensNodeS a:=⟨h.1,fun x hx=>niceLensNode (h.2 x hx)⟩
theorem t_NodeS (a:TyNodeS) (h:nNodeS a ≤ 1048576):F_laws_toNodeS a = some a:=by
  have hm:maxN = 1099511627776:=rfl
  unfold nNodeS at h
  refine bnd (makeO_of _ (by omega)) (bnd (to_loop _ a ?_ ?_ a [] rfl) rfl)
  · intro j x s hj hjl hs
    dsimp only
    exact stp (cTW (dT (by omega)) (bnd (idxO_of hj) (bnd (t_Node x (by have:=tot_mem (n:=nNode) (mem_of_get hj);omega)) (bnd (setO_of _ (by omega)) (bnd (addO_of (by omega) (by omega)) rfl)))))
  · intro s hs;dsimp only;exact stp (cFW (dF (by omega)) rfl)
theorem e_NodeS (a:TyNodeS) (h:nNodeS a ≤ 1048576):F_laws_eqNodeS a a = some true:=by
  unfold nNodeS at h
  refine stp (cFW (nT (dT rfl)) (sqW (whileO_is (fun j=>(j:Int)) (t:=.inl ()) a.length ?_ ?_) ?_))
  · intro j hj
    exact stp (cTW (dT (by omega)) (bnd (idxO_of (List.getElem?_eq_getElem hj)) (bnd (idxO_of (List.getElem?_eq_getElem hj)) (bnd (e_Node a[j] (by have:=tot_mem (n:=nNode) (List.getElem_mem hj);omega)) (stp (cFW rfl (bnd (addO_of (by omega) (by omega)) rfl)))))))
  · exact stp (cFW (dF (by omega)) rfl)
  · rfl
def mkE_Node (x:TyNode) (q:Int):TyNode × Int:=((q,(q + 1),mText ((q + 1) + 1)),(((q + 1) + 1) + 1))
def cE_Node (x:TyNode):Nat:=3
theorem mkE_Node_snd (x:TyNode) (q:Int):(mkE_Node x q).2 = q + cE_Node x:=by
  unfold mkE_Node cE_Node
  dsimp only
  omega
theorem cE_Node_le (x:TyNode):cE_Node x ≤ 8 * (1 + nNode x):=by
  unfold cE_Node nNode
  omega
def mk_NodeS:TyNodeS → Int → TyNodeS × Int:=mkL mkE_Node
def cNodeS (a:TyNodeS):Nat:=tot cE_Node a
theorem cNodeS_le (a:TyNodeS):cNodeS a ≤ 8 * nNodeS a:=by
  have:=totLe2 cE_Node_le a
  rw [nE_sum] at this
  exact this
theorem mk_NodeS_snd (a:TyNodeS) (k:Int):(mk_NodeS a k).2 = k + cNodeS a:=mkL_snd mkE_Node cE_Node mkE_Node_snd a k
theorem m_NodeS (a:TyNodeS) (k:Int) (h0:0 ≤ k) (h:k + 8 * nNodeS a ≤ 1125899906842624):F_laws_markNodeS a k = some (mk_NodeS a k):=by
  have hsum:=nE_sum nNode a
  unfold nNodeS at h
  refine bnd (mark_loop2 mkE_Node cE_Node (fun x=>8 * (1 + nNode x)) mkE_Node_snd cE_Node_le a.length 1125899906842624 ?_ ?_ a [] k (by simp) h0 (by rw [hsum];omega)) rfl
  · intro j x s q hj hs hjl hq hB
    dsimp only at hB ⊢
    unfold nNode at hB
    refine stp (cTW (dT (by omega)) ?_)
    refine bnd (idxO_of hj) ?_
    refine bnd (setO_of _ (by omega)) ?_
    refine bnd (addO_of (by omega) (by omega)) ?_
    refine bnd (idxO_of (a:=(q,x.2.1,x.2.2)) (by rw [List.getElem?_set_self (by omega)])) ?_
    refine bnd (setO_of _ (by simp only [List.length_set];omega)) ?_
    refine bnd (addO_of (by omega) (by omega)) ?_
    refine bnd (markText_ _ (by omega) (by omega)) ?_
    refine bnd (idxO_of (a:=(q,(q + 1),x.2.2)) (by rw [List.getElem?_set_self (by simp only [List.length_set];omega)])) ?_
    refine bnd (setO_of _ (by simp only [List.length_set];omega)) ?_
    refine bnd (addO_of (by omega) (by omega)) ?_
    refine bnd (addO_of (by omega) (by omega)) ?_
    simp only [List.set_set];rfl
  · intro s q hs;dsimp only;exact stp (cFW (dF (by omega)) rfl)
abbrev TyTerm:=List (Int × Int × ByteArray)
def nTerm (a:TyTerm):Nat:=nNodeS a
def lensTerm (a:TyTerm):Prop:=lensNodeS a
theorem z_Term (a:TyTerm) (left:Int) (h0:0 ≤ left) (h1:left ≤ bigN) (hl:lensTerm a):F_laws_szTerm a left = some (if (nTerm a:Int) ≤ left then left - nTerm a else -1):=by
  unfold bigN at h1
  have l0:=hl
  unfold lensTerm at l0
  unfold nTerm
  refine bnd (z_NodeS a (left) (by omega) (by unfold bigN;omega) l0) (stp ?_)
  by_cases g0:(nNodeS a:Int) ≤ left
  case neg=>
    rw [if_neg g0];try rw [if_neg (by omega)]
    exact cTW (dT (by omega)) rfl
  rw [if_pos g0]
  try rw [if_pos (by omega)]
  refine cFW (dF (by omega)) ?_
  congr 1;try omega
theorem niceLensTerm {a:TyTerm} (h:Nice.ok a):lensTerm a:=by
  have h0:=h
  exact niceLensNodeS h0
theorem t_Term (a:TyTerm) (h:nTerm a ≤ 1048576):F_laws_toTerm a = some a:=by
  unfold nTerm at h
  exact bnd (t_NodeS a (by omega)) (rfl)
theorem e_Term (a:TyTerm) (h:nTerm a ≤ 1048576):F_laws_eqTerm a a = some true:=by
  unfold nTerm at h
  exact bnd (e_NodeS a (by omega)) (stp (cFW rfl (rfl)))
def mk_Term (a:TyTerm) (k:Int):TyTerm × Int:=((mk_NodeS a k).1,(mk_NodeS a k).2)
def cTerm (a:TyTerm):Nat:=cNodeS a
theorem cTerm_le (a:TyTerm):cTerm a ≤ 8 * nTerm a:=by
  unfold cTerm nTerm
  have hc0:=cNodeS_le a
  omega
theorem mk_Term_snd (a:TyTerm) (k:Int):(mk_Term a k).2 = k + cTerm a:=by
  unfold mk_Term cTerm
  simp only [mk_NodeS_snd]
  try omega
theorem m_Term (a:TyTerm) (k:Int) (h0:0 ≤ k) (h:k + 8 * nTerm a ≤ 1125899906842624):F_laws_markTerm a k = some (mk_Term a k):=by
  unfold nTerm at h
  have hc0:=cNodeS_le a
  exact bnd (m_NodeS _ _ h0 (by omega)) (rfl)
end Go.Proofs.YtlggnmkelgplnaaGreatDoor
namespace Go.Proofs.YtlggnmkelgplnaaGreatDoor
set_option linter.unusedVariables false
theorem lawN_MissingPair (a0:Int) (a1:TyTerm) (a2:TyTerm) (i0:Nice.ok a0) (i1:Nice.ok a1) (i2:Nice.ok a2):F_laws_FnExactMissingPair a0 a1 a2 = some true:=by
  have hbig:bigN = 4611686018427387904:=rfl
  refine bnd (z_Term a1 1048576 (by omega) (by rw [hbig];omega) (niceLensTerm i1)) (stp ?_)
  by_cases gaA:(nTerm a1:Int) ≤ 1048576
  case neg=>rw [if_neg gaA];exact cTW (dT (by omega)) rfl
  rw [if_pos gaA]
  refine cFW (dF (by omega)) ?_
  have haA:nTerm a1 ≤ 1048576:=by omega
  refine bnd (z_Term a2 (1048576 - (nTerm a1:Int)) (by omega) (by rw [hbig];omega) (niceLensTerm i2)) (stp ?_)
  by_cases gaB:(nTerm a2:Int) ≤ 1048576 - (nTerm a1:Int)
  case neg=>rw [if_neg gaB];exact cTW (dT (by omega)) rfl
  rw [if_pos gaB]
  refine cFW (dF (by omega)) ?_
  have haB:nTerm a2 ≤ 1048576:=by omega
  first
  | refine bnd (t_Term a1 haA) (bnd (t_Term a2 haB) (bnd (specMissingPair a0 a1 a2) ?_))
  | refine bnd (bnd (t_Term a1 haA) (bnd (t_Term a2 haB) (bnd (specMissingPair a0 a1 a2) rfl))) ?_
  refine bnd (t_Term a1 haA) ?_
  refine bnd (t_Term a2 haB) ?_
  refine bnd (implMissingPair a0 a1 a2) ?_
  have b0:nIntS (wMissingPair a0 a1 a2).1 ≤ 1048576:=boundMissingPair_0 a0 a1 a2
  have cb0:=cIntS_le (wMissingPair a0 a1 a2).1
  have b1:nIntS (wMissingPair a0 a1 a2).2.1 ≤ 1048576:=boundMissingPair_1 a0 a1 a2
  have cb1:=cIntS_le (wMissingPair a0 a1 a2).2.1
  refine bnd (a:=false) (bnd (e_IntS _ b0) (stp (cFW rfl (bnd (e_IntS _ b1) (stp (cFW rfl (stp (congrArg some (nT (dT rfl)))))))))) (cFW rfl ?_)
  refine bnd (t_Term _ haA) (bnd (e_Term _ haA) (stp (cFW rfl ?_)))
  refine bnd (t_Term _ haB) (bnd (e_Term _ haB) (stp (cFW rfl ?_)))
  have caA:=cTerm_le a1
  refine bnd (m_Term a1 _ (by omega) (by omega)) ?_
  have caB:=cTerm_le a2
  refine bnd (m_Term a2 _ (by simp only [mk_Term_snd];omega) (by simp only [mk_Term_snd];omega)) ?_
  refine bnd (a:=false) (stp (cFW (dF (by simp only [mk_Term_snd];omega)) (bnd (e_IntS _ b0) (stp (cFW rfl (bnd (e_IntS _ b1) (stp (cFW rfl (stp (congrArg some (nT (dT rfl)))))))))))) (cFW rfl ?_)
  refine bnd (m_IntS (wMissingPair a0 a1 a2).1 _ (by omega) (by omega)) ?_
  refine bnd ((congrArg (F_laws_markIntS _) (mk_IntS_snd _ _)).trans (m_IntS (wMissingPair a0 a1 a2).2.1 _ (by omega) (by omega))) ?_
  refine bnd (h_IntS (wMissingPair a0 a1 a2).1 _ (by omega) (by omega)) (stp (cFW (dF (by omega)) ?_))
  refine bnd (h_IntS (wMissingPair a0 a1 a2).2.1 _ (by omega) (by omega)) (stp (cFW (dF (by omega)) ?_))
  refine stp (cFW (nT (dT (by simp only [mk_IntS_snd]))) ?_)
  first
  | refine bnd (t_Term a1 haA) (bnd (t_Term a2 haB) (bnd (implMissingPair a0 a1 a2) ?_))
  | refine bnd (bnd (t_Term a1 haA) (bnd (t_Term a2 haB) (bnd (implMissingPair a0 a1 a2) rfl))) ?_
  refine bnd (a:=false) (bnd (e_IntS _ b0) (stp (cFW rfl (bnd (e_IntS _ b1) (stp (cFW rfl (stp (congrArg some (nT (dT rfl)))))))))) (cFW rfl ?_)
  refine bnd (h_IntS (wMissingPair a0 a1 a2).1 _ (by omega) (by omega)) (stp (cFW (dF (by omega)) ?_))
  refine bnd (h_IntS (wMissingPair a0 a1 a2).2.1 _ (by omega) (by omega)) (stp (cFW (dF (by omega)) ?_))
  refine stp (cFW (nT (dT (by simp only [mk_IntS_snd]))) ?_)
  rfl
end Go.Proofs.YtlggnmkelgplnaaGreatDoor
