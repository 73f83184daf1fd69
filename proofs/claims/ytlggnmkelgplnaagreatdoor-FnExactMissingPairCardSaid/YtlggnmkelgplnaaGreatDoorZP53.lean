/-
  Plain laws: the law's helpers for struct types with lists of structs and strings, printed by a program (wip/y/lem2.py). No program in sight. No condition.
-/
import Derived.Test.YtlggnmkelgplnaaGreatDoorZP49
import Derived.Test.YtlggnmkelgplnaaGreatDoorZP17
import Derived.Test.YtlggnmkelgplnaaGreatDoorZFn
namespace Go.Proofs.YtlggnmkelgplnaaGreatDoor
set_option linter.unusedVariables false
theorem nE_sum {α:Type} (f:α → Nat) (l:List α):tot (fun x=>8 * (1 + f x)) l = 8 * (l.length + tot f l):=by
  induction l with
  | nil=>rfl
  | cons a l ih=>rw [tot_cons,tot_cons,ih,List.length_cons];omega
theorem totLe2 {α:Type} {f g:α → Nat} (h:∀ a,f a ≤ g a) (l:List α):tot f l ≤ tot g l:=by
  induction l with
  | nil=>exact Nat.le_refl _
  | cons a l ih=>rw [tot_cons,tot_cons];have:=h a;omega
theorem mark_loop2 {α:Type} (mk:α → Int → α × Int) (n M:α → Nat) (hmk:∀ a k,(mk a k).2 = k + n a) (hnM:∀ a,n a ≤ M a) {f:List α × Int × Int → Option ((List α × Int × Int) ⊕ (List α × Int))} (N:Nat) (B:Int)
    (hf:∀ (j:Nat) (a:α) (s:List α) (q:Int),s[j]? = some a → s.length = N → j < N → 0 ≤ q → q + M a ≤ B → f (s,q,(j:Int)) = some (.inl (s.set j (mk a q).1,(mk a q).2,(j:Int) + 1)))
    (he:∀ (s:List α) (q:Int),s.length = N → f (s,q,(N:Int)) = some (.inr (s,q))):∀ (rest pre:List α) (q:Int),pre.length + rest.length = N → 0 ≤ q → q + tot M rest ≤ B → whileO f (pre ++ rest,q,(pre.length:Int)) = some (pre ++ (mkL mk rest q).1,(mkL mk rest q).2)
  | [],pre,q,hN,_,_=>by
    have h1:pre.length = N:=by simpa using hN
    have:=he pre q h1
    rw [← h1] at this
    rw [List.append_nil,whileO_end this];simp [mkL]
  | a :: rest,pre,q,hN,h0,hB=>by
    rw [tot_cons] at hB
    have hn:=hnM a
    have h1:=hf pre.length a (pre ++ a :: rest) q (get_app _ _ _) (by simpa using hN) (by simp at hN;omega) h0 (by omega)
    have ih:=mark_loop2 mk n M hmk hnM N B hf he rest (pre ++ [(mk a q).1]) (mk a q).2 (by simp at hN ⊢;omega) (by rw [hmk];omega) (by rw [hmk];omega)
    rw [set_app,app1 pre rest (mk a q).1,← len1 pre (mk a q).1] at h1
    rw [whileO_step h1,ih]
    simp [mkL]
end Go.Proofs.YtlggnmkelgplnaaGreatDoor
namespace Go.Proofs.YtlggnmkelgplnaaGreatDoor
structure GOk (g:Gra) (n:Nat):Prop where
  w:g.1 = (n:Int)
  n100:n ≤ 100
  e60:g.2.1.length ≤ 60
  i12:g.2.2.1.length ≤ 12
  o12:g.2.2.2.length ≤ 12
  i:inRg n g.2.2.1
  o:inRg n g.2.2.2
  e:edRg n g.2.1
  ar:g.2.1.all arB = true
  ti:totE g.2.1 edI ≤ 120
  to:totE g.2.1 edO ≤ 120
  cov:∀ k:Nat,k < n → (k:Int) ∈ allW g
theorem gOk_facts {g:Gra} (h:gOk g = true):∃ n,GOk g n:=by
  unfold gOk at h
  simp only [Bool.and_eq_true,decide_eq_true_eq] at h
  obtain ⟨h1,h2,h3,h4,h5,h6,h7,h8⟩:=h
  have hr:=rng_true.1 h1
  obtain ⟨n,hn⟩:∃ n:Nat,g.1 = (n:Int):=⟨g.1.toNat,by omega⟩
  rw [hn] at h5 h6 h7 h8
  have h9:=totE_le (edW_arB h7)
  refine ⟨n,hn,by omega,h2,h3,h4,inW_rng h5,inW_rng h6,edW_rng h7,edW_arB h7,by omega,by omega,fun k hk=>?_⟩
  rw [Int.toNat_natCast] at h8
  exact of_decide_eq_true (List.all_eq_true.1 h8 k (List.mem_range.2 hk))
end Go.Proofs.YtlggnmkelgplnaaGreatDoor
namespace Go.Proofs.YtlggnmkelgplnaaGreatDoor
end Go.Proofs.YtlggnmkelgplnaaGreatDoor
namespace Go.Proofs.YtlggnmkelgplnaaGreatDoor
def joinC (c:Nat → Nat) (u v:Nat):Nat → Nat:=fun w=>if c w = max (c u) (c v) then min (c u) (c v) else c w
structure Cls (c:Nat → Nat):Prop where
  le:∀ w,c w ≤ w
  idem:∀ w,c (c w) = c w
theorem Cls.join {c:Nat → Nat} (h:Cls c) (u v:Nat):Cls (joinC c u v):=by
  have iu:=h.idem u;have iv:=h.idem v
  refine ⟨fun w=>?_,fun w=>?_⟩
  · unfold joinC
    have:=h.le w
    split <;> omega
  · unfold joinC
    by_cases hw:c w = max (c u) (c v)
    · rw [if_pos hw]
      have hk:c (min (c u) (c v)) = min (c u) (c v):=by
        rcases Nat.le_total (c u) (c v) with h1 | h1
        · rw [Nat.min_eq_left h1,iu]
        · rw [Nat.min_eq_right h1,iv]
      rw [hk]
      split <;> rfl
    · rw [if_neg hw,h.idem w,if_neg hw]
structure Forest (n:Nat) (c cls:Nat → Nat):Prop where
  le:∀ w,w < n → c w ≤ w
  fix:∀ w,w < n → c w = w → cls w = w
  up:∀ w,w < n → cls (c w) = cls w
theorem Forest.join {n:Nat} {c cls:Nat → Nat} (h:Forest n c cls) (hc:Cls cls) (u v:Nat):Forest n (fun k=>if k = max (cls u) (cls v) then min (cls u) (cls v) else c k) (joinC cls u v):=by
  have iu:=hc.idem u;have iv:=hc.idem v
  have hm:cls (max (cls u) (cls v)) = max (cls u) (cls v):=by
    rcases Nat.le_total (cls u) (cls v) with h1 | h1
    · rw [Nat.max_eq_right h1,iv]
    · rw [Nat.max_eq_left h1,iu]
  have hk:cls (min (cls u) (cls v)) = min (cls u) (cls v):=by
    rcases Nat.le_total (cls u) (cls v) with h1 | h1
    · rw [Nat.min_eq_left h1,iu]
    · rw [Nat.min_eq_right h1,iv]
  refine ⟨fun w hw=>?_,fun w hw=>?_,fun w hw=>?_⟩
  · have:=h.le w hw
    split <;> omega
  · unfold joinC
    intro hf
    by_cases hwm:w = max (cls u) (cls v)
    · rw [if_pos hwm] at hf
      subst hwm
      rw [hm,if_pos rfl];exact hf
    · rw [if_neg hwm] at hf
      have:=h.fix w hw hf
      rw [this,if_neg hwm]
  · unfold joinC
    by_cases hwm:w = max (cls u) (cls v)
    · rw [if_pos hwm,hwm,hm,if_pos rfl,hk]
      split <;> rfl
    · rw [if_neg hwm,h.up w hw]
end Go.Proofs.YtlggnmkelgplnaaGreatDoor
namespace Go.Proofs.YtlggnmkelgplnaaGreatDoor
end Go.Proofs.YtlggnmkelgplnaaGreatDoor
namespace Go.Proofs.YtlggnmkelgplnaaGreatDoor
instance:Nice ByteArray:=⟨fun s=>(s.size:Int) ≤ 9223372036854775807⟩
def byD (n:Int):ByteArray:=ofBytes ([(48 + n.tmod 10) % 256]:List Int)
def mDig:Nat → Int → ByteArray → ByteArray
  | 0,_,s=>s
  | f + 1,n,s=>if 0 < n then mDig f (n.tdiv 10) (byD n ++ s) else s
def mText (k:Int):ByteArray:=if k ≤ 0 then ⟨#[109,48]⟩ else ⟨#[109]⟩ ++ mDig (k.toNat + 1) k .empty
theorem catO_of {a b:ByteArray} (h:a.size + b.size ≤ 9223372036854775807):catO a b = some (a ++ b):=if_pos (by omega)
theorem byD_size (n:Int):(byD n).size = 1:=rfl
theorem markText_ (k:Int) (h0:0 ≤ k) (h:k ≤ 1125899906842624):F_laws_markText k = some (mText k):=by
  unfold mText
  by_cases hk:k ≤ 0
  · rw [if_pos hk];exact stp (cTW (dT hk) rfl)
  · rw [if_neg hk]
    have key:∀ (f:Nat) (n:Int) (s:ByteArray),0 ≤ n → n.toNat < f → n + s.size ≤ 1125899906842624 → (mDig f n s).size ≤ 1125899906842624 ∧ whileO (fun (s123:Int × ByteArray)=>
        (some (decide ((0:Int) < s123.1))).bind fun a132=>
        cond a132
        ((remO s123.1 10).bind fun a137=>
          (addO 48 a137).bind fun a139=>
          (some (a139 % 256)).bind fun a141=>
          (some (ofBytes ([a141]:List By))).bind fun a146=>
          (catO a146 s123.2).bind fun a148=>
          (quoO s123.1 10).bind fun a150=>
          some (.inl (a150,a148)))
        (some (.inr s123.2))) (n,s) = some (mDig f n s):=by
      intro f
      induction f with
      | zero=>intro n s h1 h2 h3;omega
      | succ f ih=>
        intro n s h1 h2 h3
        rw [mDig]
        by_cases hn:0 < n
        · rw [if_pos hn]
          have e:n.tdiv 10 = n / 10:=Int.tdiv_eq_ediv_of_nonneg h1
          have e2:n.tmod 10 = n % 10:=Int.tmod_eq_emod_of_nonneg h1
          have hq:quoO n 10 = some (n.tdiv 10):=by unfold quoO;rw [if_neg (by decide)];exact cI_of ⟨by omega,by omega⟩
          have hs:(byD n ++ s).size = s.size + 1:=by rw [ByteArray.size_append,byD_size];omega
          obtain ⟨i1,i2⟩:=ih (n.tdiv 10) (byD n ++ s) (by omega) (by omega) (by rw [hs];omega)
          refine ⟨i1,?_⟩
          have st:=catO_of (a:=byD n) (b:=s) (by rw [byD_size];omega)
          rw [← i2]
          exact whileO_step (stp (cTW (dT hn) (bnd (remO_of (by decide)) (bnd (addO_of (by dsimp only;omega) (by dsimp only;omega)) (stp (stp (bnd st (bnd hq rfl))))))))
        · rw [if_neg hn]
          exact ⟨by omega,whileO_end (stp (cFW (dF hn) rfl))⟩
    obtain ⟨k1,k2⟩:=key (k.toNat + 1) k .empty (by omega) (by omega) (by show k + 0 ≤ _;omega)
    have hz:(⟨#[109]⟩:ByteArray).size = 1:=rfl
    have hc:=catO_of (a:=⟨#[109]⟩) (b:=mDig (k.toNat + 1) k .empty) (by omega)
    refine stp (cFW (dF hk) (bnd k2 ?_))
    exact bnd hc rfl
end Go.Proofs.YtlggnmkelgplnaaGreatDoor
namespace Go.Proofs.YtlggnmkelgplnaaGreatDoor
abbrev Nod:=Int × Int × ByteArray
inductive Tr where
  | leaf (n:Nod)
  | node (k:Int) (a b:Tr)
def flat:Tr → List Nod
  | .leaf n=>[n]
  | .node k a b=>flat a ++ flat b ++ [(k,0,.empty)]
theorem flat_pos:∀ T:Tr,0 < (flat T).length
  | .leaf _=>by simp [flat]
  | .node _ _ _=>by simp [flat];omega
def lfB (n:Nod):Bool:=decide (n.2.2 = .empty) && (rng n.1 1 14 && (if n.1 = 1 then rng n.2.1 0 12 else if n.1 = 7 ∨ n.1 = 13 then rng n.2.1 0 96 else decide (n.2.1 = 0)))
def lfT (n:Nod):Int × Int:=if n.1 = 1 then (n.2.1,n.2.1) else kd n.1
def jn (k:Int) (x y:Int × Int):Option (Int × Int):=if k = 15 then (if x.2 = y.1 then some (x.1,y.2) else none) else if x.1 + y.1 ≤ 12 ∧ x.2 + y.2 ≤ 12 then some (x.1 + y.1,x.2 + y.2) else none
abbrev Stk:=List (Tr × (Int × Int))
def stepT (S:Stk) (n:Nod):Option Stk:=
  if n.1 = 15 ∨ n.1 = 16 then
    if n.2.1 = 0 ∧ n.2.2 = .empty then match S with
      | (b,y) :: (a,x) :: S'=>(jn n.1 x y).map fun w=>(.node n.1 a b,w) :: S'
      | _=>none
    else none
  else if lfB n = true then some ((.leaf n,lfT n) :: S) else none
def runT:List Nod → Stk → Option Stk
  | [],S=>some S
  | n :: t,S=>(stepT S n).bind fun S'=>runT t S'
theorem runT_app:∀ (a b:List Nod) (S:Stk),runT (a ++ b) S = (runT a S).bind fun S'=>runT b S'
  | [],b,S=>rfl
  | n :: a,b,S=>by
    show (stepT S n).bind _ = ((stepT S n).bind _).bind _
    cases stepT S n with
    | none=>rfl
    | some S'=>exact runT_app a b S'
theorem runT_take {t:List Nod} {j:Nat} (hj:j < t.length) {S:Stk} (h:runT (t.take j) [] = some S):runT (t.take (j + 1)) [] = stepT S t[j]:=by
  rw [List.take_add_one,List.getElem?_eq_getElem hj,runT_app,h]
  show (stepT S t[j]).bind _ = _
  cases stepT S t[j] <;> rfl
theorem runT_none {t:List Nod} {j:Nat} (h:runT (t.take j) [] = none):runT t [] = none:=by
  have:t = t.take j ++ t.drop j:=(List.take_append_drop _ _).symm
  rw [this,runT_app,h];rfl
def validB (t:List Nod):Bool:=rng t.length 1 400 && (match runT t [] with | some [_]=>true | _=>false)
def wOk2 (w:Int × Int):Prop:=0 ≤ w.1 ∧ w.1 ≤ 12 ∧ 0 ≤ w.2 ∧ w.2 ≤ 12
theorem lfT_ok {n:Nod} (h:lfB n = true):wOk2 (lfT n):=by
  unfold lfB at h
  simp only [Bool.and_eq_true,decide_eq_true_eq] at h
  unfold lfT
  by_cases h1:n.1 = 1
  · rw [if_pos h1]
    rw [if_pos h1] at h
    have:=rng_true.1 h.2.2
    exact ⟨this.1,this.2,this.1,this.2⟩
  · rw [if_neg h1]
    have:=kd_le n.1
    exact ⟨by omega,by omega,by omega,by omega⟩
theorem jn_ok {k:Int} {x y w:Int × Int} (hx:wOk2 x) (hy:wOk2 y) (h:jn k x y = some w):wOk2 w:=by
  obtain ⟨a1,a2,a3,a4⟩:=hx
  obtain ⟨b1,b2,b3,b4⟩:=hy
  unfold jn at h
  split at h
  · split at h
    · obtain rfl:=Option.some.inj h;exact ⟨a1,a2,b3,b4⟩
    · cases h
  · split at h
    · obtain rfl:=Option.some.inj h
      exact ⟨by dsimp only;omega,by dsimp only;omega,by dsimp only;omega,by dsimp only;omega⟩
    · cases h
def stkOk (S:Stk):Prop:=∀ p ∈ S,wOk2 p.2
theorem stepT_ok {S S':Stk} {n:Nod} (hS:stkOk S) (h:stepT S n = some S'):stkOk S':=by
  unfold stepT at h
  split at h
  · split at h
    · split at h
      · rename_i b y a x S0
        obtain ⟨w,hw,rfl⟩:=Option.map_eq_some_iff.1 h
        intro p hp
        rcases List.mem_cons.1 hp with rfl | hp
        · exact jn_ok (hS (a,x) (by simp)) (hS (b,y) (by simp)) hw
        · exact hS p (by simp [hp])
      · cases h
    · cases h
  · split at h
    · obtain rfl:=Option.some.inj h
      intro p hp
      rcases List.mem_cons.1 hp with rfl | hp
      · exact lfT_ok ‹_›
      · exact hS p hp
    · cases h
theorem runT_ok:∀ (t:List Nod) (S S':Stk),stkOk S → runT t S = some S' → stkOk S'
  | [],S,S',hS,h=>by obtain rfl:=Option.some.inj h;exact hS
  | n :: t,S,S',hS,h=>by
    obtain ⟨S1,h1,h2⟩:=bindS h
    exact runT_ok t S1 S' (stepT_ok hS h1) h2
def stkN (S:Stk):List Nod:=(S.reverse.map fun p=>flat p.1).flatten
theorem stepT_flat {S S':Stk} {n:Nod} (h:stepT S n = some S'):stkN S' = stkN S ++ [n]:=by
  unfold stepT at h
  split at h
  · split at h
    · rename_i h0
      split at h
      · rename_i b y a x S0
        obtain ⟨w,hw,rfl⟩:=Option.map_eq_some_iff.1 h
        unfold stkN
        obtain ⟨k,v,s⟩:=n
        obtain ⟨rfl,rfl⟩:=h0
        simp [flat,List.append_assoc]
      · cases h
    · cases h
  · split at h
    · obtain rfl:=Option.some.inj h
      unfold stkN
      simp [flat]
    · cases h
theorem runT_flat:∀ (t:List Nod) (S S':Stk),runT t S = some S' → stkN S' = stkN S ++ t
  | [],S,S',h=>by obtain rfl:=Option.some.inj h;simp
  | n :: t,S,S',h=>by
    obtain ⟨S1,h1,h2⟩:=bindS h
    rw [runT_flat t S1 S' h2,stepT_flat h1,List.append_assoc];rfl
theorem tmLeaf_ (n:Nod):F_spec_tmLeaf n = some (lfB n):=by
  obtain ⟨k,v,s⟩:=n
  unfold F_spec_tmLeaf lfB
  by_cases hs:s = .empty
  case neg=>simp [hs]
  cases hr:rng k 1 14 with
  | false=>simp [hs,l1In,hr]
  | true=>
    by_cases h1:k = 1
    · subst h1;simp [hs,l1In,hr]
    by_cases h7:k = 7
    · subst h7;simp [hs,l1In,hr]
    by_cases h13:k = 13
    · subst h13;simp [hs,l1In,hr]
    simp [hs,l1In,hr,h1,h7,h13]
theorem tmArity_ (n:Nod):F_spec_tmArity n = some (lfT n):=by
  obtain ⟨k,v,s⟩:=n
  unfold F_spec_tmArity lfT
  by_cases h1:k = 1
  · simp [h1]
  · simp [h1,tmKind_]
theorem leafWires_ (n:Nod):∃ w,F_impl_leafWires n = some (w,lfB n) ∧ (lfB n = true → w = lfT n):=by
  obtain ⟨k,v,s⟩:=n
  by_cases hs:s = .empty
  case neg=>
    refine ⟨(0,0),?_,fun h=>?_⟩
    · unfold F_impl_leafWires lfB;simp [hs]
    · unfold lfB at h;simp [hs] at h
  by_cases h1:k = 1
  · subst h1
    refine ⟨(v,v),?_,fun _=>rfl⟩
    have hr:rng 1 1 14 = true:=by decide
    unfold F_impl_leafWires lfB;simp [hs,within_,hr]
  by_cases h2:k = 2
  · subst h2
    refine ⟨(2,2),?_,fun _=>rfl⟩
    have hr:rng 2 1 14 = true:=by decide
    unfold F_impl_leafWires lfB;simp [hs,hr]
  cases hg:rng k 3 14 with
  | false=>
    have hr:rng k 1 14 = false:=by
      cases hr:rng k 1 14 with
      | false=>rfl
      | true=>
        have:=rng_true.1 hr
        have:rng k 3 14 = true:=rng_true.2 (by omega)
        rw [this] at hg;cases hg
    refine ⟨(0,0),?_,fun h=>?_⟩
    · unfold F_impl_leafWires lfB F_impl_isGenerator;simp [hs,h1,h2,within_,hg,hr]
    · unfold lfB at h;simp [hr] at h
  | true=>
    have hb:=rng_true.1 hg
    have hr:rng k 1 14 = true:=rng_true.2 (by omega)
    refine ⟨kd k,?_,fun _=>by unfold lfT;rw [if_neg h1]⟩
    have hgen:genB k v = (if k = 7 ∨ k = 13 then rng v 0 96 else decide (v = 0)):=by unfold genB;rw [hg,Bool.true_and]
    unfold F_impl_leafWires lfB F_impl_isGenerator
    simp only [hs,h1,h2,within_,hg,hr,generatorWires_ hg,isGeneratorValue_ hg,hgen,decide_true,decide_false,Bool.not_true,cond_false,cond_true,Option.bind_some,Bool.true_and,if_false]
theorem joinWires_ {k:Int} {x y:Int × Int} (hx:wOk2 x) (hy:wOk2 y):∃ w,F_impl_joinWires k x y = some (w,(jn k x y).isSome) ∧ ∀ z,jn k x y = some z → w = z:=by
  obtain ⟨x1,x2⟩:=x
  obtain ⟨y1,y2⟩:=y
  obtain ⟨a1,a2,a3,a4⟩:=hx
  obtain ⟨b1,b2,b3,b4⟩:=hy
  dsimp only at a1 a2 a3 a4 b1 b2 b3 b4
  by_cases hk:k = 15
  · refine ⟨(x1,y2),?_,fun z hz=>?_⟩
    · unfold F_impl_joinWires jn
      by_cases h:x2 = y1
      · simp [hk,h]
      · simp [hk,h]
    · unfold jn at hz
      rw [if_pos hk] at hz
      split at hz
      · exact Option.some.inj hz
      · cases hz
  · refine ⟨(x1 + y1,x2 + y2),?_,fun z hz=>?_⟩
    · have s1:addO x1 y1 = some (x1 + y1):=addO_of (by omega) (by omega)
      have s2:addO x2 y2 = some (x2 + y2):=addO_of (by omega) (by omega)
      unfold F_impl_joinWires jn F_impl_wires_fit
      by_cases h1:x1 + y1 ≤ 12
      · by_cases h2:x2 + y2 ≤ 12
        · simp [hk,s1,s2,h1,h2]
        · simp [hk,s1,s2,h1,h2]
      · simp [hk,s1,s2,h1]
    · unfold jn at hz
      rw [if_neg hk] at hz
      split at hz
      · exact Option.some.inj hz
      · cases hz
def tysR (S:Stk):List (Int × Int):=(S.map fun p=>p.2).reverse
def tyT (t:List Nod):Int × Int:=match runT t [] with | some [(_,w)]=>w | _=>(0,0)
theorem typed_ (t:List Nod):∃ w,F_impl_typed_impl_leafWires t = some (w,validB t) ∧ (validB t = true → w = tyT t):=by
  have hm:maxN = 1099511627776:=rfl
  cases hr:rng t.length 1 400 with
  | false=>
    have hv:validB t = false:=by unfold validB;rw [hr];rfl
    refine ⟨(0,0),bnd (within_ _ _ _) (stp ?_),fun h=>by rw [hv] at h;cases h⟩
    rw [hv,hr];rfl
  | true=>
    have hl:=rng_true.1 hr
    have loop:=forO_rel (n:=t.length) (s:=([]:List (Int × Int))) (f:=fun (k14:Nat) (s884:List (Int × Int))=>
        seqO ((idxO t ((k14:Nat):Int)).bind fun a1117=>
          ((some (!decide (a1117.1 = 15))).bind fun a1137=>
            cond a1137
            ((some (!decide (a1117.1 = 16))).bind fun a1141=>
              some a1141)
            (some false)).bind fun (s1131:Bool)=>
          cond s1131
          ((F_impl_leafWires (a1117.1,a1117.2.1,a1117.2.2)).bind fun y1302=>
            (some (!y1302.2)).bind fun a1309=>
            cond a1309
            (some (.inr (.inr ((0,0),false))))
            ((appO s884 [(y1302.1.1,y1302.1.2)]).bind fun a1318=>
              some (.inl a1318)))
          (((some (!decide (a1117.2.1 = 0))).bind fun a1162=>
              cond a1162
              (some true)
              ((some (!decide ((a1117.2.2:ByteArray) = .empty))).bind fun a1165=>
                cond a1165
                (some true)
                ((some (decide (((s884.length:Nat):Int) < 2))).bind fun a1168=>
                  some a1168))).bind fun (s1156:Bool)=>
            cond s1156
            (some (.inr (.inr ((0,0),false))))
            ((subO ((s884.length:Nat):Int) 1).bind fun a1175=>
              ((subO a1175 1).bind fun a1228=>
                (idxO s884 a1228).bind fun a1236=>
                (idxO s884 a1175).bind fun a1245=>
                (F_impl_joinWires a1117.1 (a1236.1,a1236.2) (a1245.1,a1245.2)).bind fun y1255=>
                some (y1255.1.1,y1255.1.2,y1255.2)).bind fun (s1220:Int × Int × Bool)=>
              (some (!s1220.2.2)).bind fun a1272=>
              cond a1272
              (some (.inr (.inr ((0,0),false))))
              ((subO a1175 1).bind fun a1276=>
                (sliceO s884 0 a1276).bind fun a1278=>
                (appO a1278 [(s1220.1,s1220.2.1)]).bind fun a1288=>
                some (.inl a1288))))) fun (s1104:List (Int × Int))=>
        some (.inl s1104)) (fun j s=>∃ S,runT (t.take j) [] = some S ∧ s = tysR S ∧ S.length ≤ j) (fun r=>r = (((0:Int),(0:Int)),false) ∧ runT t [] = none) ⟨[],rfl,rfl,Nat.le_refl _⟩ (by
      rintro j s hj ⟨S,h1,rfl,h3⟩
      have hS:=runT_ok _ _ _ (fun p hp=>by cases hp) h1
      have hstep:=runT_take hj h1
      have hlen:(tysR S).length = S.length:=by unfold tysR;simp
      have bad:stepT S t[j] = none → runT t [] = none:=fun hn=>runT_none (hstep.trans hn)
      have hi:=idxO_of (List.getElem?_eq_getElem hj)
      generalize t[j] = n at hstep bad hi
      obtain ⟨k,v,u⟩:=n
      by_cases hk:k = 15 ∨ k = 16
      · have hc:((some (!decide (k = 15))).bind fun a1137=>cond a1137 ((some (!decide (k = 16))).bind fun a1141=>some a1141) (some false)) = some false:=by
          rcases hk with rfl | rfl <;> rfl
        have hst:stepT S (k,v,u) = if v = 0 ∧ u = .empty then (match S with
            | (b,y) :: (a,x) :: S'=>(jn k x y).map fun w=>(.node k a b,w) :: S'
            | _=>none) else none:=by unfold stepT;rw [if_pos hk]
        by_cases hv:v = 0
        case neg=>
          have hn:stepT S (k,v,u) = none:=by rw [hst,if_neg (fun h=>hv h.1)]
          exact .inr ⟨_,sqW (bnd hi (bnd hc (cFW rfl (bnd (a:=true) (stp (cTW (nF (dF hv)) rfl)) rfl)))) rfl,rfl,bad hn⟩
        by_cases hu:u = .empty
        case neg=>
          have hn:stepT S (k,v,u) = none:=by rw [hst,if_neg (fun h=>hu h.2)]
          exact .inr ⟨_,sqW (bnd hi (bnd hc (cFW rfl (bnd (a:=true) (stp (cFW (nT (dT hv)) (stp (cTW (nF (dF hu)) rfl)))) rfl)))) rfl,rfl,bad hn⟩
        rw [if_pos ⟨hv,hu⟩] at hst
        by_cases h2:S.length < 2
        · have hn:stepT S (k,v,u) = none:=by
            rw [hst]
            match S,h2 with
            | [],_=>rfl
            | [p],_=>rfl
          refine .inr ⟨_,sqW (bnd hi (bnd hc (cFW rfl (bnd (a:=true) (stp (cFW (nT (dT hv)) (stp (cFW (nT (dT hu)) (stp (congrArg some (dT ?_))))))) rfl)))) rfl,rfl,bad hn⟩
          rw [hlen];omega
        · obtain ⟨b,y,a,x,S',rfl⟩:∃ b y a x S',S = (b,y) :: (a,x) :: S':=by
            match S,h2 with
            | (b,y) :: (a,x) :: S',_=>exact ⟨_,_,_,_,_,rfl⟩
            | [p],h2=>exact (h2 (by simp)).elim
            | [],h2=>exact (h2 (by simp)).elim
          have h3':S'.length + 2 ≤ j:=by simpa using h3
          have hlen':(tysR ((b,y) :: (a,x) :: S')).length = S'.length + 2:=by simpa using hlen
          have hx:=hS (a,x) (by simp)
          have hy:=hS (b,y) (by simp)
          obtain ⟨w,w1,w2⟩:=joinWires_ (k:=k) hx hy
          have e0:tysR ((b,y) :: (a,x) :: S') = tysR S' ++ [x] ++ [y]:=by unfold tysR;simp
          have l0:(tysR S').length = S'.length:=by unfold tysR;simp
          have i1:idxO (tysR ((b,y) :: (a,x) :: S')) ((S'.length:Nat):Int) = some x:=by
            rw [e0,idxO_nat,← l0,List.append_assoc,List.getElem?_append_right (Nat.le_refl _),Nat.sub_self];rfl
          have i2:idxO (tysR ((b,y) :: (a,x) :: S')) (((S'.length + 1:Nat)):Int) = some y:=by
            rw [e0,idxO_nat,← l0,List.append_assoc,List.getElem?_append_right (by omega),Nat.add_sub_cancel_left];rfl
          have s1:subO (((tysR ((b,y) :: (a,x) :: S')).length:Nat):Int) 1 = some ((S'.length + 1:Nat):Int):=by
            rw [hlen',subO_of (by omega) (by omega)];congr 1;omega
          have s2:subO ((S'.length + 1:Nat):Int) 1 = some ((S'.length:Nat):Int):=by
            rw [subO_of (by omega) (by omega)];congr 1;omega
          have sl:sliceO (tysR ((b,y) :: (a,x) :: S')) 0 ((S'.length:Nat):Int) = some (tysR S'):=by
            unfold sliceO;rw [if_pos ⟨by omega,by omega,by rw [hlen'];omega⟩,e0]
            simp [← l0,List.append_assoc]
          have hpre:∀ {α:Type} {r:Option α} {K:Bool → Option α},K false = r → (((some (!decide (v = 0))).bind fun a1162=>
            cond a1162
            (some true)
            ((some (!decide ((u:ByteArray) = .empty))).bind fun a1165=>
              cond a1165
              (some true)
              ((some (decide ((((tysR ((b,y) :: (a,x) :: S')).length:Nat):Int) < 2))).bind fun a1168=>
                some a1168))).bind K) = r:=fun h=>bnd (a:=false) (stp (cFW (nT (dT hv)) (stp (cFW (nT (dT hu)) (stp (congrArg some (dF (by rw [hlen'];omega)))))))) h
          have hj2:∀ {α:Type} {r:Option α} {K:Int × Int × Bool → Option α},K (w.1,w.2,(jn k x y).isSome) = r → (((subO ((S'.length + 1:Nat):Int) 1).bind fun a1228=>
              (idxO (tysR ((b,y) :: (a,x) :: S')) a1228).bind fun a1236=>
              (idxO (tysR ((b,y) :: (a,x) :: S')) ((S'.length + 1:Nat):Int)).bind fun a1245=>
              (F_impl_joinWires k (a1236.1,a1236.2) (a1245.1,a1245.2)).bind fun y1255=>
              some (y1255.1.1,y1255.1.2,y1255.2)).bind K) = r:=fun h=>bnd (bnd s2 (bnd i1 (bnd i2 (bnd w1 rfl)))) h
          cases hjn:jn k x y with
          | none=>
            rw [hjn] at hj2
            have hn:stepT ((b,y) :: (a,x) :: S') (k,v,u) = none:=by rw [hst];simp only [hjn,Option.map_none]
            exact .inr ⟨_,sqW (bnd hi (bnd hc (cFW rfl (hpre (cFW rfl (bnd s1 (hj2 rfl))))))) rfl,rfl,bad hn⟩
          | some z=>
            rw [hjn] at hj2
            have hz:=w2 z hjn
            subst hz
            have hn:stepT ((b,y) :: (a,x) :: S') (k,v,u) = some ((.node k a b,w) :: S'):=by rw [hst];simp only [hjn,Option.map_some]
            refine .inl ⟨tysR S' ++ [w],sqW (bnd hi (bnd hc (cFW rfl (hpre (cFW rfl (bnd s1 (hj2 (stp (cFW rfl (bnd s2 (bnd sl (bnd (appO_of ?_) rfl))))))))))) ) rfl,(.node k a b,w) :: S',by rw [hstep,hn],by unfold tysR;simp,by simp;omega⟩
            rw [l0];simp;omega
      · have hc:((some (!decide (k = 15))).bind fun a1137=>cond a1137 ((some (!decide (k = 16))).bind fun a1141=>some a1141) (some false)) = some true:=by
          simp only [not_or] at hk
          simp [hk.1,hk.2]
        obtain ⟨w,w1,w2⟩:=leafWires_ (k,v,u)
        cases hb:lfB (k,v,u) with
        | false=>
          rw [hb] at w1
          have hn:stepT S (k,v,u) = none:=by unfold stepT;rw [if_neg hk,if_neg (by rw [hb];simp)]
          exact .inr ⟨_,sqW (bnd hi (bnd hc (cTW rfl (bnd w1 rfl)))) rfl,rfl,bad hn⟩
        | true=>
          rw [hb] at w1
          have hn:stepT S (k,v,u) = some ((.leaf (k,v,u),lfT (k,v,u)) :: S):=by unfold stepT;rw [if_neg hk,if_pos hb]
          refine .inl ⟨tysR S ++ [w],sqW (bnd hi (bnd hc (cTW rfl (bnd w1 (stp (cFW rfl (bnd (appO_of ?_) rfl))))))) rfl,_,by rw [hstep,hn],by rw [w2 hb];unfold tysR;simp,by simp;omega⟩
          rw [hlen];simp;omega)
    rcases loop with ⟨s,h1,S,h2,rfl,h4⟩ | ⟨r,h1,rfl,h2⟩
    · rw [List.take_length] at h2
      have hlen:(tysR S).length = S.length:=by unfold tysR;simp
      have hne:S ≠ []:=by
        rintro rfl
        have:=runT_flat _ _ _ h2
        unfold stkN at this
        simp at this
        rw [this] at hl;simp at hl
      cases hS:tysR S with
      | nil=>rw [hS] at hlen;exact (hne (List.eq_nil_of_length_eq_zero hlen.symm)).elim
      | cons w ws=>
        have hty:validB t = true → w = tyT t:=fun hv=>by
          unfold validB at hv
          unfold tyT
          rw [hr,h2] at hv
          rw [h2]
          match S,hS,hv with
          | [(T,w')],hS,_=>exact (List.cons.inj hS).1.symm
        refine ⟨w,bnd (within_ _ _ _) (stp ?_),hty⟩
        rw [hr]
        refine cFW rfl (sqW h1 ?_)
        rw [seqO_l,hS]
        refine bnd (a:=w) rfl (stp (congrArg some (Prod.ext rfl ?_)))
        unfold validB
        rw [hr,h2]
        rw [← hS,hlen]
        match S with
        | []=>exact (hne rfl).elim
        | [p]=>simp
        | p :: q :: S=>simp;omega
    · have hv:validB t = false:=by unfold validB;rw [h2,hr];rfl
      refine ⟨(0,0),bnd (within_ _ _ _) (stp ?_),fun h=>by rw [hv] at h;cases h⟩
      rw [hr]
      refine cFW rfl (sqW h1 ?_)
      rw [seqO_r,hv]
theorem isValid_ (t:List Nod):F_impl_Term_isValid t = some (validB t):=by
  obtain ⟨w,h,_⟩:=typed_ t
  exact bnd (bnd h rfl) rfl
def ScR (x:List Int × List Int × List Int):Nat → Stk → Prop
  | i,[]=>i = 0
  | i,(T,w) :: S=>(flat T).length ≤ i ∧ x.1[i - 1]? = some ((i - (flat T).length:Nat):Int) ∧ x.2.1[i - 1]? = some w.1 ∧ x.2.2[i - 1]? = some w.2 ∧ ScR x (i - (flat T).length) S
theorem ScR.mono {x x':List Int × List Int × List Int}:∀ {S:Stk} {i:Nat},ScR x i S → (∀ k,k < i → x'.1[k]? = x.1[k]? ∧ x'.2.1[k]? = x.2.1[k]? ∧ x'.2.2[k]? = x.2.2[k]?) → ScR x' i S
  | [],_,h,_=>h
  | (T,w) :: S,i,⟨h1,h2,h3,h4,h5⟩,h=>by
    have hp:=flat_pos T
    obtain ⟨k1,k2,k3⟩:=h (i - 1) (by omega)
    exact ⟨h1,k1.trans h2,k2.trans h3,k3.trans h4,h5.mono (fun k hk=>h k (by omega))⟩
theorem get_snoc {l:List Int} {i:Nat} (hl:l.length = i) (a:Int):(∀ k,k < i → (l ++ [a])[k]? = l[k]?) ∧ (l ++ [a])[i]? = some a:=
  ⟨fun k hk=>List.getElem?_append_left (by omega),by rw [List.getElem?_append_right (by omega),hl,Nat.sub_self];rfl⟩
theorem ScR.push {x:List Int × List Int × List Int} {S:Stk} {i:Nat} {T:Tr} {w:Int × Int} (l1:x.1.length = i) (l2:x.2.1.length = i) (l3:x.2.2.length = i) (hT:(flat T).length ≤ i + 1) (h:ScR x (i + 1 - (flat T).length) S) :
    ScR (x.1 ++ [((i + 1 - (flat T).length:Nat):Int)],x.2.1 ++ [w.1],x.2.2 ++ [w.2]) (i + 1) ((T,w) :: S):=by
  have hp:=flat_pos T
  have g1:=get_snoc l1 ((i + 1 - (flat T).length:Nat):Int)
  have g2:=get_snoc l2 w.1
  have g3:=get_snoc l3 w.2
  refine ⟨hT,?_,?_,?_,h.mono (fun k hk=>⟨g1.1 k (by omega),g2.1 k (by omega),g3.1 k (by omega)⟩)⟩
  · rw [Nat.add_sub_cancel];exact g1.2
  · rw [Nat.add_sub_cancel];exact g2.2
  · rw [Nat.add_sub_cancel];exact g3.2
theorem add_of12 {a b:Int} (h1:0 ≤ a) (h2:a ≤ 12) (h3:0 ≤ b) (h4:b ≤ 12):addO a b = some (a + b):=addO_of (by omega) (by omega)
theorem lbFind_nil (s:ByteArray):F_spec_lbFind [] s = some (-1):=rfl
theorem lbScan_ (t:List Nod):∃ x,F_spec_lbScan [] t = some (x,validB t) ∧ (∀ S,runT t [] = some S → rng t.length 1 400 = true → x.1.length = t.length ∧ ScR x t.length S ∧
    ∀ S0 (p q:List Nod),t = p ++ q → runT p [] = some S0 → ScR x p.length S0):=by
  have hm:maxN = 1099511627776:=rfl
  cases hr:rng t.length 1 400 with
  | false=>
    refine ⟨([],[],[]),bnd (l1In _ _ _) (stp ?_),fun _ _ h=>by cases h⟩
    unfold validB
    rw [hr];rfl
  | true=>
    have hl:=rng_true.1 hr
    have loop:=forO_rel (n:=t.length) (s:=(([]:List Int),([]:List Int),([]:List Int))) (f:=fun (k18:Nat) (s2156:List Int × List Int × List Int)=>
        seqO ((idxO t ((k18:Nat):Int)).bind fun a2699=>
          ((F_spec_tmLeaf (a2699.1,a2699.2.1,a2699.2.2)).bind fun y2720=>
            cond y2720
            (some true)
            ((some (decide (a2699.1 = 17))).bind fun a2724=>
              some a2724)).bind fun (s2714:Bool)=>
          cond s2714
          ((F_spec_tmArity (a2699.1,a2699.2.1,a2699.2.2)).bind fun y3063=>
            seqO ((some (decide (a2699.1 = 17))).bind fun a3127=>
              cond a3127
              ((F_spec_lbFind [] a2699.2.2).bind fun y3131=>
                ((some (decide (y3131 < 0))).bind fun a3146=>
                  cond a3146
                  (some true)
                  ((some (!decide (a2699.2.1 = 0))).bind fun a3149=>
                    some a3149)).bind fun (s3140:Bool)=>
                cond s3140
                (some (.inr (.inr (.inr ((s2156.1,s2156.2.1,s2156.2.2),false)))))
                ((idxO ([]:List (ByteArray × Int × Int × List Nod)) y3131).bind fun a3162=>
                  (idxO ([]:List (ByteArray × Int × Int × List Nod)) y3131).bind fun a3174=>
                  some (.inl (a3174.2.2.1,a3162.2.1))))
              (some (.inl (y3063.2,y3063.1)))) fun (s3121:Int × Int)=>
            (appO s2156.1 [((k18:Nat):Int)]).bind fun a3190=>
            (appO s2156.2.1 [s3121.2]).bind fun a3199=>
            (appO s2156.2.2 [s3121.1]).bind fun a3208=>
            some (.inl (a3190,a3199,a3208)))
          (((some (!decide (a2699.1 = 15))).bind fun a2792=>
              cond a2792
              ((some (!decide (a2699.1 = 16))).bind fun a2820=>
                cond a2820
                (some true)
                ((some (!decide ((a2699.2.2:ByteArray) = .empty))).bind fun a2823=>
                  cond a2823
                  (some true)
                  ((some (!decide (a2699.2.1 = 0))).bind fun a2826=>
                    cond a2826
                    (some true)
                    ((some (decide (((k18:Nat):Int) < 2))).bind fun a2829=>
                      cond a2829
                      (some true)
                      ((subO ((k18:Nat):Int) 1).bind fun a2832=>
                        (idxO s2156.1 a2832).bind fun a2840=>
                        (some (decide (a2840 < 1))).bind fun a2842=>
                        some a2842)))))
              ((some (!decide ((a2699.2.2:ByteArray) = .empty))).bind fun a2795=>
                cond a2795
                (some true)
                ((some (!decide (a2699.2.1 = 0))).bind fun a2798=>
                  cond a2798
                  (some true)
                  ((some (decide (((k18:Nat):Int) < 2))).bind fun a2801=>
                    cond a2801
                    (some true)
                    ((subO ((k18:Nat):Int) 1).bind fun a2804=>
                      (idxO s2156.1 a2804).bind fun a2812=>
                      (some (decide (a2812 < 1))).bind fun a2814=>
                      some a2814))))).bind fun (s2786:Bool)=>
            cond s2786
            (some (.inr (.inr ((s2156.1,s2156.2.1,s2156.2.2),false))))
            ((subO ((k18:Nat):Int) 1).bind fun a2851=>
              (idxO s2156.1 a2851).bind fun a2859=>
              (subO a2859 1).bind fun a2861=>
              (idxO s2156.2.1 a2861).bind fun a2870=>
              (idxO s2156.2.1 a2851).bind fun a2878=>
              (addO a2870 a2878).bind fun a2880=>
              (idxO s2156.2.2 a2861).bind fun a2888=>
              (idxO s2156.2.2 a2851).bind fun a2896=>
              (addO a2888 a2896).bind fun a2898=>
              seqO ((some (decide (a2699.1 = 15))).bind fun a2949=>
                cond a2949
                ((idxO s2156.2.2 a2861).bind fun a2960=>
                  (idxO s2156.2.1 a2851).bind fun a2968=>
                  (some (!decide (a2960 = a2968))).bind fun a2970=>
                  cond a2970
                  (some (.inr (.inr (.inr ((s2156.1,s2156.2.1,s2156.2.2),false)))))
                  ((idxO s2156.2.1 a2861).bind fun a2980=>
                    (idxO s2156.2.2 a2851).bind fun a2988=>
                    some (.inl (a2980,a2988))))
                (some (.inl (a2880,a2898)))) fun (s2943:Int × Int)=>
              ((some (decide ((12:Int) < s2943.1))).bind fun a3009=>
                cond a3009
                (some true)
                ((some (decide ((12:Int) < s2943.2))).bind fun a3012=>
                  some a3012)).bind fun (s3003:Bool)=>
              cond s3003
              (some (.inr (.inr ((s2156.1,s2156.2.1,s2156.2.2),false))))
              ((idxO s2156.1 a2861).bind fun a3025=>
                (appO s2156.1 [a3025]).bind fun a3030=>
                (appO s2156.2.1 [s2943.1]).bind fun a3039=>
                (appO s2156.2.2 [s2943.2]).bind fun a3048=>
                some (.inl (a3030,a3039,a3048)))))) fun (s2684:List Int × List Int × List Int)=>
        some (.inl (s2684.1,s2684.2.1,s2684.2.2)))
      (fun j x=>∃ S,runT (t.take j) [] = some S ∧ x.1.length = j ∧ x.2.1.length = j ∧ x.2.2.length = j ∧ ScR x j S ∧ ∀ i S0,i ≤ j → runT (t.take i) [] = some S0 → ScR x i S0) (fun r=>r.2 = false ∧ runT t [] = none)
      ⟨[],rfl,rfl,rfl,rfl,rfl,fun i S0 hi h=>by
        obtain rfl:i = 0:=by omega
        obtain rfl:=Option.some.inj h
        rfl⟩ (by
      rintro j ⟨x1,x2,x3⟩ hj ⟨S,h1,l1,l2,l3,h2,hall⟩
      dsimp only at l1 l2 l3
      have hS:=runT_ok _ _ _ (fun p hp=>by cases hp) h1
      have hstep:=runT_take hj h1
      have bad:stepT S t[j] = none → runT t [] = none:=fun hn=>runT_none (hstep.trans hn)
      have hi:=idxO_of (List.getElem?_eq_getElem hj)
      have good:∀ (T:Tr) (w:Int × Int) (S':Stk),runT (t.take (j + 1)) [] = some ((T,w) :: S') → (flat T).length ≤ j + 1 → ScR (x1,x2,x3) (j + 1 - (flat T).length) S' → ∃ S1,runT (t.take (j + 1)) [] = some S1 ∧ (x1 ++ [((j + 1 - (flat T).length:Nat):Int)]).length = j + 1 ∧ (x2 ++ [w.1]).length = j + 1 ∧ (x3 ++ [w.2]).length = j + 1 ∧
          ScR (x1 ++ [((j + 1 - (flat T).length:Nat):Int)],x2 ++ [w.1],x3 ++ [w.2]) (j + 1) S1 ∧ ∀ i S0,i ≤ j + 1 → runT (t.take i) [] = some S0 → ScR (x1 ++ [((j + 1 - (flat T).length:Nat):Int)],x2 ++ [w.1],x3 ++ [w.2]) i S0:=by
        intro T w S' hr1 hT hsc
        have hp:=ScR.push (x:=(x1,x2,x3)) (w:=w) l1 l2 l3 hT hsc
        refine ⟨_,hr1,by simp [l1],by simp [l2],by simp [l3],hp,fun i S0 hi0 hS0=>?_⟩
        by_cases hij:i = j + 1
        · subst hij
          rw [hr1] at hS0
          obtain rfl:=Option.some.inj hS0
          exact hp
        · refine (hall i S0 (by omega) hS0).mono (fun k hk=>?_)
          exact ⟨(get_snoc l1 _).1 k (by omega),(get_snoc l2 _).1 k (by omega),(get_snoc l3 _).1 k (by omega)⟩
      generalize t[j] = n at hstep bad hi
      obtain ⟨k,v,u⟩:=n
      by_cases hk:k = 15 ∨ k = 16
      · have hlf:lfB (k,v,u) = false:=by
          have hr:rng k 1 14 = false:=by rcases hk with rfl | rfl <;> decide
          unfold lfB;dsimp only;rw [hr];simp
        have hk17:¬ k = 17:=by omega
        have hc:((F_spec_tmLeaf (k,v,u)).bind fun y2720=>cond y2720 (some true) ((some (decide (k = 17))).bind fun a2724=>some a2724)) = some false:=
          bnd (tmLeaf_ _) (by rw [hlf];exact cFW rfl (stp (congrArg some (dF hk17))))
        have hst:stepT S (k,v,u) = if v = 0 ∧ u = .empty then (match S with
            | (b,y) :: (a,x) :: S'=>(jn k x y).map fun w=>(.node k a b,w) :: S'
            | _=>none) else none:=by unfold stepT;rw [if_pos hk]
        have hten:∀ b:Bool,((some (!decide ((u:ByteArray) = .empty))).bind fun a2795=>
                cond a2795
                (some true)
                ((some (!decide (v = 0))).bind fun a2798=>
                  cond a2798
                  (some true)
                  ((some (decide (((j:Nat):Int) < 2))).bind fun a2801=>
                    cond a2801
                    (some true)
                    ((subO ((j:Nat):Int) 1).bind fun a2804=>
                      (idxO x1 a2804).bind fun a2812=>
                      (some (decide (a2812 < 1))).bind fun a2814=>
                      some a2814)))) = some b → (((some (!decide (k = 15))).bind fun a2792=>
              cond a2792
              ((some (!decide (k = 16))).bind fun a2820=>
                cond a2820
                (some true)
                ((some (!decide ((u:ByteArray) = .empty))).bind fun a2823=>
                  cond a2823
                  (some true)
                  ((some (!decide (v = 0))).bind fun a2826=>
                    cond a2826
                    (some true)
                    ((some (decide (((j:Nat):Int) < 2))).bind fun a2829=>
                      cond a2829
                      (some true)
                      ((subO ((j:Nat):Int) 1).bind fun a2832=>
                        (idxO x1 a2832).bind fun a2840=>
                        (some (decide (a2840 < 1))).bind fun a2842=>
                        some a2842)))))
              ((some (!decide ((u:ByteArray) = .empty))).bind fun a2795=>
                cond a2795
                (some true)
                ((some (!decide (v = 0))).bind fun a2798=>
                  cond a2798
                  (some true)
                  ((some (decide (((j:Nat):Int) < 2))).bind fun a2801=>
                    cond a2801
                    (some true)
                    ((subO ((j:Nat):Int) 1).bind fun a2804=>
                      (idxO x1 a2804).bind fun a2812=>
                      (some (decide (a2812 < 1))).bind fun a2814=>
                      some a2814))))) = some b):=by
          intro b hb
          rcases hk with rfl | rfl
          · exact stp (cFW rfl hb)
          · exact stp (cTW rfl (stp (cFW rfl hb)))
        have fail:∀ {n:Option Stk},((some (!decide ((u:ByteArray) = .empty))).bind fun a2795=>
                cond a2795
                (some true)
                ((some (!decide (v = 0))).bind fun a2798=>
                  cond a2798
                  (some true)
                  ((some (decide (((j:Nat):Int) < 2))).bind fun a2801=>
                    cond a2801
                    (some true)
                    ((subO ((j:Nat):Int) 1).bind fun a2804=>
                      (idxO x1 a2804).bind fun a2812=>
                      (some (decide (a2812 < 1))).bind fun a2814=>
                      some a2814)))) = some true → n = none → n = none:=fun _ h=>h
        by_cases hu:u = .empty
        case neg=>
          have hn:stepT S (k,v,u) = none:=by rw [hst,if_neg (fun h=>hu h.2)]
          exact .inr ⟨_,sqW (bnd hi (bnd hc (cFW rfl (bnd (hten true (stp (cTW (nF (dF hu)) rfl))) rfl)))) rfl,rfl,bad hn⟩
        by_cases hv:v = 0
        case neg=>
          have hn:stepT S (k,v,u) = none:=by rw [hst,if_neg (fun h=>hv h.1)]
          exact .inr ⟨_,sqW (bnd hi (bnd hc (cFW rfl (bnd (hten true (stp (cFW (nT (dT hu)) (stp (cTW (nF (dF hv)) rfl))))) rfl)))) rfl,rfl,bad hn⟩
        rw [if_pos ⟨hv,hu⟩] at hst
        match S,h2,hst,hS with
        | [],h2,hst,_=>
          obtain rfl:j = 0:=h2
          exact .inr ⟨_,sqW (bnd hi (bnd hc (cFW rfl (bnd (hten true (stp (cFW (nT (dT hu)) (stp (cFW (nT (dT hv)) (stp (cTW (dT (by omega)) rfl))))))) rfl)))) rfl,rfl,bad hst⟩
        | [(b,y)],h2,hst,_=>
          obtain ⟨s1,s2,s3,s4,s5⟩:=h2
          have s5:j - (flat b).length = 0:=s5
          refine .inr ⟨_,sqW (bnd hi (bnd hc (cFW rfl (bnd (hten true (stp (cFW (nT (dT hu)) (stp (cFW (nT (dT hv)) (stp ?_)))))) rfl)))) rfl,rfl,bad hst⟩
          by_cases h2:((j:Nat):Int) < 2
          · exact cTW (dT h2) rfl
          · refine cFW (dF h2) (bnd (subO_of (by omega) (by omega)) (bnd (a:=0) ?_ rfl))
            rw [s5] at s2
            have e:(j:Int) - 1 = ((j - 1:Nat):Int):=by omega
            rw [e];exact idxO_of s2
        | (b,y) :: (a,x) :: S',h2,hst,hS=>
          have hx:=hS (a,x) (by simp)
          have hy:=hS (b,y) (by simp)
          obtain ⟨s1,s2,s3,s4,r1,r2,r3,r4,r5⟩:=h2
          dsimp only at s2 s3 s4 r2 r3 r4
          have hpa:=flat_pos a
          have hpb:=flat_pos b
          have hj2:2 ≤ j:=by omega
          obtain ⟨a1,a2,a3,a4⟩:=hx
          obtain ⟨b1,b2,b3,b4⟩:=hy
          have e1:subO ((j:Nat):Int) 1 = some ((j - 1:Nat):Int):=by rw [subO_of (by omega) (by omega)];congr 1;omega
          have e2:subO ((j - (flat b).length:Nat):Int) 1 = some ((j - (flat b).length - 1:Nat):Int):=by rw [subO_of (by omega) (by omega)];congr 1;omega
          have hpass:=hten false (stp (cFW (nT (dT hu)) (stp (cFW (nT (dT hv)) (stp (cFW (dF (by omega)) (bnd e1 (bnd (idxO_of s2) (stp (congrArg some (dF (by omega))))))))))))
          have hlenT:(flat (.node k a b)).length = (flat a).length + (flat b).length + 1:=by simp [flat];omega
          have hidx:j + 1 - (flat (.node k a b)).length = j - (flat b).length - (flat a).length:=by rw [hlenT];omega
          dsimp only at a1 a2 a3 a4 b1 b2 b3 b4
          have hS1:stkOk S':=fun p hp=>hS p (by simp [hp])
          have bg:∀ w:Int × Int,jn k x y = some w → wOk2 w ∧ (¬ (12:Int) < w.1) ∧ ¬ (12:Int) < w.2:=fun w h=>by
            have:=jn_ok (x:=x) (y:=y) ⟨a1,a2,a3,a4⟩ ⟨b1,b2,b3,b4⟩ h
            obtain ⟨c1,c2,c3,c4⟩:=this
            exact ⟨⟨c1,c2,c3,c4⟩,by omega,by omega⟩
          have hgood:∀ w:Int × Int,jn k x y = some w → ∃ S1,runT (t.take (j + 1)) [] = some S1 ∧ (x1 ++ [((j - (flat b).length - (flat a).length:Nat):Int)]).length = j + 1 ∧ (x2 ++ [w.1]).length = j + 1 ∧ (x3 ++ [w.2]).length = j + 1 ∧
              ScR (x1 ++ [((j - (flat b).length - (flat a).length:Nat):Int)],x2 ++ [w.1],x3 ++ [w.2]) (j + 1) S1 ∧ ∀ i S0,i ≤ j + 1 → runT (t.take i) [] = some S0 → ScR (x1 ++ [((j - (flat b).length - (flat a).length:Nat):Int)],x2 ++ [w.1],x3 ++ [w.2]) i S0:=fun w hw=>by
            have hn:stepT ((b,y) :: (a,x) :: S') (k,v,u) = some ((.node k a b,w) :: S'):=by rw [hst];simp only [hw,Option.map_some]
            have:=good (.node k a b) w S' (by rw [hstep,hn]) (by rw [hlenT];omega) (by rw [hidx];exact r5)
            rw [hidx] at this
            exact this
          have hbad:jn k x y = none → runT t [] = none:=fun hw=>bad (by rw [hst];simp only [hw,Option.map_none])
          have ap:∀ (l:List Int) (z:Int),l.length = j → appO l [z] = some (l ++ [z]):=fun l z h=>appO_of (by simp;omega)
          have s1':=add_of12 a1 a2 b1 b2
          have s2':=add_of12 a3 a4 b3 b4
          by_cases h15:k = 15
          · by_cases hxy:x.2 = y.1
            · have hw:jn k x y = some (x.1,y.2):=by unfold jn;rw [if_pos h15,if_pos hxy]
              obtain ⟨_,w1,w2⟩:=bg _ hw
              refine .inl ⟨(x1 ++ [((j - (flat b).length - (flat a).length:Nat):Int)],x2 ++ [x.1],x3 ++ [y.2]),sqW (r:=some (.inl (x1 ++ [((j - (flat b).length - (flat a).length:Nat):Int)],x2 ++ [x.1],x3 ++ [y.2]))) ?_ rfl,hgood _ hw⟩
              refine bnd hi (bnd hc (cFW rfl (bnd hpass (cFW rfl ?_))))
              refine bnd e1 (bnd (idxO_of s2) (bnd e2 (bnd (idxO_of r3) (bnd (idxO_of s3) (bnd s1' (bnd (idxO_of r4) (bnd (idxO_of s4) (bnd s2' ?_))))))))
              refine sqW (r:=some (.inl (x.1,y.2))) (bnd (congrArg some (dT h15)) (cTW rfl (bnd (idxO_of r4) (bnd (idxO_of s3) (stp (cFW (nT (dT hxy)) (bnd (idxO_of r3) (bnd (idxO_of s4) rfl)))))))) ?_
              rw [seqO_l]
              refine bnd (a:=false) (bnd (congrArg some (dF w1)) (bnd (congrArg some (dF w2)) rfl)) (cFW rfl ?_)
              exact bnd (idxO_of r2) (bnd (ap _ _ l1) (bnd (ap _ _ l2) (bnd (ap _ _ l3) rfl)))
            · have hw:jn k x y = none:=by unfold jn;rw [if_pos h15,if_neg hxy]
              refine .inr ⟨((x1,x2,x3),false),sqW (r:=some (.inr (.inr ((x1,x2,x3),false)))) ?_ rfl,rfl,hbad hw⟩
              refine bnd hi (bnd hc (cFW rfl (bnd hpass (cFW rfl ?_))))
              refine bnd e1 (bnd (idxO_of s2) (bnd e2 (bnd (idxO_of r3) (bnd (idxO_of s3) (bnd s1' (bnd (idxO_of r4) (bnd (idxO_of s4) (bnd s2' ?_))))))))
              exact sqW (r:=some (.inr (.inr (.inr ((x1,x2,x3),false))))) (bnd (congrArg some (dT h15)) (cTW rfl (bnd (idxO_of r4) (bnd (idxO_of s3) (stp (cTW (nF (dF hxy)) rfl)))))) rfl
          · by_cases h1:x.1 + y.1 ≤ 12
            · by_cases h2:x.2 + y.2 ≤ 12
              · have hw:jn k x y = some (x.1 + y.1,x.2 + y.2):=by unfold jn;rw [if_neg h15,if_pos ⟨h1,h2⟩]
                obtain ⟨_,w1,w2⟩:=bg _ hw
                refine .inl ⟨(x1 ++ [((j - (flat b).length - (flat a).length:Nat):Int)],x2 ++ [x.1 + y.1],x3 ++ [x.2 + y.2]),sqW (r:=some (.inl (x1 ++ [((j - (flat b).length - (flat a).length:Nat):Int)],x2 ++ [x.1 + y.1],x3 ++ [x.2 + y.2]))) ?_ rfl,hgood _ hw⟩
                refine bnd hi (bnd hc (cFW rfl (bnd hpass (cFW rfl ?_))))
                refine bnd e1 (bnd (idxO_of s2) (bnd e2 (bnd (idxO_of r3) (bnd (idxO_of s3) (bnd s1' (bnd (idxO_of r4) (bnd (idxO_of s4) (bnd s2' ?_))))))))
                refine sqW (r:=some (.inl (x.1 + y.1,x.2 + y.2))) (bnd (congrArg some (dF h15)) (cFW rfl rfl)) ?_
                rw [seqO_l]
                refine bnd (a:=false) (bnd (congrArg some (dF w1)) (bnd (congrArg some (dF w2)) rfl)) (cFW rfl ?_)
                exact bnd (idxO_of r2) (bnd (ap _ _ l1) (bnd (ap _ _ l2) (bnd (ap _ _ l3) rfl)))
              · have hw:jn k x y = none:=by unfold jn;rw [if_neg h15,if_neg (fun h=>h2 h.2)]
                refine .inr ⟨((x1,x2,x3),false),sqW (r:=some (.inr (.inr ((x1,x2,x3),false)))) ?_ rfl,rfl,hbad hw⟩
                refine bnd hi (bnd hc (cFW rfl (bnd hpass (cFW rfl ?_))))
                refine bnd e1 (bnd (idxO_of s2) (bnd e2 (bnd (idxO_of r3) (bnd (idxO_of s3) (bnd s1' (bnd (idxO_of r4) (bnd (idxO_of s4) (bnd s2' ?_))))))))
                refine sqW (r:=some (.inl (x.1 + y.1,x.2 + y.2))) (bnd (congrArg some (dF h15)) (cFW rfl rfl)) ?_
                rw [seqO_l]
                exact bnd (a:=true) (bnd (congrArg some (dF (by dsimp only;omega))) (bnd (congrArg some (dT (by dsimp only;omega))) rfl)) (cTW rfl rfl)
            · have hw:jn k x y = none:=by unfold jn;rw [if_neg h15,if_neg (fun h=>h1 h.1)]
              refine .inr ⟨((x1,x2,x3),false),sqW (r:=some (.inr (.inr ((x1,x2,x3),false)))) ?_ rfl,rfl,hbad hw⟩
              refine bnd hi (bnd hc (cFW rfl (bnd hpass (cFW rfl ?_))))
              refine bnd e1 (bnd (idxO_of s2) (bnd e2 (bnd (idxO_of r3) (bnd (idxO_of s3) (bnd s1' (bnd (idxO_of r4) (bnd (idxO_of s4) (bnd s2' ?_))))))))
              refine sqW (r:=some (.inl (x.1 + y.1,x.2 + y.2))) (bnd (congrArg some (dF h15)) (cFW rfl rfl)) ?_
              rw [seqO_l]
              exact bnd (a:=true) (bnd (congrArg some (dT (by dsimp only;omega))) rfl) (cTW rfl rfl)
      · have ap:∀ (l:List Int) (z:Int),l.length = j → appO l [z] = some (l ++ [z]):=fun l z h=>appO_of (by simp;omega)
        cases hb:lfB (k,v,u) with
        | true=>
          have hr:rng k 1 14 = true:=by
            unfold lfB at hb;simp only [Bool.and_eq_true] at hb;exact hb.2.1
          have hk17:¬ k = 17:=by have:=rng_true.1 hr;omega
          have hn:stepT S (k,v,u) = some ((.leaf (k,v,u),lfT (k,v,u)) :: S):=by unfold stepT;rw [if_neg hk,if_pos hb]
          have hc:((F_spec_tmLeaf (k,v,u)).bind fun y2720=>cond y2720 (some true) ((some (decide (k = 17))).bind fun a2724=>some a2724)) = some true:=
            bnd (tmLeaf_ _) (by rw [hb];rfl)
          have:=good (.leaf (k,v,u)) (lfT (k,v,u)) S (by rw [hstep,hn]) (by simp [flat]) (by simpa [flat] using h2)
          rw [show j + 1 - (flat (.leaf (k,v,u))).length = j by simp [flat]] at this
          refine .inl ⟨(x1 ++ [((j:Nat):Int)],x2 ++ [(lfT (k,v,u)).1],x3 ++ [(lfT (k,v,u)).2]),sqW (r:=some (.inl (x1 ++ [((j:Nat):Int)],x2 ++ [(lfT (k,v,u)).1],x3 ++ [(lfT (k,v,u)).2]))) ?_ rfl,this⟩
          refine bnd hi (bnd hc (cTW rfl (bnd (tmArity_ _) ?_)))
          refine sqW (r:=some (.inl ((lfT (k,v,u)).2,(lfT (k,v,u)).1))) (bnd (congrArg some (dF hk17)) (cFW rfl rfl)) ?_
          rw [seqO_l]
          exact bnd (ap _ _ l1) (bnd (ap _ _ l2) (bnd (ap _ _ l3) rfl))
        | false=>
          have hn:stepT S (k,v,u) = none:=by unfold stepT;rw [if_neg hk,if_neg (by rw [hb];simp)]
          by_cases h17:k = 17
          · have hc:((F_spec_tmLeaf (k,v,u)).bind fun y2720=>cond y2720 (some true) ((some (decide (k = 17))).bind fun a2724=>some a2724)) = some true:=
              bnd (tmLeaf_ _) (by rw [hb];exact cFW rfl (stp (congrArg some (dT h17))))
            refine .inr ⟨((x1,x2,x3),false),sqW (r:=some (.inr (.inr ((x1,x2,x3),false)))) ?_ rfl,rfl,bad hn⟩
            refine bnd hi (bnd hc (cTW rfl (bnd (tmArity_ _) ?_)))
            exact sqW (r:=some (.inr (.inr (.inr ((x1,x2,x3),false))))) (bnd (congrArg some (dT h17)) (cTW rfl (bnd (lbFind_nil _) (bnd (a:=true) rfl (cTW rfl rfl))))) rfl
          · have hc:((F_spec_tmLeaf (k,v,u)).bind fun y2720=>cond y2720 (some true) ((some (decide (k = 17))).bind fun a2724=>some a2724)) = some false:=
              bnd (tmLeaf_ _) (by rw [hb];exact cFW rfl (stp (congrArg some (dF h17))))
            have hk1:¬ k = 15:=fun h=>hk (.inl h)
            have hk2:¬ k = 16:=fun h=>hk (.inr h)
            exact .inr ⟨_,sqW (bnd hi (bnd hc (cFW rfl (bnd (a:=true) (stp (cTW (nF (dF hk1)) (stp (cTW (nF (dF hk2)) rfl)))) rfl)))) rfl,rfl,bad hn⟩)
    rcases loop with ⟨x,h1,S,h2,k1,k2,k3,h3,hall⟩ | ⟨⟨x,r⟩,h1,rfl,h2⟩
    · rw [List.take_length] at h2
      have hne:S ≠ []:=by
        rintro rfl
        have:t.length = 0:=h3
        omega
      obtain ⟨⟨T,w⟩,S',rfl⟩:∃ p S',S = p :: S':=by
        cases S with
        | nil=>exact (hne rfl).elim
        | cons p S'=>exact ⟨p,S',rfl⟩
      obtain ⟨s1,s2,s3,s4,s5⟩:=h3
      have hT:=flat_pos T
      have ev:validB t = decide (((t.length - (flat T).length:Nat):Int) = 0):=by
        unfold validB
        rw [hr,h2,Bool.true_and]
        match S',s5 with
        | [],s5=>
          have s5:t.length - (flat T).length = 0:=s5
          rw [s5];rfl
        | (T',w') :: S'',s5=>
          have:=flat_pos T'
          exact (dF (by have:=s5.1;omega)).symm
      refine ⟨x,bnd (l1In _ _ _) (stp ?_),fun S0 hS0 _=>?_⟩
      · rw [hr]
        refine cFW rfl (sqW h1 ?_)
        rw [seqO_l]
        refine bnd (a:=((t.length - 1:Nat):Int)) (by rw [subO_of (by omega) (by omega)];congr 1;omega) (bnd (idxO_of s2) (stp ?_))
        rw [ev]
      · rw [h2] at hS0
        obtain rfl:=Option.some.inj hS0
        refine ⟨k1,⟨s1,s2,s3,s4,s5⟩,fun S0 p q hpq hp=>?_⟩
        refine hall p.length S0 (by rw [hpq];simp) ?_
        rw [hpq,List.take_left];exact hp
    · refine ⟨x,bnd (l1In _ _ _) (stp ?_),fun S hS=>by rw [h2] at hS;cases hS⟩
      rw [hr]
      refine cFW rfl (sqW h1 ?_)
      rw [seqO_r]
      unfold validB
      rw [h2,hr];rfl
end Go.Proofs.YtlggnmkelgplnaaGreatDoor
namespace Go.Proofs.YtlggnmkelgplnaaGreatDoor
def typT:Tr → Option (Int × Int)
  | .leaf n=>if lfB n = true then some (lfT n) else none
  | .node k a b=>if k = 15 ∨ k = 16 then (typT a).bind fun x=>(typT b).bind fun y=>jn k x y else none
def typS (S:Stk):Prop:=∀ p ∈ S,typT p.1 = some p.2
theorem stepT_typ {S S':Stk} {n:Nod} (hS:typS S) (h:stepT S n = some S'):typS S':=by
  unfold stepT at h
  split at h
  · rename_i hk
    split at h
    · split at h
      · rename_i b y a x S0
        obtain ⟨w,hw,rfl⟩:=Option.map_eq_some_iff.1 h
        intro p hp
        rcases List.mem_cons.1 hp with rfl | hp
        · have h1:=hS (a,x) (by simp)
          have h2:=hS (b,y) (by simp)
          dsimp only at h1 h2
          show (if n.1 = 15 ∨ n.1 = 16 then _ else none) = _
          rw [if_pos hk,h1,h2];exact hw
        · exact hS p (by simp [hp])
      · cases h
    · cases h
  · split at h
    · obtain rfl:=Option.some.inj h
      intro p hp
      rcases List.mem_cons.1 hp with rfl | hp
      · show (if lfB n = true then _ else none) = _
        rw [if_pos ‹_›]
      · exact hS p hp
    · cases h
theorem runT_typ:∀ (t:List Nod) (S S':Stk),typS S → runT t S = some S' → typS S'
  | [],S,S',hS,h=>by obtain rfl:=Option.some.inj h;exact hS
  | n :: t,S,S',hS,h=>by
    obtain ⟨S1,h1,h2⟩:=bindS h
    exact runT_typ t S1 S' (stepT_typ hS h1) h2
theorem typ_node {k:Int} {a b:Tr} {w:Int × Int} (h:typT (.node k a b) = some w):(k = 15 ∨ k = 16) ∧ ∃ x y,typT a = some x ∧ typT b = some y ∧ jn k x y = some w:=by
  unfold typT at h
  split at h
  · obtain ⟨x,h1,h2⟩:=bindS h
    obtain ⟨y,h3,h4⟩:=bindS h2
    exact ⟨‹_›,x,y,h1,h3,h4⟩
  · cases h
theorem typ_leaf {n:Nod} {w:Int × Int} (h:typT (.leaf n) = some w):lfB n = true ∧ w = lfT n:=by
  unfold typT at h
  split at h
  · exact ⟨‹_›,(Option.some.inj h).symm⟩
  · cases h
theorem lfB_k {n:Nod} (h:lfB n = true):1 ≤ n.1 ∧ n.1 ≤ 14:=by
  unfold lfB at h;simp only [Bool.and_eq_true] at h
  exact rng_true.1 h.2.1
theorem validB_tree {t:List Nod} (h:validB t = true):∃ T w,t = flat T ∧ typT T = some w ∧ t.length ≤ 400:=by
  unfold validB at h
  rw [Bool.and_eq_true] at h
  have hl:=rng_true.1 h.1
  cases hr:runT t [] with
  | none=>rw [hr] at h;cases h.2
  | some S=>
    rw [hr] at h
    match S,hr,h.2 with
    | [(T,w)],hr,_=>
      have h1:=runT_flat _ _ _ hr
      have h2:=runT_typ _ _ _ (fun p hp=>by cases hp) hr
      refine ⟨T,w,?_,h2 (T,w) (by simp),by omega⟩
      unfold stkN at h1
      simpa using h1.symm
theorem tmScan_eq {t:List Nod} {x:List Int × List Int × List Int} {b:Bool} (h:F_spec_lbScan [] t = some (x,b)):F_spec_tmScan t = some (x,b):=bnd h rfl
def frL (a b:Nat):List Int:=(List.range b).map fun j:Nat=>((j:Int) + (a:Int))
theorem frL_len (a b:Nat):(frL a b).length = b:=by simp [frL]
def ugL (n:Nat):List Int:=(List.range n).map fun q:Nat=>(q:Int)
theorem ugL_len (n:Nat):(ugL n).length = n:=by simp [ugL]
theorem ugL_succ (n:Nat):ugL (n + 1) = ugL n ++ [(n:Int)]:=by unfold ugL;rw [List.range_succ];simp
theorem frL_succ (a b:Nat):frL a (b + 1) = frL a b ++ [(b:Int) + a]:=by unfold frL;rw [List.range_succ];simp
def leafG (n:Nod):Gra:=if n.1 = 1 then (n.2.1,[],ugL n.2.1.toNat,ugL n.2.1.toNat) else if n.1 = 2 then (2,[],[0,1],[1,0]) else
  ((kd n.1).1 + (kd n.1).2,[(n.1,n.2.1,ugL (kd n.1).1.toNat,frL (kd n.1).1.toNat (kd n.1).2.toNat)],ugL (kd n.1).1.toNat,frL (kd n.1).1.toNat (kd n.1).2.toNat)
theorem hgId_ {n:Nat} (hn:n ≤ 1000):F_spec_hgId (n:Int) = some ((n:Int),[],ugL n,ugL n):=by
  have hm:maxN = 1099511627776:=rfl
  have loop:=whileO_is (f:=fun (s166:List Int × List Int × Int)=>
      (some (decide (s166.2.2 < (n:Int)))).bind fun a179=>
      cond a179
      ((appO s166.1 [s166.2.2]).bind fun a187=>
        (appO s166.2.1 [s166.2.2]).bind fun a196=>
        (addO s166.2.2 1).bind fun a202=>
        some (.inl (a187,a196,a202)))
      (some (.inr (s166.1,s166.2.1)))) (fun j=>(ugL j,ugL j,(j:Int))) (t:=(ugL n,ugL n)) n (fun j hj=>by
    refine stp (cTW (dT (by dsimp only;omega)) ?_)
    have e:appO (ugL j) [(j:Int)] = some (ugL (j + 1)):=by rw [ugL_succ];exact appO_of (by rw [ugL_len];simp;omega)
    exact bnd e (bnd e (bnd (addO_of (by dsimp only;omega) (by dsimp only;omega)) rfl)))
    (stp (cFW (dF (by dsimp only;omega)) rfl))
  exact bnd loop rfl
theorem hgLeafLoop {a b:Nat} (ha:a ≤ 1000) (hb:b ≤ 1000):whileO (fun (s328:List Int × List Int × List Int × List Int × Int)=>
          (addO (a:Int) (b:Int)).bind fun a345=>
          (some (decide (s328.2.2.2.2 < a345))).bind fun a347=>
          cond a347
          ((some (decide (s328.2.2.2.2 < (a:Int)))).bind fun a352=>
            cond a352
            ((appO s328.1 [s328.2.2.2.2]).bind fun a379=>
              (appO s328.2.2.1 [s328.2.2.2.2]).bind fun a388=>
              (addO s328.2.2.2.2 1).bind fun a394=>
              some (.inl (a379,s328.2.1,a388,s328.2.2.2.1,a394)))
            ((appO s328.2.1 [s328.2.2.2.2]).bind fun a358=>
              (appO s328.2.2.2.1 [s328.2.2.2.2]).bind fun a367=>
              (addO s328.2.2.2.2 1).bind fun a373=>
              some (.inl (s328.1,a358,s328.2.2.1,a367,a373))))
          (some (.inr (s328.1,s328.2.1,s328.2.2.1,s328.2.2.2.1)))) (([]:List Int),([]:List Int),([]:List Int),([]:List Int),(0:Int)) = some (ugL a,frL a b,ugL a,frL a b):=by
  have hm:maxN = 1099511627776:=rfl
  have hs:addO (a:Int) (b:Int) = some ((a:Int) + b):=addO_of (by omega) (by omega)
  have loop:=whileO_is (f:=fun (s328:List Int × List Int × List Int × List Int × Int)=>
          (addO (a:Int) (b:Int)).bind fun a345=>
          (some (decide (s328.2.2.2.2 < a345))).bind fun a347=>
          cond a347
          ((some (decide (s328.2.2.2.2 < (a:Int)))).bind fun a352=>
            cond a352
            ((appO s328.1 [s328.2.2.2.2]).bind fun a379=>
              (appO s328.2.2.1 [s328.2.2.2.2]).bind fun a388=>
              (addO s328.2.2.2.2 1).bind fun a394=>
              some (.inl (a379,s328.2.1,a388,s328.2.2.2.1,a394)))
            ((appO s328.2.1 [s328.2.2.2.2]).bind fun a358=>
              (appO s328.2.2.2.1 [s328.2.2.2.2]).bind fun a367=>
              (addO s328.2.2.2.2 1).bind fun a373=>
              some (.inl (s328.1,a358,s328.2.2.1,a367,a373))))
          (some (.inr (s328.1,s328.2.1,s328.2.2.1,s328.2.2.2.1)))) (fun j=>(ugL (min j a),frL a (j - a),ugL (min j a),frL a (j - a),(j:Int))) (t:=(ugL a,frL a b,ugL a,frL a b)) (a + b) (fun j hj=>by
    refine bnd hs (stp (cTW (dT (by dsimp only;omega)) ?_))
    have e1:addO ((j:Nat):Int) 1 = some ((j + 1:Nat):Int):=addO_of (by omega) (by omega)
    by_cases hja:j < a
    · have e:appO (ugL (min j a)) [(j:Int)] = some (ugL (min (j + 1) a)):=by
        rw [Nat.min_eq_left (by omega),Nat.min_eq_left (by omega),ugL_succ];exact appO_of (by rw [ugL_len];simp;omega)
      refine stp (cTW (dT (by dsimp only;omega)) (bnd e (bnd e (bnd e1 ?_))))
      rw [show j + 1 - a = j - a by omega]
    · have e:appO (frL a (j - a)) [(j:Int)] = some (frL a (j + 1 - a)):=by
        rw [show j + 1 - a = j - a + 1 by omega,frL_succ,show ((j - a:Nat):Int) + a = j by omega];exact appO_of (by rw [frL_len];simp;omega)
      refine stp (cFW (dF (by dsimp only;omega)) (bnd e (bnd e (bnd e1 ?_))))
      rw [Nat.min_eq_right (by omega),Nat.min_eq_right (by omega)])
    (bnd hs (stp (cFW (dF (by dsimp only;omega)) (by rw [Nat.min_eq_right (by omega),Nat.add_sub_cancel_left]))))
  rw [Nat.zero_min,Nat.zero_sub] at loop
  exact loop
theorem kd_nat (k:Int):∃ a b:Nat,kd k = ((a:Int),(b:Int)) ∧ a ≤ 2 ∧ b ≤ 2:=by
  have h:=kd_le k
  refine ⟨(kd k).1.toNat,(kd k).2.toNat,Prod.ext (by dsimp only;omega) (by dsimp only;omega),by omega,by omega⟩
theorem lfB_id {n:Nod} (h:lfB n = true) (h1:n.1 = 1):0 ≤ n.2.1 ∧ n.2.1 ≤ 12:=by
  unfold lfB at h
  simp only [Bool.and_eq_true] at h
  rw [if_pos h1] at h
  exact rng_true.1 h.2.2
theorem hgLeaf_ {n:Nod} (h:lfB n = true):F_spec_hgLeaf n = some (leafG n):=by
  obtain ⟨k,v,s⟩:=n
  unfold F_spec_hgLeaf leafG
  by_cases h1:k = 1
  · have hv:=lfB_id h h1
    dsimp only at hv
    obtain ⟨m,rfl⟩:∃ m:Nat,v = (m:Int):=⟨v.toNat,by omega⟩
    simp [h1,hgId_ (n:=m) (by omega)]
  by_cases h2:k = 2
  · simp [h2]
  obtain ⟨a,b,hk,ha,hb⟩:=kd_nat k
  have hs:addO (a:Int) (b:Int) = some ((a:Int) + b):=addO_of (by omega) (by omega)
  rw [if_neg h1,if_neg h2]
  refine stp (cFW (dF h1) (stp (cFW (dF h2) (bnd (tmKind_ k) ?_))))
  simp only [hk,Int.toNat_natCast]
  exact bnd hs (bnd (hgLeafLoop (by omega) (by omega)) rfl)
theorem leafG_ok {n:Nod} (h:lfB n = true):gOk (leafG n) = true ∧ ((leafG n).2.2.1.length:Int) = (lfT n).1 ∧ ((leafG n).2.2.2.length:Int) = (lfT n).2:=by
  have hkk:=lfB_k h
  obtain ⟨k,v,s⟩:=n
  dsimp only at hkk
  unfold leafG lfT
  by_cases h1:k = 1
  · have hv:=lfB_id h h1
    dsimp only at hv
    obtain ⟨m,rfl⟩:∃ m:Nat,v = (m:Int):=⟨v.toNat,by omega⟩
    have key:∀ m:Nat,m < 13 → gOk ((m:Int),[],ugL m,ugL m) = true:=by decide
    simp only [h1,if_true,Int.toNat_natCast,ugL_len]
    exact ⟨key m (by omega),trivial,trivial⟩
  by_cases h2:k = 2
  · subst h2
    have e:gOk (2,[],[0,1],[1,0]) = true:=by decide
    exact ⟨e,rfl,rfl⟩
  have hr:rng k 3 14 = true:=rng_true.2 (by omega)
  have hg:genB k v = true:=by
    unfold lfB at h
    simp only [Bool.and_eq_true] at h
    rw [if_neg h1] at h
    unfold genB
    rw [hr,Bool.true_and];exact h.2.2
  obtain ⟨a,b,hk,ha,hb⟩:=kd_nat k
  have h0:=hk
  simp only [h1,h2,if_false,hk,Int.toNat_natCast,ugL_len,frL_len,and_true]
  have hE:edW ((a:Int) + b) (k,v,ugL a,frL a b) = (wOk ((a:Int) + b) (ugL a) && wOk ((a:Int) + b) (frL a b)):=by
    unfold edW arB edI edO
    simp only [hg,hk,ugL_len,frL_len,decide_true,Bool.true_and]
  have e1:((a:Int) + b) = ((a + b:Nat):Int):=by omega
  unfold gOk allW
  simp only [List.all_cons,List.all_nil,hE,ugL_len,frL_len,List.map_cons,List.map_nil]
  have key:∀ a:Nat,a < 3 → ∀ b:Nat,b < 3 → (rng ((a:Int) + b) 0 100 && (decide (1 ≤ 60) && (decide (a ≤ 12) && (decide (b ≤ 12) && (wOk ((a:Int) + b) (ugL a) && (wOk ((a:Int) + b) (frL a b) && ((wOk ((a:Int) + b) (ugL a) && wOk ((a:Int) + b) (frL a b) && true) && (List.range ((a:Int) + b).toNat).all fun j:Nat=>decide ((j:Int) ∈ ugL a ++ frL a b ++ ([ugL a ++ frL a b]).flatten)))))))) = true:=by decide
  exact key a (by omega) b (by omega)
theorem forO_stepL {σ τ:Type} {f:Nat → σ → Option (σ ⊕ τ)} {n k:Nat} {s s':σ} (h:f k s = some (.inl s')):forO f (n + 1) k s = forO f n (k + 1) s':=by
  show (f k s).bind _ = _
  rw [h];rfl
theorem forO_stepR {σ τ:Type} {f:Nat → σ → Option (σ ⊕ τ)} {n k:Nat} {s:σ} {r:τ} (h:f k s = some (.inr r)):forO f (n + 1) k s = some (.inr r):=by
  show (f k s).bind _ = _
  rw [h];rfl
end Go.Proofs.YtlggnmkelgplnaaGreatDoor
namespace Go.Proofs.YtlggnmkelgplnaaGreatDoor
def selR (ends:List Nat) (v:List Int):List Int:=ends.map fun q=>el v q
theorem el_sel {ends:List Nat} {v:List Int} {j:Nat} (h:j < ends.length):el (selR ends v) j = el v (ends.getD j 0):=by
  unfold selR el
  rw [List.getD_eq_getElem?_getD,List.getElem?_map,List.getElem?_eq_getElem h,List.getD_eq_getElem?_getD (l:=ends),List.getElem?_eq_getElem h]
  rfl
theorem gr_map {f:List Int → List Int} {m:Rows} {i:Nat} (h:i < m.length):gr (m.map f) i = f (gr m i):=by
  unfold gr
  rw [List.getD_eq_getElem?_getD,List.getD_eq_getElem?_getD,List.getElem?_map,List.getElem?_eq_getElem h];rfl
theorem span_sel {p:Int} {W:Nat} {V:Rows} {ends:List Nat} (hlt:∀ q ∈ ends,q < W) {x y:List Int} (hx:inSpan p W V x) (hy:∀ j,j < ends.length → el y j % p = el x (ends.getD j 0) % p):inSpan p ends.length (V.map (selR ends)) y:=by
  obtain ⟨c,hc⟩:=hx
  refine ⟨c,fun j hj=>?_⟩
  have hm:ends.getD j 0 < W:=by
    rw [List.getD_eq_getElem?_getD,List.getElem?_eq_getElem hj]
    exact hlt _ (List.getElem_mem hj)
  rw [hy j hj,hc _ hm,List.length_map]
  congr 1
  exact sg_congr fun i hi=>by rw [gr_map hi,el_sel hj]
theorem sel_ok {p:Int} {W:Nat} {V:Rows} {ends:List Nat} (hlt:∀ q ∈ ends,q < W) (h:okM p W V):okM p ends.length (V.map (selR ends)):=by
  intro r hr
  obtain ⟨v,hv,rfl⟩:=List.mem_map.1 hr
  obtain ⟨h1,h2⟩:=h v hv
  refine ⟨by simp [selR],fun x hx=>?_⟩
  obtain ⟨q,hq,rfl⟩:=List.mem_map.1 hx
  exact h2 _ (el_mem (by rw [h1];exact hlt q hq))
theorem leaf_eq {p:Int} {W:Nat} {eqs G:Rows} {ends:List Nat} (hf:fdB p = true) (hlt:∀ q ∈ ends,q < W) (he:okM p W eqs) (hG:okM p ends.length G)
    (f1:∀ v:List Int,perp p W eqs v → inSpan p ends.length G (selR ends v))
    (f2:∀ i,i < G.length → ∃ x,perp p W eqs x ∧ ∀ j,j < ends.length → el (gr G i) j % p = el x (ends.getD j 0) % p) :
    redM p ends.length ((nulM p W eqs).map (selR ends)) = redM p ends.length G:=by
  have hN:=nulM_red (n:=W) (m:=eqs) hf
  refine redM_unique hf (sel_ok hlt hN.ok) hG (fun i hi=>?_) (fun i hi=>?_)
  · rw [List.length_map] at hi
    rw [gr_map hi]
    exact f1 _ ((nulM_iff hf he _).1 (inSpan_row hi))
  · obtain ⟨x,h1,h2⟩:=f2 i hi
    exact span_sel hlt ((nulM_iff hf he x).2 h1) h2
def leafE (p k v:Int):Rows:=
  if k = 3 then [[p - 1,1,0],[p - 1,0,1]] else if k = 5 then [[p - 1,p - 1,1]] else if k = 6 then [[1]] else if k = 7 then [[(p - v) % p,1]] else
  if k = 9 then [[1,0,p - 1],[0,1,p - 1]] else if k = 11 then [[1,p - 1,p - 1]] else if k = 12 then [[1]] else if k = 13 then [[1,(p - v) % p]] else []
def leafGen (k v:Int):Rows:=
  if k = 3 then [[1,1,1]] else if k = 4 then [[1]] else if k = 5 then [[1,0,1],[0,1,1]] else if k = 7 then [[1,v]] else
  if k = 9 then [[1,1,1]] else if k = 10 then [[1]] else if k = 11 then [[1,1,0],[1,0,1]] else if k = 13 then [[v,1]] else []
theorem fdAdd0 {p v:Int} (hp:2 ≤ p ∧ p ≤ 97) (hv:0 ≤ v ∧ v < p):F_spec_fdAdd p 0 v = some v:=by
  refine bnd (addO_of (by omega) (by omega)) (bnd (remO_of (by omega)) ?_)
  rw [Int.tmod_eq_emod_of_nonneg (by omega),Int.zero_add,Int.emod_eq_of_lt hv.1 hv.2]
theorem dnRow_ {p:Int} (hp:2 ≤ p ∧ p ≤ 97) {v w:Int} (hv:0 ≤ v ∧ v < p) (hw:0 ≤ w ∧ w < p) :
    F_spec_dnRow p 1 [0] [v] = some [v] ∧ F_spec_dnRow p 2 [1,0] [v,w] = some [w,v] ∧ F_spec_dnRow p 2 [0,1] [v,w] = some [v,w] ∧
    F_spec_dnRow p 3 [1,0] [v,w] = some [w,v,0] ∧ F_spec_dnRow p 3 [2,0] [v,w] = some [w,0,v] ∧ F_spec_dnRow p 3 [0,2] [v,w] = some [v,0,w] ∧ F_spec_dnRow p 3 [1,2] [v,w] = some [0,v,w] ∧
    F_spec_dnRow p 3 [2,0,1] [v,w,w] = some [w,w,v] ∧ F_spec_dnRow p 3 [0,1,2] [v,w,w] = some [v,w,w]:=by
  have a1:=fdAdd0 hp hv
  have a2:=fdAdd0 hp hw
  have m1:makeO (1:Int) (0:Int) = some [0]:=rfl
  have m2:makeO (2:Int) (0:Int) = some [0,0]:=rfl
  have m3:makeO (3:Int) (0:Int) = some [0,0,0]:=rfl
  refine ⟨?_,?_,?_,?_,?_,?_,?_,?_,?_⟩ <;> simp [F_spec_dnRow,m1,m2,m3,forS,idxO,setO,a1,a2]
theorem hgSel_ {ends:List Nat} {v:List Int} {W:Nat} (hv:v.length = W) (hlt:∀ q ∈ ends,q < W) (hl:ends.length ≤ 1000):F_spec_hgList (ends.map fun q:Nat=>(q:Int)) v = some (selR ends v):=by
  have hm:maxN = 1099511627776:=rfl
  have loop:=forS_map (f:=fun (k3:Nat) (s58:List Int)=>
      (idxO (ends.map fun q:Nat=>(q:Int)) ((k3:Nat):Int)).bind fun a75=>
      (idxO v a75).bind fun a83=>
      (appO s58 [a83]).bind fun a88=>
      some a88) (fun a:Int=>el v a.toNat) (ends.map fun q:Nat=>(q:Int)) [] (by simp;omega) (fun j a s hj hs=>by
    have hjl:=(List.getElem?_eq_some_iff.1 hj).1
    rw [List.length_map] at hjl
    rw [List.getElem?_map,List.getElem?_eq_getElem hjl] at hj
    obtain rfl:=Option.some.inj hj
    have hq:=hlt _ (List.getElem_mem hjl)
    refine bnd (idxO_of (by rw [List.getElem?_map,List.getElem?_eq_getElem hjl];rfl)) (bnd (idx_el (by omega)) (bnd (appO_of (by simp at hs ⊢;omega)) ?_))
    rw [Int.toNat_natCast])
  refine bnd loop (congrArg some ?_)
  rw [List.nil_append,List.map_map]
  unfold selR
  exact List.map_congr_left fun q _=>by show el v ((q:Int)).toNat = _;rw [Int.toNat_natCast]
theorem timeless_ (k:Int):F_spec_dnTimeless k = some (decide (k ≠ 8 ∧ k ≠ 14)):=by
  unfold F_spec_dnTimeless
  by_cases h1:k = 8
  · simp [h1]
  · by_cases h2:k = 14 <;> simp [h1,h2]
theorem asked_ {p:Int} {g:Gra} (hf:fdB p = true) (hg:gOk g = true) (he:∀ e ∈ g.2.1,e.2.1 < p ∧ e.1 ≠ 8 ∧ e.1 ≠ 14):F_spec_dnAsked p g = some true:=by
  have h1:F_spec_hgGood p g = some true:=by
    refine bnd (a:=false) (bnd (fdGood p) (stp (by rw [hf];exact cFW rfl (bnd (hgValid_ g) (stp (by rw [hg];rfl)))))) (cFW rfl (sqW (forO_all (fun e:Edg=>decide (¬ p ≤ e.2.1)) g.2.1 0 (t:=false) (fun j e hj=>?_)) ?_))
    · rw [Nat.zero_add]
      have:=(he e (mem_of_get hj)).1
      refine bnd (idxO_of hj) (stp (cFW (dF (by omega)) ?_))
      rw [show decide (¬ p ≤ e.2.1) = true from dT (by omega)];rfl
    · rw [List.all_eq_true.2 fun e h=>dT (by have:=(he e h).1;omega)];rfl
  refine bnd h1 (stp (cFW rfl (sqW (forO_all (fun e:Edg=>decide (e.1 ≠ 8 ∧ e.1 ≠ 14)) g.2.1 0 (t:=false) (fun j e hj=>?_)) ?_)))
  · rw [Nat.zero_add]
    have:=(he e (mem_of_get hj)).2
    refine bnd (idxO_of hj) (bnd (timeless_ e.1) (stp ?_))
    rw [dT this];rfl
  · rw [List.all_eq_true.2 fun e h=>dT (he e h).2];rfl
theorem dnGraph_ {p:Int} {W a b:Nat} {E:List Edg} {I O:List Int} {ends:List Nat} {eqs:Rows} (hf:fdB p = true) (hg:gOk ((W:Int),E,I,O) = true) (he:∀ e ∈ E,e.2.1 < p ∧ e.1 ≠ 8 ∧ e.1 ≠ 14)
    (hI:I.length = a) (hO:O.length = b) (hends:I ++ O = ends.map fun q:Nat=>(q:Int)) (hlt:∀ q ∈ ends,q < W) (hq:okM p W eqs) (hql:eqs.length ≤ 1000)
    (hrows:forS (fun (k7:Nat) (s70:List (List Int))=>
      (idxO E ((k7:Nat):Int)).bind fun a87=>
      (F_spec_dnRows p (W:Int) (a87.1,a87.2.1,a87.2.2.1,a87.2.2.2)).bind fun y99=>
      (appO s70 y99).bind fun a104=>
      some a104) E.length 0 [] = some eqs):F_spec_dnGraph p ((W:Int),E,I,O) = some (((a:Int),(b:Int),redM p (a + b) ((nulM p W eqs).map (selR ends))),true):=by
  have hm:maxN = 1099511627776:=rfl
  obtain ⟨n,hgk⟩:=gOk_facts hg
  have hW:W ≤ 100:=by have:=hgk.w;have:=hgk.n100;dsimp only at *;omega
  have hi12:=hgk.i12;have ho12:=hgk.o12
  dsimp only at hi12 ho12
  have hel:ends.length = a + b:=by
    have:=congrArg List.length hends
    rw [List.length_append,List.length_map] at this;omega
  have hN:=nulM_red (n:=W) (m:=eqs) hf
  have hNl:=red_len hf hN
  have hV:F_spec_dnValues p ((W:Int),E,I,O) = some (nulM p W eqs):=bnd hrows (bnd (spNull_ hf (by omega) hq (by omega)) rfl)
  have hsel:=forS_map (f:=fun (k32:Nat) (s111:List (List Int))=>
        (idxO (nulM p W eqs) ((k32:Nat):Int)).bind fun a128=>
        (F_spec_hgList (I ++ O) a128).bind fun y132=>
        (appO s111 [y132]).bind fun a140=>
        some a140) (selR ends) (nulM p W eqs) [] (by simp;omega) (fun j v s hj hs=>by
    have hv:=(hN.ok v (mem_of_get hj)).1
    have hjl:=(List.getElem?_eq_some_iff.1 hj).1
    have:=hgSel_ hv hlt (by omega)
    rw [← hends] at this
    exact bnd (idxO_of hj) (bnd this (bnd (appO_of (by simp at hs ⊢;omega)) rfl)))
  have hok:=sel_ok hlt hN.ok
  rw [hel] at hok
  have hred:=spReduce_ hf (Nat.le_refl (a + b)) (by omega) hok (by simp;omega)
  refine bnd (asked_ hf hg he) (stp (cFW rfl (bnd (own_ (by dsimp only;omega)) (bnd (appO_of (by dsimp only;omega)) (bnd hV (bnd hsel ?_))))))
  refine bnd (a:=((a:Int),(b:Int),redM p (a + b) ((nulM p W eqs).map (selR ends)))) ?_ rfl
  dsimp only
  rw [hI,hO]
  refine bnd (a:=((a + b:Nat):Int)) (by rw [addO_of (by omega) (by omega)];congr 1) (bnd ?_ rfl)
  exact hred
end Go.Proofs.YtlggnmkelgplnaaGreatDoor
namespace Go.Proofs.YtlggnmkelgplnaaGreatDoor
theorem sg1 (f:Nat → Int):sg 1 f = f 0:=by simp [sg]
theorem sg2 (f:Nat → Int):sg 2 f = f 0 + f 1:=by simp [sg]
theorem sg3 (f:Nat → Int):sg 3 f = f 0 + f 1 + f 2:=by simp [sg]
theorem cgr {p c d x y:Int} (h:(c + d) % p = 0):(c * x + y) % p = 0 ↔ y % p = (d * x) % p:=by
  have e:c * x + y = (c + d) * x + (y - d * x):=by rw [Int.add_mul];omega
  rw [e,Int.add_emod,Int.mul_emod,h,Int.zero_mul,Int.zero_emod,Int.zero_add,Int.emod_emod_of_dvd _ (Int.dvd_refl p)]
  exact (Int.emod_eq_emod_iff_emod_sub_eq_zero).symm
theorem cg1 {p:Int}:(p - 1 + 1) % p = 0:=by rw [Int.sub_add_cancel,Int.emod_self]
theorem cgv {p v:Int}:((p - v) % p + v) % p = 0:=by rw [add_mod1,Int.sub_add_cancel,Int.emod_self]
structure Mate (p:Int) (N:Nat) (E G:Rows):Prop where
  e:okM p N E
  el:E.length ≤ 1000
  g:okM p N G
  gl:G.length ≤ 1000
  f1:∀ v:List Int,perp p N E v → ∃ c:Nat → Int,∀ j,j < N → Go.Proofs.YtlggnmkelgplnaaGreatDoor.el v j % p = sg G.length (fun i=>c i * Go.Proofs.YtlggnmkelgplnaaGreatDoor.el (gr G i) j) % p
  f2:∀ i,i < G.length → perp p N E (gr G i)
theorem Mate.red {p:Int} {N:Nat} {E G:Rows} (hf:fdB p = true) (h:Mate p N E G):redM p N ((nulM p N E).map (selR (List.range N))) = redM p N G:=by
  have:=leaf_eq (p:=p) (W:=N) (eqs:=E) (G:=G) (ends:=List.range N) hf (fun q hq=>List.mem_range.1 hq) h.e (by rw [List.length_range];exact h.g) (fun v hv=>?_) (fun i hi=>⟨gr G i,h.f2 i hi,fun j hj=>?_⟩)
  · rwa [List.length_range] at this
  · obtain ⟨c,hc⟩:=h.f1 v hv
    rw [List.length_range]
    refine ⟨c,fun j hj=>?_⟩
    rw [el_sel (by rw [List.length_range];exact hj),← hc j hj]
    congr 2
    rw [List.getD_eq_getElem?_getD,List.getElem?_range hj];rfl
  · rw [List.length_range] at hj
    congr 2
    rw [List.getD_eq_getElem?_getD,List.getElem?_range hj];rfl
theorem okM1 {p:Int} {n:Nat} {r:List Int} (h:r.length = n) (h2:inP p r):okM p n [r]:=fun x hx=>by
  rw [List.mem_singleton.1 hx];exact ⟨h,h2⟩
theorem okM2 {p:Int} {n:Nat} {r s:List Int} (h:okM p n [r]) (h2:okM p n [s]):okM p n [r,s]:=fun x hx=>by
  rcases List.mem_cons.1 hx with rfl | hx
  · exact h x (by simp)
  · exact h2 x hx
theorem j1 {P:Nat → Prop} (h0:P 0):∀ j,j < 1 → P j:=fun j hj=>by
  obtain rfl:j = 0:=by omega
  exact h0
theorem j2 {P:Nat → Prop} (h0:P 0) (h1:P 1):∀ j,j < 2 → P j:=fun j hj=>by
  match j,hj with
  | 0,_=>exact h0
  | 1,_=>exact h1
theorem j3 {P:Nat → Prop} (h0:P 0) (h1:P 1) (h2:P 2):∀ j,j < 3 → P j:=fun j hj=>by
  match j,hj with
  | 0,_=>exact h0
  | 1,_=>exact h1
  | 2,_=>exact h2
theorem inP1 {p a:Int} (h:0 ≤ a ∧ a < p):inP p [a]:=fun x hx=>by rw [List.mem_singleton.1 hx];exact h
theorem inPc {p a:Int} {l:List Int} (h:0 ≤ a ∧ a < p) (hl:inP p l):inP p (a :: l):=fun x hx=>by
  rcases List.mem_cons.1 hx with rfl | hx
  · exact h
  · exact hl x hx
section
variable {p v:Int} (hp:2 ≤ p ∧ p ≤ 97) (hv:0 ≤ v ∧ v < p)
include hp
theorem mate3:Mate p 3 [[p - 1,1,0],[p - 1,0,1]] [[1,1,1]]:=by
  have b0:(0:Int) ≤ 0 ∧ (0:Int) < p:=⟨by omega,by omega⟩
  have b1:(0:Int) ≤ 1 ∧ (1:Int) < p:=⟨by omega,by omega⟩
  have bp:(0:Int) ≤ p - 1 ∧ p - 1 < p:=⟨by omega,by omega⟩
  refine ⟨okM2 (okM1 rfl (inPc bp (inPc b1 (inP1 b0)))) (okM1 rfl (inPc bp (inPc b0 (inP1 b1)))),by simp,okM1 rfl (inPc b1 (inPc b1 (inP1 b1))),by simp,fun x hx=>⟨fun _=>el x 0,?_⟩,j1 (j2 ?_ ?_)⟩
  · have h0:((p - 1) * el x 0 + el x 1) % p = 0:=by
      have:=hx 0 (by simp)
      rw [sg3] at this
      have h:((p - 1) * el x 0 + 1 * el x 1 + 0 * el x 2) % p = 0:=this
      rwa [Int.one_mul,Int.zero_mul,Int.add_zero] at h
    have h1:((p - 1) * el x 0 + el x 2) % p = 0:=by
      have:=hx 1 (by simp)
      rw [sg3] at this
      have h:((p - 1) * el x 0 + 0 * el x 1 + 1 * el x 2) % p = 0:=this
      rwa [Int.one_mul,Int.zero_mul,Int.add_zero] at h
    have k0:=(cgr cg1).1 h0
    have k1:=(cgr cg1).1 h1
    rw [Int.one_mul] at k0 k1
    refine j3 ?_ ?_ ?_
    · show _ = sg 1 _ % p
      rw [sg1]
      show el x 0 % p = (el x 0 * 1) % p
      rw [Int.mul_one]
    · show _ = sg 1 _ % p
      rw [sg1]
      show el x 1 % p = (el x 0 * 1) % p
      rw [Int.mul_one,k0]
    · show _ = sg 1 _ % p
      rw [sg1]
      show el x 2 % p = (el x 0 * 1) % p
      rw [Int.mul_one,k1]
  · rw [sg3]
    show ((p - 1) * 1 + 1 * 1 + 0 * 1) % p = 0
    rw [show ((p - 1) * 1 + 1 * 1 + 0 * 1:Int) = p by omega,Int.emod_self]
  · rw [sg3]
    show ((p - 1) * 1 + 0 * 1 + 1 * 1) % p = 0
    rw [show ((p - 1) * 1 + 0 * 1 + 1 * 1:Int) = p by omega,Int.emod_self]
theorem mate4:Mate p 1 ([]:Rows) ([[1]]:Rows):=by
  have b0:(0:Int) ≤ 0 ∧ (0:Int) < p:=⟨by omega,by omega⟩
  have b1:(0:Int) ≤ 1 ∧ (1:Int) < p:=⟨by omega,by omega⟩
  have bp:(0:Int) ≤ p - 1 ∧ p - 1 < p:=⟨by omega,by omega⟩
  refine ⟨(fun x hx=>by cases hx),by simp,(okM1 rfl (inP1 b1)),by simp,fun x hx=>⟨fun _=>el x 0,?_⟩,?_⟩
  · refine j1 ?_
    · show _ = sg 1 _ % p
      rw [sg1]
      show el x 0 % p = (el x 0 * 1) % p
      first | (simp;done) | (simp only [Int.mul_one,Int.mul_zero,Int.add_zero,Int.zero_add];assumption)
  · intro i hi k hk;simp at hk
theorem mate6:Mate p 1 ([[1]]:Rows) ([]:Rows):=by
  have b0:(0:Int) ≤ 0 ∧ (0:Int) < p:=⟨by omega,by omega⟩
  have b1:(0:Int) ≤ 1 ∧ (1:Int) < p:=⟨by omega,by omega⟩
  have bp:(0:Int) ≤ p - 1 ∧ p - 1 < p:=⟨by omega,by omega⟩
  refine ⟨(okM1 rfl (inP1 b1)),by simp,(fun x hx=>by cases hx),by simp,fun x hx=>⟨fun _=>0,?_⟩,?_⟩
  · have q0:(1 * el x 0) % p = 0:=by
      have:=hx 0 (by simp)
      rw [sg1] at this
      exact this
    have k0:el x 0 % p = 0:=by rwa [Int.one_mul] at q0
    refine j1 ?_
    · show el x 0 % p = (0:Int) % p
      rw [k0,Int.zero_emod]
  · intro i hi;simp at hi
theorem mate5:Mate p 3 ([[p - 1,p - 1,1]]:Rows) ([[1,0,1],[0,1,1]]:Rows):=by
  have b0:(0:Int) ≤ 0 ∧ (0:Int) < p:=⟨by omega,by omega⟩
  have b1:(0:Int) ≤ 1 ∧ (1:Int) < p:=⟨by omega,by omega⟩
  have bp:(0:Int) ≤ p - 1 ∧ p - 1 < p:=⟨by omega,by omega⟩
  refine ⟨(okM1 rfl (inPc bp (inPc bp (inP1 b1)))),by simp,(okM2 (okM1 rfl (inPc b1 (inPc b0 (inP1 b1)))) (okM1 rfl (inPc b0 (inPc b1 (inP1 b1))))),by simp,fun x hx=>⟨fun i=>el x i,?_⟩,?_⟩
  · have q0:((p - 1) * el x 0 + (p - 1) * el x 1 + 1 * el x 2) % p = 0:=by
      have:=hx 0 (by simp)
      rw [sg3] at this
      exact this
    have k0:el x 2 % p = (el x 0 + el x 1) % p:=by
      have:=(cgr (x:=el x 0 + el x 1) (y:=el x 2) cg1).1 (by rw [← q0];congr 1;rw [Int.mul_add];omega)
      rwa [Int.one_mul] at this
    refine j3 ?_ ?_ ?_
    · show _ = sg 2 _ % p
      rw [sg2]
      show el x 0 % p = (el x 0 * 1 + el x 1 * 0) % p
      first | (simp;done) | (simp only [Int.mul_one,Int.mul_zero,Int.add_zero,Int.zero_add];assumption)
    · show _ = sg 2 _ % p
      rw [sg2]
      show el x 1 % p = (el x 0 * 0 + el x 1 * 1) % p
      first | (simp;done) | (simp only [Int.mul_one,Int.mul_zero,Int.add_zero,Int.zero_add];assumption)
    · show _ = sg 2 _ % p
      rw [sg2]
      show el x 2 % p = (el x 0 * 1 + el x 1 * 1) % p
      first | (simp;done) | (simp only [Int.mul_one,Int.mul_zero,Int.add_zero,Int.zero_add];assumption)
  · refine j2 ?_ ?_
    · refine j1 ?_
      · rw [sg3]
        show ((p - 1) * 1 + (p - 1) * 0 + 1 * 1) % p = 0
        first | (rw [show ((p - 1) * 1 + (p - 1) * 0 + 1 * 1:Int) = p by omega,Int.emod_self]) | (rw [show ((p - 1) * 0 + (p - 1) * 1 + 1 * 1:Int) = p by omega,Int.emod_self]) | (rw [show (1 * 1 + 0 * 1 + (p - 1) * 1:Int) = p by omega,Int.emod_self]) | (rw [show (0 * 1 + 1 * 1 + (p - 1) * 1:Int) = p by omega,Int.emod_self]) | (rw [show (1 * 1 + (p - 1) * 1 + (p - 1) * 0:Int) = p by omega,Int.emod_self]) | (rw [show (1 * 1 + (p - 1) * 0 + (p - 1) * 1:Int) = p by omega,Int.emod_self])
    · refine j1 ?_
      · rw [sg3]
        show ((p - 1) * 0 + (p - 1) * 1 + 1 * 1) % p = 0
        first | (rw [show ((p - 1) * 1 + (p - 1) * 0 + 1 * 1:Int) = p by omega,Int.emod_self]) | (rw [show ((p - 1) * 0 + (p - 1) * 1 + 1 * 1:Int) = p by omega,Int.emod_self]) | (rw [show (1 * 1 + 0 * 1 + (p - 1) * 1:Int) = p by omega,Int.emod_self]) | (rw [show (0 * 1 + 1 * 1 + (p - 1) * 1:Int) = p by omega,Int.emod_self]) | (rw [show (1 * 1 + (p - 1) * 1 + (p - 1) * 0:Int) = p by omega,Int.emod_self]) | (rw [show (1 * 1 + (p - 1) * 0 + (p - 1) * 1:Int) = p by omega,Int.emod_self])
theorem mate9:Mate p 3 ([[1,0,p - 1],[0,1,p - 1]]:Rows) ([[1,1,1]]:Rows):=by
  have b0:(0:Int) ≤ 0 ∧ (0:Int) < p:=⟨by omega,by omega⟩
  have b1:(0:Int) ≤ 1 ∧ (1:Int) < p:=⟨by omega,by omega⟩
  have bp:(0:Int) ≤ p - 1 ∧ p - 1 < p:=⟨by omega,by omega⟩
  refine ⟨(okM2 (okM1 rfl (inPc b1 (inPc b0 (inP1 bp)))) (okM1 rfl (inPc b0 (inPc b1 (inP1 bp))))),by simp,(okM1 rfl (inPc b1 (inPc b1 (inP1 b1)))),by simp,fun x hx=>⟨fun _=>el x 2,?_⟩,?_⟩
  · have q0:(1 * el x 0 + 0 * el x 1 + (p - 1) * el x 2) % p = 0:=by
      have:=hx 0 (by simp)
      rw [sg3] at this
      exact this
    have q1:(0 * el x 0 + 1 * el x 1 + (p - 1) * el x 2) % p = 0:=by
      have:=hx 1 (by simp)
      rw [sg3] at this
      exact this
    have k0:el x 0 % p = el x 2 % p:=by
      have:=(cgr (x:=el x 2) (y:=el x 0) cg1).1 (by rw [← q0];congr 1;omega)
      rwa [Int.one_mul] at this
    have k1:el x 1 % p = el x 2 % p:=by
      have:=(cgr (x:=el x 2) (y:=el x 1) cg1).1 (by rw [← q1];congr 1;omega)
      rwa [Int.one_mul] at this
    refine j3 ?_ ?_ ?_
    · show _ = sg 1 _ % p
      rw [sg1]
      show el x 0 % p = (el x 2 * 1) % p
      first | (simp;done) | (simp only [Int.mul_one,Int.mul_zero,Int.add_zero,Int.zero_add];assumption)
    · show _ = sg 1 _ % p
      rw [sg1]
      show el x 1 % p = (el x 2 * 1) % p
      first | (simp;done) | (simp only [Int.mul_one,Int.mul_zero,Int.add_zero,Int.zero_add];assumption)
    · show _ = sg 1 _ % p
      rw [sg1]
      show el x 2 % p = (el x 2 * 1) % p
      first | (simp;done) | (simp only [Int.mul_one,Int.mul_zero,Int.add_zero,Int.zero_add];assumption)
  · refine j1 ?_
    · refine j2 ?_ ?_
      · rw [sg3]
        show (1 * 1 + 0 * 1 + (p - 1) * 1) % p = 0
        first | (rw [show ((p - 1) * 1 + (p - 1) * 0 + 1 * 1:Int) = p by omega,Int.emod_self]) | (rw [show ((p - 1) * 0 + (p - 1) * 1 + 1 * 1:Int) = p by omega,Int.emod_self]) | (rw [show (1 * 1 + 0 * 1 + (p - 1) * 1:Int) = p by omega,Int.emod_self]) | (rw [show (0 * 1 + 1 * 1 + (p - 1) * 1:Int) = p by omega,Int.emod_self]) | (rw [show (1 * 1 + (p - 1) * 1 + (p - 1) * 0:Int) = p by omega,Int.emod_self]) | (rw [show (1 * 1 + (p - 1) * 0 + (p - 1) * 1:Int) = p by omega,Int.emod_self])
      · rw [sg3]
        show (0 * 1 + 1 * 1 + (p - 1) * 1) % p = 0
        first | (rw [show ((p - 1) * 1 + (p - 1) * 0 + 1 * 1:Int) = p by omega,Int.emod_self]) | (rw [show ((p - 1) * 0 + (p - 1) * 1 + 1 * 1:Int) = p by omega,Int.emod_self]) | (rw [show (1 * 1 + 0 * 1 + (p - 1) * 1:Int) = p by omega,Int.emod_self]) | (rw [show (0 * 1 + 1 * 1 + (p - 1) * 1:Int) = p by omega,Int.emod_self]) | (rw [show (1 * 1 + (p - 1) * 1 + (p - 1) * 0:Int) = p by omega,Int.emod_self]) | (rw [show (1 * 1 + (p - 1) * 0 + (p - 1) * 1:Int) = p by omega,Int.emod_self])
theorem mate11:Mate p 3 ([[1,p - 1,p - 1]]:Rows) ([[1,1,0],[1,0,1]]:Rows):=by
  have b0:(0:Int) ≤ 0 ∧ (0:Int) < p:=⟨by omega,by omega⟩
  have b1:(0:Int) ≤ 1 ∧ (1:Int) < p:=⟨by omega,by omega⟩
  have bp:(0:Int) ≤ p - 1 ∧ p - 1 < p:=⟨by omega,by omega⟩
  refine ⟨(okM1 rfl (inPc b1 (inPc bp (inP1 bp)))),by simp,(okM2 (okM1 rfl (inPc b1 (inPc b1 (inP1 b0)))) (okM1 rfl (inPc b1 (inPc b0 (inP1 b1))))),by simp,fun x hx=>⟨fun i=>el x (i + 1),?_⟩,?_⟩
  · have q0:(1 * el x 0 + (p - 1) * el x 1 + (p - 1) * el x 2) % p = 0:=by
      have:=hx 0 (by simp)
      rw [sg3] at this
      exact this
    have k0:el x 0 % p = (el x 1 + el x 2) % p:=by
      have:=(cgr (x:=el x 1 + el x 2) (y:=el x 0) cg1).1 (by rw [← q0];congr 1;rw [Int.mul_add];omega)
      rwa [Int.one_mul] at this
    refine j3 ?_ ?_ ?_
    · show _ = sg 2 _ % p
      rw [sg2]
      show el x 0 % p = (el x 1 * 1 + el x 2 * 1) % p
      first | (simp;done) | (simp only [Int.mul_one,Int.mul_zero,Int.add_zero,Int.zero_add];assumption)
    · show _ = sg 2 _ % p
      rw [sg2]
      show el x 1 % p = (el x 1 * 1 + el x 2 * 0) % p
      first | (simp;done) | (simp only [Int.mul_one,Int.mul_zero,Int.add_zero,Int.zero_add];assumption)
    · show _ = sg 2 _ % p
      rw [sg2]
      show el x 2 % p = (el x 1 * 0 + el x 2 * 1) % p
      first | (simp;done) | (simp only [Int.mul_one,Int.mul_zero,Int.add_zero,Int.zero_add];assumption)
  · refine j2 ?_ ?_
    · refine j1 ?_
      · rw [sg3]
        show (1 * 1 + (p - 1) * 1 + (p - 1) * 0) % p = 0
        first | (rw [show ((p - 1) * 1 + (p - 1) * 0 + 1 * 1:Int) = p by omega,Int.emod_self]) | (rw [show ((p - 1) * 0 + (p - 1) * 1 + 1 * 1:Int) = p by omega,Int.emod_self]) | (rw [show (1 * 1 + 0 * 1 + (p - 1) * 1:Int) = p by omega,Int.emod_self]) | (rw [show (0 * 1 + 1 * 1 + (p - 1) * 1:Int) = p by omega,Int.emod_self]) | (rw [show (1 * 1 + (p - 1) * 1 + (p - 1) * 0:Int) = p by omega,Int.emod_self]) | (rw [show (1 * 1 + (p - 1) * 0 + (p - 1) * 1:Int) = p by omega,Int.emod_self])
    · refine j1 ?_
      · rw [sg3]
        show (1 * 1 + (p - 1) * 0 + (p - 1) * 1) % p = 0
        first | (rw [show ((p - 1) * 1 + (p - 1) * 0 + 1 * 1:Int) = p by omega,Int.emod_self]) | (rw [show ((p - 1) * 0 + (p - 1) * 1 + 1 * 1:Int) = p by omega,Int.emod_self]) | (rw [show (1 * 1 + 0 * 1 + (p - 1) * 1:Int) = p by omega,Int.emod_self]) | (rw [show (0 * 1 + 1 * 1 + (p - 1) * 1:Int) = p by omega,Int.emod_self]) | (rw [show (1 * 1 + (p - 1) * 1 + (p - 1) * 0:Int) = p by omega,Int.emod_self]) | (rw [show (1 * 1 + (p - 1) * 0 + (p - 1) * 1:Int) = p by omega,Int.emod_self])
include hv
theorem mate7:Mate p 2 ([[(p - v) % p,1]]:Rows) ([[1,v]]:Rows):=by
  have b0:(0:Int) ≤ 0 ∧ (0:Int) < p:=⟨by omega,by omega⟩
  have b1:(0:Int) ≤ 1 ∧ (1:Int) < p:=⟨by omega,by omega⟩
  have bp:(0:Int) ≤ p - 1 ∧ p - 1 < p:=⟨by omega,by omega⟩
  have bv:(0:Int) ≤ (p - v) % p ∧ (p - v) % p < p:=emod_in hp.1
  refine ⟨(okM1 rfl (inPc bv (inP1 b1))),by simp,(okM1 rfl (inPc b1 (inP1 hv))),by simp,fun x hx=>⟨fun _=>el x 0,?_⟩,?_⟩
  · have q0:(((p - v) % p) * el x 0 + 1 * el x 1) % p = 0:=by
      have:=hx 0 (by simp)
      rw [sg2] at this
      exact this
    have k0:el x 1 % p = (el x 0 * v) % p:=by
      have:=(cgr (x:=el x 0) (y:=el x 1) (cgv (v:=v))).1 (by rw [← q0];congr 1;omega)
      rwa [Int.mul_comm] at this
    refine j2 ?_ ?_
    · show _ = sg 1 _ % p
      rw [sg1]
      show el x 0 % p = (el x 0 * 1) % p
      first | (simp;done) | (simp only [Int.mul_one,Int.mul_zero,Int.add_zero,Int.zero_add];assumption)
    · show _ = sg 1 _ % p
      rw [sg1]
      show el x 1 % p = (el x 0 * v) % p
      exact k0
  · refine j1 ?_
    · refine j1 ?_
      · rw [sg2]
        show (((p - v) % p) * 1 + 1 * v) % p = 0
        rw [Int.mul_one,Int.one_mul];exact cgv
theorem mate13:Mate p 2 ([[1,(p - v) % p]]:Rows) ([[v,1]]:Rows):=by
  have b0:(0:Int) ≤ 0 ∧ (0:Int) < p:=⟨by omega,by omega⟩
  have b1:(0:Int) ≤ 1 ∧ (1:Int) < p:=⟨by omega,by omega⟩
  have bp:(0:Int) ≤ p - 1 ∧ p - 1 < p:=⟨by omega,by omega⟩
  have bv:(0:Int) ≤ (p - v) % p ∧ (p - v) % p < p:=emod_in hp.1
  refine ⟨(okM1 rfl (inPc b1 (inP1 bv))),by simp,(okM1 rfl (inPc hv (inP1 b1))),by simp,fun x hx=>⟨fun _=>el x 1,?_⟩,?_⟩
  · have q0:(1 * el x 0 + ((p - v) % p) * el x 1) % p = 0:=by
      have:=hx 0 (by simp)
      rw [sg2] at this
      exact this
    have k0:el x 0 % p = (el x 1 * v) % p:=by
      have:=(cgr (x:=el x 1) (y:=el x 0) (cgv (v:=v))).1 (by rw [← q0];congr 1;omega)
      rwa [Int.mul_comm] at this
    refine j2 ?_ ?_
    · show _ = sg 1 _ % p
      rw [sg1]
      show el x 0 % p = (el x 1 * v) % p
      exact k0
    · show _ = sg 1 _ % p
      rw [sg1]
      show el x 1 % p = (el x 1 * 1) % p
      first | (simp;done) | (simp only [Int.mul_one,Int.mul_zero,Int.add_zero,Int.zero_add];assumption)
  · refine j1 ?_
    · refine j1 ?_
      · rw [sg2]
        show (1 * v + ((p - v) % p) * 1) % p = 0
        rw [Int.mul_one,Int.one_mul,Int.add_comm];exact cgv
end
theorem mate_all {p k v:Int} (hp:2 ≤ p ∧ p ≤ 97) (hk:rng k 3 14 = true) (h8:k ≠ 8) (h14:k ≠ 14) (hv:0 ≤ v ∧ v < p):Mate p ((kd k).1.toNat + (kd k).2.toNat) (leafE p k v) (leafGen k v):=by
  have:=rng_true.1 hk
  have hc:k = 3 ∨ k = 4 ∨ k = 5 ∨ k = 6 ∨ k = 7 ∨ k = 9 ∨ k = 10 ∨ k = 11 ∨ k = 12 ∨ k = 13:=by omega
  rcases hc with rfl | rfl | rfl | rfl | rfl | rfl | rfl | rfl | rfl | rfl
  · exact mate3 hp
  · exact mate4 hp
  · exact mate5 hp
  · exact mate6 hp
  · exact mate7 hp hv
  · exact mate9 hp
  · exact mate4 hp
  · exact mate11 hp
  · exact mate6 hp
  · exact mate13 hp hv
theorem dnRows_ {p k v:Int} (hp:2 ≤ p ∧ p ≤ 97) (hk:rng k 3 14 = true) (h8:k ≠ 8) (h14:k ≠ 14) (hv:0 ≤ v ∧ v < p) :
    F_spec_dnRows p ((kd k).1 + (kd k).2) (k,v,ugL (kd k).1.toNat,frL (kd k).1.toNat (kd k).2.toNat) = some (leafE p k v):=by
  have:=rng_true.1 hk
  have b0:(0:Int) ≤ 0 ∧ (0:Int) < p:=⟨by omega,by omega⟩
  have b1:(0:Int) ≤ 1 ∧ (1:Int) < p:=⟨by omega,by omega⟩
  have bp:(0:Int) ≤ p - 1 ∧ p - 1 < p:=⟨by omega,by omega⟩
  have bv:(0:Int) ≤ (p - v) % p ∧ (p - v) % p < p:=emod_in hp.1
  obtain ⟨r1,r2,r3,r4,r5,r6,r7,r8,r9⟩:=dnRow_ hp b1 bp
  obtain ⟨_,s2,s3,_⟩:=dnRow_ hp b1 bv
  have sp:subO p 1 = some (p - 1):=subO_of (by omega) (by omega)
  have ng:=fdNeg_ hp hv
  have hc:k = 3 ∨ k = 4 ∨ k = 5 ∨ k = 6 ∨ k = 7 ∨ k = 9 ∨ k = 10 ∨ k = 11 ∨ k = 12 ∨ k = 13:=by omega
  have u0:ugL 0 = []:=rfl
  have u1:ugL 1 = [0]:=rfl
  have u2:ugL 2 = [0,1]:=rfl
  have f01:frL 0 1 = [0]:=rfl
  have f11:frL 1 1 = [1]:=rfl
  have f12:frL 1 2 = [1,2]:=rfl
  have f21:frL 2 1 = [2]:=rfl
  have f10:frL 1 0 = []:=rfl
  have q3:subO 9 9 = some 0:=rfl
  have q4:subO 10 9 = some 1:=rfl
  have q5:subO 11 9 = some 2:=rfl
  have q6:subO 12 9 = some 3:=rfl
  have q7:subO 13 9 = some 4:=rfl
  have t0:addO 0 3 = some 3:=rfl
  have t1:addO 1 3 = some 4:=rfl
  have t2:addO 2 3 = some 5:=rfl
  have t3:addO 3 3 = some 6:=rfl
  have t4:addO 4 3 = some 7:=rfl
  unfold leafE
  generalize (p - v) % p = q at ng s2 s3 ⊢
  rcases hc with rfl | rfl | rfl | rfl | rfl | rfl | rfl | rfl | rfl | rfl <;>
    simp [F_spec_dnRows,kd,idxO,sp,ng,r1,r2,r3,r4,r5,r6,r7,r8,r9,s2,s3,u0,u1,u2,f01,f11,f12,f21,f10,q3,q4,q5,q6,q7,t0,t1,t2,t3,t4]
theorem range_ends (a b:Nat):ugL a ++ frL a b = (List.range (a + b)).map fun q:Nat=>(q:Int):=by
  unfold ugL frL
  rw [List.range_add,List.map_append,List.map_map]
  congr 1
  refine List.map_congr_left fun q _=>?_
  show (q:Int) + a = ((a + q:Nat):Int)
  omega
theorem lfB_gen {n:Nod} (h:lfB n = true) (h1:n.1 ≠ 1) (h2:n.1 ≠ 2):rng n.1 3 14 = true ∧ 0 ≤ n.2.1:=by
  have hk:=lfB_k h
  refine ⟨rng_true.2 (by omega),?_⟩
  unfold lfB at h
  simp only [Bool.and_eq_true] at h
  have h3:=h.2.2
  rw [if_neg h1] at h3
  split at h3
  · exact (rng_true.1 h3).1
  · have:=of_decide_eq_true h3;omega
theorem dnLeaf_gen {p:Int} {n:Nod} (hf:fdB p = true) (h:lfB n = true) (h1:n.1 ≠ 1) (h2:n.1 ≠ 2) (h8:n.1 ≠ 8) (h14:n.1 ≠ 14) (hv:n.2.1 < p) :
    F_spec_dnLeaf p n = some ((kd n.1).1,(kd n.1).2,redM p ((kd n.1).1.toNat + (kd n.1).2.toNat) (leafGen n.1 n.2.1)):=by
  have hp:=fdB_rng hf
  obtain ⟨hr,h0⟩:=lfB_gen h h1 h2
  obtain ⟨k,v,s⟩:=n
  dsimp only at *
  have hM:=mate_all hp hr h8 h14 ⟨h0,hv⟩
  have hR:=dnRows_ hp hr h8 h14 ⟨h0,hv⟩
  have hG:=leafG_ok h
  have hL:=hgLeaf_ h
  have eL:leafG (k,v,s) = ((kd k).1 + (kd k).2,[(k,v,ugL (kd k).1.toNat,frL (kd k).1.toNat (kd k).2.toNat)],ugL (kd k).1.toNat,frL (kd k).1.toNat (kd k).2.toNat):=by
    unfold leafG;dsimp only;rw [if_neg h1,if_neg h2]
  rw [eL] at hG hL
  obtain ⟨a,b,hk,ha,hb⟩:=kd_nat k
  rw [hk] at hM hR hG hL ⊢
  dsimp only [Int.toNat_natCast] at hM hR hG hL ⊢
  have e1:((a:Int) + (b:Int)) = ((a + b:Nat):Int):=by omega
  rw [e1] at hR hG hL
  have hm:maxN = 1099511627776:=rfl
  have hD:=dnGraph_ (W:=a + b) (a:=a) (b:=b) (ends:=List.range (a + b)) (eqs:=leafE p k v) hf hG.1 (fun e he=>by
    rw [List.mem_singleton.1 he];exact ⟨hv,h8,h14⟩) (ugL_len a) (frL_len a b) (range_ends a b) (fun q hq=>List.mem_range.1 hq) hM.e hM.el
    (bnd (bnd (a:=(k,v,ugL a,frL a b)) rfl (bnd hR (bnd (appO_of (by have:=hM.el;simp;omega)) rfl))) (by rw [List.nil_append];rfl))
  rw [hM.red hf] at hD
  exact bnd hL (bnd hD rfl)
end Go.Proofs.YtlggnmkelgplnaaGreatDoor
namespace Go.Proofs.YtlggnmkelgplnaaGreatDoor
instance (s:ByteArray) (l:List ByteArray):Decidable (s ∈ l):=decidable_of_iff (l.any (fun a=>decide (a = s)) = true) (by simp [List.any_eq_true])
def bt (s:ByteArray) (i:Nat):Int:=((s.data[i]?.getD 0).toNat:Int)
theorem rng_false {x a b:Int}:rng x a b = false ↔ ¬ (a ≤ x ∧ x ≤ b):=by
  rw [← rng_true];simp
theorem wires_ (t:List Nod):∃ w,F_impl_Term_wires t = some (w,validB t) ∧ (validB t = true → w = tyT t):=by
  obtain ⟨w,h1,h2⟩:=typed_ t
  exact ⟨w,bnd h1 rfl,h2⟩
def ovN (p:Int) (n:Nod):Bool:=!(decide (n.1 = 7 ∨ n.1 = 13) && decide (p ≤ n.2.1))
def ovB (p:Int) (t:List Nod):Bool:=validB t && (fdB p && t.all (ovN p))
theorem hasValue_ (k:Int):F_impl_hasValue k = some (decide (k = 7 ∨ k = 13)):=by
  unfold F_impl_hasValue
  by_cases h1:k = 7
  · simp [h1]
  · by_cases h2:k = 13 <;> simp [h1,h2]
theorem tmGood_ (p:Int) (t:List Nod):F_spec_tmGood p t = some (ovB p t):=by
  obtain ⟨x,h1,_⟩:=lbScan_ t
  unfold ovB
  refine bnd (tmScan_eq h1) ?_
  cases hv:validB t with
  | false=>rfl
  | true=>
    cases hf:fdB p with
    | false=>exact bnd (a:=true) (stp (cFW rfl (bnd (fdGood p) (stp (by rw [hf];rfl))))) rfl
    | true=>
      refine bnd (a:=false) (stp (cFW rfl (bnd (fdGood p) (stp (by rw [hf];rfl))))) (cFW rfl ?_)
      refine sqW (forO_all (ovN p) t 0 ?_ (t:=false)) ?_
      · intro j n hj
        rw [Nat.zero_add]
        refine bnd (idxO_of hj) ?_
        unfold ovN
        by_cases k7:n.1 = 7
        · by_cases hp:p ≤ n.2.1 <;> simp [k7,hp]
        · by_cases k13:n.1 = 13
          · by_cases hp:p ≤ n.2.1 <;> simp [k13,hp]
          · simp [k7,k13]
      · cases t.all (ovN p) <;> rfl
theorem isOver_ (p:Int) (t:List Nod):F_impl_Term_isOver t p = some (ovB p t):=by
  unfold ovB
  cases hf:fdB p with
  | false=>
    refine (bnd (a:=true) (bnd (isField_ p) (stp (by rw [hf];rfl))) rfl:_ = some false).trans ?_
    cases validB t <;> rfl
  | true=>
    cases hv:validB t with
    | false=>exact bnd (a:=true) (bnd (isField_ p) (stp (by rw [hf];exact cFW rfl (bnd (isValid_ t) (stp (by rw [hv];rfl)))))) rfl
    | true=>
      refine bnd (a:=false) (bnd (isField_ p) (stp (by rw [hf];exact cFW rfl (bnd (isValid_ t) (stp (by rw [hv];rfl)))))) (cFW rfl ?_)
      refine sqW (forO_all (ovN p) t 0 ?_ (t:=false)) ?_
      · intro j n hj
        rw [Nat.zero_add]
        refine bnd (idxO_of hj) ?_
        have hh:=hasValue_ n.1
        unfold ovN
        by_cases k:n.1 = 7 ∨ n.1 = 13
        · by_cases hp:p ≤ n.2.1 <;> simp [hh,k,hp]
        · simp [hh,k]
      · cases t.all (ovN p) <;> rfl
end Go.Proofs.YtlggnmkelgplnaaGreatDoor
namespace Go.Proofs.YtlggnmkelgplnaaGreatDoor
theorem relation_ {p:Int} {a b:Nat} {G:Rows} (hf:fdB p = true) (hN:a + b ≤ 1000) (hG:okM p (a + b) G) (hl:G.length ≤ 10000):F_impl_relation p (a:Int) (b:Int) G = some ((a:Int),(b:Int),redM p (a + b) G):=by
  have hred:=reduced_ hf (Nat.le_refl (a + b)) (by omega) hG (by omega)
  refine bnd (a:=((a + b:Nat):Int)) (by rw [addO_of (by omega) (by omega)];congr 1) (bnd hred rfl)
def swpR (l:Nat) (x:List Int):List Int:=x.drop l ++ x.take l
def swpE (l r:Nat):List Nat:=(List.range r).map (fun q=>l + q) ++ List.range l
theorem swpE_len (l r:Nat):(swpE l r).length = r + l:=by simp [swpE]
theorem swpE_lt {l r:Nat}:∀ q ∈ swpE l r,q < l + r:=by
  intro q hq
  rcases List.mem_append.1 hq with h | h
  · obtain ⟨t,ht,rfl⟩:=List.mem_map.1 h
    have:=List.mem_range.1 ht;omega
  · have:=List.mem_range.1 h;omega
theorem swp_sel {l r:Nat} {x:List Int} (h:x.length = l + r):swpR l x = selR (swpE l r) x:=by
  refine ext_el (by simp [swpR,selR,swpE,h]) (fun j hj=>?_)
  have hj2:j < r + l:=by simp [swpR] at hj;omega
  rw [el_sel (by rw [swpE_len];exact hj2)]
  unfold swpR swpE
  have ld:(x.drop l).length = r:=by simp;omega
  rw [el_app2,ld,List.getD_eq_getElem?_getD]
  by_cases c:j < r
  · rw [if_pos c,el_drop2,List.getElem?_append_left (by simpa using c),List.getElem?_map,List.getElem?_range c];rfl
  · rw [if_neg c,el_take2 (by omega),List.getElem?_append_right (by simpa using c),List.length_map,List.length_range,List.getElem?_range (by omega)];rfl
theorem converse_ {p:Int} {l r:Nat} {B:Rows} (hf:fdB p = true) (hN:l + r ≤ 1000) (hB:okM p (l + r) B) (hL:B.length ≤ 1000):F_impl_converse p ((l:Int),(r:Int),B) = some ((r:Int),(l:Int),redM p (r + l) (B.map (swpR l))):=by
  have hm:maxN = 1099511627776:=rfl
  have e:F_impl_Relation_each_impl_converse_1 ((l:Int),(r:Int),B) ((l:Int),(r:Int),B) = some (B.map (swpR l)):=by
    refine bnd (forS_map (swpR l) B [] (by simp;omega) (fun j x s hj hs=>?_)) rfl
    have hx:=(hB x (mem_of_get hj)).1
    have hjl:=(List.getElem?_eq_some_iff.1 hj).1
    have hjo:=joined_ (l:=[x.drop l,x.take l]) (by simp;omega)
    refine bnd (idxO_of hj) (bnd (bnd (second_ (l:=l) rfl (by omega)) (bnd (first_ (l:=l) rfl (by omega)) (bnd hjo rfl))) (bnd (appO_of (by simp at hs ⊢;omega)) ?_))
    simp [swpR]
  have hok:okM p (r + l) (B.map (swpR l)):=by
    intro y hy
    obtain ⟨x,hx,rfl⟩:=List.mem_map.1 hy
    obtain ⟨h1,h2⟩:=hB x hx
    refine ⟨by simp [swpR];omega,fun z hz=>?_⟩
    rcases List.mem_append.1 hz with h | h
    · exact h2 z (List.mem_of_mem_drop h)
    · exact h2 z (List.mem_of_mem_take h)
  exact bnd e (bnd (relation_ hf (by omega) hok (by simp;omega)) rfl)
theorem swp_red {p:Int} {l r:Nat} {G:Rows} (hf:fdB p = true) (hG:okM p (l + r) G):redM p (r + l) ((redM p (l + r) G).map (swpR l)) = redM p (r + l) (G.map (swpR l)):=by
  have hR:=redM_red hf hG
  obtain ⟨s1,s2⟩:=redM_span hf hG
  have m1:(redM p (l + r) G).map (swpR l) = (redM p (l + r) G).map (selR (swpE l r)):=List.map_congr_left fun x hx=>swp_sel (hR.ok x hx).1
  have m2:G.map (swpR l) = G.map (selR (swpE l r)):=List.map_congr_left fun x hx=>swp_sel (hG x hx).1
  rw [m1,m2,← swpE_len l r]
  refine redM_unique hf (sel_ok swpE_lt hR.ok) (sel_ok swpE_lt hG) (fun i hi=>?_) (fun i hi=>?_)
  · rw [List.length_map] at hi
    rw [gr_map hi]
    exact span_sel swpE_lt (s1 i hi) (fun j hj=>by rw [el_sel hj])
  · rw [List.length_map] at hi
    rw [gr_map hi]
    exact span_sel swpE_lt (s2 i hi) (fun j hj=>by rw [el_sel hj])
theorem generatorRows_ {k v:Int} (h:k = 3 ∨ k = 4 ∨ k = 5 ∨ k = 6 ∨ k = 7):F_impl_generatorRows k v = some (leafGen k v):=by
  rcases h with rfl | rfl | rfl | rfl | rfl <;> rfl
theorem mirrorKind_ {k:Int} (h:9 ≤ k ∧ k ≤ 13):F_impl_mirrorKind k = some (k - 6):=by
  refine bnd (within_ k 3 8) ?_
  rw [show rng k 3 8 = false from rng_false.2 (by omega)]
  refine cFW rfl (bnd (within_ k 9 14) ?_)
  rw [show rng k 9 14 = true from rng_true.2 (by omega)]
  refine cTW rfl (bnd (subO_of (by omega) (by omega)) (bnd (addO_of (by omega) (by omega)) ?_))
  congr 1;omega
theorem leafRel_gen {p:Int} {n:Nod} (hf:fdB p = true) (h:lfB n = true) (h1:n.1 ≠ 1) (h2:n.1 ≠ 2) (h8:n.1 ≠ 8) (h14:n.1 ≠ 14) (hv:n.2.1 < p) :
    F_impl_leafRelation p n = some ((kd n.1).1,(kd n.1).2,redM p ((kd n.1).1.toNat + (kd n.1).2.toNat) (leafGen n.1 n.2.1)):=by
  have hp:=fdB_rng hf
  obtain ⟨hr,h0⟩:=lfB_gen h h1 h2
  obtain ⟨k,v,s⟩:=n
  dsimp only at *
  have hb:=rng_true.1 hr
  have hM:=mate_all hp hr h8 h14 ⟨h0,hv⟩
  by_cases h9:9 ≤ k
  · have hc:k = 9 ∨ k = 10 ∨ k = 11 ∨ k = 12 ∨ k = 13:=by omega
    have hr6:rng (k - 6) 3 14 = true:=rng_true.2 (by omega)
    have hM6:=mate_all (p:=p) (k:=k - 6) (v:=v) hp hr6 (by omega) (by omega) ⟨h0,hv⟩
    have hsw:(kd (k - 6)).1 = (kd k).2 ∧ (kd (k - 6)).2 = (kd k).1 ∧ (leafGen (k - 6) v).map (swpR (kd k).2.toNat) = leafGen k v:=by
      rcases hc with rfl | rfl | rfl | rfl | rfl <;> exact ⟨rfl,rfl,rfl⟩
    obtain ⟨a,b,hk,ha,hbb⟩:=kd_nat k
    obtain ⟨w1,w2,w3⟩:=hsw
    rw [hk] at w1 w2 w3 hM ⊢
    dsimp only [Int.toNat_natCast] at w1 w2 w3 hM ⊢
    rw [w1,w2] at hM6
    simp only [Int.toNat_natCast] at hM6
    have hgw:=generatorWires_ hr6
    have e6:kd (k - 6) = ((b:Int),(a:Int)):=Prod.ext w1 w2
    rw [e6] at hgw
    have hrel:=relation_ (a:=b) (b:=a) hf (by omega) hM6.g (by have:=hM6.gl;omega)
    have hR:=redM_red hf hM6.g
    have hcv:=converse_ (l:=b) (r:=a) hf (by omega) hR.ok (by have:=red_len hf hR;omega)
    rw [swp_red hf hM6.g,w3] at hcv
    refine stp (cFW (dF h1) (stp (cFW (dF h2) (stp (cTW (dT h9) (bnd (mirrorKind_ (by omega)) (bnd hgw (bnd (mirrorKind_ (by omega)) (bnd (generatorRows_ (by omega)) (bnd hrel (bnd hcv rfl)))))))))))
  · obtain ⟨a,b,hk,ha,hbb⟩:=kd_nat k
    have hgw:=generatorWires_ hr
    rw [hk] at hM hgw ⊢
    dsimp only [Int.toNat_natCast] at hM ⊢
    have hrel:=relation_ (a:=a) (b:=b) hf (by omega) hM.g (by have:=hM.gl;omega)
    exact stp (cFW (dF h1) (stp (cFW (dF h2) (stp (cFW (dF h9) (bnd hgw (bnd (generatorRows_ (by omega)) (bnd hrel rfl))))))))
theorem perp_nil (p:Int) (n:Nat) (x:List Int):perp p n [] x:=fun i hi=>by simp at hi
theorem okM_nil (p:Int) (n:Nat):okM p n []:=fun x hx=>by cases hx
def swG:Rows:=[[1,0,0,1],[0,1,1,0]]
theorem swG_ok {p:Int} (hp:2 ≤ p):okM p 4 swG:=by
  have b0:(0:Int) ≤ 0 ∧ (0:Int) < p:=⟨by omega,by omega⟩
  have b1:(0:Int) ≤ 1 ∧ (1:Int) < p:=⟨by omega,by omega⟩
  exact okM2 (okM1 rfl (inPc b1 (inPc b0 (inPc b0 (inP1 b1))))) (okM1 rfl (inPc b0 (inPc b1 (inPc b1 (inP1 b0)))))
theorem j4 {P:Nat → Prop} (h0:P 0) (h1:P 1) (h2:P 2) (h3:P 3):∀ j,j < 4 → P j:=fun j hj=>by
  match j,hj with
  | 0,_=>exact h0
  | 1,_=>exact h1
  | 2,_=>exact h2
  | 3,_=>exact h3
theorem swap_eq {p:Int} (hf:fdB p = true):redM p 4 ((nulM p 2 []).map (selR [0,1,1,0])) = redM p 4 swG:=by
  have hp:=fdB_rng hf
  refine leaf_eq (W:=2) (ends:=[0,1,1,0]) hf (by decide) (okM_nil p 2) (swG_ok hp.1) (fun v _=>⟨fun i=>el v i,j4 ?_ ?_ ?_ ?_⟩) (j2 ⟨[1,0],perp_nil _ _ _,j4 rfl rfl rfl rfl⟩ ⟨[0,1],perp_nil _ _ _,j4 rfl rfl rfl rfl⟩)
  · show _ = sg 2 _ % p
    rw [sg2]
    show el v 0 % p = (el v 0 * 1 + el v 1 * 0) % p
    simp
  · show _ = sg 2 _ % p
    rw [sg2]
    show el v 1 % p = (el v 0 * 0 + el v 1 * 1) % p
    simp
  · show _ = sg 2 _ % p
    rw [sg2]
    show el v 1 % p = (el v 0 * 0 + el v 1 * 1) % p
    simp
  · show _ = sg 2 _ % p
    rw [sg2]
    show el v 0 % p = (el v 0 * 1 + el v 1 * 0) % p
    simp
theorem swap_both {p v:Int} {s:ByteArray} (hf:fdB p = true) (h:lfB (2,v,s) = true):F_spec_dnLeaf p (2,v,s) = some (2,2,redM p 4 swG) ∧ F_impl_leafRelation p (2,v,s) = some (2,2,redM p 4 swG):=by
  have hp:=fdB_rng hf
  have hm:maxN = 1099511627776:=rfl
  have hD:=dnGraph_ (p:=p) (W:=2) (a:=2) (b:=2) (E:=[]) (I:=[0,1]) (O:=[1,0]) (ends:=[0,1,1,0]) (eqs:=[]) hf (by decide) (fun e he=>by cases he) rfl rfl rfl (by decide) (okM_nil p 2) (by simp) rfl
  rw [swap_eq hf] at hD
  have hL:=hgLeaf_ h
  have hrel:=relation_ (a:=2) (b:=2) (G:=swG) hf (by omega) (swG_ok hp.1) (by decide)
  exact ⟨bnd hL (bnd hD rfl),stp (cFW rfl (stp (cTW rfl (bnd hrel rfl))))⟩
def idP (n:Nat):Rows:=(List.range n).map fun i=>unitN n i ++ unitN n i
theorem idP_gr {n i:Nat} (h:i < n):gr (idP n) i = unitN n i ++ unitN n i:=by
  unfold gr idP
  rw [List.getD_eq_getElem?_getD,List.getElem?_map,List.getElem?_range h];rfl
theorem unit_len (n i:Nat):(unitN n i).length = n:=by simp [unitN]
theorem idP_el {n i j:Nat} (hi:i < n) (hj:j < n + n):el (gr (idP n) i) j = if i = (if j < n then j else j - n) then 1 else 0:=by
  rw [idP_gr hi,el_app2,unit_len]
  by_cases c:j < n
  · rw [if_pos c,if_pos c,unit_elN hi]
  · rw [if_neg c,if_neg c,unit_elN hi]
theorem idP_len (n:Nat):(idP n).length = n:=by simp [idP]
theorem idP_red {p:Int} (hp:2 ≤ p) (n:Nat):Red p (n + n) (idP n):=by
  have lead:∀ i,i < n → leadN (gr (idP n) i) = i:=fun i hi=>by
    refine leadN_eq (fun j hj=>?_) ?_
    · rw [idP_el hi (by omega),show (if j < n then j else j - n) = j from if_pos (by omega)];exact if_neg (by omega)
    · rw [idP_el hi (by omega),if_pos hi,if_pos rfl];decide
  refine ⟨fun r hr=>?_,fun i hi=>?_,fun i hi=>?_,fun i j hi hj hne=>?_,fun i j hij hj=>?_⟩
  · obtain ⟨i,hi,rfl⟩:=List.mem_map.1 hr
    exact okR_app (unitN_ok hp n i) (unitN_ok hp n i)
  · rw [idP_len] at hi
    rw [lead i hi];omega
  · rw [idP_len] at hi
    rw [lead i hi,idP_el hi (by omega),if_pos hi,if_pos rfl]
  · rw [idP_len] at hi hj
    rw [lead i hi,idP_el hj (by omega),if_pos hi,if_neg (fun e=>hne e.symm)]
  · rw [idP_len] at hj
    rw [lead i (by omega),lead j hj];exact hij
def dblE (n:Nat):List Nat:=List.range n ++ List.range n
theorem dblE_get {n j:Nat} (h:j < n + n):(dblE n).getD j 0 = if j < n then j else j - n:=by
  unfold dblE
  rw [List.getD_eq_getElem?_getD]
  by_cases c:j < n
  · rw [if_pos c,List.getElem?_append_left (by simpa using c),List.getElem?_range c];rfl
  · rw [if_neg c,List.getElem?_append_right (by simpa using c),List.length_range,List.getElem?_range (by omega)];rfl
theorem sg_unit (n:Nat) (f:Nat → Int) {q:Nat} (h:q < n):sg n (fun i=>f i * (if i = q then 1 else 0)) = f q:=by
  rw [sg_one h (fun i _ hne=>by rw [if_neg hne,Int.mul_zero]),if_pos rfl,Int.mul_one]
theorem id_eq {p:Int} (hf:fdB p = true) (n:Nat):redM p (n + n) ((nulM p n []).map (selR (dblE n))) = idP n:=by
  have hp:=fdB_rng hf
  have hR:=idP_red hp.1 n
  have hl:(dblE n).length = n + n:=by simp [dblE]
  have hlt:∀ q ∈ dblE n,q < n:=fun q hq=>by
    rcases List.mem_append.1 hq with h | h <;> exact List.mem_range.1 h
  rw [← redM_self hf hR,← hl]
  have hok:okM p (dblE n).length (idP n):=by rw [hl];exact hR.ok
  refine leaf_eq hf hlt (okM_nil p n) hok (fun v _=>⟨fun i=>el v i,fun j hj=>?_⟩) (fun i hi=>?_)
  · rw [hl] at hj
    rw [el_sel (by rw [hl];exact hj),dblE_get hj,idP_len,sg_congr (g:=fun i=>el v i * (if i = (if j < n then j else j - n) then 1 else 0)) (fun i hi=>by rw [idP_el hi hj]),sg_unit n (fun i=>el v i) (by split <;> omega)]
  · rw [idP_len] at hi
    refine ⟨unitN n i,perp_nil _ _ _,fun j hj=>?_⟩
    rw [hl] at hj
    rw [dblE_get hj,idP_el hi hj,unit_elN hi]
theorem id_both {p:Int} {s:ByteArray} {n:Nat} (hf:fdB p = true) (hn:n ≤ 12) (h:lfB (1,(n:Int),s) = true):F_spec_dnLeaf p (1,(n:Int),s) = some ((n:Int),(n:Int),idP n) ∧ F_impl_leafRelation p (1,(n:Int),s) = some ((n:Int),(n:Int),idP n):=by
  have hp:=fdB_rng hf
  have hm:maxN = 1099511627776:=rfl
  have hG:=(leafG_ok h).1
  have eG:leafG (1,(n:Int),s) = ((n:Int),[],ugL n,ugL n):=by unfold leafG;dsimp only;rw [if_pos rfl,Int.toNat_natCast]
  have hL:=hgLeaf_ h
  rw [eG] at hL hG
  have hD:=dnGraph_ (p:=p) (W:=n) (a:=n) (b:=n) (E:=[]) (I:=ugL n) (O:=ugL n) (ends:=dblE n) (eqs:=[]) hf hG (fun e he=>by cases he) (ugL_len n) (ugL_len n) (by unfold dblE ugL;rw [List.map_append]) (fun q hq=>by
    rcases List.mem_append.1 hq with h | h <;> exact List.mem_range.1 h) (okM_nil p n) (by simp) rfl
  rw [id_eq hf] at hD
  refine ⟨bnd hL (bnd hD rfl),stp (cTW rfl (bnd (bnd (cI_of ⟨by dsimp only;omega,by dsimp only;omega⟩) (bnd (a:=idP n) ?_ rfl)) rfl))⟩
  rw [Int.toNat_natCast]
  have loop:=forS_is (f:=fun (k8:Nat) (s71:List (List Int))=>
      (F_impl_unit (n:Int) ((k8:Nat):Int)).bind fun y85=>
      (F_impl_unit (n:Int) ((k8:Nat):Int)).bind fun y90=>
      (F_impl_joined [y85,y90]).bind fun y98=>
      (appO s71 [y98]).bind fun a106=>
      some a106) (n:=n) (fun j=>(List.range j).map fun i=>unitN n i ++ unitN n i) (fun j hj=>by
    have hjo:=joined_ (l:=[unitN n j,unitN n j]) (by simp [unit_len];omega)
    refine bnd (unit_ hj (by omega)) (bnd (unit_ hj (by omega)) (bnd hjo (bnd (appO_of (by simp;omega)) ?_)))
    rw [List.range_succ,List.map_append];simp)
  exact loop
end Go.Proofs.YtlggnmkelgplnaaGreatDoor
namespace Go.Proofs.YtlggnmkelgplnaaGreatDoor
def leafV (p:Int) (n:Nod):Rel:=
  if n.1 = 1 then (n.2.1,n.2.1,idP n.2.1.toNat) else if n.1 = 2 then (2,2,redM p 4 swG) else ((kd n.1).1,(kd n.1).2,redM p ((kd n.1).1.toNat + (kd n.1).2.toNat) (leafGen n.1 n.2.1))
def tmlB (n:Nod):Bool:=decide (n.1 ≠ 8 ∧ n.1 ≠ 14)
structure RelOk (p:Int) (w:Int × Int) (R:Rel):Prop where
  l:R.1 = w.1
  r:R.2.1 = w.2
  red:Red p (w.1.toNat + w.2.toNat) R.2.2
theorem leafV_ {p:Int} {n:Nod} (hf:fdB p = true) (h:lfB n = true) (ht:tmlB n = true) (ho:ovN p n = true):RelOk p (lfT n) (leafV p n) ∧ F_spec_dnLeaf p n = some (leafV p n) ∧ F_impl_leafRelation p n = some (leafV p n):=by
  have hp:=fdB_rng hf
  have ht:=of_decide_eq_true ht
  by_cases h1:n.1 = 1
  · have hv:=lfB_id h h1
    obtain ⟨k,v,s⟩:=n
    dsimp only at h1 hv
    subst h1
    obtain ⟨m,rfl⟩:∃ m:Nat,v = (m:Int):=⟨v.toNat,by omega⟩
    have e:leafV p (1,(m:Int),s) = ((m:Int),(m:Int),idP m):=by unfold leafV;dsimp only;rw [if_pos rfl,Int.toNat_natCast]
    rw [e]
    have:=id_both (n:=m) hf (by omega) h
    exact ⟨⟨rfl,rfl,by show Red p ((m:Int).toNat + (m:Int).toNat) _;rw [Int.toNat_natCast];exact idP_red hp.1 m⟩,this.1,this.2⟩
  by_cases h2:n.1 = 2
  · obtain ⟨k,v,s⟩:=n
    dsimp only at h2
    subst h2
    have:=swap_both hf h
    exact ⟨⟨rfl,rfl,redM_red (n:=4) hf (swG_ok hp.1)⟩,this.1,this.2⟩
  have hg:=lfB_gen h h1 h2
  have hv:n.2.1 < p:=by
    unfold ovN at ho
    by_cases hs:n.1 = 7 ∨ n.1 = 13
    · rw [dT hs,Bool.true_and] at ho
      by_cases hq:p ≤ n.2.1
      · rw [dT hq] at ho;cases ho
      · omega
    · unfold lfB at h
      simp only [Bool.and_eq_true] at h
      have h3:=h.2.2
      rw [if_neg h1,if_neg hs] at h3
      have:=of_decide_eq_true h3
      omega
  have e:leafV p n = ((kd n.1).1,(kd n.1).2,redM p ((kd n.1).1.toNat + (kd n.1).2.toNat) (leafGen n.1 n.2.1)):=by unfold leafV;rw [if_neg h1,if_neg h2]
  have eT:lfT n = kd n.1:=by unfold lfT;rw [if_neg h1]
  rw [e,eT]
  exact ⟨⟨rfl,rfl,redM_red hf (mate_all hp hg.1 ht.1 ht.2 ⟨hg.2,hv⟩).g⟩,dnLeaf_gen hf h h1 h2 ht.1 ht.2 hv,leafRel_gen hf h h1 h2 ht.1 ht.2 hv⟩
def combV (p k:Int) (x y:Rel):Rel:=
  if k = 15 then (x.1,y.2.1,cmpR p x.1.toNat x.2.1.toNat y.2.1.toNat x.2.2 y.2.2) else (x.1 + y.1,x.2.1 + y.2.1,tenR p x.1.toNat x.2.1.toNat y.1.toNat y.2.1.toNat x.2.2 y.2.2)
theorem combV_ {p k:Int} {x y:Rel} {u v w:Int × Int} (hf:fdB p = true) (hu:wOk2 u) (hv:wOk2 v) (hx:RelOk p u x) (hy:RelOk p v y) (h:jn k u v = some w) :
    RelOk p w (combV p k x y) ∧ (k = 15 → F_spec_rlCompose p x y = some (combV p k x y) ∧ F_impl_composed p x y = some (combV p k x y)) ∧ (k ≠ 15 → F_spec_rlTensor p x y = some (combV p k x y) ∧ F_impl_tensor p x y = some (combV p k x y)):=by
  have hp:=fdB_rng hf
  obtain ⟨u1,u2⟩:=u
  obtain ⟨v1,v2⟩:=v
  obtain ⟨a1,a2,a3,a4⟩:=hu
  obtain ⟨b1,b2,b3,b4⟩:=hv
  obtain ⟨x1,x2,A⟩:=x
  obtain ⟨y1,y2,B⟩:=y
  obtain ⟨e1,e2,rA⟩:=hx
  obtain ⟨e3,e4,rB⟩:=hy
  dsimp only at a1 a2 a3 a4 b1 b2 b3 b4 e1 e2 e3 e4 rA rB
  subst e1 e2 e3 e4
  obtain ⟨l,rfl⟩:∃ l:Nat,x1 = (l:Int):=⟨x1.toNat,by omega⟩
  obtain ⟨m,rfl⟩:∃ m:Nat,x2 = (m:Int):=⟨x2.toNat,by omega⟩
  obtain ⟨q,rfl⟩:∃ q:Nat,y1 = (q:Int):=⟨y1.toNat,by omega⟩
  obtain ⟨r,rfl⟩:∃ r:Nat,y2 = (r:Int):=⟨y2.toNat,by omega⟩
  simp only [Int.toNat_natCast] at rA rB
  have lA:=red_len hf rA
  have lB:=red_len hf rB
  unfold jn at h
  unfold combV
  simp only [Int.toNat_natCast]
  by_cases hk:k = 15
  · rw [if_pos hk] at h ⊢
    split at h
    · rename_i hm
      obtain rfl:=Option.some.inj h
      have hm:(m:Int) = (q:Int):=hm
      obtain rfl:q = m:=by omega
      refine ⟨⟨rfl,rfl,?_⟩,fun _=>⟨rlCompose_ hf (by omega) (by omega) (by omega) rA.ok rB.ok (by omega) (by omega),composed_ hf (by omega) (by omega) (by omega) rA.ok rB.ok (by omega) (by omega)⟩,fun h=>(h hk).elim⟩
      show Red p ((l:Int).toNat + (r:Int).toNat) _
      rw [Int.toNat_natCast,Int.toNat_natCast]
      exact redM_red hf (cmpP_ok hf rA.ok rB.ok)
    · cases h
  · rw [if_neg hk] at h ⊢
    split at h
    · obtain rfl:=Option.some.inj h
      have t1:=rlTensor_ hf (l1:=l) (r1:=m) (l2:=q) (r2:=r) (by omega) (by omega) (by omega) (by omega) rA.ok rB.ok (by omega) (by omega)
      have t2:=tensor_ hf (l1:=l) (r1:=m) (l2:=q) (r2:=r) (by omega) (by omega) (by omega) (by omega) rA.ok rB.ok (by omega) (by omega)
      refine ⟨⟨rfl,rfl,?_⟩,fun h=>(hk h).elim,fun _=>⟨t1,t2⟩⟩
      show Red p (((l:Int) + (q:Int)).toNat + ((m:Int) + (r:Int)).toNat) _
      rw [show ((l:Int) + (q:Int)).toNat = l + q by omega,show ((m:Int) + (r:Int)).toNat = m + r by omega]
      exact redM_red hf (tenP_ok hp.1 rA.ok rB.ok)
    · cases h
def denT (p:Int):Tr → Rel
  | .leaf n=>leafV p n
  | .node k a b=>combV p k (denT p a) (denT p b)
def okT (p:Int) (T:Tr):Prop:=∀ n ∈ flat T,tmlB n = true ∧ ovN p n = true
theorem typ_ok:∀ {T:Tr} {w:Int × Int},typT T = some w → wOk2 w
  | .leaf n,w,h=>by obtain ⟨h1,rfl⟩:=typ_leaf h;exact lfT_ok h1
  | .node k a b,w,h=>by
    obtain ⟨_,x,y,h1,h2,h3⟩:=typ_node h
    exact jn_ok (typ_ok h1) (typ_ok h2) h3
theorem denT_ok {p:Int} (hf:fdB p = true):∀ {T:Tr} {w:Int × Int},typT T = some w → okT p T → RelOk p w (denT p T)
  | .leaf n,w,h,ho=>by
    obtain ⟨h1,rfl⟩:=typ_leaf h
    have:=ho n (by simp [flat])
    exact (leafV_ hf h1 this.1 this.2).1
  | .node k a b,w,h,ho=>by
    obtain ⟨_,x,y,h1,h2,h3⟩:=typ_node h
    exact (combV_ hf (typ_ok h1) (typ_ok h2) (denT_ok hf h1 (fun n hn=>ho n (by simp [flat,hn]))) (denT_ok hf h2 (fun n hn=>ho n (by simp [flat,hn]))) h3).1
end Go.Proofs.YtlggnmkelgplnaaGreatDoor
