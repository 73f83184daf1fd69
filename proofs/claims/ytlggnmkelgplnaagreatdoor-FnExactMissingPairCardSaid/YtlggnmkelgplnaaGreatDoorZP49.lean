/-
  Plain laws: what rows span, rows that are independent, reduced lists are determined by what they span. No program in sight. No condition.
-/
import Derived.Test.YtlggnmkelgplnaaGreatDoorZP17
namespace Go.Proofs.YtlggnmkelgplnaaGreatDoor
set_option linter.unusedVariables false
def inSpan (p:Int) (n:Nat) (m:Rows) (v:List Int):Prop:=∃ x:Nat → Int,∀ j,j < n → el v j % p = sg m.length (fun i=>x i * el (gr m i) j) % p
def Indep (p:Int) (n:Nat) (m:Rows):Prop:=∀ x:Nat → Int,(∀ j,j < n → sg m.length (fun i=>x i * el (gr m i) j) % p = 0) → ∀ i,i < m.length → x i % p = 0
def subSpan (p:Int) (n:Nat) (a b:Rows):Prop:=∀ i,i < a.length → inSpan p n b (gr a i)
theorem sg_mulr (c:Int) (f:Nat → Int) (k:Nat):sg k (fun i=>f i * c) = sg k f * c:=by
  rw [sg_congr (g:=fun i=>c * f i) (fun i _=>Int.mul_comm _ _),sg_mul,Int.mul_comm]
theorem sg_neg (f:Nat → Int) (k:Nat):sg k (fun i=>- f i) = - sg k f:=by
  rw [sg_congr (g:=fun i=>(-1) * f i) (fun i _=>by omega),sg_mul];omega
theorem sg_sub (f g:Nat → Int) (k:Nat):sg k (fun i=>f i - g i) = sg k f - sg k g:=by
  rw [sg_congr (g:=fun i=>f i + - g i) (fun i _=>Int.sub_eq_add_neg),sg_add,sg_neg];omega
theorem sg_split {f:Nat → Int} {k r:Nat} (h:r < k):sg k f = sg k (fun i=>if i = r then 0 else f i) + f r:=by
  have h1:sg k (fun i=>if i = r then f i else 0) = f r:=by
    rw [sg_one h (fun i _ hn=>if_neg hn),if_pos rfl]
  rw [← h1,← sg_add]
  exact sg_congr fun i _=>by by_cases hi:i = r <;> simp [hi]
theorem mod_of_sub {p a b:Int} (h:(a - b) % p = 0):a % p = b % p:=by
  have h2:a = (a - b) + b:=by omega
  rw [h2,Int.add_emod,h,Int.zero_add,mod_mod]
theorem mul_mod_zero {p a b:Int} (h:a % p = 0):(a * b) % p = 0:=by rw [← mul_mod1,h,Int.zero_mul];exact Int.zero_emod p
theorem mul_mod_zero2 {p a b:Int} (h:b % p = 0):(a * b) % p = 0:=by rw [Int.mul_comm];exact mul_mod_zero h
theorem inSpan_row {p:Int} {n:Nat} {m:Rows} {i:Nat} (h:i < m.length):inSpan p n m (gr m i):=by
  refine ⟨fun t=>if t = i then 1 else 0,fun j _=>?_⟩
  rw [sg_one h (fun t _ hn=>by show (if t = i then (1:Int) else 0) * _ = 0;rw [if_neg hn,Int.zero_mul])]
  show _ = (if i = i then (1:Int) else 0) * _ % p
  rw [if_pos rfl,Int.one_mul]
theorem inSpan_trans {p:Int} {n:Nat} {a b:Rows} {v:List Int} (hab:subSpan p n a b) (hv:inSpan p n a v):inSpan p n b v:=by
  obtain ⟨x,hx⟩:=hv
  have hY:∃ Y:Nat → Nat → Int,∀ i,i < a.length → ∀ j,j < n → el (gr a i) j % p = sg b.length (fun t=>Y i t * el (gr b t) j) % p:=by
    refine ⟨fun i=>if h:i < a.length then Classical.choose (hab i h) else fun _=>0,fun i hi=>?_⟩
    simp only [dif_pos hi]
    exact Classical.choose_spec (hab i hi)
  obtain ⟨Y,hY⟩:=hY
  refine ⟨fun t=>sg a.length (fun i=>x i * Y i t),fun j hj=>?_⟩
  rw [hx j hj]
  have e:sg b.length (fun t=>sg a.length (fun i=>x i * Y i t) * el (gr b t) j) = sg a.length (fun i=>x i * sg b.length (fun t=>Y i t * el (gr b t) j)):=by
    rw [sg_congr (g:=fun t=>sg a.length (fun i=>x i * Y i t * el (gr b t) j)) (fun t _=>(sg_mulr _ _ _).symm),sg_comm]
    refine sg_congr fun i _=>?_
    rw [← sg_mul]
    exact sg_congr fun t _=>Int.mul_assoc _ _ _
  rw [e]
  refine sg_mod fun i hi=>?_
  rw [← mul_mod2,hY i hi j hj,mul_mod2]
theorem subSpan_refl (p:Int) (n:Nat) (a:Rows):subSpan p n a a:=fun i hi=>inSpan_row hi
theorem subSpan_trans {p:Int} {n:Nat} {a b c:Rows} (h:subSpan p n a b) (k:subSpan p n b c):subSpan p n a c:=fun i hi=>inSpan_trans k (h i hi)
theorem inSpan_comb2 {p:Int} {n:Nat} {m:Rows} {u v w:List Int} (c d:Int) (hu:inSpan p n m u) (hv:inSpan p n m v) (h:∀ j,j < n → el w j % p = (c * el u j + d * el v j) % p):inSpan p n m w:=by
  obtain ⟨x,hx⟩:=hu
  obtain ⟨y,hy⟩:=hv
  refine ⟨fun i=>c * x i + d * y i,fun j hj=>?_⟩
  rw [h j hj,Int.add_emod,← mul_mod2,← mul_mod2 p d,hx j hj,hy j hj,mul_mod2,mul_mod2,← Int.add_emod,← sg_mul,← sg_mul,← sg_add]
  congr 1
  exact sg_congr fun i _=>by rw [Int.add_mul,Int.mul_assoc,Int.mul_assoc]
theorem inSpan_zero {p:Int} {n:Nat} {m:Rows} {v:List Int} (h:∀ j,j < n → el v j % p = 0):inSpan p n m v:=
  ⟨fun _=>0,fun j hj=>by rw [h j hj,sg_zero (fun i _=>Int.zero_mul _)];exact (Int.zero_emod p).symm⟩
theorem swap_span {p:Int} {n:Nat} {m:Rows} {r k:Nat} (hr:r < m.length) (hk:k < m.length):subSpan p n (swapM m r k) m ∧ subSpan p n m (swapM m r k):=by
  have hl:=swapM_len m r k
  constructor
  · intro i hi
    rw [hl] at hi
    rw [swapM_gr2 hr hk]
    split
    · exact inSpan_row hr
    · split
      · exact inSpan_row hk
      · exact inSpan_row hi
  · intro i hi
    by_cases h1:i = k
    · subst h1
      have:=inSpan_row (p:=p) (n:=n) (m:=swapM m r i) (i:=r) (by rw [hl];exact hr)
      rw [swapM_gr2 hr hk] at this
      by_cases h2:r = i
      · subst h2;rw [if_pos rfl] at this;exact this
      · rw [if_neg h2,if_pos rfl] at this;exact this
    · by_cases h2:i = r
      · subst h2
        have:=inSpan_row (p:=p) (n:=n) (m:=swapM m i k) (i:=k) (by rw [hl];exact hk)
        rw [swapM_gr2 hr hk,if_pos rfl] at this;exact this
      · have:=inSpan_row (p:=p) (n:=n) (m:=swapM m r k) (i:=i) (by rw [hl];exact hi)
        rw [swapM_gr2 hr hk,if_neg h1,if_neg h2] at this;exact this
theorem stepA_el {p:Int} {c r k N q:Nat} {m a:Rows} (hf:fdB p = true) (h:okM p N m) (ha:okM p q a) (hl:a.length = m.length) (hr:r < m.length) (hk:k < m.length) (hc:c < N) (hne:el (gr m k) c ≠ 0) :
    let iv:=invF p (el (gr m k) c)
    (el (gr m k) c * iv) % p = 1 ∧ (∀ j,j < q → el (gr (stepA p c m a r k) r) j = (el (gr a k) j * iv) % p) ∧
    ∀ i,i < m.length → i ≠ r → ∀ j,j < q → el (gr (stepA p c m a r k) i) j = (el (gr (swapM a r k) i) j - el (gr (swapM m r k) i) c * el (gr (stepA p c m a r k) r) j) % p:=by
  intro iv
  have hp:=fdB_rng hf
  have hel:=okM_el h hk hc
  obtain ⟨_,i1,i2,i3⟩:=inverse_ hf (x:=el (gr m k) c) ⟨by omega,hel.2⟩
  have hra:r < a.length:=by omega
  have hka:k < a.length:=by omega
  have hsr:gr (swapM m r k) r = gr m k:=swapM_gr hr hk
  have hsra:gr (swapM a r k) r = gr a k:=swapM_gr hra hka
  have hso:okM p q (swapM a r k):=swapM_ok ha hra hka
  have hpl:(pivA p c m a r k).length = a.length:=pivA_len p c m a r k
  have hpr:gr (pivA p c m a r k) r = mapR (scaleG p iv) (gr a k):=by
    rw [pivA_gr hra,if_pos rfl,hsr,hsra]
  have hrow:=okM_gr ha hka
  have hpe:∀ j,j < q → el (gr (pivA p c m a r k) r) j = (el (gr a k) j * iv) % p:=fun j hj=>by
    rw [hpr,el_mapR (by omega)];rfl
  have hst:∀ i,i < m.length → gr (stepA p c m a r k) i = elimG p c r (pivA p c m m r k) (pivA p c m a r k) i (gr (pivA p c m a r k) i):=fun i hi=>elimA_gr (by rw [hpl];omega)
  have hstr:∀ j,j < q → el (gr (stepA p c m a r k) r) j = (el (gr a k) j * iv) % p:=fun j hj=>by
    rw [hst r hr]
    unfold elimG
    rw [if_pos (.inl rfl)]
    exact hpe j hj
  refine ⟨i1,hstr,fun i hi hir j hj=>?_⟩
  rw [hstr j hj,hst i hi]
  have hpi:gr (pivA p c m a r k) i = gr (swapM a r k) i:=by rw [pivA_gr hra,if_neg hir]
  have hpm:gr (pivA p c m m r k) i = gr (swapM m r k) i:=by rw [pivA_gr hr,if_neg hir]
  have hsi:=okM_gr hso (i:=i) (by rw [swapM_len];omega)
  have hb:=okM_el hso (i:=i) (by rw [swapM_len];omega) hj
  unfold elimG
  by_cases h0:el (gr (pivA p c m m r k) i) c = 0
  · rw [if_pos (.inr h0),hpi]
    rw [hpm] at h0
    rw [h0,Int.zero_mul,Int.sub_zero,emod_sm hb]
  · rw [if_neg (by intro h1;rcases h1 with h1 | h1;exact hir h1;exact h0 h1)]
    rw [el_mapR (by rw [hpi];omega)]
    unfold subG
    rw [hpi,hpe j hj,hpm]
theorem step_span {p:Int} {c r k N q:Nat} {m a:Rows} (hf:fdB p = true) (h:okM p N m) (ha:okM p q a) (hl:a.length = m.length) (hr:r < m.length) (hk:k < m.length) (hc:c < N) (hne:el (gr m k) c ≠ 0) :
    subSpan p q (stepA p c m a r k) a ∧ subSpan p q a (stepA p c m a r k):=by
  obtain ⟨e1,e2,e3⟩:=stepA_el hf h ha hl hr hk hc hne
  have hsl:(stepA p c m a r k).length = m.length:=by rw [stepA_len,hl]
  have hra:r < a.length:=by omega
  have hka:k < a.length:=by omega
  obtain ⟨w1,w2⟩:=swap_span (p:=p) (n:=q) (m:=a) hra hka
  have hnr:inSpan p q a (gr (stepA p c m a r k) r):=by
    refine inSpan_comb2 (invF p (el (gr m k) c)) 0 (inSpan_row hka) (inSpan_row hka) fun j hj=>?_
    rw [e2 j hj,mod_mod,Int.zero_mul,Int.add_zero,Int.mul_comm]
  constructor
  · intro i hi
    rw [hsl] at hi
    by_cases hir:i = r
    · rw [hir];exact hnr
    · refine inSpan_comb2 1 (- el (gr (swapM m r k) i) c) (w1 i (by rw [swapM_len];omega)) hnr fun j hj=>?_
      rw [e3 i hi hir j hj,mod_mod,Int.one_mul,Int.neg_mul,Int.sub_eq_add_neg]
  · refine subSpan_trans w2 ?_
    have hrr:inSpan p q (stepA p c m a r k) (gr (stepA p c m a r k) r):=inSpan_row (by rw [hsl];exact hr)
    intro i hi
    rw [swapM_len] at hi
    by_cases hir:i = r
    · rw [hir,swapM_gr hra hka]
      refine inSpan_comb2 (el (gr m k) c) 0 hrr hrr fun j hj=>?_
      rw [e2 j hj,Int.zero_mul,Int.add_zero,mul_mod2,← Int.mul_assoc,Int.mul_comm (el (gr m k) c),Int.mul_assoc,← mul_mod2,e1,Int.mul_one]
    · refine inSpan_comb2 1 (el (gr (swapM m r k) i) c) (inSpan_row (i:=i) (by rw [hsl];omega)) hrr fun j hj=>?_
      rw [e3 i (by omega) hir j hj,Int.one_mul,add_mod1]
      congr 1;omega
theorem loop_span {p:Int} {N q:Nat} (hf:fdB p = true):∀ (d c:Nat) (m a:Rows) (r:Nat),c + d ≤ N → okM p N m → okM p q a → a.length = m.length → r ≤ m.length → subSpan p q (redLoop p d c m a r).2.1 a ∧ subSpan p q a (redLoop p d c m a r).2.1
  | 0,_,_,a,_,_,_,_,_,_=>⟨subSpan_refl p q a,subSpan_refl p q a⟩
  | d + 1,c,m,a,r,hN,h,ha,hl,hr=>by
    unfold redLoop
    by_cases hrl:r < m.length
    · rw [if_pos hrl]
      obtain ⟨s1,s2,s3⟩:=scanN_spec m c (m.length - r) r (by omega)
      split
      · exact loop_span hf d (c + 1) m a r (by omega) h ha hl hr
      · rename_i hk
        have hkl:scanN m c (m.length - r) r < m.length:=by omega
        have ha2:okM p q (stepA p c m a r (scanN m c (m.length - r) r)):=stepA_ok (fdB_rng hf).1 ha (by omega) (by omega)
        obtain ⟨k1,k2⟩:=loop_span hf d (c + 1) (stepA p c m m r (scanN m c (m.length - r) r)) (stepA p c m a r (scanN m c (m.length - r) r)) (r + 1) (by omega) (stepA_ok (fdB_rng hf).1 h hrl hkl) ha2 (by rw [stepA_len,stepA_len];exact hl) (by rw [stepA_len];omega)
        obtain ⟨w1,w2⟩:=step_span hf h ha hl hrl hkl (show c < N by omega) (s3 hkl)
        exact ⟨subSpan_trans k1 w1,subSpan_trans w2 k2⟩
    · rw [if_neg hrl];exact ⟨subSpan_refl p q a,subSpan_refl p q a⟩
theorem redLoop_self (p:Int):∀ (d c:Nat) (m:Rows) (r:Nat),(redLoop p d c m m r).2.1 = (redLoop p d c m m r).1
  | 0,_,_,_=>rfl
  | d + 1,c,m,r=>by
    unfold redLoop
    split
    · split
      · exact redLoop_self p d (c + 1) m r
      · exact redLoop_self p d (c + 1) _ (r + 1)
    · rfl
theorem take_span {p:Int} {n k:Nat} {m:Rows} (hz:∀ i,k ≤ i → i < m.length → ∀ j,j < n → el (gr m i) j = 0):subSpan p n (m.take k) m ∧ subSpan p n m (m.take k):=by
  constructor
  · intro i hi
    rw [List.length_take] at hi
    rw [gr_take (by omega)]
    exact inSpan_row (by omega)
  · intro i hi
    rcases Nat.lt_or_ge i k with h | h
    · have:=inSpan_row (p:=p) (n:=n) (m:=m.take k) (i:=i) (by rw [List.length_take];omega)
      rw [gr_take h] at this;exact this
    · exact inSpan_zero fun j hj=>by rw [hz i h hi j hj];exact Int.zero_emod p
theorem redM_span {p:Int} {n:Nat} {m:Rows} (hf:fdB p = true) (h:okM p n m):subSpan p n (redM p n m) m ∧ subSpan p n m (redM p n m):=by
  obtain ⟨k1,k2⟩:=loop_span hf n 0 m m 0 (by omega) h h rfl (by omega)
  rw [redLoop_self] at k1 k2
  have h1:=redLoop_red hf n 0 m 0 (by omega) h (RedI.start m)
  rw [Nat.zero_add] at h1
  obtain ⟨w1,w2⟩:=take_span (p:=p) (n:=n) (m:=(redLoop p n 0 m m 0).1) (k:=(redLoop p n 0 m m 0).2.2) h1.rest
  exact ⟨subSpan_trans w1 k1,subSpan_trans k2 w2⟩
theorem Indep.swap {p:Int} {n:Nat} {m:Rows} {r k:Nat} (hr:r < m.length) (hk:k < m.length) (h:Indep p n m):Indep p n (swapM m r k):=by
  intro x hx
  have hl:=swapM_len m r k
  have key:∀ f:List Int → Int,sg (swapM m r k).length (fun i=>x i * f (gr (swapM m r k) i)) = sg m.length (fun i=>(if i = r then x k else if i = k then x r else x i) * f (gr m i)):=by
    intro f
    rw [hl]
    by_cases hrk:r = k
    · subst hrk
      refine sg_congr fun i hi=>?_
      rw [swapM_gr2 hr hk]
      by_cases h1:i = r
      · subst h1;simp
      · simp [h1]
    · rw [sg_split hr,sg_split (f:=fun i=>if i = r then 0 else _) hk,sg_split (f:=fun i=>(if i = r then x k else if i = k then x r else x i) * f (gr m i)) hr,sg_split (f:=fun i=>if i = r then 0 else (if i = r then x k else if i = k then x r else x i) * f (gr m i)) hk]
      have e1:sg m.length (fun i=>if i = k then 0 else if i = r then 0 else x i * f (gr (swapM m r k) i)) = sg m.length (fun i=>if i = k then 0 else if i = r then 0 else (if i = r then x k else if i = k then x r else x i) * f (gr m i)):=by
        refine sg_congr fun i _=>?_
        by_cases h1:i = k
        · simp [h1]
        · by_cases h2:i = r
          · simp [h2]
          · rw [swapM_gr2 hr hk];simp [h1,h2]
      rw [e1,if_neg (Ne.symm hrk),if_neg (Ne.symm hrk),swapM_gr hr hk,swapM_gr2 hr hk,if_pos rfl]
      simp only [if_true,if_neg (Ne.symm hrk)]
      omega
  have h2:=h (fun i=>if i = r then x k else if i = k then x r else x i) (fun j hj=>by rw [← key (fun l=>el l j)];exact hx j hj)
  intro i hi
  rw [hl] at hi
  by_cases h1:i = k
  · subst h1
    have:=h2 r hr
    simpa using this
  · by_cases h3:i = r
    · subst h3
      have:=h2 k hk
      by_cases h4:k = i
      · exact absurd h4.symm h1
      · simpa [h4] using this
    · have:=h2 i hi
      simpa [h1,h3] using this
theorem step_sum {p:Int} {c r k N q:Nat} {m a:Rows} (hf:fdB p = true) (h:okM p N m) (ha:okM p q a) (hl:a.length = m.length) (hr:r < m.length) (hk:k < m.length) (hc:c < N) (hne:el (gr m k) c ≠ 0) (x:Nat → Int) {j:Nat} (hj:j < q) :
    sg m.length (fun i=>x i * el (gr (stepA p c m a r k) i) j) % p = (sg m.length (fun i=>if i = r then 0 else x i * el (gr (swapM a r k) i) j) + (x r - sg m.length (fun i=>if i = r then 0 else x i * el (gr (swapM m r k) i) c)) * (invF p (el (gr m k) c) * el (gr a k) j)) % p:=by
  obtain ⟨e1,e2,e3⟩:=stepA_el hf h ha hl hr hk hc hne
  rw [sg_split hr]
  have h1:sg m.length (fun i=>if i = r then 0 else x i * el (gr (stepA p c m a r k) i) j) % p = sg m.length (fun i=>if i = r then 0 else x i * (el (gr (swapM a r k) i) j - el (gr (swapM m r k) i) c * el (gr (stepA p c m a r k) r) j)) % p:=by
    refine sg_mod fun i hi=>?_
    by_cases hir:i = r
    · rw [if_pos hir,if_pos hir]
    · rw [if_neg hir,if_neg hir,e3 i hi hir j hj,mul_mod2]
  have h2:sg m.length (fun i=>if i = r then 0 else x i * (el (gr (swapM a r k) i) j - el (gr (swapM m r k) i) c * el (gr (stepA p c m a r k) r) j)) = sg m.length (fun i=>if i = r then 0 else x i * el (gr (swapM a r k) i) j) - sg m.length (fun i=>if i = r then 0 else x i * el (gr (swapM m r k) i) c) * el (gr (stepA p c m a r k) r) j:=by
    rw [← sg_mulr,← sg_sub]
    refine sg_congr fun i _=>?_
    by_cases hir:i = r
    · simp [hir]
    · simp only [if_neg hir];rw [Int.mul_sub,Int.mul_assoc]
  rw [Int.add_emod,h1,h2,← Int.add_emod]
  generalize sg m.length (fun i=>if i = r then 0 else x i * el (gr (swapM a r k) i) j) = A
  generalize sg m.length (fun i=>if i = r then 0 else x i * el (gr (swapM m r k) i) c) = F
  have e4:A - F * el (gr (stepA p c m a r k) r) j + x r * el (gr (stepA p c m a r k) r) j = A + (x r - F) * el (gr (stepA p c m a r k) r) j:=by rw [Int.sub_mul];omega
  rw [e4,e2 j hj,Int.add_emod,mul_mod2,← Int.add_emod,Int.mul_comm (el (gr a k) j)]
theorem Indep.step {p:Int} {c r k N q:Nat} {m a:Rows} (hf:fdB p = true) (h:okM p N m) (ha:okM p q a) (hl:a.length = m.length) (hr:r < m.length) (hk:k < m.length) (hc:c < N) (hne:el (gr m k) c ≠ 0) (hi:Indep p q a):Indep p q (stepA p c m a r k):=by
  obtain ⟨e1,e2,e3⟩:=stepA_el hf h ha hl hr hk hc hne
  have hsl:(stepA p c m a r k).length = m.length:=by rw [stepA_len,hl]
  have hra:r < a.length:=by omega
  have hka:k < a.length:=by omega
  intro x hx
  rw [hsl] at hx ⊢
  have hs:=Indep.swap hra hka hi (fun i=>if i = r then (x r - sg m.length (fun i=>if i = r then 0 else x i * el (gr (swapM m r k) i) c)) * invF p (el (gr m k) c) else x i) (fun j hj=>by
    rw [swapM_len,hl,sg_split hr,if_pos rfl,swapM_gr hra hka]
    have:=hx j hj
    rw [step_sum hf h ha hl hr hk hc hne x hj] at this
    refine Eq.trans ?_ this
    rw [Int.mul_assoc]
    refine congrArg (fun z=>(z + _) % p) ?_
    refine sg_congr fun i _=>?_
    by_cases hir:i = r
    · rw [if_pos hir,if_pos hir]
    · rw [if_neg hir,if_neg hir,if_neg hir])
  rw [swapM_len,hl] at hs
  have h0:∀ i,i < m.length → i ≠ r → x i % p = 0:=fun i h1 h2=>by
    have:=hs i h1
    simpa only [if_neg h2] using this
  intro i h1
  by_cases h2:i = r
  · subst h2
    have h3:=hs i hr
    simp only [if_true] at h3
    have hF:sg m.length (fun t=>if t = i then 0 else x t * el (gr (swapM m i k) t) c) % p = 0:=by
      rw [sg_mod (g:=fun _=>0) (fun t ht=>by
        by_cases hti:t = i
        · rw [if_pos hti]
        · rw [if_neg hti,mul_mod_zero (h0 t ht hti)];exact (Int.zero_emod p).symm),sg_zero (fun _ _=>rfl)]
      exact Int.zero_emod p
    generalize sg m.length (fun t=>if t = i then 0 else x t * el (gr (swapM m i k) t) c) = F at h3 hF
    have h4:(x i - F) % p = 0:=by
      have h5:=mul_mod_zero (b:=el (gr m k) c) h3
      rw [Int.mul_assoc,Int.mul_comm (invF p _),← mul_mod2,e1,Int.mul_one] at h5
      exact h5
    rw [mod_of_sub h4,hF]
  · exact h0 i h1 h2
theorem Red.indep {p:Int} {n:Nat} {b:Rows} (h:Red p n b):Indep p n b:=by
  intro x hx i hi
  have:=hx _ (h.lt i hi)
  rw [sg_one hi (fun t ht hn=>by rw [h.zero i t hi ht (Ne.symm hn),Int.mul_zero]),h.one i hi,Int.mul_one] at this
  exact this
theorem span_leads {p:Int} {n:Nat} {b:Rows} {v:List Int} (hb:Red p n b) (hv:inSpan p n b v):∀ j,j < n → el v j % p = sg b.length (fun i=>el v (leadN (gr b i)) * el (gr b i) j) % p:=by
  obtain ⟨x,hx⟩:=hv
  intro j hj
  rw [hx j hj]
  refine sg_mod fun i hi=>?_
  have h1:=hx _ (hb.lt i hi)
  rw [sg_one hi (fun t ht hn=>by rw [hb.zero i t hi ht (Ne.symm hn),Int.mul_zero]),hb.one i hi,Int.mul_one] at h1
  rw [← mul_mod1,← h1,mul_mod1]
theorem span_lead {p:Int} {n:Nat} {b:Rows} {v:List Int} (hp:2 ≤ p) (hb:Red p n b) (hv:okR p n v) (hs:inSpan p n b v) (h0:leadN v < n):∃ i,i < b.length ∧ leadN (gr b i) = leadN v:=by
  apply Classical.byContradiction
  intro hno
  have hno:∀ i,i < b.length → leadN (gr b i) ≠ leadN v:=fun i hi he=>hno ⟨i,hi,he⟩
  have h1:=span_leads hb hs _ h0
  have h2:sg b.length (fun i=>el v (leadN (gr b i)) * el (gr b i) (leadN v)) = 0:=by
    refine sg_zero fun i hi=>?_
    rcases Nat.lt_trichotomy (leadN (gr b i)) (leadN v) with h | h | h
    · rw [leadN_z v _ h,Int.zero_mul]
    · exact absurd h (hno i hi)
    · rw [leadN_z (gr b i) _ h,Int.mul_zero]
  rw [h2,Int.zero_emod,emod_sm (hv.2 _ (el_mem (by rw [hv.1];exact h0)))] at h1
  exact leadN_nz v (by rw [hv.1];exact h0) h1
theorem leads_le {p:Int} {n:Nat} {b b':Rows} (hp:2 ≤ p) (hb:Red p n b) (hb':Red p n b') (hs:subSpan p n b b'):∀ k,k ≤ b.length → ∃ g:Nat → Nat,(∀ i,i < k → g i < b'.length ∧ leadN (gr b' (g i)) = leadN (gr b i)) ∧ (∀ i,i < k → i ≤ g i):=by
  intro k hk
  have hex:∀ i,i < b.length → ∃ t,t < b'.length ∧ leadN (gr b' t) = leadN (gr b i):=fun i hi=>span_lead hp hb' (okM_gr hb.ok hi) (hs i hi) (hb.lt i hi)
  refine ⟨fun i=>if h:i < b.length then Classical.choose (hex i h) else 0,fun i hi=>?_,fun i hi=>?_⟩
  · simp only [dif_pos (Nat.lt_of_lt_of_le hi hk)]
    exact Classical.choose_spec (hex i (Nat.lt_of_lt_of_le hi hk))
  · induction i with
    | zero=>exact Nat.zero_le _
    | succ i ih=>
      have h1:=ih (by omega)
      have hi1:i < b.length:=by omega
      have hi2:i + 1 < b.length:=by omega
      simp only [dif_pos hi1] at h1
      simp only [dif_pos hi2]
      have s1:=Classical.choose_spec (hex i hi1)
      have s2:=Classical.choose_spec (hex (i + 1) hi2)
      generalize Classical.choose (hex i hi1) = t1 at s1 h1
      generalize Classical.choose (hex (i + 1) hi2) = t2 at s2
      have hlt:=hb.inc i (i + 1) (by omega) hi2
      have:t1 < t2:=by
        rcases Nat.lt_trichotomy t1 t2 with h | h | h
        · exact h
        · rw [h] at s1;omega
        · have:=hb'.inc t2 t1 h s1.1;omega
      omega
theorem red_len_le {p:Int} {n:Nat} {b b':Rows} (hp:2 ≤ p) (hb:Red p n b) (hb':Red p n b') (hs:subSpan p n b b'):b.length ≤ b'.length:=by
  obtain ⟨g,h1,h2⟩:=leads_le hp hb hb' hs b.length (Nat.le_refl _)
  rcases Nat.eq_zero_or_pos b.length with h0 | h0
  · omega
  · have:=(h1 (b.length - 1) (by omega)).1
    have:=h2 (b.length - 1) (by omega)
    omega
theorem red_eq {p:Int} {n:Nat} {b b':Rows} (hp:2 ≤ p) (hb:Red p n b) (hb':Red p n b') (hs:subSpan p n b b') (hl:b.length = b'.length):b = b':=by
  obtain ⟨g,h1,h2⟩:=leads_le hp hb hb' hs b.length (Nat.le_refl _)
  have hg:∀ d i,i + d + 1 = b.length → g i = i:=by
    intro d
    induction d with
    | zero=>
      intro i hi
      have:=(h1 i (by omega)).1
      have:=h2 i (by omega)
      omega
    | succ d ih=>
      intro i hi
      have e1:=ih (i + 1) (by omega)
      have a1:=h1 i (by omega)
      have a2:=h1 (i + 1) (by omega)
      have a3:=hb.inc i (i + 1) (by omega) (by omega)
      have a4:=h2 i (by omega)
      rw [e1] at a2
      rcases Nat.lt_trichotomy (g i) (i + 1) with h | h | h
      · omega
      · rw [h] at a1;omega
      · have:=hb'.inc (i + 1) (g i) h a1.1;omega
  have hlead:∀ i,i < b.length → leadN (gr b' i) = leadN (gr b i):=fun i hi=>by
    have:=(h1 i hi).2
    rw [hg (b.length - 1 - i) i (by omega)] at this;exact this
  refine ext_gr hl fun i hi=>?_
  have r1:=okM_gr hb.ok hi
  have r2:=okM_gr hb'.ok (i:=i) (by omega)
  refine ext_el (by rw [r1.1,r2.1]) fun j hj=>?_
  rw [r1.1] at hj
  have h3:=span_leads hb' (hs i hi) j hj
  rw [sg_one (i0:=i) (by omega) (fun t ht hn=>by rw [hlead t (by omega),hb.zero t i (by omega) hi hn,Int.zero_mul]),hlead i hi,hb.one i hi,Int.one_mul] at h3
  rw [emod_sm (r1.2 _ (el_mem (by omega))),emod_sm (r2.2 _ (el_mem (by omega)))] at h3
  exact h3
theorem red_unique {p:Int} {n:Nat} {b b':Rows} (hp:2 ≤ p) (hb:Red p n b) (hb':Red p n b') (h1:subSpan p n b b') (h2:subSpan p n b' b):b = b':=
  red_eq hp hb hb' h1 (Nat.le_antisymm (red_len_le hp hb hb' h1) (red_len_le hp hb' hb h2))
theorem redM_unique {p:Int} {n:Nat} {a b:Rows} (hf:fdB p = true) (ha:okM p n a) (hb:okM p n b) (h1:subSpan p n a b) (h2:subSpan p n b a):redM p n a = redM p n b:=by
  obtain ⟨a1,a2⟩:=redM_span hf ha
  obtain ⟨b1,b2⟩:=redM_span hf hb
  exact red_unique (fdB_rng hf).1 (redM_red hf ha) (redM_red hf hb) (subSpan_trans a1 (subSpan_trans h1 b2)) (subSpan_trans b1 (subSpan_trans h2 a2))
theorem redM_self {p:Int} {n:Nat} {b:Rows} (hf:fdB p = true) (h:Red p n b):redM p n b = b:=by
  obtain ⟨a1,a2⟩:=redM_span hf h.ok
  exact red_unique (fdB_rng hf).1 (redM_red hf h.ok) h a1 a2
end Go.Proofs.YtlggnmkelgplnaaGreatDoor
namespace Go.Proofs.YtlggnmkelgplnaaGreatDoor
end Go.Proofs.YtlggnmkelgplnaaGreatDoor
namespace Go.Proofs.YtlggnmkelgplnaaGreatDoor
theorem rowsP_len {p:Int} {n:Nat} {m:List (List Int)} (h:rowsP p n m) (hn:n ≤ 1048576):∀ r ∈ m,r.length ≤ maxN:=by
  intro r hr;have:=(h r hr).1;have hm:maxN = 1099511627776:=rfl;omega
end Go.Proofs.YtlggnmkelgplnaaGreatDoor
namespace Go.Proofs.YtlggnmkelgplnaaGreatDoor
end Go.Proofs.YtlggnmkelgplnaaGreatDoor
namespace Go.Proofs.YtlggnmkelgplnaaGreatDoor
end Go.Proofs.YtlggnmkelgplnaaGreatDoor
namespace Go.Proofs.YtlggnmkelgplnaaGreatDoor
def nIntS (a:List Int):Nat:=a.length
def cIntS (a:List Int):Nat:=rowN a
theorem cIntS_le (a:List Int):cIntS a ≤ 8 * nIntS a:=by unfold cIntS nIntS rowN;omega
def mk_IntS:=mkS
theorem mk_IntS_snd (a:List Int) (k:Int):(mk_IntS a k).2 = k + cIntS a:=mkS_snd a k
theorem e_IntS (a:List Int) (h:nIntS a ≤ 1048576):F_laws_eqIntS a a = some true:=by rw [eqIntS a a (by unfold nIntS at h;unfold lenOk;omega),show decide (a = a) = true from dT rfl]
theorem m_IntS (a:List Int) (k:Int) (h0:0 ≤ k) (h:k + 8 * nIntS a ≤ 1125899906842624):F_laws_markIntS a k = some (mk_IntS a k):=markIntS a k h0 (by unfold nIntS at h;unfold rowN bigN;omega)
theorem h_IntS (a:List Int) (k:Int) (h0:0 ≤ k) (h:k + 8 * nIntS a ≤ 1125899906842624):F_laws_heldIntS (mk_IntS a k).1 k = some (k + cIntS a):=heldIntS a k h0 (by unfold nIntS at h;unfold rowN bigN;omega)
end Go.Proofs.YtlggnmkelgplnaaGreatDoor
namespace Go.Proofs.YtlggnmkelgplnaaGreatDoor
end Go.Proofs.YtlggnmkelgplnaaGreatDoor
namespace Go.Proofs.YtlggnmkelgplnaaGreatDoor
set_option linter.unusedVariables false
theorem gr_app1 {a b:Rows} {i:Nat} (h:i < a.length):gr (a ++ b) i = gr a i:=by
  unfold gr;rw [List.getD_eq_getElem?_getD,List.getD_eq_getElem?_getD,List.getElem?_append_left h]
theorem gr_app2 {a b:Rows} (i:Nat):gr (a ++ b) (a.length + i) = gr b i:=by
  unfold gr;rw [List.getD_eq_getElem?_getD,List.getD_eq_getElem?_getD,List.getElem?_append_right (by omega),Nat.add_sub_cancel_left]
theorem okM_app {p:Int} {n:Nat} {a b:Rows} (h1:okM p n a) (h2:okM p n b):okM p n (a ++ b):=
  fun r hr=>(List.mem_append.1 hr).elim (h1 r) (h2 r)
section
variable {p:Int} {n:Nat} {A B:Rows}
end
end Go.Proofs.YtlggnmkelgplnaaGreatDoor
namespace Go.Proofs.YtlggnmkelgplnaaGreatDoor
theorem flat_take {α:Type} (l:List (List α)) (j:Nat):(l.take j).flatten.length ≤ l.flatten.length:=by
  have:l.flatten = (l.take j).flatten ++ (l.drop j).flatten:=by rw [← List.flatten_append,List.take_append_drop]
  rw [this,List.length_append];omega
theorem flat_succ {α:Type} (l:List (List α)) {j:Nat} {x:List α} (h:l[j]? = some x):(l.take (j + 1)).flatten = (l.take j).flatten ++ x:=by
  rw [List.take_add_one,h]
  simp only [Option.toList_some,List.flatten_append,List.flatten_cons,List.flatten_nil,List.append_nil]
theorem joined_ {l:Rows} (h:l.flatten.length ≤ maxN):F_impl_joined l = some l.flatten:=by
  have:=forS_is (n:=l.length) (fun j=>(l.take j).flatten) (f:=fun (k5:Nat) (s41:List Int)=>
      (idxO l ((k5:Nat):Int)).bind fun a57=>
      (appO s41 a57).bind fun a61=>
      some a61) (by
    intro j hj
    have h1:=gr_get hj
    have h2:=flat_succ l h1
    have h3:=flat_take l (j + 1)
    refine bnd (idx_gr hj) (bnd (appO_of ?_) (by rw [h2]))
    rw [h2,List.length_append] at h3;omega)
  exact bnd this (by rw [List.take_of_length_le (Nat.le_refl _)])
theorem okR_app {p:Int} {l r:Nat} {x y:List Int} (hx:okR p l x) (hy:okR p r y):okR p (l + r) (x ++ y):=
  ⟨by rw [List.length_append,hx.1,hy.1],fun z hz=>by rcases List.mem_append.1 hz with h | h;exact hx.2 z h;exact hy.2 z h⟩
theorem hasPair_ {p:Int} {l r:Nat} {R:Rel} {v:List Int} (h:RlOk p l r R) (hv:okR p (l + r) v):F_impl_hasPair p R v = some (hasB p (l + r) R.2.2 v):=by
  have:=h.n24;have:=h.len
  exact bnd (coordinates_ h.hf h.red hv (by omega) (by omega)) rfl
theorem forO_find {α:Type} {τ:Type} {f:Nat → Unit → Option (Unit ⊕ τ)} (P:α → Bool) (t:α → τ):∀ (l:List α) (k:Nat),(∀ j a,l[j]? = some a → f (k + j) () = some (if P a then .inl () else .inr (t a))) →
    forO f l.length k () = some (match l.find? (fun a=>!P a) with | none=>.inl () | some a=>.inr (t a))
  | [],k,_=>rfl
  | a :: l,k,h=>by
    show (f k ()).bind _ = _
    have h0:f k () = _:=h 0 a rfl
    rw [h0,List.find?_cons]
    cases hP:P a with
    | false=>rfl
    | true=>
      have:=forO_find P t l (k + 1) (fun j b hb=>by
        have:=h (j + 1) b (by simpa using hb)
        rw [show k + 1 + j = k + (j + 1) by omega];exact this)
      exact this
theorem find_all {α:Type} (P:α → Bool):∀ l:List α,(l.find? (fun a=>!P a)).isNone = l.all P
  | []=>rfl
  | a :: l=>by
    rw [List.find?_cons,List.all_cons]
    cases h:P a with
    | false=>simp
    | true=>simp [find_all P l]
theorem red_row {p:Int} {n:Nat} {b:Rows} (h:Red p n b) {x:List Int} (hx:x ∈ b):x ≠ []:=by
  obtain ⟨i,hi,rfl⟩:=List.mem_iff_getElem.1 hx
  have h1:=h.lt i hi
  have h2:=okM_gr h.ok hi
  have e:gr b i = b[i]:=by have:=gr_get hi;rw [List.getElem?_eq_getElem hi] at this;exact (Option.some.inj this).symm
  rw [e] at h2
  intro h0
  rw [h0] at h2
  have:=h2.1
  simp at this;omega
end Go.Proofs.YtlggnmkelgplnaaGreatDoor
namespace Go.Proofs.YtlggnmkelgplnaaGreatDoor
set_option linter.unusedVariables false
theorem fdNeg_ {p a:Int} (hp:2 ≤ p ∧ p ≤ 97) (ha:0 ≤ a ∧ a < p):F_spec_fdNeg p a = some ((p - a) % p):=by
  refine bnd (subO_of (by omega) (by omega)) (bnd (remO_of (by omega)) ?_)
  rw [Int.tmod_eq_emod_of_nonneg (by omega)]
def unitN (n i:Nat):List Int:=(List.replicate n 0).set i 1
def idN (n:Nat):Rows:=(List.range n).map (unitN n)
theorem unitN_ok {p:Int} (hp:2 ≤ p) (n i:Nat):okR p n (unitN n i):=by
  refine ⟨by simp [unitN],fun x hx=>?_⟩
  rcases List.mem_or_eq_of_mem_set hx with h | rfl
  · have:=List.eq_of_mem_replicate h;omega
  · omega
theorem idN_len (n:Nat):(idN n).length = n:=by simp [idN]
theorem idN_ok {p:Int} (hp:2 ≤ p) (n:Nat):okM p n (idN n):=by
  intro x hx
  obtain ⟨i,hi,rfl⟩:=List.mem_map.1 hx
  exact unitN_ok hp n i
theorem unit_ {n i:Nat} (hi:i < n) (hn:n ≤ maxN):F_impl_unit (n:Int) (i:Int) = some (unitN n i):=
  bnd (zeros_ hn) (bnd (setO_of _ (by simpa using hi)) rfl)
theorem idN_succ (n k:Nat):(List.range (k + 1)).map (unitN n) = (List.range k).map (unitN n) ++ [unitN n k]:=by simp [List.range_succ]
theorem identityRows_ {n:Nat} (hn:n ≤ 1048576):F_impl_identityRows (n:Int) = some (idN n):=by
  have hm:maxN = 1099511627776:=rfl
  refine bnd (cI_of ⟨by omega,by omega⟩) ?_
  rw [Int.toNat_natCast]
  refine bnd (forS_is (fun k=>(List.range k).map (unitN n)) ?_) rfl
  intro k hk
  exact bnd (unit_ hk (by omega)) (bnd (appO_of (by simp;omega)) (by rw [idN_succ]))
def redT (p:Int) (n:Nat) (m:Rows):Rows × Rows × Nat:=redLoop p n 0 m (idN m.length) 0
theorem redT_facts {p:Int} {n:Nat} {m:Rows} (hf:fdB p = true) (h:okM p n m):(redT p n m).2.2 ≤ m.length ∧ (redT p n m).1.length = m.length ∧ (redT p n m).2.1.length = m.length ∧ okM p m.length (redT p n m).2.1 ∧ okM p n (redT p n m).1 ∧ Red p n ((redT p n m).1.take (redT p n m).2.2):=by
  have hp:=fdB_rng hf
  obtain ⟨k1,k2,k3,k4,k5,k6,k7⟩:=redLoop_ok hp.1 n 0 m (idN m.length) 0 h (idN_ok hp.1 m.length) (idN_len _) (by omega)
  have e:(redT p n m).1.take (redT p n m).2.2 = redM p n m:=by
    obtain ⟨e1,e2⟩:=redLoop_any p n 0 m (idN m.length) m 0
    unfold redT redM;rw [e1,e2]
  exact ⟨k6,k3,k4,k2,k1,by rw [e];exact redM_red hf h⟩
end Go.Proofs.YtlggnmkelgplnaaGreatDoor
namespace Go.Proofs.YtlggnmkelgplnaaGreatDoor
set_option linter.unusedVariables false
structure Ports (l:List Int) (n:Nat):Prop where
  rng:∀ k,k < l.length → 0 ≤ el l k ∧ el l k < (n:Int)
  inc:∀ i j,i < j → j < l.length → el l i < el l j
theorem Ports.inj {l:List Int} {n:Nat} (h:Ports l n) {i j:Nat} (hi:i < l.length) (hj:j < l.length) (he:el l i = el l j):i = j:=by
  rcases Nat.lt_trichotomy i j with h1 | h1 | h1
  · have:=h.inc i j h1 hj;omega
  · exact h1
  · have:=h.inc j i h1 hi;omega
theorem Ports.len {l:List Int} {n:Nat} (h:Ports l n):l.length ≤ n:=by
  have key:∀ k,k < l.length → (k:Int) ≤ el l k:=fun k hk=>by
    induction k with
    | zero=>have:=h.rng 0 hk;omega
    | succ k ih=>have:=ih (by omega);have:=h.inc k (k + 1) (by omega) hk;omega
  rcases Nat.eq_zero_or_pos l.length with h0 | h0
  · omega
  · have:=key (l.length - 1) (by omega)
    have:=(h.rng (l.length - 1) (by omega)).2
    omega
def below (l:List Int) (n:Nat):Prop:=∀ k,k < l.length → 0 ≤ el l k ∧ el l k < (n:Int)
end Go.Proofs.YtlggnmkelgplnaaGreatDoor
namespace Go.Proofs.YtlggnmkelgplnaaGreatDoor
set_option linter.unusedVariables false
def catM (m a:Rows):Rows:=List.zipWith (fun x y=>x ++ y) m a
theorem catM_len {m a:Rows} (h:a.length = m.length):(catM m a).length = m.length:=by simp [catM,h]
theorem catM_gr:∀ {m a:Rows} {i:Nat},a.length = m.length → gr (catM m a) i = gr m i ++ gr a i
  | [],[],i,_=>by simp [catM,gr]
  | [],_ :: _,_,h=>by simp at h
  | _ :: _,[],_,h=>by simp at h
  | x :: m,y :: a,0,_=>by rw [gr_zero,gr_zero];rfl
  | x :: m,y :: a,i + 1,h=>by
    rw [gr_succ,gr_succ]
    show gr ((x ++ y) :: catM m a) (i + 1) = _
    rw [gr_succ]
    exact catM_gr (by simpa using h)
theorem el_app {x y:List Int} {j:Nat}:el (x ++ y) j = if j < x.length then el x j else el y (j - x.length):=by
  unfold el
  rw [List.getD_eq_getElem?_getD,List.getD_eq_getElem?_getD,List.getD_eq_getElem?_getD]
  split
  · rename_i h;rw [List.getElem?_append_left h]
  · rename_i h;rw [List.getElem?_append_right (by omega)]
theorem catM_ok {p:Int} {k q:Nat} {m a:Rows} (hl:a.length = m.length) (h:okM p k m) (ha:okM p q a):okM p (k + q) (catM m a):=by
  intro x hx
  obtain ⟨i,hi,rfl⟩:=List.mem_iff_getElem.1 hx
  rw [catM_len hl] at hi
  have e:gr (catM m a) i = (catM m a)[i]'(by rw [catM_len hl];exact hi):=by have:=gr_get (m:=catM m a) (i:=i) (by rw [catM_len hl];exact hi);rw [List.getElem?_eq_getElem] at this;exact (Option.some.inj this).symm
  rw [← e,catM_gr hl]
  exact okR_app (okM_gr h hi) (okM_gr ha (by omega))
theorem catM_el {p:Int} {k:Nat} {m a:Rows} (hl:a.length = m.length) (h:okM p k m) {i c:Nat} (hi:i < m.length) (hc:c < k):el (gr (catM m a) i) c = el (gr m i) c:=by
  rw [catM_gr hl,el_app,if_pos (by rw [(okM_gr h hi).1];exact hc)]
theorem catM_scan {p:Int} {k:Nat} {m a:Rows} (hl:a.length = m.length) (h:okM p k m) {c:Nat} (hc:c < k):∀ (d i:Nat),i + d ≤ m.length → scanN (catM m a) c d i = scanN m c d i
  | 0,_,_=>rfl
  | d + 1,i,hi=>by
    unfold scanN
    rw [catM_el hl h (by omega) hc,catM_scan hl h hc d (i + 1) (by omega)]
theorem catM_swap {m a:Rows} {r k i:Nat} (hl:a.length = m.length) (hr:r < m.length) (hk:k < m.length):gr (swapM (catM m a) r k) i = gr (swapM m r k) i ++ gr (swapM a r k) i:=by
  have hcl:=catM_len hl
  rw [swapM_gr2 (by rw [hcl];exact hr) (by rw [hcl];exact hk),swapM_gr2 hr hk,swapM_gr2 (m:=a) (by omega) (by omega)]
  split
  · exact catM_gr hl
  · split <;> exact catM_gr hl
theorem catM_step {p:Int} {c r k w q:Nat} {m a:Rows} (hf:fdB p = true) (h:okM p w m) (ha:okM p q a) (hl:a.length = m.length) (hr:r < m.length) (hk:k < m.length) (hc:c < w) (hne:el (gr m k) c ≠ 0) :
    stepA p c (catM m a) (catM m a) r k = catM (stepA p c m m r k) (stepA p c m a r k):=by
  have hp:=fdB_rng hf
  have hcl:=catM_len hl
  have hco:=catM_ok hl h ha
  have hne2:el (gr (catM m a) k) c ≠ 0:=by rw [catM_el hl h hk hc];exact hne
  obtain ⟨f1,f2,f3⟩:=stepA_el hf hco hco rfl (by rw [hcl];exact hr) (by rw [hcl];exact hk) (by omega) hne2
  obtain ⟨g1,g2,g3⟩:=stepA_el hf h h rfl hr hk hc hne
  obtain ⟨k1,k2,k3⟩:=stepA_el hf h ha hl hr hk hc hne
  have l1:(stepA p c (catM m a) (catM m a) r k).length = m.length:=by rw [stepA_len,hcl]
  have l2:(stepA p c m m r k).length = m.length:=stepA_len p c m m r k
  have l3:(stepA p c m a r k).length = m.length:=by rw [stepA_len,hl]
  have o1:okM p (w + q) (stepA p c (catM m a) (catM m a) r k):=stepA_ok hp.1 hco (by rw [hcl];exact hr) (by rw [hcl];exact hk)
  have o2:okM p w (stepA p c m m r k):=stepA_ok hp.1 h hr hk
  have o3:okM p q (stepA p c m a r k):=stepA_ok hp.1 ha (by omega) (by omega)
  rw [hcl] at f3
  have hrow:∀ j,j < w + q → el (gr (stepA p c (catM m a) (catM m a) r k) r) j = el (gr (stepA p c m m r k) r ++ gr (stepA p c m a r k) r) j:=fun j hj=>by
    rw [f2 j hj,catM_el hl h hk hc,catM_gr hl,el_app,el_app,(okM_gr h hk).1,(okM_gr o2 (i:=r) (by omega)).1]
    split
    · rw [g2 j (by omega)]
    · rw [k2 _ (by omega)]
  refine ext_gr (by rw [catM_len (by rw [l3,l2]),l1,l2]) fun i hi=>?_
  rw [l1] at hi
  rw [catM_gr (by rw [l3,l2])]
  have wi:=(okM_gr o2 (i:=i) (by omega)).1
  refine ext_el (by rw [List.length_append,(okM_gr o1 (i:=i) (by omega)).1,wi,(okM_gr o3 (i:=i) (by omega)).1]) fun j hj=>?_
  rw [(okM_gr o1 (i:=i) (by omega)).1] at hj
  by_cases hir:i = r
  · subst hir;exact hrow j hj
  · have hsm:okM p w (swapM m r k):=swapM_ok h hr hk
    have ws:=(okM_gr hsm (i:=i) (by rw [swapM_len];exact hi)).1
    have wr:=(okM_gr o2 (i:=r) (by omega)).1
    rw [f3 i hi hir j hj,hrow j hj,catM_swap hl hr hk,el_app,el_app,el_app,el_app,ws,wr,wi,if_pos hc]
    split
    · rename_i hjw;rw [g3 i hi hir j hjw]
    · rename_i hjw;rw [k3 i hi hir _ (by omega)]
theorem catM_loop {p:Int} {w q:Nat} (hf:fdB p = true):∀ (d c:Nat) (m a:Rows) (r:Nat),c + d ≤ w → okM p w m → okM p q a → a.length = m.length → r ≤ m.length →
    redLoop p d c (catM m a) (catM m a) r = (catM (redLoop p d c m a r).1 (redLoop p d c m a r).2.1,catM (redLoop p d c m a r).1 (redLoop p d c m a r).2.1,(redLoop p d c m a r).2.2)
  | 0,_,_,_,_,_,_,_,_,_=>rfl
  | d + 1,c,m,a,r,hd,h,ha,hl,hr=>by
    have hcl:=catM_len hl
    unfold redLoop
    rw [hcl]
    by_cases hrl:r < m.length
    · rw [if_pos hrl,if_pos hrl,catM_scan hl h (by omega) (m.length - r) r (by omega)]
      obtain ⟨s1,s2,s3⟩:=scanN_spec m c (m.length - r) r (by omega)
      split
      · exact catM_loop hf d (c + 1) m a r (by omega) h ha hl hr
      · rename_i hk
        have hkl:scanN m c (m.length - r) r < m.length:=by omega
        rw [catM_step hf h ha hl hrl hkl (by omega) (s3 hkl)]
        have ha2:okM p q (stepA p c m a r (scanN m c (m.length - r) r)):=stepA_ok (fdB_rng hf).1 ha (by omega) (by omega)
        exact catM_loop hf d (c + 1) (stepA p c m m r (scanN m c (m.length - r) r)) (stepA p c m a r (scanN m c (m.length - r) r)) (r + 1) (by omega) (stepA_ok (fdB_rng hf).1 h hrl hkl) ha2 (by rw [stepA_len,stepA_len];exact hl) (by rw [stepA_len];omega)
    · rw [if_neg hrl,if_neg hrl]
end Go.Proofs.YtlggnmkelgplnaaGreatDoor
namespace Go.Proofs.YtlggnmkelgplnaaGreatDoor
set_option linter.unusedVariables false
theorem sg_app (f:Nat → Int) (a:Nat):∀ b,sg (a + b) f = sg a f + sg b (fun t=>f (a + t))
  | 0=>by show sg a f = sg a f + 0;omega
  | b + 1=>by
    show sg (a + b) f + f (a + b) = sg a f + (sg b (fun t=>f (a + t)) + f (a + b))
    rw [sg_app f a b];omega
theorem dot_span {p:Int} {n:Nat} {m:Rows} {v:List Int} (f:Nat → Int) (h:∀ i,i < m.length → sg n (fun j=>f j * el (gr m i) j) % p = 0) (hv:inSpan p n m v):sg n (fun j=>f j * el v j) % p = 0:=by
  obtain ⟨x,hx⟩:=hv
  have e1:sg n (fun j=>f j * el v j) % p = sg n (fun j=>f j * sg m.length (fun i=>x i * el (gr m i) j)) % p:=
    sg_mod fun j hj=>by rw [← mul_mod2,hx j hj,mul_mod2]
  rw [e1]
  have e2:sg n (fun j=>f j * sg m.length (fun i=>x i * el (gr m i) j)) = sg m.length (fun i=>x i * sg n (fun j=>f j * el (gr m i) j)):=by
    rw [sg_congr (g:=fun j=>sg m.length (fun i=>f j * (x i * el (gr m i) j))) (fun j _=>(sg_mul _ _ _).symm),sg_comm]
    refine sg_congr fun i _=>?_
    rw [← sg_mul]
    exact sg_congr fun j _=>Int.mul_left_comm _ _ _
  rw [e2,sg_mod (g:=fun _=>0) (fun i hi=>by rw [mul_mod_zero2 (h i hi)];exact (Int.zero_emod p).symm),sg_zero (fun _ _=>rfl)]
  exact Int.zero_emod p
def perp (p:Int) (n:Nat) (m:Rows) (x:List Int):Prop:=∀ i,i < m.length → sg n (fun j=>el (gr m i) j * el x j) % p = 0
theorem perp_span {p:Int} {n:Nat} {m:Rows} {x v:List Int} (h:perp p n m x) (hv:inSpan p n m v):sg n (fun j=>el v j * el x j) % p = 0:=by
  have:=dot_span (m:=m) (v:=v) (fun j=>el x j) (fun i hi=>by rw [← h i hi];exact congrArg (· % p) (sg_congr fun j _=>Int.mul_comm _ _)) hv
  rw [← this];exact congrArg (· % p) (sg_congr fun j _=>Int.mul_comm _ _)
theorem perp_sub {p:Int} {n:Nat} {a b:Rows} {x:List Int} (h:perp p n b x) (hs:subSpan p n a b):perp p n a x:=fun i hi=>perp_span h (hs i hi)
def lperp (p:Int) (n:Nat) (m:Rows) (x:List Int):Prop:=∀ c,c < n → sg m.length (fun t=>el x t * el (gr m t) c) % p = 0
theorem lperp_span {p:Int} {n:Nat} {m b:Rows} {v:List Int} (h:∀ i,i < b.length → lperp p n m (gr b i)) (hv:inSpan p m.length b v):lperp p n m v:=by
  intro c hc
  have:=dot_span (n:=m.length) (m:=b) (v:=v) (fun t=>el (gr m t) c) (fun i hi=>by rw [← h i hi c hc];exact congrArg (· % p) (sg_congr fun j _=>Int.mul_comm _ _)) hv
  rw [← this];exact congrArg (· % p) (sg_congr fun j _=>Int.mul_comm _ _)
theorem idN_gr {n i:Nat} (hi:i < n):gr (idN n) i = unitN n i:=by
  have h:=gr_get (m:=idN n) (i:=i) (by rw [idN_len];exact hi)
  unfold idN at h
  rw [List.getElem?_map,List.getElem?_range hi] at h
  exact (Option.some.inj h).symm
theorem unit_elN {n i j:Nat} (hi:i < n):el (unitN n i) j = if i = j then 1 else 0:=by
  unfold unitN el
  rw [List.getD_eq_getElem?_getD,List.getElem?_set]
  by_cases h:i = j
  · subst h;rw [if_pos rfl,if_pos (by rw [List.length_replicate];exact hi),if_pos rfl];rfl
  · rw [if_neg h,if_neg h,← List.getD_eq_getElem?_getD];exact el_rep n j
theorem idN_all {p:Int} {n:Nat} (v:List Int):inSpan p n (idN n) v:=by
  refine ⟨fun i=>el v i,fun j hj=>?_⟩
  rw [idN_len,sg_one (i0:=j) hj (fun i hi hne=>by rw [idN_gr hi,unit_elN hi,if_neg hne,Int.mul_zero]),idN_gr hj,unit_elN hj,if_pos rfl,Int.mul_one]
theorem redT_rel {p:Int} {n:Nat} {m:Rows} (hf:fdB p = true) (h:okM p n m):∀ i,i < m.length → ∀ c,c < n → el (gr (redT p n m).1 i) c % p = sg m.length (fun t=>el (gr (redT p n m).2.1 i) t * el (gr m t) c) % p:=by
  have hp:=fdB_rng hf
  obtain ⟨f1,f2,f3,f4,f5,f6⟩:=redT_facts hf h
  have hl:(idN m.length).length = m.length:=idN_len _
  have h1:=catM_loop hf n 0 m (idN m.length) 0 (by omega) h (idN_ok hp.1 _) hl (Nat.zero_le _)
  have hC:=catM_ok hl h (idN_ok hp.1 m.length)
  have h2:=(loop_span hf n 0 (catM m (idN m.length)) (catM m (idN m.length)) 0 (by omega) hC hC rfl (Nat.zero_le _)).1
  rw [h1] at h2
  change subSpan p (n + m.length) (catM (redT p n m).1 (redT p n m).2.1) (catM m (idN m.length)) at h2
  intro i hi c hc
  have hv:=h2 i (by rw [catM_len (by omega)];omega)
  rw [catM_gr (by omega)] at hv
  have key:∀ a b:List Int,a.length = n → sg (n + m.length) (fun j=>(if j < n then (if c = j then 1 else 0) else -(el (gr m (j - n)) c)) * el (a ++ b) j) = el a c - sg m.length (fun t=>el b t * el (gr m t) c):=by
    intro a b ha
    rw [sg_app,sg_one (i0:=c) hc (fun j hj hne=>by rw [if_pos hj,if_neg (fun hh=>hne hh.symm),Int.zero_mul]),if_pos hc,if_pos rfl,Int.one_mul,el_app,if_pos (by omega),Int.sub_eq_add_neg,← sg_neg]
    congr 1
    refine sg_congr fun t _=>?_
    rw [if_neg (by omega),el_app,if_neg (by omega),show n + t - n = t by omega,show n + t - a.length = t by omega,Int.neg_mul,Int.mul_comm]
  have hd:=dot_span (n:=n + m.length) (m:=catM m (idN m.length)) _ (fun i hi=>by
    rw [catM_len hl] at hi
    rw [catM_gr hl,key _ _ (h _ (gr_mem hi)).1,idN_gr hi,sg_one (i0:=i) hi (fun t _ hne=>by rw [unit_elN hi,if_neg (fun hh=>hne hh.symm),Int.zero_mul]),unit_elN hi,if_pos rfl,Int.one_mul,Int.sub_self]
    exact Int.zero_emod p) hv
  rw [key _ _ (f5 _ (gr_mem (by omega))).1] at hd
  exact mod_of_sub hd
theorem redT_rest {p:Int} {n:Nat} {m:Rows} (hf:fdB p = true) (h:okM p n m):∀ i,(redT p n m).2.2 ≤ i → i < m.length → ∀ c,c < n → el (gr (redT p n m).1 i) c = 0:=by
  have h1:=redLoop_red hf n 0 m 0 (by omega) h (RedI.start m)
  obtain ⟨e1,e2⟩:=redLoop_any p n 0 m m (idN m.length) 0
  have f2:=(redT_facts hf h).2.1
  rw [e1,e2,Nat.zero_add] at h1
  intro i h2 h3 c hc
  exact h1.rest i h2 (by rw [← f2] at h3;exact h3) c hc
theorem redT_all {p:Int} {n:Nat} {m:Rows} (hf:fdB p = true) (h:okM p n m) (v:List Int):inSpan p m.length (redT p n m).2.1 v:=by
  have hp:=fdB_rng hf
  exact inSpan_trans (loop_span hf n 0 m (idN m.length) 0 (by omega) h (idN_ok hp.1 _) (idN_len _) (Nat.zero_le _)).2 (idN_all v)
theorem gr_drop (m:Rows) (k i:Nat):gr (m.drop k) i = gr m (k + i):=by
  unfold gr;rw [List.getD_eq_getElem?_getD,List.getD_eq_getElem?_getD,List.getElem?_drop]
def kerM (p:Int) (n:Nat) (m:Rows):Rows:=redM p m.length ((redT p n m).2.1.drop (redT p n m).2.2)
theorem ker_ok {p:Int} {n:Nat} {m:Rows} (hf:fdB p = true) (h:okM p n m):okM p m.length ((redT p n m).2.1.drop (redT p n m).2.2):=
  fun r hr=>(redT_facts hf h).2.2.2.1 r (List.mem_of_mem_drop hr)
theorem kerM_red {p:Int} {n:Nat} {m:Rows} (hf:fdB p = true) (h:okM p n m):Red p m.length (kerM p n m):=redM_red hf (ker_ok hf h)
theorem kerM_iff {p:Int} {n:Nat} {m:Rows} (hf:fdB p = true) (h:okM p n m) (x:List Int):inSpan p m.length (kerM p n m) x ↔ lperp p n m x:=by
  have hp:=fdB_rng hf
  obtain ⟨f1,f2,f3,f4,f5,f6⟩:=redT_facts hf h
  have hrel:=redT_rel hf h
  have hrest:=redT_rest hf h
  have hsp:=redM_span hf (ker_ok hf h)
  constructor
  · intro hx
    refine lperp_span (b:=(redT p n m).2.1.drop (redT p n m).2.2) (fun i hi c hc=>?_) (inSpan_trans hsp.1 hx)
    rw [List.length_drop] at hi
    rw [gr_drop,← hrel _ (by omega) c hc,hrest _ (by omega) (by omega) c hc]
    exact Int.zero_emod p
  · intro hx
    refine inSpan_trans hsp.2 ?_
    obtain ⟨y,hy⟩:=redT_all hf h x
    rw [f3] at hy
    have hL:(redT p n m).2.2 + (m.length - (redT p n m).2.2) = m.length:=by omega
    have hz:∀ i,i < (redT p n m).2.2 → y i % p = 0:=by
      have hi:=f6.indep y (fun c hc=>?_)
      · intro i h1;exact hi i (by rw [List.length_take];omega)
      · have hlen:((redT p n m).1.take (redT p n m).2.2).length = (redT p n m).2.2:=by rw [List.length_take];omega
        rw [hlen,sg_congr (g:=fun i=>y i * el (gr (redT p n m).1 i) c) (fun i h1=>by rw [gr_take h1])]
        have e0:sg m.length (fun i=>y i * el (gr (redT p n m).1 i) c) = sg (redT p n m).2.2 (fun i=>y i * el (gr (redT p n m).1 i) c):=by
          conv=>lhs;rw [← hL]
          rw [sg_app,sg_zero (k:=m.length - (redT p n m).2.2) (fun t ht=>by rw [hrest _ (by omega) (by omega) c hc,Int.mul_zero])]
          omega
        rw [← e0,sg_mod (g:=fun i=>y i * sg m.length (fun t=>el (gr (redT p n m).2.1 i) t * el (gr m t) c)) (fun i hi=>by rw [← mul_mod2,hrel i hi c hc,mul_mod2])]
        rw [← hx c hc]
        have e1:sg m.length (fun i=>y i * sg m.length (fun t=>el (gr (redT p n m).2.1 i) t * el (gr m t) c)) = sg m.length (fun t=>sg m.length (fun i=>y i * el (gr (redT p n m).2.1 i) t) * el (gr m t) c):=by
          rw [sg_congr (g:=fun i=>sg m.length (fun t=>y i * (el (gr (redT p n m).2.1 i) t * el (gr m t) c))) (fun i _=>(sg_mul _ _ _).symm),sg_comm]
          refine sg_congr fun t _=>?_
          rw [← sg_mulr]
          exact sg_congr fun i _=>(Int.mul_assoc _ _ _).symm
        rw [e1]
        exact sg_mod fun t ht=>by rw [← mul_mod1,← hy t ht,mul_mod1]
    refine ⟨fun t=>y ((redT p n m).2.2 + t),fun j hj=>?_⟩
    rw [hy j hj,List.length_drop,f3]
    conv=>lhs;rw [← hL]
    rw [sg_app,Int.add_emod,sg_mod (k:=(redT p n m).2.2) (g:=fun _=>0) (fun i hi=>by rw [mul_mod_zero (hz i hi)];exact (Int.zero_emod p).symm),sg_zero (k:=(redT p n m).2.2) (f:=fun _=>0) (fun _ _=>rfl),Int.zero_emod,Int.zero_add,mod_mod]
    exact congrArg (· % p) (sg_congr fun t _=>by rw [gr_drop])
end Go.Proofs.YtlggnmkelgplnaaGreatDoor
namespace Go.Proofs.YtlggnmkelgplnaaGreatDoor
set_option linter.unusedVariables false
theorem kernel_ {p:Int} {n:Nat} {m:Rows} (hf:fdB p = true) (hn:n ≤ 1048576) (h:okM p n m) (hL:m.length ≤ 1048576):F_impl_kernel p m (n:Int) = some (kerM p n m):=by
  have hm:maxN = 1099511627776:=rfl
  have hp:=fdB_rng hf
  obtain ⟨f1,f2,f3,f4,f5,f6⟩:=redT_facts hf h
  refine bnd (clones_ (by omega) (rowsP_len h (by omega))) (bnd (identityRows_ hL) (bnd (reduction_ hf (Nat.le_refl n) hn h (idN_ok hp.1 m.length) (by omega) (idN_len _)) ?_))
  change (sliceO (redT p n m).2.1 ((redT p n m).2.2:Int) (((redT p n m).2.1.length:Nat):Int)).bind _ = _
  have e:sliceO (redT p n m).2.1 ((redT p n m).2.2:Int) (((redT p n m).2.1.length:Nat):Int) = some ((redT p n m).2.1.drop (redT p n m).2.2):=by
    unfold sliceO
    rw [if_pos ⟨by omega,by omega,by rw [Int.toNat_natCast];omega⟩,Int.toNat_natCast,Int.toNat_natCast,List.take_of_length_le (by rw [List.length_drop];omega)]
  refine bnd e (bnd (reduced_ hf (Nat.le_refl m.length) hL (ker_ok hf h) (by rw [List.length_drop];omega)) rfl)
def isL (b:Rows) (j:Nat):Bool:=b.any fun r=>decide (leadN r = j)
theorem isL_iff {b:Rows} {j:Nat}:isL b j = true ↔ ∃ t,t < b.length ∧ leadN (gr b t) = j:=by
  unfold isL
  rw [List.any_eq_true]
  constructor
  · rintro ⟨r,hr,h⟩
    obtain ⟨t,ht,rfl⟩:=List.mem_iff_getElem.1 hr
    refine ⟨t,ht,?_⟩
    have e:gr b t = b[t]:=by have:=gr_get ht;rw [List.getElem?_eq_getElem ht] at this;exact (Option.some.inj this).symm
    rw [e];exact of_decide_eq_true h
  · rintro ⟨t,ht,h⟩
    exact ⟨gr b t,gr_mem ht,decide_eq_true h⟩
def ldL (n:Nat) (b:Rows):Nat → List Int
  | 0=>mapR (fun _ _=>-1) (List.replicate n 0)
  | i + 1=>(ldL n b i).set (leadN (gr b i)) (i:Int)
theorem ldL_len (n:Nat) (b:Rows):∀ i,(ldL n b i).length = n
  | 0=>by unfold ldL;rw [mapR_len,List.length_replicate]
  | i + 1=>by unfold ldL;rw [List.length_set];exact ldL_len n b i
theorem el_setN {z:List Int} {i j:Nat} {v:Int} (h:i < z.length):el (z.set i v) j = if i = j then v else el z j:=by
  unfold el
  rw [List.getD_eq_getElem?_getD,List.getD_eq_getElem?_getD,List.getElem?_set]
  by_cases hij:i = j
  · rw [if_pos hij,if_pos hij,if_pos (by omega)];rfl
  · rw [if_neg hij,if_neg hij]
theorem ldL_el {n:Nat} {b:Rows} (hlt:∀ i,i < b.length → leadN (gr b i) < n) {j:Nat} (hj:j < n):∀ i,i ≤ b.length → (0 ≤ el (ldL n b i) j ↔ ∃ t,t < i ∧ leadN (gr b t) = j)
  | 0,_=>by
    unfold ldL
    rw [el_mapR (by rw [List.length_replicate];exact hj)]
    exact ⟨fun h=>by omega,fun ⟨t,ht,_⟩=>by omega⟩
  | i + 1,hi=>by
    have ih:=ldL_el hlt hj i (by omega)
    show 0 ≤ el ((ldL n b i).set (leadN (gr b i)) (i:Int)) j ↔ _
    rw [el_setN (by rw [ldL_len];exact hlt i (by omega))]
    by_cases h:leadN (gr b i) = j
    · rw [if_pos h];exact ⟨fun _=>⟨i,by omega,h⟩,fun _=>by omega⟩
    · rw [if_neg h,ih]
      constructor
      · rintro ⟨t,ht,h2⟩;exact ⟨t,by omega,h2⟩
      · rintro ⟨t,ht,h2⟩
        by_cases hti:t = i
        · rw [hti] at h2;exact absurd h2 h
        · exact ⟨t,by omega,h2⟩
def nvL (p:Int) (n:Nat) (b:Rows) (j:Nat):Nat → List Int
  | 0=>(List.replicate n 0).set j 1
  | i + 1=>(nvL p n b j i).set (leadN (gr b i)) ((p - el (gr b i) j) % p)
theorem nvL_ok {p:Int} {n:Nat} {b:Rows} {j:Nat} (hp:2 ≤ p):∀ i,okR p n (nvL p n b j i)
  | 0=>unitN_ok hp n j
  | i + 1=>by
    have ih:=nvL_ok (n:=n) (b:=b) (j:=j) hp i
    unfold nvL
    refine ⟨by rw [List.length_set];exact ih.1,fun x hx=>?_⟩
    rcases List.mem_or_eq_of_mem_set hx with h | rfl
    · exact ih.2 x h
    · exact ⟨Int.emod_nonneg _ (by omega),Int.emod_lt_of_pos _ (by omega)⟩
theorem nvL_miss {p:Int} {n:Nat} {b:Rows} {j:Nat} (hp:2 ≤ p) (hlt:∀ i,i < b.length → leadN (gr b i) < n) (hj:j < n) {c:Nat}:∀ i,i ≤ b.length → (∀ t,t < i → leadN (gr b t) ≠ c) → el (nvL p n b j i) c = if j = c then 1 else 0
  | 0,_,_=>unit_elN hj
  | i + 1,hi,h=>by
    unfold nvL
    rw [el_setN (by rw [(nvL_ok hp i).1];exact hlt i (by omega)),if_neg (h i (by omega))]
    exact nvL_miss hp hlt hj i (by omega) (fun t ht=>h t (by omega))
theorem nvL_hit {p:Int} {n:Nat} {b:Rows} {j:Nat} (hp:2 ≤ p) (hb:Red p n b) {t:Nat} (ht:t < b.length):∀ i,i ≤ b.length → t < i → el (nvL p n b j i) (leadN (gr b t)) = (p - el (gr b t) j) % p
  | 0,_,h=>by omega
  | i + 1,hi,h=>by
    unfold nvL
    rw [el_setN (by rw [(nvL_ok hp i).1];exact hb.lt i (by omega))]
    by_cases hti:t = i
    · subst hti;rw [if_pos rfl]
    · have:=hb.inc t i (by omega) (by omega)
      rw [if_neg (by omega)]
      exact nvL_hit hp hb ht i (by omega) (by omega)
def nuP (p:Int) (n:Nat) (b:Rows):Nat → Rows
  | 0=>[]
  | j + 1=>if isL b j then nuP p n b j else nuP p n b j ++ [nvL p n b j b.length]
theorem nuP_ok {p:Int} {n:Nat} {b:Rows} (hp:2 ≤ p):∀ j,okM p n (nuP p n b j) ∧ (nuP p n b j).length ≤ j
  | 0=>⟨(fun r hr=>nomatch hr),Nat.le_refl _⟩
  | j + 1=>by
    obtain ⟨h1,h2⟩:=nuP_ok (n:=n) (b:=b) hp j
    unfold nuP
    split
    · exact ⟨h1,by omega⟩
    · refine ⟨okM_app h1 (fun r hr=>?_),by rw [List.length_append];show _ + 1 ≤ _;omega⟩
      rw [List.mem_singleton.1 hr];exact nvL_ok hp _
theorem nuP_mem {p:Int} {n:Nat} {b:Rows} {v:List Int}:∀ k,v ∈ nuP p n b k → ∃ j,j < k ∧ isL b j = false ∧ v = nvL p n b j b.length
  | 0,h=>nomatch h
  | k + 1,h=>by
    unfold nuP at h
    split at h
    · obtain ⟨j,h1,h2⟩:=nuP_mem k h;exact ⟨j,by omega,h2⟩
    · rename_i hn
      rcases List.mem_append.1 h with h | h
      · obtain ⟨j,h1,h2⟩:=nuP_mem k h;exact ⟨j,by omega,h2⟩
      · exact ⟨k,by omega,by cases hk:isL b k with | false=>rfl | true=>exact absurd hk hn,List.mem_singleton.1 h⟩
theorem nuP_sum {p:Int} {n:Nat} {b:Rows} (x:Nat → Int):∀ k,∃ X:Nat → Int,∀ c,sg (nuP p n b k).length (fun i=>X i * el (gr (nuP p n b k) i) c) = sg k (fun j=>if isL b j = true then 0 else x j * el (nvL p n b j b.length) c)
  | 0=>⟨fun _=>0,fun c=>rfl⟩
  | k + 1=>by
    obtain ⟨X,hX⟩:=nuP_sum (p:=p) (n:=n) (b:=b) x k
    unfold nuP
    split
    · rename_i h
      refine ⟨X,fun c=>?_⟩
      show _ = sg k _ + (if isL b k = true then 0 else _)
      rw [if_pos h,hX c];omega
    · rename_i h
      refine ⟨fun i=>if i < (nuP p n b k).length then X i else x k,fun c=>?_⟩
      rw [List.length_append,show [nvL p n b k b.length].length = 1 from rfl,sg_app]
      show _ = sg k _ + (if isL b k = true then 0 else _)
      rw [if_neg h,← hX c]
      congr 1
      · exact sg_congr fun i hi=>by dsimp only;rw [if_pos hi,gr_app1 hi]
      · show 0 + _ = _
        dsimp only
        rw [if_neg (by omega),gr_app2,Int.zero_add]
        rfl
def nulM (p:Int) (n:Nat) (m:Rows):Rows:=redM p n (nuP p n (redM p n m) n)
theorem nulM_red {p:Int} {n:Nat} {m:Rows} (hf:fdB p = true):Red p n (nulM p n m):=redM_red hf (nuP_ok (fdB_rng hf).1 n).1
theorem nulM_iff {p:Int} {n:Nat} {m:Rows} (hf:fdB p = true) (h:okM p n m) (x:List Int):inSpan p n (nulM p n m) x ↔ perp p n m x:=by
  have hp:=fdB_rng hf
  have hb:=redM_red hf h
  have hs:=redM_span hf h
  have hn:=redM_span hf (nuP_ok (n:=n) (b:=redM p n m) hp.1 n).1
  unfold nulM
  generalize redM p n m = b at hb hs hn ⊢
  constructor
  · intro hx
    refine perp_sub ?_ hs.2
    intro i hi
    refine dot_span (m:=nuP p n b n) (fun c=>el (gr b i) c) (fun k hk=>?_) (inSpan_trans hn.1 hx)
    obtain ⟨j,hj,hl,e⟩:=nuP_mem n (gr_mem hk)
    have hnl:∀ t,t < b.length → leadN (gr b t) ≠ j:=fun t ht he=>by
      have:=isL_iff.2 ⟨t,ht,he⟩
      rw [this] at hl;cases hl
    rw [e,sg_split (hb.lt i hi),sg_one (i0:=j) hj (fun c hc hne=>by
      by_cases h1:c = leadN (gr b i)
      · rw [if_pos h1]
      · rw [if_neg h1]
        by_cases h2:isL b c = true
        · obtain ⟨t,ht,h3⟩:=isL_iff.1 h2
          rw [← h3,hb.zero t i ht hi (fun h4=>h1 (by rw [← h3,h4])),Int.zero_mul]
        · rw [nvL_miss hp.1 hb.lt hj b.length (Nat.le_refl _) (fun t ht he=>h2 (isL_iff.2 ⟨t,ht,he⟩)),if_neg (fun h4=>hne h4.symm),Int.mul_zero])]
    rw [if_neg (fun h1=>hnl i hi h1.symm),nvL_miss hp.1 hb.lt hj b.length (Nat.le_refl _) hnl,if_pos rfl,hb.one i hi,nvL_hit hp.1 hb hi b.length (Nat.le_refl _) hi,Int.mul_one,Int.one_mul,Int.add_emod,mod_mod,← Int.add_emod,show el (gr b i) j + (p - el (gr b i) j) = p by omega]
    exact Int.emod_self
  · intro hx
    have hx':perp p n b x:=perp_sub hx hs.1
    refine inSpan_trans hn.2 ?_
    obtain ⟨X,hX⟩:=nuP_sum (p:=p) (n:=n) (b:=b) (fun j=>el x j) n
    refine ⟨X,fun c hc=>?_⟩
    rw [hX c]
    by_cases h2:isL b c = true
    · obtain ⟨t,ht,h3⟩:=isL_iff.1 h2
      have h4:=hx' t ht
      rw [sg_split (hb.lt t ht),hb.one t ht,Int.one_mul] at h4
      rw [← h3]
      have e1:sg n (fun j=>if isL b j = true then 0 else el x j * el (nvL p n b j b.length) (leadN (gr b t))) % p = sg n (fun j=>- (if j = leadN (gr b t) then 0 else el (gr b t) j * el x j)) % p:=by
        refine sg_mod fun j hj=>?_
        by_cases h5:isL b j = true
        · rw [if_pos h5]
          by_cases h6:j = leadN (gr b t)
          · rw [if_pos h6];rfl
          · obtain ⟨t',ht',h7⟩:=isL_iff.1 h5
            rw [if_neg h6,← h7,hb.zero t' t ht' ht (fun h8=>h6 (by rw [← h7,h8])),Int.zero_mul];rfl
        · have h6:j ≠ leadN (gr b t):=fun h7=>h5 (isL_iff.2 ⟨t,ht,h7.symm⟩)
          rw [if_neg h5,if_neg h6,nvL_hit hp.1 hb ht b.length (Nat.le_refl _) ht,mul_mod2]
          refine mod_of_sub ?_
          rw [show el x j * (p - el (gr b t) j) - -(el (gr b t) j * el x j) = el x j * p from by rw [Int.mul_sub,Int.mul_comm (el (gr b t) j)];omega]
          exact Int.mul_emod_left _ _
      rw [e1,sg_neg]
      refine mod_of_sub ?_
      rw [Int.sub_neg,Int.add_comm]
      exact h4
    · rw [sg_one (i0:=c) hc (fun j hj hne=>by
        by_cases h3:isL b j = true
        · rw [if_pos h3]
        · rw [if_neg h3,nvL_miss hp.1 hb.lt hj b.length (Nat.le_refl _) (fun t ht he=>h2 (isL_iff.2 ⟨t,ht,he⟩)),if_neg hne,Int.mul_zero]),if_neg h2,nvL_miss hp.1 hb.lt hc b.length (Nat.le_refl _) (fun t ht he=>h2 (isL_iff.2 ⟨t,ht,he⟩)),if_pos rfl,Int.mul_one]
end Go.Proofs.YtlggnmkelgplnaaGreatDoor
namespace Go.Proofs.YtlggnmkelgplnaaGreatDoor
set_option linter.unusedVariables false
theorem nuP_succ (p:Int) (n:Nat) (b:Rows) (j:Nat):nuP p n b (j + 1) = if isL b j then nuP p n b j else nuP p n b j ++ [nvL p n b j b.length]:=rfl
theorem spNull_ {p:Int} {n:Nat} {m:Rows} (hf:fdB p = true) (hn:n ≤ 1048576) (h:okM p n m) (hL:m.length ≤ 1048576):F_spec_spNull p (n:Int) m = some (nulM p n m):=by
  have hm:maxN = 1099511627776:=rfl
  have hp:=fdB_rng hf
  have hb:=redM_red hf h
  have hbl:=(redM_ok (n:=n) hp.1 h).2.2
  refine bnd (spReduce_ hf (Nat.le_refl n) hn h hL) ?_
  unfold nulM
  generalize redM p n m = b at hb hbl ⊢
  refine bnd (makeO_of 0 (by omega)) ?_
  have hlen:(List.replicate n (0:Int)).length = n:=List.length_replicate
  refine bnd (a:=ldL n b 0) ((forS_is (fun j=>part (fun _ _=>-1) (List.replicate n 0) j) ?_).trans (by rw [partN];rfl)) ?_
  · intro j hj
    refine bnd (setO_of _ (by rw [part_len];exact hj)) ?_
    exact congrArg some (part_set (fun _ _=>-1) (List.replicate n 0) hj)
  refine bnd (forS_is (fun i=>ldL n b i) ?_) ?_
  · intro i hi
    have hw:=(okM_gr hb.ok hi).1
    exact bnd (idx_gr hi) (bnd (spLead_ (by omega)) (bnd (setO_of _ (by rw [ldL_len];exact hb.lt i hi)) rfl))
  refine bnd (whileO_is (fun j=>(nuP p n b j,(j:Int))) (t:=nuP p n b n) n ?_ ?_) ?_
  · intro j hj
    dsimp only
    refine stp (cTW (dT (by omega)) (bnd (a:=nuP p n b (j + 1)) ?_ (bnd (addO_of (by omega) (by omega)) rfl)))
    refine bnd (idx_el (by rw [ldL_len];exact hj)) (stp ?_)
    have h1:=ldL_el hb.lt hj b.length (Nat.le_refl _)
    rw [← isL_iff] at h1
    rw [nuP_succ]
    by_cases h2:isL b j = true
    · rw [if_pos h2];exact cTW (dT (h1.2 h2)) rfl
    · rw [if_neg h2]
      refine cFW (dF (fun h3=>h2 (h1.1 h3))) (bnd (makeO_of 0 (by omega)) (bnd (setO_of _ (by rw [hlen];exact hj)) (bnd (forS_is (fun i=>nvL p n b j i) ?_) (bnd (appO_of (by have:=(nuP_ok (n:=n) (b:=b) hp.1 j).2;show _ + 1 ≤ _;omega)) rfl))))
      intro i hi
      have hw:=(okM_gr hb.ok hi).1
      exact bnd (idx_gr hi) (bnd (idx_gr hi) (bnd (idx_el (by omega)) (bnd (spLead_ (by omega)) (bnd (fdNeg_ hp (okM_el hb.ok hi hj)) (bnd (setO_of _ (by rw [(nvL_ok hp.1 i).1];exact hb.lt i hi)) rfl)))))
  · dsimp only
    exact stp (cFW (dF (by omega)) rfl)
  exact bnd (spReduce_ hf (Nat.le_refl n) hn (nuP_ok hp.1 n).1 (by have:=(nuP_ok (n:=n) (b:=b) hp.1 n).2;omega)) rfl
def colM (m:Rows) (j:Nat):List Int:=m.map fun r=>el r j
def trM (m:Rows) (cols:Nat):Rows:=(List.replicate cols ([]:List Int)).mapIdx fun j _=>colM m j
theorem trM_len (m:Rows) (cols:Nat):(trM m cols).length = cols:=by simp [trM]
theorem trM_gr {m:Rows} {cols j:Nat} (hj:j < cols):gr (trM m cols) j = colM m j:=by
  unfold trM gr
  rw [List.getD_eq_getElem?_getD,List.getElem?_mapIdx,List.getElem?_replicate,if_pos hj]
  rfl
theorem colM_el {m:Rows} {i j:Nat} (hi:i < m.length):el (colM m j) i = el (gr m i) j:=by
  have h1:=el_get (r:=colM m j) (c:=i) (by simp [colM];exact hi)
  unfold colM at h1
  rw [List.getElem?_map,gr_get hi] at h1
  exact (Option.some.inj h1).symm
theorem trM_ok {p:Int} {w cols:Nat} {m:Rows} (h:okM p w m) (hc:cols ≤ w):okM p m.length (trM m cols):=by
  intro r hr
  obtain ⟨j,hj,rfl⟩:=List.mem_iff_getElem.1 hr
  rw [trM_len] at hj
  have e:(trM m cols)[j] = colM m j:=by
    rw [← trM_gr hj]
    have:=gr_get (m:=trM m cols) (i:=j) (by rw [trM_len];exact hj)
    rw [List.getElem?_eq_getElem (by rw [trM_len];exact hj)] at this;exact Option.some.inj this
  rw [e]
  refine ⟨by simp [colM],fun x hx=>?_⟩
  obtain ⟨r,hr,rfl⟩:=List.mem_map.1 hx
  have h1:=h r hr
  exact h1.2 _ (el_mem (by omega))
def cols (p:Int) (o:Nat) (A C:Rows):Nat → Rows
  | 0=>C
  | k + 1=>mulM p o A (cols p o A C k)
section
variable {p:Int} {n o:Nat} {A C:Rows}
end
section
variable {p:Int} {n:Nat} {A B:Rows}
end
section
variable {p:Int} {n o:Nat} {A C:Rows}
end
theorem red_len {p:Int} {n:Nat} {b:Rows} (hf:fdB p = true) (h:Red p n b):b.length ≤ n:=by
  have:=(redM_ok (n:=n) (fdB_rng hf).1 h.ok).2.2
  rw [redM_self hf h] at this;exact this
end Go.Proofs.YtlggnmkelgplnaaGreatDoor
namespace Go.Proofs.YtlggnmkelgplnaaGreatDoor
def fstL (l:Nat) (B:Rows):Rows:=B.map fun r=>r.take l
def sndL (l:Nat) (B:Rows):Rows:=B.map fun r=>r.drop l
theorem first_ {l:Nat} {R:Rel} {row:List Int} (h1:R.1 = (l:Int)) (hl:l ≤ row.length):F_impl_Relation_first R row = some (row.take l):=by
  refine bnd (a:=row.take l) ?_ rfl
  unfold sliceO
  rw [if_pos ⟨by omega,by omega,by omega⟩,h1];simp
theorem second_ {l:Nat} {R:Rel} {row:List Int} (h1:R.1 = (l:Int)) (hl:l ≤ row.length):F_impl_Relation_second R row = some (row.drop l):=by
  refine bnd (a:=row.drop l) ?_ rfl
  unfold sliceO
  rw [if_pos ⟨by omega,by omega,by omega⟩,h1]
  simp only [Int.toNat_natCast]
  rw [List.take_of_length_le (by simp)]
theorem each_first_ {l w:Nat} {R:Rel} (h1:R.1 = (l:Int)) (hw:∀ r ∈ R.2.2,r.length = w) (hl:l ≤ w) (hL:R.2.2.length ≤ 1000):F_impl_Relation_each_impl_Relation_first R R = some (fstL l R.2.2):=by
  have hm:maxN = 1099511627776:=rfl
  refine bnd (forS_map (fun r=>r.take l) R.2.2 [] (by simp;omega) (fun j r s hj hs=>?_)) rfl
  have hr:=hw r (mem_of_get hj)
  have hjl:=(List.getElem?_eq_some_iff.1 hj).1
  exact bnd (idxO_of hj) (bnd (first_ (R:=R) h1 (by omega)) (bnd (appO_of (by simp at hs ⊢;omega)) rfl))
theorem each_second_ {l w:Nat} {R:Rel} (h1:R.1 = (l:Int)) (hw:∀ r ∈ R.2.2,r.length = w) (hl:l ≤ w) (hL:R.2.2.length ≤ 1000):F_impl_Relation_each_impl_Relation_second R R = some (sndL l R.2.2):=by
  have hm:maxN = 1099511627776:=rfl
  refine bnd (forS_map (fun r=>r.drop l) R.2.2 [] (by simp;omega) (fun j r s hj hs=>?_)) rfl
  have hr:=hw r (mem_of_get hj)
  have hjl:=(List.getElem?_eq_some_iff.1 hj).1
  exact bnd (idxO_of hj) (bnd (second_ (R:=R) h1 (by omega)) (bnd (appO_of (by simp at hs ⊢;omega)) rfl))
theorem fstL_ok {p:Int} {l w:Nat} {B:Rows} (h:okM p w B) (hl:l ≤ w):okM p l (fstL l B):=by
  intro r hr
  obtain ⟨x,hx,rfl⟩:=List.mem_map.1 hr
  have:=h x hx
  exact ⟨by simp;omega,fun y hy=>this.2 y (List.mem_of_mem_take hy)⟩
theorem sndL_ok {p:Int} {l w:Nat} {B:Rows} (h:okM p w B):okM p (w - l) (sndL l B):=by
  intro r hr
  obtain ⟨x,hx,rfl⟩:=List.mem_map.1 hr
  have:=h x hx
  exact ⟨by simp;omega,fun y hy=>this.2 y (List.mem_of_mem_drop hy)⟩
def negR (p:Int) (r:List Int):List Int:=r.map fun x=>(p - x) % p
theorem negR_ok {p:Int} {n:Nat} {r:List Int} (hp:2 ≤ p) (h:r.length = n):okR p n (negR p r):=by
  refine ⟨by simp [negR,h],fun y hy=>?_⟩
  obtain ⟨x,_,rfl⟩:=List.mem_map.1 hy
  exact emod_in hp
theorem neg_eq (p x:Int):(0 + -1 * x) % p = (p - x) % p:=by
  rw [show (0 + -1 * x:Int) = (p - x) - p by omega,Int.sub_emod,Int.emod_self]
  simp
theorem negRow_ {p:Int} {n:Nat} {r:List Int} (hp:2 ≤ p ∧ p ≤ 97) (hr:okR p n r):F_impl_addTimes p (List.replicate n 0) (-1) r = some (negR p r):=by
  have:=set_loop (fun x=>x = 0) (fun x=>0 ≤ x ∧ x < p) (fun y x=>(x + -1 * y) % p) r (f:=fun (k3:Nat) (s72:List Int)=>
      (idxO r ((k3:Nat):Int)).bind fun a87=>
      (idxO s72 ((k3:Nat):Int)).bind fun a95=>
      (mulO (-1) a87).bind fun a97=>
      (addO a95 a97).bind fun a99=>
      (F_impl_mod p a99).bind fun y101=>
      (setO s72 ((k3:Nat):Int) y101).bind fun a110=>
      some a110) (by
    intro j y x s hy hx hxp hyp hj
    have hx0:x = 0:=hxp
    subst hx0
    exact bnd (idxO_of hy) (bnd (idxO_of hx) (bnd (mulO_of (by omega) (by omega)) (bnd (addO_of (by omega) (by omega)) (bnd (modG hp (by omega)) (bnd (setO_of _ hj) rfl)))))) r [] [] (List.replicate n 0) rfl rfl (by rw [hr.1];simp) hr.2 (fun x hx=>List.eq_of_mem_replicate hx)
  refine (bnd this rfl:F_impl_addTimes p (List.replicate n 0) (-1) r = _).trans ?_
  congr 1
  have hz:∀ (r:List Int),List.zipWith (fun y x=>(x + -1 * y) % p) r (List.replicate r.length 0) = negR p r:=by
    intro r
    induction r with
    | nil=>rfl
    | cons a r ih=>
      show (0 + -1 * a) % p :: _ = _
      rw [neg_eq]
      exact congrArg (List.cons _) ih
  rw [← hr.1]
  simpa using hz r
def cmpM (p:Int) (l m:Nat) (A B:Rows):Rows:=sndL l A ++ (fstL m B).map (negR p)
theorem cmpM_ok {p:Int} {l m r:Nat} {A B:Rows} (hp:2 ≤ p) (hA:okM p (l + m) A) (hB:okM p (m + r) B):okM p m (cmpM p l m A B):=by
  intro x hx
  rcases List.mem_append.1 hx with hx | hx
  · have:=sndL_ok hA (l:=l) x hx
    rwa [Nat.add_sub_cancel_left] at this
  · obtain ⟨y,hy,rfl⟩:=List.mem_map.1 hx
    exact negR_ok hp (fstL_ok hB (l:=m) (by omega) y hy).1
theorem cmpM_len (p:Int) (l m:Nat) (A B:Rows):(cmpM p l m A B).length = A.length + B.length:=by simp [cmpM,sndL,fstL]
theorem comb_take {p:Int} {l:Nat}:∀ (B:Rows) (c:List Int) (acc:List Int),(fold2 (fun acc row c=>addR p c acc row) B c acc).take l = fold2 (fun acc row c=>addR p c acc row) (fstL l B) c (acc.take l)
  | [],c,acc=>by simp [fold2,fstL]
  | r :: B,[],acc=>by simp [fold2,fstL]
  | r :: B,x :: c,acc=>by
    show (fold2 _ B c (addR p x acc r)).take l = fold2 _ (fstL l B) c (addR p x (acc.take l) (r.take l))
    rw [comb_take B c]
    congr 1
    unfold addR
    rw [List.take_zipWith]
theorem comb_drop {p:Int} {l:Nat}:∀ (B:Rows) (c:List Int) (acc:List Int),(fold2 (fun acc row c=>addR p c acc row) B c acc).drop l = fold2 (fun acc row c=>addR p c acc row) (sndL l B) c (acc.drop l)
  | [],c,acc=>by simp [fold2,sndL]
  | r :: B,[],acc=>by simp [fold2,sndL]
  | r :: B,x :: c,acc=>by
    show (fold2 _ B c (addR p x acc r)).drop l = fold2 _ (sndL l B) c (addR p x (acc.drop l) (r.drop l))
    rw [comb_drop B c]
    congr 1
    unfold addR
    rw [List.drop_zipWith]
theorem combR_take {p:Int} {l w:Nat} (B:Rows) (c:List Int) (h:l ≤ w):(combR p w B c).take l = combR p l (fstL l B) c:=by
  unfold combR
  rw [comb_take,List.take_replicate,Nat.min_eq_left h]
theorem combR_drop {p:Int} {l w:Nat} (B:Rows) (c:List Int):(combR p w B c).drop l = combR p (w - l) (sndL l B) c:=by
  unfold combR
  rw [comb_drop,List.drop_replicate]
theorem nul_ker {p:Int} {m:Nat} {M:Rows} (hf:fdB p = true) (h:okM p m M):nulM p M.length (trM M m) = kerM p m M:=by
  have hT:okM p M.length (trM M m):=trM_ok h (Nat.le_refl _)
  have key:∀ x,perp p M.length (trM M m) x ↔ lperp p m M x:=by
    intro x
    unfold perp lperp
    rw [trM_len]
    refine forall_congr' fun i=>forall_congr' fun hi=>?_
    rw [trM_gr hi,sg_congr (g:=fun t=>el x t * el (gr M t) i) (fun t ht=>by rw [colM_el ht,Int.mul_comm])]
  refine red_unique (fdB_rng hf).1 (nulM_red hf) (kerM_red hf h) (fun i hi=>?_) (fun i hi=>?_)
  · exact (kerM_iff hf h _).2 ((key _).1 ((nulM_iff hf hT _).1 (inSpan_row hi)))
  · exact (nulM_iff hf hT _).2 ((key _).2 ((kerM_iff hf h _).1 (inSpan_row hi)))
def cmpP (p:Int) (l m r:Nat) (A B:Rows):Rows:=(kerM p m (cmpM p l m A B)).map fun k=>combR p l (fstL l A) (k.take A.length) ++ combR p r (sndL m B) (k.drop A.length)
def cmpR (p:Int) (l m r:Nat) (A B:Rows):Rows:=redM p (l + r) (cmpP p l m r A B)
theorem cmpP_ok {p:Int} {l m r:Nat} {A B:Rows} (hf:fdB p = true) (hA:okM p (l + m) A) (hB:okM p (m + r) B):okM p (l + r) (cmpP p l m r A B):=by
  have hp:=(fdB_rng hf).1
  intro x hx
  obtain ⟨k,hk,rfl⟩:=List.mem_map.1 hx
  have h1:=combR_ok (p:=p) (n:=l) hp (rows:=fstL l A) (cs:=k.take A.length) (fstL_ok hA (by omega))
  have h2:okR p r (combR p r (sndL m B) (k.drop A.length)):=combR_ok hp (by have:=sndL_ok hB (l:=m);rwa [Nat.add_sub_cancel_left] at this)
  exact okR_app h1 h2
theorem kerM_row {p:Int} {m:Nat} {M:Rows} (hf:fdB p = true) (h:okM p m M):∀ k ∈ kerM p m M,k.length = M.length ∧ inP p k:=fun k hk=>(kerM_red hf h).ok k hk
theorem kerM_le {p:Int} {m:Nat} {M:Rows} (hf:fdB p = true) (h:okM p m M):(kerM p m M).length ≤ M.length:=red_len hf (kerM_red hf h)
theorem negList_ {p:Int} {m:Nat} (hp:2 ≤ p ∧ p ≤ 97) (hm:m ≤ 1000) (Y acc:Rows) (hY:okM p m Y) (hl:acc.length + Y.length ≤ 10000):forS (fun (k22:Nat) (s80:List (List Int))=>
      (idxO Y ((k22:Nat):Int)).bind fun a96=>
      (F_impl_zeros ((a96.length:Nat):Int)).bind fun y100=>
      (F_impl_addTimes p y100 (-1) a96).bind fun y105=>
      (appO s80 [y105]).bind fun a111=>
      some a111) Y.length 0 acc = some (acc ++ Y.map (negR p)):=by
  have hmx:maxN = 1099511627776:=rfl
  refine forS_map (negR p) Y acc (by omega) (fun j y s hj hs=>?_)
  have hy:=hY y (mem_of_get hj)
  have hjl:=(List.getElem?_eq_some_iff.1 hj).1
  refine bnd (idxO_of hj) (bnd (zeros_ (by omega)) ?_)
  rw [hy.1]
  exact bnd (negRow_ hp hy) (bnd (appO_of (by simp;omega)) rfl)
theorem composed_ {p:Int} {l m r:Nat} {A B:Rows} (hf:fdB p = true) (hl:l ≤ 100) (hm:m ≤ 100) (hr:r ≤ 100) (hA:okM p (l + m) A) (hB:okM p (m + r) B) (lA:A.length ≤ 1000) (lB:B.length ≤ 1000) :
    F_impl_composed p ((l:Int),(m:Int),A) ((m:Int),(r:Int),B) = some ((l:Int),(r:Int),cmpR p l m r A B):=by
  have hmx:maxN = 1099511627776:=rfl
  have hp:=fdB_rng hf
  have wA:∀ x ∈ A,x.length = l + m:=fun x hx=>(hA x hx).1
  have wB:∀ x ∈ B,x.length = m + r:=fun x hx=>(hB x hx).1
  have e1:=each_second_ (R:=((l:Int),(m:Int),A)) rfl wA (by omega) lA
  have e2:=each_first_ (R:=((m:Int),(r:Int),B)) rfl wB (by omega) lB
  have e3:=each_first_ (R:=((l:Int),(m:Int),A)) rfl wA (by omega) lA
  have e4:=each_second_ (R:=((m:Int),(r:Int),B)) rfl wB (by omega) lB
  have hM:=cmpM_ok (p:=p) (l:=l) (m:=m) (r:=r) hp.1 hA hB
  have lM:=cmpM_len p l m A B
  have lf:(fstL l A).length = A.length:=by simp [fstL]
  have n1:=negList_ hp (by omega) (fstL m B) (sndL l A) (fstL_ok hB (by omega)) (by simp [fstL,sndL];omega)
  have hK:=kernel_ hf (by omega:m ≤ 1048576) hM (by omega)
  have lK:=kerM_le hf hM
  have rK:=kerM_row hf hM
  have fA:rowsP p l (fstL l A):=fstL_ok hA (by omega)
  have sB:rowsP p r (sndL m B):=by have:=sndL_ok hB (l:=m);rwa [Nat.add_sub_cancel_left] at this
  have ls:(sndL m B).length = B.length:=by simp [sndL]
  have hloop:=forS_map (f:=fun (k249:Nat) (s401:List (List Int))=>
      (idxO (kerM p m (cmpM p l m A B)) ((k249:Nat):Int)).bind fun a417=>
      (sliceO a417 0 (((fstL l A).length:Nat):Int)).bind fun a422=>
      (F_impl_combine p a422 (fstL l A) (l:Int)).bind fun y426=>
      (sliceO a417 (((fstL l A).length:Nat):Int) ((a417.length:Nat):Int)).bind fun a432=>
      (F_impl_combine p a432 (sndL m B) (r:Int)).bind fun y436=>
      (F_impl_joined [y426,y436]).bind fun y446=>
      (appO s401 [y446]).bind fun a454=>
      some a454) (fun k=>combR p l (fstL l A) (k.take A.length) ++ combR p r (sndL m B) (k.drop A.length)) (kerM p m (cmpM p l m A B)) [] (by simp;omega) (fun j k s hj hs=>by
    have hk:=rK k (mem_of_get hj)
    have hjl:=(List.getElem?_eq_some_iff.1 hj).1
    have s1:sliceO k 0 (((fstL l A).length:Nat):Int) = some (k.take A.length):=by
      unfold sliceO;rw [if_pos ⟨by omega,by omega,by omega⟩,lf];simp
    have s2:sliceO k (((fstL l A).length:Nat):Int) ((k.length:Nat):Int) = some (k.drop A.length):=by
      unfold sliceO;rw [if_pos ⟨by omega,by omega,by omega⟩,lf]
      simp only [Int.toNat_natCast]
      rw [List.take_of_length_le (by simp)]
    have c1:=combine_ hp (by omega:l ≤ maxN) fA (cs:=k.take A.length) (fun x hx=>hk.2 x (List.mem_of_mem_take hx)) (by rw [lf];simp;omega)
    have c2:=combine_ hp (by omega:r ≤ maxN) sB (cs:=k.drop A.length) (fun x hx=>hk.2 x (List.mem_of_mem_drop hx)) (by rw [ls];simp;omega)
    have hj2:=joined_ (l:=[combR p l (fstL l A) (k.take A.length),combR p r (sndL m B) (k.drop A.length)]) (by simp [c1.2.1,c2.2.1];omega)
    refine bnd (idxO_of hj) (bnd s1 (bnd c1.1 (bnd s2 (bnd c2.1 (bnd hj2 (bnd (appO_of (by simp at hs ⊢;omega)) ?_))))))
    simp)
  have hred:=reduced_ hf (Nat.le_refl (l + r)) (by omega) (cmpP_ok hf hA hB) (m:=cmpP p l m r A B) (by simp [cmpP];omega)
  refine bnd e1 (bnd e2 (bnd n1 (bnd (bnd e3 (bnd e4 rfl)) (bnd hK (bnd hloop ?_)))))
  refine bnd (bnd (addO_of (by dsimp only;omega) (by dsimp only;omega)) (bnd ?_ rfl)) rfl
  dsimp only
  rw [show ((l:Int) + (r:Int)) = ((l + r:Nat):Int) by omega]
  exact hred
theorem colM_cmp {p:Int} {l m r:Nat} {A B:Rows} (hA:okM p (l + m) A) (hB:okM p (m + r) B) {j:Nat} (hj:j < m):colM (cmpM p l m A B) j = A.map (fun x=>el x (l + j)) ++ B.map (fun x=>(p - el x j) % p):=by
  unfold colM cmpM sndL fstL
  rw [List.map_append,List.map_map,List.map_map,List.map_map]
  congr 1
  · refine List.map_congr_left fun x hx=>?_
    show el (x.drop l) j = el x (l + j)
    unfold el
    rw [List.getD_eq_getElem?_getD,List.getD_eq_getElem?_getD,List.getElem?_drop]
  · refine List.map_congr_left fun x hx=>?_
    have hx:=(hB x hx).1
    show el (negR p (x.take m)) j = (p - el x j) % p
    unfold negR el
    rw [List.getD_eq_getElem?_getD,List.getD_eq_getElem?_getD,List.getElem?_map,List.getElem?_take,if_pos hj,List.getElem?_eq_getElem (by omega)]
    rfl
theorem rlCompose_ {p:Int} {l m r:Nat} {A B:Rows} (hf:fdB p = true) (hl:l ≤ 100) (hm:m ≤ 100) (hr:r ≤ 100) (hA:okM p (l + m) A) (hB:okM p (m + r) B) (lA:A.length ≤ 1000) (lB:B.length ≤ 1000) :
    F_spec_rlCompose p ((l:Int),(m:Int),A) ((m:Int),(r:Int),B) = some ((l:Int),(r:Int),cmpR p l m r A B):=by
  have hmx:maxN = 1099511627776:=rfl
  have hp:=fdB_rng hf
  have hM:=cmpM_ok (p:=p) (l:=l) (m:=m) (r:=r) hp.1 hA hB
  have lM:=cmpM_len p l m A B
  have hlen:(List.replicate m ([]:List Int)).length = m:=List.length_replicate
  have hrows:forS (fun (k17:Nat) (s676:List (List Int))=>
      (forS (fun (k685:Nat) (s786:List (List Int))=>
          (idxO A ((k685:Nat):Int)).bind fun a801=>
          (idxO s786 ((k17:Nat):Int)).bind fun a812=>
          (addO (l:Int) ((k17:Nat):Int)).bind fun a815=>
          (idxO a801 a815).bind fun a823=>
          (appO a812 [a823]).bind fun a829=>
          (setO s786 ((k17:Nat):Int) a829).bind fun a841=>
          some a841) A.length 0 s676).bind fun (s845:List (List Int))=>
      (forS (fun (k847:Nat) (s950:List (List Int))=>
          (idxO B ((k847:Nat):Int)).bind fun a965=>
          (idxO s950 ((k17:Nat):Int)).bind fun a976=>
          (idxO a965 ((k17:Nat):Int)).bind fun a985=>
          (F_spec_fdNeg p a985).bind fun y987=>
          (appO a976 [y987]).bind fun a994=>
          (setO s950 ((k17:Nat):Int) a994).bind fun a1006=>
          some a1006) B.length 0 s845).bind fun (s1010:List (List Int))=>
      some s1010) (List.replicate m ([]:List Int)).length 0 (List.replicate m ([]:List Int)) = some (trM (cmpM p l m A B) m):=by
    refine (forS_is (fun j=>partG (fun j _=>colM (cmpM p l m A B) j) (List.replicate m ([]:List Int)) j) ?_).trans (by rw [partGN];rfl)
    intro j hj
    have hj':j < m:=by rw [hlen] at hj;exact hj
    have hpl:j < (partG (fun j _=>colM (cmpM p l m A B) j) (List.replicate m ([]:List Int)) j).length:=by rw [partG_len];exact hj
    have hg:gr (partG (fun j _=>colM (cmpM p l m A B) j) (List.replicate m ([]:List Int)) j) j = []:=by
      rw [gr_part hj,if_neg (by omega)]
      unfold gr;rw [List.getD_eq_getElem?_getD,List.getElem?_replicate,if_pos hj'];rfl
    have e1:partG (fun j _=>colM (cmpM p l m A B) j) (List.replicate m ([]:List Int)) j = (partG (fun j _=>colM (cmpM p l m A B) j) (List.replicate m ([]:List Int)) j).set j ((A.take 0).map fun x=>el x (l + j)):=by
      conv=>lhs;rw [← set_gr hpl,hg]
      rfl
    have e2:=part_setG (g:=fun j _=>colM (cmpM p l m A B) j) (m:=List.replicate m ([]:List Int)) hj
    have e3:=colM_cmp (p:=p) (l:=l) (r:=r) hA hB hj'
    rw [e3] at e2
    rw [← e2]
    generalize partG (fun j _=>colM (cmpM p l m A B) j) (List.replicate m ([]:List Int)) j = Z at hpl hg e1 ⊢
    rw [e1]
    refine bnd (a:=Z.set j (A.map fun x=>el x (l + j))) ?_ (bnd (a:=Z.set j (A.map (fun x=>el x (l + j)) ++ B.map fun x=>(p - el x j) % p)) ?_ ?_)
    · refine (forS_is (fun k=>Z.set j ((A.take k).map fun x=>el x (l + j))) ?_).trans (by rw [List.take_length])
      intro k hk
      have hset:j < (Z.set j ((A.take k).map fun x=>el x (l + j))).length:=by rw [List.length_set];exact hpl
      have hw:=(hA _ (gr_mem hk)).1
      refine bnd (idx_gr hk) (bnd (idx_gr hset) (bnd (a:=((l + j:Nat):Int)) (by rw [addO_of (by omega) (by omega)];congr 1) (bnd (idx_el (by omega)) ?_)))
      rw [gr_set hpl,if_pos rfl]
      refine bnd (appO_of (by simp;omega)) (bnd (setO_of _ hset) ?_)
      rw [List.set_set,List.take_add_one,gr_get hk,List.map_append]
      rfl
    · have e4:Z.set j (A.map fun x=>el x (l + j)) = Z.set j (A.map (fun x=>el x (l + j)) ++ (B.take 0).map fun x=>(p - el x j) % p):=by simp
      rw [e4]
      refine (forS_is (fun k=>Z.set j (A.map (fun x=>el x (l + j)) ++ (B.take k).map fun x=>(p - el x j) % p)) ?_).trans (by rw [List.take_length])
      intro k hk
      have hset:j < (Z.set j (A.map (fun x=>el x (l + j)) ++ (B.take k).map fun x=>(p - el x j) % p)).length:=by rw [List.length_set];exact hpl
      have hw:=hB _ (gr_mem hk)
      have hel:=okM_el hB hk (c:=j) (by omega)
      refine bnd (idx_gr hk) (bnd (idx_gr hset) (bnd (idx_el (by omega)) (bnd (fdNeg_ hp hel) ?_)))
      rw [gr_set hpl,if_pos rfl]
      refine bnd (appO_of (by simp;omega)) (bnd (setO_of _ hset) ?_)
      rw [List.set_set,List.take_add_one,gr_get hk,List.map_append,← List.append_assoc]
      rfl
    · rw [List.set_set]
  have hT:okM p (cmpM p l m A B).length (trM (cmpM p l m A B) m):=trM_ok hM (Nat.le_refl _)
  have hN:=spNull_ (n:=(cmpM p l m A B).length) hf (by omega) hT (by rw [trM_len];omega)
  rw [nul_ker hf hM,lM] at hN
  have lK:=kerM_le hf hM
  have rK:=kerM_row hf hM
  have sB:okM p (m + r - m) (sndL m B):=sndL_ok hB
  have hloop:=forS_map (f:=fun (k1023:Nat) (s1216:List (List Int))=>
      (idxO (kerM p m (cmpM p l m A B)) ((k1023:Nat):Int)).bind fun a1233=>
      (addO (l:Int) (m:Int)).bind fun a1238=>
      (sliceO a1233 0 ((A.length:Nat):Int)).bind fun a1240=>
      (F_spec_spSum p a1238 A a1240).bind fun y1244=>
      (addO (m:Int) (r:Int)).bind fun a1250=>
      (sliceO a1233 ((A.length:Nat):Int) ((a1233.length:Nat):Int)).bind fun a1252=>
      (F_spec_spSum p a1250 B a1252).bind fun y1256=>
      (sliceO y1256 (m:Int) ((y1256.length:Nat):Int)).bind fun a1262=>
      (sliceO y1244 0 (l:Int)).bind fun a1266=>
      (F_spec_l1Own a1266).bind fun y1270=>
      (appO y1270 a1262).bind fun a1275=>
      (appO s1216 [a1275]).bind fun a1283=>
      some a1283) (fun k=>combR p l (fstL l A) (k.take A.length) ++ combR p r (sndL m B) (k.drop A.length)) (kerM p m (cmpM p l m A B)) [] (by simp;omega) (fun j k s hj hs=>by
    have hk:=rK k (mem_of_get hj)
    have hjl:=(List.getElem?_eq_some_iff.1 hj).1
    have s1:sliceO k 0 ((A.length:Nat):Int) = some (k.take A.length):=by
      unfold sliceO;rw [if_pos ⟨by omega,by omega,by omega⟩];simp
    have s2:sliceO k ((A.length:Nat):Int) ((k.length:Nat):Int) = some (k.drop A.length):=by
      unfold sliceO;rw [if_pos ⟨by omega,by omega,by omega⟩]
      simp only [Int.toNat_natCast]
      rw [List.take_of_length_le (by simp)]
    have c1:=spSum_ hp (by omega:l + m ≤ maxN) hA (cs:=k.take A.length) (fun x hx=>hk.2 x (List.mem_of_mem_take hx)) (by simp;omega)
    have c2:=spSum_ hp (by omega:m + r ≤ maxN) hB (cs:=k.drop A.length) (fun x hx=>hk.2 x (List.mem_of_mem_drop hx)) (by simp;omega)
    have o1:=combR_ok (p:=p) (n:=l + m) hp.1 (rows:=A) (cs:=k.take A.length) hA
    have o2:=combR_ok (p:=p) (n:=m + r) hp.1 (rows:=B) (cs:=k.drop A.length) hB
    have t1:=combR_take (p:=p) A (k.take A.length) (show l ≤ l + m by omega)
    have t2:=combR_drop (p:=p) (l:=m) (w:=m + r) B (k.drop A.length)
    rw [Nat.add_sub_cancel_left] at t2
    have s3:sliceO (combR p (m + r) B (k.drop A.length)) (m:Int) (((combR p (m + r) B (k.drop A.length)).length:Nat):Int) = some (combR p r (sndL m B) (k.drop A.length)):=by
      unfold sliceO;rw [if_pos ⟨by omega,by rw [o2.1];omega,by omega⟩]
      simp only [Int.toNat_natCast]
      rw [List.take_of_length_le (by simp),t2]
    have s4:sliceO (combR p (l + m) A (k.take A.length)) 0 (l:Int) = some (combR p l (fstL l A) (k.take A.length)):=by
      unfold sliceO;rw [if_pos ⟨by omega,by omega,by rw [o1.1];omega⟩]
      simp [t1]
    have lx:(combR p l (fstL l A) (k.take A.length)).length = l:=by rw [← t1];simp [o1.1]
    have lz:(combR p r (sndL m B) (k.drop A.length)).length = r:=by rw [← t2];simp [o2.1]
    have a1:addO (l:Int) (m:Int) = some ((l + m:Nat):Int):=by rw [addO_of (by omega) (by omega)];congr 1
    have a2:addO (m:Int) (r:Int) = some ((m + r:Nat):Int):=by rw [addO_of (by omega) (by omega)];congr 1
    refine bnd (idxO_of hj) (bnd a1 (bnd s1 (bnd c1 (bnd a2 (bnd s2 (bnd c2 (bnd s3 (bnd s4 (bnd (own_ (by omega)) (bnd (appO_of (by omega)) (bnd (appO_of (by simp at hs ⊢;omega)) rfl))))))))))))
  have hred:=spReduce_ hf (Nat.le_refl (l + r)) (by omega) (cmpP_ok hf hA hB) (m:=cmpP p l m r A B) (by simp [cmpP];omega)
  refine bnd (makeO_of [] (by omega)) (bnd hrows (bnd (a:=((A.length + B.length:Nat):Int)) (by rw [addO_of (by dsimp only;omega) (by dsimp only;omega)];congr 1) (bnd hN (bnd hloop ?_))))
  refine bnd (bnd (addO_of (by dsimp only;omega) (by dsimp only;omega)) (bnd ?_ rfl)) rfl
  dsimp only
  rw [show ((l:Int) + (r:Int)) = ((l + r:Nat):Int) by omega]
  exact hred
end Go.Proofs.YtlggnmkelgplnaaGreatDoor
namespace Go.Proofs.YtlggnmkelgplnaaGreatDoor
abbrev Edg:=Int × Int × List Int × List Int
abbrev Gra:=Int × List Edg × List Int × List Int
def tabl {α:Type} (n:Nat) (f:Nat → α):List α:=(List.range n).map f
theorem tabl_len {α:Type} (n:Nat) (f:Nat → α):(tabl n f).length = n:=by simp [tabl]
theorem tabl_get {α:Type} {n k:Nat} (f:Nat → α) (h:k < n):(tabl n f)[k]? = some (f k):=by
  unfold tabl;rw [List.getElem?_map,List.getElem?_range h];rfl
theorem tabl_idx {α:Type} {n k:Nat} (f:Nat → α) (h:k < n):idxO (tabl n f) (k:Int) = some (f k):=idxO_of (tabl_get f h)
theorem tabl_ext {α:Type} {n:Nat} {f g:Nat → α} (h:∀ k,k < n → f k = g k):tabl n f = tabl n g:=by
  unfold tabl;exact List.map_congr_left fun k hk=>h k (List.mem_range.1 hk)
theorem tabl_set {α:Type} {n m:Nat} (f:Nat → α) (v:α):(tabl n f).set m v = tabl n (fun k=>if k = m then v else f k):=by
  apply List.ext_getElem?
  intro j
  rw [List.getElem?_set]
  by_cases hj:j < n
  · rw [tabl_get _ hj,tabl_get _ hj]
    by_cases hm:m = j
    · rw [if_pos hm,if_pos hm.symm,if_pos (by rw [tabl_len];omega)]
    · rw [if_neg hm,if_neg (fun h=>hm h.symm)]
  · rw [List.getElem?_eq_none (by rw [tabl_len];omega),List.getElem?_eq_none (by rw [tabl_len];omega)]
    split <;> simp [tabl_len] <;> omega
theorem tabl_setO {α:Type} {n m:Nat} (f:Nat → α) (v:α) (h:m < n):setO (tabl n f) (m:Int) v = some (tabl n (fun k=>if k = m then v else f k)):=by
  rw [setO_of _ (by rw [tabl_len];exact h),tabl_set]
theorem tabl_rep {α:Type} (n:Nat) (z:α):List.replicate n z = tabl n (fun _=>z):=by
  apply List.ext_getElem?
  intro j
  by_cases hj:j < n
  · rw [tabl_get _ hj,List.getElem?_replicate,if_pos hj]
  · rw [List.getElem?_replicate,if_neg hj,List.getElem?_eq_none (by rw [tabl_len];omega)]
theorem tabl_make {α:Type} {n:Nat} (z:α) (h:n ≤ maxN):makeO (n:Int) z = some (tabl n fun _=>z):=by rw [makeO_of z h,tabl_rep]
def genB (k v:Int):Bool:=rng k 3 14 && (if k = 7 ∨ k = 13 then rng v 0 96 else decide (v = 0))
def kd (k:Int):Int × Int:=if k = 2 then (2,2) else if k = 3 ∨ k = 11 then (1,2) else if k = 4 ∨ k = 12 then (1,0) else if k = 5 ∨ k = 9 then (2,1) else if k = 6 ∨ k = 10 then (0,1) else (1,1)
def arB (e:Edg):Bool:=genB e.1 e.2.1 && (decide ((e.2.2.1.length:Int) = (kd e.1).1) && decide ((e.2.2.2.length:Int) = (kd e.1).2))
def wOk (n:Int) (l:List Int):Bool:=l.all fun x=>rng x 0 (n - 1)
theorem tmKind_ (k:Int):F_spec_tmKind k = some (kd k):=by
  unfold F_spec_tmKind kd
  by_cases h2:k = 2
  · simp [h2]
  by_cases h3:k = 3 ∨ k = 11
  · rcases h3 with h3 | h3 <;> simp [h3]
  by_cases h4:k = 4 ∨ k = 12
  · rcases h4 with h3 | h3 <;> simp [h3]
  by_cases h5:k = 5 ∨ k = 9
  · rcases h5 with h3 | h3 <;> simp [h3]
  by_cases h6:k = 6 ∨ k = 10
  · rcases h6 with h3 | h3 <;> simp [h3]
  rw [if_neg h2,if_neg h3,if_neg h4,if_neg h5,if_neg h6]
  simp only [not_or] at *
  simp [*]
theorem tmLeaf_gen {k v:Int} (hk:rng k 3 14 = true):F_spec_tmLeaf (k,v,.empty) = some (genB k v):=by
  have hr:=rng_true.1 hk
  unfold F_spec_tmLeaf genB
  have h1:rng k 1 14 = true:=rng_true.2 (by omega)
  by_cases h7:k = 7
  · subst h7;simp [l1In,h1,hk]
  by_cases h13:k = 13
  · subst h13;simp [l1In,h1,hk]
  have h0:¬ k = 1:=by omega
  simp [l1In,h1,hk,h7,h13,h0]
theorem hgEdge_ (e:Edg) {n:Int} (h0:0 ≤ n) (h1:n ≤ 100):F_spec_hgEdge e n = some (arB e && (wOk n e.2.2.1 && wOk n e.2.2.2)):=by
  obtain ⟨k,v,a,b⟩:=e
  unfold F_spec_hgEdge arB
  have hs:subO n 1 = some (n - 1):=subO_of (by omega) (by omega)
  cases hk:rng k 3 14 with
  | false=>
    have:genB k v = false:=by unfold genB;rw [hk];rfl
    simp [l1In,hk,this]
  | true=>
    cases hg:genB k v with
    | false=>simp [l1In,hk,tmLeaf_gen hk,hg]
    | true=>
      by_cases ha:(a.length:Int) = (kd k).1
      · by_cases hb:(b.length:Int) = (kd k).2
        · cases hw:wOk n a with
          | false=>unfold wOk at hw;simp [l1In,hk,tmLeaf_gen hk,hg,tmKind_,ha,hb,hs,l1All,hw]
          | true=>unfold wOk at hw;simp [l1In,hk,tmLeaf_gen hk,hg,tmKind_,ha,hb,hs,l1All,hw,wOk]
        · simp [l1In,hk,tmLeaf_gen hk,hg,tmKind_,ha,hb]
      · simp [l1In,hk,tmLeaf_gen hk,hg,tmKind_,ha]
theorem isGeneratorValue_ {k v:Int} (hk:rng k 3 14 = true):F_impl_isGeneratorValue k v = some (genB k v):=by
  unfold F_impl_isGeneratorValue F_impl_hasValue genB
  by_cases h7:k = 7
  · subst h7;simp [within_,hk]
  by_cases h13:k = 13
  · subst h13;simp [within_,hk]
  simp [hk,h7,h13]
theorem generatorWires_ {k:Int} (hk:rng k 3 14 = true):F_impl_generatorWires k = some (kd k):=by
  have hr:=rng_true.1 hk
  have:k = 3 ∨ k = 4 ∨ k = 5 ∨ k = 6 ∨ k = 7 ∨ k = 8 ∨ k = 9 ∨ k = 10 ∨ k = 11 ∨ k = 12 ∨ k = 13 ∨ k = 14:=by omega
  rcases this with rfl | rfl | rfl | rfl | rfl | rfl | rfl | rfl | rfl | rfl | rfl | rfl <;> rfl
def edI (e:Edg):List Int:=e.2.2.1
def edO (e:Edg):List Int:=e.2.2.2
theorem cnt_loop {n:Nat} (l:List Int) (f:Nat → Int) (hl:∀ x ∈ l,0 ≤ x ∧ x < (n:Int)) (B:Int) (hf:∀ k,k < n → 0 ≤ f k ∧ f k + l.length ≤ B) (hB:B ≤ 4611686018427387904) {g:Nat → List Int → Option (List Int)}
    (hg:∀ k s,g k s = ((idxO l (k:Int)).bind fun a=>(idxO s a).bind fun b=>(addO b 1).bind fun c=>(setO s a c).bind fun t=>some t)) :
    forS g l.length 0 (tabl n f) = some (tabl n fun k=>f k + (l.count (k:Int):Nat)):=by
  have:=forS_is (f:=g) (n:=l.length) (fun j=>tabl n fun k=>f k + ((l.take j).count (k:Int):Nat)) (fun j hj=>by
    rw [hg]
    have hm:=hl l[j] (List.getElem_mem hj)
    obtain ⟨m,hme⟩:∃ m:Nat,l[j] = (m:Int):=⟨l[j].toNat,by omega⟩
    have hmn:m < n:=by omega
    refine bnd (idxO_of (List.getElem?_eq_getElem hj)) ?_
    rw [hme]
    have hb:=hf m hmn
    have hc:((l.take j).count (m:Int)) ≤ j:=Nat.le_trans List.count_le_length (by simp;omega)
    refine bnd (tabl_idx _ hmn) (bnd (addO_of (by omega) (by omega)) (bnd (tabl_setO _ _ hmn) (congrArg some (tabl_ext fun k hk=>?_))))
    rw [List.take_add_one,List.getElem?_eq_getElem hj,List.count_append,hme]
    by_cases h:k = m
    · subst h;simp;omega
    · rw [if_neg h]
      have:¬ (m:Int) = (k:Int):=by omega
      simp [this])
  have e0:(fun k=>f k + (((l.take 0).count ((k:Nat):Int):Nat):Int)) = f:=by funext k;simp
  rw [List.take_length] at this
  rw [← this]
  congr 2
  exact e0.symm
def cntE (E:List Edg) (s:Edg → List Int) (k:Nat):Nat:=((E.map s).flatten).count (k:Int)
def totE (E:List Edg) (s:Edg → List Int):Nat:=((E.map s).flatten).length
theorem inW_rng {n:Nat} {l:List Int} (h:wOk n l = true):∀ x ∈ l,0 ≤ x ∧ x < (n:Int):=by
  intro x hx
  have:=rng_true.1 (List.all_eq_true.1 h x hx)
  omega
def allW (g:Gra):List Int:=g.2.2.1 ++ g.2.2.2 ++ (g.2.1.map fun e=>edI e ++ edO e).flatten
def edW (n:Int) (e:Edg):Bool:=arB e && (wOk n (edI e) && wOk n (edO e))
def gOk (g:Gra):Bool:=rng g.1 0 100 && (decide (g.2.1.length ≤ 60) && (decide (g.2.2.1.length ≤ 12) && (decide (g.2.2.2.length ≤ 12) && (wOk g.1 g.2.2.1 && (wOk g.1 g.2.2.2 && (g.2.1.all (edW g.1) && (List.range g.1.toNat).all fun k:Nat=>decide ((k:Int) ∈ allW g)))))))
theorem kd_le (k:Int):0 ≤ (kd k).1 ∧ (kd k).1 ≤ 2 ∧ 0 ≤ (kd k).2 ∧ (kd k).2 ≤ 2:=by
  unfold kd
  split <;> first | (refine ⟨?_,?_,?_,?_⟩ <;> decide) | skip
  split <;> first | (refine ⟨?_,?_,?_,?_⟩ <;> decide) | skip
  split <;> first | (refine ⟨?_,?_,?_,?_⟩ <;> decide) | skip
  split <;> first | (refine ⟨?_,?_,?_,?_⟩ <;> decide) | skip
  split <;> (refine ⟨?_,?_,?_,?_⟩ <;> decide)
theorem arB_len {e:Edg} (h:arB e = true):(edI e).length ≤ 2 ∧ (edO e).length ≤ 2:=by
  unfold arB at h
  simp only [Bool.and_eq_true,decide_eq_true_eq] at h
  have:=kd_le e.1
  unfold edI edO
  omega
theorem hgCounts_ {n:Nat} {E:List Edg} {I O:List Int} (hn:n ≤ 1048576) (hI:∀ x ∈ I,0 ≤ x ∧ x < (n:Int)) (hO:∀ x ∈ O,0 ≤ x ∧ x < (n:Int)) (hE:∀ e ∈ E,(∀ x ∈ edI e,0 ≤ x ∧ x < (n:Int)) ∧ (∀ x ∈ edO e,0 ≤ x ∧ x < (n:Int)))
    (hB:I.length + O.length + totE E edI + totE E edO ≤ 1099511627776) :
    F_spec_hgCounts ((n:Int),E,I,O) = some (tabl n (fun k=>((I.count (k:Int) + cntE E edO k:Nat):Int)),tabl n (fun k=>((O.count (k:Int) + cntE E edI k:Nat):Int))):=by
  have hm:maxN = 1099511627776:=rfl
  refine bnd (tabl_make _ (by omega)) (bnd (tabl_make _ (by omega)) ?_)
  have hc:∀ (l:List Int) (k:Nat),l.count (k:Int) ≤ l.length:=fun l k=>List.count_le_length
  refine bnd (cnt_loop I (fun _=>0) hI 1099511627776 (fun k _=>by omega) (by omega) (fun _ _=>rfl)) ?_
  refine bnd (cnt_loop O (fun _=>0) hO 1099511627776 (fun k _=>by omega) (by omega) (fun _ _=>rfl)) ?_
  have key:=forS_is (n:=E.length) (fun j=>(tabl n (fun k=>((I.count (k:Int) + cntE (E.take j) edO k:Nat):Int)),tabl n (fun k=>((O.count (k:Int) + cntE (E.take j) edI k:Nat):Int)))) (f:=fun (k215:Nat) (s652:List Int × List Int)=>
      (idxO E ((k215:Nat):Int)).bind fun a667=>
      (forS (fun (k679:Nat) (s738:List Int)=>
          (idxO a667.2.2.2 ((k679:Nat):Int)).bind fun a753=>
          (idxO s738 a753).bind fun a761=>
          (addO a761 1).bind fun a763=>
          (setO s738 a753 a763).bind fun a771=>
          some a771) a667.2.2.2.length 0 s652.1).bind fun (s776:List Int)=>
      (forS (fun (k778:Nat) (s837:List Int)=>
          (idxO a667.2.2.1 ((k778:Nat):Int)).bind fun a852=>
          (idxO s837 a852).bind fun a860=>
          (addO a860 1).bind fun a862=>
          (setO s837 a852 a862).bind fun a870=>
          some a870) a667.2.2.1.length 0 s652.2).bind fun (s875:List Int)=>
      some (s776,s875)) (fun j hj=>by
    have he:=hE _ (List.getElem_mem hj)
    have hsum:∀ s:Edg → List Int,totE (E.take (j + 1)) s = totE (E.take j) s + (s E[j]).length:=fun s=>by
      unfold totE;rw [List.take_add_one,List.getElem?_eq_getElem hj,List.map_append,List.flatten_append,List.length_append];simp only [Option.toList_some,List.map_cons,List.map_nil,List.flatten_cons,List.flatten_nil,List.append_nil]
    have hle:∀ s:Edg → List Int,totE (E.take (j + 1)) s ≤ totE E s:=fun s=>by
      unfold totE
      have:E = E.take (j + 1) ++ E.drop (j + 1):=(List.take_append_drop _ _).symm
      conv=>rhs;rw [this]
      rw [List.map_append,List.flatten_append,List.length_append];omega
    have hct:∀ (s:Edg → List Int) (k:Nat),cntE (E.take j) s k ≤ totE (E.take j) s:=fun s k=>List.count_le_length
    have hcs:∀ (s:Edg → List Int) (k:Nat),cntE (E.take (j + 1)) s k = cntE (E.take j) s k + (s E[j]).count (k:Int):=fun s k=>by
      unfold cntE;rw [List.take_add_one,List.getElem?_eq_getElem hj,List.map_append,List.flatten_append,List.count_append];simp only [Option.toList_some,List.map_cons,List.map_nil,List.flatten_cons,List.flatten_nil,List.append_nil]
    have h1:=hsum edI;have h2:=hsum edO;have h3:=hle edI;have h4:=hle edO
    refine bnd (idxO_of (List.getElem?_eq_getElem hj)) ?_
    refine bnd (cnt_loop (edO E[j]) _ he.2 1099511627776 (fun k _=>by have:=hct edO k;have:=hc I k;omega) (by omega) (fun _ _=>rfl)) ?_
    refine bnd (cnt_loop (edI E[j]) _ he.1 1099511627776 (fun k _=>by have:=hct edI k;have:=hc O k;omega) (by omega) (fun _ _=>rfl)) ?_
    refine congrArg some (Prod.ext (tabl_ext fun k hk=>?_) (tabl_ext fun k hk=>?_))
    · rw [hcs];push_cast;omega
    · rw [hcs];push_cast;omega)
  have e1:∀ (l:List Int) (s:Edg → List Int),tabl n (fun k=>(0:Int) + (l.count (k:Int):Nat)) = tabl n (fun k=>((l.count (k:Int) + cntE (E.take 0) s k:Nat):Int)):=fun l s=>tabl_ext fun k hk=>by
    unfold cntE;simp
  rw [e1 I edO,e1 O edI]
  refine bnd key ?_
  rw [List.take_length]
theorem edW_arB {n:Int} {E:List Edg} (h:E.all (edW n) = true):E.all arB = true:=by
  rw [List.all_eq_true] at h ⊢
  intro e he
  have:=h e he
  unfold edW at this
  simp only [Bool.and_eq_true] at this
  exact this.1
theorem totE_le {E:List Edg} (h:E.all arB = true):totE E edI ≤ 2 * E.length ∧ totE E edO ≤ 2 * E.length:=by
  induction E with
  | nil=>exact ⟨Nat.le_refl _,Nat.le_refl _⟩
  | cons e E ih=>
    simp only [List.all_cons,Bool.and_eq_true] at h
    have h1:=arB_len h.1
    have h2:=ih h.2
    unfold totE at h2 ⊢
    simp only [List.map_cons,List.flatten_cons,List.length_append,List.length_cons]
    omega
theorem mem_cnt {E:List Edg} {s:Edg → List Int} {k:Nat}:cntE E s k = 0 ↔ ¬ ∃ e ∈ E,(k:Int) ∈ s e:=by
  unfold cntE
  rw [List.count_eq_zero,List.mem_flatten]
  constructor
  · rintro h ⟨e,he,hk⟩;exact h ⟨s e,List.mem_map.2 ⟨e,he,rfl⟩,hk⟩
  · rintro h ⟨l,hl,hk⟩
    obtain ⟨e,he,rfl⟩:=List.mem_map.1 hl
    exact h ⟨e,he,hk⟩
theorem mem_allW {g:Gra} {k:Int}:k ∈ allW g ↔ k ∈ g.2.2.1 ∨ k ∈ g.2.2.2 ∨ ∃ e ∈ g.2.1,k ∈ edI e ∨ k ∈ edO e:=by
  unfold allW
  rw [List.mem_append,List.mem_append,List.mem_flatten]
  constructor
  · rintro ((h | h) | ⟨l,hl,h⟩)
    · exact .inl h
    · exact .inr (.inl h)
    · obtain ⟨e,he,rfl⟩:=List.mem_map.1 hl
      exact .inr (.inr ⟨e,he,List.mem_append.1 h⟩)
  · rintro (h | h | ⟨e,he,h⟩)
    · exact .inl (.inl h)
    · exact .inl (.inr h)
    · exact .inr ⟨_,List.mem_map.2 ⟨e,he,rfl⟩,List.mem_append.2 h⟩
theorem edW_rng {n:Nat} {E:List Edg} (h:E.all (edW n) = true):∀ e ∈ E,(∀ x ∈ edI e,0 ≤ x ∧ x < (n:Int)) ∧ (∀ x ∈ edO e,0 ≤ x ∧ x < (n:Int)):=by
  intro e he
  have:=List.all_eq_true.1 h e he
  unfold edW at this
  simp only [Bool.and_eq_true] at this
  exact ⟨inW_rng this.2.1,inW_rng this.2.2⟩
theorem hgValid_ (g:Gra):F_spec_hgValid g = some (gOk g):=by
  obtain ⟨n,E,I,O⟩:=g
  unfold F_spec_hgValid gOk
  cases hr:rng n 0 100 with
  | false=>simp [l1In,hr]
  | true=>
    have hn:=rng_true.1 hr
    have hs:subO n 1 = some (n - 1):=subO_of (by omega) (by omega)
    by_cases hE:E.length ≤ 60
    case neg=>
      have:(60:Int) < (E.length:Int):=by omega
      simp [l1In,hr,hE,this]
    have hE':¬ (60:Int) < (E.length:Int):=by omega
    by_cases hI:I.length ≤ 12
    case neg=>
      have:(12:Int) < (I.length:Int):=by omega
      simp [l1In,hr,hE,hE',hI,this]
    have hI':¬ (12:Int) < (I.length:Int):=by omega
    by_cases hO:O.length ≤ 12
    case neg=>
      have:(12:Int) < (O.length:Int):=by omega
      simp [l1In,hr,hE,hE',hI,hI',hO,this]
    have hO':¬ (12:Int) < (O.length:Int):=by omega
    cases hwI:wOk n I with
    | false=>unfold wOk at hwI;simp [l1In,hr,hE,hE',hI,hI',hO,hO',hs,l1All,hwI]
    | true=>
    cases hwO:wOk n O with
    | false=>unfold wOk at hwI hwO;simp [l1In,hr,hE,hE',hI,hI',hO,hO',hs,l1All,hwO]
    | true=>
    have hl1:F_spec_l1All I 0 (n - 1) = some true:=by rw [l1All];exact congrArg some hwI
    have hl2:F_spec_l1All O 0 (n - 1) = some true:=by rw [l1All];exact congrArg some hwO
    simp only [l1In,hr,dF hE',dF hI',dF hO',dT hE,dT hI,dT hO,hs,hl1,hl2,Option.bind_some,Bool.not_true,cond_false,Bool.true_and]
    refine sqW (forO_all (edW n) E 0 ?_ (t:=false)) ?_
    · intro j e hj
      rw [Nat.zero_add]
      refine bnd (idxO_of hj) (bnd (hgEdge_ e hn.1 hn.2) (stp ?_))
      have:(arB e && (wOk n e.2.2.1 && wOk n e.2.2.2)) = edW n e:=rfl
      rw [this]
      cases edW n e <;> rfl
    · cases hall:E.all (edW n) with
      | false=>rfl
      | true=>
        rw [if_pos rfl,seqO_l]
        obtain ⟨m,rfl⟩:∃ m:Nat,n = (m:Int):=⟨n.toNat,by omega⟩
        have h2:=totE_le (edW_arB hall)
        refine bnd (hgCounts_ (by omega) (inW_rng hwI) (inW_rng hwO) (edW_rng hall) (by omega)) ?_
        dsimp only
        have hlen:∀ f:Nat → Int,(tabl m f).length = (List.range m).length:=fun f=>by rw [tabl_len,List.length_range]
        rw [hlen]
        refine sqW (forO_all (fun k:Nat=>decide ((k:Int) ∈ allW ((m:Int),E,I,O))) (List.range m) 0 ?_ (t:=false)) ?_
        · intro j k hj
          obtain ⟨hjm,hje⟩:=List.getElem?_eq_some_iff.1 hj
          rw [List.getElem_range] at hje
          subst hje
          rw [List.length_range] at hjm
          rw [Nat.zero_add]
          have c1:I.count (j:Int) ≤ I.length:=List.count_le_length
          have c2:O.count (j:Int) ≤ O.length:=List.count_le_length
          have c3:cntE E edI j ≤ totE E edI:=List.count_le_length
          have c4:cntE E edO j ≤ totE E edO:=List.count_le_length
          refine bnd (tabl_idx _ hjm) (bnd (tabl_idx _ hjm) (bnd (addO_of (by omega) (by omega)) (stp ?_)))
          have hiff:(j:Int) ∈ allW ((m:Int),E,I,O) ↔ ¬ (((I.count (j:Int) + cntE E edO j:Nat):Int) + ((O.count (j:Int) + cntE E edI j:Nat):Int) = 0):=by
            rw [mem_allW]
            dsimp only
            have z1:I.count (j:Int) = 0 ↔ ¬ (j:Int) ∈ I:=List.count_eq_zero
            have z2:O.count (j:Int) = 0 ↔ ¬ (j:Int) ∈ O:=List.count_eq_zero
            have z3:=mem_cnt (E:=E) (s:=edI) (k:=j)
            have z4:=mem_cnt (E:=E) (s:=edO) (k:=j)
            constructor
            · intro h h0
              have y1:=z1.1 (by omega);have y2:=z2.1 (by omega);have y3:=z3.1 (by omega);have y4:=z4.1 (by omega)
              rcases h with h | h | ⟨e,he,h | h⟩
              · exact y1 h
              · exact y2 h
              · exact y3 ⟨e,he,h⟩
              · exact y4 ⟨e,he,h⟩
            · intro h
              refine Decidable.byContradiction fun hc=>h ?_
              simp only [not_or] at hc
              have y1:=z1.2 hc.1;have y2:=z2.2 hc.2.1
              have y3:=z3.2 (fun ⟨e,he,hk⟩=>hc.2.2 ⟨e,he,.inl hk⟩)
              have y4:=z4.2 (fun ⟨e,he,hk⟩=>hc.2.2 ⟨e,he,.inr hk⟩)
              omega
          by_cases hk:(j:Int) ∈ allW ((m:Int),E,I,O)
          · rw [dT hk,dF (hiff.1 hk)];rfl
          · rw [dF hk,dT (Decidable.byContradiction fun hc=>hk (hiff.2 hc))];rfl
        · rw [Int.toNat_natCast]
          cases (List.range m).all fun k:Nat=>decide ((k:Int) ∈ allW ((m:Int),E,I,O)) <;> rfl
end Go.Proofs.YtlggnmkelgplnaaGreatDoor
namespace Go.Proofs.YtlggnmkelgplnaaGreatDoor
theorem forS_inv {σ:Type} {f:Nat → σ → Option σ} (I:Nat → σ → Prop):∀ (n k:Nat) (s:σ),I k s → (∀ j s,k ≤ j → j < k + n → I j s → ∃ s',f j s = some s' ∧ I (j + 1) s') → ∃ r,forS f n k s = some r ∧ I (k + n) r
  | 0,k,s,h0,_=>⟨s,rfl,h0⟩
  | n + 1,k,s,h0,h=>by
    obtain ⟨s',h1,h2⟩:=h k s (Nat.le_refl _) (by omega) h0
    obtain ⟨r,h3,h4⟩:=forS_inv I n (k + 1) s' h2 (fun j s hj hl hi=>h j s (by omega) (by omega) hi)
    refine ⟨r,?_,by rwa [show k + 1 + n = k + (n + 1) by omega] at h4⟩
    show (f k s).bind _ = _
    rw [h1];exact h3
theorem forS_rel {σ:Type} {f:Nat → σ → Option σ} {n:Nat} {s:σ} (I:Nat → σ → Prop) (h0:I 0 s) (h:∀ j s,j < n → I j s → ∃ s',f j s = some s' ∧ I (j + 1) s'):∃ r,forS f n 0 s = some r ∧ I n r:=by
  obtain ⟨r,h1,h2⟩:=forS_inv (f:=f) I n 0 s h0 (fun j s _ hl hi=>h j s (by omega) hi)
  exact ⟨r,h1,by rwa [Nat.zero_add] at h2⟩
theorem forO_inv {σ τ:Type} {f:Nat → σ → Option (σ ⊕ τ)} (I:Nat → σ → Prop) (Q:τ → Prop):∀ (n k:Nat) (s:σ),I k s → (∀ j s,k ≤ j → j < k + n → I j s → (∃ s',f j s = some (.inl s') ∧ I (j + 1) s') ∨ (∃ t,f j s = some (.inr t) ∧ Q t)) → (∃ r,forO f n k s = some (.inl r) ∧ I (k + n) r) ∨ (∃ t,forO f n k s = some (.inr t) ∧ Q t)
  | 0,k,s,h0,_=>.inl ⟨s,rfl,h0⟩
  | n + 1,k,s,h0,h=>by
    rcases h k s (Nat.le_refl _) (by omega) h0 with ⟨s',h1,h2⟩ | ⟨t,h1,h2⟩
    · rcases forO_inv I Q n (k + 1) s' h2 (fun j s hj hl hi=>h j s (by omega) (by omega) hi) with ⟨r,h3,h4⟩ | ⟨t,h3,h4⟩
      · refine .inl ⟨r,?_,by rwa [show k + 1 + n = k + (n + 1) by omega] at h4⟩
        show (f k s).bind _ = _
        rw [h1];exact h3
      · refine .inr ⟨t,?_,h4⟩
        show (f k s).bind _ = _
        rw [h1];exact h3
    · refine .inr ⟨t,?_,h2⟩
      show (f k s).bind _ = _
      rw [h1];rfl
theorem forO_rel {σ τ:Type} {f:Nat → σ → Option (σ ⊕ τ)} {n:Nat} {s:σ} (I:Nat → σ → Prop) (Q:τ → Prop) (h0:I 0 s) (h:∀ j s,j < n → I j s → (∃ s',f j s = some (.inl s') ∧ I (j + 1) s') ∨ (∃ t,f j s = some (.inr t) ∧ Q t)):(∃ r,forO f n 0 s = some (.inl r) ∧ I n r) ∨ (∃ t,forO f n 0 s = some (.inr t) ∧ Q t):=by
  rcases forO_inv (f:=f) I Q n 0 s h0 (fun j s _ hl hi=>h j s (by omega) hi) with ⟨r,h1,h2⟩ | h
  · exact .inl ⟨r,h1,by rwa [Nat.zero_add] at h2⟩
  · exact .inr h
def M (s:List Bool) (x:Int):Prop:=idxO s x = some true
instance (s:List Bool) (x:Int):Decidable (M s x):=by unfold M;infer_instance
def left (s:List Bool):Nat:=s.count false
inductive Rch (E:List Edg) (S:Int → Prop):Int → Prop
  | base {x:Int}:S x → Rch E S x
  | step {e:Edg} {w v:Int}:e ∈ E → w ∈ edI e → Rch E S w → v ∈ edO e → Rch E S v
theorem Rch.mono {E:List Edg} {S S':Int → Prop} (h:∀ x,S x → Rch E S' x) {x:Int} (hx:Rch E S x):Rch E S' x:=by
  induction hx with
  | base hs=>exact h _ hs
  | step he hw _ hv ih=>exact .step he hw ih hv
theorem Rch.sub {E:List Edg} {S T:Int → Prop} (h0:∀ x,S x → T x) (h1:∀ e ∈ E,∀ w ∈ edI e,T w → ∀ v ∈ edO e,T v) {x:Int} (hx:Rch E S x):T x:=by
  induction hx with
  | base hs=>exact h0 _ hs
  | step he hw _ hv ih=>exact h1 _ he _ hw ih _ hv
def inRg (n:Nat) (l:List Int):Prop:=∀ x ∈ l,0 ≤ x ∧ x < (n:Int)
def edRg (n:Nat) (E:List Edg):Prop:=∀ e ∈ E,inRg n (edI e) ∧ inRg n (edO e)
end Go.Proofs.YtlggnmkelgplnaaGreatDoor
namespace Go.Proofs.YtlggnmkelgplnaaGreatDoor
theorem el_app2 (a b:List Int) (q:Nat):el (a ++ b) q = if q < a.length then el a q else el b (q - a.length):=by
  unfold el
  rw [List.getD_eq_getElem?_getD]
  split
  · rw [List.getElem?_append_left ‹_›,List.getD_eq_getElem?_getD]
  · rw [List.getElem?_append_right (by omega),List.getD_eq_getElem?_getD]
theorem el_take2 {a:List Int} {k q:Nat} (h:q < k):el (a.take k) q = el a q:=by
  unfold el
  rw [List.getD_eq_getElem?_getD,List.getD_eq_getElem?_getD,List.getElem?_take,if_pos h]
theorem el_drop2 (a:List Int) (k q:Nat):el (a.drop k) q = el a (k + q):=by
  unfold el
  rw [List.getD_eq_getElem?_getD,List.getD_eq_getElem?_getD,List.getElem?_drop]
theorem el_setP {z:List Int} {i j:Nat} {v:Int} (h:i < z.length):el (z.set i v) j = if i = j then v else el z j:=by
  unfold el
  rw [List.getD_eq_getElem?_getD,List.getD_eq_getElem?_getD,List.getElem?_set]
  by_cases e:i = j
  · subst e;simp [h]
  · rw [if_neg e,if_neg e]
theorem place_loop {row:List Int} {W:Nat} (pos:Nat → Nat) (hinj:∀ i j,i < row.length → j < row.length → pos i = pos j → i = j) (hlt:∀ j,j < row.length → pos j < W) {f:Nat → List Int → Option (List Int)}
    (hf:∀ j s,j < row.length → s.length = W → f j s = some (s.set (pos j) (el row j))):∃ r,forS f row.length 0 (List.replicate W 0) = some r ∧ r.length = W ∧ (∀ j,j < row.length → el r (pos j) = el row j) ∧ ∀ q,(∀ j,j < row.length → pos j ≠ q) → el r q = 0:=
  forS_rel (fun k s=>s.length = W ∧ (∀ j,j < k → el s (pos j) = el row j) ∧ ∀ q,(∀ j,j < k → pos j ≠ q) → el s q = 0) ⟨by simp,fun j hj=>by omega,fun q _=>el_rep W q⟩ (fun j s hj ⟨h1,h2,h3⟩=>by
    have hp:=hlt j hj
    refine ⟨_,hf j s hj h1,by simpa using h1,fun i hi=>?_,fun q hq=>?_⟩
    · rw [el_setP (by omega)]
      by_cases hij:i = j
      · subst hij;rw [if_pos rfl]
      · rw [if_neg (fun e=>hij (hinj j i hj (by omega) e).symm)]
        exact h2 i (by omega)
    · rw [el_setP (by omega),if_neg (hq j (by omega))]
      exact h3 q (fun i hi=>hq i (by omega)))
def tenA (l1 l2 r2:Nat) (row:List Int):List Int:=row.take l1 ++ (List.replicate l2 0 ++ (row.drop l1 ++ List.replicate r2 0))
def tenB (l1 l2 r1:Nat) (row:List Int):List Int:=List.replicate l1 0 ++ (row.take l2 ++ (List.replicate r1 0 ++ row.drop l2))
def tenP (l1 r1 l2 r2:Nat) (A B:Rows):Rows:=A.map (tenA l1 l2 r2) ++ B.map (tenB l1 l2 r1)
def tenR (p:Int) (l1 r1 l2 r2:Nat) (A B:Rows):Rows:=redM p (l1 + l2 + (r1 + r2)) (tenP l1 r1 l2 r2 A B)
theorem tenA_ok {p:Int} {l1 r1 l2 r2:Nat} {row:List Int} (hp:2 ≤ p) (h:okR p (l1 + r1) row):okR p (l1 + l2 + (r1 + r2)) (tenA l1 l2 r2 row):=by
  obtain ⟨h1,h2⟩:=h
  refine ⟨by simp [tenA];omega,fun x hx=>?_⟩
  have z:(0:Int) ≤ 0 ∧ (0:Int) < p:=⟨by omega,by omega⟩
  rcases List.mem_append.1 hx with hx | hx
  · exact h2 x (List.mem_of_mem_take hx)
  · rcases List.mem_append.1 hx with hx | hx
    · rw [List.eq_of_mem_replicate hx];exact z
    · rcases List.mem_append.1 hx with hx | hx
      · exact h2 x (List.mem_of_mem_drop hx)
      · rw [List.eq_of_mem_replicate hx];exact z
theorem tenB_ok {p:Int} {l1 r1 l2 r2:Nat} {row:List Int} (hp:2 ≤ p) (h:okR p (l2 + r2) row):okR p (l1 + l2 + (r1 + r2)) (tenB l1 l2 r1 row):=by
  obtain ⟨h1,h2⟩:=h
  refine ⟨by simp [tenB];omega,fun x hx=>?_⟩
  have z:(0:Int) ≤ 0 ∧ (0:Int) < p:=⟨by omega,by omega⟩
  rcases List.mem_append.1 hx with hx | hx
  · rw [List.eq_of_mem_replicate hx];exact z
  · rcases List.mem_append.1 hx with hx | hx
    · exact h2 x (List.mem_of_mem_take hx)
    · rcases List.mem_append.1 hx with hx | hx
      · rw [List.eq_of_mem_replicate hx];exact z
      · exact h2 x (List.mem_of_mem_drop hx)
theorem tenP_ok {p:Int} {l1 r1 l2 r2:Nat} {A B:Rows} (hp:2 ≤ p) (hA:okM p (l1 + r1) A) (hB:okM p (l2 + r2) B):okM p (l1 + l2 + (r1 + r2)) (tenP l1 r1 l2 r2 A B):=by
  intro x hx
  rcases List.mem_append.1 hx with hx | hx
  · obtain ⟨y,hy,rfl⟩:=List.mem_map.1 hx
    exact tenA_ok hp (hA y hy)
  · obtain ⟨y,hy,rfl⟩:=List.mem_map.1 hx
    exact tenB_ok hp (hB y hy)
theorem tensor_ {p:Int} {l1 r1 l2 r2:Nat} {A B:Rows} (hf:fdB p = true) (hl:l1 ≤ 100) (hr:r1 ≤ 100) (hl2:l2 ≤ 100) (hr2:r2 ≤ 100) (hA:okM p (l1 + r1) A) (hB:okM p (l2 + r2) B) (lA:A.length ≤ 1000) (lB:B.length ≤ 1000) :
    F_impl_tensor p ((l1:Int),(r1:Int),A) ((l2:Int),(r2:Int),B) = some (((l1 + l2:Nat):Int),((r1 + r2:Nat):Int),tenR p l1 r1 l2 r2 A B):=by
  have hmx:maxN = 1099511627776:=rfl
  have hp:=fdB_rng hf
  have e1:F_impl_Relation_each_impl_tensor_1 ((l1:Int),(r1:Int),A) ((l1:Int),(r1:Int),A) ((l2:Int),(r2:Int),B) = some (A.map (tenA l1 l2 r2)):=by
    refine bnd (forS_map (tenA l1 l2 r2) A [] (by simp;omega) (fun j x s hj hs=>?_)) rfl
    have hx:=(hA x (mem_of_get hj)).1
    have hjl:=(List.getElem?_eq_some_iff.1 hj).1
    have hjo:=joined_ (l:=[x.take l1,List.replicate l2 0,x.drop l1,List.replicate r2 0]) (by simp;omega)
    refine bnd (idxO_of hj) (bnd (bnd (first_ (l:=l1) rfl (by omega)) (bnd (zeros_ (by omega)) (bnd (second_ (l:=l1) rfl (by omega)) (bnd (zeros_ (by omega)) (bnd hjo rfl))))) (bnd (appO_of (by simp at hs ⊢;omega)) ?_))
    simp [tenA]
  have e2:F_impl_Relation_each_impl_tensor_2 ((l2:Int),(r2:Int),B) ((l1:Int),(r1:Int),A) ((l2:Int),(r2:Int),B) = some (B.map (tenB l1 l2 r1)):=by
    refine bnd (forS_map (tenB l1 l2 r1) B [] (by simp;omega) (fun j x s hj hs=>?_)) rfl
    have hx:=(hB x (mem_of_get hj)).1
    have hjl:=(List.getElem?_eq_some_iff.1 hj).1
    have hjo:=joined_ (l:=[List.replicate l1 0,x.take l2,List.replicate r1 0,x.drop l2]) (by simp;omega)
    refine bnd (idxO_of hj) (bnd (bnd (zeros_ (by omega)) (bnd (first_ (l:=l2) rfl (by omega)) (bnd (zeros_ (by omega)) (bnd (second_ (l:=l2) rfl (by omega)) (bnd hjo rfl))))) (bnd (appO_of (by simp at hs ⊢;omega)) ?_))
    simp [tenB]
  have hred:=reduced_ hf (Nat.le_refl (l1 + l2 + (r1 + r2))) (by omega) (tenP_ok hp.1 hA hB) (by simp [tenP];omega)
  refine bnd e1 (bnd e2 (bnd (appO_of (by simp;omega)) (bnd (a:=((l1 + l2:Nat):Int)) (by rw [addO_of (by dsimp only;omega) (by dsimp only;omega)];congr 1) (bnd (a:=((r1 + r2:Nat):Int)) (by rw [addO_of (by dsimp only;omega) (by dsimp only;omega)];congr 1) (bnd (bnd (a:=((l1 + l2 + (r1 + r2):Nat):Int)) (by rw [addO_of (by omega) (by omega)];congr 1) (bnd hred rfl)) rfl)))))
theorem rlTensor_ {p:Int} {l1 r1 l2 r2:Nat} {A B:Rows} (hf:fdB p = true) (hl:l1 ≤ 100) (hr:r1 ≤ 100) (hl2:l2 ≤ 100) (hr2:r2 ≤ 100) (hA:okM p (l1 + r1) A) (hB:okM p (l2 + r2) B) (lA:A.length ≤ 1000) (lB:B.length ≤ 1000) :
    F_spec_rlTensor p ((l1:Int),(r1:Int),A) ((l2:Int),(r2:Int),B) = some (((l1 + l2:Nat):Int),((r1 + r2:Nat):Int),tenR p l1 r1 l2 r2 A B):=by
  have hmx:maxN = 1099511627776:=rfl
  have hp:=fdB_rng hf
  have n1:addO ((l1 + l2:Nat):Int) ((r1 + r2:Nat):Int) = some ((l1 + l2 + (r1 + r2):Nat):Int):=by rw [addO_of (by omega) (by omega)];congr 1
  have hred:=spReduce_ hf (Nat.le_refl (l1 + l2 + (r1 + r2))) (by omega) (tenP_ok hp.1 hA hB) (by simp [tenP];omega)
  refine bnd (a:=((l1 + l2:Nat):Int)) (by rw [addO_of (by dsimp only;omega) (by dsimp only;omega)];congr 1) (bnd (a:=((r1 + r2:Nat):Int)) (by rw [addO_of (by dsimp only;omega) (by dsimp only;omega)];congr 1) (bnd (a:=A.map (tenA l1 l2 r2)) ?_ (bnd (a:=tenP l1 r1 l2 r2 A B) ?_ (bnd (bnd n1 (bnd hred rfl)) rfl))))
  · refine (forS_map (tenA l1 l2 r2) A [] (by simp;omega) (fun j x s hj hs=>?_)).trans (by simp)
    have hx:=(hA x (mem_of_get hj)).1
    have hjl:=(List.getElem?_eq_some_iff.1 hj).1
    refine bnd (idxO_of hj) (bnd n1 (bnd (makeO_of _ (by omega)) (bnd (a:=tenA l1 l2 r2 x) ?_ (bnd (appO_of (by simp at hs ⊢;omega)) rfl))))
    obtain ⟨r,q1,q2,q3,q4⟩:=place_loop (row:=x) (W:=l1 + l2 + (r1 + r2)) (fun j=>if j < l1 then j else l1 + l2 + (j - l1)) (fun i j hi hj h=>by
      skip
      split at h <;> split at h <;> omega) (fun j hj=>by split <;> omega) (f:=fun (k342:Nat) (s415:List Int)=>
          (idxO x ((k342:Nat):Int)).bind fun a430=>
          (some (decide (((k342:Nat):Int) < (l1:Int)))).bind fun a432=>
          cond a432
          ((setO s415 ((k342:Nat):Int) a430).bind fun a455=>
            some a455)
          ((addO ((l1 + l2:Nat):Int) ((k342:Nat):Int)).bind fun a435=>
            (subO a435 (l1:Int)).bind fun a437=>
            (setO s415 a437 a430).bind fun a445=>
            some a445)) (fun i t hi ht=>by
        refine bnd (idx_el hi) ?_
        by_cases h:i < l1
        · rw [if_pos h]
          exact stp (cTW (dT (by omega)) (bnd (setO_of _ (by omega)) rfl))
        · rw [if_neg h]
          refine stp (cFW (dF (by omega)) (bnd (addO_of (by omega) (by omega)) (bnd (a:=((l1 + l2 + (i - l1):Nat):Int)) (by rw [subO_of (by omega) (by omega)];congr 1;omega) (bnd (setO_of _ (by omega)) rfl))))
      )
    refine q1.trans (congrArg some ?_)
    refine ext_el (by rw [q2,(tenA_ok (p:=p) (r1:=r1) hp.1 (hA x (mem_of_get hj))).1]) (fun q hq=>?_)
    rw [q2] at hq
    unfold tenA
    have ltk:(x.take l1).length = l1:=by simp;omega
    have ldr:(x.drop l1).length = r1:=by simp;omega
    rw [el_app2,ltk]
    by_cases c1:q < l1
    · rw [if_pos c1,el_take2 c1]
      have:=q3 q (by omega)
      skip
      rwa [if_pos c1] at this
    · rw [if_neg c1,el_app2,List.length_replicate]
      by_cases c2:q - l1 < l2
      · rw [if_pos c2,el_rep]
        exact q4 q (fun j hj=>by split <;> omega)
      · rw [if_neg c2,el_app2,ldr]
        by_cases c3:q - l1 - l2 < r1
        · rw [if_pos c3,el_drop2]
          have:=q3 (q - l2) (by omega)
          skip
          rw [if_neg (by omega),show l1 + l2 + (q - l2 - l1) = q by omega] at this
          rw [this];congr 1;omega
        · rw [if_neg c3,el_rep]
          exact q4 q (fun j hj=>by split <;> omega)
  · refine (forS_map (tenB l1 l2 r1) B (A.map (tenA l1 l2 r2)) (by simp;omega) (fun j x s hj hs=>?_)).trans rfl
    have hx:=(hB x (mem_of_get hj)).1
    have hjl:=(List.getElem?_eq_some_iff.1 hj).1
    refine bnd (idxO_of hj) (bnd n1 (bnd (makeO_of _ (by omega)) (bnd (a:=tenB l1 l2 r1 x) ?_ (bnd (appO_of (by simp at hs ⊢;omega)) rfl))))
    obtain ⟨r,q1,q2,q3,q4⟩:=place_loop (row:=x) (W:=l1 + l2 + (r1 + r2)) (fun j=>if j < l2 then l1 + j else l1 + l2 + r1 + (j - l2)) (fun i j hi hj h=>by
      skip
      split at h <;> split at h <;> omega) (fun j hj=>by split <;> omega) (f:=fun (k822:Nat) (s903:List Int)=>
          (idxO x ((k822:Nat):Int)).bind fun a918=>
          (some (decide (((k822:Nat):Int) < (l2:Int)))).bind fun a920=>
          cond a920
          ((addO (l1:Int) ((k822:Nat):Int)).bind fun a939=>
            (setO s903 a939 a918).bind fun a947=>
            some a947)
          ((addO ((l1 + l2:Nat):Int) (r1:Int)).bind fun a923=>
            (addO a923 ((k822:Nat):Int)).bind fun a925=>
            (subO a925 (l2:Int)).bind fun a927=>
            (setO s903 a927 a918).bind fun a935=>
            some a935)) (fun i t hi ht=>by
        refine bnd (idx_el hi) ?_
        by_cases h:i < l2
        · rw [if_pos h]
          exact stp (cTW (dT (by omega)) (bnd (a:=((l1 + i:Nat):Int)) (by rw [addO_of (by omega) (by omega)];congr 1) (bnd (setO_of _ (by omega)) rfl)))
        · rw [if_neg h]
          refine stp (cFW (dF (by omega)) (bnd (addO_of (by omega) (by omega)) (bnd (addO_of (by omega) (by omega)) (bnd (a:=((l1 + l2 + r1 + (i - l2):Nat):Int)) (by rw [subO_of (by omega) (by omega)];congr 1;omega) (bnd (setO_of _ (by omega)) rfl)))))
      )
    refine q1.trans (congrArg some ?_)
    refine ext_el (by rw [q2,(tenB_ok (p:=p) (r2:=r2) hp.1 (hB x (mem_of_get hj))).1]) (fun q hq=>?_)
    rw [q2] at hq
    unfold tenB
    have ltk:(x.take l2).length = l2:=by simp;omega
    have ldr:(x.drop l2).length = r2:=by simp;omega
    rw [el_app2,List.length_replicate]
    by_cases c1:q < l1
    · rw [if_pos c1,el_rep]
      exact q4 q (fun j hj=>by split <;> omega)
    · rw [if_neg c1,el_app2,ltk]
      by_cases c2:q - l1 < l2
      · rw [if_pos c2,el_take2 c2]
        have:=q3 (q - l1) (by omega)
        skip
        rwa [if_pos c2,show l1 + (q - l1) = q by omega] at this
      · rw [if_neg c2,el_app2,List.length_replicate]
        by_cases c3:q - l1 - l2 < r1
        · rw [if_pos c3,el_rep]
          exact q4 q (fun j hj=>by split <;> omega)
        · rw [if_neg c3,el_drop2]
          have:=q3 (q - l1 - r1) (by omega)
          skip
          rw [if_neg (by omega),show l1 + l2 + r1 + (q - l1 - r1 - l2) = q by omega] at this
          rw [this];congr 1;omega
end Go.Proofs.YtlggnmkelgplnaaGreatDoor
