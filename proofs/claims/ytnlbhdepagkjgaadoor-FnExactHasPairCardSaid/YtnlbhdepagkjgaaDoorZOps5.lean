/-
  Elements of lists of one's own: looked at in their place ('EH': some headers are known), taken out and put back ('EX': one element's cells lie open). Conditions: the engine's table holds ('EngOk') where a type's number is looked up.
-/
import Derived.Test.YtnlbhdepagkjgaaDoorZOps4
namespace Go.Proofs.YtnlbhdepagkjgaaDoor.RW
open Go
open Go.RowKit (Below)
open Rep RepZ

section
variable {P : Program} {G : Eng} {w0 w : World} {F : List Nat} {S0 : Nat → Prop} {Γ : List Ent}

/-- what is known of an element -/
structure Kn (α : Type) [Rep α] where
  m : Nat
  x : α
  g : Gh α
def KnOk {α : Type} [Rep α] (w : World) (xs : List α) (h : Hd) (k : Kn α) : Prop := xs[k.m]? = some k.x ∧ ∃ b o, h.a = some ⟨b, o, none⟩ ∧ ∀ j u, (cl k.x k.g)[j]? = some u → w.cell? ⟨b, o + k.m * sz α + j, none⟩ = some u
theorem own_blk {α : Type} [Rep α] {S : Nat → Prop} {fp : List Nat} {xs : List α} {h : Hd} {b o : Nat} (ho : own w S fp xs h) (ha : h.a = some ⟨b, o, none⟩) : b ∈ fp := by
  have ho : OwnG (sz α) (qOf S) w fp h.a h.n h.c xs := ho
  rcases ho with ⟨hn, _⟩ | ⟨g, o', cells, e, fps, ha', hg, hn, hnc, hcm, hsz, hl, rfl, hnd, hqs⟩
  · rw [hn] at ha; cases ha
  · rw [ha] at ha'
    simp only [Option.some.injEq, Addr.mk.injEq, and_true] at ha'
    rw [ha'.1]; simp
/-- a list of one's own, some of whose elements' headers are known -/
def EH (α : Type) [Rep α] (xs : List α) (h : Hd) (ks : List (Kn α)) : Ent := ⟨fun w S fp => own w S fp xs h ∧ ∀ k ∈ ks, KnOk w xs h k, fun hS ⟨h1, h2⟩ => ⟨own_mono hS h1, h2⟩,
  fun hS hf ⟨h1, h2⟩ => ⟨own_keep hS hf h1, fun k hk => by
    obtain ⟨k1, b, o, k2, k3⟩ := h2 k hk
    exact ⟨k1, b, o, k2, fun j u hj => by rw [cell_keep (hf b (own_blk h1 k2))]; exact k3 j u hj⟩⟩, fun ⟨h1, _⟩ => own_lt h1⟩
/-- one entry for another of the same blocks -/
theorem Cx.imp {e e' : Ent} (H : Cx w0 F S0 w (e :: Γ)) (hi : ∀ S f, f.Nodup → e.h w S f → e'.h w S f) : Cx w0 F S0 w (e' :: Γ) := by
  obtain ⟨S, fp, I⟩ := H
  obtain ⟨f, r, rfl, h1, h2⟩ := I.all
  exact ⟨S, f ++ r, I.upd, I.s0, I.sb, ⟨f, r, rfl, hi S f (List.nodup_append.1 I.nd).1 h1, h2⟩, I.nd, I.out⟩
theorem Cx.toEH {α : Type} [Rep α] {xs : List α} {h : Hd} (H : Cx w0 F S0 w (E (List α) xs h :: Γ)) : Cx w0 F S0 w (EH α xs h [] :: Γ) := H.imp fun _ _ _ h => ⟨h, fun _ hk => by cases hk⟩
theorem Cx.ofEH {α : Type} [Rep α] {xs : List α} {h : Hd} {ks : List (Kn α)} (H : Cx w0 F S0 w (EH α xs h ks :: Γ)) : Cx w0 F S0 w (E (List α) xs h :: Γ) := H.imp fun _ _ _ h => h.1
theorem own_el {α : Type} [Rep α] {S : Nat → Prop} {fp : List Nat} {xs : List α} {h : Hd} {m : Nat} {a : α} (ho : own w S fp xs h) (hm : xs[m]? = some a) :
    ∃ (b o : Nat) (g : Gh α) (f : List Nat), h.a = some ⟨b, o, none⟩ ∧ m < h.n ∧ (∀ j u, (cl a g)[j]? = some u → w.cell? ⟨b, o + m * sz α + j, none⟩ = some u) ∧ own w S f a g ∧ ∀ x ∈ f, x ∈ fp := by
  have ho : OwnG (sz α) (qOf S) w fp h.a h.n h.c xs := ho
  obtain ⟨hml, he⟩ := List.getElem?_eq_some_iff.1 hm
  rcases ho with ⟨_, _, _, rfl, _⟩ | ⟨b, o, cells, e, fps, ha, hg, hn, hnc, hcm, hsz, hl, rfl, hnd, hqs⟩
  · simp at hml
  · obtain ⟨g, hc, hr⟩ := hqs m hml (by omega)
    rw [he] at hc hr
    refine ⟨b, o, g, fps[m], ha, by omega, fun j u hj => chk_cell hg (by rw [hc]; exact hj), hr, fun x hx => List.mem_cons_of_mem _ (List.mem_flatten.2 ⟨_, List.getElem_mem _, hx⟩)⟩
/-- look at element k -/
theorem Cx.peek {α : Type} [Rep α] {xs : List α} {h : Hd} {ks : List (Kn α)} {k : Int} {a : α} (H : Cx w0 F S0 w (EH α xs h ks :: Γ)) (hx : idxO xs k = some a) :
    ∃ (p : Addr) (m : Nat) (g : Gh α), h.a = some p ∧ k = (m : Int) ∧ m < h.n ∧ (∀ j u, (cl a g)[j]? = some u → w.cell? ((p.add (m * sz α)).add j) = some u) ∧ Cx w0 F S0 w (EH α xs h (⟨m, a, g⟩ :: ks) :: Γ) := by
  obtain ⟨S, fp, I⟩ := H
  obtain ⟨f, r, rfl, ⟨h1, h2⟩, h3⟩ := I.all
  obtain ⟨m, rfl, hm, hml⟩ := idxO_some hx
  obtain ⟨b, o, g, _, k1, k2, k3, _, _⟩ := own_el h1 hm
  refine ⟨⟨b, o, none⟩, m, g, k1, rfl, k2, fun j u hj => by rw [Addr.add_lit, Addr.add_lit]; exact k3 j u hj, S, f ++ r, I.upd, I.s0, I.sb, ⟨f, r, rfl, ⟨h1, fun k hk => ?_⟩, h3⟩, I.nd, I.out⟩
  rcases List.mem_cons.1 hk with rfl | hk
  · exact ⟨hm, b, o, k1, k3⟩
  · exact h2 k hk
theorem Cx.peekL {β : Type} [Rep β] {xs : List (List β)} {h : Hd} {ks : List (Kn (List β))} {k : Int} {a : List β} (H : Cx w0 F S0 w (EH (List β) xs h ks :: Γ)) (hx : idxO xs k = some a) :
    ∃ (p : Addr) (m : Nat) (g : Hd), h.a = some p ∧ k = (m : Int) ∧ m < h.n ∧ w.cell? (p.add (m * 1)) = some g.v ∧ Cx w0 F S0 w (EH (List β) xs h (⟨m, a, g⟩ :: ks) :: Γ) := by
  obtain ⟨p, m, g, h1, h2, h3, h4, h5⟩ := H.peek hx
  refine ⟨p, m, g, h1, h2, h3, ?_, h5⟩
  have := h4 0 (Hd.v g) rfl
  rwa [addr_add0] at this
theorem kn_own {α : Type} [Rep α] {S : Nat → Prop} {fp : List Nat} {xs : List α} {h : Hd} {k : Kn α} (ho : own w S fp xs h) (hk : KnOk w xs h k) : ∃ f, own w S f k.x k.g ∧ ∀ x ∈ f, x ∈ fp := by
  obtain ⟨hm, b, o, ha, hc⟩ := hk
  obtain ⟨b', o', g, f, k1, _, k3, k4, k5⟩ := own_el ho hm
  rw [ha] at k1
  simp only [Option.some.injEq, Addr.mk.injEq, and_true] at k1
  obtain ⟨rfl, rfl⟩ := k1
  have : g = k.g := by
    refine cl_inj k.x _ _ (List.ext_getElem? fun j => ?_)
    by_cases hj : j < sz α
    · have l1 : j < (cl k.x g).length := by rw [cl_len]; exact hj
      have l2 : j < (cl k.x k.g).length := by rw [cl_len]; exact hj
      have e1 := k3 j _ (List.getElem?_eq_getElem l1)
      have e2 := hc j _ (List.getElem?_eq_getElem l2)
      rw [e1] at e2
      rw [List.getElem?_eq_getElem l1, List.getElem?_eq_getElem l2]; exact e2
    · rw [List.getElem?_eq_none (by rw [cl_len]; omega), List.getElem?_eq_none (by rw [cl_len]; omega)]
  subst this
  exact ⟨f, k4, k5⟩
/-- a known element is read -/
theorem Cx.rh {α : Type} [Rep α] {xs : List α} {h : Hd} {ks : List (Kn α)} {k : Kn α} (H : Cx w0 F S0 w Γ) (i : Nat) (hi : entAt Γ i = EH α xs h ks) (j : Nat) (hj : ks[j]? = some k) : Rdb w k.x k.g := by
  obtain ⟨S, fp, h1, h2⟩ := H.at_ i hi
  obtain ⟨f, h3, _⟩ := kn_own h1 (h2 k (List.mem_of_getElem? hj))
  exact ⟨_, own_rd h3⟩

/-! ### one element taken out -/
/-- xs but for element m, whose cells (cs) lie open -/
def HoleG {α : Type} (s : Nat) (q : World → List Nat → List Value → α → Prop) (w : World) (fp : List Nat) (A : Option Addr) (n c m : Nat) (cs : List Value) (xs : List α) : Prop :=
  ∃ (g o : Nat) (cells : Array Value) (e : TypeId) (fps : List (List Nat)), A = some ⟨g, o, none⟩ ∧ w.heap[g]? = some (.cells cells e (0, 0)) ∧ n = xs.length ∧ n ≤ c ∧ c ≤ maxLen ∧ o + c * s ≤ cells.size ∧
    fps.length = xs.length ∧ m < xs.length ∧ chk cells o s m = cs ∧ fp = g :: (fps.set m []).flatten ∧ fp.Nodup ∧ ∀ i (h : i < xs.length) (h' : i < fps.length), i ≠ m → q w fps[i] (chk cells o s i) xs[i]
theorem set_nil_mem {fps : List (List Nat)} {m : Nat} {b : Nat} (h : b ∈ (fps.set m []).flatten) : ∃ i, ∃ h : i < fps.length, i ≠ m ∧ b ∈ fps[i] := by
  obtain ⟨l, hl, hb⟩ := List.mem_flatten.1 h
  obtain ⟨i, hi, rfl⟩ := List.mem_iff_getElem.1 hl
  rw [List.length_set] at hi
  by_cases him : i = m
  · subst him; rw [List.getElem_set_self] at hb; cases hb
  · rw [List.getElem_set_ne (Ne.symm him)] at hb; exact ⟨i, hi, him, hb⟩
def EX (α : Type) [Rep α] (m : Nat) (cs : List Value) (xs : List α) (h : Hd) : Ent := ⟨fun w S fp => HoleG (sz α) (qOf S) w fp h.a h.n h.c m cs xs,
  fun hS ⟨g, o, cells, e, fps, h1, h2, h3, h4, h5, h6, h7, h8, h9, h10, h11, h12⟩ => ⟨g, o, cells, e, fps, h1, h2, h3, h4, h5, h6, h7, h8, h9, h10, h11, fun i hi hi' hm => by obtain ⟨g, k1, k2⟩ := h12 i hi hi' hm; exact ⟨g, k1, own_mono hS k2⟩⟩,
  fun hS hf ⟨g, o, cells, e, fps, h1, h2, h3, h4, h5, h6, h7, h8, h9, h10, h11, h12⟩ => ⟨g, o, cells, e, fps, h1, by rw [hf g (by rw [h10]; simp)]; exact h2, h3, h4, h5, h6, h7, h8, h9, h10, h11, fun i hi hi' hm => q_keep hS (fun b hb => hf b (by
    rw [h10]
    refine List.mem_cons_of_mem _ (List.mem_flatten.2 ⟨fps[i], ?_, hb⟩)
    have : (fps.set m [])[i]'(by simpa using hi') = fps[i] := List.getElem_set_ne (Ne.symm hm) _
    rw [← this]; exact List.getElem_mem _)) (h12 i hi hi' hm)⟩,
  fun ⟨g, o, cells, e, fps, h1, h2, h3, h4, h5, h6, h7, h8, h9, h10, h11, h12⟩ b hb => by
    rw [h10] at hb
    rcases List.mem_cons.1 hb with rfl | hb
    · exact lt_of_some h2
    · obtain ⟨i, hi, him, hb⟩ := set_nil_mem hb
      exact q_lt (h12 i (by omega) hi him) b hb⟩

theorem nodup_split {g : Nat} {fps : List (List Nat)} {m : Nat} (hm : m < fps.length) (h : (g :: fps.flatten).Nodup) : (fps[m] ++ (g :: (fps.set m []).flatten)).Nodup ∧ (g :: (fps.set m []).flatten).Nodup := by
  have h2 : (g :: (fps.set m []).flatten).Nodup := flat_set_nodup hm h List.nodup_nil (fun _ h => by cases h)
  refine ⟨List.nodup_append.2 ⟨?_, h2, fun b hb c hc => ?_⟩, h2⟩
  · exact (List.nodup_cons.1 h).2.sublist (List.sublist_flatten_of_mem (List.getElem_mem hm))
  · rintro rfl
    rcases List.mem_cons.1 hc with rfl | hc
    · exact (List.nodup_cons.1 h).1 (List.mem_flatten.2 ⟨_, List.getElem_mem hm, hb⟩)
    · obtain ⟨i, hi, him, hb'⟩ := set_nil_mem hc
      have hp := (List.pairwise_flatten.1 (List.nodup_cons.1 h).2).2
      rw [List.pairwise_iff_getElem] at hp
      rcases Nat.lt_or_gt_of_ne him with h1 | h1
      · exact hp i m hi hm h1 b hb' b hb rfl
      · exact hp m i hm hi h1 b hb b hb' rfl
/-- element m is taken out -/
theorem Cx.take {α : Type} [Rep α] {xs : List α} {h : Hd} {k : Int} {a : α} (H : Cx w0 F S0 w (E (List α) xs h :: Γ)) (hx : idxO xs k = some a) :
    ∃ (p : Addr) (m : Nat) (g : Gh α), h.a = some p ∧ k = (m : Int) ∧ m < h.n ∧ Cx w0 F S0 w (E α a g :: EX α m (cl a g) xs h :: Γ) := by
  obtain ⟨S, fp, I⟩ := H
  obtain ⟨f, r, rfl, h1, h2⟩ := I.all
  have h1 : OwnG (sz α) (qOf S) w f h.a h.n h.c xs := h1
  obtain ⟨m, rfl, hm, hml⟩ := idxO_some hx
  have he : xs[m] = a := by rw [List.getElem?_eq_getElem hml] at hm; exact Option.some.inj hm
  rcases h1 with ⟨_, _, _, rfl, _⟩ | ⟨b, o, cells, e, fps, ha, hg, hn, hnc, hcm, hsz, hl, rfl, hnd, hqs⟩
  · simp at hml
  · have hmf : m < fps.length := by omega
    obtain ⟨g, hc, hr⟩ := hqs m hml hmf
    rw [he] at hc hr
    obtain ⟨n1, n2, n3⟩ := List.nodup_append.1 I.nd
    obtain ⟨s1, s2⟩ := nodup_split hmf n1
    have hsub : ∀ x ∈ fps[m] ++ (b :: (fps.set m []).flatten), x ∈ b :: fps.flatten := by
      intro x hx
      rcases List.mem_append.1 hx with hx | hx
      · exact List.mem_cons_of_mem _ (List.mem_flatten.2 ⟨_, List.getElem_mem hmf, hx⟩)
      · rcases List.mem_cons.1 hx with rfl | hx
        · simp
        · obtain ⟨i, hi, _, hb⟩ := set_nil_mem hx
          exact List.mem_cons_of_mem _ (List.mem_flatten.2 ⟨_, List.getElem_mem hi, hb⟩)
    refine ⟨⟨b, o, none⟩, m, g, ha, rfl, by omega, S, fps[m] ++ ((b :: (fps.set m []).flatten) ++ r), I.upd, I.s0, I.sb, ⟨fps[m], _, rfl, hr, b :: (fps.set m []).flatten, r, rfl, ⟨b, o, cells, e, fps, ha, hg, hn, hnc, hcm, hsz, hl, hml, hc, rfl, s2, fun i hi hi' _ => hqs i hi hi'⟩, h2⟩, ?_, fun x hx => ?_⟩
    · rw [← List.append_assoc]
      exact List.nodup_append.2 ⟨s1, n2, fun x hx y hy => n3 x (hsub x hx) y hy⟩
    · rw [← List.append_assoc] at hx
      refine I.out x ?_
      rcases List.mem_append.1 hx with hx | hx
      · exact List.mem_append_left _ (hsub x hx)
      · exact List.mem_append_right _ hx
/-- and put back, maybe changed -/
theorem Cx.put {α : Type} [Rep α] {xs ys : List α} {h : Hd} {k : Int} {m : Nat} {y : α} {g : Gh α} (H : Cx w0 F S0 w (E α y g :: EX α m (cl y g) xs h :: Γ)) (hk : k = (m : Int)) (hs : setO xs k y = some ys) : Cx w0 F S0 w (E (List α) ys h :: Γ) := by
  obtain ⟨m', hk', hm', rfl⟩ := setO_some hs
  obtain rfl : m = m' := by omega
  obtain ⟨S, fp, I⟩ := H
  obtain ⟨f, r, rfl, h1, f2, r2, rfl, h2, h3⟩ := I.all
  have h1 : own w S f y g := h1
  obtain ⟨b, o, cells, e, fps, ha, hg, hn, hnc, hcm, hsz, hl, hml, hc, rfl, hnd, hqs⟩ := h2
  have hn0 := I.nd
  rw [← List.append_assoc] at hn0
  obtain ⟨n1, n2, n3⟩ := List.nodup_append.1 hn0
  obtain ⟨m1, m2, m3⟩ := List.nodup_append.1 n1
  have hmf : m < fps.length := by omega
  have hset : (fps.set m []).set m f = fps.set m f := List.set_set ..
  have hnd2 : (b :: (fps.set m f).flatten).Nodup := by
    rw [← hset]
    exact flat_set_nodup (by simpa using hmf) hnd m1 (fun x hx => .inr (fun hx' => m3 x hx x hx' rfl))
  have hsub : ∀ x ∈ b :: (fps.set m f).flatten, x ∈ f ++ (b :: (fps.set m []).flatten) := by
    intro x hx
    rcases List.mem_cons.1 hx with rfl | hx
    · exact List.mem_append_right _ (by simp)
    · rw [← hset] at hx
      rcases flat_mem hx with hx | hx
      · exact List.mem_append_left _ hx
      · exact List.mem_append_right _ (List.mem_cons_of_mem _ hx)
  refine ⟨S, (b :: (fps.set m f).flatten) ++ r2, I.upd, I.s0, I.sb, ⟨b :: (fps.set m f).flatten, r2, rfl, .inr ⟨b, o, cells, e, fps.set m f, ha, hg, by simpa using hn, hnc, hcm, hsz, by simpa using hl, rfl, hnd2, fun i hi hi' => ?_⟩, h3⟩, List.nodup_append.2 ⟨hnd2, n2, fun x hx z hz => n3 x (hsub x hx) z hz⟩, fun x hx => I.out x ?_⟩
  · simp only [List.length_set] at hi hi'
    by_cases him : i = m
    · subst him
      rw [List.getElem_set_self, List.getElem_set_self]
      exact ⟨g, hc, h1⟩
    · rw [List.getElem_set_ne (Ne.symm him), List.getElem_set_ne (Ne.symm him)]
      exact hqs i hi hi' him
  · rw [← List.append_assoc]
    rcases List.mem_append.1 hx with hx | hx
    · exact List.mem_append_left _ (hsub x hx)
    · exact List.mem_append_right _ hx
/-- the open cells -/
theorem Cx.hx {α : Type} [Rep α] {xs : List α} {h : Hd} {m : Nat} {cs : List Value} {p : Addr} (H : Cx w0 F S0 w Γ) (i : Nat) (hi : entAt Γ i = EX α m cs xs h) (ha : h.a = some p) : ∀ j u, cs[j]? = some u → w.cell? ((p.add (m * sz α)).add j) = some u := by
  intro j u hj
  obtain ⟨S, fp, b, o, cells, e, fps, ha', hg, hn, hnc, hcm, hsz, hl, hml, hc, rfl, hnd, hqs⟩ := H.at_ i hi
  rw [ha] at ha'
  obtain rfl := Option.some.inj ha'
  rw [Addr.add_lit, Addr.add_lit]
  refine chk_cell hg ?_
  rw [hc]; exact hj
theorem Cx.hx0 {α : Type} [Rep α] {xs : List α} {h : Hd} {m : Nat} {cs : List Value} {p : Addr} {u : Value} (H : Cx w0 F S0 w Γ) (i : Nat) (hi : entAt Γ i = EX α m (u :: cs) xs h) (ha : h.a = some p) (hs : sz α = 1) : w.cell? (p.add (m * 1)) = some u := by
  have := H.hx i hi ha 0 u rfl
  rwa [addr_add0, hs] at this
/-- a known element is taken out -/
theorem Cx.takeK {α : Type} [Rep α] {xs : List α} {h : Hd} {ks : List (Kn α)} {k : Kn α} (H : Cx w0 F S0 w (EH α xs h ks :: Γ)) (j : Nat) (hj : ks[j]? = some k) : Cx w0 F S0 w (E α k.x k.g :: EX α k.m (cl k.x k.g) xs h :: Γ) := by
  have hx : ∃ S fp, (EH α xs h ks).h w S fp := H.at_ 0 rfl
  obtain ⟨S, fp, h1, h2⟩ := hx
  obtain ⟨hm, b, o, ha, hc⟩ := h2 k (List.mem_of_getElem? hj)
  have hml : k.m < xs.length := (List.getElem?_eq_some_iff.1 hm).1
  obtain ⟨p, m, g, k1, k2, k3, H1⟩ := H.ofEH.take (k := (k.m : Int)) (a := k.x) (by unfold idxO; rw [if_pos (by omega), Int.toNat_natCast]; exact hm)
  obtain rfl : m = k.m := by omega
  rw [ha] at k1
  obtain rfl := Option.some.inj k1
  have hh := H1.hx 1 rfl ha
  have : g = k.g := by
    refine cl_inj k.x _ _ (List.ext_getElem? fun j => ?_)
    by_cases hj : j < sz α
    · have l1 : j < (cl k.x g).length := by rw [cl_len]; exact hj
      have l2 : j < (cl k.x k.g).length := by rw [cl_len]; exact hj
      have e1 := hh j _ (List.getElem?_eq_getElem l1)
      have e2 := hc j _ (List.getElem?_eq_getElem l2)
      rw [Addr.add_lit, Addr.add_lit] at e1
      rw [e1] at e2
      rw [List.getElem?_eq_getElem l1, List.getElem?_eq_getElem l2]; exact e2
    · rw [List.getElem?_eq_none (by rw [cl_len]; omega), List.getElem?_eq_none (by rw [cl_len]; omega)]
  rw [this] at H1
  exact H1
theorem Vw.part {α β : Type} [Rep α] [Rep β] {x : α} {g : Gh α} (hv : Vw w Γ (Es α x g)) (x' : β) (g' : Gh β) (hp : ∀ S, rd w S x g → rd w S x' g') : Vw w Γ (Es β x' g') := fun S fp h => ⟨rfl, hp _ (hv S fp h).2⟩
theorem Rdb.part {α β : Type} [Rep α] [Rep β] {x : α} {g : Gh α} (hr : Rdb w x g) (x' : β) (g' : Gh β) (hp : ∀ S, rd w S x g → rd w S x' g') : Rdb w x' g' := by obtain ⟨S, h⟩ := hr; exact ⟨S, hp S h⟩
end
end Go.Proofs.YtnlbhdepagkjgaaDoor.RW
