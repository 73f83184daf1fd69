/-
  A list that has been appended to another one and is read once more: the whole, and beside it what the second one still shows. Conditions: those of the rules.
-/
import Derived.Test.YtocpeclcoikdpaaDoorZOps15
namespace Go.Proofs.YtocpeclcoikdpaaDoor.RW
open Go
open Rep RepZ
/-- e, and beside it v, which may read what e owns -/
def EV (e v : Ent) : Ent := ⟨fun w S fp => ∃ f1 f2, fp = f1 ++ f2 ∧ e.h w S f1 ∧ (∀ b ∈ f2, b < w.heap.size) ∧ v.h w (fun b => S b ∨ b ∈ fp) [],
  fun hS ⟨f1, f2, h1, h2, h3, h4⟩ => ⟨f1, f2, h1, e.mono hS h2, h3, v.mono (fun b hb => hb.imp (hS b) id) h4⟩,
  fun hS hf ⟨f1, f2, h1, h2, h3, h4⟩ => ⟨f1, f2, h1, e.keep hS (fun b hb => hf b (by rw [h1]; exact List.mem_append_left _ hb)) h2,
    fun b hb => by
      have := hf b (by rw [h1]; exact List.mem_append_right _ hb)
      rw [Array.getElem?_eq_getElem (h3 b hb)] at this
      exact lt_of_some this,
    v.keep (fun b hb => hb.elim (hS b) (hf b)) (fun b hb => by cases hb) h4⟩,
  fun ⟨f1, f2, h1, h2, h3, h4⟩ b hb => by
    rw [h1] at hb
    rcases List.mem_append.1 hb with hb | hb
    · exact e.lt h2 b hb
    · exact h3 b hb⟩
section
variable {P : Program} {G : Eng} {w w0 : World} {F : List Nat} {S0 : Nat → Prop} {Γ : List Ent}
theorem Vw.ev {e v : Ent} (i : Nat) (hi : entAt Γ i = EV e v) : Vw w Γ v := by
  intro S fp h
  obtain ⟨f, h1, h2⟩ := h.ent i
  rw [hi] at h1
  obtain ⟨f1, f2, k1, k2, k3, k4⟩ := h1
  exact v.mono (fun b hb => hb.imp id (h2 b)) k4
theorem Cx.ofEV {e v : Ent} (H : Cx w0 F S0 w (EV e v :: Γ)) : Cx w0 F S0 w (e :: Γ) := by
  obtain ⟨S, fp, I⟩ := H
  obtain ⟨f, r, hfp, ⟨f1, f2, k1, k2, k3, k4⟩, h2⟩ := I.all
  subst k1
  have hsub : ∀ b ∈ f1 ++ r, b ∈ fp := fun b hb => by
    rw [hfp]
    rcases List.mem_append.1 hb with hb | hb
    · exact List.mem_append_left _ (List.mem_append_left _ hb)
    · exact List.mem_append_right _ hb
  have hnd : (f1 ++ r).Nodup := by
    have := I.nd
    rw [hfp] at this
    exact this.sublist (List.Sublist.append_right (List.sublist_append_left _ _) _)
  exact ⟨S, f1 ++ r, I.upd, I.s0, I.sb, ⟨f1, r, rfl, k2, h2⟩, hnd, fun b hb => I.out b (hsub b hb)⟩
/-- append(xs, ys...), both one's own; ys may be read on -/
theorem appendV {α : Type} [Rep α] (ok : EngOk P G) {t e ty st bt be : Nat} {zt ze : Value} {ke : TK}
    (ht : nthO G.tt t = some ⟨.slice e, st, bt, zt⟩) (he : nthO G.tt e = some ⟨ke, sz α, be, ze⟩) (hz : ze.cells.size = sz α) (hbe : Nat.ble be 128 = true)
    {xs ys zs : List α} {h h2 : Hd} (H : Cx w0 F S0 w (E (List α) xs h :: E (List α) ys h2 :: Γ)) (hzs : appO xs ys = some zs) {K : Value → World → Prop}
    (hK : ∀ (h' : Hd) w', Cx w0 F S0 w' (EV (E (List α) zs h') (Es (List α) ys h2) :: Γ) → K h'.v w') :
    ERun P (Builtin.append_ #[t, t] ty #[h.v, h2.v]) w K := by
  obtain ⟨hmax, rfl⟩ := appO_some hzs
  have hbe := Nat.le_of_ble_eq_true hbe
  rw [maxN_le] at hmax
  obtain ⟨S, f1, h1, h3⟩ := Cx.frame (Γ1 := [E (List α) xs h, E (List α) ys h2]) H
  obtain ⟨fx, r, rfl, ox, fy, r2, rfl, oy0, hr⟩ := h1.all
  obtain rfl : r2 = [] := hr
  have ox : OwnG (sz α) (qOf S) w fx h.a h.n h.c xs := ox
  have oy : OwnG (sz α) (qOf S) w fy h2.a h2.n h2.c ys := oy0
  have hn := ox.n_eq
  have hn2 := oy.n_eq
  obtain ⟨news, fps, hs, hfl, hfm, hfn, hq⟩ := own_src (und_slice (und_of ok ht)) oy
  have hxy : ∀ b ∈ fx, b ∉ fy := fun b hb hb' => by
    have := (List.nodup_append.1 h1.nd).2.2 b hb b (by simpa using hb')
    exact this rfl
  have hS : ∀ b, S b → b < w.heap.size ∧ b ∉ fx.take 1 := fun b hb => ⟨(h1.sb b hb).1, fun hm => (h1.out b (List.mem_append_left _ (List.mem_of_mem_take hm))).1 hb⟩
  have hprod : (h.n + ys.length) * be ≤ 140737488355328 := by
    have : (h.n + ys.length) * be ≤ 1099511627776 * 128 := Nat.mul_le_mul (by omega) hbe
    omega
  rw [hn2] at hs
  refine append_own ok ht he hz ox (fun w' f cs x hu hf hx => q_upd hS hu hf hx) hs ys fps rfl hfl hq (fun b hb => ?_) ?_ hprod (by unfold maxLen; omega) ?_
  · rcases List.mem_append.1 hb with hb | hb
    · exact ox.lt q_lt b hb
    · exact oy.lt q_lt b (hfm b hb)
  · exact List.nodup_append.2 ⟨ox.nodup, hfn, fun b hb c hc e => hxy b hb (e ▸ hfm c hc)⟩
  · intro A' c' w' fp' ho hu hm
    have hky : ∀ b ∈ fy, w'.heap[b]? = w.heap[b]? := fun b hb => hu.block b (oy.lt q_lt b hb) fun hm => hxy b (List.mem_of_mem_take hm) hb
    have hkS : ∀ b, S b → w'.heap[b]? = w.heap[b]? := fun b hb => hu.block b (hS b hb).1 (hS b hb).2
    have hv : rd w' (fun b => S b ∨ b ∈ fy) ys h2 := own_rd (α := List α) (own_keep (α := List α) hkS hky oy0)
    refine hK (Hd.mk A' (h.n + ys.length) c') w' (h3 w' [EV (E (List α) (xs ++ ys) (Hd.mk A' (h.n + ys.length) c')) (Es (List α) ys h2)] ⟨S, fp' ++ fy.filter (fun b => decide (b ∉ fp')), hu.mono (fun b hb => .inl (List.mem_append_left _ (List.mem_of_mem_take hb))), fun _ h => h, fun b hb => ⟨Nat.lt_of_lt_of_le (h1.sb b hb).1 hu.size, .inl hb⟩, ⟨fp' ++ fy.filter (fun b => decide (b ∉ fp')), [], by simp, ⟨fp', _, rfl, ho, fun b hb => ?_, rfl, ?_⟩, rfl⟩, ?_, fun b hb => ?_⟩)
    · exact Nat.lt_of_lt_of_le (oy.lt q_lt b (List.mem_filter.1 hb).1) hu.size
    · refine rd_mono (α := List α) (fun b hb => ?_) hv
      rcases hb with hb | hb
      · exact Or.inl hb
      · by_cases hin : b ∈ fp'
        · exact Or.inr (List.mem_append_left _ hin)
        · exact Or.inr (List.mem_append_right _ (List.mem_filter.2 ⟨hb, by simpa using hin⟩))
    · refine List.nodup_append.2 ⟨ho.nodup, oy.nodup.sublist List.filter_sublist, fun b hb c hc e => ?_⟩
      subst e
      have := (List.mem_filter.1 hc).2
      simp at this
      exact this hb
    · have : b ∈ fx ++ (fy ++ []) ∨ w.heap.size ≤ b := by
        rcases List.mem_append.1 hb with hb | hb
        · rcases hm b hb with k | k | k
          · exact .inl (List.mem_append_left _ k)
          · exact .inl (List.mem_append_right _ (by simpa using hfm b k))
          · exact .inr k
        · exact .inl (List.mem_append_right _ (by simpa using (List.mem_filter.1 hb).1))
      refine ⟨fun hSb => ?_, this⟩
      rcases this with k | k
      · exact (h1.out b k).1 hSb
      · have := (h1.sb b hSb).1; omega
/-- an element of a shared list, its place known, read once more in a later world -/
theorem Cx.elL2 {β : Type} [Rep β] {xs : List (List β)} {h : Hd} {k : Int} {a : List β} {p : Addr} {m : Nat} (H : Cx w0 F S0 w Γ) (i : Nat) (hi : entAt Γ i = Es (List (List β)) xs h) (hx : idxO xs k = some a) (hp : h.a = some p) (hk : k = (m : Int)) :
    ∃ g : Hd, w.cell? (p.add (m * 1)) = some g.v ∧ Cx w0 F S0 w (Es (List β) a g :: Γ) := by
  obtain ⟨p', m', g, h1, h2, _, h4, h5⟩ := H.elL i hi hx
  rw [hp] at h1
  obtain rfl := Option.some.inj h1
  obtain rfl : m = m' := by omega
  exact ⟨g, h4, h5⟩
end
end Go.Proofs.YtocpeclcoikdpaaDoor.RW
