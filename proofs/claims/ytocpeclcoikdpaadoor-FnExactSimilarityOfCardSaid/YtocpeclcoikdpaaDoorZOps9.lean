/-
  Literals of several elements; lists whose elements are shared. Conditions: the engine's table holds ('EngOk').
-/
import Derived.Test.YtocpeclcoikdpaaDoorZOps8
import Derived.Laws.Cover3
namespace Go.Proofs.YtocpeclcoikdpaaDoor.RW
open Go
open Go.RowKit (Below)
open Rep RepZ
section
variable {P : Program} {G : Eng} {w : World}

/-! ### literals -/

variable {w0 : World} {F : List Nat} {S0 : Nat → Prop} {Γ : List Ent}
def CellsL {α : Type} [Rep α] : List Value → List α → List (Gh α) → Prop
  | u :: us, x :: xs, g :: gs => u.cells = (cl x g).toArray ∧ CellsL us xs gs
  | [], [], [] => True
  | _, _, _ => False
theorem CellsL.len {α : Type} [Rep α] : ∀ {us : List Value} {xs : List α} {gs : List (Gh α)}, CellsL us xs gs → us.length = xs.length ∧ gs.length = xs.length
  | _ :: us, _ :: xs, _ :: gs, h => by obtain ⟨h1, h2⟩ := h.2.len; simp [h1, h2]
  | [], [], [], _ => ⟨rfl, rfl⟩
theorem CellsL.size {α : Type} [Rep α] : ∀ {us : List Value} {xs : List α} {gs : List (Gh α)}, CellsL us xs gs → ∀ u ∈ us, u.cells.size = sz α
  | _ :: us, _ :: xs, _ :: gs, h, u, hu => by
    rcases List.mem_cons.1 hu with rfl | hu
    · rw [h.1]; simp [cl_len]
    · exact h.2.size u hu

/-! ### lists whose elements are shared -/
theorem flat_rep (n : Nat) : (List.replicate n ([] : List Nat)).flatten = [] := by simp
/-- the elements of a list of one's own are shared from now on -/
theorem Cx.frzE {α : Type} [Rep α] {xs : List α} {h : Hd} (H : Cx w0 F S0 w (E (List α) xs h :: Γ)) : Cx w0 F S0 w (E (List (Sh α)) xs h :: Γ) := by
  obtain ⟨S, fp, H⟩ := H
  obtain ⟨f, r, rfl, h1, h2⟩ := H.all
  obtain ⟨n1, n2, n3⟩ := List.nodup_append.1 H.nd
  have h1 : OwnG (sz α) (qOf S) w f h.a h.n h.c xs := h1
  rcases h1 with ⟨e1, e2, e3, rfl, rfl⟩ | ⟨g, o, cells, e, fps, ha, hg, hn, hnc, hcm, hsz, hl, rfl, hnd, hqs⟩
  · exact ⟨S, r, H.upd, H.s0, H.sb, ⟨[], r, rfl, .inl ⟨e1, e2, e3, rfl, rfl⟩, h2⟩, by simpa using H.nd, fun b hb => H.out b (by simpa using hb)⟩
  · have hg0 := List.nodup_cons.1 hnd
    refine ⟨fun b => S b ∨ b ∈ fps.flatten, g :: r, H.upd, fun b hb => .inl (H.s0 b hb), fun b hb => ?_, ⟨[g], r, rfl, .inr ⟨g, o, cells, e, List.replicate xs.length [], ha, hg, hn, hnc, hcm, hsz, (List.length_replicate : _), by rw [flat_rep], by simp, fun i hi hi' => ?_⟩, h2.mono (fun _ h => .inl h)⟩, List.nodup_cons.2 ⟨fun hm => n3 g (List.mem_cons_self ..) g hm rfl, n2⟩, fun b hb => ?_⟩
    · rcases hb with hb | hb
      · exact H.sb b hb
      · refine ⟨H.all.lt b (List.mem_append_left _ (List.mem_cons_of_mem _ hb)), ?_⟩
        rcases (H.out b (List.mem_append_left _ (List.mem_cons_of_mem _ hb))).2 with k | k
        · exact .inr (.inl k)
        · exact .inr (.inr k)
    · have hi2 : i < fps.length := by rw [hl]; exact hi
      obtain ⟨g', k1, k2⟩ := hqs i hi hi2
      rw [List.getElem_replicate]
      exact ⟨g', k1, rfl, rd_mono (α := α) (fun b hb => by
        rcases hb with hb | hb
        · exact .inl hb
        · exact .inr (List.mem_flatten.2 ⟨_, List.getElem_mem _, hb⟩)) (own_rd k2)⟩
    · rcases List.mem_cons.1 hb with rfl | hb
      · have := H.out b (List.mem_append_left _ (List.mem_cons_self ..))
        exact ⟨fun hS => by rcases hS with hS | hS; exact this.1 hS; exact hg0.1 hS, this.2⟩
      · have := H.out b (List.mem_append_right _ hb)
        exact ⟨fun hS => by rcases hS with hS | hS; exact this.1 hS; exact n3 b (List.mem_cons_of_mem _ hS) b hb rfl, this.2⟩
/-- append(xs, ys...), ys shared -/
theorem appendSh {α : Type} [Rep α] (ok : EngOk P G) {t e ty st bt be : Nat} {zt ze : Value} {ke : TK}
    (ht : nthO G.tt t = some ⟨.slice e, st, bt, zt⟩) (he : nthO G.tt e = some ⟨ke, sz α, be, ze⟩) (hz : ze.cells.size = sz α) (h0 : Nat.blt 0 (sz α) = true) (hbe : Nat.ble be 128 = true)
    {xs ys zs : List α} {h h2 : Hd} (H : Cx w0 F S0 w (E (List (Sh α)) xs h :: Γ)) (i : Nat) (hi : entAt Γ i = Es (List α) ys h2) (hzs : appO xs ys = some zs) {K : Value → World → Prop}
    (hK : ∀ (h' : Hd) w', Cx w0 F S0 w' (E (List (Sh α)) zs h' :: Γ) → K h'.v w') :
    ERun P (Builtin.append_ #[t, t] ty #[h.v, h2.v]) w K := by
  obtain ⟨hmax, rfl⟩ := appO_some hzs
  have hbe := Nat.le_of_ble_eq_true hbe
  have h0 : 0 < sz α := by simpa [Nat.blt_eq] using h0
  rw [maxN_le] at hmax
  have H := H.dup (i + 1) (e := Es (List α) ys h2) hi persS
  obtain ⟨S, f1, h1, h3⟩ := Cx.frame (Γ1 := [Es (List α) ys h2, E (List (Sh α)) xs h]) H
  obtain ⟨f0, fr, rfl, ⟨rfl, hrd⟩, fx, r, rfl, ox, hr⟩ := h1.all
  obtain rfl : r = [] := hr
  have ox : OwnG (sz α) (qOf (α := Sh α) S) w fx h.a h.n h.c xs := ox
  have hn : h.n = List.length (α := α) xs := ox.n_eq
  obtain ⟨news, hs, hq⟩ := rd_src (α := α) h0 (und_slice (und_of ok ht)) hrd
  have hn2 : h2.n = ys.length := by
    have hrd : RdG (sz α) (rOf (α := α) S) w S h2.a h2.n h2.c ys := hrd
    exact hrd.1
  have hS : ∀ b, S b → b < w.heap.size ∧ b ∉ fx.take 1 := fun b hb => ⟨(h1.sb b hb).1, fun hm => (h1.out b (by simpa using List.mem_of_mem_take hm)).1 hb⟩
  have hprod : (h.n + ys.length) * be ≤ 140737488355328 := by
    have : (h.n + ys.length) * be ≤ 1099511627776 * 128 := Nat.mul_le_mul (by omega) hbe
    omega
  rw [hn2] at hs
  have hS2 : ∀ {w' : World} {f : List Nat}, Upd f w w' → (∀ b ∈ f, b ∈ fx.take 1) → ∀ b, S b → w'.heap[b]? = w.heap[b]? := fun hu hm b hb => hu.block b (hS b hb).1 (fun hf => (hS b hb).2 (hm b hf))
  refine append_own ok ht he hz ox (fun w' f cs x hu hf hx => q_upd (α := Sh α) hS hu hf hx) hs ys (List.replicate ys.length []) rfl (by simp) (fun i hi hi' => ?_) (fun b hb => ?_) ?_ hprod (by unfold maxLen; omega) ?_
  · obtain ⟨g, h4, h5⟩ := hq i hi
    rw [List.getElem_replicate]
    exact ⟨g, h4, rfl, h5⟩
  · have hb : b ∈ fx := by simpa using hb
    exact ox.lt (q_lt (α := Sh α)) b hb
  · have : (List.replicate ys.length ([] : List Nat)).flatten = [] := by simp
    rw [this, List.append_nil]; exact ox.nodup
  · intro A' c' w' fp' ho hu hm
    refine hK (Hd.mk A' (h.n + ys.length) c') w' ?_
    have := h3 w' [Es (List α) ys h2, E (List (Sh α)) (xs ++ ys) (Hd.mk A' (h.n + ys.length) c')] ⟨S, fp', hu.mono (fun b hb => .inl (by simpa using List.mem_of_mem_take hb)), fun _ h => h, fun b hb => ⟨Nat.lt_of_lt_of_le (h1.sb b hb).1 hu.size, .inl hb⟩, ⟨[], fp', rfl, ⟨rfl, rd_keep (α := List α) (fun b hb => hu.block b (hS b hb).1 (hS b hb).2) hrd⟩, fp', [], by simp, ho, rfl⟩, ho.nodup, fun b hb => ?_⟩
    · exact this.sel [1] rfl |> fun _ => by
        obtain ⟨S', fp2, K⟩ := this
        obtain ⟨f0, r0, rfl, ⟨rfl, _⟩, k2⟩ := K.all
        exact ⟨S', r0, K.upd, K.s0, K.sb, k2, by simpa using K.nd, fun b hb => K.out b (by simpa using hb)⟩
    · rcases hm b hb with k | k | k
      · refine ⟨(h1.out b (by simpa using k)).1, .inl (by simpa using k)⟩
      · simp at k
      · refine ⟨fun hSb => ?_, .inr k⟩
        have := (h1.sb b hSb).1; omega

/-! ### a slice against nil -/
/-! ### what is lent for a while -/
theorem Cx.reS {e e' : Ent} (he : e = e') (H : Cx w0 F S0 w (e :: Γ)) : Cx w0 F S0 w (e' :: Γ) := he ▸ H
theorem all_nil {S : Nat → Prop} : ∀ {Γs : List Ent}, (∀ e ∈ Γs, e.h w S []) → All w S Γs []
  | [], _ => rfl
  | e :: _, h => ⟨[], [], rfl, h e (List.mem_cons_self ..), all_nil (fun x hx => h x (List.mem_cons_of_mem _ hx))⟩
theorem Cx.lend {Γs : List Ent} (H : Cx w0 F S0 w Γ) (hv : Vws w Γ Γs) : ∃ S, Cx w [] S w Γs ∧ ∀ w' Γ2, Cx w [] (fun _ => False) w' Γ2 → Cx w0 F S0 w' (Γ2 ++ Γ) := by
  obtain ⟨S, f1, h1, h2, h3⟩ := Cx.frameL (Γ1 := []) H
  have hf : f1 = [] := h1.all
  subst hf
  exact ⟨S, ⟨S, [], h1.upd, h1.s0, h1.sb, all_nil (fun e he => h2 e (hv.all e he)), h1.nd, h1.out⟩, h3⟩
end
end Go.Proofs.YtocpeclcoikdpaaDoor.RW
