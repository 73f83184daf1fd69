/-
  Rules over the state of a walk: what is read, what is shared, what is lent; calls. No condition.
-/
import Derived.Test.YtnlbhdepagkjgaaDoorZOps
namespace Go.Proofs.YtnlbhdepagkjgaaDoor.RW
open Go
open Go.RowKit (Below)
open Rep

/-- one-cell values without memory -/
class Sc (α : Type) [Rep α] where
  val : α → Value
  sz1 : sz α = 1
  cl_val : ∀ (x : α) g, cl x g = [val x]
  one : ∀ x, (val x).oneCell' = true
  rd_any : ∀ (w : World) S (x : α) g, rd w S x g
  own_nil : ∀ (w : World) S f (x : α) g, own w S f x g ↔ f = []
  gh : Gh α
instance : Sc Int := ⟨fun x => .int .i64 x, rfl, fun _ _ => rfl, fun _ => rfl, fun _ _ _ _ => trivial, fun _ _ _ _ _ => Iff.rfl, ()⟩
instance : Sc Bool := ⟨fun x => .bool x, rfl, fun _ _ => rfl, fun _ => rfl, fun _ _ _ _ => trivial, fun _ _ _ _ _ => Iff.rfl, ()⟩

section
variable {P : Program} {G : Eng} {w0 w : World} {F : List Nat} {S0 : Nat → Prop} {Γ Γ1 Γ2 : List Ent}

/-- x is read in w, with headers g -/
def Rdb (w : World) {α : Type} [Rep α] (x : α) (g : Gh α) : Prop := ∃ S, rd w S x g
theorem Cx.ro {α : Type} [Rep α] {x : α} {g : Gh α} (H : Cx w0 F S0 w Γ) (i : Nat) (hi : entAt Γ i = E α x g) : Rdb w x g := by
  obtain ⟨S, fp, h⟩ := H.at_ i hi
  exact ⟨_, own_rd h⟩
theorem Cx.rs {α : Type} [Rep α] {x : α} {g : Gh α} (H : Cx w0 F S0 w Γ) (i : Nat) (hi : entAt Γ i = Es α x g) : Rdb w x g := by
  obtain ⟨S, fp, h⟩ := H.at_ i hi
  exact ⟨S, h.2⟩
theorem addr_add0 (a : Addr) : a.add 0 = a := Addr.add_zero' a

theorem Rdb.el {α : Type} [Rep α] {xs : List α} {h : Hd} {k : Int} {a : α} (hr : Rdb w xs h) (hx : idxO xs k = some a) :
    ∃ (p : Addr) (m : Nat) (g : Gh α), h.a = some p ∧ k = (m : Int) ∧ m < h.n ∧ (∀ j u, (cl a g)[j]? = some u → w.cell? ((p.add (m * sz α)).add j) = some u) ∧ Rdb w a g := by
  obtain ⟨S, h1, h2, h3, h4⟩ := hr
  obtain ⟨m, rfl, hm, hml⟩ := idxO_some hx
  obtain ⟨b, o, ha, hb, hc⟩ := h4 (by omega)
  obtain ⟨cs, k1, g, rfl, k2⟩ := hc m hml
  have he : xs[m] = a := by rw [List.getElem?_eq_getElem hml] at hm; exact Option.some.inj hm
  rw [he] at k1 k2
  exact ⟨⟨b, o, none⟩, m, g, ha, rfl, by omega, fun j u hj => by rw [Addr.add_lit, Addr.add_lit]; exact k1 j u hj, S, k2⟩
theorem Rdb.at1 {α : Type} [Rep α] [Sc α] {xs : List α} {h : Hd} {k : Int} {a : α} (hr : Rdb w xs h) (hx : idxO xs k = some a) :
    ∃ (p : Addr) (m : Nat), h.a = some p ∧ k = (m : Int) ∧ m < h.n ∧ w.cell? (p.add (m * 1)) = some (Sc.val a) := by
  obtain ⟨p, m, g, h1, h2, h3, h4, _⟩ := hr.el hx
  refine ⟨p, m, h1, h2, h3, ?_⟩
  have := h4 0 (Sc.val a) (by rw [Sc.cl_val]; rfl)
  rwa [addr_add0, Sc.sz1 (α := α)] at this
theorem Rdb.len {α : Type} [Rep α] {xs : List α} {h : Hd} (hr : Rdb w xs h) : h.n = xs.length := by obtain ⟨S, h1, _⟩ := hr; exact h1
theorem Rdb.max {α : Type} [Rep α] {xs : List α} {h : Hd} (hr : Rdb w xs h) : xs.length ≤ 9223372036854775807 := by
  obtain ⟨S, h1, h2, h3, _⟩ := hr
  unfold maxLen at h3; omega
theorem Rdb.some_ {α : Type} [Rep α] {xs : List α} {h : Hd} (hr : Rdb w xs h) (hp : 0 < xs.length) : ∃ p, h.a = some p := by
  obtain ⟨S, h1, h2, h3, h4⟩ := hr
  obtain ⟨b, o, ha, _⟩ := h4 hp
  exact ⟨_, ha⟩

/-- an element of a shared list -/
theorem Cx.el {α : Type} [Rep α] {xs : List α} {h : Hd} {k : Int} {a : α} (H : Cx w0 F S0 w Γ) (i : Nat) (hi : entAt Γ i = Es (List α) xs h) (hx : idxO xs k = some a) :
    ∃ (p : Addr) (m : Nat) (g : Gh α), h.a = some p ∧ k = (m : Int) ∧ m < h.n ∧ (∀ j u, (cl a g)[j]? = some u → w.cell? ((p.add (m * sz α)).add j) = some u) ∧ Cx w0 F S0 w (Es α a g :: Γ) := by
  obtain ⟨S, fp, H⟩ := H
  obtain ⟨f, hf, _⟩ := H.all.ent i
  rw [hi] at hf
  obtain ⟨h1, h2, h3, h4⟩ := hf.2
  obtain ⟨m, rfl, hm, hml⟩ := idxO_some hx
  obtain ⟨b, o, ha, hb, hc⟩ := h4 (by omega)
  obtain ⟨cs, k1, g, rfl, k2⟩ := hc m hml
  have he : xs[m] = a := by rw [List.getElem?_eq_getElem hml] at hm; exact Option.some.inj hm
  rw [he] at k1 k2
  exact ⟨⟨b, o, none⟩, m, g, ha, rfl, by omega, fun j u hj => by rw [Addr.add_lit, Addr.add_lit]; exact k1 j u hj, S, fp, H.upd, H.s0, H.sb, ⟨[], fp, rfl, ⟨rfl, k2⟩, H.all⟩, H.nd, H.out⟩
/-- the same, the element a slice -/
theorem Cx.elL {β : Type} [Rep β] {xs : List (List β)} {h : Hd} {k : Int} {a : List β} (H : Cx w0 F S0 w Γ) (i : Nat) (hi : entAt Γ i = Es (List (List β)) xs h) (hx : idxO xs k = some a) :
    ∃ (p : Addr) (m : Nat) (g : Hd), h.a = some p ∧ k = (m : Int) ∧ m < h.n ∧ w.cell? (p.add (m * 1)) = some g.v ∧ Cx w0 F S0 w (Es (List β) a g :: Γ) := by
  obtain ⟨p, m, g, h1, h2, h3, h4, h5⟩ := H.el i hi hx
  refine ⟨p, m, g, h1, h2, h3, ?_, h5⟩
  have := h4 0 (Hd.v g) rfl
  rwa [addr_add0] at this
/-- an element of a list of one's own whose elements hold no memory -/
theorem Cx.exG {β : Type} [Rep β] {xs : List β} {h : Hd} {k : Int} {a : β} (hp : ∀ (w : World) (S : Nat → Prop) (f : List Nat) (x : β) (g : Gh β), own w S f x g → f = []) (H : Cx w0 F S0 w Γ) (i : Nat) (hi : entAt Γ i = E (List β) xs h) (hx : idxO xs k = some a) :
    ∃ (p : Addr) (m : Nat) (g : Gh β), h.a = some p ∧ k = (m : Int) ∧ m < h.n ∧ (∀ j u, (cl a g)[j]? = some u → w.cell? ((p.add (m * sz β)).add j) = some u) ∧ Cx w0 F S0 w (E β a g :: Γ) := by
  obtain ⟨S, fp, H⟩ := H
  obtain ⟨f, hf, _⟩ := H.all.ent i
  rw [hi] at hf
  obtain ⟨m, rfl, hm, hml⟩ := idxO_some hx
  have hf : OwnG (sz β) (qOf S) w f h.a h.n h.c xs := hf
  rcases hf with ⟨_, _, _, rfl, _⟩ | ⟨g, o, cells, e, fps, ha, hg, hn, hnc, hcm, hsz, hl, rfl, hnd, hqs⟩
  · simp at hml
  · obtain ⟨gh, hc, hr⟩ := hqs m hml (by rw [hl]; exact hml)
    have he : xs[m] = a := by rw [List.getElem?_eq_getElem hml] at hm; exact Option.some.inj hm
    rw [he] at hc hr
    have h0 := hp _ _ _ _ _ hr
    rw [h0] at hr
    refine ⟨⟨g, o, none⟩, m, gh, ha, rfl, by omega, fun j u hj => ?_, S, fp, H.upd, H.s0, H.sb, ⟨[], fp, rfl, hr, H.all⟩, H.nd, H.out⟩
    rw [Addr.add_lit, Addr.add_lit]
    refine chk_cell hg ?_
    rw [hc]; exact hj
theorem own_sh {α : Type} [Rep α] (w : World) (S : Nat → Prop) (f : List Nat) (x : Sh α) (g : Gh (Sh α)) (h : own w S f x g) : f = [] := by
  exact (show f = [] ∧ _ from h).1
/-- an element of a list of one's own whose elements are shared -/
theorem Cx.ex {α : Type} [Rep α] {xs : List α} {h : Hd} {k : Int} {a : α} (H : Cx w0 F S0 w Γ) (i : Nat) (hi : entAt Γ i = E (List (Sh α)) xs h) (hx : idxO xs k = some a) :
    ∃ (p : Addr) (m : Nat) (g : Gh α), h.a = some p ∧ k = (m : Int) ∧ m < h.n ∧ (∀ j u, (cl a g)[j]? = some u → w.cell? ((p.add (m * sz α)).add j) = some u) ∧ Cx w0 F S0 w (Es α a g :: Γ) :=
  H.exG (β := Sh α) own_sh i hi hx

/-- one's own is shared from now on -/
theorem Cx.frz {α : Type} [Rep α] {x : α} {g : Gh α} (H : Cx w0 F S0 w (E α x g :: Γ)) : Cx w0 F S0 w (Es α x g :: Γ) := by
  obtain ⟨S, fp, H⟩ := H
  obtain ⟨f, k, rfl, h1, h2⟩ := H.all
  obtain ⟨n1, n2, n3⟩ := List.nodup_append.1 H.nd
  refine ⟨fun b => S b ∨ b ∈ f, k, H.upd, fun b hb => .inl (H.s0 b hb), fun b hb => ?_, ⟨[], k, rfl, ⟨rfl, own_rd h1⟩, h2.mono (fun _ h => .inl h)⟩, n2, fun b hb => ⟨fun hS => ?_, (H.out b (List.mem_append_right _ hb)).2⟩⟩
  · rcases hb with hb | hb
    · exact H.sb b hb
    · exact ⟨own_lt h1 b hb, .inr (H.out b (List.mem_append_left _ hb)).2⟩
  · rcases hS with hS | hS
    · exact (H.out b (List.mem_append_right _ hb)).1 hS
    · exact n3 b hS b hb rfl

/-! ### variables -/
theorem Cx.bx {b : Nat} {cs : List Value} {j : Nat} {u : Value} (H : Cx w0 F S0 w Γ) (i : Nat) (hi : entAt Γ i = Bx b cs) (hj : cs[j]? = some u) : w.cell? (Addr.add ⟨b, 0, none⟩ j) = some u := by
  obtain ⟨S, fp, _, e, he⟩ := H.at_ i hi
  rw [Addr.add_lit, cell_of_row w b _ cs.toArray e (0, 0) he, Nat.zero_add]
  simpa using hj
theorem Cx.bx0 {b : Nat} {u : Value} {cs : List Value} (H : Cx w0 F S0 w Γ) (i : Nat) (hi : entAt Γ i = Bx b (u :: cs)) : w.cell? ⟨b, 0, none⟩ = some u := by
  have := H.bx i hi (j := 0) (u := u) rfl
  rwa [addr_add0] at this
theorem Cx.gl {b : Nat} {cs : List Value} (H : Cx w0 F S0 w Γ) (i : Nat) (hi : entAt Γ i = Gl b cs) : ∀ j u, cs[j]? = some u → w.cell? (Addr.add ⟨b, 0, none⟩ j) = some u := by
  obtain ⟨S, fp, _, _, he⟩ := H.at_ i hi
  exact he

/-- local form of a step: new entries, whatever they are, from what the step owned -/
theorem Cx.step (H : Cx w0 F S0 w (Γ1 ++ Γ)) (h : ∀ S f1, CxI w f1 S w Γ1 S f1 → ∃ w', Cx w f1 S w' Γ2) : ∃ w', Cx w0 F S0 w' (Γ2 ++ Γ) := by
  obtain ⟨S, f1, h1, h2⟩ := H.frame
  obtain ⟨w', h3⟩ := h S f1 h1
  exact ⟨w', h2 w' _ h3⟩

/-- a new block -/
theorem Cx.new {w' : World} {e : Ent} {f : List Nat} (H : Cx w0 F S0 w Γ) (hu : Ext w w') (he : ∀ S, (∀ b, S b → b < w.heap.size) → e.h w' S f) (hf : ∀ b ∈ f, w.heap.size ≤ b) (hn : f.Nodup) : Cx w0 F S0 w' (e :: Γ) := by
  obtain ⟨S, fp, H⟩ := H
  refine ⟨S, f ++ fp, H.upd.trans0 hu, H.s0, fun b hb => ⟨Nat.lt_of_lt_of_le (H.sb b hb).1 hu.size, (H.sb b hb).2⟩, ⟨f, fp, rfl, he S (fun b hb => (H.sb b hb).1), H.all.keep (fun b hb => hu.block b (H.sb b hb).1 (by simp)) (fun b hb => hu.block b (H.all.lt b hb) (by simp))⟩, List.nodup_append.2 ⟨hn, H.nd, fun b hb c hc => ?_⟩, fun b hb => ?_⟩
  · rintro rfl
    have := H.all.lt b hc; have := hf b hb; omega
  · rcases List.mem_append.1 hb with h | h
    · refine ⟨fun hS => ?_, .inr (Nat.le_trans H.upd.size (hf b h))⟩
      have := (H.sb b hS).1; have := hf b h; omega
    · exact H.out b h
theorem Cx.ext {w' : World} (H : Cx w0 F S0 w Γ) (hu : Ext w w') : Cx w0 F S0 w' Γ := by
  obtain ⟨S, fp, H⟩ := H
  exact ⟨S, fp, H.upd.trans0 hu, H.s0, fun b hb => ⟨Nat.lt_of_lt_of_le (H.sb b hb).1 hu.size, (H.sb b hb).2⟩, H.all.keep (fun b hb => hu.block b (H.sb b hb).1 (by simp)) (fun b hb => hu.block b (H.all.lt b hb) (by simp)), H.nd, H.out⟩

theorem blk_new (w : World) (c : Array Value) (e : TypeId) : ∃ e', (w.alloc (.cells c e)).heap[w.heap.size]? = some (.cells c.toList.toArray e' (0, 0)) := ⟨e, by rw [Array.toArray_toList]; exact heap_alloc_new w _⟩
/-- a variable that lies in a block of its own -/
theorem box_ {t : Nat} {v : Value} {K : Value → World → Prop} (H : Cx w0 F S0 w Γ) (hK : ∀ b w', Ext w w' → Cx w0 F S0 w' (Bx b v.cells.toList :: Γ) → K (.pointer (some ⟨b, 0, none⟩)) w') : ERun P (Instr.box t v) w K :=
  erun_of (v := .pointer (some ⟨w.heap.size, 0, none⟩)) (w' := w.alloc (.cells v.cells t)) (by simp [Instr.box, newVar, newRow])
    (hK _ _ (Upd.alloc w _) (H.new (f := [w.heap.size]) (Upd.alloc w _) (fun S _ => ⟨rfl, blk_new w _ _⟩) (by simp) (by simp)))
theorem alloc_ {t s bb : Nat} {k : TK} {z : Value} {K : Value → World → Prop} (ok : EngOk P G) (ht : nthO G.tt t = some ⟨k, s, bb, z⟩) (H : Cx w0 F S0 w Γ) (hK : ∀ b w', Ext w w' → Cx w0 F S0 w' (Bx b z.cells.toList :: Γ) → K (.pointer (some ⟨b, 0, none⟩)) w') :
    ERun P (Instr.alloc t true (.tuple #[])) w K := by
  obtain ⟨i, hi, hiz, his, hib⟩ := inf_of ok ht
  simp only at hiz
  exact erun_of (v := .pointer (some ⟨w.heap.size, 0, none⟩)) (w' := w.alloc (.cells z.cells t)) (by simp [Instr.alloc, zeroValue, typeInfo, hi, hiz, newVar, newRow])
    (hK _ _ (Upd.alloc w _) (H.new (f := [w.heap.size]) (Upd.alloc w _) (fun S _ => ⟨rfl, blk_new w _ _⟩) (by simp) (by simp)))
theorem fld {t s bb : Nat} {z : Value} {fs : List (Nat × Nat)} {f ft off se be : Nat} {ke : TK} {ze : Value} {a : Addr} {K : Value → World → Prop} (ok : EngOk P G) (ht : nthO G.tt t = some ⟨.struct fs, s, bb, z⟩) (hf : fs[f]? = some (ft, off)) (he : nthO G.tt ft = some ⟨ke, se, be, ze⟩) (h0 : Nat.beq se 0 = false) (hK : K (.pointer (some (a.add off))) w) : ERun P (Instr.fieldAt t (.pointer (some a)) f) w K := by
  obtain ⟨F, hu, hF⟩ := und_struct (und_of ok ht)
  have hs := sizeOf_run ok he w
  have hn : ¬ se = 0 := fun e => by subst e; cases h0
  have hf' : F.toList[f]?.map (fun f => (f.type, f.offset)) = some (ft, off) := by rw [← List.getElem?_map, hF]; exact hf
  obtain ⟨fl, hfl, hfe⟩ := Option.map_eq_some_iff.1 hf'
  rw [Array.getElem?_toList] at hfl
  injection hfe with h1 h2
  refine erun_of (v := .pointer (some (a.add off))) (w' := w) ?_ hK
  simp only at hs
  simp [Instr.fieldAt, run_underlying hu, hfl, Instr.sureAddr, fieldPlace, h1, h2, hs, hn]
/-- a cell of a variable written -/
theorem stB {b j : Nat} {cs : List Value} {v : Value} {K : World → Prop} (H : Cx w0 F S0 w (Bx b cs :: Γ)) (hj : Nat.blt j cs.length = true) (hv : v.oneCell' = true) (hK : ∀ w', Cx w0 F S0 w' (Bx b (cs.set j v) :: Γ) → K w') :
    EStore (.pointer (some (Addr.add ⟨b, 0, none⟩ j))) v w K := by
  have hj : j < cs.length := by simpa [Nat.blt_eq] using hj
  have hg := H.bx 0 rfl (List.getElem?_eq_getElem hj)
  obtain ⟨S, f1, h1, h2⟩ := Cx.frame (Γ1 := [Bx b cs]) H
  obtain ⟨f, g, hfg, ⟨hf, e, he⟩, hgg⟩ := h1.all
  have hgg : g = [] := hgg
  subst hf hgg hfg
  refine .mk ⟨_, _, rfl, hg, ?_, hv, hK _ (h2 _ [Bx b (cs.set j v)] ⟨S, [b], ⟨(Upd.setCell w _ v).mono (fun x hx => .inl ?_), fun _ h => h, fun x hx => ⟨?_, .inl hx⟩, ⟨[b], [], rfl, ⟨rfl, e, ?_⟩, rfl⟩, by simp, fun x hx => h1.out x hx⟩⟩)⟩
  · rw [Addr.add_lit]; exact frozen_of_row w b _ cs.toArray e he
  · rw [Addr.add_lit] at hx; simpa using hx
  · have := (h1.sb x hx).1
    simpa [World.setCell] using this
  · rw [Addr.add_lit, setCell_heap _ he, Nat.zero_add]; simp
/-- the whole of a variable written -/
theorem stA_ {t bb b : Nat} {k : TK} {z : Value} {cs : List Value} {cs' : Array Value} {K : World → Prop} (ok : EngOk P G) (ht : nthO G.tt t = some ⟨k, cs'.size, bb, z⟩) (H : Cx w0 F S0 w (Bx b cs :: Γ)) (hl : Nat.beq cs.length cs'.size = true) (h1 : cs'.all (·.oneCell') = true) (hK : ∀ w', Cx w0 F S0 w' (Bx b cs'.toList :: Γ) → K w') : EDo P (Instr.storeAt t (.pointer (some ⟨b, 0, none⟩)) (.agg cs')) w K := by
  have hl := Nat.eq_of_beq_eq_true hl
  obtain ⟨i, hi, hiz, his, hib⟩ := inf_of ok ht
  simp only at his
  obtain ⟨S, f1, hh, h2⟩ := Cx.frame (Γ1 := [Bx b cs]) H
  obtain ⟨f, g, hfg, ⟨hf, e, h⟩, hgg⟩ := hh.all
  have hgg : g = [] := hgg
  subst hf hgg hfg
  have hth : w.there b 0 cs'.size := fun j hj => by
    refine ⟨?_, frozen_of_row w b _ cs.toArray e h⟩
    rw [cell_of_row w b _ cs.toArray e (0, 0) h, Nat.zero_add, List.getElem?_toArray, List.getElem?_eq_getElem (by omega)]; rfl
  have hr := run_storeAt_mid (P := P) w b 0 t cs' hth (by rw [hi]; simp [his]) h1
  have hu := Upd.setCells b 0 cs'.toList w
  refine .mk ⟨_, hr, hK _ (h2 _ [Bx b cs'.toList] ⟨S, [b], ⟨hu, fun _ h => h, fun x hx => ⟨Nat.lt_of_lt_of_le (hh.sb x hx).1 hu.size, .inl hx⟩, ⟨[b], [], rfl, ⟨rfl, e, ?_⟩, rfl⟩, by simp, fun x hx => hh.out x hx⟩⟩)⟩
  obtain ⟨c2, k1, k2, k3, k4⟩ := setCells_heap b e (0, 0) cs'.toList 0 w cs.toArray h (by simp; omega)
  rw [k1]
  congr 2
  apply Array.ext'
  apply List.ext_getElem?
  intro j
  by_cases hj : j < cs'.size
  · have := k4 j cs'[j] (by simp [hj])
    rw [Nat.zero_add] at this
    simp [this, hj]
  · rw [List.getElem?_eq_none (by simp; simp at k2; omega), List.getElem?_eq_none (by simp; omega)]

noncomputable def allOne (l : List Value) : Bool := @List.rec Value (fun _ => Bool) true (fun v _ ih => cond v.oneCell' ih false) l
theorem allOne_eq : ∀ (l : List Value), allOne l = true → ∀ v ∈ l, v.oneCell' = true
  | [], _, _, h => by cases h
  | u :: l, h, v, hv => by
    have h : cond u.oneCell' (allOne l) false = true := h
    cases hu : u.oneCell'
    · rw [hu] at h; cases h
    · rw [hu] at h
      rcases List.mem_cons.1 hv with rfl | hv
      · exact hu
      · exact allOne_eq l h v hv
theorem stA {t bb b : Nat} {k : TK} {z : Value} {cs : List Value} {n : Nat} {K : World → Prop} (ok : EngOk P G) (cs' : List Value) (ht : nthO G.tt t = some ⟨k, n, bb, z⟩) (H : Cx w0 F S0 w (Bx b cs :: Γ)) (hn : cs'.length = n) (hl : cs.length = n) (h1 : allOne cs' = true) (hK : ∀ w', Cx w0 F S0 w' (Bx b cs' :: Γ) → K w') : EDo P (Instr.storeAt t (.pointer (some ⟨b, 0, none⟩)) (.agg cs'.toArray)) w K := by
  subst hn
  refine stA_ ok (cs' := cs'.toArray) (by simpa using ht) H (by rw [hl]; simp) ?_ hK
  rw [Array.all_eq_true']
  intro v hv
  exact allOne_eq cs' h1 v (by simpa using hv)
/-- T{..}, a struct -/
noncomputable def placesOf (G : Eng) : List (Nat × Nat) → Option (List (Nat × Nat))
  | [] => some []
  | (ft, off) :: l => match nthO G.tt ft, placesOf G l with
    | some ⟨_, s, _, _⟩, some r => some ((off, s) :: r)
    | _, _ => none
theorem places_run (ok : EngOk P G) (w : World) : ∀ (F : List Field) (fs pl : List (Nat × Nat)), F.map (fun f => (f.type, f.offset)) = fs → placesOf G fs = some pl →
    (F.mapM (m := Sem) fun f => do pure (f.offset, ← sizeOf f.type)).run P w = .ok pl w
  | [], fs, pl, h, hp => by
    subst h
    simp only [List.map_nil, placesOf, Option.some.injEq] at hp
    subst hp; simp
  | f :: F, fs, pl, h, hp => by
    subst h
    simp only [List.map_cons, placesOf] at hp
    split at hp
    · rename_i s b z r ht hr
      simp only [Option.some.injEq] at hp
      subst hp
      have h1 := places_run ok w F _ r rfl hr
      have h2 := sizeOf_run ok ht w
      simp only at h2
      rw [List.mapM_cons]
      simp only [Sem.run_bind, h2, Result.andThen_ok, Sem.run_pure, h1]
    · cases hp
theorem build_ {t s bb : Nat} {z : Value} {fs pl : List (Nat × Nat)} {parts : Array (Nat × Value)} {cs : Array Value} {K : Value → World → Prop} (ok : EngOk P G) (ht : nthO G.tt t = some ⟨.struct fs, s, bb, z⟩) (hp : placesOf G fs = some pl) (hfill : Instr.fill (fun i => pl[i]?) z.cells parts.toList = some cs) (hK : K (.agg cs) w) : ERun P (Instr.build t parts) w K := by
  obtain ⟨i, hi, hiz, his, hib⟩ := inf_of ok ht
  simp only at hiz
  obtain ⟨F, hu, hF⟩ := und_struct (und_of ok ht)
  have hm : (F.mapM (m := Sem) fun f => do pure (f.offset, ← sizeOf f.type)).run P w = .ok pl.toArray w := by
    have := places_run ok w F.toList fs pl hF hp
    rw [Array.mapM_eq_mapM_toList]
    simp only [Sem.run_map, this, Result.andThen_ok]
  refine erun_of (v := .agg cs) (w' := w) ?_ hK
  have hfill' : Instr.fill (pl.toArray[·]?) z.cells parts.toList = some cs := by
    rw [← hfill]; congr 1; funext i; simp
  simp only [Instr.build, Sem.run_bind, zeroValue, typeInfo, run_program, hi, Sem.run_pure, Result.andThen_ok, hiz, run_underlying hu, hm, hfill']

/-! ### calls -/
/-- a contract: the results are new, or what was handed over to be changed -/
def ConF (P : Program) (f : Nat) (vs : Array Value) (Γs Γi : List Ent) (R : Value → List Ent → Prop) : Prop :=
  ∀ (w : World) (S : Nat → Prop) (fp : List Nat), CxI w fp S w Γi S fp → (∀ e ∈ Γs, e.h w S []) → Calls P f vs w fun e w' => ∃ v Γ', e = .returned v ∧ R v Γ' ∧ Cx w fp (fun _ => False) w' Γ'
def Vws (w : World) (Γ : List Ent) : List Ent → Prop
  | [] => True
  | e :: l => Vw w Γ e ∧ Vws w Γ l
theorem Vws.all : ∀ {l : List Ent}, Vws w Γ l → ∀ e ∈ l, Vw w Γ e
  | [], _, _, h => by cases h
  | _ :: _, ⟨h1, h2⟩, e, h => by
    rcases List.mem_cons.1 h with rfl | h
    · exact h1
    · exact h2.all e h
theorem callF {f : Nat} {vs : Array Value} {Γs Γi : List Ent} {R : Value → List Ent → Prop} {K : Value → World → Prop} (hc : ConF P f vs Γs Γi R) (H : Cx w0 F S0 w (Γi ++ Γ)) (hv : Vws w Γ Γs)
    (hK : ∀ v Γ' w', R v Γ' → Cx w0 F S0 w' (Γ' ++ Γ) → K v w') : ECall P f vs w K := by
  obtain ⟨S, f1, h1, h2, h3⟩ := H.frameL
  refine call (hc w S f1 h1 (fun e he => h2 e (hv.all e he))) ?_
  rintro e w' ⟨v, Γ', rfl, hR, hC⟩
  exact ⟨v, rfl, hK v Γ' w' hR (h3 w' Γ' hC)⟩
/-- the same, nothing handed over to be changed -/
theorem callFx {f : Nat} {vs : Array Value} {Γs : List Ent} {R : Value → List Ent → Prop} {K : Value → World → Prop} (hc : ConF P f vs Γs [] R) (H : Cx w0 F S0 w Γ) (hv : Vws w Γ Γs)
    (hK : ∀ v Γ' w', R v Γ' → Ext w w' → Cx w0 F S0 w' (Γ' ++ Γ) → K v w') : ECall P f vs w K := by
  obtain ⟨S, f1, h1, h2, h3⟩ := Cx.frameL (Γ1 := []) H
  have hf : f1 = [] := h1.all
  subst hf
  refine call (hc w S [] h1 (fun e he => h2 e (hv.all e he))) ?_
  rintro e w' ⟨v, Γ', rfl, hR, hC⟩
  exact ⟨v, rfl, hK v Γ' w' hR hC.upd (h3 w' Γ' hC)⟩
/-- the walk begins -/
theorem Cx.start {Γs Γi : List Ent} {S : Nat → Prop} {fp : List Nat} (h : CxI w fp S w Γi S fp) (hs : ∀ e ∈ Γs, e.h w S []) : Cx w fp S w (Γs ++ Γi) := by
  refine ⟨S, fp, h.upd, h.s0, h.sb, ?_, h.nd, h.out⟩
  have : All w S Γs [] := by
    clear h
    induction Γs with
    | nil => rfl
    | cons e Γs ih => exact ⟨[], [], rfl, hs e (by simp), ih (fun e' he' => hs e' (by simp [he']))⟩
  exact this.join h.all
end
end Go.Proofs.YtnlbhdepagkjgaaDoor.RW
