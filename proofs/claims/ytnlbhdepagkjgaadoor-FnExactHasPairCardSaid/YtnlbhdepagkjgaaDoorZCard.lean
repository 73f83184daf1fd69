/-
  From a row's reading to plain data and their headers; the row's last step for a law that returns true and changes nothing that lay before. No condition. 'post_true' is the guide's 'post_of_below' turned to this form.
-/
import Derived.Test.YtnlbhdepagkjgaaDoorZEng
import Derived.Test.YtnlbhdepagkjgaaDoorZP16
import Derived.Below
import Derived.Carry
import Derived.OpenVars
import GoSem.ClaimSeven
import Derived.ChangeSame
import Derived.ChangeSlices
import Derived.WideShapes
import Derived.OpenShut
namespace Go.Proofs.YtnlbhdepagkjgaaDoor
open Go Go.RowKit Go.WideShapes Go.ChangeShapes Go.WideElems
open Go.Proofs.YtnlbhdepagkjgaaDoor.RW
open Rep

/-- what a type reads as -/
def Opens (P : Program) (t : TypeId) (α : Type) [Rep α] [Nice α] : Prop := ∀ {H : Type} (enc : TypeId × Value → H) (w : World) (fuel : Nat) (cs : List Value) (x : DataW H × List MemPlace),
  DataW.trod enc P w 0 (fun _ => true) true fuel t cs = some x → ∃ (y : α) (g : Gh α), cs = cl y g ∧ rd w (fun i => i < w.heap.size) y g ∧ Nice.ok y

theorem opens_int {P : Program} {t : TypeId} (ht : P.underlying t = some (.int .i64)) : Opens P t Int := by
  intro H enc w fuel cs x h
  obtain ⟨z, rfl, _, hw⟩ := DataW.trod_int ht h
  refine ⟨z, (), rfl, trivial, ?_⟩
  simp only [Lit.wf, Bool.and_eq_true, decide_eq_true_eq] at hw
  exact ⟨Int.le_trans (by decide) hw.1, Int.le_trans hw.2 (by decide)⟩
theorem opens_list {P : Program} {t e : TypeId} {α : Type} [Rep α] [Nice α] (ht : P.underlying t = some (.slice e)) (hc : P.cellsOf e = sz α) (hpos : 0 < sz α) (he : Opens P e α) : Opens P t (List α) := by
  intro H enc w fuel cs x h
  rcases DataW.trod_slice ht h with ⟨rfl, _⟩ | ⟨a, len, cap, elems, rest, n, _, rfl, rfl, hb, hl, hm, hlen, hel, hsp, hns⟩
  · exact ⟨[], ⟨none, 0, 0⟩, rfl, ⟨rfl, Nat.le_refl _, by decide, fun h0 => by simp at h0⟩, (by simp), fun x hx => by cases hx⟩
  · have each : ∀ i, i < len → ∃ y : α, (∃ cs, (∀ j u, cs[j]? = some u → w.cell? ((a.add (i * sz α)).add j) = some u) ∧ rOf (fun i => i < w.heap.size) w cs y) ∧ Nice.ok y := by
      intro i hi
      have h1 := hel i hi
      rw [List.getElem?_eq_getElem (by omega)] at h1
      obtain ⟨cs, h2, h3⟩ := Option.bind_eq_some_iff.1 h1
      obtain ⟨y, g, hy, hr, hn⟩ := he enc w n cs _ h3
      obtain ⟨_, h4, h5⟩ := World.cells?_some h2
      refine ⟨y, ⟨cs, fun j u hj => ?_, g, hy, hr⟩, hn⟩
      have hj' : j < cs.length := (List.getElem?_eq_some_iff.1 hj).1
      rw [← hc, h5 j (by omega), hj]
    have spot : 0 < len → ∃ b o, a = ⟨b, o, none⟩ ∧ b < w.heap.size := by
      intro h0
      obtain ⟨y, ⟨cs, h1, g, h2, _⟩, _⟩ := each 0 h0
      have h3 : cs.length = sz α := by rw [h2, cl_len]
      have h4 := h1 0 cs[0] (List.getElem?_eq_getElem (by omega))
      obtain ⟨b, o, s⟩ := a
      cases s with
      | none => exact ⟨b, o, rfl, by have := cell_some_lt h4; simpa [Addr.add] using this⟩
      | some s => simp [Addr.add, World.cell?] at h4; split at h4 <;> simp_all
    have all : ∃ ys : List α, ys.length = len ∧ ∀ i (h : i < ys.length), (∃ cs, (∀ j u, cs[j]? = some u → w.cell? ((a.add (i * sz α)).add j) = some u) ∧ rOf (fun i => i < w.heap.size) w cs ys[i]) ∧ Nice.ok ys[i] := by
      refine ⟨List.ofFn (n := len) fun i => (each i i.2).choose, by simp, fun i h => ?_⟩
      simp only [List.getElem_ofFn]
      exact (each i (by simpa using h)).choose_spec
    obtain ⟨ys, hy, hall⟩ := all
    refine ⟨ys, ⟨some a, len, cap⟩, rfl, ⟨hy.symm, hl, hm, fun h0 => ?_⟩, ?_, fun x hx => ?_⟩
    · obtain ⟨b, o, rfl, hb'⟩ := spot (by omega)
      refine ⟨b, o, rfl, hb', fun i hi => ?_⟩
      obtain ⟨⟨cs, h1, h2⟩, _⟩ := hall i hi
      exact ⟨cs, fun j u hj => by have := h1 j u hj; rwa [Addr.add_lit, Addr.add_lit] at this, h2⟩
    · have : maxLen = 9223372036854775807 := rfl
      omega
    · obtain ⟨i, hi, rfl⟩ := List.mem_iff_getElem.1 hx
      exact (hall i hi).2

/-- fields from a place on -/
def OpensF (P : Program) (fs : List Field) (off : Nat) (α : Type) [Rep α] [Nice α] : Prop := ∀ {H : Type} (enc : TypeId × Value → H) (w : World) (n : Nat) (cs : List Value),
  (∀ (i : Nat) (f : Field), fs[i]? = some f → ∃ x, DataW.trod enc P w 0 (fun _ => true) true n f.type ((cs.drop f.offset).take (P.cellsOf f.type)) = some x) →
  ∃ (y : α) (g : Gh α), (cs.drop off).take (sz α) = cl y g ∧ rd w (fun i => i < w.heap.size) y g ∧ Nice.ok y
theorem opensF_one {P : Program} {f : Field} {off : Nat} {α : Type} [Rep α] [Nice α] (h0 : f.offset = off) (hc : P.cellsOf f.type = sz α) (o : Opens P f.type α) : OpensF P [f] off α := by
  intro H enc w n cs h
  obtain ⟨x, hx⟩ := h 0 f rfl
  rw [h0, hc] at hx
  exact o enc w n _ _ hx
theorem opensF_cons {P : Program} {f : Field} {fs : List Field} {off : Nat} {α β : Type} [Rep α] [Nice α] [Rep β] [Nice β] (h0 : f.offset = off) (hc : P.cellsOf f.type = sz α) (o : Opens P f.type α) (r : OpensF P fs (off + sz α) β) : OpensF P (f :: fs) off (α × β) := by
  intro H enc w n cs h
  obtain ⟨x, hx⟩ := h 0 f rfl
  rw [h0, hc] at hx
  obtain ⟨a, g, h1, h2, h3⟩ := o enc w n _ _ hx
  obtain ⟨b, g', h4, h5, h6⟩ := r enc w n cs (fun i f' hf => h (i + 1) f' (by simpa using hf))
  refine ⟨(a, b), (g, g'), ?_, ⟨h2, h5⟩, h3, h6⟩
  show (cs.drop off).take (sz α + sz β) = cl a g ++ cl b g'
  rw [List.take_add, h1, List.drop_drop, h4]
theorem opens_struct {P : Program} {t : TypeId} {fs : Array Field} {α : Type} [Rep α] [Nice α] (ht : P.underlying t = some (.struct fs)) (hc : P.cellsOf t = sz α) (r : OpensF P fs.toList 0 α) : Opens P t α := by
  intro H enc w fuel cs x h
  obtain ⟨xs, n, rfl, rfl, hl, hxl, hf⟩ := DataW.trod_struct ht h
  obtain ⟨y, g, h1, h2, h3⟩ := r enc w n cs (fun i f hf' => by
    have hf' : fs[i]? = some f := by simpa using hf'
    have hi : i < fs.size := (Array.getElem?_eq_some_iff.1 hf').1
    rw [hf i f hf']
    exact ⟨_, List.getElem?_eq_getElem (by omega)⟩)
  refine ⟨y, g, ?_, h2, h3⟩
  rw [← h1, List.drop_zero, List.take_of_length_le (by omega)]
theorem opens_slice {P : Program} {H : Type} {enc : TypeId × Value → H} {W : World} {t e : TypeId} {α : Type} [Rep α] [Nice α] (ht : P.underlying t = some (.slice e)) (ho : Opens P t (List α)) {r : Reach} {b0 : Nat} {v : Value} {d : DataW H} {ps : List MemPlace}
    (hv : Value.okWide P W r b0 t v) (h : DataW.Trod enc P W 0 (fun _ => true) true t v d ps) : ∃ (x : List α) (g : Hd), v = g.v ∧ rd W (fun i => i < W.heap.size) x g ∧ Nice.ok x := by
  obtain ⟨A, n, c, rfl⟩ := okWide_slice ht hv
  obtain ⟨fuel, h⟩ := h
  obtain ⟨x, g, hx, hr, hn⟩ := ho enc W fuel _ _ h
  exact ⟨x, g, (List.cons.inj hx).1, hr, hn⟩
theorem opens_struct_arg {P : Program} {H : Type} {enc : TypeId × Value → H} {W : World} {t : TypeId} {fs : Array Field} {α : Type} [Rep α] [Nice α] (ht : P.underlying t = some (.struct fs)) (ho : Opens P t α) {r : Reach} {b0 : Nat} {v : Value} {d : DataW H} {ps : List MemPlace}
    (hv : Value.okWide P W r b0 t v) (h : DataW.Trod enc P W 0 (fun _ => true) true t v d ps) : ∃ (x : α) (g : Gh α), v = .agg (cl x g).toArray ∧ rd W (fun i => i < W.heap.size) x g ∧ Nice.ok x := by
  obtain ⟨cs, rfl, _⟩ := okWide_struct ht hv
  obtain ⟨fuel, h⟩ := h
  obtain ⟨x, g, hx, hr, hn⟩ := ho enc W fuel _ _ h
  exact ⟨x, g, by rw [← hx]; rfl, hr, hn⟩
theorem opens_int_arg {P : Program} {H : Type} {enc : TypeId × Value → H} {W : World} {t : TypeId} (ht : P.underlying t = some (.int .i64)) {r : Reach} {b0 : Nat} {v : Value} {d : DataW H} {ps : List MemPlace}
    (hv : Value.okWide P W r b0 t v) (h : DataW.Trod enc P W 0 (fun _ => true) true t v d ps) : ∃ n, v = .int .i64 n ∧ inI n := by
  obtain ⟨n, rfl⟩ := okWide_int ht hv
  obtain ⟨fuel, h⟩ := h
  obtain ⟨x, g, hx, _, hi⟩ := opens_int ht enc W fuel _ _ h
  obtain rfl : n = x := by simpa [Value.cells, cl] using hx
  exact ⟨n, rfl, hi⟩

/-- what the law is given -/
def Given (W : World) : List Ent → Prop
  | [] => True
  | e :: l => e.h W (fun b => b < W.heap.size) [] ∧ Given W l
theorem Given.all {W : World} : ∀ {l : List Ent}, Given W l → ∀ e ∈ l, e.h W (fun b => b < W.heap.size) []
  | [], _, _, h => by cases h
  | e :: l, ⟨h1, h2⟩, x, h => by
    rcases List.mem_cons.1 h with rfl | h
    · exact h1
    · exact h2.all x h
theorem law_fin {P : Program} {f : Nat} {vs : Array Value} {Γs : List Ent} (hc : ConF P f vs Γs [] (fun v Γ' => v = .bool true ∧ Γ' = [])) {W : World} (hs : Given W Γs) :
    Calls P f vs W fun e W' => e = .returned (.bool true) ∧ Below W.heap.size W W' := by
  refine (hc W (fun b => b < W.heap.size) [] ⟨Upd.refl _ _, fun _ h => h, fun b hb => ⟨hb, .inl hb⟩, rfl, List.nodup_nil, fun b hb => by cases hb⟩ hs.all).mono ?_
  rintro e W' ⟨v, Γ', rfl, ⟨rfl, rfl⟩, hC⟩
  exact ⟨rfl, hC.upd.below (Nat.le_refl _) (fun x hx => by cases hx)⟩
theorem gl_given {W : World} {g : Nat} {cs : List Value} (hg : g < W.heap.size) (h : ∀ j u, cs[j]? = some u → W.cell? (Addr.add ⟨g, 0, none⟩ j) = some u) : (Gl g cs).h W (fun b => b < W.heap.size) [] := ⟨rfl, hg, h⟩
theorem plain_all {P : Program} {fn : Func} (h : (fn.params.toList.all fun t => P.wantsStandIn t == false) = true) : ∀ (j : Nat) t, fn.params[j]? = some t → P.wantsStandIn t = false := by
  intro j t ht
  have := List.all_eq_true.1 h t (by simpa using Array.mem_of_getElem? ht)
  simpa using this

section
variable {H : Type} {enc : TypeId × Value → H} {P : Program}
theorem trodAll_keep (hl : laidOutB P = true) {W W' : World} (hb : Below W.heap.size W W') {sp : Nat → Bool} : ∀ {ts : List TypeId} {vs : List Value} {ds : List (DataW H)} {ps : List MemPlace}, (ts.all fun t => P.readableRec t && decide (t < P.types.size)) = true →
    DataW.TrodAll enc P W 0 (fun _ => true) true ts vs ds ps → (∀ x ∈ ps, x.block < W.heap.size) → (∀ x ∈ ps, sp x.block = true) → DataW.TrodAll enc P W' 0 sp true ts vs ds ps
  | [], _, _, _, _, h, _, _ => by obtain ⟨rfl, rfl, rfl⟩ := trodAll_nil h; exact rfl
  | t :: ts, _, _, _, ht, h, hlt, hsp => by
    obtain ⟨v, vs1, d, ds1, a, b, rfl, rfl, rfl, h1, h2⟩ := trodAll_cons h
    simp only [List.all_cons, Bool.and_eq_true, decide_eq_true_eq] at ht
    exact ⟨a, b, WideElems.Trod_stays hl ht.1.1 ht.1.2 h1 (fun x hx => hb.same (hlt x (by simp [hx]))) (fun x hx => hsp x (by simp [hx])),
      trodAll_keep hl hb ht.2 h2 (fun x hx => hlt x (by simp [hx])) (fun x hx => hsp x (by simp [hx])), rfl⟩
theorem trodVars_keep (hl : laidOutB P = true) {W W' : World} (hb : Below W.heap.size W W') {sp : Nat → Bool} :
    ∀ {ns : List String} {gs : List (DataW H)} {ps : List MemPlace}, varsRowed P ns = true → DataW.TrodVars enc P W (fun _ => true) ns gs ps → (∀ x ∈ ps, sp x.block = true) → DataW.TrodVars enc P W' sp ns gs ps
  | [], [], _, _, h, _ => h
  | [], _ :: _, _, _, h, _ => h.elim
  | _ :: _, [], _, _, h, _ => h.elim
  | n :: ns, d :: ds, ps, hv, h, hsp => by
    have hlt := h.lt
    obtain ⟨g, t, cs, fuel, p, q, h1, h2, h3, h4, hs, e⟩ := h
    simp only [varsRowed, List.all_cons, Bool.and_eq_true] at hv
    have ht : P.readableRec t = true ∧ t < P.types.size := by
      have := hv.1
      rw [h1] at this
      cases hg : P.globals[g]? with
      | none => rw [hg] at h2; cases h2
      | some gl =>
        rw [hg] at h2
        obtain rfl : gl.type = t := Option.some.inj h2
        simpa [hg] using this
    have hp : ∀ x ∈ p, x.block < W.heap.size := fun x hx => hlt x (by rw [e]; simp [hx])
    have h3' : W'.var? P n = some cs := by
      unfold World.var? at h3 ⊢
      rw [h1] at h3 ⊢
      simp only [Option.bind_some] at h3 ⊢
      have hg : g < W.heap.size := by
        cases hh : W.heap[g]? with
        | none => rw [hh] at h3; cases h3
        | some o => exact (Array.getElem?_eq_some_iff.1 hh).1
      rw [hb.block g hg]; exact h3
    exact ⟨g, t, cs, fuel, p, q, h1, h2, h3', DataW.trod_stays (kids_book hl ht.1) (book_sized ht.1) (fun h => by cases h) ⟨ht.2, book_self t⟩ h4 (fun x hx => hb.same (hp x hx)) (fun x hx => hsp x (by rw [e]; simp [hx])),
      trodVars_keep hl hb (by simpa [varsRowed] using hv.2) hs (fun x hx => hsp x (by rw [e]; simp [hx])), e⟩

/-- THE ROW's LAST STEP: true comes back, and below the heap's old size nothing has turned. -/
theorem post_true {f : Func} {s : ChangeSpec} {apart fresh handsOn again : Bool} {W W' : World} {args : Array Value} {ds gs : List (DataW H)} {before : List MemPlace} {tb : TypeId}
    (hW : DataW.Whole enc P f.params.toList s.vars apart W args.toList ds gs before) (hs : s.fn H (ds ++ gs) = { results := [.lit (.bool true)], args := ds, vars := gs })
    (hr : f.resultTypes = #[tb]) (htb : P.underlying tb = some .bool) (hl : laidOutB P = true) (hts : (f.params.toList.all fun t => P.readableRec t && decide (t < P.types.size)) = true) (hvr : varsRowed P s.vars = true) (hb : Below W.heap.size W W') :
    s.post enc P f apart fresh handsOn again W args (.bool true) W' := by
  have hlt : ∀ p ∈ before, p.block < W.heap.size := fun p hp => hW.lt p hp
  have hWW := hW
  obtain ⟨pa, pv, hA, hV, hps, hz, hn⟩ := hWW
  have hltA : ∀ p ∈ pa, p.block < W.heap.size := fun p hp => hlt p (by rw [hps]; simp [hp])
  have hres : ∀ (b : Nat) (sp : Nat → Bool) (hd : Bool), DataW.TrodAll enc P W' b sp hd f.resultTypes.toList ((Value.bool true).resultList f.resultTypes.size) (s.fn H (ds ++ gs)).results [] := by
    intro b sp hd
    rw [hr, hs]
    exact trodAll_cons_mk (shut_bool htb _) trodAll_mk0
  have hargs : ∀ sp : Nat → Bool, (∀ p ∈ before, sp p.block = true) → DataW.TrodAll enc P W' 0 sp true f.params.toList args.toList (s.fn H (ds ++ gs)).args pa := by
    intro sp hsp
    rw [hs]
    exact trodAll_keep hl hb hts hA hltA (fun x hx => hsp x (by rw [hps]; simp [hx]))
  have hvars : ∀ sp : Nat → Bool, (∀ p ∈ before, sp p.block = true) → DataW.TrodVars enc P W' sp s.vars (s.fn H (ds ++ gs)).vars pv := by
    intro sp hsp
    rw [hs]
    exact trodVars_keep hl hb hvr hV (fun x hx => hsp x (by rw [hps]; simp [hx]))
  have hold : ∀ p ∈ before, (fun b => decide (b < W.heap.size)) p.block = true := fun p hp => by simpa using hlt p hp
  refine ⟨ds, gs, before, [], pa, pv, hW, hres _ _ _, hargs _ hold, hvars _ hold, World.keptBut_mono (fun p hp => ⟨hp, ?_⟩) (hb.frame (· ∈ before)), fun _ => ?_⟩
  · rw [hps, List.mem_append] at hp
    exact Or.inr hp
  · refine ⟨ok_one hr rfl (okWide_bool_mk htb _), _, _, ([] ++ pa) ++ pv, ⟨[] ++ pa, pv, trodAll_append (hargs _ (fun _ _ => rfl)) (hres _ _ _), hvars _ (fun _ _ => rfl), rfl, ?_, ?_⟩, ?_⟩
    · intro b off hp
      have hin : MemPlace.cell b off ∈ before := by rw [hps]; simpa using hp
      rw [hb.frozen (hlt _ hin)]
      exact hz b off hin
    · intro ha
      have := hn ha
      rw [hps] at this
      simpa using this
    · intro p hp _
      rw [hps]
      simpa using hp
end
end Go.Proofs.YtnlbhdepagkjgaaDoor
