/-
  Contracts, second part: the field test over the laid table, copies, and the laws' own helpers on lists of numbers. Conditions: as each theorem states ('Lay': the table of primes lies as its initialiser lays it).
-/
import Derived.Test.YtgnlfjlenjfffaaDoorC1
namespace Go.Proofs.YtgnlfjlenjfffaaDoor
open Go
open Go.RowKit (Below)
open Go.Proofs.YtgnlfjlenjfffaaDoor.RW

/-- the table of small primes, as it is laid -/
def Lay (w : World) : Prop := ∀ j u, ([.int .i64 2, .int .i64 3, .int .i64 5, .int .i64 7] : List Value)[j]? = some u → w.cell? ((⟨0, 0, none⟩ : Addr).add j) = some u
theorem Lay.lt {w : World} (h : Lay w) : 0 < w.heap.size := by
  have := cell_some_lt (h 0 _ rfl)
  simpa [Addr.add] using this
theorem Lay.keep {w w' : World} (h : Lay w) (he : w'.heap[0]? = w.heap[0]?) : Lay w' := fun j u hj => by
  rw [← h j u hj]
  rw [Addr.add_lit]
  exact cell_keep he
theorem Lay.upd {w w' : World} {f : List Nat} (h : Lay w) (hu : Upd f w w') (hf : 0 ∉ f) : Lay w' := h.keep (hu.block _ h.lt hf)
theorem Lay.ext {w w' : World} (h : Lay w) (hu : Ext w w') : Lay w' := h.upd hu (by simp)

section
variable {P : Program} {G : Eng} {w : World}
theorem RW.loadN {sz : Nat} {a : Addr} {K : Value → Prop} (cs : List Value) (hl : cs.length = sz) (hc : ∀ j u, cs[j]? = some u → w.cell? (a.add j) = some u) (h : K (.agg cs.toArray)) : ELoadN sz (.pointer (some a)) w K := by
  refine .mk ?_; exact ⟨a, cs, rfl, hl, hc, h⟩
theorem RW.indexA (ok : EngOk P G) {t n e st bt be : Nat} {zt ze : Value} {ke : TK} (ht : nthO G.tt t = some ⟨.array n e, st, bt, zt⟩) (he : nthO G.tt e = some ⟨ke, 1, be, ze⟩) (hk : isAggK ke = false)
    {cs : Array Value} {i : Int} (k : Nat) (hi : i = (k : Int)) (hkn : k < n) {v : Value} (hv : cs.toList[k]? = some v) {K : Value → World → Prop} (h : K v w) : ERun P (Instr.index t (.agg cs) (.int .i64 i)) w K := by
  subst hi
  have hu := und_array (und_of ok ht)
  have h1 := isAgg_run (und_of ok he) w
  have h2 := sizeOf_run ok he w
  rw [hk] at h1
  have h3 : (0 : Int) ≤ (k : Int) ∧ (k : Int) < n := ⟨by omega, by omega⟩
  have h4 : cs[k]? = some v := by rw [← Array.getElem?_toList]; exact hv
  refine erun_of (v := v) (w' := w) ?_ h
  simp [Instr.index, asIntOf, run_underlying hu, h3, h2, part, h1, h4]
  intro h'; omega
end

theorem isField_c (p : Int) (w : World) (hL : Lay w) :
    Calls Tryd.prog 52 #[.int .i64 p] w fun e w' => e = .returned (.bool (goodP p)) ∧ w = w' := by
  refine enter (args := [_]) gok Tryd.func52 rfl rfl rfl rfl rfl ?_
  refine cmp (fun h => ?_) (fun h => ?_)
  · exact ⟨by rw [goodP_out (by omega)], rfl⟩
  · refine cmp (fun h' => ?_) (fun h' => ?_)
    · exact ⟨by rw [goodP_out (by omega)], rfl⟩
    · obtain ⟨q, rfl⟩ : ∃ q : Nat, p = q := ⟨p.toNat, by omega⟩
      have hq : 2 ≤ q ∧ q < 98 := by omega
      have hs : goodP (q : Int) = _ := goodP_small ⟨q, hq.2⟩ hq.1
      refine RW.loadN [.int .i64 2, .int .i64 3, .int .i64 5, .int .i64 7] rfl hL ?_
      refine loop (fun k : Nat => [(0, .int .i64 (q : Int)), (11, .agg #[.int .i64 2, .int .i64 3, .int .i64 5, .int .i64 7]), (12, .int .i64 k)])
        (fun k w' => w = w' ∧ k ≤ 4 ∧ (([2, 3, 5, 7] : List Nat).take k).all (fun r => !(decide (q % r = 0) && !decide (q = r))) = true) (fun k => 4 - k) 0 ⟨rfl, rfl, rfl, trivial⟩ ⟨rfl, by omega, rfl⟩ ?_
      rintro T0 k _ ⟨rfl, hk, hinv⟩
      refine cmp (fun hlt => ?_) (fun hlt => ?_)
      · have step : ∀ (r : Nat), ([2, 3, 5, 7] : List Nat)[k]? = some r → 2 ≤ r → ([.int .i64 2, .int .i64 3, .int .i64 5, .int .i64 7] : List Value)[k]? = some (.int .i64 (r : Int)) := by
          intro r hr _
          rcases (by omega : k = 0 ∨ k = 1 ∨ k = 2 ∨ k = 3) with rfl | rfl | rfl | rfl <;> (simp at hr; subst hr; rfl)
        obtain ⟨r, hr, h2r⟩ : ∃ r, ([2, 3, 5, 7] : List Nat)[k]? = some r ∧ 2 ≤ r := by
          rcases (by omega : k = 0 ∨ k = 1 ∨ k = 2 ∨ k = 3) with rfl | rfl | rfl | rfl <;> exact ⟨_, rfl, by omega⟩
        have hkl : k < ([2, 3, 5, 7] : List Nat).length := by simp; omega
        have hrk : ([2, 3, 5, 7] : List Nat)[k] = r := by rw [List.getElem?_eq_getElem hkl] at hr; exact Option.some.inj hr
        refine RW.indexA gok rfl rfl rfl k rfl (by omega) (step r hr h2r) ?_
        refine rem_ (by omega) ?_
        have hz : ((q : Int).tmod r = 0) ↔ q % r = 0 := by rw [tmod_emod (by omega)]; omega
        have goOn : (!(decide (q % r = 0) && !decide (q = r))) = true → (([2, 3, 5, 7] : List Nat).take (k + 1)).all (fun r => !(decide (q % r = 0) && !decide (q = r))) = true := by
          intro h; rw [all_take_succ hkl, hinv, hrk, h]; rfl
        refine cmp (fun h0 => ?_) (fun h0 => ?_)
        · refine cmp (fun h1 => ?_) (fun h1 => ?_)
          · refine ar (by omega) ?_
            exact ⟨k + 1, ⟨rfl, rfl, rfl, trivial⟩, ⟨rfl, by omega, goOn (by
                have h2 : q = r := by omega
                simp [h2])⟩, by omega⟩
          · have : goodP (q : Int) = false := by
              rw [hs]
              refine all_false hkl ?_
              rw [hrk]
              have h3 : q % r = 0 := hz.1 h0
              have h4 : ¬ q = r := by omega
              simp [h3, h4]
            exact ⟨by rw [this], rfl⟩
        · refine ar (by omega) ?_
          exact ⟨k + 1, ⟨rfl, rfl, rfl, trivial⟩, ⟨rfl, by omega, goOn (by
                have h2 : ¬ q % r = 0 := fun h => h0 (hz.2 h)
                simp [h2])⟩, by omega⟩
      · have : goodP (q : Int) = true := by
          rw [hs]; exact all_take_all (k := k) (by simp; omega) hinv
        exact ⟨by rw [this], rfl⟩

/-- a copy of a list of numbers -/
def CopyC (f : Nat) : Prop := ∀ (v : Value) (xs : List Int) (S : Nat → Prop) (w : World), RdV w S v xs → (∀ b, S b → b < w.heap.size) → xs.length ≤ 17592186044416 →
    Calls Tryd.prog f #[v] w fun e w' => ∃ r, e = .returned r ∧ Fresh w.heap.size w' r xs ∧ Ext w w'
theorem clone_c : CopyC 78 := by
  intro v xs S w h hS hlen
  obtain ⟨A, m, c, rfl, hr⟩ := h.list
  obtain rfl := hr.1
  refine enter (args := [_]) gok Tryd.func78 rfl rfl rfl rfl rfl ?_
  refine lit0 (α := Int) gok rfl rfl ?_
  intro A1 w1 hown hu
  have hr1 : RdL w1 S A xs.length c xs := hr.keep (Rep.rd_keep fun b hb => hu.block b (hS b hb) (by simp)) (fun b hb => hu.block b (hS b hb) (by simp))
  refine appS gok rfl rfl hown hr1 (by omega) ?_
  intro A2 c2 w2 fp2 ho hu2 hf
  refine ⟨_, rfl, ⟨fp2, OwnV.list_mk (by simpa using ho), fun b hb => ?_⟩, (hu.trans0 (Upd.refl _ _)).trans (fp := []) hu2 (fun b hb => ?_)⟩
  · rcases hf b hb with h | h
    · simp at h; omega
    · exact Nat.le_trans hu.size h
  · simp at hb; subst hb; exact .inr (Nat.le_refl _)
theorem l1Own_c : CopyC 63 := by
  intro v xs S w h hS hlen
  obtain ⟨A, m, c, rfl, hr⟩ := h.list
  obtain rfl := hr.1
  refine enter (args := [_]) gok Tryd.func63 rfl rfl rfl rfl rfl ?_
  refine lit0 (α := Int) gok rfl rfl ?_
  intro A1 w1 hown hu
  have hr1 : RdL w1 S A xs.length c xs := hr.keep (Rep.rd_keep fun b hb => hu.block b (hS b hb) (by simp)) (fun b hb => hu.block b (hS b hb) (by simp))
  refine appS gok rfl rfl hown hr1 (by omega) ?_
  intro A2 c2 w2 fp2 ho hu2 hf
  refine ⟨_, rfl, ⟨fp2, OwnV.list_mk (by simpa using ho), fun b hb => ?_⟩, (hu.trans0 (Upd.refl _ _)).trans (fp := []) hu2 (fun b hb => ?_)⟩
  · rcases hf b hb with h | h
    · simp at h; omega
    · exact Nat.le_trans hu.size h
  · simp at hb; subst hb; exact .inr (Nat.le_refl _)

theorem set_take_eq {xs : List Int} {k : Nat} (hk : k < xs.length) : (xs.take k ++ List.replicate (xs.length - k) 0).set k xs[k] = xs.take (k + 1) ++ List.replicate (xs.length - (k + 1)) 0 := by
  apply List.ext_getElem?
  intro i
  rw [List.getElem?_set]
  simp only [List.getElem?_append, List.length_take, List.getElem?_take, List.getElem?_replicate, List.length_append, List.length_replicate]
  split
  · subst_vars
    rw [if_pos (by omega), if_pos (by omega), if_pos (by omega)]
    exact (List.getElem?_eq_getElem hk).symm
  · split <;> split <;> first | omega | (split <;> split <;> first | rfl | omega) | rfl | skip
    all_goals (split <;> first | rfl | omega | skip)

theorem toIntS_c (v : Value) (xs : List Int) (S : Nat → Prop) (w : World) (h : RdV w S v xs) (hS : ∀ b, S b → b < w.heap.size) (hlen : xs.length ≤ 17592186044416) :
    Calls Tryd.prog 60 #[v] w fun e w' => ∃ r fp, e = .returned r ∧ OwnV w' fp r xs ∧ (∀ b ∈ fp, w.heap.size ≤ b) ∧ Ext w w' := by
  obtain ⟨A, m, c, rfl, hr⟩ := h.list
  obtain rfl := hr.1
  have hmm : maxLen = 9223372036854775807 := rfl
  refine enter (args := [_]) gok Tryd.func60 rfl rfl rfl rfl rfl ?_
  refine make_ (α := Int) gok rfl rfl rfl xs.length xs.length rfl rfl (Nat.le_refl _) (by omega) (by omega) ?_
  intro A1 w1 hown hu
  refine loop (fun k : Nat => [(0, .slice A xs.length c), (3, .slice A1 xs.length xs.length), (4, .int .i64 k)])
    (fun k w' => Upd [w.heap.size] w w' ∧ k ≤ xs.length ∧ OwnL (α := Int) w' [w.heap.size] A1 xs.length xs.length (xs.take k ++ List.replicate (xs.length - k) 0)) (fun k => xs.length - k) 0 ⟨rfl, rfl, rfl, trivial⟩ ⟨hu.mono (fun _ h => by cases h), Nat.zero_le _, hown⟩ ?_
  rintro T0 k w2 ⟨hu2, hk, hown2⟩
  refine cmp (fun hlt => ?_) (fun hlt => ?_)
  · have hlt' : k < xs.length := by omega
    have hr2 : RdL w2 S A xs.length c xs := hr.keep (Rep.rd_keep fun b hb => hu2.block b (hS b hb) (by have := hS b hb; simp; omega)) (fun b hb => hu2.block b (hS b hb) (by have := hS b hb; simp; omega))
    obtain ⟨b, o, rfl, hc, hi⟩ := RdL.atI hr2 hlt'
    refine idx k rfl hlt' (load1 hc ?_)
    obtain ⟨b1, o1, rfl, _, _⟩ := RdL.atI (k := k) (OwnL.rdL hown2) (by simp; omega)
    refine idx k rfl hlt' (stI hown2 (by simp; omega) hi ?_)
    intro w3 hown3 hu3
    refine ar (by omega) ?_
    refine ⟨k + 1, ⟨rfl, rfl, rfl, trivial⟩, ⟨hu2.trans hu3 (fun b hb => .inl hb), hlt', ?_⟩, by omega⟩
    rw [← set_take_eq hlt']; exact hown3
  · have : k = xs.length := by omega
    subst this
    refine ⟨_, [w.heap.size], rfl, OwnV.list_mk (by simpa using hown2), by simp, hu2.ext (by simp)⟩
end Go.Proofs.YtgnlfjlenjfffaaDoor
