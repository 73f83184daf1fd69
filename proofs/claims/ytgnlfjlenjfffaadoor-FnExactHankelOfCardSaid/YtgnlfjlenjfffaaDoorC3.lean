/-
  Contracts, third part: comparing, marking and holding lists of numbers (the laws' helpers). Conditions: as each theorem states.
-/
import Derived.Test.YtgnlfjlenjfffaaDoorC2
import Derived.Test.YtgnlfjlenjfffaaDoorP2
namespace Go.Proofs.YtgnlfjlenjfffaaDoor
open Go
open Go.RowKit (Below)
open Go.Proofs.YtgnlfjlenjfffaaDoor.RW

theorem drewN_add (w : World) (a b : Nat) : (w.drewN a).drewN b = w.drewN (a + b) := World.drewN_drewN w a b
theorem RW.RdV.drewN {α : Type} [Rep α] {w : World} {S : Nat → Prop} {v : Value} {x : α} (h : RdV w S v x) (n : Nat) : RdV (w.drewN n) S v x := h.keep fun _ _ => rfl
theorem RW.RdL.drewN {α : Type} [Rep α] {w : World} {S : Nat → Prop} {A : Option Addr} {n c : Nat} {xs : List α} (h : RdL w S A n c xs) (k : Nat) : RdL (w.drewN k) S A n c xs := RdG.keep (w := w) (r := Rep.rd (α := α)) (Rep.rd_keep fun _ _ => rfl) (fun _ _ => rfl) h

theorem list_ext_take {α : Type} {a b : List α} (hl : a.length = b.length) {k : Nat} (hk : ¬ k < a.length) (h : a.take k = b.take k) : a = b := by
  rwa [List.take_of_length_le (by omega), List.take_of_length_le (by omega)] at h
theorem take_succ_eq {α : Type} {a b : List α} {k : Nat} (ha : k < a.length) (hb : k < b.length) (h : a.take k = b.take k) (he : a[k] = b[k]) : a.take (k + 1) = b.take (k + 1) := by
  rw [List.take_succ_eq_append_getElem ha, List.take_succ_eq_append_getElem hb, h, he]
theorem ne_of_get {α : Type} {a b : List α} {k : Nat} (ha : k < a.length) (hb : k < b.length) (he : a[k] ≠ b[k]) : a ≠ b := by
  intro h; subst h; exact he rfl

theorem eqIntS_c (v u : Value) (xs ys : List Int) (S S' : Nat → Prop) (w : World) (h : RdV w S v xs) (h' : RdV w S' u ys) :
    Calls Tryd.prog 55 #[v, u] w fun e w' => e = .returned (.bool (decide (xs = ys))) ∧ ∃ m, w' = w.drewN m := by
  obtain ⟨A, m, c, rfl, hr⟩ := h.list
  obtain ⟨A', m', c', rfl, hr'⟩ := h'.list
  obtain rfl := hr.1
  obtain rfl := hr'.1
  have hmm : maxLen = 9223372036854775807 := rfl
  have hcm := hr.2.2.1
  have hlc := hr.2.1
  refine enter (args := [_, _]) gok Tryd.func55 rfl rfl rfl rfl rfl ?_
  refine cmp (fun hn => ?_) (fun hn => ?_)
  · have hl : xs.length = ys.length := by omega
    refine loop (fun k : Nat => [(0, .slice A xs.length c), (1, .slice A' ys.length c'), (5, .int .i64 k)])
      (fun k w' => (∃ m, w' = w.drewN m) ∧ k ≤ xs.length ∧ xs.take k = ys.take k) (fun k => xs.length - k) 0 ⟨rfl, rfl, rfl, trivial⟩ ⟨⟨0, rfl⟩, Nat.zero_le _, rfl⟩ ?_
    rintro T0 k _ ⟨⟨m, rfl⟩, hk, hq⟩
    refine cmp (fun hlt => ?_) (fun hlt => ?_)
    · have hlt' : k < xs.length := by omega
      obtain ⟨b, o, rfl, hc, _⟩ := RdL.atI (hr.drewN m) hlt'
      obtain ⟨b', o', rfl, hc', _⟩ := RdL.atI (hr'.drewN m) (show k < ys.length by omega)
      refine quiet mixed (by kernel_rfl) ?_
      refine idx k rfl hlt' (load1 hc (idx k rfl (by omega) (load1 hc' ?_)))
      refine cmp (fun he => ?_) (fun he => ?_)
      · intro n
        refine ar (by omega) ?_
        exact ⟨k + 1, ⟨rfl, rfl, rfl, trivial⟩, ⟨⟨_, drewN_add _ _ _⟩, hlt', take_succ_eq hlt' (by omega) hq he⟩, by omega⟩
      · intro n
        exact ⟨by rw [decide_eq_false (ne_of_get hlt' (by omega) he)], _, drewN_add _ _ _⟩
    · exact ⟨by rw [decide_eq_true (list_ext_take hl (k := k) (by omega) hq)], _, rfl⟩
  · exact ⟨by rw [decide_eq_false (fun h => hn (by rw [h]))], 0, rfl⟩

theorem markIntS_c (v : Value) (xs : List Int) (fp : List Nat) (k : Int) (w : World) (h : OwnV w fp v xs) (hk : 0 ≤ k ∧ k + xs.length ≤ 4611686018427387904) :
    Calls Tryd.prog 56 #[v, .int .i64 k] w fun e w' => e = .returned (.int .i64 (k + xs.length)) ∧ OwnV w' fp v (seqI k xs.length) ∧ Upd fp w w' := by
  obtain ⟨A, m, c, rfl, hr⟩ := h.list
  obtain rfl := hr.n_eq
  refine enter (args := [_, _]) gok Tryd.func56 rfl rfl rfl rfl rfl ?_
  refine loop (fun i : Nat => [(0, .slice A xs.length c), (1, .int .i64 (k + i)), (5, .int .i64 i)])
    (fun i w' => Upd fp w w' ∧ i ≤ xs.length ∧ OwnL (α := Int) w' fp A xs.length c (seqI k i ++ xs.drop i)) (fun i => xs.length - i) 0 ⟨rfl, by simp; rfl, rfl, trivial⟩ ⟨Upd.refl _ _, Nat.zero_le _, hr⟩ ?_
  rintro T0 i w2 ⟨hu, hi, hown⟩
  have hlen : (seqI k i ++ xs.drop i).length = xs.length := by rw [List.length_append, seqI_len, List.length_drop]; omega
  refine cmp (fun hlt => ?_) (fun hlt => ?_)
  · have hlt' : i < xs.length := by omega
    obtain ⟨b, o, rfl, _, _⟩ := RdL.atI (k := i) (OwnL.rdL hown) (by omega)
    refine idx i rfl hlt' (stI hown (by omega) (by unfold inI; omega) ?_)
    intro w3 hown3 hu3
    refine ar (by omega) (ar (by omega) ?_)
    refine ⟨i + 1, ⟨rfl, by show Value.int .i64 _ = Value.int .i64 _; congr 1; omega, rfl, trivial⟩, ⟨hu.trans hu3 (fun b hb => .inl hb), hlt', ?_⟩, by omega⟩
    rw [← seqI_set hlt']; exact hown3
  · have : i = xs.length := by omega
    subst this
    exact ⟨rfl, OwnV.list_mk (by simpa using hown), hu⟩

theorem heldIntS_c (v : Value) (n : Nat) (S : Nat → Prop) (k : Int) (w : World) (h : RdV w S v (seqI k n)) (hk : 0 ≤ k ∧ k + n ≤ 4611686018427387904) :
    Calls Tryd.prog 57 #[v, .int .i64 k] w fun e w' => e = .returned (.int .i64 (k + n)) ∧ w = w' := by
  obtain ⟨A, m, c, rfl, hr⟩ := h.list
  have hm : m = n := by rw [hr.1, seqI_len]
  subst hm
  refine enter (args := [_, _]) gok Tryd.func57 rfl rfl rfl rfl rfl ?_
  refine loop (fun i : Nat => [(0, .slice A m c), (1, .int .i64 (k + i)), (5, .int .i64 i)])
    (fun i w' => w = w' ∧ i ≤ m) (fun i => m - i) 0 ⟨rfl, by simp; rfl, rfl, trivial⟩ ⟨rfl, Nat.zero_le _⟩ ?_
  rintro T0 i _ ⟨rfl, hi⟩
  refine cmp (fun hlt => ?_) (fun hlt => ?_)
  · have hlt' : i < m := by omega
    have hls : i < (seqI k m).length := by rw [seqI_len]; exact hlt'
    obtain ⟨b, o, rfl, hc, _⟩ := RdL.atI hr hls
    refine idx i rfl hlt' (load1 hc ?_)
    refine cmpT (seqI_get hls) ?_
    refine ar (by omega) (ar (by omega) ?_)
    exact ⟨i + 1, ⟨rfl, by show Value.int .i64 _ = Value.int .i64 _; congr 1; omega, rfl, trivial⟩, ⟨rfl, hlt'⟩, by omega⟩
  · have : i = m := by omega
    subst this
    exact ⟨rfl, rfl⟩
end Go.Proofs.YtgnlfjlenjfffaaDoor
