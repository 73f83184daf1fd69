/-
  Contracts: the tests for a matrix over a field and for a response, of the program and of the reference. Conditions: the arguments read so; the table of primes lies.
-/
import Derived.Test.YtgnlfjlenjfffaaDoorT3
namespace Go.Proofs.YtgnlfjlenjfffaaDoor
open Go
open Go.RowKit (Below)
open Go.Proofs.YtgnlfjlenjfffaaDoor.RW
open Rep Szn MkE

abbrev Mx := Int × List (List Int)
/-- rows of n elements -/
def rowsOk (p n : Int) (rows : List (List Int)) : Bool := rows.all fun r => decide ((r.length : Int) = n) && allEl p r
def mxOk (p : Int) (x : Mx) : Bool := goodP p && (decide (0 ≤ x.1) && decide (x.1 ≤ 24)) && decide (x.2.length ≤ 24) && rowsOk p x.1 x.2
def shaped (p : Int) (r c : Int) (x : Mx) : Bool := mxOk p x && decide ((x.2.length : Int) = r) && decide (x.1 = c)
def respOk (p : Int) (m : List Mx) : Bool := match m with
  | [] => false
  | x :: _ => goodP p && decide (m.length ≤ 60) && m.all (shaped p x.2.length x.1) && decide (x.2.length ≤ 8) && decide (x.1 ≤ 8)

set_option maxRecDepth 10000 in
theorem mxGood_c (p : Int) (v : Value) (x : Mx) (S : Nat → Prop) (w : World) (h : RdV w S v x) (hS : ∀ b, S b → b < w.heap.size) :
    Calls Tryd.prog 51 #[.int .i64 p, v] w fun e w' => e = .returned (.bool (mxOk p x)) ∧ Ext w w' := by
  obtain ⟨A, n, c, rfl, hi, hr⟩ := h.pair
  obtain rfl := hr.1
  have hmm : maxLen = 9223372036854775807 := rfl
  have hcm := hr.2.2.1
  have hlc := hr.2.1
  refine enter (args := [_, _]) gok Tryd.func51 rfl rfl rfl rfl rfl ?_
  refine box_ ?_
  intro w1 hb hu1 l1
  refine call (fdGood_c _ _) ?_
  rintro _ _ ⟨rfl, rfl⟩
  refine ⟨_, rfl, ?_⟩
  cases hg : goodP p
  · exact ⟨by rw [mxOk, hg]; rfl, hu1⟩
  have hp := goodP_bd hg
  refine fld gok rfl rfl rfl rfl (load1 (hb.get rfl) ?_)
  refine call (l1In_c _ _ _ _) ?_
  rintro _ _ ⟨rfl, rfl⟩
  refine ⟨_, rfl, ?_⟩
  cases h1 : decide (0 ≤ x.1) && decide (x.1 ≤ 24)
  · exact ⟨by rw [mxOk, h1, hg]; rfl, hu1⟩
  refine fld gok rfl rfl rfl rfl (load1 (hb.get rfl) ?_)
  refine cmp (fun h2 => ?_) (fun h2 => ?_)
  · have : decide (x.2.length ≤ 24) = false := decide_eq_false (by omega)
    exact ⟨by rw [mxOk, this, Bool.and_false, Bool.false_and], hu1⟩
  have hl : decide (x.2.length ≤ 24) = true := decide_eq_true (by omega)
  have hms : mxOk p x = rowsOk p x.1 x.2 := by rw [mxOk, hg, h1, hl]; rfl
  rw [hms]
  refine fld gok rfl rfl rfl rfl (load1 (hb.get rfl) ?_)
  refine loop (fun k : Nat => [(0, .int .i64 p), (3, .pointer (some ⟨w.heap.size, 0, none⟩)), (23, .slice A x.2.length c), (24, .int .i64 x.2.length), (25, .int .i64 k)])
    (fun k w' => w1 = w' ∧ k ≤ x.2.length ∧ rowsOk p x.1 (x.2.take k) = true) (fun k => x.2.length - k) 0 ⟨rfl, rfl, rfl, rfl, rfl, trivial⟩ ⟨rfl, Nat.zero_le _, rfl⟩ ?_
  rintro T0 k _ ⟨rfl, hk, hq⟩
  have hr2 := hr.ext_ hS hu1
  refine cmp (fun hlt => ?_) (fun hlt => ?_)
  · have hlt' : k < x.2.length := by omega
    obtain ⟨b, o, v', rfl, hc, hv⟩ := RdL.atL hr2 hlt'
    refine idx k rfl hlt' (load1 hc ?_)
    obtain ⟨A', n', c', rfl, hv'⟩ := hv.list
    obtain rfl := hv'.1
    refine fld gok rfl rfl rfl rfl (load1 (hb.get rfl) ?_)
    have out : ∀ b, (decide ((x.2[k].length : Int) = x.1) && allEl p x.2[k]) = b → b = false → rowsOk p x.1 x.2 = false := fun b h1 h2 => all_false hlt' (h1.trans h2)
    refine cmp (fun h3 => ?_) (fun h3 => ?_)
    · refine call (fdIn_c _ _ _ _ _ hv (by omega)) ?_
      rintro _ _ ⟨rfl, rfl⟩
      refine ⟨_, rfl, ?_⟩
      cases h4 : allEl p x.2[k]
      · exact ⟨by rw [out _ rfl (by rw [h4, Bool.and_false])], hu1⟩
      · refine ar (by omega) ?_
        refine ⟨k + 1, ⟨rfl, rfl, rfl, rfl, rfl, trivial⟩, ⟨rfl, hlt', ?_⟩, by omega⟩
        unfold rowsOk at hq ⊢
        rw [all_take_succ hlt', hq, h4, decide_eq_true h3]; rfl
    · exact ⟨by rw [out _ rfl (by rw [decide_eq_false h3]; rfl)], hu1⟩
  · have : k = x.2.length := by omega
    subst this
    rw [List.take_length] at hq
    exact ⟨by rw [hq], hu1⟩
theorem areVectors_c (p n : Int) (v : Value) (x : List (List Int)) (S : Nat → Prop) (w : World) (h : RdV w S v x) :
    Calls Tryd.prog 73 #[.int .i64 p, v, .int .i64 n] w fun e w' => e = .returned (.bool (rowsOk p n x)) ∧ w = w' := by
  obtain ⟨A, l, c, rfl, hr⟩ := h.list
  obtain rfl := hr.1
  have hmm : maxLen = 9223372036854775807 := rfl
  have hcm := hr.2.2.1
  have hlc := hr.2.1
  refine enter (args := [_, _, _]) gok Tryd.func73 rfl rfl rfl rfl rfl ?_
  refine loop (fun k : Nat => [(0, .int .i64 p), (2, .int .i64 n), (9, .slice A x.length c), (10, .int .i64 x.length), (11, .int .i64 k)])
    (fun k w' => w = w' ∧ k ≤ x.length ∧ rowsOk p n (x.take k) = true) (fun k => x.length - k) 0 ⟨rfl, rfl, rfl, rfl, rfl, trivial⟩ ⟨rfl, Nat.zero_le _, rfl⟩ ?_
  rintro T0 k _ ⟨rfl, hk, hq⟩
  refine cmp (fun hlt => ?_) (fun hlt => ?_)
  · have hlt' : k < x.length := by omega
    obtain ⟨b, o, v', rfl, hc, hv⟩ := RdL.atL hr hlt'
    refine idx k rfl hlt' (load1 hc ?_)
    refine call (isVector_c _ _ _ _ _ _ hv) ?_
    rintro _ _ ⟨rfl, rfl⟩
    refine ⟨_, rfl, ?_⟩
    cases h4 : decide ((x[k].length : Int) = n) && allEl p x[k]
    · exact ⟨by rw [show rowsOk p n x = false from all_false hlt' h4], rfl⟩
    · refine ar (by omega) ?_
      refine ⟨k + 1, ⟨rfl, rfl, rfl, rfl, rfl, trivial⟩, ⟨rfl, hlt', ?_⟩, by omega⟩
      unfold rowsOk at hq ⊢
      rw [all_take_succ hlt', hq, h4]; rfl
  · have : k = x.length := by omega
    subst this
    rw [List.take_length] at hq
    exact ⟨by rw [hq], rfl⟩
set_option maxRecDepth 10000 in
theorem isMatrix_c (p : Int) (v : Value) (x : Mx) (S : Nat → Prop) (w : World) (hL : Lay w) (h : RdV w S v x) (hS : ∀ b, S b → b < w.heap.size) :
    Calls Tryd.prog 53 #[.int .i64 p, v] w fun e w' => e = .returned (.bool (mxOk p x)) ∧ Ext w w' := by
  obtain ⟨A, n, c, rfl, hi, hr⟩ := h.pair
  obtain rfl := hr.1
  have hmm : maxLen = 9223372036854775807 := rfl
  have hcm := hr.2.2.1
  have hlc := hr.2.1
  refine enter (args := [_, _]) gok Tryd.func53 rfl rfl rfl rfl rfl ?_
  refine box_ ?_
  intro w1 hb hu1 l1
  refine call (isField_c _ _ (hL.ext hu1)) ?_
  rintro _ _ ⟨rfl, rfl⟩
  refine ⟨_, rfl, ?_⟩
  cases hg : goodP p
  · exact ⟨by rw [mxOk, hg]; rfl, hu1⟩
  refine fld gok rfl rfl rfl rfl (load1 (hb.get rfl) ?_)
  refine call (within_c _ _ _ _) ?_
  rintro _ _ ⟨rfl, rfl⟩
  refine ⟨_, rfl, ?_⟩
  cases h1 : decide (0 ≤ x.1) && decide (x.1 ≤ 24)
  · exact ⟨by rw [mxOk, h1, hg]; rfl, hu1⟩
  refine fld gok rfl rfl rfl rfl (load1 (hb.get rfl) ?_)
  refine cmp (fun h2 => ?_) (fun h2 => ?_)
  · have hl : decide (x.2.length ≤ 24) = true := decide_eq_true (by omega)
    have hms : mxOk p x = rowsOk p x.1 x.2 := by rw [mxOk, hg, h1, hl]; rfl
    rw [hms]
    refine fld gok rfl rfl rfl rfl (load1 (hb.get rfl) ?_)
    refine fld gok rfl rfl rfl rfl (load1 (hb.get rfl) ?_)
    refine call (areVectors_c _ _ _ _ _ _ (RdV.list_mk (hr.ext_ hS hu1))) ?_
    rintro _ _ ⟨rfl, rfl⟩
    refine ⟨_, rfl, ?_⟩
    exact ⟨rfl, hu1⟩
  · have : decide (x.2.length ≤ 24) = false := decide_eq_false (by omega)
    exact ⟨by rw [mxOk, this, Bool.and_false, Bool.false_and], hu1⟩
end Go.Proofs.YtgnlfjlenjfffaaDoor
