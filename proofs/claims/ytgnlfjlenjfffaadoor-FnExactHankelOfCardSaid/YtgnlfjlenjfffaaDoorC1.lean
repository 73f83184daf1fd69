/-
  Contracts of the basic functions of the program, the reference and the laws: what each call returns. Conditions: as each theorem states.
-/
import Derived.Test.YtgnlfjlenjfffaaDoorEng
import Derived.Test.YtgnlfjlenjfffaaDoorDraw
import Derived.Test.YtgnlfjlenjfffaaDoorP1
namespace Go.Proofs.YtgnlfjlenjfffaaDoor
open Go
open Go.RowKit (Below)
open Go.Proofs.YtgnlfjlenjfffaaDoor.RW

theorem mixed : Tryd.prog.follows .mixedOrders = true := by kernel_rfl
theorem inI_nat {n : Nat} (h : n ≤ maxLen) : inI (n : Int) := by have : maxLen = 9223372036854775807 := rfl; unfold inI; omega

theorem within_c (n lo hi : Int) (w : World) :
    Calls Tryd.prog 48 #[.int .i64 n, .int .i64 lo, .int .i64 hi] w fun e w' => e = .returned (.bool (decide (lo ≤ n) && decide (n ≤ hi))) ∧ w = w' := by
  refine enter (args := [_, _, _]) gok Tryd.func48 rfl rfl rfl rfl rfl ?_
  refine cmp (fun h => ?_) (fun h => ?_)
  · refine cmp (fun h' => ?_) (fun h' => ?_)
    · exact ⟨by simp [h, h'], rfl⟩
    · exact ⟨by simp [h, h'], rfl⟩
  · exact ⟨by simp [h], rfl⟩
theorem l1In_c (n lo hi : Int) (w : World) :
    Calls Tryd.prog 45 #[.int .i64 n, .int .i64 lo, .int .i64 hi] w fun e w' => e = .returned (.bool (decide (lo ≤ n) && decide (n ≤ hi))) ∧ w = w' := by
  refine enter (args := [_, _, _]) gok Tryd.func45 rfl rfl rfl rfl rfl ?_
  refine cmp (fun h => ?_) (fun h => ?_)
  · refine cmp (fun h' => ?_) (fun h' => ?_)
    · exact ⟨by simp [h, h'], rfl⟩
    · exact ⟨by simp [h, h'], rfl⟩
  · exact ⟨by simp [h], rfl⟩
theorem isElement_c (p a : Int) (w : World) :
    Calls Tryd.prog 90 #[.int .i64 p, .int .i64 a] w fun e w' => e = .returned (.bool (elI p a)) ∧ w = w' := by
  refine enter (args := [_, _]) gok Tryd.func90 rfl rfl rfl rfl rfl ?_
  refine cmp (fun h => ?_) (fun h => ?_)
  · refine cmp (fun h' => ?_) (fun h' => ?_)
    · exact ⟨by simp [elI, h, h'], rfl⟩
    · exact ⟨by simp [elI, h, h'], rfl⟩
  · exact ⟨by simp [elI, h], rfl⟩
theorem mod_c (p a : Int) (w : World) (h0 : 2 ≤ p) (h1 : p ≤ 97) :
    Calls Tryd.prog 94 #[.int .i64 p, .int .i64 a] w fun e w' => e = .returned (.int .i64 (a % p)) ∧ w = w' := by
  refine enter (args := [_, _]) gok Tryd.func94 rfl rfl rfl rfl rfl ?_
  have hm := tmod_bd a p (by omega)
  have he : a % p = if a.tmod p < 0 then a.tmod p + p else a.tmod p := by
    rw [Int.tmod_eq_emod]
    have := Int.emod_nonneg a (show p ≠ 0 by omega)
    have := Int.emod_lt_of_pos a (show 0 < p by omega)
    split <;> split <;> omega
  refine rem_ (by omega) ?_
  refine cmp (fun h => ?_) (fun h => ?_)
  · refine ar (by omega) ?_
    exact ⟨by rw [he, if_pos h], rfl⟩
  · exact ⟨by rw [he, if_neg h], rfl⟩
theorem fdSub_c (p a b : Int) (w : World) (h0 : 2 ≤ p) (h1 : p ≤ 97) (ha : 0 ≤ a ∧ a < p) (hb : 0 ≤ b ∧ b < p) :
    Calls Tryd.prog 66 #[.int .i64 p, .int .i64 a, .int .i64 b] w fun e w' => e = .returned (.int .i64 ((a - b) % p)) ∧ w = w' := by
  refine enter (args := [_, _, _]) gok Tryd.func66 rfl rfl rfl rfl rfl ?_
  refine ar (by omega) (ar (by omega) (rem_ (by omega) ?_))
  exact ⟨by rw [tmod_emod (by omega), show a + p - b = (a - b) + p from by omega, Int.add_emod_right], rfl⟩
theorem fdMul_c (p a b : Int) (w : World) (h0 : 2 ≤ p) (h1 : p ≤ 97) (ha : 0 ≤ a ∧ a < p) (hb : 0 ≤ b ∧ b < p) :
    Calls Tryd.prog 65 #[.int .i64 p, .int .i64 a, .int .i64 b] w fun e w' => e = .returned (.int .i64 (a * b % p)) ∧ w = w' := by
  refine enter (args := [_, _, _]) gok Tryd.func65 rfl rfl rfl rfl rfl ?_
  have h2 : 0 ≤ a * b := Int.mul_nonneg ha.1 hb.1
  have h3 : a * b ≤ 97 * 97 := Int.mul_le_mul (by omega) (by omega) hb.1 (by omega)
  refine ar (by omega) (rem_ (by omega) ?_)
  exact ⟨by rw [tmod_emod h2], rfl⟩

theorem all_take_succ {α : Type} {f : α → Bool} {l : List α} {k : Nat} (hk : k < l.length) : (l.take (k + 1)).all f = ((l.take k).all f && f l[k]) := by
  rw [List.take_succ_eq_append_getElem hk, List.all_append]; simp
theorem all_false {α : Type} {f : α → Bool} {l : List α} {k : Nat} (hk : k < l.length) (h : f l[k] = false) : l.all f = false := by
  rw [Bool.eq_false_iff]
  intro h'
  have := List.all_eq_true.1 h' l[k] (List.getElem_mem _)
  rw [h] at this; cases this
theorem all_take_all {α : Type} {f : α → Bool} {l : List α} {k : Nat} (hk : ¬ k < l.length) (h : (l.take k).all f = true) : l.all f = true := by
  rwa [List.take_of_length_le (by omega)] at h

theorem isVector_c (p n : Int) (v : Value) (xs : List Int) (S : Nat → Prop) (w : World) (h : RdV w S v xs) :
    Calls Tryd.prog 83 #[.int .i64 p, v, .int .i64 n] w fun e w' => e = .returned (.bool (decide ((xs.length : Int) = n) && allEl p xs)) ∧ w = w' := by
  obtain ⟨A, m, c, rfl, hr⟩ := h.list
  obtain rfl := hr.1
  have hmm : maxLen = 9223372036854775807 := rfl
  have hcm := hr.2.2.1
  have hlc := hr.2.1
  refine enter (args := [_, _, _]) gok Tryd.func83 rfl rfl rfl rfl rfl ?_
  refine cmp (fun hn => ?_) (fun hn => ?_)
  · refine loop (fun k : Nat => [(0, .int .i64 p), (13, .slice A xs.length c), (14, .int .i64 xs.length), (15, .int .i64 k)])
      (fun k w' => w = w' ∧ k ≤ xs.length ∧ (xs.take k).all (elI p) = true) (fun k => xs.length - k) 0 ⟨rfl, rfl, rfl, rfl, trivial⟩ ⟨rfl, Nat.zero_le _, rfl⟩ ?_
    rintro T0 k _ ⟨rfl, hk, hq⟩
    refine cmp (fun hlt => ?_) (fun hlt => ?_)
    · have hlt' : k < xs.length := by omega
      obtain ⟨b, o, rfl, hc, _⟩ := RdL.atI hr hlt'
      refine idx k rfl hlt' ?_
      refine load1 hc ?_
      refine call (isElement_c _ _ _) ?_
      rintro _ _ ⟨rfl, rfl⟩
      refine ⟨_, rfl, ?_⟩
      cases he : elI p xs[k]
      · exact ⟨by rw [show allEl p xs = false from all_false hlt' he, Bool.and_false], rfl⟩
      · refine ar (by omega) ?_
        exact ⟨k + 1, ⟨rfl, rfl, rfl, rfl, trivial⟩, ⟨rfl, hlt', by rw [all_take_succ hlt', hq, he]; rfl⟩, by omega⟩
    · exact ⟨by rw [decide_eq_true hn, show allEl p xs = true from all_take_all (by omega) hq]; rfl, rfl⟩
  · exact ⟨by rw [decide_eq_false hn]; rfl, rfl⟩
theorem l1All_c (lo hi : Int) (v : Value) (xs : List Int) (S : Nat → Prop) (w : World) (h : RdV w S v xs) :
    Calls Tryd.prog 85 #[v, .int .i64 lo, .int .i64 hi] w fun e w' => e = .returned (.bool (xs.all fun n => decide (lo ≤ n) && decide (n ≤ hi))) ∧ w = w' := by
  obtain ⟨A, m, c, rfl, hr⟩ := h.list
  obtain rfl := hr.1
  have hmm : maxLen = 9223372036854775807 := rfl
  have hcm := hr.2.2.1
  have hlc := hr.2.1
  refine enter (args := [_, _, _]) gok Tryd.func85 rfl rfl rfl rfl rfl ?_
  refine loop (fun k : Nat => [(1, .int .i64 lo), (2, .int .i64 hi), (9, .slice A xs.length c), (10, .int .i64 xs.length), (11, .int .i64 k)])
      (fun k w' => w = w' ∧ k ≤ xs.length ∧ (xs.take k).all (fun n => decide (lo ≤ n) && decide (n ≤ hi)) = true) (fun k => xs.length - k) 0 ⟨rfl, rfl, rfl, rfl, rfl, trivial⟩ ⟨rfl, Nat.zero_le _, rfl⟩ ?_
  rintro T0 k _ ⟨rfl, hk, hq⟩
  refine cmp (fun hlt => ?_) (fun hlt => ?_)
  · have hlt' : k < xs.length := by omega
    obtain ⟨b, o, rfl, hc, _⟩ := RdL.atI hr hlt'
    refine idx k rfl hlt' ?_
    refine load1 hc ?_
    refine call (l1In_c _ _ _ _) ?_
    rintro _ _ ⟨rfl, rfl⟩
    refine ⟨_, rfl, ?_⟩
    cases he : decide (lo ≤ xs[k]) && decide (xs[k] ≤ hi)
    · exact ⟨by rw [all_false (f := fun n => decide (lo ≤ n) && decide (n ≤ hi)) hlt' he], rfl⟩
    · refine ar (by omega) ?_
      exact ⟨k + 1, ⟨rfl, rfl, rfl, rfl, rfl, trivial⟩, ⟨rfl, hlt', by rw [all_take_succ hlt', hq, he]; rfl⟩, by omega⟩
  · exact ⟨by rw [all_take_all (by omega) hq], rfl⟩
theorem fdIn_c (p : Int) (v : Value) (xs : List Int) (S : Nat → Prop) (w : World) (h : RdV w S v xs) (hp : 0 ≤ p ∧ p ≤ 97) :
    Calls Tryd.prog 75 #[.int .i64 p, v] w fun e w' => e = .returned (.bool (allEl p xs)) ∧ w = w' := by
  refine enter (args := [_, _]) gok Tryd.func75 rfl rfl rfl rfl rfl ?_
  refine ar (by omega) ?_
  refine call (l1All_c _ _ _ _ _ _ h) ?_
  rintro _ _ ⟨rfl, rfl⟩
  refine ⟨_, rfl, ?_⟩
  have : (xs.all fun n => decide (0 ≤ n) && decide (n ≤ p - 1)) = allEl p xs := by
    unfold allEl elI
    congr 1; funext n; congr 1; rw [decide_eq_decide]; omega
  exact ⟨by rw [← this], rfl⟩
theorem fdGood_c (p : Int) (w : World) :
    Calls Tryd.prog 50 #[.int .i64 p] w fun e w' => e = .returned (.bool (goodP p)) ∧ w = w' := by
  refine enter (args := [_]) gok Tryd.func50 rfl rfl rfl rfl rfl ?_
  refine call (l1In_c _ _ _ _) ?_
  rintro _ _ ⟨rfl, rfl⟩
  refine ⟨_, rfl, ?_⟩
  cases hb : decide (2 ≤ p) && decide (p ≤ 97)
  · have : goodP p = false := goodP_out (fun h => by simp [h.1, h.2] at hb)
    exact ⟨by rw [this], rfl⟩
  · have hp : 2 ≤ p ∧ p ≤ 97 := by simpa using hb
    obtain ⟨q, rfl⟩ : ∃ q : Nat, p = q := ⟨p.toNat, by omega⟩
    have hq : 2 ≤ q ∧ q < 98 := by omega
    refine loop (fun k : Nat => [(0, .int .i64 (q : Int)), (3, .int .i64 k)]) (fun k w' => w = w' ∧ 2 ≤ k ∧ k ≤ 10 ∧ ∀ j, 2 ≤ j → j < k → q % j ≠ 0) (fun k => 98 - k) 2 ⟨rfl, rfl, trivial⟩ ⟨rfl, by omega, by omega, fun j h1 h2 => by omega⟩ ?_
    rintro T0 k _ ⟨rfl, hk, hk2, hinv⟩
    have h2 : (k : Int) * k ≤ 10 * 10 := Int.mul_le_mul (by omega) (by omega) (by omega) (by omega)
    have h3 : (0 : Int) ≤ (k : Int) * k := Int.mul_nonneg (by omega) (by omega)
    refine ar (by omega) ?_
    refine cmp (fun hle => ?_) (fun hle => ?_)
    · have hle' : k * k ≤ q := by exact_mod_cast hle
      have hk9 : k ≤ 9 := by
        rcases Nat.lt_or_ge 9 k with h | h
        · have : 10 * 10 ≤ k * k := Nat.mul_le_mul h h
          omega
        · exact h
      refine rem_ (by omega) ?_
      refine cmp (fun h0 => ?_) (fun h0 => ?_)
      · have hz : q % k = 0 := by
          rw [tmod_emod (by omega)] at h0
          omega
        have := goodP_div ⟨q, hq.2⟩ ⟨k, by omega⟩ hk hle' hz
        exact ⟨by rw [show goodP (q : Int) = false from this], rfl⟩
      · refine ar (by omega) ?_
        refine ⟨k + 1, ⟨rfl, rfl, trivial⟩, ⟨rfl, by omega, by omega, fun j h1 h2 => ?_⟩, by omega⟩
        by_cases hj : j = k
        · subst hj
          rw [tmod_emod (by omega)] at h0
          omega
        · exact hinv j h1 (by omega)
    · have hle' : q < k * k := by
        have : ¬ (((k * k : Nat) : Int) ≤ (q : Int)) := by simpa using hle
        omega
      have := goodP_none ⟨q, hq.2⟩ ⟨k, by omega⟩ hq.1 hle' (fun j h1 h2 => hinv j.val h1 h2)
      exact ⟨by rw [show goodP (q : Int) = true from this], rfl⟩
end Go.Proofs.YtgnlfjlenjfffaaDoor
