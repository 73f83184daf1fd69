/-
  Plain functions: a sequence continued by a recurrence; the numbers k, k+1, .. No condition; no program in sight.
-/
import Derived.Test.YtgnlfjlenjfffaaDoorP1
namespace Go.Proofs.YtgnlfjlenjfffaaDoor

def dotR (c o : List Int) : Nat → Int
  | 0 => 0
  | i + 1 => dotR c o i + c.getD i 0 * o.getD (o.length - 1 - i) 0
def nxt (p : Int) (c o : List Int) : Int := (-(dotR c o c.length)) % p
def extL (p : Int) (c s : List Int) : Nat → List Int
  | 0 => s
  | j + 1 => extL p c s j ++ [nxt p c (extL p c s j)]
theorem extL_len (p : Int) (c s : List Int) : ∀ j, (extL p c s j).length = s.length + j
  | 0 => rfl
  | j + 1 => by rw [extL, List.length_append, extL_len p c s j]; simp; omega
theorem nxt_bd {p : Int} (c o : List Int) (hp : 0 < p) : 0 ≤ nxt p c o ∧ nxt p c o < p := ⟨Int.emod_nonneg _ (by omega), Int.emod_lt_of_pos _ hp⟩
theorem allEl_append {p : Int} {a b : List Int} : allEl p (a ++ b) = (allEl p a && allEl p b) := by unfold allEl; rw [List.all_append]
theorem extL_el {p : Int} {c s : List Int} (hp : 0 < p) (hs : allEl p s = true) : ∀ j, allEl p (extL p c s j) = true
  | 0 => hs
  | j + 1 => by
    rw [extL, allEl_append, extL_el hp hs j]
    have := nxt_bd c (extL p c s j) hp
    simp [allEl, elI, this.1, this.2]
theorem getD_eq {l : List Int} {i : Nat} (h : i < l.length) : l.getD i 0 = l[i] := by simp [List.getD, h]
theorem dotR_bd {p : Int} {c o : List Int} (hp : 0 ≤ p ∧ p ≤ 97) (hc : allEl p c = true) (ho : allEl p o = true) (hl : c.length ≤ o.length) : ∀ i, i ≤ c.length → 0 ≤ dotR c o i ∧ dotR c o i ≤ 9409 * i
  | 0, _ => by simp [dotR]
  | i + 1, hi => by
    have ih := dotR_bd hp hc ho hl i (by omega)
    have h1 := allEl_get hc (i := i) (by omega)
    have h2 := allEl_get ho (i := o.length - 1 - i) (by omega)
    rw [dotR, getD_eq (by omega), getD_eq (by omega)]
    have h3 : 0 ≤ c[i] * o[o.length - 1 - i] := Int.mul_nonneg h1.1 h2.1
    have h4 : c[i] * o[o.length - 1 - i] ≤ 97 * 97 := Int.mul_le_mul (by omega) (by omega) h2.1 (by omega)
    push_cast
    omega
theorem dotR_step (p : Int) (c o : List Int) (i : Nat) : ((-(dotR c o i)) % p - c.getD i 0 * o.getD (o.length - 1 - i) 0 % p) % p = (-(dotR c o (i + 1))) % p := by
  rw [← Int.sub_emod, dotR]
  congr 1
  omega
/-- the answer: is it a continuation; its elements -/
def extOk (p : Int) (s c : List Int) (n : Int) : Bool := goodP p && allEl p s && allEl p c && decide ((s.length : Int) ≤ n) && decide (n ≤ 60) && decide (c.length ≤ s.length)
def extR (p : Int) (s c : List Int) (n : Int) : List Int := if extOk p s c n then extL p c s (n.toNat - s.length) else []
theorem extOk_iff {p : Int} {s c : List Int} {n : Int} : extOk p s c n = true ↔ goodP p = true ∧ allEl p s = true ∧ allEl p c = true ∧ (s.length : Int) ≤ n ∧ n ≤ 60 ∧ c.length ≤ s.length := by
  simp [extOk, and_assoc]

def seqI (k : Int) (n : Nat) : List Int := (List.range n).map fun (i : Nat) => k + (i : Int)
theorem seqI_len (k : Int) (n : Nat) : (seqI k n).length = n := by simp [seqI]
theorem seqI_get {k : Int} {n i : Nat} (h : i < (seqI k n).length) : (seqI k n)[i] = k + i := by simp [seqI]
theorem seqI_set {k : Int} {xs : List Int} {i : Nat} (h : i < xs.length) : (seqI k i ++ xs.drop i).set i (k + i) = seqI k (i + 1) ++ xs.drop (i + 1) := by
  rw [List.set_append_right _ _ (by rw [seqI_len]; omega), seqI_len, Nat.sub_self, List.drop_eq_getElem_cons h, List.set_cons_zero]
  simp [seqI, List.range_succ]
end Go.Proofs.YtgnlfjlenjfffaaDoor
