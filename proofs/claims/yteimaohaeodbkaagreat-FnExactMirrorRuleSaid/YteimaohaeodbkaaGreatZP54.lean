/-
  Plain laws: terms as trees; what a valid term is (the reference's test and the program's). No program in sight. No condition.
-/
import Derived.Test.YteimaohaeodbkaaGreatZText
namespace Go.Proofs.YteimaohaeodbkaaGreat

abbrev Nod := Int × Int × ByteArray
inductive Tr where
  | leaf (n : Nod)
  | node (k : Int) (a b : Tr)
def flat : Tr → List Nod
  | .leaf n => [n]
  | .node k a b => flat a ++ flat b ++ [(k, 0, .empty)]
theorem flat_pos : ∀ T : Tr, 0 < (flat T).length
  | .leaf _ => by simp [flat]
  | .node _ _ _ => by simp [flat]; omega
/-- the leaves -/
def lfB (n : Nod) : Bool := decide (n.2.2 = .empty) && (rng n.1 1 14 && (if n.1 = 1 then rng n.2.1 0 12 else if n.1 = 7 ∨ n.1 = 13 then rng n.2.1 0 96 else decide (n.2.1 = 0)))
def lfT (n : Nod) : Int × Int := if n.1 = 1 then (n.2.1, n.2.1) else kd n.1
def jn (k : Int) (x y : Int × Int) : Option (Int × Int) := if k = 15 then (if x.2 = y.1 then some (x.1, y.2) else none) else if x.1 + y.1 ≤ 12 ∧ x.2 + y.2 ≤ 12 then some (x.1 + y.1, x.2 + y.2) else none
abbrev Stk := List (Tr × (Int × Int))
def stepT (S : Stk) (n : Nod) : Option Stk :=
  if n.1 = 15 ∨ n.1 = 16 then
    if n.2.1 = 0 ∧ n.2.2 = .empty then match S with
      | (b, y) :: (a, x) :: S' => (jn n.1 x y).map fun w => (.node n.1 a b, w) :: S'
      | _ => none
    else none
  else if lfB n = true then some ((.leaf n, lfT n) :: S) else none
def runT : List Nod → Stk → Option Stk
  | [], S => some S
  | n :: t, S => (stepT S n).bind fun S' => runT t S'
theorem runT_app : ∀ (a b : List Nod) (S : Stk), runT (a ++ b) S = (runT a S).bind fun S' => runT b S'
  | [], b, S => rfl
  | n :: a, b, S => by
    show (stepT S n).bind _ = ((stepT S n).bind _).bind _
    cases stepT S n with
    | none => rfl
    | some S' => exact runT_app a b S'
theorem runT_take {t : List Nod} {j : Nat} (hj : j < t.length) {S : Stk} (h : runT (t.take j) [] = some S) : runT (t.take (j + 1)) [] = stepT S t[j] := by
  rw [List.take_add_one, List.getElem?_eq_getElem hj, runT_app, h]
  show (stepT S t[j]).bind _ = _
  cases stepT S t[j] <;> rfl
theorem runT_none {t : List Nod} {j : Nat} (h : runT (t.take j) [] = none) : runT t [] = none := by
  have : t = t.take j ++ t.drop j := (List.take_append_drop _ _).symm
  rw [this, runT_app, h]; rfl
def validB (t : List Nod) : Bool := rng t.length 1 400 && (match runT t [] with | some [_] => true | _ => false)
/-- what holds of all trees on the stack -/
def wOk2 (w : Int × Int) : Prop := 0 ≤ w.1 ∧ w.1 ≤ 12 ∧ 0 ≤ w.2 ∧ w.2 ≤ 12
theorem lfT_ok {n : Nod} (h : lfB n = true) : wOk2 (lfT n) := by
  unfold lfB at h
  simp only [Bool.and_eq_true, decide_eq_true_eq] at h
  unfold lfT
  by_cases h1 : n.1 = 1
  · rw [if_pos h1]
    rw [if_pos h1] at h
    have := rng_true.1 h.2.2
    exact ⟨this.1, this.2, this.1, this.2⟩
  · rw [if_neg h1]
    have := kd_le n.1
    exact ⟨by omega, by omega, by omega, by omega⟩
theorem jn_ok {k : Int} {x y w : Int × Int} (hx : wOk2 x) (hy : wOk2 y) (h : jn k x y = some w) : wOk2 w := by
  obtain ⟨a1, a2, a3, a4⟩ := hx
  obtain ⟨b1, b2, b3, b4⟩ := hy
  unfold jn at h
  split at h
  · split at h
    · obtain rfl := Option.some.inj h; exact ⟨a1, a2, b3, b4⟩
    · cases h
  · split at h
    · obtain rfl := Option.some.inj h
      exact ⟨by dsimp only; omega, by dsimp only; omega, by dsimp only; omega, by dsimp only; omega⟩
    · cases h
def stkOk (S : Stk) : Prop := ∀ p ∈ S, wOk2 p.2
theorem stepT_ok {S S' : Stk} {n : Nod} (hS : stkOk S) (h : stepT S n = some S') : stkOk S' := by
  unfold stepT at h
  split at h
  · split at h
    · split at h
      · rename_i b y a x S0
        obtain ⟨w, hw, rfl⟩ := Option.map_eq_some_iff.1 h
        intro p hp
        rcases List.mem_cons.1 hp with rfl | hp
        · exact jn_ok (hS (a, x) (by simp)) (hS (b, y) (by simp)) hw
        · exact hS p (by simp [hp])
      · cases h
    · cases h
  · split at h
    · obtain rfl := Option.some.inj h
      intro p hp
      rcases List.mem_cons.1 hp with rfl | hp
      · exact lfT_ok ‹_›
      · exact hS p hp
    · cases h
theorem runT_ok : ∀ (t : List Nod) (S S' : Stk), stkOk S → runT t S = some S' → stkOk S'
  | [], S, S', hS, h => by obtain rfl := Option.some.inj h; exact hS
  | n :: t, S, S', hS, h => by
    obtain ⟨S1, h1, h2⟩ := bindS h
    exact runT_ok t S1 S' (stepT_ok hS h1) h2
/-- the nodes of the stack's trees are what has been read -/
def stkN (S : Stk) : List Nod := (S.reverse.map fun p => flat p.1).flatten
theorem stepT_flat {S S' : Stk} {n : Nod} (h : stepT S n = some S') : stkN S' = stkN S ++ [n] := by
  unfold stepT at h
  split at h
  · split at h
    · rename_i h0
      split at h
      · rename_i b y a x S0
        obtain ⟨w, hw, rfl⟩ := Option.map_eq_some_iff.1 h
        unfold stkN
        obtain ⟨k, v, s⟩ := n
        obtain ⟨rfl, rfl⟩ := h0
        simp [flat, List.append_assoc]
      · cases h
    · cases h
  · split at h
    · obtain rfl := Option.some.inj h
      unfold stkN
      simp [flat]
    · cases h
theorem runT_flat : ∀ (t : List Nod) (S S' : Stk), runT t S = some S' → stkN S' = stkN S ++ t
  | [], S, S', h => by obtain rfl := Option.some.inj h; simp
  | n :: t, S, S', h => by
    obtain ⟨S1, h1, h2⟩ := bindS h
    rw [runT_flat t S1 S' h2, stepT_flat h1, List.append_assoc]; rfl

/-! ### leaves in both -/
theorem tmLeaf_ (n : Nod) : F_spec_tmLeaf n = some (lfB n) := by
  obtain ⟨k, v, s⟩ := n
  unfold F_spec_tmLeaf lfB
  by_cases hs : s = .empty
  case neg => simp [hs]
  cases hr : rng k 1 14 with
  | false => simp [hs, l1In, hr]
  | true =>
    by_cases h1 : k = 1
    · subst h1; simp [hs, l1In, hr]
    by_cases h7 : k = 7
    · subst h7; simp [hs, l1In, hr]
    by_cases h13 : k = 13
    · subst h13; simp [hs, l1In, hr]
    simp [hs, l1In, hr, h1, h7, h13]
theorem tmArity_ (n : Nod) : F_spec_tmArity n = some (lfT n) := by
  obtain ⟨k, v, s⟩ := n
  unfold F_spec_tmArity lfT
  by_cases h1 : k = 1
  · simp [h1]
  · simp [h1, tmKind_]
theorem leafWires_ (n : Nod) : ∃ w, F_impl_leafWires n = some (w, lfB n) ∧ (lfB n = true → w = lfT n) := by
  obtain ⟨k, v, s⟩ := n
  by_cases hs : s = .empty
  case neg =>
    refine ⟨(0, 0), ?_, fun h => ?_⟩
    · unfold F_impl_leafWires lfB; simp [hs]
    · unfold lfB at h; simp [hs] at h
  by_cases h1 : k = 1
  · subst h1
    refine ⟨(v, v), ?_, fun _ => rfl⟩
    have hr : rng 1 1 14 = true := by decide
    unfold F_impl_leafWires lfB; simp [hs, within_, hr]
  by_cases h2 : k = 2
  · subst h2
    refine ⟨(2, 2), ?_, fun _ => rfl⟩
    have hr : rng 2 1 14 = true := by decide
    unfold F_impl_leafWires lfB; simp [hs, hr]
  cases hg : rng k 3 14 with
  | false =>
    have hr : rng k 1 14 = false := by
      cases hr : rng k 1 14 with
      | false => rfl
      | true =>
        have := rng_true.1 hr
        have : rng k 3 14 = true := rng_true.2 (by omega)
        rw [this] at hg; cases hg
    refine ⟨(0, 0), ?_, fun h => ?_⟩
    · unfold F_impl_leafWires lfB F_impl_isGenerator; simp [hs, h1, h2, within_, hg, hr]
    · unfold lfB at h; simp [hr] at h
  | true =>
    have hb := rng_true.1 hg
    have hr : rng k 1 14 = true := rng_true.2 (by omega)
    refine ⟨kd k, ?_, fun _ => by unfold lfT; rw [if_neg h1]⟩
    have hgen : genB k v = (if k = 7 ∨ k = 13 then rng v 0 96 else decide (v = 0)) := by unfold genB; rw [hg, Bool.true_and]
    unfold F_impl_leafWires lfB F_impl_isGenerator
    simp only [hs, h1, h2, within_, hg, hr, generatorWires_ hg, isGeneratorValue_ hg, hgen, decide_true, decide_false, Bool.not_true, cond_false, cond_true, Option.bind_some, Bool.true_and, if_false]
theorem joinWires_ {k : Int} {x y : Int × Int} (hx : wOk2 x) (hy : wOk2 y) : ∃ w, F_impl_joinWires k x y = some (w, (jn k x y).isSome) ∧ ∀ z, jn k x y = some z → w = z := by
  obtain ⟨x1, x2⟩ := x
  obtain ⟨y1, y2⟩ := y
  obtain ⟨a1, a2, a3, a4⟩ := hx
  obtain ⟨b1, b2, b3, b4⟩ := hy
  dsimp only at a1 a2 a3 a4 b1 b2 b3 b4
  by_cases hk : k = 15
  · refine ⟨(x1, y2), ?_, fun z hz => ?_⟩
    · unfold F_impl_joinWires jn
      by_cases h : x2 = y1
      · simp [hk, h]
      · simp [hk, h]
    · unfold jn at hz
      rw [if_pos hk] at hz
      split at hz
      · exact Option.some.inj hz
      · cases hz
  · refine ⟨(x1 + y1, x2 + y2), ?_, fun z hz => ?_⟩
    · have s1 : addO x1 y1 = some (x1 + y1) := addO_of (by omega) (by omega)
      have s2 : addO x2 y2 = some (x2 + y2) := addO_of (by omega) (by omega)
      unfold F_impl_joinWires jn F_impl_wires_fit
      by_cases h1 : x1 + y1 ≤ 12
      · by_cases h2 : x2 + y2 ≤ 12
        · simp [hk, s1, s2, h1, h2]
        · simp [hk, s1, s2, h1, h2]
      · simp [hk, s1, s2, h1]
    · unfold jn at hz
      rw [if_neg hk] at hz
      split at hz
      · exact Option.some.inj hz
      · cases hz

/-! ### the program's test -/
def tysR (S : Stk) : List (Int × Int) := (S.map fun p => p.2).reverse
/-- the type of a valid term -/
def tyT (t : List Nod) : Int × Int := match runT t [] with | some [(_, w)] => w | _ => (0, 0)
theorem typed_ (t : List Nod) : ∃ w, F_impl_typed_impl_leafWires t = some (w, validB t) ∧ (validB t = true → w = tyT t) := by
  have hm : maxN = 1099511627776 := rfl
  cases hr : rng t.length 1 400 with
  | false =>
    have hv : validB t = false := by unfold validB; rw [hr]; rfl
    refine ⟨(0, 0), bnd (within_ _ _ _) (stp ?_), fun h => by rw [hv] at h; cases h⟩
    rw [hv, hr]; rfl
  | true =>
    have hl := rng_true.1 hr
    have loop := forO_rel (n := t.length) (s := ([] : List (Int × Int))) (f := fun (k14 : Nat) (s884 : List (Int × Int)) =>
        seqO ((idxO t ((k14 : Nat) : Int)).bind fun a1117 =>
          ((some (!decide (a1117.1 = 15))).bind fun a1137 =>
            cond a1137
            ((some (!decide (a1117.1 = 16))).bind fun a1141 =>
              some a1141)
            (some false)).bind fun (s1131 : Bool) =>
          cond s1131
          ((F_impl_leafWires (a1117.1, a1117.2.1, a1117.2.2)).bind fun y1302 =>
            (some (!y1302.2)).bind fun a1309 =>
            cond a1309
            (some (.inr (.inr ((0, 0), false))))
            ((appO s884 [(y1302.1.1, y1302.1.2)]).bind fun a1318 =>
              some (.inl a1318)))
          (((some (!decide (a1117.2.1 = 0))).bind fun a1162 =>
              cond a1162
              (some true)
              ((some (!decide ((a1117.2.2 : ByteArray) = .empty))).bind fun a1165 =>
                cond a1165
                (some true)
                ((some (decide (((s884.length : Nat) : Int) < 2))).bind fun a1168 =>
                  some a1168))).bind fun (s1156 : Bool) =>
            cond s1156
            (some (.inr (.inr ((0, 0), false))))
            ((subO ((s884.length : Nat) : Int) 1).bind fun a1175 =>
              ((subO a1175 1).bind fun a1228 =>
                (idxO s884 a1228).bind fun a1236 =>
                (idxO s884 a1175).bind fun a1245 =>
                (F_impl_joinWires a1117.1 (a1236.1, a1236.2) (a1245.1, a1245.2)).bind fun y1255 =>
                some (y1255.1.1, y1255.1.2, y1255.2)).bind fun (s1220 : Int × Int × Bool) =>
              (some (!s1220.2.2)).bind fun a1272 =>
              cond a1272
              (some (.inr (.inr ((0, 0), false))))
              ((subO a1175 1).bind fun a1276 =>
                (sliceO s884 0 a1276).bind fun a1278 =>
                (appO a1278 [(s1220.1, s1220.2.1)]).bind fun a1288 =>
                some (.inl a1288))))) fun (s1104 : List (Int × Int)) =>
        some (.inl s1104)) (fun j s => ∃ S, runT (t.take j) [] = some S ∧ s = tysR S ∧ S.length ≤ j) (fun r => r = (((0 : Int), (0 : Int)), false) ∧ runT t [] = none) ⟨[], rfl, rfl, Nat.le_refl _⟩ (by
      rintro j s hj ⟨S, h1, rfl, h3⟩
      have hS := runT_ok _ _ _ (fun p hp => by cases hp) h1
      have hstep := runT_take hj h1
      have hlen : (tysR S).length = S.length := by unfold tysR; simp
      -- the two ends of a round
      have bad : stepT S t[j] = none → runT t [] = none := fun hn => runT_none (hstep.trans hn)
      have hi := idxO_of (List.getElem?_eq_getElem hj)
      generalize t[j] = n at hstep bad hi
      obtain ⟨k, v, u⟩ := n
      by_cases hk : k = 15 ∨ k = 16
      · have hc : ((some (!decide (k = 15))).bind fun a1137 => cond a1137 ((some (!decide (k = 16))).bind fun a1141 => some a1141) (some false)) = some false := by
          rcases hk with rfl | rfl <;> rfl
        have hst : stepT S (k, v, u) = if v = 0 ∧ u = .empty then (match S with
            | (b, y) :: (a, x) :: S' => (jn k x y).map fun w => (.node k a b, w) :: S'
            | _ => none) else none := by unfold stepT; rw [if_pos hk]
        by_cases hv : v = 0
        case neg =>
          have hn : stepT S (k, v, u) = none := by rw [hst, if_neg (fun h => hv h.1)]
          exact .inr ⟨_, sqW (bnd hi (bnd hc (cFW rfl (bnd (a := true) (stp (cTW (nF (dF hv)) rfl)) rfl)))) rfl, rfl, bad hn⟩
        by_cases hu : u = .empty
        case neg =>
          have hn : stepT S (k, v, u) = none := by rw [hst, if_neg (fun h => hu h.2)]
          exact .inr ⟨_, sqW (bnd hi (bnd hc (cFW rfl (bnd (a := true) (stp (cFW (nT (dT hv)) (stp (cTW (nF (dF hu)) rfl)))) rfl)))) rfl, rfl, bad hn⟩
        rw [if_pos ⟨hv, hu⟩] at hst
        by_cases h2 : S.length < 2
        · have hn : stepT S (k, v, u) = none := by
            rw [hst]
            match S, h2 with
            | [], _ => rfl
            | [p], _ => rfl
          refine .inr ⟨_, sqW (bnd hi (bnd hc (cFW rfl (bnd (a := true) (stp (cFW (nT (dT hv)) (stp (cFW (nT (dT hu)) (stp (congrArg some (dT ?_))))))) rfl)))) rfl, rfl, bad hn⟩
          rw [hlen]; omega
        · obtain ⟨b, y, a, x, S', rfl⟩ : ∃ b y a x S', S = (b, y) :: (a, x) :: S' := by
            match S, h2 with
            | (b, y) :: (a, x) :: S', _ => exact ⟨_, _, _, _, _, rfl⟩
            | [p], h2 => exact (h2 (by simp)).elim
            | [], h2 => exact (h2 (by simp)).elim
          have h3' : S'.length + 2 ≤ j := by simpa using h3
          have hlen' : (tysR ((b, y) :: (a, x) :: S')).length = S'.length + 2 := by simpa using hlen
          have hx := hS (a, x) (by simp)
          have hy := hS (b, y) (by simp)
          obtain ⟨w, w1, w2⟩ := joinWires_ (k := k) hx hy
          have e0 : tysR ((b, y) :: (a, x) :: S') = tysR S' ++ [x] ++ [y] := by unfold tysR; simp
          have l0 : (tysR S').length = S'.length := by unfold tysR; simp
          have i1 : idxO (tysR ((b, y) :: (a, x) :: S')) ((S'.length : Nat) : Int) = some x := by
            rw [e0, idxO_nat, ← l0, List.append_assoc, List.getElem?_append_right (Nat.le_refl _), Nat.sub_self]; rfl
          have i2 : idxO (tysR ((b, y) :: (a, x) :: S')) (((S'.length + 1 : Nat)) : Int) = some y := by
            rw [e0, idxO_nat, ← l0, List.append_assoc, List.getElem?_append_right (by omega), Nat.add_sub_cancel_left]; rfl
          have s1 : subO (((tysR ((b, y) :: (a, x) :: S')).length : Nat) : Int) 1 = some ((S'.length + 1 : Nat) : Int) := by
            rw [hlen', subO_of (by omega) (by omega)]; congr 1; omega
          have s2 : subO ((S'.length + 1 : Nat) : Int) 1 = some ((S'.length : Nat) : Int) := by
            rw [subO_of (by omega) (by omega)]; congr 1; omega
          have sl : sliceO (tysR ((b, y) :: (a, x) :: S')) 0 ((S'.length : Nat) : Int) = some (tysR S') := by
            unfold sliceO; rw [if_pos ⟨by omega, by omega, by rw [hlen']; omega⟩, e0]
            simp [← l0, List.append_assoc]
          have hpre : ∀ {α : Type} {r : Option α} {K : Bool → Option α}, K false = r → (((some (!decide (v = 0))).bind fun a1162 =>
            cond a1162
            (some true)
            ((some (!decide ((u : ByteArray) = .empty))).bind fun a1165 =>
              cond a1165
              (some true)
              ((some (decide ((((tysR ((b, y) :: (a, x) :: S')).length : Nat) : Int) < 2))).bind fun a1168 =>
                some a1168))).bind K) = r := fun h => bnd (a := false) (stp (cFW (nT (dT hv)) (stp (cFW (nT (dT hu)) (stp (congrArg some (dF (by rw [hlen']; omega)))))))) h
          have hj2 : ∀ {α : Type} {r : Option α} {K : Int × Int × Bool → Option α}, K (w.1, w.2, (jn k x y).isSome) = r → (((subO ((S'.length + 1 : Nat) : Int) 1).bind fun a1228 =>
              (idxO (tysR ((b, y) :: (a, x) :: S')) a1228).bind fun a1236 =>
              (idxO (tysR ((b, y) :: (a, x) :: S')) ((S'.length + 1 : Nat) : Int)).bind fun a1245 =>
              (F_impl_joinWires k (a1236.1, a1236.2) (a1245.1, a1245.2)).bind fun y1255 =>
              some (y1255.1.1, y1255.1.2, y1255.2)).bind K) = r := fun h => bnd (bnd s2 (bnd i1 (bnd i2 (bnd w1 rfl)))) h
          cases hjn : jn k x y with
          | none =>
            rw [hjn] at hj2
            have hn : stepT ((b, y) :: (a, x) :: S') (k, v, u) = none := by rw [hst]; simp only [hjn, Option.map_none]
            exact .inr ⟨_, sqW (bnd hi (bnd hc (cFW rfl (hpre (cFW rfl (bnd s1 (hj2 rfl))))))) rfl, rfl, bad hn⟩
          | some z =>
            rw [hjn] at hj2
            have hz := w2 z hjn
            subst hz
            have hn : stepT ((b, y) :: (a, x) :: S') (k, v, u) = some ((.node k a b, w) :: S') := by rw [hst]; simp only [hjn, Option.map_some]
            refine .inl ⟨tysR S' ++ [w], sqW (bnd hi (bnd hc (cFW rfl (hpre (cFW rfl (bnd s1 (hj2 (stp (cFW rfl (bnd s2 (bnd sl (bnd (appO_of ?_) rfl))))))))))) ) rfl, (.node k a b, w) :: S', by rw [hstep, hn], by unfold tysR; simp, by simp; omega⟩
            rw [l0]; simp; omega
      · have hc : ((some (!decide (k = 15))).bind fun a1137 => cond a1137 ((some (!decide (k = 16))).bind fun a1141 => some a1141) (some false)) = some true := by
          simp only [not_or] at hk
          simp [hk.1, hk.2]
        obtain ⟨w, w1, w2⟩ := leafWires_ (k, v, u)
        cases hb : lfB (k, v, u) with
        | false =>
          rw [hb] at w1
          have hn : stepT S (k, v, u) = none := by unfold stepT; rw [if_neg hk, if_neg (by rw [hb]; simp)]
          exact .inr ⟨_, sqW (bnd hi (bnd hc (cTW rfl (bnd w1 rfl)))) rfl, rfl, bad hn⟩
        | true =>
          rw [hb] at w1
          have hn : stepT S (k, v, u) = some ((.leaf (k, v, u), lfT (k, v, u)) :: S) := by unfold stepT; rw [if_neg hk, if_pos hb]
          refine .inl ⟨tysR S ++ [w], sqW (bnd hi (bnd hc (cTW rfl (bnd w1 (stp (cFW rfl (bnd (appO_of ?_) rfl))))))) rfl, _, by rw [hstep, hn], by rw [w2 hb]; unfold tysR; simp, by simp; omega⟩
          rw [hlen]; simp; omega)
    rcases loop with ⟨s, h1, S, h2, rfl, h4⟩ | ⟨r, h1, rfl, h2⟩
    · rw [List.take_length] at h2
      have hlen : (tysR S).length = S.length := by unfold tysR; simp
      -- the stack is not empty
      have hne : S ≠ [] := by
        rintro rfl
        have := runT_flat _ _ _ h2
        unfold stkN at this
        simp at this
        rw [this] at hl; simp at hl
      cases hS : tysR S with
      | nil => rw [hS] at hlen; exact (hne (List.eq_nil_of_length_eq_zero hlen.symm)).elim
      | cons w ws =>
        have hty : validB t = true → w = tyT t := fun hv => by
          unfold validB at hv
          unfold tyT
          rw [hr, h2] at hv
          rw [h2]
          match S, hS, hv with
          | [(T, w')], hS, _ => exact (List.cons.inj hS).1.symm
        refine ⟨w, bnd (within_ _ _ _) (stp ?_), hty⟩
        rw [hr]
        refine cFW rfl (sqW h1 ?_)
        rw [seqO_l, hS]
        refine bnd (a := w) rfl (stp (congrArg some (Prod.ext rfl ?_)))
        unfold validB
        rw [hr, h2]
        rw [← hS, hlen]
        match S with
        | [] => exact (hne rfl).elim
        | [p] => simp
        | p :: q :: S => simp; omega
    · have hv : validB t = false := by unfold validB; rw [h2, hr]; rfl
      refine ⟨(0, 0), bnd (within_ _ _ _) (stp ?_), fun h => by rw [hv] at h; cases h⟩
      rw [hr]
      refine cFW rfl (sqW h1 ?_)
      rw [seqO_r, hv]
theorem isValid_ (t : List Nod) : F_impl_Term_isValid t = some (validB t) := by
  obtain ⟨w, h, _⟩ := typed_ t
  exact bnd (bnd h rfl) rfl

/-! ### the reference's test -/
/-- what the reference's lists say of the trees on the stack -/
def ScR (x : List Int × List Int × List Int) : Nat → Stk → Prop
  | i, [] => i = 0
  | i, (T, w) :: S => (flat T).length ≤ i ∧ x.1[i - 1]? = some ((i - (flat T).length : Nat) : Int) ∧ x.2.1[i - 1]? = some w.1 ∧ x.2.2[i - 1]? = some w.2 ∧ ScR x (i - (flat T).length) S
theorem ScR.mono {x x' : List Int × List Int × List Int} : ∀ {S : Stk} {i : Nat}, ScR x i S → (∀ k, k < i → x'.1[k]? = x.1[k]? ∧ x'.2.1[k]? = x.2.1[k]? ∧ x'.2.2[k]? = x.2.2[k]?) → ScR x' i S
  | [], _, h, _ => h
  | (T, w) :: S, i, ⟨h1, h2, h3, h4, h5⟩, h => by
    have hp := flat_pos T
    obtain ⟨k1, k2, k3⟩ := h (i - 1) (by omega)
    exact ⟨h1, k1.trans h2, k2.trans h3, k3.trans h4, h5.mono (fun k hk => h k (by omega))⟩
theorem get_snoc {l : List Int} {i : Nat} (hl : l.length = i) (a : Int) : (∀ k, k < i → (l ++ [a])[k]? = l[k]?) ∧ (l ++ [a])[i]? = some a :=
  ⟨fun k hk => List.getElem?_append_left (by omega), by rw [List.getElem?_append_right (by omega), hl, Nat.sub_self]; rfl⟩
theorem ScR.push {x : List Int × List Int × List Int} {S : Stk} {i : Nat} {T : Tr} {w : Int × Int} (l1 : x.1.length = i) (l2 : x.2.1.length = i) (l3 : x.2.2.length = i) (hT : (flat T).length ≤ i + 1) (h : ScR x (i + 1 - (flat T).length) S) :
    ScR (x.1 ++ [((i + 1 - (flat T).length : Nat) : Int)], x.2.1 ++ [w.1], x.2.2 ++ [w.2]) (i + 1) ((T, w) :: S) := by
  have hp := flat_pos T
  have g1 := get_snoc l1 ((i + 1 - (flat T).length : Nat) : Int)
  have g2 := get_snoc l2 w.1
  have g3 := get_snoc l3 w.2
  refine ⟨hT, ?_, ?_, ?_, h.mono (fun k hk => ⟨g1.1 k (by omega), g2.1 k (by omega), g3.1 k (by omega)⟩)⟩
  · rw [Nat.add_sub_cancel]; exact g1.2
  · rw [Nat.add_sub_cancel]; exact g2.2
  · rw [Nat.add_sub_cancel]; exact g3.2
theorem add_of12 {a b : Int} (h1 : 0 ≤ a) (h2 : a ≤ 12) (h3 : 0 ≤ b) (h4 : b ≤ 12) : addO a b = some (a + b) := addO_of (by omega) (by omega)
theorem lbFind_nil (s : ByteArray) : F_spec_lbFind [] s = some (-1) := rfl
/-- the reference's scan, whatever it makes of the term -/
theorem lbScan_ (t : List Nod) : ∃ x, F_spec_lbScan [] t = some (x, validB t) ∧ (∀ S, runT t [] = some S → rng t.length 1 400 = true → x.1.length = t.length ∧ ScR x t.length S ∧
    ∀ S0 (p q : List Nod), t = p ++ q → runT p [] = some S0 → ScR x p.length S0) := by
  have hm : maxN = 1099511627776 := rfl
  cases hr : rng t.length 1 400 with
  | false =>
    refine ⟨([], [], []), bnd (l1In _ _ _) (stp ?_), fun _ _ h => by cases h⟩
    unfold validB
    rw [hr]; rfl
  | true =>
    have hl := rng_true.1 hr
    have loop := forO_rel (n := t.length) (s := (([] : List Int), ([] : List Int), ([] : List Int))) (f := fun (k18 : Nat) (s2156 : List Int × List Int × List Int) =>
        seqO ((idxO t ((k18 : Nat) : Int)).bind fun a2699 =>
          ((F_spec_tmLeaf (a2699.1, a2699.2.1, a2699.2.2)).bind fun y2720 =>
            cond y2720
            (some true)
            ((some (decide (a2699.1 = 17))).bind fun a2724 =>
              some a2724)).bind fun (s2714 : Bool) =>
          cond s2714
          ((F_spec_tmArity (a2699.1, a2699.2.1, a2699.2.2)).bind fun y3063 =>
            seqO ((some (decide (a2699.1 = 17))).bind fun a3127 =>
              cond a3127
              ((F_spec_lbFind [] a2699.2.2).bind fun y3131 =>
                ((some (decide (y3131 < 0))).bind fun a3146 =>
                  cond a3146
                  (some true)
                  ((some (!decide (a2699.2.1 = 0))).bind fun a3149 =>
                    some a3149)).bind fun (s3140 : Bool) =>
                cond s3140
                (some (.inr (.inr (.inr ((s2156.1, s2156.2.1, s2156.2.2), false)))))
                ((idxO ([] : List (ByteArray × Int × Int × List Nod)) y3131).bind fun a3162 =>
                  (idxO ([] : List (ByteArray × Int × Int × List Nod)) y3131).bind fun a3174 =>
                  some (.inl (a3174.2.2.1, a3162.2.1))))
              (some (.inl (y3063.2, y3063.1)))) fun (s3121 : Int × Int) =>
            (appO s2156.1 [((k18 : Nat) : Int)]).bind fun a3190 =>
            (appO s2156.2.1 [s3121.2]).bind fun a3199 =>
            (appO s2156.2.2 [s3121.1]).bind fun a3208 =>
            some (.inl (a3190, a3199, a3208)))
          (((some (!decide (a2699.1 = 15))).bind fun a2792 =>
              cond a2792
              ((some (!decide (a2699.1 = 16))).bind fun a2820 =>
                cond a2820
                (some true)
                ((some (!decide ((a2699.2.2 : ByteArray) = .empty))).bind fun a2823 =>
                  cond a2823
                  (some true)
                  ((some (!decide (a2699.2.1 = 0))).bind fun a2826 =>
                    cond a2826
                    (some true)
                    ((some (decide (((k18 : Nat) : Int) < 2))).bind fun a2829 =>
                      cond a2829
                      (some true)
                      ((subO ((k18 : Nat) : Int) 1).bind fun a2832 =>
                        (idxO s2156.1 a2832).bind fun a2840 =>
                        (some (decide (a2840 < 1))).bind fun a2842 =>
                        some a2842)))))
              ((some (!decide ((a2699.2.2 : ByteArray) = .empty))).bind fun a2795 =>
                cond a2795
                (some true)
                ((some (!decide (a2699.2.1 = 0))).bind fun a2798 =>
                  cond a2798
                  (some true)
                  ((some (decide (((k18 : Nat) : Int) < 2))).bind fun a2801 =>
                    cond a2801
                    (some true)
                    ((subO ((k18 : Nat) : Int) 1).bind fun a2804 =>
                      (idxO s2156.1 a2804).bind fun a2812 =>
                      (some (decide (a2812 < 1))).bind fun a2814 =>
                      some a2814))))).bind fun (s2786 : Bool) =>
            cond s2786
            (some (.inr (.inr ((s2156.1, s2156.2.1, s2156.2.2), false))))
            ((subO ((k18 : Nat) : Int) 1).bind fun a2851 =>
              (idxO s2156.1 a2851).bind fun a2859 =>
              (subO a2859 1).bind fun a2861 =>
              (idxO s2156.2.1 a2861).bind fun a2870 =>
              (idxO s2156.2.1 a2851).bind fun a2878 =>
              (addO a2870 a2878).bind fun a2880 =>
              (idxO s2156.2.2 a2861).bind fun a2888 =>
              (idxO s2156.2.2 a2851).bind fun a2896 =>
              (addO a2888 a2896).bind fun a2898 =>
              seqO ((some (decide (a2699.1 = 15))).bind fun a2949 =>
                cond a2949
                ((idxO s2156.2.2 a2861).bind fun a2960 =>
                  (idxO s2156.2.1 a2851).bind fun a2968 =>
                  (some (!decide (a2960 = a2968))).bind fun a2970 =>
                  cond a2970
                  (some (.inr (.inr (.inr ((s2156.1, s2156.2.1, s2156.2.2), false)))))
                  ((idxO s2156.2.1 a2861).bind fun a2980 =>
                    (idxO s2156.2.2 a2851).bind fun a2988 =>
                    some (.inl (a2980, a2988))))
                (some (.inl (a2880, a2898)))) fun (s2943 : Int × Int) =>
              ((some (decide ((12 : Int) < s2943.1))).bind fun a3009 =>
                cond a3009
                (some true)
                ((some (decide ((12 : Int) < s2943.2))).bind fun a3012 =>
                  some a3012)).bind fun (s3003 : Bool) =>
              cond s3003
              (some (.inr (.inr ((s2156.1, s2156.2.1, s2156.2.2), false))))
              ((idxO s2156.1 a2861).bind fun a3025 =>
                (appO s2156.1 [a3025]).bind fun a3030 =>
                (appO s2156.2.1 [s2943.1]).bind fun a3039 =>
                (appO s2156.2.2 [s2943.2]).bind fun a3048 =>
                some (.inl (a3030, a3039, a3048)))))) fun (s2684 : List Int × List Int × List Int) =>
        some (.inl (s2684.1, s2684.2.1, s2684.2.2)))
      (fun j x => ∃ S, runT (t.take j) [] = some S ∧ x.1.length = j ∧ x.2.1.length = j ∧ x.2.2.length = j ∧ ScR x j S ∧ ∀ i S0, i ≤ j → runT (t.take i) [] = some S0 → ScR x i S0) (fun r => r.2 = false ∧ runT t [] = none)
      ⟨[], rfl, rfl, rfl, rfl, rfl, fun i S0 hi h => by
        obtain rfl : i = 0 := by omega
        obtain rfl := Option.some.inj h
        rfl⟩ (by
      rintro j ⟨x1, x2, x3⟩ hj ⟨S, h1, l1, l2, l3, h2, hall⟩
      dsimp only at l1 l2 l3
      have hS := runT_ok _ _ _ (fun p hp => by cases hp) h1
      have hstep := runT_take hj h1
      have bad : stepT S t[j] = none → runT t [] = none := fun hn => runT_none (hstep.trans hn)
      have hi := idxO_of (List.getElem?_eq_getElem hj)
      -- a good end of a round
      have good : ∀ (T : Tr) (w : Int × Int) (S' : Stk), runT (t.take (j + 1)) [] = some ((T, w) :: S') → (flat T).length ≤ j + 1 → ScR (x1, x2, x3) (j + 1 - (flat T).length) S' → ∃ S1, runT (t.take (j + 1)) [] = some S1 ∧ (x1 ++ [((j + 1 - (flat T).length : Nat) : Int)]).length = j + 1 ∧ (x2 ++ [w.1]).length = j + 1 ∧ (x3 ++ [w.2]).length = j + 1 ∧
          ScR (x1 ++ [((j + 1 - (flat T).length : Nat) : Int)], x2 ++ [w.1], x3 ++ [w.2]) (j + 1) S1 ∧ ∀ i S0, i ≤ j + 1 → runT (t.take i) [] = some S0 → ScR (x1 ++ [((j + 1 - (flat T).length : Nat) : Int)], x2 ++ [w.1], x3 ++ [w.2]) i S0 := by
        intro T w S' hr1 hT hsc
        have hp := ScR.push (x := (x1, x2, x3)) (w := w) l1 l2 l3 hT hsc
        refine ⟨_, hr1, by simp [l1], by simp [l2], by simp [l3], hp, fun i S0 hi0 hS0 => ?_⟩
        by_cases hij : i = j + 1
        · subst hij
          rw [hr1] at hS0
          obtain rfl := Option.some.inj hS0
          exact hp
        · refine (hall i S0 (by omega) hS0).mono (fun k hk => ?_)
          exact ⟨(get_snoc l1 _).1 k (by omega), (get_snoc l2 _).1 k (by omega), (get_snoc l3 _).1 k (by omega)⟩
      generalize t[j] = n at hstep bad hi
      obtain ⟨k, v, u⟩ := n
      by_cases hk : k = 15 ∨ k = 16
      · have hlf : lfB (k, v, u) = false := by
          have hr : rng k 1 14 = false := by rcases hk with rfl | rfl <;> decide
          unfold lfB; dsimp only; rw [hr]; simp
        have hk17 : ¬ k = 17 := by omega
        have hc : ((F_spec_tmLeaf (k, v, u)).bind fun y2720 => cond y2720 (some true) ((some (decide (k = 17))).bind fun a2724 => some a2724)) = some false :=
          bnd (tmLeaf_ _) (by rw [hlf]; exact cFW rfl (stp (congrArg some (dF hk17))))
        have hst : stepT S (k, v, u) = if v = 0 ∧ u = .empty then (match S with
            | (b, y) :: (a, x) :: S' => (jn k x y).map fun w => (.node k a b, w) :: S'
            | _ => none) else none := by unfold stepT; rw [if_pos hk]
        -- the test ahead
        have hten : ∀ b : Bool, ((some (!decide ((u : ByteArray) = .empty))).bind fun a2795 =>
                cond a2795
                (some true)
                ((some (!decide (v = 0))).bind fun a2798 =>
                  cond a2798
                  (some true)
                  ((some (decide (((j : Nat) : Int) < 2))).bind fun a2801 =>
                    cond a2801
                    (some true)
                    ((subO ((j : Nat) : Int) 1).bind fun a2804 =>
                      (idxO x1 a2804).bind fun a2812 =>
                      (some (decide (a2812 < 1))).bind fun a2814 =>
                      some a2814)))) = some b → (((some (!decide (k = 15))).bind fun a2792 =>
              cond a2792
              ((some (!decide (k = 16))).bind fun a2820 =>
                cond a2820
                (some true)
                ((some (!decide ((u : ByteArray) = .empty))).bind fun a2823 =>
                  cond a2823
                  (some true)
                  ((some (!decide (v = 0))).bind fun a2826 =>
                    cond a2826
                    (some true)
                    ((some (decide (((j : Nat) : Int) < 2))).bind fun a2829 =>
                      cond a2829
                      (some true)
                      ((subO ((j : Nat) : Int) 1).bind fun a2832 =>
                        (idxO x1 a2832).bind fun a2840 =>
                        (some (decide (a2840 < 1))).bind fun a2842 =>
                        some a2842)))))
              ((some (!decide ((u : ByteArray) = .empty))).bind fun a2795 =>
                cond a2795
                (some true)
                ((some (!decide (v = 0))).bind fun a2798 =>
                  cond a2798
                  (some true)
                  ((some (decide (((j : Nat) : Int) < 2))).bind fun a2801 =>
                    cond a2801
                    (some true)
                    ((subO ((j : Nat) : Int) 1).bind fun a2804 =>
                      (idxO x1 a2804).bind fun a2812 =>
                      (some (decide (a2812 < 1))).bind fun a2814 =>
                      some a2814))))) = some b) := by
          intro b hb
          rcases hk with rfl | rfl
          · exact stp (cFW rfl hb)
          · exact stp (cTW rfl (stp (cFW rfl hb)))
        have fail : ∀ {n : Option Stk}, ((some (!decide ((u : ByteArray) = .empty))).bind fun a2795 =>
                cond a2795
                (some true)
                ((some (!decide (v = 0))).bind fun a2798 =>
                  cond a2798
                  (some true)
                  ((some (decide (((j : Nat) : Int) < 2))).bind fun a2801 =>
                    cond a2801
                    (some true)
                    ((subO ((j : Nat) : Int) 1).bind fun a2804 =>
                      (idxO x1 a2804).bind fun a2812 =>
                      (some (decide (a2812 < 1))).bind fun a2814 =>
                      some a2814)))) = some true → n = none → n = none := fun _ h => h
        by_cases hu : u = .empty
        case neg =>
          have hn : stepT S (k, v, u) = none := by rw [hst, if_neg (fun h => hu h.2)]
          exact .inr ⟨_, sqW (bnd hi (bnd hc (cFW rfl (bnd (hten true (stp (cTW (nF (dF hu)) rfl))) rfl)))) rfl, rfl, bad hn⟩
        by_cases hv : v = 0
        case neg =>
          have hn : stepT S (k, v, u) = none := by rw [hst, if_neg (fun h => hv h.1)]
          exact .inr ⟨_, sqW (bnd hi (bnd hc (cFW rfl (bnd (hten true (stp (cFW (nT (dT hu)) (stp (cTW (nF (dF hv)) rfl))))) rfl)))) rfl, rfl, bad hn⟩
        rw [if_pos ⟨hv, hu⟩] at hst
        match S, h2, hst, hS with
        | [], h2, hst, _ =>
          obtain rfl : j = 0 := h2
          exact .inr ⟨_, sqW (bnd hi (bnd hc (cFW rfl (bnd (hten true (stp (cFW (nT (dT hu)) (stp (cFW (nT (dT hv)) (stp (cTW (dT (by omega)) rfl))))))) rfl)))) rfl, rfl, bad hst⟩
        | [(b, y)], h2, hst, _ =>
          obtain ⟨s1, s2, s3, s4, s5⟩ := h2
          have s5 : j - (flat b).length = 0 := s5
          refine .inr ⟨_, sqW (bnd hi (bnd hc (cFW rfl (bnd (hten true (stp (cFW (nT (dT hu)) (stp (cFW (nT (dT hv)) (stp ?_)))))) rfl)))) rfl, rfl, bad hst⟩
          by_cases h2 : ((j : Nat) : Int) < 2
          · exact cTW (dT h2) rfl
          · refine cFW (dF h2) (bnd (subO_of (by omega) (by omega)) (bnd (a := 0) ?_ rfl))
            rw [s5] at s2
            have e : (j : Int) - 1 = ((j - 1 : Nat) : Int) := by omega
            rw [e]; exact idxO_of s2
        | (b, y) :: (a, x) :: S', h2, hst, hS =>
          have hx := hS (a, x) (by simp)
          have hy := hS (b, y) (by simp)
          obtain ⟨s1, s2, s3, s4, r1, r2, r3, r4, r5⟩ := h2
          dsimp only at s2 s3 s4 r2 r3 r4
          have hpa := flat_pos a
          have hpb := flat_pos b
          have hj2 : 2 ≤ j := by omega
          obtain ⟨a1, a2, a3, a4⟩ := hx
          obtain ⟨b1, b2, b3, b4⟩ := hy
          have e1 : subO ((j : Nat) : Int) 1 = some ((j - 1 : Nat) : Int) := by rw [subO_of (by omega) (by omega)]; congr 1; omega
          have e2 : subO ((j - (flat b).length : Nat) : Int) 1 = some ((j - (flat b).length - 1 : Nat) : Int) := by rw [subO_of (by omega) (by omega)]; congr 1; omega
          have hpass := hten false (stp (cFW (nT (dT hu)) (stp (cFW (nT (dT hv)) (stp (cFW (dF (by omega)) (bnd e1 (bnd (idxO_of s2) (stp (congrArg some (dF (by omega))))))))))))
          have hlenT : (flat (.node k a b)).length = (flat a).length + (flat b).length + 1 := by simp [flat]; omega
          have hidx : j + 1 - (flat (.node k a b)).length = j - (flat b).length - (flat a).length := by rw [hlenT]; omega
          dsimp only at a1 a2 a3 a4 b1 b2 b3 b4
          have hS1 : stkOk S' := fun p hp => hS p (by simp [hp])
          have bg : ∀ w : Int × Int, jn k x y = some w → wOk2 w ∧ (¬ (12 : Int) < w.1) ∧ ¬ (12 : Int) < w.2 := fun w h => by
            have := jn_ok (x := x) (y := y) ⟨a1, a2, a3, a4⟩ ⟨b1, b2, b3, b4⟩ h
            obtain ⟨c1, c2, c3, c4⟩ := this
            exact ⟨⟨c1, c2, c3, c4⟩, by omega, by omega⟩
          have hgood : ∀ w : Int × Int, jn k x y = some w → ∃ S1, runT (t.take (j + 1)) [] = some S1 ∧ (x1 ++ [((j - (flat b).length - (flat a).length : Nat) : Int)]).length = j + 1 ∧ (x2 ++ [w.1]).length = j + 1 ∧ (x3 ++ [w.2]).length = j + 1 ∧
              ScR (x1 ++ [((j - (flat b).length - (flat a).length : Nat) : Int)], x2 ++ [w.1], x3 ++ [w.2]) (j + 1) S1 ∧ ∀ i S0, i ≤ j + 1 → runT (t.take i) [] = some S0 → ScR (x1 ++ [((j - (flat b).length - (flat a).length : Nat) : Int)], x2 ++ [w.1], x3 ++ [w.2]) i S0 := fun w hw => by
            have hn : stepT ((b, y) :: (a, x) :: S') (k, v, u) = some ((.node k a b, w) :: S') := by rw [hst]; simp only [hw, Option.map_some]
            have := good (.node k a b) w S' (by rw [hstep, hn]) (by rw [hlenT]; omega) (by rw [hidx]; exact r5)
            rw [hidx] at this
            exact this
          have hbad : jn k x y = none → runT t [] = none := fun hw => bad (by rw [hst]; simp only [hw, Option.map_none])
          have ap : ∀ (l : List Int) (z : Int), l.length = j → appO l [z] = some (l ++ [z]) := fun l z h => appO_of (by simp; omega)
          have s1' := add_of12 a1 a2 b1 b2
          have s2' := add_of12 a3 a4 b3 b4
          by_cases h15 : k = 15
          · by_cases hxy : x.2 = y.1
            · have hw : jn k x y = some (x.1, y.2) := by unfold jn; rw [if_pos h15, if_pos hxy]
              obtain ⟨_, w1, w2⟩ := bg _ hw
              refine .inl ⟨(x1 ++ [((j - (flat b).length - (flat a).length : Nat) : Int)], x2 ++ [x.1], x3 ++ [y.2]), sqW (r := some (.inl (x1 ++ [((j - (flat b).length - (flat a).length : Nat) : Int)], x2 ++ [x.1], x3 ++ [y.2]))) ?_ rfl, hgood _ hw⟩
              refine bnd hi (bnd hc (cFW rfl (bnd hpass (cFW rfl ?_))))
              refine bnd e1 (bnd (idxO_of s2) (bnd e2 (bnd (idxO_of r3) (bnd (idxO_of s3) (bnd s1' (bnd (idxO_of r4) (bnd (idxO_of s4) (bnd s2' ?_))))))))
              refine sqW (r := some (.inl (x.1, y.2))) (bnd (congrArg some (dT h15)) (cTW rfl (bnd (idxO_of r4) (bnd (idxO_of s3) (stp (cFW (nT (dT hxy)) (bnd (idxO_of r3) (bnd (idxO_of s4) rfl)))))))) ?_
              rw [seqO_l]
              refine bnd (a := false) (bnd (congrArg some (dF w1)) (bnd (congrArg some (dF w2)) rfl)) (cFW rfl ?_)
              exact bnd (idxO_of r2) (bnd (ap _ _ l1) (bnd (ap _ _ l2) (bnd (ap _ _ l3) rfl)))
            · have hw : jn k x y = none := by unfold jn; rw [if_pos h15, if_neg hxy]
              refine .inr ⟨((x1, x2, x3), false), sqW (r := some (.inr (.inr ((x1, x2, x3), false)))) ?_ rfl, rfl, hbad hw⟩
              refine bnd hi (bnd hc (cFW rfl (bnd hpass (cFW rfl ?_))))
              refine bnd e1 (bnd (idxO_of s2) (bnd e2 (bnd (idxO_of r3) (bnd (idxO_of s3) (bnd s1' (bnd (idxO_of r4) (bnd (idxO_of s4) (bnd s2' ?_))))))))
              exact sqW (r := some (.inr (.inr (.inr ((x1, x2, x3), false))))) (bnd (congrArg some (dT h15)) (cTW rfl (bnd (idxO_of r4) (bnd (idxO_of s3) (stp (cTW (nF (dF hxy)) rfl)))))) rfl
          · by_cases h1 : x.1 + y.1 ≤ 12
            · by_cases h2 : x.2 + y.2 ≤ 12
              · have hw : jn k x y = some (x.1 + y.1, x.2 + y.2) := by unfold jn; rw [if_neg h15, if_pos ⟨h1, h2⟩]
                obtain ⟨_, w1, w2⟩ := bg _ hw
                refine .inl ⟨(x1 ++ [((j - (flat b).length - (flat a).length : Nat) : Int)], x2 ++ [x.1 + y.1], x3 ++ [x.2 + y.2]), sqW (r := some (.inl (x1 ++ [((j - (flat b).length - (flat a).length : Nat) : Int)], x2 ++ [x.1 + y.1], x3 ++ [x.2 + y.2]))) ?_ rfl, hgood _ hw⟩
                refine bnd hi (bnd hc (cFW rfl (bnd hpass (cFW rfl ?_))))
                refine bnd e1 (bnd (idxO_of s2) (bnd e2 (bnd (idxO_of r3) (bnd (idxO_of s3) (bnd s1' (bnd (idxO_of r4) (bnd (idxO_of s4) (bnd s2' ?_))))))))
                refine sqW (r := some (.inl (x.1 + y.1, x.2 + y.2))) (bnd (congrArg some (dF h15)) (cFW rfl rfl)) ?_
                rw [seqO_l]
                refine bnd (a := false) (bnd (congrArg some (dF w1)) (bnd (congrArg some (dF w2)) rfl)) (cFW rfl ?_)
                exact bnd (idxO_of r2) (bnd (ap _ _ l1) (bnd (ap _ _ l2) (bnd (ap _ _ l3) rfl)))
              · have hw : jn k x y = none := by unfold jn; rw [if_neg h15, if_neg (fun h => h2 h.2)]
                refine .inr ⟨((x1, x2, x3), false), sqW (r := some (.inr (.inr ((x1, x2, x3), false)))) ?_ rfl, rfl, hbad hw⟩
                refine bnd hi (bnd hc (cFW rfl (bnd hpass (cFW rfl ?_))))
                refine bnd e1 (bnd (idxO_of s2) (bnd e2 (bnd (idxO_of r3) (bnd (idxO_of s3) (bnd s1' (bnd (idxO_of r4) (bnd (idxO_of s4) (bnd s2' ?_))))))))
                refine sqW (r := some (.inl (x.1 + y.1, x.2 + y.2))) (bnd (congrArg some (dF h15)) (cFW rfl rfl)) ?_
                rw [seqO_l]
                exact bnd (a := true) (bnd (congrArg some (dF (by dsimp only; omega))) (bnd (congrArg some (dT (by dsimp only; omega))) rfl)) (cTW rfl rfl)
            · have hw : jn k x y = none := by unfold jn; rw [if_neg h15, if_neg (fun h => h1 h.1)]
              refine .inr ⟨((x1, x2, x3), false), sqW (r := some (.inr (.inr ((x1, x2, x3), false)))) ?_ rfl, rfl, hbad hw⟩
              refine bnd hi (bnd hc (cFW rfl (bnd hpass (cFW rfl ?_))))
              refine bnd e1 (bnd (idxO_of s2) (bnd e2 (bnd (idxO_of r3) (bnd (idxO_of s3) (bnd s1' (bnd (idxO_of r4) (bnd (idxO_of s4) (bnd s2' ?_))))))))
              refine sqW (r := some (.inl (x.1 + y.1, x.2 + y.2))) (bnd (congrArg some (dF h15)) (cFW rfl rfl)) ?_
              rw [seqO_l]
              exact bnd (a := true) (bnd (congrArg some (dT (by dsimp only; omega))) rfl) (cTW rfl rfl)
      · have ap : ∀ (l : List Int) (z : Int), l.length = j → appO l [z] = some (l ++ [z]) := fun l z h => appO_of (by simp; omega)
        cases hb : lfB (k, v, u) with
        | true =>
          have hr : rng k 1 14 = true := by
            unfold lfB at hb; simp only [Bool.and_eq_true] at hb; exact hb.2.1
          have hk17 : ¬ k = 17 := by have := rng_true.1 hr; omega
          have hn : stepT S (k, v, u) = some ((.leaf (k, v, u), lfT (k, v, u)) :: S) := by unfold stepT; rw [if_neg hk, if_pos hb]
          have hc : ((F_spec_tmLeaf (k, v, u)).bind fun y2720 => cond y2720 (some true) ((some (decide (k = 17))).bind fun a2724 => some a2724)) = some true :=
            bnd (tmLeaf_ _) (by rw [hb]; rfl)
          have := good (.leaf (k, v, u)) (lfT (k, v, u)) S (by rw [hstep, hn]) (by simp [flat]) (by simpa [flat] using h2)
          rw [show j + 1 - (flat (.leaf (k, v, u))).length = j by simp [flat]] at this
          refine .inl ⟨(x1 ++ [((j : Nat) : Int)], x2 ++ [(lfT (k, v, u)).1], x3 ++ [(lfT (k, v, u)).2]), sqW (r := some (.inl (x1 ++ [((j : Nat) : Int)], x2 ++ [(lfT (k, v, u)).1], x3 ++ [(lfT (k, v, u)).2]))) ?_ rfl, this⟩
          refine bnd hi (bnd hc (cTW rfl (bnd (tmArity_ _) ?_)))
          refine sqW (r := some (.inl ((lfT (k, v, u)).2, (lfT (k, v, u)).1))) (bnd (congrArg some (dF hk17)) (cFW rfl rfl)) ?_
          rw [seqO_l]
          exact bnd (ap _ _ l1) (bnd (ap _ _ l2) (bnd (ap _ _ l3) rfl))
        | false =>
          have hn : stepT S (k, v, u) = none := by unfold stepT; rw [if_neg hk, if_neg (by rw [hb]; simp)]
          by_cases h17 : k = 17
          · have hc : ((F_spec_tmLeaf (k, v, u)).bind fun y2720 => cond y2720 (some true) ((some (decide (k = 17))).bind fun a2724 => some a2724)) = some true :=
              bnd (tmLeaf_ _) (by rw [hb]; exact cFW rfl (stp (congrArg some (dT h17))))
            refine .inr ⟨((x1, x2, x3), false), sqW (r := some (.inr (.inr ((x1, x2, x3), false)))) ?_ rfl, rfl, bad hn⟩
            refine bnd hi (bnd hc (cTW rfl (bnd (tmArity_ _) ?_)))
            exact sqW (r := some (.inr (.inr (.inr ((x1, x2, x3), false))))) (bnd (congrArg some (dT h17)) (cTW rfl (bnd (lbFind_nil _) (bnd (a := true) rfl (cTW rfl rfl))))) rfl
          · have hc : ((F_spec_tmLeaf (k, v, u)).bind fun y2720 => cond y2720 (some true) ((some (decide (k = 17))).bind fun a2724 => some a2724)) = some false :=
              bnd (tmLeaf_ _) (by rw [hb]; exact cFW rfl (stp (congrArg some (dF h17))))
            have hk1 : ¬ k = 15 := fun h => hk (.inl h)
            have hk2 : ¬ k = 16 := fun h => hk (.inr h)
            exact .inr ⟨_, sqW (bnd hi (bnd hc (cFW rfl (bnd (a := true) (stp (cTW (nF (dF hk1)) (stp (cTW (nF (dF hk2)) rfl)))) rfl)))) rfl, rfl, bad hn⟩)
    rcases loop with ⟨x, h1, S, h2, k1, k2, k3, h3, hall⟩ | ⟨⟨x, r⟩, h1, rfl, h2⟩
    · rw [List.take_length] at h2
      have hne : S ≠ [] := by
        rintro rfl
        have : t.length = 0 := h3
        omega
      obtain ⟨⟨T, w⟩, S', rfl⟩ : ∃ p S', S = p :: S' := by
        cases S with
        | nil => exact (hne rfl).elim
        | cons p S' => exact ⟨p, S', rfl⟩
      obtain ⟨s1, s2, s3, s4, s5⟩ := h3
      have hT := flat_pos T
      have ev : validB t = decide (((t.length - (flat T).length : Nat) : Int) = 0) := by
        unfold validB
        rw [hr, h2, Bool.true_and]
        match S', s5 with
        | [], s5 =>
          have s5 : t.length - (flat T).length = 0 := s5
          rw [s5]; rfl
        | (T', w') :: S'', s5 =>
          have := flat_pos T'
          exact (dF (by have := s5.1; omega)).symm
      refine ⟨x, bnd (l1In _ _ _) (stp ?_), fun S0 hS0 _ => ?_⟩
      · rw [hr]
        refine cFW rfl (sqW h1 ?_)
        rw [seqO_l]
        refine bnd (a := ((t.length - 1 : Nat) : Int)) (by rw [subO_of (by omega) (by omega)]; congr 1; omega) (bnd (idxO_of s2) (stp ?_))
        rw [ev]
      · rw [h2] at hS0
        obtain rfl := Option.some.inj hS0
        refine ⟨k1, ⟨s1, s2, s3, s4, s5⟩, fun S0 p q hpq hp => ?_⟩
        refine hall p.length S0 (by rw [hpq]; simp) ?_
        rw [hpq, List.take_left]; exact hp
    · refine ⟨x, bnd (l1In _ _ _) (stp ?_), fun S hS => by rw [h2] at hS; cases hS⟩
      rw [hr]
      refine cFW rfl (sqW h1 ?_)
      rw [seqO_r]
      unfold validB
      rw [h2, hr]; rfl
end Go.Proofs.YteimaohaeodbkaaGreat
namespace Go.Proofs.YteimaohaeodbkaaGreat

/-! ### trees that are typed -/
def typT : Tr → Option (Int × Int)
  | .leaf n => if lfB n = true then some (lfT n) else none
  | .node k a b => if k = 15 ∨ k = 16 then (typT a).bind fun x => (typT b).bind fun y => jn k x y else none
def typS (S : Stk) : Prop := ∀ p ∈ S, typT p.1 = some p.2
theorem stepT_typ {S S' : Stk} {n : Nod} (hS : typS S) (h : stepT S n = some S') : typS S' := by
  unfold stepT at h
  split at h
  · rename_i hk
    split at h
    · split at h
      · rename_i b y a x S0
        obtain ⟨w, hw, rfl⟩ := Option.map_eq_some_iff.1 h
        intro p hp
        rcases List.mem_cons.1 hp with rfl | hp
        · have h1 := hS (a, x) (by simp)
          have h2 := hS (b, y) (by simp)
          dsimp only at h1 h2
          show (if n.1 = 15 ∨ n.1 = 16 then _ else none) = _
          rw [if_pos hk, h1, h2]; exact hw
        · exact hS p (by simp [hp])
      · cases h
    · cases h
  · split at h
    · obtain rfl := Option.some.inj h
      intro p hp
      rcases List.mem_cons.1 hp with rfl | hp
      · show (if lfB n = true then _ else none) = _
        rw [if_pos ‹_›]
      · exact hS p hp
    · cases h
theorem runT_typ : ∀ (t : List Nod) (S S' : Stk), typS S → runT t S = some S' → typS S'
  | [], S, S', hS, h => by obtain rfl := Option.some.inj h; exact hS
  | n :: t, S, S', hS, h => by
    obtain ⟨S1, h1, h2⟩ := bindS h
    exact runT_typ t S1 S' (stepT_typ hS h1) h2
theorem typ_node {k : Int} {a b : Tr} {w : Int × Int} (h : typT (.node k a b) = some w) : (k = 15 ∨ k = 16) ∧ ∃ x y, typT a = some x ∧ typT b = some y ∧ jn k x y = some w := by
  unfold typT at h
  split at h
  · obtain ⟨x, h1, h2⟩ := bindS h
    obtain ⟨y, h3, h4⟩ := bindS h2
    exact ⟨‹_›, x, y, h1, h3, h4⟩
  · cases h
theorem typ_leaf {n : Nod} {w : Int × Int} (h : typT (.leaf n) = some w) : lfB n = true ∧ w = lfT n := by
  unfold typT at h
  split at h
  · exact ⟨‹_›, (Option.some.inj h).symm⟩
  · cases h
theorem lfB_k {n : Nod} (h : lfB n = true) : 1 ≤ n.1 ∧ n.1 ≤ 14 := by
  unfold lfB at h; simp only [Bool.and_eq_true] at h
  exact rng_true.1 h.2.1
theorem run_tree : ∀ {T : Tr} {w : Int × Int}, typT T = some w → ∀ S, runT (flat T) S = some ((T, w) :: S)
  | .leaf n, w, h, S => by
    obtain ⟨h1, rfl⟩ := typ_leaf h
    have hk := lfB_k h1
    show (stepT S n).bind _ = _
    unfold stepT
    rw [if_neg (by omega), if_pos h1]; rfl
  | .node k a b, w, h, S => by
    obtain ⟨hk, x, y, h1, h2, h3⟩ := typ_node h
    show runT (flat a ++ flat b ++ [(k, 0, .empty)]) S = _
    rw [runT_app, runT_app, run_tree h1 S]
    show ((runT (flat b) ((a, x) :: S)).bind _) = _
    rw [run_tree h2]
    show (stepT ((b, y) :: (a, x) :: S) (k, 0, .empty)).bind _ = _
    unfold stepT
    rw [if_pos hk, if_pos ⟨rfl, rfl⟩]
    show ((jn k x y).map _).bind _ = _
    rw [h3]; rfl
theorem validB_tree {t : List Nod} (h : validB t = true) : ∃ T w, t = flat T ∧ typT T = some w ∧ t.length ≤ 400 := by
  unfold validB at h
  rw [Bool.and_eq_true] at h
  have hl := rng_true.1 h.1
  cases hr : runT t [] with
  | none => rw [hr] at h; cases h.2
  | some S =>
    rw [hr] at h
    match S, hr, h.2 with
    | [(T, w)], hr, _ =>
      have h1 := runT_flat _ _ _ hr
      have h2 := runT_typ _ _ _ (fun p hp => by cases hp) hr
      refine ⟨T, w, ?_, h2 (T, w) (by simp), by omega⟩
      unfold stkN at h1
      simpa using h1.symm
theorem tree_valid {T : Tr} {w : Int × Int} (h : typT T = some w) (hl : (flat T).length ≤ 400) : validB (flat T) = true := by
  have := flat_pos T
  unfold validB
  rw [run_tree h, show rng ((flat T).length : Int) 1 400 = true from rng_true.2 (by omega)]; rfl

/-! ### a tree's two halves -/
theorem tmScan_eq {t : List Nod} {x : List Int × List Int × List Int} {b : Bool} (h : F_spec_lbScan [] t = some (x, b)) : F_spec_tmScan t = some (x, b) := bnd h rfl
theorem tmOwn_ {t : List Nod} (h : t.length ≤ maxN) : F_spec_tmOwn t = some t := bnd (appO_of (by simpa using h)) rfl
theorem tmParts_ {k : Int} {a b : Tr} {w : Int × Int} (h : typT (.node k a b) = some w) (hl : (flat (.node k a b)).length ≤ 400) : F_spec_tmParts (flat (.node k a b)) = some (flat a, flat b) := by
  have hm : maxN = 1099511627776 := rfl
  obtain ⟨hk, x, y, h1, h2, h3⟩ := typ_node h
  obtain ⟨X, hX, hs⟩ := lbScan_ (flat (.node k a b))
  have hpa := flat_pos a
  have hpb := flat_pos b
  have hlen : (flat (.node k a b)).length = (flat a).length + (flat b).length + 1 := by simp [flat]; omega
  obtain ⟨k1, _, hsc⟩ := hs _ (run_tree h []) (rng_true.2 (by omega))
  have hsc := hsc [(b, y), (a, x)] (flat a ++ flat b) [(k, 0, .empty)] rfl (by
    rw [runT_app, run_tree h1]
    show runT (flat b) [(a, x)] = _
    rw [run_tree h2])
  obtain ⟨_, s2, _⟩ := hsc
  rw [List.length_append, Nat.add_sub_cancel] at s2
  have sl1 : sliceO (flat (.node k a b)) 0 (((flat a).length : Nat) : Int) = some (flat a) := by
    unfold sliceO; rw [if_pos ⟨by omega, by omega, by omega⟩]
    simp [flat]
  have sl2 : sliceO (flat (.node k a b)) (((flat a).length : Nat) : Int) (((flat a).length + (flat b).length : Nat) : Int) = some (flat b) := by
    unfold sliceO; rw [if_pos ⟨by omega, by omega, by omega⟩]
    have e : (((flat a).length : Int) + ((flat b).length : Int)).toNat - (flat a).length = (flat b).length := by omega
    simp [flat, e]
  refine bnd (tmScan_eq hX) (bnd (a := (((flat a).length + (flat b).length : Nat) : Int)) (by rw [hlen, subO_of (by omega) (by omega)]; congr 1; omega)
    (bnd (a := (((flat a).length + (flat b).length - 1 : Nat) : Int)) (by rw [subO_of (by omega) (by omega)]; congr 1; omega) (bnd (idxO_of s2) (bnd sl1 (bnd sl2 (bnd (tmOwn_ (by omega)) (bnd (tmOwn_ (by omega)) rfl)))))))

/-! ### the graph of a leaf -/
def frL (a b : Nat) : List Int := (List.range b).map fun j : Nat => ((j : Int) + (a : Int))
theorem frL_len (a b : Nat) : (frL a b).length = b := by simp [frL]
def ugL (n : Nat) : List Int := (List.range n).map fun q : Nat => (q : Int)
theorem ugL_len (n : Nat) : (ugL n).length = n := by simp [ugL]
theorem ugTo_ {n : Nat} (hn : n ≤ 1048576) : F_impl_upTo (n : Int) = some (ugL n) := upT_ hn
theorem ugL_succ (n : Nat) : ugL (n + 1) = ugL n ++ [(n : Int)] := by unfold ugL; rw [List.range_succ]; simp
theorem frL_succ (a b : Nat) : frL a (b + 1) = frL a b ++ [(b : Int) + a] := by unfold frL; rw [List.range_succ]; simp
theorem tabl_frL (a b : Nat) : (tabl b fun k => (k : Int) + a) = frL a b := rfl
def leafG (n : Nod) : Gra := if n.1 = 1 then (n.2.1, [], ugL n.2.1.toNat, ugL n.2.1.toNat) else if n.1 = 2 then (2, [], [0, 1], [1, 0]) else
  ((kd n.1).1 + (kd n.1).2, [(n.1, n.2.1, ugL (kd n.1).1.toNat, frL (kd n.1).1.toNat (kd n.1).2.toNat)], ugL (kd n.1).1.toNat, frL (kd n.1).1.toNat (kd n.1).2.toNat)
theorem hgId_ {n : Nat} (hn : n ≤ 1000) : F_spec_hgId (n : Int) = some ((n : Int), [], ugL n, ugL n) := by
  have hm : maxN = 1099511627776 := rfl
  have loop := whileO_is (f := fun (s166 : List Int × List Int × Int) =>
      (some (decide (s166.2.2 < (n : Int)))).bind fun a179 =>
      cond a179
      ((appO s166.1 [s166.2.2]).bind fun a187 =>
        (appO s166.2.1 [s166.2.2]).bind fun a196 =>
        (addO s166.2.2 1).bind fun a202 =>
        some (.inl (a187, a196, a202)))
      (some (.inr (s166.1, s166.2.1)))) (fun j => (ugL j, ugL j, (j : Int))) (t := (ugL n, ugL n)) n (fun j hj => by
    refine stp (cTW (dT (by dsimp only; omega)) ?_)
    have e : appO (ugL j) [(j : Int)] = some (ugL (j + 1)) := by rw [ugL_succ]; exact appO_of (by rw [ugL_len]; simp; omega)
    exact bnd e (bnd e (bnd (addO_of (by dsimp only; omega) (by dsimp only; omega)) rfl)))
    (stp (cFW (dF (by dsimp only; omega)) rfl))
  exact bnd loop rfl
theorem hgLeafLoop {a b : Nat} (ha : a ≤ 1000) (hb : b ≤ 1000) : whileO (fun (s328 : List Int × List Int × List Int × List Int × Int) =>
          (addO (a : Int) (b : Int)).bind fun a345 =>
          (some (decide (s328.2.2.2.2 < a345))).bind fun a347 =>
          cond a347
          ((some (decide (s328.2.2.2.2 < (a : Int)))).bind fun a352 =>
            cond a352
            ((appO s328.1 [s328.2.2.2.2]).bind fun a379 =>
              (appO s328.2.2.1 [s328.2.2.2.2]).bind fun a388 =>
              (addO s328.2.2.2.2 1).bind fun a394 =>
              some (.inl (a379, s328.2.1, a388, s328.2.2.2.1, a394)))
            ((appO s328.2.1 [s328.2.2.2.2]).bind fun a358 =>
              (appO s328.2.2.2.1 [s328.2.2.2.2]).bind fun a367 =>
              (addO s328.2.2.2.2 1).bind fun a373 =>
              some (.inl (s328.1, a358, s328.2.2.1, a367, a373))))
          (some (.inr (s328.1, s328.2.1, s328.2.2.1, s328.2.2.2.1)))) (([] : List Int), ([] : List Int), ([] : List Int), ([] : List Int), (0 : Int)) = some (ugL a, frL a b, ugL a, frL a b) := by
  have hm : maxN = 1099511627776 := rfl
  have hs : addO (a : Int) (b : Int) = some ((a : Int) + b) := addO_of (by omega) (by omega)
  have loop := whileO_is (f := fun (s328 : List Int × List Int × List Int × List Int × Int) =>
          (addO (a : Int) (b : Int)).bind fun a345 =>
          (some (decide (s328.2.2.2.2 < a345))).bind fun a347 =>
          cond a347
          ((some (decide (s328.2.2.2.2 < (a : Int)))).bind fun a352 =>
            cond a352
            ((appO s328.1 [s328.2.2.2.2]).bind fun a379 =>
              (appO s328.2.2.1 [s328.2.2.2.2]).bind fun a388 =>
              (addO s328.2.2.2.2 1).bind fun a394 =>
              some (.inl (a379, s328.2.1, a388, s328.2.2.2.1, a394)))
            ((appO s328.2.1 [s328.2.2.2.2]).bind fun a358 =>
              (appO s328.2.2.2.1 [s328.2.2.2.2]).bind fun a367 =>
              (addO s328.2.2.2.2 1).bind fun a373 =>
              some (.inl (s328.1, a358, s328.2.2.1, a367, a373))))
          (some (.inr (s328.1, s328.2.1, s328.2.2.1, s328.2.2.2.1)))) (fun j => (ugL (min j a), frL a (j - a), ugL (min j a), frL a (j - a), (j : Int))) (t := (ugL a, frL a b, ugL a, frL a b)) (a + b) (fun j hj => by
    refine bnd hs (stp (cTW (dT (by dsimp only; omega)) ?_))
    have e1 : addO ((j : Nat) : Int) 1 = some ((j + 1 : Nat) : Int) := addO_of (by omega) (by omega)
    by_cases hja : j < a
    · have e : appO (ugL (min j a)) [(j : Int)] = some (ugL (min (j + 1) a)) := by
        rw [Nat.min_eq_left (by omega), Nat.min_eq_left (by omega), ugL_succ]; exact appO_of (by rw [ugL_len]; simp; omega)
      refine stp (cTW (dT (by dsimp only; omega)) (bnd e (bnd e (bnd e1 ?_))))
      rw [show j + 1 - a = j - a by omega]
    · have e : appO (frL a (j - a)) [(j : Int)] = some (frL a (j + 1 - a)) := by
        rw [show j + 1 - a = j - a + 1 by omega, frL_succ, show ((j - a : Nat) : Int) + a = j by omega]; exact appO_of (by rw [frL_len]; simp; omega)
      refine stp (cFW (dF (by dsimp only; omega)) (bnd e (bnd e (bnd e1 ?_))))
      rw [Nat.min_eq_right (by omega), Nat.min_eq_right (by omega)])
    (bnd hs (stp (cFW (dF (by dsimp only; omega)) (by rw [Nat.min_eq_right (by omega), Nat.add_sub_cancel_left]))))
  rw [Nat.zero_min, Nat.zero_sub] at loop
  exact loop
theorem kd_nat (k : Int) : ∃ a b : Nat, kd k = ((a : Int), (b : Int)) ∧ a ≤ 2 ∧ b ≤ 2 := by
  have h := kd_le k
  refine ⟨(kd k).1.toNat, (kd k).2.toNat, Prod.ext (by dsimp only; omega) (by dsimp only; omega), by omega, by omega⟩
theorem lfB_id {n : Nod} (h : lfB n = true) (h1 : n.1 = 1) : 0 ≤ n.2.1 ∧ n.2.1 ≤ 12 := by
  unfold lfB at h
  simp only [Bool.and_eq_true] at h
  rw [if_pos h1] at h
  exact rng_true.1 h.2.2
theorem hgLeaf_ {n : Nod} (h : lfB n = true) : F_spec_hgLeaf n = some (leafG n) := by
  obtain ⟨k, v, s⟩ := n
  unfold F_spec_hgLeaf leafG
  by_cases h1 : k = 1
  · have hv := lfB_id h h1
    dsimp only at hv
    obtain ⟨m, rfl⟩ : ∃ m : Nat, v = (m : Int) := ⟨v.toNat, by omega⟩
    simp [h1, hgId_ (n := m) (by omega)]
  by_cases h2 : k = 2
  · simp [h2]
  obtain ⟨a, b, hk, ha, hb⟩ := kd_nat k
  have hs : addO (a : Int) (b : Int) = some ((a : Int) + b) := addO_of (by omega) (by omega)
  rw [if_neg h1, if_neg h2]
  refine stp (cFW (dF h1) (stp (cFW (dF h2) (bnd (tmKind_ k) ?_))))
  simp only [hk, Int.toNat_natCast]
  exact bnd hs (bnd (hgLeafLoop (by omega) (by omega)) rfl)
theorem leafGraph_ {n : Nod} (h : lfB n = true) : F_impl_leafGraph n = some (leafG n) := by
  have hm : maxN = 1099511627776 := rfl
  have hkk := lfB_k h
  obtain ⟨k, v, s⟩ := n
  dsimp only at hkk
  unfold F_impl_leafGraph leafG
  by_cases h1 : k = 1
  · have hv := lfB_id h h1
    dsimp only at hv
    obtain ⟨m, rfl⟩ : ∃ m : Nat, v = (m : Int) := ⟨v.toNat, by omega⟩
    have : F_impl_identityGraph (m : Int) = some ((m : Int), [], ugL m, ugL m) := bnd (ugTo_ (by omega)) (bnd (ugTo_ (by omega)) rfl)
    simp [h1, this]
  by_cases h2 : k = 2
  · simp [h2]
  obtain ⟨a, b, hk, ha, hb⟩ := kd_nat k
  have hs : addO (a : Int) (b : Int) = some ((a : Int) + b) := addO_of (by omega) (by omega)
  have hr : rng k 3 14 = true := rng_true.2 (by omega)
  have c1 : F_impl_clone (ugL a) = some (ugL a) := clone_ (by rw [ugL_len]; omega)
  have c2 : F_impl_clone (frL a b) = some (frL a b) := clone_ (by rw [frL_len]; omega)
  have f1 := from_ (n := b) (a := a) (by omega) (by omega)
  rw [tabl_frL] at f1
  simp only [h1, h2, generatorWires_ hr, hk, decide_false, cond_false, Option.bind_some, hs, if_false, Int.toNat_natCast, ugTo_ (n := a) (by omega), f1, c1, c2]
theorem leafG_ok {n : Nod} (h : lfB n = true) : gOk (leafG n) = true ∧ ((leafG n).2.2.1.length : Int) = (lfT n).1 ∧ ((leafG n).2.2.2.length : Int) = (lfT n).2 := by
  have hkk := lfB_k h
  obtain ⟨k, v, s⟩ := n
  dsimp only at hkk
  unfold leafG lfT
  by_cases h1 : k = 1
  · have hv := lfB_id h h1
    dsimp only at hv
    obtain ⟨m, rfl⟩ : ∃ m : Nat, v = (m : Int) := ⟨v.toNat, by omega⟩
    have key : ∀ m : Nat, m < 13 → gOk ((m : Int), [], ugL m, ugL m) = true := by decide
    simp only [h1, if_true, Int.toNat_natCast, ugL_len]
    exact ⟨key m (by omega), trivial, trivial⟩
  by_cases h2 : k = 2
  · subst h2
    have e : gOk (2, [], [0, 1], [1, 0]) = true := by decide
    exact ⟨e, rfl, rfl⟩
  have hr : rng k 3 14 = true := rng_true.2 (by omega)
  have hg : genB k v = true := by
    unfold lfB at h
    simp only [Bool.and_eq_true] at h
    rw [if_neg h1] at h
    unfold genB
    rw [hr, Bool.true_and]; exact h.2.2
  obtain ⟨a, b, hk, ha, hb⟩ := kd_nat k
  have h0 := hk
  simp only [h1, h2, if_false, hk, Int.toNat_natCast, ugL_len, frL_len, and_true]
  have hE : edW ((a : Int) + b) (k, v, ugL a, frL a b) = (wOk ((a : Int) + b) (ugL a) && wOk ((a : Int) + b) (frL a b)) := by
    unfold edW arB edI edO
    simp only [hg, hk, ugL_len, frL_len, decide_true, Bool.true_and]
  have e1 : ((a : Int) + b) = ((a + b : Nat) : Int) := by omega
  unfold gOk allW
  simp only [List.all_cons, List.all_nil, hE, ugL_len, frL_len, List.map_cons, List.map_nil]
  have key : ∀ a : Nat, a < 3 → ∀ b : Nat, b < 3 → (rng ((a : Int) + b) 0 100 && (decide (1 ≤ 60) && (decide (a ≤ 12) && (decide (b ≤ 12) && (wOk ((a : Int) + b) (ugL a) && (wOk ((a : Int) + b) (frL a b) && ((wOk ((a : Int) + b) (ugL a) && wOk ((a : Int) + b) (frL a b) && true) && (List.range ((a : Int) + b).toNat).all fun j : Nat => decide ((j : Int) ∈ ugL a ++ frL a b ++ ([ugL a ++ frL a b]).flatten)))))))) = true := by decide
  exact key a (by omega) b (by omega)

/-! ### the graph of a tree -/
def comb (k : Int) (a b : Gra) : Gra := if k = 15 then pSeq a.1.toNat b.1.toNat a b else pPar a.1.toNat b.1.toNat a b
def made : Tr → Gra × Bool
  | .leaf n => (leafG n, true)
  | .node k a b => if (made a).2 = true ∧ (made b).2 = true then ifG (comb k (made a).1 (made b).1) else (noG, false)
theorem ifG_ok {g : Gra} (h : (ifG g).2 = true) : gOk g = true ∧ (ifG g).1 = g := by
  unfold ifG at h ⊢
  split at h
  · rename_i hg
    rw [if_pos hg]; exact ⟨hg, rfl⟩
  · cases h
theorem pSeq_len (n m : Nat) (a b : Gra) : (pSeq n m a b).2.2.1.length = a.2.2.1.length ∧ (pSeq n m a b).2.2.2.length = b.2.2.2.length := by
  unfold pSeq gluG mpG befG
  dsimp only
  rw [mp_len, mp_len, mp_len]; exact ⟨rfl, rfl⟩
theorem pPar_len (n m : Nat) (a b : Gra) : (pPar n m a b).2.2.1.length = a.2.2.1.length + b.2.2.1.length ∧ (pPar n m a b).2.2.2.length = a.2.2.2.length + b.2.2.2.length := by
  unfold pPar
  dsimp only
  rw [List.length_append, List.length_append, mp_len, mp_len]; exact ⟨rfl, rfl⟩
def lens (g : Gra) (w : Int × Int) : Prop := (g.2.2.1.length : Int) = w.1 ∧ (g.2.2.2.length : Int) = w.2
theorem comb_lens {k : Int} {a b : Gra} {x y w : Int × Int} (ha : lens a x) (hb : lens b y) (h : jn k x y = some w) : lens (comb k a b) w ∧ (k = 15 → a.2.2.2.length = b.2.2.1.length) := by
  obtain ⟨a1, a2⟩ := ha
  obtain ⟨b1, b2⟩ := hb
  unfold comb
  unfold jn at h
  by_cases hk : k = 15
  · rw [if_pos hk] at h ⊢
    split at h
    · obtain rfl := Option.some.inj h
      have := pSeq_len a.1.toNat b.1.toNat a b
      exact ⟨⟨by dsimp only; omega, by dsimp only; omega⟩, fun _ => by omega⟩
    · cases h
  · rw [if_neg hk] at h ⊢
    split at h
    · obtain rfl := Option.some.inj h
      have := pPar_len a.1.toNat b.1.toNat a b
      exact ⟨⟨by dsimp only; omega, by dsimp only; omega⟩, fun h => (hk h).elim⟩
    · cases h
theorem made_ok : ∀ {T : Tr} {w : Int × Int}, typT T = some w → (made T).2 = true → gOk (made T).1 = true ∧ lens (made T).1 w
  | .leaf n, w, h, _ => by
    obtain ⟨h1, rfl⟩ := typ_leaf h
    have := leafG_ok h1
    exact ⟨this.1, this.2.1, this.2.2⟩
  | .node k a b, w, h, hm => by
    obtain ⟨hk, x, y, h1, h2, h3⟩ := typ_node h
    unfold made at hm ⊢
    split at hm
    · rename_i hab
      rw [if_pos hab]
      obtain ⟨g1, g2⟩ := ifG_ok hm
      rw [g2]
      exact ⟨g1, (comb_lens (made_ok h1 hab.1).2 (made_ok h2 hab.2).2 h3).1⟩
    · cases hm
theorem hgComb {k : Int} {a b : Gra} (ga : gOk a = true) (gb : gOk b = true) (hl : k = 15 → a.2.2.2.length = b.2.2.1.length) : (k = 15 → F_spec_hgSeq a b = some (comb k a b) ∧ F_impl_seqGraphs a b = some (comb k a b)) ∧ (k ≠ 15 → F_spec_hgPar a b = some (comb k a b) ∧ F_impl_parGraphs a b = some (comb k a b)) := by
  obtain ⟨n, ha⟩ := gOk_facts ga
  obtain ⟨m, hb⟩ := gOk_facts gb
  have n1 := ha.n100; have m1 := hb.n100
  unfold comb
  rw [ha.w, hb.w, Int.toNat_natCast, Int.toNat_natCast]
  constructor
  · intro h; rw [if_pos h]; exact ⟨hgSeq_ ha hb (hl h), seqGraphs_ ha hb (hl h)⟩
  · intro h; rw [if_neg h]; exact ⟨bnd (hgBeside_ (by omega) (by omega) ha.w hb.w ha.rgd hb.rgd) rfl, parGraphs_ (by omega) (by omega) ha.w hb.w ha.rgd hb.rgd⟩
theorem tmTop_leaf (n : Nod) : F_spec_tmTop (flat (.leaf n)) = some n.1 := rfl
theorem tmTop_node (k : Int) (a b : Tr) (hl : (flat (.node k a b)).length ≤ 400) : F_spec_tmTop (flat (.node k a b)) = some k := by
  have hlen : (flat (.node k a b)).length = (flat a).length + (flat b).length + 1 := by simp [flat]; omega
  refine bnd (a := (((flat a).length + (flat b).length : Nat) : Int)) (by rw [hlen, subO_of (by omega) (by omega)]; congr 1; omega) (bnd (a := (k, 0, .empty)) (idxO_of ?_) rfl)
  show (flat a ++ flat b ++ [_])[_]? = _
  rw [List.getElem?_append_right (by simp)]; simp
theorem hgMade_ : ∀ (fuel : Nat) {T : Tr} {w : Int × Int}, typT T = some w → (flat T).length ≤ 400 → (flat T).length ≤ fuel → F_spec_hgMade_n fuel (flat T) = some (made T)
  | 0, T, _, _, _, hf => by have := flat_pos T; omega
  | fuel + 1, .leaf n, w, h, hl, hf => by
    obtain ⟨h1, rfl⟩ := typ_leaf h
    have hk := lfB_k h1
    exact bnd (tmTop_leaf n) (stp (cTW (dT (by omega)) (bnd (a := n) rfl (bnd (hgLeaf_ h1) rfl))))
  | fuel + 1, .node k a b, w, h, hl, hf => by
    obtain ⟨hk, x, y, h1, h2, h3⟩ := typ_node h
    have hpa := flat_pos a
    have hpb := flat_pos b
    have hlen : (flat (.node k a b)).length = (flat a).length + (flat b).length + 1 := by simp [flat]; omega
    have ia := hgMade_ fuel h1 (by omega) (by omega)
    have ib := hgMade_ fuel h2 (by omega) (by omega)
    refine bnd (tmTop_node k a b hl) (stp (cFW (dF (by omega)) (bnd (tmParts_ h hl) (bnd ia (bnd ib ?_)))))
    rw [made]
    cases ma : (made a).2 with
    | false =>
      rw [if_neg (fun h => by cases h.1)]
      exact bnd (a := true) rfl rfl
    | true =>
      cases mb : (made b).2 with
      | false =>
        rw [if_neg (fun h => by cases h.2)]
        exact bnd (a := true) rfl rfl
      | true =>
        rw [if_pos ⟨rfl, rfl⟩]
        obtain ⟨ga, la⟩ := made_ok h1 ma
        obtain ⟨gb, lb⟩ := made_ok h2 mb
        have hc := hgComb (k := k) ga gb (comb_lens la lb h3).2
        refine bnd (a := false) rfl (cFW rfl ?_)
        by_cases h15 : k = 15
        · exact stp (cTW (dT h15) (bnd (hc.1 h15).1 (bnd (hgIf_ _) rfl)))
        · exact stp (cFW (dF h15) (bnd (hc.2 h15).1 (bnd (hgIf_ _) rfl)))

/-! ### the program's stack of graphs -/
noncomputable def gStep (t_ : List Nod) (k11 : Nat) (s383 : List Gra) : Option (List Gra ⊕ (Gra × Bool)) :=
      (idxO t_ ((k11 : Nat) : Int)).bind fun a399 =>
      (subO ((s383.length : Nat) : Int) 1).bind fun a407 =>
      (some (decide (a399.1 = 15))).bind fun a412 =>
      cond a412
      ((subO a407 1).bind fun a522 =>
        (idxO s383 a522).bind fun a530 =>
        (idxO s383 a407).bind fun a542 =>
        (F_impl_seqGraphs (a530.1, a530.2.1, a530.2.2.1, a530.2.2.2) (a542.1, a542.2.1, a542.2.2.1, a542.2.2.2)).bind fun y548 =>
        (subO a407 1).bind fun a558 =>
        (sliceO s383 0 a558).bind fun a560 =>
        (F_impl_Graph_isGraph (y548.1, y548.2.1, y548.2.2.1, y548.2.2.2)).bind fun y564 =>
        (some (!y564)).bind fun a567 =>
        cond a567
        (some (.inr ((0, [], [], []), false)))
        ((appO a560 [(y548.1, y548.2.1, y548.2.2.1, y548.2.2.2)]).bind fun a577 =>
          some (.inl a577)))
      ((some (decide (a399.1 = 16))).bind fun a415 =>
        cond a415
        ((subO a407 1).bind fun a454 =>
          (idxO s383 a454).bind fun a462 =>
          (idxO s383 a407).bind fun a474 =>
          (F_impl_parGraphs (a462.1, a462.2.1, a462.2.2.1, a462.2.2.2) (a474.1, a474.2.1, a474.2.2.1, a474.2.2.2)).bind fun y480 =>
          (subO a407 1).bind fun a490 =>
          (sliceO s383 0 a490).bind fun a492 =>
          (F_impl_Graph_isGraph (y480.1, y480.2.1, y480.2.2.1, y480.2.2.2)).bind fun y496 =>
          (some (!y496)).bind fun a499 =>
          cond a499
          (some (.inr ((0, [], [], []), false)))
          ((appO a492 [(y480.1, y480.2.1, y480.2.2.1, y480.2.2.2)]).bind fun a509 =>
            some (.inl a509)))
        ((F_impl_leafGraph (a399.1, a399.2.1, a399.2.2)).bind fun y418 =>
          (F_impl_Graph_isGraph (y418.1, y418.2.1, y418.2.2.1, y418.2.2.2)).bind fun y428 =>
          (some (!y428)).bind fun a431 =>
          cond a431
          (some (.inr ((0, [], [], []), false)))
          ((appO s383 [(y418.1, y418.2.1, y418.2.2.1, y418.2.2.2)]).bind fun a441 =>
            some (.inl a441))))
theorem gStep_leaf {t : List Nod} {j : Nat} {n : Nod} {s : List Gra} (ht : t[j]? = some n) (hn : lfB n = true) (hs : s.length ≤ 1000) : gStep t j s = some (.inl (s ++ [leafG n])) := by
  have hm : maxN = 1099511627776 := rfl
  have hk := lfB_k hn
  refine bnd (idxO_of ht) (bnd (subO_of (by omega) (by omega)) (stp (cFW (dF (by omega)) (stp (cFW (dF (by omega)) (bnd (leafGraph_ hn) (bnd (isGraph_ _) (stp ?_))))))))
  rw [(leafG_ok hn).1]
  exact cFW rfl (bnd (appO_of (by simp; omega)) rfl)
theorem gStep_node {t : List Nod} {j : Nat} {k : Int} {s : List Gra} {a b : Gra} (ht : t[j]? = some (k, 0, .empty)) (hk : k = 15 ∨ k = 16) (hs : s.length ≤ 1000) (ga : gOk a = true) (gb : gOk b = true) (hl : k = 15 → a.2.2.2.length = b.2.2.1.length) :
    gStep t j (s ++ [a] ++ [b]) = if gOk (comb k a b) = true then some (.inl (s ++ [comb k a b])) else some (.inr (noG, false)) := by
  have hm : maxN = 1099511627776 := rfl
  have hlen : (s ++ [a] ++ [b]).length = s.length + 2 := by simp
  have e1 : subO (((s ++ [a] ++ [b]).length : Nat) : Int) 1 = some ((s.length + 1 : Nat) : Int) := by rw [hlen, subO_of (by omega) (by omega)]; congr 1; omega
  have e2 : subO ((s.length + 1 : Nat) : Int) 1 = some ((s.length : Nat) : Int) := by rw [subO_of (by omega) (by omega)]; congr 1; omega
  have i1 : (s ++ [a] ++ [b])[s.length]? = some a := by rw [List.append_assoc, List.getElem?_append_right (Nat.le_refl _), Nat.sub_self]; rfl
  have i2 : (s ++ [a] ++ [b])[s.length + 1]? = some b := by rw [List.append_assoc, List.getElem?_append_right (by omega), Nat.add_sub_cancel_left]; rfl
  have sl : sliceO (s ++ [a] ++ [b]) 0 ((s.length : Nat) : Int) = some s := by
    unfold sliceO; rw [if_pos ⟨by omega, by omega, by rw [hlen]; omega⟩, List.append_assoc]
    simp
  have hc := hgComb (k := k) ga gb hl
  refine bnd (idxO_of ht) (bnd e1 ?_)
  by_cases h15 : k = 15
  · refine stp (cTW (dT h15) (bnd e2 (bnd (idxO_of i1) (bnd (idxO_of i2) (bnd (hc.1 h15).2 (bnd e2 (bnd sl (bnd (isGraph_ _) (stp ?_)))))))))
    cases hg : gOk (comb k a b) with
    | false => rfl
    | true => exact cFW rfl (bnd (appO_of (by simp; omega)) rfl)
  · refine stp (cFW (dF h15) (stp (cTW (dT (by dsimp only; omega)) (bnd e2 (bnd (idxO_of i1) (bnd (idxO_of i2) (bnd (hc.2 h15).2 (bnd e2 (bnd sl (bnd (isGraph_ _) (stp ?_)))))))))))
    cases hg : gOk (comb k a b) with
    | false => rfl
    | true => exact cFW rfl (bnd (appO_of (by simp; omega)) rfl)
theorem forO_stepL {σ τ : Type} {f : Nat → σ → Option (σ ⊕ τ)} {n k : Nat} {s s' : σ} (h : f k s = some (.inl s')) : forO f (n + 1) k s = forO f n (k + 1) s' := by
  show (f k s).bind _ = _
  rw [h]; rfl
theorem forO_stepR {σ τ : Type} {f : Nat → σ → Option (σ ⊕ τ)} {n k : Nat} {s : σ} {r : τ} (h : f k s = some (.inr r)) : forO f (n + 1) k s = some (.inr r) := by
  show (f k s).bind _ = _
  rw [h]; rfl
theorem graph_loop {t : List Nod} (ht : t.length ≤ 400) : ∀ {T : Tr} {w : Int × Int}, typT T = some w → ∀ (p q : List Nod) (r : List Gra), t = p ++ (flat T ++ q) → r.length ≤ p.length →
    forO (gStep t) ((flat T).length + q.length) p.length r = if (made T).2 = true then forO (gStep t) q.length (p.length + (flat T).length) (r ++ [(made T).1]) else some (.inr (noG, false))
  | .leaf n, w, h, p, q, r, e, hr => by
    obtain ⟨h1, rfl⟩ := typ_leaf h
    have hlt : p.length < t.length := by rw [e]; simp [flat]
    have hn : t[p.length]? = some n := by rw [e, List.getElem?_append_right (Nat.le_refl _), Nat.sub_self]; rfl
    rw [show (flat (.leaf n)).length + q.length = q.length + 1 by simp [flat]; omega, forO_stepL (gStep_leaf hn h1 (by omega))]
    rfl
  | .node k a b, w, h, p, q, r, e, hr => by
    obtain ⟨hk, x, y, h1, h2, h3⟩ := typ_node h
    have hlen : (flat (.node k a b)).length = (flat a).length + (flat b).length + 1 := by simp [flat]; omega
    have htl : t.length = p.length + ((flat a).length + (flat b).length + 1 + q.length) := by rw [e, List.length_append, List.length_append, hlen]
    have ea : t = p ++ (flat a ++ (flat b ++ ([((k, (0 : Int), ByteArray.empty) : Nod)] ++ q))) := by rw [e]; simp [flat]
    have eb : t = (p ++ flat a) ++ (flat b ++ ([((k, (0 : Int), ByteArray.empty) : Nod)] ++ q)) := by rw [ea]; simp
    have hpa := flat_pos a
    have la := graph_loop ht h1 p (flat b ++ ([((k, (0 : Int), ByteArray.empty) : Nod)] ++ q)) r ea hr
    rw [show (flat (.node k a b)).length + q.length = (flat a).length + (flat b ++ ([((k, (0 : Int), ByteArray.empty) : Nod)] ++ q)).length by rw [hlen]; simp; omega, la, made]
    cases ma : (made a).2 with
    | false => simp
    | true =>
      rw [if_pos rfl]
      have lb := graph_loop ht h2 (p ++ flat a) ([((k, (0 : Int), ByteArray.empty) : Nod)] ++ q) (r ++ [(made a).1]) eb (by simp; omega)
      rw [show (p ++ flat a).length = p.length + (flat a).length from List.length_append] at lb
      rw [show (flat b ++ ([((k, (0 : Int), ByteArray.empty) : Nod)] ++ q)).length = (flat b).length + ([((k, (0 : Int), ByteArray.empty) : Nod)] ++ q).length from List.length_append, lb]
      cases mb : (made b).2 with
      | false => simp
      | true =>
        have e3 : (if true = true ∧ true = true then ifG (comb k (made a).1 (made b).1) else (noG, false)) = ifG (comb k (made a).1 (made b).1) := if_pos ⟨rfl, rfl⟩
        have e4 : ∀ {α : Type} (u v : α), (if true = true then u else v) = u := fun u v => if_pos rfl
        rw [e3, e4]
        obtain ⟨ga, la⟩ := made_ok h1 ma
        obtain ⟨gb, lb⟩ := made_ok h2 mb
        have hn : t[p.length + (flat a).length + (flat b).length]? = some (k, 0, .empty) := by
          rw [show t = (p ++ flat a ++ flat b) ++ ([((k, (0 : Int), ByteArray.empty) : Nod)] ++ q) by rw [ea]; simp, List.getElem?_append_right (by simp; omega)]
          simp [Nat.add_assoc]
        have st := gStep_node (s := r) hn hk (by omega) ga gb (comb_lens la lb h3).2
        rw [show ([((k, (0 : Int), ByteArray.empty) : Nod)] ++ q).length = q.length + 1 by simp]
        by_cases hg : gOk (comb k (made a).1 (made b).1) = true
        · rw [if_pos hg] at st
          have hi : ifG (comb k (made a).1 (made b).1) = (comb k (made a).1 (made b).1, true) := if_pos hg
          rw [forO_stepL st]
          simp only [hi, and_self, if_true]
          rw [hlen, show p.length + ((flat a).length + (flat b).length + 1) = p.length + (flat a).length + (flat b).length + 1 by omega]
        · rw [if_neg hg] at st
          have hi : ifG (comb k (made a).1 (made b).1) = (noG, false) := if_neg hg
          rw [forO_stepR st]
          simp [hi]
theorem graphOf_ {T : Tr} {w : Int × Int} (h : typT T = some w) (hl : (flat T).length ≤ 400) : F_impl_graphOf (flat T) = some (made T) := by
  have loop := graph_loop hl h [] [] [] (by simp) (by simp)
  rw [List.length_nil, Nat.add_zero, Nat.zero_add, List.nil_append] at loop
  have e : F_impl_graphOf (flat T) = seqO (forO (gStep (flat T)) (flat T).length 0 []) fun s590 => (idxO s590 0).bind fun a599 => some ((a599.1, a599.2.1, a599.2.2.1, a599.2.2.2), true) := rfl
  rw [e, loop]
  cases hm : (made T).2 with
  | false =>
    have : made T = (noG, false) := by
      cases T with
      | leaf n => cases hm
      | node k a b =>
        rw [made] at hm ⊢
        split
        · rename_i hab
          rw [if_pos hab] at hm
          unfold ifG at hm ⊢
          split at hm
          · cases hm
          · rw [if_neg ‹_›]
        · rfl
    rw [if_neg (by simp), this]; rfl
  | true =>
    rw [if_pos rfl]
    refine congrArg some (Prod.ext rfl hm.symm)
open Classical in
noncomputable def wGraphOf (t : List Nod) : Gra × Bool := if h : validB t = true then made (Classical.choose (validB_tree h)) else (noG, false)
theorem wGraphOf_eq {t : List Nod} (h : validB t = true) : ∃ T w, t = flat T ∧ typT T = some w ∧ t.length ≤ 400 ∧ wGraphOf t = made T := by
  obtain ⟨w, h1, h2, h3⟩ := Classical.choose_spec (validB_tree h)
  exact ⟨_, w, h1, h2, h3, by unfold wGraphOf; rw [dif_pos h]⟩
end Go.Proofs.YteimaohaeodbkaaGreat
namespace Go.Proofs.YteimaohaeodbkaaGreat

/-! ### names -/
instance (s : ByteArray) (l : List ByteArray) : Decidable (s ∈ l) := decidable_of_iff (l.any (fun a => decide (a = s)) = true) (by simp [List.any_eq_true])
def bt (s : ByteArray) (i : Nat) : Int := ((s.data[i]?.getD 0).toNat : Int)
theorem strO_ {s : ByteArray} {i : Nat} (h : i < s.size) : strO s (i : Int) = some (bt s i) := by
  unfold strO bt
  rw [if_pos (by omega), Int.toNat_natCast]
  have h2 : i < s.data.size := h
  rw [Array.getElem?_eq_getElem h2]
  have : s[i]? = some s.data[i] := by
    rw [getElem?_pos s i h]; rfl
  rw [this]; rfl
def lowB (x : Int) : Bool := rng x 97 122
def digB (x : Int) : Bool := rng x 48 57
def chrB (x : Int) : Bool := lowB x || digB x
def words : List ByteArray := [⟨#[105, 100]⟩, ⟨#[115, 119, 97, 112]⟩, ⟨#[99, 111, 112, 121]⟩, ⟨#[100, 105, 115, 99, 97, 114, 100]⟩, ⟨#[97, 100, 100]⟩, ⟨#[122, 101, 114, 111]⟩, ⟨#[115, 99, 97, 108, 101]⟩, ⟨#[100, 101, 108, 97, 121]⟩, ⟨#[99, 111, 99, 111, 112, 121]⟩, ⟨#[99, 111, 100, 105, 115, 99, 97, 114, 100]⟩, ⟨#[99, 111, 97, 100, 100]⟩, ⟨#[99, 111, 122, 101, 114, 111]⟩, ⟨#[99, 111, 115, 99, 97, 108, 101]⟩, ⟨#[99, 111, 100, 101, 108, 97, 121]⟩]
def chrs (s : ByteArray) : Bool := (List.range s.size).all fun i => chrB (bt s i)
def nmB (s : ByteArray) : Bool := rng (s.size : Int) 1 8 && (lowB (bt s 0) && (chrs s && !decide (s ∈ words)))
theorem chrs_true {s : ByteArray} : chrs s = true ↔ ∀ i, i < s.size → chrB (bt s i) = true := by
  unfold chrs
  rw [List.all_eq_true]
  exact ⟨fun h i hi => h i (List.mem_range.2 hi), fun h i hi => h i (List.mem_range.1 hi)⟩
theorem rng_false {x a b : Int} : rng x a b = false ↔ ¬ (a ≤ x ∧ x ≤ b) := by
  rw [← rng_true]; simp
theorem l1HasS_ (l : List ByteArray) (s : ByteArray) : F_spec_l1HasS l s = some (decide (s ∈ l)) := by
  refine sqW (forO_all (fun a => !decide (a = s)) l 0 ?_ (t := true)) ?_
  · intro j a hj
    rw [Nat.zero_add]
    refine bnd (idxO_of hj) (stp ?_)
    by_cases h : a = s
    · rw [dT h]; rfl
    · rw [dF h]; rfl
  · have : (l.all fun a => !decide (a = s)) = !decide (s ∈ l) := by
      rw [Bool.eq_iff_iff, List.all_eq_true]
      constructor
      · intro h
        simp only [Bool.not_eq_true', decide_eq_false_iff_not]
        intro hv
        have := h s hv
        simp at this
      · intro h a ha
        simp only [Bool.not_eq_true', decide_eq_false_iff_not] at h ⊢
        rintro rfl; exact h ha
    rw [this]
    cases decide (s ∈ l) <;> rfl
theorem lbWord_ (s : ByteArray) : F_spec_lbWord s = some (rng (s.size : Int) 1 8 && (lowB (bt s 0) && chrs s)) := by
  cases hr : rng (s.size : Int) 1 8 with
  | false => exact bnd (a := true) (bnd (l1In _ _ _) (stp (by rw [hr]; rfl))) rfl
  | true =>
    have hl := rng_true.1 hr
    have h0 : strO s 0 = some (bt s 0) := strO_ (i := 0) (by omega)
    cases hb : lowB (bt s 0) with
    | false =>
      have hb := rng_false.1 hb
      have hk : ((some (decide ((bt s 0 : Int) < 97))).bind fun a32 =>
      cond a32
      (some true)
      ((strO s 0).bind fun a35 =>
        (some (decide ((122 : Int) < a35))).bind fun a37 =>
        some a37)) = some true := by
        by_cases h1 : bt s 0 < 97
        · exact stp (cTW (dT h1) rfl)
        · exact stp (cFW (dF h1) (bnd h0 (stp (congrArg some (dT (by omega))))))
      exact bnd (a := true) (bnd (l1In _ _ _) (stp (by rw [hr]; exact cFW rfl (bnd h0 hk)))) rfl
    | true =>
      have hb1 := rng_true.1 hb
      refine bnd (a := false) (bnd (l1In _ _ _) (stp (by rw [hr]; exact cFW rfl (bnd h0 (stp (cFW (dF (by omega)) (bnd h0 (stp (congrArg some (dF (by omega)))))))))) ) (cFW rfl ?_)
      obtain ⟨t, h1, h2⟩ := whileO_rel (s := (1 : Int)) (f := fun (s469 : Int) =>
        (some (decide (s469 < ((s.size : Nat) : Int)))).bind fun a478 =>
        cond a478
        (((strO s s469).bind fun a521 =>
            (some (decide ((a521 : Int) < 97))).bind fun a523 =>
            cond a523
            ((strO s s469).bind fun a543 =>
              (some (decide ((a543 : Int) < 48))).bind fun a545 =>
              cond a545
              (some true)
              ((strO s s469).bind fun a548 =>
                (some (decide ((57 : Int) < a548))).bind fun a550 =>
                some a550))
            ((strO s s469).bind fun a526 =>
              (some (decide ((122 : Int) < a526))).bind fun a528 =>
              cond a528
              ((strO s s469).bind fun a532 =>
                (some (decide ((a532 : Int) < 48))).bind fun a534 =>
                cond a534
                (some true)
                ((strO s s469).bind fun a537 =>
                  (some (decide ((57 : Int) < a537))).bind fun a539 =>
                  some a539))
              (some false))).bind fun (s515 : Bool) =>
          cond s515
          (some (.inr (.inr false)))
          ((addO s469 1).bind fun a556 =>
            some (.inl a556)))
        (some (.inr (.inl ())))) (fun k => ∃ j : Nat, k = (j : Int) ∧ 1 ≤ j ∧ j ≤ s.size ∧ ∀ i, i < j → chrB (bt s i) = true)
        (fun r => r = if chrs s = true then Sum.inl () else Sum.inr false) (fun k => s.size - k.toNat) (by
          rintro k ⟨j, rfl, hj1, hj2, hall⟩
          by_cases hj : j < s.size
          · have hs := strO_ hj
            have hch : (((strO s ((j : Nat) : Int)).bind fun a521 =>
            (some (decide ((a521 : Int) < 97))).bind fun a523 =>
            cond a523
            ((strO s ((j : Nat) : Int)).bind fun a543 =>
              (some (decide ((a543 : Int) < 48))).bind fun a545 =>
              cond a545
              (some true)
              ((strO s ((j : Nat) : Int)).bind fun a548 =>
                (some (decide ((57 : Int) < a548))).bind fun a550 =>
                some a550))
            ((strO s ((j : Nat) : Int)).bind fun a526 =>
              (some (decide ((122 : Int) < a526))).bind fun a528 =>
              cond a528
              ((strO s ((j : Nat) : Int)).bind fun a532 =>
                (some (decide ((a532 : Int) < 48))).bind fun a534 =>
                cond a534
                (some true)
                ((strO s ((j : Nat) : Int)).bind fun a537 =>
                  (some (decide ((57 : Int) < a537))).bind fun a539 =>
                  some a539))
              (some false)))) = some (!chrB (bt s j)) := by
              rw [hs]
              simp only [Option.bind_some]
              generalize bt s j = x
              unfold chrB lowB digB rng
              by_cases c1 : x < 97
              · by_cases c2 : x < 48
                · simp [c1, c2, show ¬ 97 ≤ x by omega, show ¬ 48 ≤ x by omega]
                · by_cases c3 : 57 < x
                  · simp [c1, c2, c3, show ¬ 97 ≤ x by omega, show ¬ x ≤ 57 by omega]
                  · simp [c1, c2, c3, show ¬ 97 ≤ x by omega, show 48 ≤ x by omega, show x ≤ 57 by omega]
              · by_cases c2 : 122 < x
                · simp [c1, c2, show ¬ x < 48 by omega, show ¬ x ≤ 122 by omega, show ¬ x ≤ 57 by omega, show 57 < x by omega]
                · simp [c1, c2, show 97 ≤ x by omega, show x ≤ 122 by omega]
            cases hc : chrB (bt s j) with
            | true =>
              rw [hc] at hch
              refine .inl ⟨((j + 1 : Nat) : Int), stp (cTW (dT (by omega)) (bnd hch (cFW rfl (bnd (addO_of (by omega) (by omega)) rfl)))), ⟨j + 1, rfl, by omega, by omega, fun i hi => ?_⟩, by omega⟩
              by_cases hij : i = j
              · subst hij; exact hc
              · exact hall i (by omega)
            | false =>
              rw [hc] at hch
              refine .inr ⟨.inr false, stp (cTW (dT (by omega)) (bnd hch (cTW rfl rfl))), ?_⟩
              rw [if_neg (fun h => by have := chrs_true.1 h j hj; rw [hc] at this; cases this)]
          · refine .inr ⟨.inl (), stp (cFW (dF (by omega)) rfl), ?_⟩
            rw [if_pos (chrs_true.2 fun i hi => hall i (by omega))]) ⟨1, rfl, by omega, by omega, fun i hi => by
              obtain rfl : i = 0 := by omega
              unfold chrB; rw [hb]; rfl⟩
      refine sqW h1 ?_
      rw [h2]
      cases chrs s <;> rfl
theorem lbName_ (s : ByteArray) : F_spec_lbName s = some (nmB s) := by
  unfold nmB
  refine bnd (a := rng (s.size : Int) 1 8 && (lowB (bt s 0) && (chrs s && !decide (s ∈ words)))) (bnd (lbWord_ s) ?_) rfl
  cases rng (s.size : Int) 1 8 <;> cases lowB (bt s 0) <;> cases chrs s <;> try rfl
  exact cTW rfl (bnd (a := words) rfl (bnd (l1HasS_ _ _) rfl))
theorem kindOf_ (s : ByteArray) (h : 1 ≤ s.size) : ∃ k, F_impl_kindOf s = some k ∧ decide (k = 17) = !decide (s ∈ words) := by
  have hw : F_impl_kindWords = some (.empty :: words) := rfl
  have hne : s ≠ .empty := by rintro rfl; exact absurd h (by decide)
  rcases forO_rel (n := (ByteArray.empty :: words).length) (s := ()) (f := fun (k6 : Nat) (_ : Unit) =>
      (idxO (ByteArray.empty :: words) ((k6 : Nat) : Int)).bind fun a36 =>
      (some (decide ((a36 : ByteArray) = s))).bind fun a38 =>
      cond a38
      (some (.inr ((k6 : Nat) : Int)))
      (some (.inl ()))) (fun j _ => ∀ i, i < j → (ByteArray.empty :: words)[i]? ≠ some s) (fun r => s ∈ words ∧ r < 17) (fun i hi => by omega) (by
      intro j u hj hall
      have hg := List.getElem?_eq_getElem hj
      by_cases h : (ByteArray.empty :: words)[j] = s
      · refine .inr ⟨((j : Nat) : Int), bnd (idxO_of hg) (stp (cTW (dT h) rfl)), ?_, ?_⟩
        · have := List.getElem_mem hj
          rw [h] at this
          rcases List.mem_cons.1 this with h | h
          · exact (hne h).elim
          · exact h
        · have : (ByteArray.empty :: words).length = 15 := rfl
          omega
      · refine .inl ⟨(), bnd (idxO_of hg) (stp (cFW (dF h) rfl)), fun i hi => ?_⟩
        by_cases hij : i = j
        · subst hij; rw [hg]; exact fun h' => h (Option.some.inj h')
        · exact hall i (by omega)) with ⟨u, h1, h2⟩ | ⟨k, h1, h2, h3⟩
  · refine ⟨17, bnd hw (sqW h1 rfl), ?_⟩
    have : s ∉ words := fun hm => by
      obtain ⟨i, hi, he⟩ := List.mem_iff_getElem.1 hm
      exact h2 (i + 1) (by simpa using hi) (by rw [List.getElem?_cons_succ, List.getElem?_eq_getElem hi, he])
    rw [dF this]; rfl
  · refine ⟨k, bnd hw (sqW h1 rfl), ?_⟩
    rw [dT h2, dF (by omega)]; rfl
theorem isLower_ (x : Int) : F_impl_isLower x = some (lowB x) := by
  unfold F_impl_isLower lowB rng
  by_cases h1 : 97 ≤ x <;> by_cases h2 : x ≤ 122 <;> simp [h1, h2]
theorem isDigit_ (x : Int) : F_impl_isDigit x = some (digB x) := by
  unfold F_impl_isDigit digB rng
  by_cases h1 : 48 ≤ x <;> by_cases h2 : x ≤ 57 <;> simp [h1, h2]
theorem isName_ (s : ByteArray) : F_impl_isName s = some (nmB s) := by
  unfold nmB
  cases hr : rng (s.size : Int) 1 8 with
  | false => exact bnd (a := true) (bnd (within_ _ _ _) (stp (by rw [hr]; rfl))) rfl
  | true =>
    have hl := rng_true.1 hr
    have h0 : strO s 0 = some (bt s 0) := strO_ (i := 0) (by omega)
    cases hb : lowB (bt s 0) with
    | false => exact bnd (a := true) (bnd (within_ _ _ _) (stp (by rw [hr]; exact cFW rfl (bnd h0 (bnd (isLower_ _) (stp (by rw [hb]; rfl))))))) rfl
    | true =>
      obtain ⟨k, k1, k2⟩ := kindOf_ s (by omega)
      cases hw : decide (s ∈ words) with
      | true =>
        rw [hw] at k2
        have : F_impl_isName s = some false := bnd (a := true) (bnd (within_ _ _ _) (stp (by rw [hr]; exact cFW rfl (bnd h0 (bnd (isLower_ _) (stp (by rw [hb]; exact cFW rfl (bnd k1 (stp (by rw [k2]; rfl)))))))))) rfl
        rw [this]; cases chrs s <;> rfl
      | false =>
        rw [hw] at k2
        refine bnd (a := false) (bnd (within_ _ _ _) (stp (by rw [hr]; exact cFW rfl (bnd h0 (bnd (isLower_ _) (stp (by rw [hb]; exact cFW rfl (bnd k1 (stp (by rw [k2]; rfl))))))))) ) (cFW rfl ?_)
        refine bnd (cI_of ⟨by omega, by omega⟩) ?_
        have loop := forO_rel (n := s.size) (s := ()) (f := fun (k52 : Nat) (_ : Unit) =>
        ((strO s ((k52 : Nat) : Int)).bind fun a130 =>
          (F_impl_isLower a130).bind fun y132 =>
          (some (!y132)).bind fun a135 =>
          cond a135
          ((strO s ((k52 : Nat) : Int)).bind fun a139 =>
            (F_impl_isDigit a139).bind fun y141 =>
            (some (!y141)).bind fun a144 =>
            some a144)
          (some false)).bind fun (s124 : Bool) =>
        cond s124
        (some (.inr false))
        (some (.inl ()))) (fun j _ => ∀ i, i < j → chrB (bt s i) = true) (fun r => r = false ∧ chrs s = false) (fun i hi => by omega) (by
          intro j u hj hall
          have hs := strO_ hj
          have hch : ((strO s ((j : Nat) : Int)).bind fun a130 =>
          (F_impl_isLower a130).bind fun y132 =>
          (some (!y132)).bind fun a135 =>
          cond a135
          ((strO s ((j : Nat) : Int)).bind fun a139 =>
            (F_impl_isDigit a139).bind fun y141 =>
            (some (!y141)).bind fun a144 =>
            some a144)
          (some false)) = some (!chrB (bt s j)) := by
            refine bnd hs (bnd (isLower_ _) (stp ?_))
            unfold chrB
            cases lowB (bt s j) with
            | true => rfl
            | false => exact cTW rfl (bnd hs (bnd (isDigit_ _) rfl))
          cases hc : chrB (bt s j) with
          | true =>
            rw [hc] at hch
            refine .inl ⟨(), bnd hch rfl, fun i hi => ?_⟩
            by_cases hij : i = j
            · subst hij; exact hc
            · exact hall i (by omega)
          | false =>
            rw [hc] at hch
            refine .inr ⟨false, bnd hch rfl, rfl, ?_⟩
            cases hq : chrs s with
            | false => rfl
            | true => have := chrs_true.1 hq j hj; rw [hc] at this; cases this)
        rw [Int.toNat_natCast]
        rcases loop with ⟨u, h1, h2⟩ | ⟨r, h1, rfl, h2⟩
        · refine sqW h1 ?_
          rw [chrs_true.2 h2]; rfl
        · refine sqW h1 ?_
          rw [h2]; rfl

/-! ### rules -/
theorem tmType_ (t : List Nod) : F_spec_tmType t = some (if validB t = true then ((tyT t).1, (tyT t).2, true) else (0, 0, false)) := by
  obtain ⟨x, h1, h2⟩ := lbScan_ t
  refine bnd (tmScan_eq h1) (stp ?_)
  cases hv : validB t with
  | false => rfl
  | true =>
    obtain ⟨T, w, rfl, hw, hl⟩ := validB_tree hv
    have hp := flat_pos T
    have hr := run_tree hw []
    obtain ⟨_, ⟨_, _, s3, s4, _⟩, _⟩ := h2 _ hr (rng_true.2 (by omega))
    have ht : tyT (flat T) = w := by unfold tyT; rw [hr]
    rw [ht]
    exact cFW rfl (bnd (a := (((flat T).length - 1 : Nat) : Int)) (by rw [subO_of (by omega) (by omega)]; congr 1; omega) (bnd (idxO_of s3) (bnd (idxO_of s4) rfl)))
theorem wires_ (t : List Nod) : ∃ w, F_impl_Term_wires t = some (w, validB t) ∧ (validB t = true → w = tyT t) := by
  obtain ⟨w, h1, h2⟩ := typed_ t
  exact ⟨w, bnd h1 rfl, h2⟩
theorem hgMadeV {t : List Nod} (h : validB t = true) : F_spec_hgMade t = some (wGraphOf t) ∧ F_impl_graphOf t = some (wGraphOf t) := by
  obtain ⟨T, w, rfl, h2, h3, h4⟩ := wGraphOf_eq h
  rw [h4]
  exact ⟨hgMade_ 1000000 h2 h3 (by omega), graphOf_ h2 h3⟩
abbrev Rul := ByteArray × List Nod × List Nod
def headB (r : Rul) : Bool := nmB r.1 && (validB r.2.1 && (validB r.2.2 && (decide ((tyT r.2.1).1 = (tyT r.2.2).1) && decide ((tyT r.2.1).2 = (tyT r.2.2).2))))
noncomputable def ruleB (r : Rul) : Bool := headB r && ((wGraphOf r.2.1).2 && (wGraphOf r.2.2).2)
theorem headB_true {r : Rul} (h : headB r = true) : nmB r.1 = true ∧ validB r.2.1 = true ∧ validB r.2.2 = true ∧ (tyT r.2.1).1 = (tyT r.2.2).1 ∧ (tyT r.2.1).2 = (tyT r.2.2).2 := by
  unfold headB at h
  simpa only [Bool.and_eq_true, decide_eq_true_eq] using h
theorem rwSides_ (r : Rul) : F_spec_rwSides r = some (if headB r = true then ((wGraphOf r.2.1).1, (wGraphOf r.2.2).1, (wGraphOf r.2.1).2 && (wGraphOf r.2.2).2) else (noG, noG, false)) := by
  refine bnd (tmType_ _) (bnd (tmType_ _) (bnd (a := !headB r) (bnd (lbName_ _) ?_) ?_))
  · unfold headB
    cases nmB r.1 <;> cases validB r.2.1 <;> cases validB r.2.2 <;> try rfl
    simp only [if_true, Option.bind_some, Bool.not_true, cond_false, Bool.true_and]
    by_cases h1 : (tyT r.2.1).1 = (tyT r.2.2).1
    · simp [h1]
    · simp [h1]
  · cases hh : headB r with
    | false => rfl
    | true =>
      obtain ⟨_, v1, v2, _, _⟩ := headB_true hh
      refine cFW rfl (bnd (hgMadeV v1).1 (bnd (hgMadeV v2).1 ?_))
      cases h : (wGraphOf r.2.1).2 with
      | true => rfl
      | false => rfl
theorem rwIs_ (r : Rul) : F_spec_rwIs r = some (ruleB r) := by
  refine bnd (rwSides_ r) ?_
  unfold ruleB
  cases headB r <;> rfl
theorem isRule_ (r : Rul) : F_impl_isRule r = some (ruleB r) := by
  obtain ⟨w1, a1, b1⟩ := wires_ r.2.1
  obtain ⟨w2, a2, b2⟩ := wires_ r.2.2
  refine bnd a1 (bnd a2 (bnd (a := !headB r) ?_ ?_))
  · unfold headB
    cases hv1 : validB r.2.1 with
    | false => cases nmB r.1 <;> rfl
    | true =>
      cases hv2 : validB r.2.2 with
      | false => cases nmB r.1 <;> rfl
      | true =>
        rw [b1 hv1, b2 hv2]
        refine stp (cFW rfl (stp (cFW rfl (stp ?_))))
        by_cases h1 : (tyT r.2.1).1 = (tyT r.2.2).1
        · by_cases h2 : (tyT r.2.1).2 = (tyT r.2.2).2
          · refine cFW (nT (dT (by rw [h1, h2]))) (bnd (isName_ _) (stp ?_))
            rw [h1, h2]; simp
          · refine cTW (nF (dF (by simp [h1, h2]))) ?_
            simp [h2]
        · refine cTW (nF (dF (by simp [h1]))) ?_
          simp [h1]
  · unfold ruleB
    cases hh : headB r with
    | false => rfl
    | true =>
      obtain ⟨_, v1, v2, _, _⟩ := headB_true hh
      refine cFW rfl (bnd (hgMadeV v1).2 (bnd (hgMadeV v2).2 ?_))
      cases h : (wGraphOf r.2.1).2 <;> rfl
end Go.Proofs.YteimaohaeodbkaaGreat
namespace Go.Proofs.YteimaohaeodbkaaGreat
set_option linter.unusedVariables false

abbrev TyNode := Int × Int × ByteArray
def nNode (a : TyNode) : Nat := a.2.2.size
def lensNode (a : TyNode) : Prop := (a.2.2.size : Int) ≤ 9223372036854775807
theorem z_Node (a : TyNode) (left : Int) (h0 : 0 ≤ left) (h1 : left ≤ bigN) (hl : lensNode a) : F_laws_szNode a left = some (if (nNode a : Int) ≤ left then left - nNode a else -1) := by
  unfold bigN at h1
  have l0 := hl
  unfold lensNode at l0
  unfold nNode
  refine bnd (subO_of (by omega) (by omega)) (stp ?_)
  by_cases g0 : (a.2.2.size : Int) ≤ left
  case neg =>
    rw [if_neg (by omega)]
    exact cTW (dT (by omega)) rfl
  rw [if_pos (by omega)]
  refine cFW (dF (by omega)) ?_
  congr 1; try omega
theorem niceLensNode {a : TyNode} (h : Nice.ok a) : lensNode a := by
  obtain ⟨h0, h1, h2⟩ := h
  exact h2
theorem t_Node (a : TyNode) (h : nNode a ≤ 1048576) : F_laws_toNode a = some a := by
  unfold nNode at h
  exact rfl
theorem e_Node (a : TyNode) (h : nNode a ≤ 1048576) : F_laws_eqNode a a = some true := by
  unfold nNode at h
  exact stp (cFW (nT (dT rfl)) (stp (cFW (nT (dT rfl)) (stp (cFW (nT (dT rfl)) (rfl))))))
abbrev TyNodeS := List TyNode
def nNodeS (a : TyNodeS) : Nat := a.length + tot nNode a
def lensNodeS (a : TyNodeS) : Prop := lenOk a ∧ ∀ x ∈ a, lensNode x
theorem z_NodeS (a : TyNodeS) (left : Int) (h0 : 0 ≤ left) (h1 : left ≤ bigN) (hl : lensNodeS a) : F_laws_szNodeS a left = some (if (nNodeS a : Int) ≤ left then left - nNodeS a else -1) := by
  have hl1 := hl.1; unfold lenOk at hl1; unfold bigN at h1
  unfold nNodeS
  refine bnd (subO_of (by omega) (by omega)) (stp ?_)
  by_cases h : (a.length : Int) ≤ left
  · refine cFW (dF (by omega)) (sqW (sz_loop nNode a (left - a.length) ?_ ?_ a [] _ rfl ?_ (Int.le_refl _)) ?_)
    · intro j r s hj hjl hs hsB
      dsimp only
      refine stp (cTW (dT (by omega)) (bnd (idxO_of hj) (bnd (z_Node r s hs (by unfold bigN; omega) (hl.2 r (mem_of_get hj))) (stp ?_))))
      by_cases h2 : (nNode r : Int) ≤ s
      · rw [if_pos h2, if_pos h2]; exact cFW (dF (by omega)) (bnd (addO_of (by omega) (by omega)) rfl)
      · rw [if_neg h2, if_neg h2]; exact cTW (dT (by omega)) rfl
    · intro s; dsimp only; exact stp (cFW (dF (by omega)) rfl)
    · omega
    · by_cases h2 : (tot nNode a : Int) ≤ left - a.length
      · rw [if_pos h2, if_pos (by omega), seqO_l]; congr 1; omega
      · rw [if_neg h2, if_neg (by omega), seqO_r]
  · rw [if_neg (by omega)]; exact cTW (dT (by omega)) rfl
theorem niceLensNodeS {a : TyNodeS} (h : Nice.ok a) : lensNodeS a := ⟨h.1, fun x hx => niceLensNode (h.2 x hx)⟩
theorem t_NodeS (a : TyNodeS) (h : nNodeS a ≤ 1048576) : F_laws_toNodeS a = some a := by
  have hm : maxN = 1099511627776 := rfl
  unfold nNodeS at h
  refine bnd (makeO_of _ (by omega)) (bnd (to_loop _ a ?_ ?_ a [] rfl) rfl)
  · intro j x s hj hjl hs
    dsimp only
    exact stp (cTW (dT (by omega)) (bnd (idxO_of hj) (bnd (t_Node x (by have := tot_mem (n := nNode) (mem_of_get hj); omega)) (bnd (setO_of _ (by omega)) (bnd (addO_of (by omega) (by omega)) rfl)))))
  · intro s hs; dsimp only; exact stp (cFW (dF (by omega)) rfl)
theorem e_NodeS (a : TyNodeS) (h : nNodeS a ≤ 1048576) : F_laws_eqNodeS a a = some true := by
  unfold nNodeS at h
  refine stp (cFW (nT (dT rfl)) (sqW (whileO_is (fun j => (j : Int)) (t := .inl ()) a.length ?_ ?_) ?_))
  · intro j hj
    exact stp (cTW (dT (by omega)) (bnd (idxO_of (List.getElem?_eq_getElem hj)) (bnd (idxO_of (List.getElem?_eq_getElem hj)) (bnd (e_Node a[j] (by have := tot_mem (n := nNode) (List.getElem_mem hj); omega)) (stp (cFW rfl (bnd (addO_of (by omega) (by omega)) rfl)))))))
  · exact stp (cFW (dF (by omega)) rfl)
  · rfl
def mkE_Node (x : TyNode) (q : Int) : TyNode × Int := ((q, (q + 1), mText ((q + 1) + 1)), (((q + 1) + 1) + 1))
def cE_Node (x : TyNode) : Nat := 3
theorem mkE_Node_snd (x : TyNode) (q : Int) : (mkE_Node x q).2 = q + cE_Node x := by
  unfold mkE_Node cE_Node
  dsimp only
  omega
theorem cE_Node_le (x : TyNode) : cE_Node x ≤ 8 * (1 + nNode x) := by
  unfold cE_Node nNode
  omega
def mk_NodeS : TyNodeS → Int → TyNodeS × Int := mkL mkE_Node
def cNodeS (a : TyNodeS) : Nat := tot cE_Node a
theorem cNodeS_le (a : TyNodeS) : cNodeS a ≤ 8 * nNodeS a := by
  have := totLe2 cE_Node_le a
  rw [nE_sum] at this
  exact this
theorem mk_NodeS_snd (a : TyNodeS) (k : Int) : (mk_NodeS a k).2 = k + cNodeS a := mkL_snd mkE_Node cE_Node mkE_Node_snd a k
theorem m_NodeS (a : TyNodeS) (k : Int) (h0 : 0 ≤ k) (h : k + 8 * nNodeS a ≤ 1125899906842624) : F_laws_markNodeS a k = some (mk_NodeS a k) := by
  have hsum := nE_sum nNode a
  unfold nNodeS at h
  refine bnd (mark_loop2 mkE_Node cE_Node (fun x => 8 * (1 + nNode x)) mkE_Node_snd cE_Node_le a.length 1125899906842624 ?_ ?_ a [] k (by simp) h0 (by rw [hsum]; omega)) rfl
  · intro j x s q hj hs hjl hq hB
    dsimp only at hB ⊢
    unfold nNode at hB
    refine stp (cTW (dT (by omega)) ?_)
    refine bnd (idxO_of hj) ?_
    refine bnd (setO_of _ (by omega)) ?_
    refine bnd (addO_of (by omega) (by omega)) ?_
    refine bnd (idxO_of (a := (q, x.2.1, x.2.2)) (by rw [List.getElem?_set_self (by omega)])) ?_
    refine bnd (setO_of _ (by simp only [List.length_set]; omega)) ?_
    refine bnd (addO_of (by omega) (by omega)) ?_
    refine bnd (markText_ _ (by omega) (by omega)) ?_
    refine bnd (idxO_of (a := (q, (q + 1), x.2.2)) (by rw [List.getElem?_set_self (by simp only [List.length_set]; omega)])) ?_
    refine bnd (setO_of _ (by simp only [List.length_set]; omega)) ?_
    refine bnd (addO_of (by omega) (by omega)) ?_
    refine bnd (addO_of (by omega) (by omega)) ?_
    simp only [List.set_set]; rfl
  · intro s q hs; dsimp only; exact stp (cFW (dF (by omega)) rfl)
theorem h_NodeS (a : TyNodeS) (k : Int) (h0 : 0 ≤ k) (h : k + 8 * nNodeS a ≤ 1125899906842624) : F_laws_heldNodeS (mk_NodeS a k).1 k = some (k + cNodeS a) := by
  have hsum := nE_sum nNode a
  unfold nNodeS at h
  refine sqW (held_loop2 mkE_Node cE_Node (fun x => 8 * (1 + nNode x)) mkE_Node_snd cE_Node_le (mk_NodeS a k).1 1125899906842624 ?_ ?_ a [] k rfl h0 (by rw [hsum]; omega)) ?_
  · intro j x q hj hjl hq hB
    dsimp only at hB ⊢
    unfold nNode at hB
    have hlen : (mk_NodeS a k).1.length = a.length := mkL_len mkE_Node a k
    refine stp (cTW (dT (by omega)) ?_)
    refine bnd (idxO_of hj) ?_
    refine stp (cFW (nT (dT (by rfl))) ?_)
    refine bnd (addO_of (by omega) (by omega)) ?_
    refine bnd (idxO_of hj) ?_
    refine stp (cFW (nT (dT (by rfl))) ?_)
    refine bnd (addO_of (by omega) (by omega)) ?_
    refine bnd (idxO_of hj) ?_
    refine bnd (markText_ _ (by omega) (by omega)) ?_
    refine stp (cFW (nT (dT (by rfl))) ?_)
    refine bnd (addO_of (by omega) (by omega)) ?_
    refine bnd (addO_of (by omega) (by omega)) ?_
    refine congrArg some (congrArg Sum.inl (Prod.ext ?_ rfl))
    unfold cE_Node; dsimp only; push_cast; omega
  · intro q; dsimp only; exact stp (cFW (dF (by omega)) rfl)
  · rfl
abbrev TyTerm := List (Int × Int × ByteArray)
def nTerm (a : TyTerm) : Nat := nNodeS a
def lensTerm (a : TyTerm) : Prop := lensNodeS a
theorem z_Term (a : TyTerm) (left : Int) (h0 : 0 ≤ left) (h1 : left ≤ bigN) (hl : lensTerm a) : F_laws_szTerm a left = some (if (nTerm a : Int) ≤ left then left - nTerm a else -1) := by
  unfold bigN at h1
  have l0 := hl
  unfold lensTerm at l0
  unfold nTerm
  refine bnd (z_NodeS a (left) (by omega) (by unfold bigN; omega) l0) (stp ?_)
  by_cases g0 : (nNodeS a : Int) ≤ left
  case neg =>
    rw [if_neg g0]; try rw [if_neg (by omega)]
    exact cTW (dT (by omega)) rfl
  rw [if_pos g0]
  try rw [if_pos (by omega)]
  refine cFW (dF (by omega)) ?_
  congr 1; try omega
theorem niceLensTerm {a : TyTerm} (h : Nice.ok a) : lensTerm a := by
  have h0 := h
  exact niceLensNodeS h0
theorem t_Term (a : TyTerm) (h : nTerm a ≤ 1048576) : F_laws_toTerm a = some a := by
  unfold nTerm at h
  exact bnd (t_NodeS a (by omega)) (rfl)
theorem e_Term (a : TyTerm) (h : nTerm a ≤ 1048576) : F_laws_eqTerm a a = some true := by
  unfold nTerm at h
  exact bnd (e_NodeS a (by omega)) (stp (cFW rfl (rfl)))
def mk_Term (a : TyTerm) (k : Int) : TyTerm × Int := ((mk_NodeS a k).1, (mk_NodeS a k).2)
def cTerm (a : TyTerm) : Nat := cNodeS a
theorem cTerm_le (a : TyTerm) : cTerm a ≤ 8 * nTerm a := by
  unfold cTerm nTerm
  have hc0 := cNodeS_le a
  omega
theorem mk_Term_snd (a : TyTerm) (k : Int) : (mk_Term a k).2 = k + cTerm a := by
  unfold mk_Term cTerm
  simp only [mk_NodeS_snd]
  try omega
theorem m_Term (a : TyTerm) (k : Int) (h0 : 0 ≤ k) (h : k + 8 * nTerm a ≤ 1125899906842624) : F_laws_markTerm a k = some (mk_Term a k) := by
  unfold nTerm at h
  have hc0 := cNodeS_le a
  exact bnd (m_NodeS _ _ h0 (by omega)) (rfl)
theorem h_Term (a : TyTerm) (k : Int) (h0 : 0 ≤ k) (h : k + 8 * nTerm a ≤ 1125899906842624) : F_laws_heldTerm (mk_Term a k).1 k = some (k + cTerm a) := by
  unfold nTerm at h
  have hc0 := cNodeS_le a
  have e0 : F_laws_heldNodeS (mk_NodeS a k).1 k = some (k + cNodeS a) := h_NodeS _ _ h0 (by omega)
  unfold cTerm mk_Term
  refine bnd e0 (stp (cFW (dF (by omega)) ?_))
  refine congrArg some ?_
  try simp only [mk_NodeS_snd]
  try omega
end Go.Proofs.YteimaohaeodbkaaGreat
namespace Go.Proofs.YteimaohaeodbkaaGreat
set_option linter.unusedVariables false

abbrev TyRule := ByteArray × (List (Int × Int × ByteArray)) × (List (Int × Int × ByteArray))
def nRule (a : TyRule) : Nat := a.1.size + nTerm a.2.1 + nTerm a.2.2
def lensRule (a : TyRule) : Prop := (a.1.size : Int) ≤ 9223372036854775807 ∧ lensTerm a.2.1 ∧ lensTerm a.2.2
theorem z_Rule (a : TyRule) (left : Int) (h0 : 0 ≤ left) (h1 : left ≤ bigN) (hl : lensRule a) : F_laws_szRule a left = some (if (nRule a : Int) ≤ left then left - nRule a else -1) := by
  unfold bigN at h1
  obtain ⟨l0, l1, l2⟩ := hl
  unfold nRule
  refine bnd (subO_of (by omega) (by omega)) (stp ?_)
  by_cases g0 : (a.1.size : Int) ≤ left
  case neg =>
    rw [if_neg (by omega)]
    exact cTW (dT (by omega)) rfl
  refine cFW (dF (by omega)) ?_
  refine bnd (z_Term a.2.1 (left - a.1.size) (by omega) (by unfold bigN; omega) l1) (stp ?_)
  by_cases g1 : (nTerm a.2.1 : Int) ≤ left - a.1.size
  case neg =>
    rw [if_neg g1]; try rw [if_neg (by omega)]
    exact cTW (dT (by omega)) rfl
  rw [if_pos g1]
  refine cFW (dF (by omega)) ?_
  refine bnd (z_Term a.2.2 (left - a.1.size - nTerm a.2.1) (by omega) (by unfold bigN; omega) l2) (stp ?_)
  by_cases g2 : (nTerm a.2.2 : Int) ≤ left - a.1.size - nTerm a.2.1
  case neg =>
    rw [if_neg g2]; try rw [if_neg (by omega)]
    exact cTW (dT (by omega)) rfl
  rw [if_pos g2]
  try rw [if_pos (by omega)]
  refine cFW (dF (by omega)) ?_
  congr 1; try omega
theorem niceLensRule {a : TyRule} (h : Nice.ok a) : lensRule a := by
  obtain ⟨h0, h1, h2⟩ := h
  exact ⟨h0, niceLensTerm h1, niceLensTerm h2⟩
theorem t_Rule (a : TyRule) (h : nRule a ≤ 1048576) : F_laws_toRule a = some a := by
  unfold nRule at h
  exact bnd (t_Term a.2.1 (by omega)) (bnd (t_Term a.2.2 (by omega)) (rfl))
theorem e_Rule (a : TyRule) (h : nRule a ≤ 1048576) : F_laws_eqRule a a = some true := by
  unfold nRule at h
  exact stp (cFW (nT (dT rfl)) (bnd (e_Term a.2.1 (by omega)) (stp (cFW rfl (bnd (e_Term a.2.2 (by omega)) (stp (cFW rfl (rfl))))))))
def mk_Rule (a : TyRule) (k : Int) : TyRule × Int := ((a.1, (mk_Term a.2.1 k).1, (mk_Term a.2.2 (mk_Term a.2.1 k).2).1), (mk_Term a.2.2 (mk_Term a.2.1 k).2).2)
def cRule (a : TyRule) : Nat := cTerm a.2.1 + cTerm a.2.2
theorem cRule_le (a : TyRule) : cRule a ≤ 8 * nRule a := by
  unfold cRule nRule
  have hc1 := cTerm_le a.2.1
  have hc2 := cTerm_le a.2.2
  omega
theorem mk_Rule_snd (a : TyRule) (k : Int) : (mk_Rule a k).2 = k + cRule a := by
  unfold mk_Rule cRule
  simp only [mk_Term_snd]
  try omega
theorem m_Rule (a : TyRule) (k : Int) (h0 : 0 ≤ k) (h : k + 8 * nRule a ≤ 1125899906842624) : F_laws_markRule a k = some (mk_Rule a k) := by
  unfold nRule at h
  have hc1 := cTerm_le a.2.1
  have hc2 := cTerm_le a.2.2
  exact bnd (m_Term _ _ h0 (by omega)) (bnd (m_Term _ _ (by simp only [mk_Term_snd]; omega) (by simp only [mk_Term_snd]; omega)) (rfl))
theorem h_Rule (a : TyRule) (k : Int) (h0 : 0 ≤ k) (h : k + 8 * nRule a ≤ 1125899906842624) : F_laws_heldRule (mk_Rule a k).1 k = some (k + cRule a) := by
  unfold nRule at h
  have hc1 := cTerm_le a.2.1
  have hc2 := cTerm_le a.2.2
  have e0 : F_laws_heldTerm (mk_Term a.2.1 k).1 k = some (k + cTerm a.2.1) := h_Term _ _ h0 (by omega)
  have e1 : F_laws_heldTerm (mk_Term a.2.2 (mk_Term a.2.1 k).2).1 (mk_Term a.2.1 k).2 = some ((mk_Term a.2.1 k).2 + cTerm a.2.2) := h_Term _ _ (by simp only [mk_Term_snd]; omega) (by simp only [mk_Term_snd]; omega)
  simp only [mk_Term_snd] at e1
  unfold cRule mk_Rule
  refine bnd e0 (stp (cFW (dF (by omega)) ?_))
  refine bnd (by simp only [mk_Term_snd]; exact e1) (stp (cFW (dF (by omega)) ?_))
  refine congrArg some ?_
  try simp only [mk_Term_snd]
  try omega
end Go.Proofs.YteimaohaeodbkaaGreat
namespace Go.Proofs.YteimaohaeodbkaaGreat
end Go.Proofs.YteimaohaeodbkaaGreat
namespace Go.Proofs.YteimaohaeodbkaaGreat

end Go.Proofs.YteimaohaeodbkaaGreat
namespace Go.Proofs.YteimaohaeodbkaaGreat

abbrev Rows := List (List Int)

/-! ### one row -/

/-! ### the reference's and the program's steps -/
end Go.Proofs.YteimaohaeodbkaaGreat
namespace Go.Proofs.YteimaohaeodbkaaGreat

/-! ### lists changed at every place -/

/-! ### the steps -/

/-! ### the reference -/
end Go.Proofs.YteimaohaeodbkaaGreat
namespace Go.Proofs.YteimaohaeodbkaaGreat

/-! ### the whole -/
end Go.Proofs.YteimaohaeodbkaaGreat
namespace Go.Proofs.YteimaohaeodbkaaGreat

/-! ### leads -/

/-! ### rows by their elements -/

/-! ### reduced lists -/

/-! ### valid spaces -/
end Go.Proofs.YteimaohaeodbkaaGreat
namespace Go.Proofs.YteimaohaeodbkaaGreat

/-! ### sums -/

/-! ### combinations -/

/-! ### coordinates -/

/-! ### has a vector -/

/-! ### relations -/

/-! ### the first choice -/
end Go.Proofs.YteimaohaeodbkaaGreat
namespace Go.Proofs.YteimaohaeodbkaaGreat
set_option linter.unusedVariables false

/-! ### sums -/

/-! ### spans -/

/-! ### a step of the reduction -/

/-! ### independent rows -/

/-! ### reduced lists are determined -/
end Go.Proofs.YteimaohaeodbkaaGreat
namespace Go.Proofs.YteimaohaeodbkaaGreat

/-! ### lists of matrices in the law -/

/-! ### matrices and responses -/
end Go.Proofs.YteimaohaeodbkaaGreat
namespace Go.Proofs.YteimaohaeodbkaaGreat

end Go.Proofs.YteimaohaeodbkaaGreat
namespace Go.Proofs.YteimaohaeodbkaaGreat

end Go.Proofs.YteimaohaeodbkaaGreat
namespace Go.Proofs.YteimaohaeodbkaaGreat

end Go.Proofs.YteimaohaeodbkaaGreat
namespace Go.Proofs.YteimaohaeodbkaaGreat
set_option linter.unusedVariables false

/-! ### rows after rows -/

/-! ### the states that are reached -/
section
variable {p : Int} {n : Nat} {A B : Rows}
end

/-! ### realizations -/
end Go.Proofs.YteimaohaeodbkaaGreat
namespace Go.Proofs.YteimaohaeodbkaaGreat

/-! ### inclusion -/

/-! ### ports that are never inputs -/
end Go.Proofs.YteimaohaeodbkaaGreat
namespace Go.Proofs.YteimaohaeodbkaaGreat
set_option linter.unusedVariables false

/-! ### identity matrices -/

/-! ### linear equations -/
end Go.Proofs.YteimaohaeodbkaaGreat
namespace Go.Proofs.YteimaohaeodbkaaGreat
set_option linter.unusedVariables false

/-! ### lists of ports -/

/-! ### the other ports -/

/-! ### rows at ports -/

/-! ### ports that are always inputs -/
end Go.Proofs.YteimaohaeodbkaaGreat
namespace Go.Proofs.YteimaohaeodbkaaGreat
set_option linter.unusedVariables false

/-! ### rows beside rows -/

/-! ### choices -/
end Go.Proofs.YteimaohaeodbkaaGreat
namespace Go.Proofs.YteimaohaeodbkaaGreat
set_option linter.unusedVariables false

/-! ### sums and functionals -/

/-! ### by the steps of a reduction -/
end Go.Proofs.YteimaohaeodbkaaGreat
namespace Go.Proofs.YteimaohaeodbkaaGreat
set_option linter.unusedVariables false

/-! ### by the leading indices -/
end Go.Proofs.YteimaohaeodbkaaGreat
namespace Go.Proofs.YteimaohaeodbkaaGreat
set_option linter.unusedVariables false

/-! ### rows and columns exchanged -/

/-! ### products with zero -/

/-! ### the states that are hidden -/
section
variable {p : Int} {n o : Nat} {A C : Rows}
end
section
variable {p : Int} {n : Nat} {A B : Rows}
end
section
variable {p : Int} {n o : Nat} {A C : Rows}
end
end Go.Proofs.YteimaohaeodbkaaGreat
namespace Go.Proofs.YteimaohaeodbkaaGreat

/-! ### composition -/
end Go.Proofs.YteimaohaeodbkaaGreat
namespace Go.Proofs.YteimaohaeodbkaaGreat

end Go.Proofs.YteimaohaeodbkaaGreat
namespace Go.Proofs.YteimaohaeodbkaaGreat

/-! ### spans of chosen columns -/

/-! ### the relation of a leaf -/
end Go.Proofs.YteimaohaeodbkaaGreat
namespace Go.Proofs.YteimaohaeodbkaaGreat
section
variable {p v : Int} (hp : 2 ≤ p ∧ p ≤ 97) (hv : 0 ≤ v ∧ v < p)
include hp
include hv
end

/-! ### a generator's relation, the reference's way -/
end Go.Proofs.YteimaohaeodbkaaGreat
namespace Go.Proofs.YteimaohaeodbkaaGreat

/-! ### crossings and identities -/
end Go.Proofs.YteimaohaeodbkaaGreat
namespace Go.Proofs.YteimaohaeodbkaaGreat
end Go.Proofs.YteimaohaeodbkaaGreat
namespace Go.Proofs.YteimaohaeodbkaaGreat
theorem forS_step1 {σ : Type} {f : Nat → σ → Option σ} {n k : Nat} {s s' : σ} (h : f k s = some s') : forS f (n + 1) k s = forS f n (k + 1) s' := by
  show (f k s).bind _ = _
  rw [h]; rfl

/-! ### the reference's loop -/
end Go.Proofs.YteimaohaeodbkaaGreat
