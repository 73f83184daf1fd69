/-
  Plain laws: terms as trees; what a valid term is (the reference's test and the program's). No program in sight. No condition.
-/
import Derived.Test.YtmchibapkddniaaGreatZText
namespace Go.Proofs.YtmchibapkddniaaGreat

abbrev Nod := Int × Int × ByteArray
inductive Tr where
  | leaf (n : Nod)
  | node (k : Int) (a b : Tr)
def flat : Tr → List Nod
  | .leaf n => [n]
  | .node k a b => flat a ++ flat b ++ [(k, 0, .empty)]
theorem flat_pos : ∀ T : Tr, 0 < (flat T).length
  | .leaf _ => by simp [flat]
  | .node _ _ _ => by simp [flat]; omega
/-- the leaves -/
def lfB (n : Nod) : Bool := decide (n.2.2 = .empty) && (rng n.1 1 14 && (if n.1 = 1 then rng n.2.1 0 12 else if n.1 = 7 ∨ n.1 = 13 then rng n.2.1 0 96 else decide (n.2.1 = 0)))
def lfT (n : Nod) : Int × Int := if n.1 = 1 then (n.2.1, n.2.1) else kd n.1
def jn (k : Int) (x y : Int × Int) : Option (Int × Int) := if k = 15 then (if x.2 = y.1 then some (x.1, y.2) else none) else if x.1 + y.1 ≤ 12 ∧ x.2 + y.2 ≤ 12 then some (x.1 + y.1, x.2 + y.2) else none
abbrev Stk := List (Tr × (Int × Int))
def stepT (S : Stk) (n : Nod) : Option Stk :=
  if n.1 = 15 ∨ n.1 = 16 then
    if n.2.1 = 0 ∧ n.2.2 = .empty then match S with
      | (b, y) :: (a, x) :: S' => (jn n.1 x y).map fun w => (.node n.1 a b, w) :: S'
      | _ => none
    else none
  else if lfB n = true then some ((.leaf n, lfT n) :: S) else none
def runT : List Nod → Stk → Option Stk
  | [], S => some S
  | n :: t, S => (stepT S n).bind fun S' => runT t S'
theorem runT_app : ∀ (a b : List Nod) (S : Stk), runT (a ++ b) S = (runT a S).bind fun S' => runT b S'
  | [], b, S => rfl
  | n :: a, b, S => by
    show (stepT S n).bind _ = ((stepT S n).bind _).bind _
    cases stepT S n with
    | none => rfl
    | some S' => exact runT_app a b S'
theorem runT_take {t : List Nod} {j : Nat} (hj : j < t.length) {S : Stk} (h : runT (t.take j) [] = some S) : runT (t.take (j + 1)) [] = stepT S t[j] := by
  rw [List.take_add_one, List.getElem?_eq_getElem hj, runT_app, h]
  show (stepT S t[j]).bind _ = _
  cases stepT S t[j] <;> rfl
theorem runT_none {t : List Nod} {j : Nat} (h : runT (t.take j) [] = none) : runT t [] = none := by
  have : t = t.take j ++ t.drop j := (List.take_append_drop _ _).symm
  rw [this, runT_app, h]; rfl
def validB (t : List Nod) : Bool := rng t.length 1 400 && (match runT t [] with | some [_] => true | _ => false)
/-- what holds of all trees on the stack -/
def wOk2 (w : Int × Int) : Prop := 0 ≤ w.1 ∧ w.1 ≤ 12 ∧ 0 ≤ w.2 ∧ w.2 ≤ 12
theorem lfT_ok {n : Nod} (h : lfB n = true) : wOk2 (lfT n) := by
  unfold lfB at h
  simp only [Bool.and_eq_true, decide_eq_true_eq] at h
  unfold lfT
  by_cases h1 : n.1 = 1
  · rw [if_pos h1]
    rw [if_pos h1] at h
    have := rng_true.1 h.2.2
    exact ⟨this.1, this.2, this.1, this.2⟩
  · rw [if_neg h1]
    have := kd_le n.1
    exact ⟨by omega, by omega, by omega, by omega⟩
theorem jn_ok {k : Int} {x y w : Int × Int} (hx : wOk2 x) (hy : wOk2 y) (h : jn k x y = some w) : wOk2 w := by
  obtain ⟨a1, a2, a3, a4⟩ := hx
  obtain ⟨b1, b2, b3, b4⟩ := hy
  unfold jn at h
  split at h
  · split at h
    · obtain rfl := Option.some.inj h; exact ⟨a1, a2, b3, b4⟩
    · cases h
  · split at h
    · obtain rfl := Option.some.inj h
      exact ⟨by dsimp only; omega, by dsimp only; omega, by dsimp only; omega, by dsimp only; omega⟩
    · cases h
def stkOk (S : Stk) : Prop := ∀ p ∈ S, wOk2 p.2
theorem stepT_ok {S S' : Stk} {n : Nod} (hS : stkOk S) (h : stepT S n = some S') : stkOk S' := by
  unfold stepT at h
  split at h
  · split at h
    · split at h
      · rename_i b y a x S0
        obtain ⟨w, hw, rfl⟩ := Option.map_eq_some_iff.1 h
        intro p hp
        rcases List.mem_cons.1 hp with rfl | hp
        · exact jn_ok (hS (a, x) (by simp)) (hS (b, y) (by simp)) hw
        · exact hS p (by simp [hp])
      · cases h
    · cases h
  · split at h
    · obtain rfl := Option.some.inj h
      intro p hp
      rcases List.mem_cons.1 hp with rfl | hp
      · exact lfT_ok ‹_›
      · exact hS p hp
    · cases h
theorem runT_ok : ∀ (t : List Nod) (S S' : Stk), stkOk S → runT t S = some S' → stkOk S'
  | [], S, S', hS, h => by obtain rfl := Option.some.inj h; exact hS
  | n :: t, S, S', hS, h => by
    obtain ⟨S1, h1, h2⟩ := bindS h
    exact runT_ok t S1 S' (stepT_ok hS h1) h2
/-- the nodes of the stack's trees are what has been read -/
def stkN (S : Stk) : List Nod := (S.reverse.map fun p => flat p.1).flatten
theorem stepT_flat {S S' : Stk} {n : Nod} (h : stepT S n = some S') : stkN S' = stkN S ++ [n] := by
  unfold stepT at h
  split at h
  · split at h
    · rename_i h0
      split at h
      · rename_i b y a x S0
        obtain ⟨w, hw, rfl⟩ := Option.map_eq_some_iff.1 h
        unfold stkN
        obtain ⟨k, v, s⟩ := n
        obtain ⟨rfl, rfl⟩ := h0
        simp [flat, List.append_assoc]
      · cases h
    · cases h
  · split at h
    · obtain rfl := Option.some.inj h
      unfold stkN
      simp [flat]
    · cases h
theorem runT_flat : ∀ (t : List Nod) (S S' : Stk), runT t S = some S' → stkN S' = stkN S ++ t
  | [], S, S', h => by obtain rfl := Option.some.inj h; simp
  | n :: t, S, S', h => by
    obtain ⟨S1, h1, h2⟩ := bindS h
    rw [runT_flat t S1 S' h2, stepT_flat h1, List.append_assoc]; rfl

/-! ### leaves in both -/
theorem tmLeaf_ (n : Nod) : F_spec_tmLeaf n = some (lfB n) := by
  obtain ⟨k, v, s⟩ := n
  unfold F_spec_tmLeaf lfB
  by_cases hs : s = .empty
  case neg => simp [hs]
  cases hr : rng k 1 14 with
  | false => simp [hs, l1In, hr]
  | true =>
    by_cases h1 : k = 1
    · subst h1; simp [hs, l1In, hr]
    by_cases h7 : k = 7
    · subst h7; simp [hs, l1In, hr]
    by_cases h13 : k = 13
    · subst h13; simp [hs, l1In, hr]
    simp [hs, l1In, hr, h1, h7, h13]
theorem tmArity_ (n : Nod) : F_spec_tmArity n = some (lfT n) := by
  obtain ⟨k, v, s⟩ := n
  unfold F_spec_tmArity lfT
  by_cases h1 : k = 1
  · simp [h1]
  · simp [h1, tmKind_]
theorem leafWires_ (n : Nod) : ∃ w, F_impl_leafWires n = some (w, lfB n) ∧ (lfB n = true → w = lfT n) := by
  obtain ⟨k, v, s⟩ := n
  by_cases hs : s = .empty
  case neg =>
    refine ⟨(0, 0), ?_, fun h => ?_⟩
    · unfold F_impl_leafWires lfB; simp [hs]
    · unfold lfB at h; simp [hs] at h
  by_cases h1 : k = 1
  · subst h1
    refine ⟨(v, v), ?_, fun _ => rfl⟩
    have hr : rng 1 1 14 = true := by decide
    unfold F_impl_leafWires lfB; simp [hs, within_, hr]
  by_cases h2 : k = 2
  · subst h2
    refine ⟨(2, 2), ?_, fun _ => rfl⟩
    have hr : rng 2 1 14 = true := by decide
    unfold F_impl_leafWires lfB; simp [hs, hr]
  cases hg : rng k 3 14 with
  | false =>
    have hr : rng k 1 14 = false := by
      cases hr : rng k 1 14 with
      | false => rfl
      | true =>
        have := rng_true.1 hr
        have : rng k 3 14 = true := rng_true.2 (by omega)
        rw [this] at hg; cases hg
    refine ⟨(0, 0), ?_, fun h => ?_⟩
    · unfold F_impl_leafWires lfB F_impl_isGenerator; simp [hs, h1, h2, within_, hg, hr]
    · unfold lfB at h; simp [hr] at h
  | true =>
    have hb := rng_true.1 hg
    have hr : rng k 1 14 = true := rng_true.2 (by omega)
    refine ⟨kd k, ?_, fun _ => by unfold lfT; rw [if_neg h1]⟩
    have hgen : genB k v = (if k = 7 ∨ k = 13 then rng v 0 96 else decide (v = 0)) := by unfold genB; rw [hg, Bool.true_and]
    unfold F_impl_leafWires lfB F_impl_isGenerator
    simp only [hs, h1, h2, within_, hg, hr, generatorWires_ hg, isGeneratorValue_ hg, hgen, decide_true, decide_false, Bool.not_true, cond_false, cond_true, Option.bind_some, Bool.true_and, if_false]
theorem joinWires_ {k : Int} {x y : Int × Int} (hx : wOk2 x) (hy : wOk2 y) : ∃ w, F_impl_joinWires k x y = some (w, (jn k x y).isSome) ∧ ∀ z, jn k x y = some z → w = z := by
  obtain ⟨x1, x2⟩ := x
  obtain ⟨y1, y2⟩ := y
  obtain ⟨a1, a2, a3, a4⟩ := hx
  obtain ⟨b1, b2, b3, b4⟩ := hy
  dsimp only at a1 a2 a3 a4 b1 b2 b3 b4
  by_cases hk : k = 15
  · refine ⟨(x1, y2), ?_, fun z hz => ?_⟩
    · unfold F_impl_joinWires jn
      by_cases h : x2 = y1
      · simp [hk, h]
      · simp [hk, h]
    · unfold jn at hz
      rw [if_pos hk] at hz
      split at hz
      · exact Option.some.inj hz
      · cases hz
  · refine ⟨(x1 + y1, x2 + y2), ?_, fun z hz => ?_⟩
    · have s1 : addO x1 y1 = some (x1 + y1) := addO_of (by omega) (by omega)
      have s2 : addO x2 y2 = some (x2 + y2) := addO_of (by omega) (by omega)
      unfold F_impl_joinWires jn F_impl_wires_fit
      by_cases h1 : x1 + y1 ≤ 12
      · by_cases h2 : x2 + y2 ≤ 12
        · simp [hk, s1, s2, h1, h2]
        · simp [hk, s1, s2, h1, h2]
      · simp [hk, s1, s2, h1]
    · unfold jn at hz
      rw [if_neg hk] at hz
      split at hz
      · exact Option.some.inj hz
      · cases hz

/-! ### the program's test -/
def tysR (S : Stk) : List (Int × Int) := (S.map fun p => p.2).reverse
/-- the type of a valid term -/
def tyT (t : List Nod) : Int × Int := match runT t [] with | some [(_, w)] => w | _ => (0, 0)
theorem typed_ (t : List Nod) : ∃ w, F_impl_typed_impl_leafWires t = some (w, validB t) ∧ (validB t = true → w = tyT t) := by
  have hm : maxN = 1099511627776 := rfl
  cases hr : rng t.length 1 400 with
  | false =>
    have hv : validB t = false := by unfold validB; rw [hr]; rfl
    refine ⟨(0, 0), bnd (within_ _ _ _) (stp ?_), fun h => by rw [hv] at h; cases h⟩
    rw [hv, hr]; rfl
  | true =>
    have hl := rng_true.1 hr
    have loop := forO_rel (n := t.length) (s := ([] : List (Int × Int))) (f := fun (k14 : Nat) (s884 : List (Int × Int)) =>
        seqO ((idxO t ((k14 : Nat) : Int)).bind fun a1117 =>
          ((some (!decide (a1117.1 = 15))).bind fun a1137 =>
            cond a1137
            ((some (!decide (a1117.1 = 16))).bind fun a1141 =>
              some a1141)
            (some false)).bind fun (s1131 : Bool) =>
          cond s1131
          ((F_impl_leafWires (a1117.1, a1117.2.1, a1117.2.2)).bind fun y1302 =>
            (some (!y1302.2)).bind fun a1309 =>
            cond a1309
            (some (.inr (.inr ((0, 0), false))))
            ((appO s884 [(y1302.1.1, y1302.1.2)]).bind fun a1318 =>
              some (.inl a1318)))
          (((some (!decide (a1117.2.1 = 0))).bind fun a1162 =>
              cond a1162
              (some true)
              ((some (!decide ((a1117.2.2 : ByteArray) = .empty))).bind fun a1165 =>
                cond a1165
                (some true)
                ((some (decide (((s884.length : Nat) : Int) < 2))).bind fun a1168 =>
                  some a1168))).bind fun (s1156 : Bool) =>
            cond s1156
            (some (.inr (.inr ((0, 0), false))))
            ((subO ((s884.length : Nat) : Int) 1).bind fun a1175 =>
              ((subO a1175 1).bind fun a1228 =>
                (idxO s884 a1228).bind fun a1236 =>
                (idxO s884 a1175).bind fun a1245 =>
                (F_impl_joinWires a1117.1 (a1236.1, a1236.2) (a1245.1, a1245.2)).bind fun y1255 =>
                some (y1255.1.1, y1255.1.2, y1255.2)).bind fun (s1220 : Int × Int × Bool) =>
              (some (!s1220.2.2)).bind fun a1272 =>
              cond a1272
              (some (.inr (.inr ((0, 0), false))))
              ((subO a1175 1).bind fun a1276 =>
                (sliceO s884 0 a1276).bind fun a1278 =>
                (appO a1278 [(s1220.1, s1220.2.1)]).bind fun a1288 =>
                some (.inl a1288))))) fun (s1104 : List (Int × Int)) =>
        some (.inl s1104)) (fun j s => ∃ S, runT (t.take j) [] = some S ∧ s = tysR S ∧ S.length ≤ j) (fun r => r = (((0 : Int), (0 : Int)), false) ∧ runT t [] = none) ⟨[], rfl, rfl, Nat.le_refl _⟩ (by
      rintro j s hj ⟨S, h1, rfl, h3⟩
      have hS := runT_ok _ _ _ (fun p hp => by cases hp) h1
      have hstep := runT_take hj h1
      have hlen : (tysR S).length = S.length := by unfold tysR; simp
      -- the two ends of a round
      have bad : stepT S t[j] = none → runT t [] = none := fun hn => runT_none (hstep.trans hn)
      have hi := idxO_of (List.getElem?_eq_getElem hj)
      generalize t[j] = n at hstep bad hi
      obtain ⟨k, v, u⟩ := n
      by_cases hk : k = 15 ∨ k = 16
      · have hc : ((some (!decide (k = 15))).bind fun a1137 => cond a1137 ((some (!decide (k = 16))).bind fun a1141 => some a1141) (some false)) = some false := by
          rcases hk with rfl | rfl <;> rfl
        have hst : stepT S (k, v, u) = if v = 0 ∧ u = .empty then (match S with
            | (b, y) :: (a, x) :: S' => (jn k x y).map fun w => (.node k a b, w) :: S'
            | _ => none) else none := by unfold stepT; rw [if_pos hk]
        by_cases hv : v = 0
        case neg =>
          have hn : stepT S (k, v, u) = none := by rw [hst, if_neg (fun h => hv h.1)]
          exact .inr ⟨_, sqW (bnd hi (bnd hc (cFW rfl (bnd (a := true) (stp (cTW (nF (dF hv)) rfl)) rfl)))) rfl, rfl, bad hn⟩
        by_cases hu : u = .empty
        case neg =>
          have hn : stepT S (k, v, u) = none := by rw [hst, if_neg (fun h => hu h.2)]
          exact .inr ⟨_, sqW (bnd hi (bnd hc (cFW rfl (bnd (a := true) (stp (cFW (nT (dT hv)) (stp (cTW (nF (dF hu)) rfl)))) rfl)))) rfl, rfl, bad hn⟩
        rw [if_pos ⟨hv, hu⟩] at hst
        by_cases h2 : S.length < 2
        · have hn : stepT S (k, v, u) = none := by
            rw [hst]
            match S, h2 with
            | [], _ => rfl
            | [p], _ => rfl
          refine .inr ⟨_, sqW (bnd hi (bnd hc (cFW rfl (bnd (a := true) (stp (cFW (nT (dT hv)) (stp (cFW (nT (dT hu)) (stp (congrArg some (dT ?_))))))) rfl)))) rfl, rfl, bad hn⟩
          rw [hlen]; omega
        · obtain ⟨b, y, a, x, S', rfl⟩ : ∃ b y a x S', S = (b, y) :: (a, x) :: S' := by
            match S, h2 with
            | (b, y) :: (a, x) :: S', _ => exact ⟨_, _, _, _, _, rfl⟩
            | [p], h2 => exact (h2 (by simp)).elim
            | [], h2 => exact (h2 (by simp)).elim
          have h3' : S'.length + 2 ≤ j := by simpa using h3
          have hlen' : (tysR ((b, y) :: (a, x) :: S')).length = S'.length + 2 := by simpa using hlen
          have hx := hS (a, x) (by simp)
          have hy := hS (b, y) (by simp)
          obtain ⟨w, w1, w2⟩ := joinWires_ (k := k) hx hy
          have e0 : tysR ((b, y) :: (a, x) :: S') = tysR S' ++ [x] ++ [y] := by unfold tysR; simp
          have l0 : (tysR S').length = S'.length := by unfold tysR; simp
          have i1 : idxO (tysR ((b, y) :: (a, x) :: S')) ((S'.length : Nat) : Int) = some x := by
            rw [e0, idxO_nat, ← l0, List.append_assoc, List.getElem?_append_right (Nat.le_refl _), Nat.sub_self]; rfl
          have i2 : idxO (tysR ((b, y) :: (a, x) :: S')) (((S'.length + 1 : Nat)) : Int) = some y := by
            rw [e0, idxO_nat, ← l0, List.append_assoc, List.getElem?_append_right (by omega), Nat.add_sub_cancel_left]; rfl
          have s1 : subO (((tysR ((b, y) :: (a, x) :: S')).length : Nat) : Int) 1 = some ((S'.length + 1 : Nat) : Int) := by
            rw [hlen', subO_of (by omega) (by omega)]; congr 1; omega
          have s2 : subO ((S'.length + 1 : Nat) : Int) 1 = some ((S'.length : Nat) : Int) := by
            rw [subO_of (by omega) (by omega)]; congr 1; omega
          have sl : sliceO (tysR ((b, y) :: (a, x) :: S')) 0 ((S'.length : Nat) : Int) = some (tysR S') := by
            unfold sliceO; rw [if_pos ⟨by omega, by omega, by rw [hlen']; omega⟩, e0]
            simp [← l0, List.append_assoc]
          have hpre : ∀ {α : Type} {r : Option α} {K : Bool → Option α}, K false = r → (((some (!decide (v = 0))).bind fun a1162 =>
            cond a1162
            (some true)
            ((some (!decide ((u : ByteArray) = .empty))).bind fun a1165 =>
              cond a1165
              (some true)
              ((some (decide ((((tysR ((b, y) :: (a, x) :: S')).length : Nat) : Int) < 2))).bind fun a1168 =>
                some a1168))).bind K) = r := fun h => bnd (a := false) (stp (cFW (nT (dT hv)) (stp (cFW (nT (dT hu)) (stp (congrArg some (dF (by rw [hlen']; omega)))))))) h
          have hj2 : ∀ {α : Type} {r : Option α} {K : Int × Int × Bool → Option α}, K (w.1, w.2, (jn k x y).isSome) = r → (((subO ((S'.length + 1 : Nat) : Int) 1).bind fun a1228 =>
              (idxO (tysR ((b, y) :: (a, x) :: S')) a1228).bind fun a1236 =>
              (idxO (tysR ((b, y) :: (a, x) :: S')) ((S'.length + 1 : Nat) : Int)).bind fun a1245 =>
              (F_impl_joinWires k (a1236.1, a1236.2) (a1245.1, a1245.2)).bind fun y1255 =>
              some (y1255.1.1, y1255.1.2, y1255.2)).bind K) = r := fun h => bnd (bnd s2 (bnd i1 (bnd i2 (bnd w1 rfl)))) h
          cases hjn : jn k x y with
          | none =>
            rw [hjn] at hj2
            have hn : stepT ((b, y) :: (a, x) :: S') (k, v, u) = none := by rw [hst]; simp only [hjn, Option.map_none]
            exact .inr ⟨_, sqW (bnd hi (bnd hc (cFW rfl (hpre (cFW rfl (bnd s1 (hj2 rfl))))))) rfl, rfl, bad hn⟩
          | some z =>
            rw [hjn] at hj2
            have hz := w2 z hjn
            subst hz
            have hn : stepT ((b, y) :: (a, x) :: S') (k, v, u) = some ((.node k a b, w) :: S') := by rw [hst]; simp only [hjn, Option.map_some]
            refine .inl ⟨tysR S' ++ [w], sqW (bnd hi (bnd hc (cFW rfl (hpre (cFW rfl (bnd s1 (hj2 (stp (cFW rfl (bnd s2 (bnd sl (bnd (appO_of ?_) rfl))))))))))) ) rfl, (.node k a b, w) :: S', by rw [hstep, hn], by unfold tysR; simp, by simp; omega⟩
            rw [l0]; simp; omega
      · have hc : ((some (!decide (k = 15))).bind fun a1137 => cond a1137 ((some (!decide (k = 16))).bind fun a1141 => some a1141) (some false)) = some true := by
          simp only [not_or] at hk
          simp [hk.1, hk.2]
        obtain ⟨w, w1, w2⟩ := leafWires_ (k, v, u)
        cases hb : lfB (k, v, u) with
        | false =>
          rw [hb] at w1
          have hn : stepT S (k, v, u) = none := by unfold stepT; rw [if_neg hk, if_neg (by rw [hb]; simp)]
          exact .inr ⟨_, sqW (bnd hi (bnd hc (cTW rfl (bnd w1 rfl)))) rfl, rfl, bad hn⟩
        | true =>
          rw [hb] at w1
          have hn : stepT S (k, v, u) = some ((.leaf (k, v, u), lfT (k, v, u)) :: S) := by unfold stepT; rw [if_neg hk, if_pos hb]
          refine .inl ⟨tysR S ++ [w], sqW (bnd hi (bnd hc (cTW rfl (bnd w1 (stp (cFW rfl (bnd (appO_of ?_) rfl))))))) rfl, _, by rw [hstep, hn], by rw [w2 hb]; unfold tysR; simp, by simp; omega⟩
          rw [hlen]; simp; omega)
    rcases loop with ⟨s, h1, S, h2, rfl, h4⟩ | ⟨r, h1, rfl, h2⟩
    · rw [List.take_length] at h2
      have hlen : (tysR S).length = S.length := by unfold tysR; simp
      -- the stack is not empty
      have hne : S ≠ [] := by
        rintro rfl
        have := runT_flat _ _ _ h2
        unfold stkN at this
        simp at this
        rw [this] at hl; simp at hl
      cases hS : tysR S with
      | nil => rw [hS] at hlen; exact (hne (List.eq_nil_of_length_eq_zero hlen.symm)).elim
      | cons w ws =>
        have hty : validB t = true → w = tyT t := fun hv => by
          unfold validB at hv
          unfold tyT
          rw [hr, h2] at hv
          rw [h2]
          match S, hS, hv with
          | [(T, w')], hS, _ => exact (List.cons.inj hS).1.symm
        refine ⟨w, bnd (within_ _ _ _) (stp ?_), hty⟩
        rw [hr]
        refine cFW rfl (sqW h1 ?_)
        rw [seqO_l, hS]
        refine bnd (a := w) rfl (stp (congrArg some (Prod.ext rfl ?_)))
        unfold validB
        rw [hr, h2]
        rw [← hS, hlen]
        match S with
        | [] => exact (hne rfl).elim
        | [p] => simp
        | p :: q :: S => simp; omega
    · have hv : validB t = false := by unfold validB; rw [h2, hr]; rfl
      refine ⟨(0, 0), bnd (within_ _ _ _) (stp ?_), fun h => by rw [hv] at h; cases h⟩
      rw [hr]
      refine cFW rfl (sqW h1 ?_)
      rw [seqO_r, hv]
theorem isValid_ (t : List Nod) : F_impl_Term_isValid t = some (validB t) := by
  obtain ⟨w, h, _⟩ := typed_ t
  exact bnd (bnd h rfl) rfl

/-! ### the reference's test -/
/-- what the reference's lists say of the trees on the stack -/
def ScR (x : List Int × List Int × List Int) : Nat → Stk → Prop
  | i, [] => i = 0
  | i, (T, w) :: S => (flat T).length ≤ i ∧ x.1[i - 1]? = some ((i - (flat T).length : Nat) : Int) ∧ x.2.1[i - 1]? = some w.1 ∧ x.2.2[i - 1]? = some w.2 ∧ ScR x (i - (flat T).length) S
theorem ScR.mono {x x' : List Int × List Int × List Int} : ∀ {S : Stk} {i : Nat}, ScR x i S → (∀ k, k < i → x'.1[k]? = x.1[k]? ∧ x'.2.1[k]? = x.2.1[k]? ∧ x'.2.2[k]? = x.2.2[k]?) → ScR x' i S
  | [], _, h, _ => h
  | (T, w) :: S, i, ⟨h1, h2, h3, h4, h5⟩, h => by
    have hp := flat_pos T
    obtain ⟨k1, k2, k3⟩ := h (i - 1) (by omega)
    exact ⟨h1, k1.trans h2, k2.trans h3, k3.trans h4, h5.mono (fun k hk => h k (by omega))⟩
theorem get_snoc {l : List Int} {i : Nat} (hl : l.length = i) (a : Int) : (∀ k, k < i → (l ++ [a])[k]? = l[k]?) ∧ (l ++ [a])[i]? = some a :=
  ⟨fun k hk => List.getElem?_append_left (by omega), by rw [List.getElem?_append_right (by omega), hl, Nat.sub_self]; rfl⟩
theorem ScR.push {x : List Int × List Int × List Int} {S : Stk} {i : Nat} {T : Tr} {w : Int × Int} (l1 : x.1.length = i) (l2 : x.2.1.length = i) (l3 : x.2.2.length = i) (hT : (flat T).length ≤ i + 1) (h : ScR x (i + 1 - (flat T).length) S) :
    ScR (x.1 ++ [((i + 1 - (flat T).length : Nat) : Int)], x.2.1 ++ [w.1], x.2.2 ++ [w.2]) (i + 1) ((T, w) :: S) := by
  have hp := flat_pos T
  have g1 := get_snoc l1 ((i + 1 - (flat T).length : Nat) : Int)
  have g2 := get_snoc l2 w.1
  have g3 := get_snoc l3 w.2
  refine ⟨hT, ?_, ?_, ?_, h.mono (fun k hk => ⟨g1.1 k (by omega), g2.1 k (by omega), g3.1 k (by omega)⟩)⟩
  · rw [Nat.add_sub_cancel]; exact g1.2
  · rw [Nat.add_sub_cancel]; exact g2.2
  · rw [Nat.add_sub_cancel]; exact g3.2
theorem add_of12 {a b : Int} (h1 : 0 ≤ a) (h2 : a ≤ 12) (h3 : 0 ≤ b) (h4 : b ≤ 12) : addO a b = some (a + b) := addO_of (by omega) (by omega)
theorem lbFind_nil (s : ByteArray) : F_spec_lbFind [] s = some (-1) := rfl
/-- the reference's scan, whatever it makes of the term -/
theorem lbScan_ (t : List Nod) : ∃ x, F_spec_lbScan [] t = some (x, validB t) ∧ (∀ S, runT t [] = some S → rng t.length 1 400 = true → x.1.length = t.length ∧ ScR x t.length S ∧
    ∀ S0 (p q : List Nod), t = p ++ q → runT p [] = some S0 → ScR x p.length S0) := by
  have hm : maxN = 1099511627776 := rfl
  cases hr : rng t.length 1 400 with
  | false =>
    refine ⟨([], [], []), bnd (l1In _ _ _) (stp ?_), fun _ _ h => by cases h⟩
    unfold validB
    rw [hr]; rfl
  | true =>
    have hl := rng_true.1 hr
    have loop := forO_rel (n := t.length) (s := (([] : List Int), ([] : List Int), ([] : List Int))) (f := fun (k18 : Nat) (s2156 : List Int × List Int × List Int) =>
        seqO ((idxO t ((k18 : Nat) : Int)).bind fun a2699 =>
          ((F_spec_tmLeaf (a2699.1, a2699.2.1, a2699.2.2)).bind fun y2720 =>
            cond y2720
            (some true)
            ((some (decide (a2699.1 = 17))).bind fun a2724 =>
              some a2724)).bind fun (s2714 : Bool) =>
          cond s2714
          ((F_spec_tmArity (a2699.1, a2699.2.1, a2699.2.2)).bind fun y3063 =>
            seqO ((some (decide (a2699.1 = 17))).bind fun a3127 =>
              cond a3127
              ((F_spec_lbFind [] a2699.2.2).bind fun y3131 =>
                ((some (decide (y3131 < 0))).bind fun a3146 =>
                  cond a3146
                  (some true)
                  ((some (!decide (a2699.2.1 = 0))).bind fun a3149 =>
                    some a3149)).bind fun (s3140 : Bool) =>
                cond s3140
                (some (.inr (.inr (.inr ((s2156.1, s2156.2.1, s2156.2.2), false)))))
                ((idxO ([] : List (ByteArray × Int × Int × List Nod)) y3131).bind fun a3162 =>
                  (idxO ([] : List (ByteArray × Int × Int × List Nod)) y3131).bind fun a3174 =>
                  some (.inl (a3174.2.2.1, a3162.2.1))))
              (some (.inl (y3063.2, y3063.1)))) fun (s3121 : Int × Int) =>
            (appO s2156.1 [((k18 : Nat) : Int)]).bind fun a3190 =>
            (appO s2156.2.1 [s3121.2]).bind fun a3199 =>
            (appO s2156.2.2 [s3121.1]).bind fun a3208 =>
            some (.inl (a3190, a3199, a3208)))
          (((some (!decide (a2699.1 = 15))).bind fun a2792 =>
              cond a2792
              ((some (!decide (a2699.1 = 16))).bind fun a2820 =>
                cond a2820
                (some true)
                ((some (!decide ((a2699.2.2 : ByteArray) = .empty))).bind fun a2823 =>
                  cond a2823
                  (some true)
                  ((some (!decide (a2699.2.1 = 0))).bind fun a2826 =>
                    cond a2826
                    (some true)
                    ((some (decide (((k18 : Nat) : Int) < 2))).bind fun a2829 =>
                      cond a2829
                      (some true)
                      ((subO ((k18 : Nat) : Int) 1).bind fun a2832 =>
                        (idxO s2156.1 a2832).bind fun a2840 =>
                        (some (decide (a2840 < 1))).bind fun a2842 =>
                        some a2842)))))
              ((some (!decide ((a2699.2.2 : ByteArray) = .empty))).bind fun a2795 =>
                cond a2795
                (some true)
                ((some (!decide (a2699.2.1 = 0))).bind fun a2798 =>
                  cond a2798
                  (some true)
                  ((some (decide (((k18 : Nat) : Int) < 2))).bind fun a2801 =>
                    cond a2801
                    (some true)
                    ((subO ((k18 : Nat) : Int) 1).bind fun a2804 =>
                      (idxO s2156.1 a2804).bind fun a2812 =>
                      (some (decide (a2812 < 1))).bind fun a2814 =>
                      some a2814))))).bind fun (s2786 : Bool) =>
            cond s2786
            (some (.inr (.inr ((s2156.1, s2156.2.1, s2156.2.2), false))))
            ((subO ((k18 : Nat) : Int) 1).bind fun a2851 =>
              (idxO s2156.1 a2851).bind fun a2859 =>
              (subO a2859 1).bind fun a2861 =>
              (idxO s2156.2.1 a2861).bind fun a2870 =>
              (idxO s2156.2.1 a2851).bind fun a2878 =>
              (addO a2870 a2878).bind fun a2880 =>
              (idxO s2156.2.2 a2861).bind fun a2888 =>
              (idxO s2156.2.2 a2851).bind fun a2896 =>
              (addO a2888 a2896).bind fun a2898 =>
              seqO ((some (decide (a2699.1 = 15))).bind fun a2949 =>
                cond a2949
                ((idxO s2156.2.2 a2861).bind fun a2960 =>
                  (idxO s2156.2.1 a2851).bind fun a2968 =>
                  (some (!decide (a2960 = a2968))).bind fun a2970 =>
                  cond a2970
                  (some (.inr (.inr (.inr ((s2156.1, s2156.2.1, s2156.2.2), false)))))
                  ((idxO s2156.2.1 a2861).bind fun a2980 =>
                    (idxO s2156.2.2 a2851).bind fun a2988 =>
                    some (.inl (a2980, a2988))))
                (some (.inl (a2880, a2898)))) fun (s2943 : Int × Int) =>
              ((some (decide ((12 : Int) < s2943.1))).bind fun a3009 =>
                cond a3009
                (some true)
                ((some (decide ((12 : Int) < s2943.2))).bind fun a3012 =>
                  some a3012)).bind fun (s3003 : Bool) =>
              cond s3003
              (some (.inr (.inr ((s2156.1, s2156.2.1, s2156.2.2), false))))
              ((idxO s2156.1 a2861).bind fun a3025 =>
                (appO s2156.1 [a3025]).bind fun a3030 =>
                (appO s2156.2.1 [s2943.1]).bind fun a3039 =>
                (appO s2156.2.2 [s2943.2]).bind fun a3048 =>
                some (.inl (a3030, a3039, a3048)))))) fun (s2684 : List Int × List Int × List Int) =>
        some (.inl (s2684.1, s2684.2.1, s2684.2.2)))
      (fun j x => ∃ S, runT (t.take j) [] = some S ∧ x.1.length = j ∧ x.2.1.length = j ∧ x.2.2.length = j ∧ ScR x j S ∧ ∀ i S0, i ≤ j → runT (t.take i) [] = some S0 → ScR x i S0) (fun r => r.2 = false ∧ runT t [] = none)
      ⟨[], rfl, rfl, rfl, rfl, rfl, fun i S0 hi h => by
        obtain rfl : i = 0 := by omega
        obtain rfl := Option.some.inj h
        rfl⟩ (by
      rintro j ⟨x1, x2, x3⟩ hj ⟨S, h1, l1, l2, l3, h2, hall⟩
      dsimp only at l1 l2 l3
      have hS := runT_ok _ _ _ (fun p hp => by cases hp) h1
      have hstep := runT_take hj h1
      have bad : stepT S t[j] = none → runT t [] = none := fun hn => runT_none (hstep.trans hn)
      have hi := idxO_of (List.getElem?_eq_getElem hj)
      -- a good end of a round
      have good : ∀ (T : Tr) (w : Int × Int) (S' : Stk), runT (t.take (j + 1)) [] = some ((T, w) :: S') → (flat T).length ≤ j + 1 → ScR (x1, x2, x3) (j + 1 - (flat T).length) S' → ∃ S1, runT (t.take (j + 1)) [] = some S1 ∧ (x1 ++ [((j + 1 - (flat T).length : Nat) : Int)]).length = j + 1 ∧ (x2 ++ [w.1]).length = j + 1 ∧ (x3 ++ [w.2]).length = j + 1 ∧
          ScR (x1 ++ [((j + 1 - (flat T).length : Nat) : Int)], x2 ++ [w.1], x3 ++ [w.2]) (j + 1) S1 ∧ ∀ i S0, i ≤ j + 1 → runT (t.take i) [] = some S0 → ScR (x1 ++ [((j + 1 - (flat T).length : Nat) : Int)], x2 ++ [w.1], x3 ++ [w.2]) i S0 := by
        intro T w S' hr1 hT hsc
        have hp := ScR.push (x := (x1, x2, x3)) (w := w) l1 l2 l3 hT hsc
        refine ⟨_, hr1, by simp [l1], by simp [l2], by simp [l3], hp, fun i S0 hi0 hS0 => ?_⟩
        by_cases hij : i = j + 1
        · subst hij
          rw [hr1] at hS0
          obtain rfl := Option.some.inj hS0
          exact hp
        · refine (hall i S0 (by omega) hS0).mono (fun k hk => ?_)
          exact ⟨(get_snoc l1 _).1 k (by omega), (get_snoc l2 _).1 k (by omega), (get_snoc l3 _).1 k (by omega)⟩
      generalize t[j] = n at hstep bad hi
      obtain ⟨k, v, u⟩ := n
      by_cases hk : k = 15 ∨ k = 16
      · have hlf : lfB (k, v, u) = false := by
          have hr : rng k 1 14 = false := by rcases hk with rfl | rfl <;> decide
          unfold lfB; dsimp only; rw [hr]; simp
        have hk17 : ¬ k = 17 := by omega
        have hc : ((F_spec_tmLeaf (k, v, u)).bind fun y2720 => cond y2720 (some true) ((some (decide (k = 17))).bind fun a2724 => some a2724)) = some false :=
          bnd (tmLeaf_ _) (by rw [hlf]; exact cFW rfl (stp (congrArg some (dF hk17))))
        have hst : stepT S (k, v, u) = if v = 0 ∧ u = .empty then (match S with
            | (b, y) :: (a, x) :: S' => (jn k x y).map fun w => (.node k a b, w) :: S'
            | _ => none) else none := by unfold stepT; rw [if_pos hk]
        -- the test ahead
        have hten : ∀ b : Bool, ((some (!decide ((u : ByteArray) = .empty))).bind fun a2795 =>
                cond a2795
                (some true)
                ((some (!decide (v = 0))).bind fun a2798 =>
                  cond a2798
                  (some true)
                  ((some (decide (((j : Nat) : Int) < 2))).bind fun a2801 =>
                    cond a2801
                    (some true)
                    ((subO ((j : Nat) : Int) 1).bind fun a2804 =>
                      (idxO x1 a2804).bind fun a2812 =>
                      (some (decide (a2812 < 1))).bind fun a2814 =>
                      some a2814)))) = some b → (((some (!decide (k = 15))).bind fun a2792 =>
              cond a2792
              ((some (!decide (k = 16))).bind fun a2820 =>
                cond a2820
                (some true)
                ((some (!decide ((u : ByteArray) = .empty))).bind fun a2823 =>
                  cond a2823
                  (some true)
                  ((some (!decide (v = 0))).bind fun a2826 =>
                    cond a2826
                    (some true)
                    ((some (decide (((j : Nat) : Int) < 2))).bind fun a2829 =>
                      cond a2829
                      (some true)
                      ((subO ((j : Nat) : Int) 1).bind fun a2832 =>
                        (idxO x1 a2832).bind fun a2840 =>
                        (some (decide (a2840 < 1))).bind fun a2842 =>
                        some a2842)))))
              ((some (!decide ((u : ByteArray) = .empty))).bind fun a2795 =>
                cond a2795
                (some true)
                ((some (!decide (v = 0))).bind fun a2798 =>
                  cond a2798
                  (some true)
                  ((some (decide (((j : Nat) : Int) < 2))).bind fun a2801 =>
                    cond a2801
                    (some true)
                    ((subO ((j : Nat) : Int) 1).bind fun a2804 =>
                      (idxO x1 a2804).bind fun a2812 =>
                      (some (decide (a2812 < 1))).bind fun a2814 =>
                      some a2814))))) = some b) := by
          intro b hb
          rcases hk with rfl | rfl
          · exact stp (cFW rfl hb)
          · exact stp (cTW rfl (stp (cFW rfl hb)))
        have fail : ∀ {n : Option Stk}, ((some (!decide ((u : ByteArray) = .empty))).bind fun a2795 =>
                cond a2795
                (some true)
                ((some (!decide (v = 0))).bind fun a2798 =>
                  cond a2798
                  (some true)
                  ((some (decide (((j : Nat) : Int) < 2))).bind fun a2801 =>
                    cond a2801
                    (some true)
                    ((subO ((j : Nat) : Int) 1).bind fun a2804 =>
                      (idxO x1 a2804).bind fun a2812 =>
                      (some (decide (a2812 < 1))).bind fun a2814 =>
                      some a2814)))) = some true → n = none → n = none := fun _ h => h
        by_cases hu : u = .empty
        case neg =>
          have hn : stepT S (k, v, u) = none := by rw [hst, if_neg (fun h => hu h.2)]
          exact .inr ⟨_, sqW (bnd hi (bnd hc (cFW rfl (bnd (hten true (stp (cTW (nF (dF hu)) rfl))) rfl)))) rfl, rfl, bad hn⟩
        by_cases hv : v = 0
        case neg =>
          have hn : stepT S (k, v, u) = none := by rw [hst, if_neg (fun h => hv h.1)]
          exact .inr ⟨_, sqW (bnd hi (bnd hc (cFW rfl (bnd (hten true (stp (cFW (nT (dT hu)) (stp (cTW (nF (dF hv)) rfl))))) rfl)))) rfl, rfl, bad hn⟩
        rw [if_pos ⟨hv, hu⟩] at hst
        match S, h2, hst, hS with
        | [], h2, hst, _ =>
          obtain rfl : j = 0 := h2
          exact .inr ⟨_, sqW (bnd hi (bnd hc (cFW rfl (bnd (hten true (stp (cFW (nT (dT hu)) (stp (cFW (nT (dT hv)) (stp (cTW (dT (by omega)) rfl))))))) rfl)))) rfl, rfl, bad hst⟩
        | [(b, y)], h2, hst, _ =>
          obtain ⟨s1, s2, s3, s4, s5⟩ := h2
          have s5 : j - (flat b).length = 0 := s5
          refine .inr ⟨_, sqW (bnd hi (bnd hc (cFW rfl (bnd (hten true (stp (cFW (nT (dT hu)) (stp (cFW (nT (dT hv)) (stp ?_)))))) rfl)))) rfl, rfl, bad hst⟩
          by_cases h2 : ((j : Nat) : Int) < 2
          · exact cTW (dT h2) rfl
          · refine cFW (dF h2) (bnd (subO_of (by omega) (by omega)) (bnd (a := 0) ?_ rfl))
            rw [s5] at s2
            have e : (j : Int) - 1 = ((j - 1 : Nat) : Int) := by omega
            rw [e]; exact idxO_of s2
        | (b, y) :: (a, x) :: S', h2, hst, hS =>
          have hx := hS (a, x) (by simp)
          have hy := hS (b, y) (by simp)
          obtain ⟨s1, s2, s3, s4, r1, r2, r3, r4, r5⟩ := h2
          dsimp only at s2 s3 s4 r2 r3 r4
          have hpa := flat_pos a
          have hpb := flat_pos b
          have hj2 : 2 ≤ j := by omega
          obtain ⟨a1, a2, a3, a4⟩ := hx
          obtain ⟨b1, b2, b3, b4⟩ := hy
          have e1 : subO ((j : Nat) : Int) 1 = some ((j - 1 : Nat) : Int) := by rw [subO_of (by omega) (by omega)]; congr 1; omega
          have e2 : subO ((j - (flat b).length : Nat) : Int) 1 = some ((j - (flat b).length - 1 : Nat) : Int) := by rw [subO_of (by omega) (by omega)]; congr 1; omega
          have hpass := hten false (stp (cFW (nT (dT hu)) (stp (cFW (nT (dT hv)) (stp (cFW (dF (by omega)) (bnd e1 (bnd (idxO_of s2) (stp (congrArg some (dF (by omega))))))))))))
          have hlenT : (flat (.node k a b)).length = (flat a).length + (flat b).length + 1 := by simp [flat]; omega
          have hidx : j + 1 - (flat (.node k a b)).length = j - (flat b).length - (flat a).length := by rw [hlenT]; omega
          dsimp only at a1 a2 a3 a4 b1 b2 b3 b4
          have hS1 : stkOk S' := fun p hp => hS p (by simp [hp])
          have bg : ∀ w : Int × Int, jn k x y = some w → wOk2 w ∧ (¬ (12 : Int) < w.1) ∧ ¬ (12 : Int) < w.2 := fun w h => by
            have := jn_ok (x := x) (y := y) ⟨a1, a2, a3, a4⟩ ⟨b1, b2, b3, b4⟩ h
            obtain ⟨c1, c2, c3, c4⟩ := this
            exact ⟨⟨c1, c2, c3, c4⟩, by omega, by omega⟩
          have hgood : ∀ w : Int × Int, jn k x y = some w → ∃ S1, runT (t.take (j + 1)) [] = some S1 ∧ (x1 ++ [((j - (flat b).length - (flat a).length : Nat) : Int)]).length = j + 1 ∧ (x2 ++ [w.1]).length = j + 1 ∧ (x3 ++ [w.2]).length = j + 1 ∧
              ScR (x1 ++ [((j - (flat b).length - (flat a).length : Nat) : Int)], x2 ++ [w.1], x3 ++ [w.2]) (j + 1) S1 ∧ ∀ i S0, i ≤ j + 1 → runT (t.take i) [] = some S0 → ScR (x1 ++ [((j - (flat b).length - (flat a).length : Nat) : Int)], x2 ++ [w.1], x3 ++ [w.2]) i S0 := fun w hw => by
            have hn : stepT ((b, y) :: (a, x) :: S') (k, v, u) = some ((.node k a b, w) :: S') := by rw [hst]; simp only [hw, Option.map_some]
            have := good (.node k a b) w S' (by rw [hstep, hn]) (by rw [hlenT]; omega) (by rw [hidx]; exact r5)
            rw [hidx] at this
            exact this
          have hbad : jn k x y = none → runT t [] = none := fun hw => bad (by rw [hst]; simp only [hw, Option.map_none])
          have ap : ∀ (l : List Int) (z : Int), l.length = j → appO l [z] = some (l ++ [z]) := fun l z h => appO_of (by simp; omega)
          have s1' := add_of12 a1 a2 b1 b2
          have s2' := add_of12 a3 a4 b3 b4
          by_cases h15 : k = 15
          · by_cases hxy : x.2 = y.1
            · have hw : jn k x y = some (x.1, y.2) := by unfold jn; rw [if_pos h15, if_pos hxy]
              obtain ⟨_, w1, w2⟩ := bg _ hw
              refine .inl ⟨(x1 ++ [((j - (flat b).length - (flat a).length : Nat) : Int)], x2 ++ [x.1], x3 ++ [y.2]), sqW (r := some (.inl (x1 ++ [((j - (flat b).length - (flat a).length : Nat) : Int)], x2 ++ [x.1], x3 ++ [y.2]))) ?_ rfl, hgood _ hw⟩
              refine bnd hi (bnd hc (cFW rfl (bnd hpass (cFW rfl ?_))))
              refine bnd e1 (bnd (idxO_of s2) (bnd e2 (bnd (idxO_of r3) (bnd (idxO_of s3) (bnd s1' (bnd (idxO_of r4) (bnd (idxO_of s4) (bnd s2' ?_))))))))
              refine sqW (r := some (.inl (x.1, y.2))) (bnd (congrArg some (dT h15)) (cTW rfl (bnd (idxO_of r4) (bnd (idxO_of s3) (stp (cFW (nT (dT hxy)) (bnd (idxO_of r3) (bnd (idxO_of s4) rfl)))))))) ?_
              rw [seqO_l]
              refine bnd (a := false) (bnd (congrArg some (dF w1)) (bnd (congrArg some (dF w2)) rfl)) (cFW rfl ?_)
              exact bnd (idxO_of r2) (bnd (ap _ _ l1) (bnd (ap _ _ l2) (bnd (ap _ _ l3) rfl)))
            · have hw : jn k x y = none := by unfold jn; rw [if_pos h15, if_neg hxy]
              refine .inr ⟨((x1, x2, x3), false), sqW (r := some (.inr (.inr ((x1, x2, x3), false)))) ?_ rfl, rfl, hbad hw⟩
              refine bnd hi (bnd hc (cFW rfl (bnd hpass (cFW rfl ?_))))
              refine bnd e1 (bnd (idxO_of s2) (bnd e2 (bnd (idxO_of r3) (bnd (idxO_of s3) (bnd s1' (bnd (idxO_of r4) (bnd (idxO_of s4) (bnd s2' ?_))))))))
              exact sqW (r := some (.inr (.inr (.inr ((x1, x2, x3), false))))) (bnd (congrArg some (dT h15)) (cTW rfl (bnd (idxO_of r4) (bnd (idxO_of s3) (stp (cTW (nF (dF hxy)) rfl)))))) rfl
          · by_cases h1 : x.1 + y.1 ≤ 12
            · by_cases h2 : x.2 + y.2 ≤ 12
              · have hw : jn k x y = some (x.1 + y.1, x.2 + y.2) := by unfold jn; rw [if_neg h15, if_pos ⟨h1, h2⟩]
                obtain ⟨_, w1, w2⟩ := bg _ hw
                refine .inl ⟨(x1 ++ [((j - (flat b).length - (flat a).length : Nat) : Int)], x2 ++ [x.1 + y.1], x3 ++ [x.2 + y.2]), sqW (r := some (.inl (x1 ++ [((j - (flat b).length - (flat a).length : Nat) : Int)], x2 ++ [x.1 + y.1], x3 ++ [x.2 + y.2]))) ?_ rfl, hgood _ hw⟩
                refine bnd hi (bnd hc (cFW rfl (bnd hpass (cFW rfl ?_))))
                refine bnd e1 (bnd (idxO_of s2) (bnd e2 (bnd (idxO_of r3) (bnd (idxO_of s3) (bnd s1' (bnd (idxO_of r4) (bnd (idxO_of s4) (bnd s2' ?_))))))))
                refine sqW (r := some (.inl (x.1 + y.1, x.2 + y.2))) (bnd (congrArg some (dF h15)) (cFW rfl rfl)) ?_
                rw [seqO_l]
                refine bnd (a := false) (bnd (congrArg some (dF w1)) (bnd (congrArg some (dF w2)) rfl)) (cFW rfl ?_)
                exact bnd (idxO_of r2) (bnd (ap _ _ l1) (bnd (ap _ _ l2) (bnd (ap _ _ l3) rfl)))
              · have hw : jn k x y = none := by unfold jn; rw [if_neg h15, if_neg (fun h => h2 h.2)]
                refine .inr ⟨((x1, x2, x3), false), sqW (r := some (.inr (.inr ((x1, x2, x3), false)))) ?_ rfl, rfl, hbad hw⟩
                refine bnd hi (bnd hc (cFW rfl (bnd hpass (cFW rfl ?_))))
                refine bnd e1 (bnd (idxO_of s2) (bnd e2 (bnd (idxO_of r3) (bnd (idxO_of s3) (bnd s1' (bnd (idxO_of r4) (bnd (idxO_of s4) (bnd s2' ?_))))))))
                refine sqW (r := some (.inl (x.1 + y.1, x.2 + y.2))) (bnd (congrArg some (dF h15)) (cFW rfl rfl)) ?_
                rw [seqO_l]
                exact bnd (a := true) (bnd (congrArg some (dF (by dsimp only; omega))) (bnd (congrArg some (dT (by dsimp only; omega))) rfl)) (cTW rfl rfl)
            · have hw : jn k x y = none := by unfold jn; rw [if_neg h15, if_neg (fun h => h1 h.1)]
              refine .inr ⟨((x1, x2, x3), false), sqW (r := some (.inr (.inr ((x1, x2, x3), false)))) ?_ rfl, rfl, hbad hw⟩
              refine bnd hi (bnd hc (cFW rfl (bnd hpass (cFW rfl ?_))))
              refine bnd e1 (bnd (idxO_of s2) (bnd e2 (bnd (idxO_of r3) (bnd (idxO_of s3) (bnd s1' (bnd (idxO_of r4) (bnd (idxO_of s4) (bnd s2' ?_))))))))
              refine sqW (r := some (.inl (x.1 + y.1, x.2 + y.2))) (bnd (congrArg some (dF h15)) (cFW rfl rfl)) ?_
              rw [seqO_l]
              exact bnd (a := true) (bnd (congrArg some (dT (by dsimp only; omega))) rfl) (cTW rfl rfl)
      · have ap : ∀ (l : List Int) (z : Int), l.length = j → appO l [z] = some (l ++ [z]) := fun l z h => appO_of (by simp; omega)
        cases hb : lfB (k, v, u) with
        | true =>
          have hr : rng k 1 14 = true := by
            unfold lfB at hb; simp only [Bool.and_eq_true] at hb; exact hb.2.1
          have hk17 : ¬ k = 17 := by have := rng_true.1 hr; omega
          have hn : stepT S (k, v, u) = some ((.leaf (k, v, u), lfT (k, v, u)) :: S) := by unfold stepT; rw [if_neg hk, if_pos hb]
          have hc : ((F_spec_tmLeaf (k, v, u)).bind fun y2720 => cond y2720 (some true) ((some (decide (k = 17))).bind fun a2724 => some a2724)) = some true :=
            bnd (tmLeaf_ _) (by rw [hb]; rfl)
          have := good (.leaf (k, v, u)) (lfT (k, v, u)) S (by rw [hstep, hn]) (by simp [flat]) (by simpa [flat] using h2)
          rw [show j + 1 - (flat (.leaf (k, v, u))).length = j by simp [flat]] at this
          refine .inl ⟨(x1 ++ [((j : Nat) : Int)], x2 ++ [(lfT (k, v, u)).1], x3 ++ [(lfT (k, v, u)).2]), sqW (r := some (.inl (x1 ++ [((j : Nat) : Int)], x2 ++ [(lfT (k, v, u)).1], x3 ++ [(lfT (k, v, u)).2]))) ?_ rfl, this⟩
          refine bnd hi (bnd hc (cTW rfl (bnd (tmArity_ _) ?_)))
          refine sqW (r := some (.inl ((lfT (k, v, u)).2, (lfT (k, v, u)).1))) (bnd (congrArg some (dF hk17)) (cFW rfl rfl)) ?_
          rw [seqO_l]
          exact bnd (ap _ _ l1) (bnd (ap _ _ l2) (bnd (ap _ _ l3) rfl))
        | false =>
          have hn : stepT S (k, v, u) = none := by unfold stepT; rw [if_neg hk, if_neg (by rw [hb]; simp)]
          by_cases h17 : k = 17
          · have hc : ((F_spec_tmLeaf (k, v, u)).bind fun y2720 => cond y2720 (some true) ((some (decide (k = 17))).bind fun a2724 => some a2724)) = some true :=
              bnd (tmLeaf_ _) (by rw [hb]; exact cFW rfl (stp (congrArg some (dT h17))))
            refine .inr ⟨((x1, x2, x3), false), sqW (r := some (.inr (.inr ((x1, x2, x3), false)))) ?_ rfl, rfl, bad hn⟩
            refine bnd hi (bnd hc (cTW rfl (bnd (tmArity_ _) ?_)))
            exact sqW (r := some (.inr (.inr (.inr ((x1, x2, x3), false))))) (bnd (congrArg some (dT h17)) (cTW rfl (bnd (lbFind_nil _) (bnd (a := true) rfl (cTW rfl rfl))))) rfl
          · have hc : ((F_spec_tmLeaf (k, v, u)).bind fun y2720 => cond y2720 (some true) ((some (decide (k = 17))).bind fun a2724 => some a2724)) = some false :=
              bnd (tmLeaf_ _) (by rw [hb]; exact cFW rfl (stp (congrArg some (dF h17))))
            have hk1 : ¬ k = 15 := fun h => hk (.inl h)
            have hk2 : ¬ k = 16 := fun h => hk (.inr h)
            exact .inr ⟨_, sqW (bnd hi (bnd hc (cFW rfl (bnd (a := true) (stp (cTW (nF (dF hk1)) (stp (cTW (nF (dF hk2)) rfl)))) rfl)))) rfl, rfl, bad hn⟩)
    rcases loop with ⟨x, h1, S, h2, k1, k2, k3, h3, hall⟩ | ⟨⟨x, r⟩, h1, rfl, h2⟩
    · rw [List.take_length] at h2
      have hne : S ≠ [] := by
        rintro rfl
        have : t.length = 0 := h3
        omega
      obtain ⟨⟨T, w⟩, S', rfl⟩ : ∃ p S', S = p :: S' := by
        cases S with
        | nil => exact (hne rfl).elim
        | cons p S' => exact ⟨p, S', rfl⟩
      obtain ⟨s1, s2, s3, s4, s5⟩ := h3
      have hT := flat_pos T
      have ev : validB t = decide (((t.length - (flat T).length : Nat) : Int) = 0) := by
        unfold validB
        rw [hr, h2, Bool.true_and]
        match S', s5 with
        | [], s5 =>
          have s5 : t.length - (flat T).length = 0 := s5
          rw [s5]; rfl
        | (T', w') :: S'', s5 =>
          have := flat_pos T'
          exact (dF (by have := s5.1; omega)).symm
      refine ⟨x, bnd (l1In _ _ _) (stp ?_), fun S0 hS0 _ => ?_⟩
      · rw [hr]
        refine cFW rfl (sqW h1 ?_)
        rw [seqO_l]
        refine bnd (a := ((t.length - 1 : Nat) : Int)) (by rw [subO_of (by omega) (by omega)]; congr 1; omega) (bnd (idxO_of s2) (stp ?_))
        rw [ev]
      · rw [h2] at hS0
        obtain rfl := Option.some.inj hS0
        refine ⟨k1, ⟨s1, s2, s3, s4, s5⟩, fun S0 p q hpq hp => ?_⟩
        refine hall p.length S0 (by rw [hpq]; simp) ?_
        rw [hpq, List.take_left]; exact hp
    · refine ⟨x, bnd (l1In _ _ _) (stp ?_), fun S hS => by rw [h2] at hS; cases hS⟩
      rw [hr]
      refine cFW rfl (sqW h1 ?_)
      rw [seqO_r]
      unfold validB
      rw [h2, hr]; rfl
end Go.Proofs.YtmchibapkddniaaGreat
namespace Go.Proofs.YtmchibapkddniaaGreat

/-! ### trees that are typed -/
def typT : Tr → Option (Int × Int)
  | .leaf n => if lfB n = true then some (lfT n) else none
  | .node k a b => if k = 15 ∨ k = 16 then (typT a).bind fun x => (typT b).bind fun y => jn k x y else none
def typS (S : Stk) : Prop := ∀ p ∈ S, typT p.1 = some p.2
theorem stepT_typ {S S' : Stk} {n : Nod} (hS : typS S) (h : stepT S n = some S') : typS S' := by
  unfold stepT at h
  split at h
  · rename_i hk
    split at h
    · split at h
      · rename_i b y a x S0
        obtain ⟨w, hw, rfl⟩ := Option.map_eq_some_iff.1 h
        intro p hp
        rcases List.mem_cons.1 hp with rfl | hp
        · have h1 := hS (a, x) (by simp)
          have h2 := hS (b, y) (by simp)
          dsimp only at h1 h2
          show (if n.1 = 15 ∨ n.1 = 16 then _ else none) = _
          rw [if_pos hk, h1, h2]; exact hw
        · exact hS p (by simp [hp])
      · cases h
    · cases h
  · split at h
    · obtain rfl := Option.some.inj h
      intro p hp
      rcases List.mem_cons.1 hp with rfl | hp
      · show (if lfB n = true then _ else none) = _
        rw [if_pos ‹_›]
      · exact hS p hp
    · cases h
theorem runT_typ : ∀ (t : List Nod) (S S' : Stk), typS S → runT t S = some S' → typS S'
  | [], S, S', hS, h => by obtain rfl := Option.some.inj h; exact hS
  | n :: t, S, S', hS, h => by
    obtain ⟨S1, h1, h2⟩ := bindS h
    exact runT_typ t S1 S' (stepT_typ hS h1) h2
theorem typ_node {k : Int} {a b : Tr} {w : Int × Int} (h : typT (.node k a b) = some w) : (k = 15 ∨ k = 16) ∧ ∃ x y, typT a = some x ∧ typT b = some y ∧ jn k x y = some w := by
  unfold typT at h
  split at h
  · obtain ⟨x, h1, h2⟩ := bindS h
    obtain ⟨y, h3, h4⟩ := bindS h2
    exact ⟨‹_›, x, y, h1, h3, h4⟩
  · cases h
theorem typ_leaf {n : Nod} {w : Int × Int} (h : typT (.leaf n) = some w) : lfB n = true ∧ w = lfT n := by
  unfold typT at h
  split at h
  · exact ⟨‹_›, (Option.some.inj h).symm⟩
  · cases h
theorem lfB_k {n : Nod} (h : lfB n = true) : 1 ≤ n.1 ∧ n.1 ≤ 14 := by
  unfold lfB at h; simp only [Bool.and_eq_true] at h
  exact rng_true.1 h.2.1
theorem run_tree : ∀ {T : Tr} {w : Int × Int}, typT T = some w → ∀ S, runT (flat T) S = some ((T, w) :: S)
  | .leaf n, w, h, S => by
    obtain ⟨h1, rfl⟩ := typ_leaf h
    have hk := lfB_k h1
    show (stepT S n).bind _ = _
    unfold stepT
    rw [if_neg (by omega), if_pos h1]; rfl
  | .node k a b, w, h, S => by
    obtain ⟨hk, x, y, h1, h2, h3⟩ := typ_node h
    show runT (flat a ++ flat b ++ [(k, 0, .empty)]) S = _
    rw [runT_app, runT_app, run_tree h1 S]
    show ((runT (flat b) ((a, x) :: S)).bind _) = _
    rw [run_tree h2]
    show (stepT ((b, y) :: (a, x) :: S) (k, 0, .empty)).bind _ = _
    unfold stepT
    rw [if_pos hk, if_pos ⟨rfl, rfl⟩]
    show ((jn k x y).map _).bind _ = _
    rw [h3]; rfl
theorem validB_tree {t : List Nod} (h : validB t = true) : ∃ T w, t = flat T ∧ typT T = some w ∧ t.length ≤ 400 := by
  unfold validB at h
  rw [Bool.and_eq_true] at h
  have hl := rng_true.1 h.1
  cases hr : runT t [] with
  | none => rw [hr] at h; cases h.2
  | some S =>
    rw [hr] at h
    match S, hr, h.2 with
    | [(T, w)], hr, _ =>
      have h1 := runT_flat _ _ _ hr
      have h2 := runT_typ _ _ _ (fun p hp => by cases hp) hr
      refine ⟨T, w, ?_, h2 (T, w) (by simp), by omega⟩
      unfold stkN at h1
      simpa using h1.symm

/-! ### a tree's two halves -/
theorem tmScan_eq {t : List Nod} {x : List Int × List Int × List Int} {b : Bool} (h : F_spec_lbScan [] t = some (x, b)) : F_spec_tmScan t = some (x, b) := bnd h rfl
theorem tmValid_ (t : List Nod) : F_spec_tmValid t = some (validB t) := by
  obtain ⟨x, h, _⟩ := lbScan_ t
  exact bnd (tmScan_eq h) rfl
theorem tmOwn_ {t : List Nod} (h : t.length ≤ maxN) : F_spec_tmOwn t = some t := bnd (appO_of (by simpa using h)) rfl
theorem tmParts_ {k : Int} {a b : Tr} {w : Int × Int} (h : typT (.node k a b) = some w) (hl : (flat (.node k a b)).length ≤ 400) : F_spec_tmParts (flat (.node k a b)) = some (flat a, flat b) := by
  have hm : maxN = 1099511627776 := rfl
  obtain ⟨hk, x, y, h1, h2, h3⟩ := typ_node h
  obtain ⟨X, hX, hs⟩ := lbScan_ (flat (.node k a b))
  have hpa := flat_pos a
  have hpb := flat_pos b
  have hlen : (flat (.node k a b)).length = (flat a).length + (flat b).length + 1 := by simp [flat]; omega
  obtain ⟨k1, _, hsc⟩ := hs _ (run_tree h []) (rng_true.2 (by omega))
  have hsc := hsc [(b, y), (a, x)] (flat a ++ flat b) [(k, 0, .empty)] rfl (by
    rw [runT_app, run_tree h1]
    show runT (flat b) [(a, x)] = _
    rw [run_tree h2])
  obtain ⟨_, s2, _⟩ := hsc
  rw [List.length_append, Nat.add_sub_cancel] at s2
  have sl1 : sliceO (flat (.node k a b)) 0 (((flat a).length : Nat) : Int) = some (flat a) := by
    unfold sliceO; rw [if_pos ⟨by omega, by omega, by omega⟩]
    simp [flat]
  have sl2 : sliceO (flat (.node k a b)) (((flat a).length : Nat) : Int) (((flat a).length + (flat b).length : Nat) : Int) = some (flat b) := by
    unfold sliceO; rw [if_pos ⟨by omega, by omega, by omega⟩]
    have e : (((flat a).length : Int) + ((flat b).length : Int)).toNat - (flat a).length = (flat b).length := by omega
    simp [flat, e]
  refine bnd (tmScan_eq hX) (bnd (a := (((flat a).length + (flat b).length : Nat) : Int)) (by rw [hlen, subO_of (by omega) (by omega)]; congr 1; omega)
    (bnd (a := (((flat a).length + (flat b).length - 1 : Nat) : Int)) (by rw [subO_of (by omega) (by omega)]; congr 1; omega) (bnd (idxO_of s2) (bnd sl1 (bnd sl2 (bnd (tmOwn_ (by omega)) (bnd (tmOwn_ (by omega)) rfl)))))))

/-! ### the graph of a leaf -/
def frL (a b : Nat) : List Int := (List.range b).map fun j : Nat => ((j : Int) + (a : Int))
theorem frL_len (a b : Nat) : (frL a b).length = b := by simp [frL]
def ugL (n : Nat) : List Int := (List.range n).map fun q : Nat => (q : Int)
theorem ugL_len (n : Nat) : (ugL n).length = n := by simp [ugL]
theorem ugTo_ {n : Nat} (hn : n ≤ 1048576) : F_impl_upTo (n : Int) = some (ugL n) := upT_ hn
theorem ugL_succ (n : Nat) : ugL (n + 1) = ugL n ++ [(n : Int)] := by unfold ugL; rw [List.range_succ]; simp
theorem frL_succ (a b : Nat) : frL a (b + 1) = frL a b ++ [(b : Int) + a] := by unfold frL; rw [List.range_succ]; simp
theorem tabl_frL (a b : Nat) : (tabl b fun k => (k : Int) + a) = frL a b := rfl
def leafG (n : Nod) : Gra := if n.1 = 1 then (n.2.1, [], ugL n.2.1.toNat, ugL n.2.1.toNat) else if n.1 = 2 then (2, [], [0, 1], [1, 0]) else
  ((kd n.1).1 + (kd n.1).2, [(n.1, n.2.1, ugL (kd n.1).1.toNat, frL (kd n.1).1.toNat (kd n.1).2.toNat)], ugL (kd n.1).1.toNat, frL (kd n.1).1.toNat (kd n.1).2.toNat)
theorem hgId_ {n : Nat} (hn : n ≤ 1000) : F_spec_hgId (n : Int) = some ((n : Int), [], ugL n, ugL n) := by
  have hm : maxN = 1099511627776 := rfl
  have loop := whileO_is (f := fun (s166 : List Int × List Int × Int) =>
      (some (decide (s166.2.2 < (n : Int)))).bind fun a179 =>
      cond a179
      ((appO s166.1 [s166.2.2]).bind fun a187 =>
        (appO s166.2.1 [s166.2.2]).bind fun a196 =>
        (addO s166.2.2 1).bind fun a202 =>
        some (.inl (a187, a196, a202)))
      (some (.inr (s166.1, s166.2.1)))) (fun j => (ugL j, ugL j, (j : Int))) (t := (ugL n, ugL n)) n (fun j hj => by
    refine stp (cTW (dT (by dsimp only; omega)) ?_)
    have e : appO (ugL j) [(j : Int)] = some (ugL (j + 1)) := by rw [ugL_succ]; exact appO_of (by rw [ugL_len]; simp; omega)
    exact bnd e (bnd e (bnd (addO_of (by dsimp only; omega) (by dsimp only; omega)) rfl)))
    (stp (cFW (dF (by dsimp only; omega)) rfl))
  exact bnd loop rfl
theorem hgLeafLoop {a b : Nat} (ha : a ≤ 1000) (hb : b ≤ 1000) : whileO (fun (s328 : List Int × List Int × List Int × List Int × Int) =>
          (addO (a : Int) (b : Int)).bind fun a345 =>
          (some (decide (s328.2.2.2.2 < a345))).bind fun a347 =>
          cond a347
          ((some (decide (s328.2.2.2.2 < (a : Int)))).bind fun a352 =>
            cond a352
            ((appO s328.1 [s328.2.2.2.2]).bind fun a379 =>
              (appO s328.2.2.1 [s328.2.2.2.2]).bind fun a388 =>
              (addO s328.2.2.2.2 1).bind fun a394 =>
              some (.inl (a379, s328.2.1, a388, s328.2.2.2.1, a394)))
            ((appO s328.2.1 [s328.2.2.2.2]).bind fun a358 =>
              (appO s328.2.2.2.1 [s328.2.2.2.2]).bind fun a367 =>
              (addO s328.2.2.2.2 1).bind fun a373 =>
              some (.inl (s328.1, a358, s328.2.2.1, a367, a373))))
          (some (.inr (s328.1, s328.2.1, s328.2.2.1, s328.2.2.2.1)))) (([] : List Int), ([] : List Int), ([] : List Int), ([] : List Int), (0 : Int)) = some (ugL a, frL a b, ugL a, frL a b) := by
  have hm : maxN = 1099511627776 := rfl
  have hs : addO (a : Int) (b : Int) = some ((a : Int) + b) := addO_of (by omega) (by omega)
  have loop := whileO_is (f := fun (s328 : List Int × List Int × List Int × List Int × Int) =>
          (addO (a : Int) (b : Int)).bind fun a345 =>
          (some (decide (s328.2.2.2.2 < a345))).bind fun a347 =>
          cond a347
          ((some (decide (s328.2.2.2.2 < (a : Int)))).bind fun a352 =>
            cond a352
            ((appO s328.1 [s328.2.2.2.2]).bind fun a379 =>
              (appO s328.2.2.1 [s328.2.2.2.2]).bind fun a388 =>
              (addO s328.2.2.2.2 1).bind fun a394 =>
              some (.inl (a379, s328.2.1, a388, s328.2.2.2.1, a394)))
            ((appO s328.2.1 [s328.2.2.2.2]).bind fun a358 =>
              (appO s328.2.2.2.1 [s328.2.2.2.2]).bind fun a367 =>
              (addO s328.2.2.2.2 1).bind fun a373 =>
              some (.inl (s328.1, a358, s328.2.2.1, a367, a373))))
          (some (.inr (s328.1, s328.2.1, s328.2.2.1, s328.2.2.2.1)))) (fun j => (ugL (min j a), frL a (j - a), ugL (min j a), frL a (j - a), (j : Int))) (t := (ugL a, frL a b, ugL a, frL a b)) (a + b) (fun j hj => by
    refine bnd hs (stp (cTW (dT (by dsimp only; omega)) ?_))
    have e1 : addO ((j : Nat) : Int) 1 = some ((j + 1 : Nat) : Int) := addO_of (by omega) (by omega)
    by_cases hja : j < a
    · have e : appO (ugL (min j a)) [(j : Int)] = some (ugL (min (j + 1) a)) := by
        rw [Nat.min_eq_left (by omega), Nat.min_eq_left (by omega), ugL_succ]; exact appO_of (by rw [ugL_len]; simp; omega)
      refine stp (cTW (dT (by dsimp only; omega)) (bnd e (bnd e (bnd e1 ?_))))
      rw [show j + 1 - a = j - a by omega]
    · have e : appO (frL a (j - a)) [(j : Int)] = some (frL a (j + 1 - a)) := by
        rw [show j + 1 - a = j - a + 1 by omega, frL_succ, show ((j - a : Nat) : Int) + a = j by omega]; exact appO_of (by rw [frL_len]; simp; omega)
      refine stp (cFW (dF (by dsimp only; omega)) (bnd e (bnd e (bnd e1 ?_))))
      rw [Nat.min_eq_right (by omega), Nat.min_eq_right (by omega)])
    (bnd hs (stp (cFW (dF (by dsimp only; omega)) (by rw [Nat.min_eq_right (by omega), Nat.add_sub_cancel_left]))))
  rw [Nat.zero_min, Nat.zero_sub] at loop
  exact loop
theorem kd_nat (k : Int) : ∃ a b : Nat, kd k = ((a : Int), (b : Int)) ∧ a ≤ 2 ∧ b ≤ 2 := by
  have h := kd_le k
  refine ⟨(kd k).1.toNat, (kd k).2.toNat, Prod.ext (by dsimp only; omega) (by dsimp only; omega), by omega, by omega⟩
theorem lfB_id {n : Nod} (h : lfB n = true) (h1 : n.1 = 1) : 0 ≤ n.2.1 ∧ n.2.1 ≤ 12 := by
  unfold lfB at h
  simp only [Bool.and_eq_true] at h
  rw [if_pos h1] at h
  exact rng_true.1 h.2.2
theorem hgLeaf_ {n : Nod} (h : lfB n = true) : F_spec_hgLeaf n = some (leafG n) := by
  obtain ⟨k, v, s⟩ := n
  unfold F_spec_hgLeaf leafG
  by_cases h1 : k = 1
  · have hv := lfB_id h h1
    dsimp only at hv
    obtain ⟨m, rfl⟩ : ∃ m : Nat, v = (m : Int) := ⟨v.toNat, by omega⟩
    simp [h1, hgId_ (n := m) (by omega)]
  by_cases h2 : k = 2
  · simp [h2]
  obtain ⟨a, b, hk, ha, hb⟩ := kd_nat k
  have hs : addO (a : Int) (b : Int) = some ((a : Int) + b) := addO_of (by omega) (by omega)
  rw [if_neg h1, if_neg h2]
  refine stp (cFW (dF h1) (stp (cFW (dF h2) (bnd (tmKind_ k) ?_))))
  simp only [hk, Int.toNat_natCast]
  exact bnd hs (bnd (hgLeafLoop (by omega) (by omega)) rfl)
theorem leafGraph_ {n : Nod} (h : lfB n = true) : F_impl_leafGraph n = some (leafG n) := by
  have hm : maxN = 1099511627776 := rfl
  have hkk := lfB_k h
  obtain ⟨k, v, s⟩ := n
  dsimp only at hkk
  unfold F_impl_leafGraph leafG
  by_cases h1 : k = 1
  · have hv := lfB_id h h1
    dsimp only at hv
    obtain ⟨m, rfl⟩ : ∃ m : Nat, v = (m : Int) := ⟨v.toNat, by omega⟩
    have : F_impl_identityGraph (m : Int) = some ((m : Int), [], ugL m, ugL m) := bnd (ugTo_ (by omega)) (bnd (ugTo_ (by omega)) rfl)
    simp [h1, this]
  by_cases h2 : k = 2
  · simp [h2]
  obtain ⟨a, b, hk, ha, hb⟩ := kd_nat k
  have hs : addO (a : Int) (b : Int) = some ((a : Int) + b) := addO_of (by omega) (by omega)
  have hr : rng k 3 14 = true := rng_true.2 (by omega)
  have c1 : F_impl_clone (ugL a) = some (ugL a) := clone_ (by rw [ugL_len]; omega)
  have c2 : F_impl_clone (frL a b) = some (frL a b) := clone_ (by rw [frL_len]; omega)
  have f1 := from_ (n := b) (a := a) (by omega) (by omega)
  rw [tabl_frL] at f1
  simp only [h1, h2, generatorWires_ hr, hk, decide_false, cond_false, Option.bind_some, hs, if_false, Int.toNat_natCast, ugTo_ (n := a) (by omega), f1, c1, c2]
theorem leafG_ok {n : Nod} (h : lfB n = true) : gOk (leafG n) = true ∧ ((leafG n).2.2.1.length : Int) = (lfT n).1 ∧ ((leafG n).2.2.2.length : Int) = (lfT n).2 := by
  have hkk := lfB_k h
  obtain ⟨k, v, s⟩ := n
  dsimp only at hkk
  unfold leafG lfT
  by_cases h1 : k = 1
  · have hv := lfB_id h h1
    dsimp only at hv
    obtain ⟨m, rfl⟩ : ∃ m : Nat, v = (m : Int) := ⟨v.toNat, by omega⟩
    have key : ∀ m : Nat, m < 13 → gOk ((m : Int), [], ugL m, ugL m) = true := by decide
    simp only [h1, if_true, Int.toNat_natCast, ugL_len]
    exact ⟨key m (by omega), trivial, trivial⟩
  by_cases h2 : k = 2
  · subst h2
    have e : gOk (2, [], [0, 1], [1, 0]) = true := by decide
    exact ⟨e, rfl, rfl⟩
  have hr : rng k 3 14 = true := rng_true.2 (by omega)
  have hg : genB k v = true := by
    unfold lfB at h
    simp only [Bool.and_eq_true] at h
    rw [if_neg h1] at h
    unfold genB
    rw [hr, Bool.true_and]; exact h.2.2
  obtain ⟨a, b, hk, ha, hb⟩ := kd_nat k
  have h0 := hk
  simp only [h1, h2, if_false, hk, Int.toNat_natCast, ugL_len, frL_len, and_true]
  have hE : edW ((a : Int) + b) (k, v, ugL a, frL a b) = (wOk ((a : Int) + b) (ugL a) && wOk ((a : Int) + b) (frL a b)) := by
    unfold edW arB edI edO
    simp only [hg, hk, ugL_len, frL_len, decide_true, Bool.true_and]
  have e1 : ((a : Int) + b) = ((a + b : Nat) : Int) := by omega
  unfold gOk allW
  simp only [List.all_cons, List.all_nil, hE, ugL_len, frL_len, List.map_cons, List.map_nil]
  have key : ∀ a : Nat, a < 3 → ∀ b : Nat, b < 3 → (rng ((a : Int) + b) 0 100 && (decide (1 ≤ 60) && (decide (a ≤ 12) && (decide (b ≤ 12) && (wOk ((a : Int) + b) (ugL a) && (wOk ((a : Int) + b) (frL a b) && ((wOk ((a : Int) + b) (ugL a) && wOk ((a : Int) + b) (frL a b) && true) && (List.range ((a : Int) + b).toNat).all fun j : Nat => decide ((j : Int) ∈ ugL a ++ frL a b ++ ([ugL a ++ frL a b]).flatten)))))))) = true := by decide
  exact key a (by omega) b (by omega)

/-! ### the graph of a tree -/
def comb (k : Int) (a b : Gra) : Gra := if k = 15 then pSeq a.1.toNat b.1.toNat a b else pPar a.1.toNat b.1.toNat a b
def made : Tr → Gra × Bool
  | .leaf n => (leafG n, true)
  | .node k a b => if (made a).2 = true ∧ (made b).2 = true then ifG (comb k (made a).1 (made b).1) else (noG, false)
theorem ifG_ok {g : Gra} (h : (ifG g).2 = true) : gOk g = true ∧ (ifG g).1 = g := by
  unfold ifG at h ⊢
  split at h
  · rename_i hg
    rw [if_pos hg]; exact ⟨hg, rfl⟩
  · cases h
theorem pSeq_len (n m : Nat) (a b : Gra) : (pSeq n m a b).2.2.1.length = a.2.2.1.length ∧ (pSeq n m a b).2.2.2.length = b.2.2.2.length := by
  unfold pSeq gluG mpG befG
  dsimp only
  rw [mp_len, mp_len, mp_len]; exact ⟨rfl, rfl⟩
theorem pPar_len (n m : Nat) (a b : Gra) : (pPar n m a b).2.2.1.length = a.2.2.1.length + b.2.2.1.length ∧ (pPar n m a b).2.2.2.length = a.2.2.2.length + b.2.2.2.length := by
  unfold pPar
  dsimp only
  rw [List.length_append, List.length_append, mp_len, mp_len]; exact ⟨rfl, rfl⟩
def lens (g : Gra) (w : Int × Int) : Prop := (g.2.2.1.length : Int) = w.1 ∧ (g.2.2.2.length : Int) = w.2
theorem comb_lens {k : Int} {a b : Gra} {x y w : Int × Int} (ha : lens a x) (hb : lens b y) (h : jn k x y = some w) : lens (comb k a b) w ∧ (k = 15 → a.2.2.2.length = b.2.2.1.length) := by
  obtain ⟨a1, a2⟩ := ha
  obtain ⟨b1, b2⟩ := hb
  unfold comb
  unfold jn at h
  by_cases hk : k = 15
  · rw [if_pos hk] at h ⊢
    split at h
    · obtain rfl := Option.some.inj h
      have := pSeq_len a.1.toNat b.1.toNat a b
      exact ⟨⟨by dsimp only; omega, by dsimp only; omega⟩, fun _ => by omega⟩
    · cases h
  · rw [if_neg hk] at h ⊢
    split at h
    · obtain rfl := Option.some.inj h
      have := pPar_len a.1.toNat b.1.toNat a b
      exact ⟨⟨by dsimp only; omega, by dsimp only; omega⟩, fun h => (hk h).elim⟩
    · cases h
theorem made_ok : ∀ {T : Tr} {w : Int × Int}, typT T = some w → (made T).2 = true → gOk (made T).1 = true ∧ lens (made T).1 w
  | .leaf n, w, h, _ => by
    obtain ⟨h1, rfl⟩ := typ_leaf h
    have := leafG_ok h1
    exact ⟨this.1, this.2.1, this.2.2⟩
  | .node k a b, w, h, hm => by
    obtain ⟨hk, x, y, h1, h2, h3⟩ := typ_node h
    unfold made at hm ⊢
    split at hm
    · rename_i hab
      rw [if_pos hab]
      obtain ⟨g1, g2⟩ := ifG_ok hm
      rw [g2]
      exact ⟨g1, (comb_lens (made_ok h1 hab.1).2 (made_ok h2 hab.2).2 h3).1⟩
    · cases hm
theorem hgComb {k : Int} {a b : Gra} (ga : gOk a = true) (gb : gOk b = true) (hl : k = 15 → a.2.2.2.length = b.2.2.1.length) : (k = 15 → F_spec_hgSeq a b = some (comb k a b) ∧ F_impl_seqGraphs a b = some (comb k a b)) ∧ (k ≠ 15 → F_spec_hgPar a b = some (comb k a b) ∧ F_impl_parGraphs a b = some (comb k a b)) := by
  obtain ⟨n, ha⟩ := gOk_facts ga
  obtain ⟨m, hb⟩ := gOk_facts gb
  have n1 := ha.n100; have m1 := hb.n100
  unfold comb
  rw [ha.w, hb.w, Int.toNat_natCast, Int.toNat_natCast]
  constructor
  · intro h; rw [if_pos h]; exact ⟨hgSeq_ ha hb (hl h), seqGraphs_ ha hb (hl h)⟩
  · intro h; rw [if_neg h]; exact ⟨bnd (hgBeside_ (by omega) (by omega) ha.w hb.w ha.rgd hb.rgd) rfl, parGraphs_ (by omega) (by omega) ha.w hb.w ha.rgd hb.rgd⟩
theorem tmTop_leaf (n : Nod) : F_spec_tmTop (flat (.leaf n)) = some n.1 := rfl
theorem tmTop_node (k : Int) (a b : Tr) (hl : (flat (.node k a b)).length ≤ 400) : F_spec_tmTop (flat (.node k a b)) = some k := by
  have hlen : (flat (.node k a b)).length = (flat a).length + (flat b).length + 1 := by simp [flat]; omega
  refine bnd (a := (((flat a).length + (flat b).length : Nat) : Int)) (by rw [hlen, subO_of (by omega) (by omega)]; congr 1; omega) (bnd (a := (k, 0, .empty)) (idxO_of ?_) rfl)
  show (flat a ++ flat b ++ [_])[_]? = _
  rw [List.getElem?_append_right (by simp)]; simp
theorem hgMade_ : ∀ (fuel : Nat) {T : Tr} {w : Int × Int}, typT T = some w → (flat T).length ≤ 400 → (flat T).length ≤ fuel → F_spec_hgMade_n fuel (flat T) = some (made T)
  | 0, T, _, _, _, hf => by have := flat_pos T; omega
  | fuel + 1, .leaf n, w, h, hl, hf => by
    obtain ⟨h1, rfl⟩ := typ_leaf h
    have hk := lfB_k h1
    exact bnd (tmTop_leaf n) (stp (cTW (dT (by omega)) (bnd (a := n) rfl (bnd (hgLeaf_ h1) rfl))))
  | fuel + 1, .node k a b, w, h, hl, hf => by
    obtain ⟨hk, x, y, h1, h2, h3⟩ := typ_node h
    have hpa := flat_pos a
    have hpb := flat_pos b
    have hlen : (flat (.node k a b)).length = (flat a).length + (flat b).length + 1 := by simp [flat]; omega
    have ia := hgMade_ fuel h1 (by omega) (by omega)
    have ib := hgMade_ fuel h2 (by omega) (by omega)
    refine bnd (tmTop_node k a b hl) (stp (cFW (dF (by omega)) (bnd (tmParts_ h hl) (bnd ia (bnd ib ?_)))))
    rw [made]
    cases ma : (made a).2 with
    | false =>
      rw [if_neg (fun h => by cases h.1)]
      exact bnd (a := true) rfl rfl
    | true =>
      cases mb : (made b).2 with
      | false =>
        rw [if_neg (fun h => by cases h.2)]
        exact bnd (a := true) rfl rfl
      | true =>
        rw [if_pos ⟨rfl, rfl⟩]
        obtain ⟨ga, la⟩ := made_ok h1 ma
        obtain ⟨gb, lb⟩ := made_ok h2 mb
        have hc := hgComb (k := k) ga gb (comb_lens la lb h3).2
        refine bnd (a := false) rfl (cFW rfl ?_)
        by_cases h15 : k = 15
        · exact stp (cTW (dT h15) (bnd (hc.1 h15).1 (bnd (hgIf_ _) rfl)))
        · exact stp (cFW (dF h15) (bnd (hc.2 h15).1 (bnd (hgIf_ _) rfl)))

/-! ### the program's stack of graphs -/
noncomputable def gStep (t_ : List Nod) (k11 : Nat) (s383 : List Gra) : Option (List Gra ⊕ (Gra × Bool)) :=
      (idxO t_ ((k11 : Nat) : Int)).bind fun a399 =>
      (subO ((s383.length : Nat) : Int) 1).bind fun a407 =>
      (some (decide (a399.1 = 15))).bind fun a412 =>
      cond a412
      ((subO a407 1).bind fun a522 =>
        (idxO s383 a522).bind fun a530 =>
        (idxO s383 a407).bind fun a542 =>
        (F_impl_seqGraphs (a530.1, a530.2.1, a530.2.2.1, a530.2.2.2) (a542.1, a542.2.1, a542.2.2.1, a542.2.2.2)).bind fun y548 =>
        (subO a407 1).bind fun a558 =>
        (sliceO s383 0 a558).bind fun a560 =>
        (F_impl_Graph_isGraph (y548.1, y548.2.1, y548.2.2.1, y548.2.2.2)).bind fun y564 =>
        (some (!y564)).bind fun a567 =>
        cond a567
        (some (.inr ((0, [], [], []), false)))
        ((appO a560 [(y548.1, y548.2.1, y548.2.2.1, y548.2.2.2)]).bind fun a577 =>
          some (.inl a577)))
      ((some (decide (a399.1 = 16))).bind fun a415 =>
        cond a415
        ((subO a407 1).bind fun a454 =>
          (idxO s383 a454).bind fun a462 =>
          (idxO s383 a407).bind fun a474 =>
          (F_impl_parGraphs (a462.1, a462.2.1, a462.2.2.1, a462.2.2.2) (a474.1, a474.2.1, a474.2.2.1, a474.2.2.2)).bind fun y480 =>
          (subO a407 1).bind fun a490 =>
          (sliceO s383 0 a490).bind fun a492 =>
          (F_impl_Graph_isGraph (y480.1, y480.2.1, y480.2.2.1, y480.2.2.2)).bind fun y496 =>
          (some (!y496)).bind fun a499 =>
          cond a499
          (some (.inr ((0, [], [], []), false)))
          ((appO a492 [(y480.1, y480.2.1, y480.2.2.1, y480.2.2.2)]).bind fun a509 =>
            some (.inl a509)))
        ((F_impl_leafGraph (a399.1, a399.2.1, a399.2.2)).bind fun y418 =>
          (F_impl_Graph_isGraph (y418.1, y418.2.1, y418.2.2.1, y418.2.2.2)).bind fun y428 =>
          (some (!y428)).bind fun a431 =>
          cond a431
          (some (.inr ((0, [], [], []), false)))
          ((appO s383 [(y418.1, y418.2.1, y418.2.2.1, y418.2.2.2)]).bind fun a441 =>
            some (.inl a441))))
theorem gStep_leaf {t : List Nod} {j : Nat} {n : Nod} {s : List Gra} (ht : t[j]? = some n) (hn : lfB n = true) (hs : s.length ≤ 1000) : gStep t j s = some (.inl (s ++ [leafG n])) := by
  have hm : maxN = 1099511627776 := rfl
  have hk := lfB_k hn
  refine bnd (idxO_of ht) (bnd (subO_of (by omega) (by omega)) (stp (cFW (dF (by omega)) (stp (cFW (dF (by omega)) (bnd (leafGraph_ hn) (bnd (isGraph_ _) (stp ?_))))))))
  rw [(leafG_ok hn).1]
  exact cFW rfl (bnd (appO_of (by simp; omega)) rfl)
theorem gStep_node {t : List Nod} {j : Nat} {k : Int} {s : List Gra} {a b : Gra} (ht : t[j]? = some (k, 0, .empty)) (hk : k = 15 ∨ k = 16) (hs : s.length ≤ 1000) (ga : gOk a = true) (gb : gOk b = true) (hl : k = 15 → a.2.2.2.length = b.2.2.1.length) :
    gStep t j (s ++ [a] ++ [b]) = if gOk (comb k a b) = true then some (.inl (s ++ [comb k a b])) else some (.inr (noG, false)) := by
  have hm : maxN = 1099511627776 := rfl
  have hlen : (s ++ [a] ++ [b]).length = s.length + 2 := by simp
  have e1 : subO (((s ++ [a] ++ [b]).length : Nat) : Int) 1 = some ((s.length + 1 : Nat) : Int) := by rw [hlen, subO_of (by omega) (by omega)]; congr 1; omega
  have e2 : subO ((s.length + 1 : Nat) : Int) 1 = some ((s.length : Nat) : Int) := by rw [subO_of (by omega) (by omega)]; congr 1; omega
  have i1 : (s ++ [a] ++ [b])[s.length]? = some a := by rw [List.append_assoc, List.getElem?_append_right (Nat.le_refl _), Nat.sub_self]; rfl
  have i2 : (s ++ [a] ++ [b])[s.length + 1]? = some b := by rw [List.append_assoc, List.getElem?_append_right (by omega), Nat.add_sub_cancel_left]; rfl
  have sl : sliceO (s ++ [a] ++ [b]) 0 ((s.length : Nat) : Int) = some s := by
    unfold sliceO; rw [if_pos ⟨by omega, by omega, by rw [hlen]; omega⟩, List.append_assoc]
    simp
  have hc := hgComb (k := k) ga gb hl
  refine bnd (idxO_of ht) (bnd e1 ?_)
  by_cases h15 : k = 15
  · refine stp (cTW (dT h15) (bnd e2 (bnd (idxO_of i1) (bnd (idxO_of i2) (bnd (hc.1 h15).2 (bnd e2 (bnd sl (bnd (isGraph_ _) (stp ?_)))))))))
    cases hg : gOk (comb k a b) with
    | false => rfl
    | true => exact cFW rfl (bnd (appO_of (by simp; omega)) rfl)
  · refine stp (cFW (dF h15) (stp (cTW (dT (by dsimp only; omega)) (bnd e2 (bnd (idxO_of i1) (bnd (idxO_of i2) (bnd (hc.2 h15).2 (bnd e2 (bnd sl (bnd (isGraph_ _) (stp ?_)))))))))))
    cases hg : gOk (comb k a b) with
    | false => rfl
    | true => exact cFW rfl (bnd (appO_of (by simp; omega)) rfl)
theorem forO_stepL {σ τ : Type} {f : Nat → σ → Option (σ ⊕ τ)} {n k : Nat} {s s' : σ} (h : f k s = some (.inl s')) : forO f (n + 1) k s = forO f n (k + 1) s' := by
  show (f k s).bind _ = _
  rw [h]; rfl
theorem forO_stepR {σ τ : Type} {f : Nat → σ → Option (σ ⊕ τ)} {n k : Nat} {s : σ} {r : τ} (h : f k s = some (.inr r)) : forO f (n + 1) k s = some (.inr r) := by
  show (f k s).bind _ = _
  rw [h]; rfl
theorem graph_loop {t : List Nod} (ht : t.length ≤ 400) : ∀ {T : Tr} {w : Int × Int}, typT T = some w → ∀ (p q : List Nod) (r : List Gra), t = p ++ (flat T ++ q) → r.length ≤ p.length →
    forO (gStep t) ((flat T).length + q.length) p.length r = if (made T).2 = true then forO (gStep t) q.length (p.length + (flat T).length) (r ++ [(made T).1]) else some (.inr (noG, false))
  | .leaf n, w, h, p, q, r, e, hr => by
    obtain ⟨h1, rfl⟩ := typ_leaf h
    have hlt : p.length < t.length := by rw [e]; simp [flat]
    have hn : t[p.length]? = some n := by rw [e, List.getElem?_append_right (Nat.le_refl _), Nat.sub_self]; rfl
    rw [show (flat (.leaf n)).length + q.length = q.length + 1 by simp [flat]; omega, forO_stepL (gStep_leaf hn h1 (by omega))]
    rfl
  | .node k a b, w, h, p, q, r, e, hr => by
    obtain ⟨hk, x, y, h1, h2, h3⟩ := typ_node h
    have hlen : (flat (.node k a b)).length = (flat a).length + (flat b).length + 1 := by simp [flat]; omega
    have htl : t.length = p.length + ((flat a).length + (flat b).length + 1 + q.length) := by rw [e, List.length_append, List.length_append, hlen]
    have ea : t = p ++ (flat a ++ (flat b ++ ([((k, (0 : Int), ByteArray.empty) : Nod)] ++ q))) := by rw [e]; simp [flat]
    have eb : t = (p ++ flat a) ++ (flat b ++ ([((k, (0 : Int), ByteArray.empty) : Nod)] ++ q)) := by rw [ea]; simp
    have hpa := flat_pos a
    have la := graph_loop ht h1 p (flat b ++ ([((k, (0 : Int), ByteArray.empty) : Nod)] ++ q)) r ea hr
    rw [show (flat (.node k a b)).length + q.length = (flat a).length + (flat b ++ ([((k, (0 : Int), ByteArray.empty) : Nod)] ++ q)).length by rw [hlen]; simp; omega, la, made]
    cases ma : (made a).2 with
    | false => simp
    | true =>
      rw [if_pos rfl]
      have lb := graph_loop ht h2 (p ++ flat a) ([((k, (0 : Int), ByteArray.empty) : Nod)] ++ q) (r ++ [(made a).1]) eb (by simp; omega)
      rw [show (p ++ flat a).length = p.length + (flat a).length from List.length_append] at lb
      rw [show (flat b ++ ([((k, (0 : Int), ByteArray.empty) : Nod)] ++ q)).length = (flat b).length + ([((k, (0 : Int), ByteArray.empty) : Nod)] ++ q).length from List.length_append, lb]
      cases mb : (made b).2 with
      | false => simp
      | true =>
        have e3 : (if true = true ∧ true = true then ifG (comb k (made a).1 (made b).1) else (noG, false)) = ifG (comb k (made a).1 (made b).1) := if_pos ⟨rfl, rfl⟩
        have e4 : ∀ {α : Type} (u v : α), (if true = true then u else v) = u := fun u v => if_pos rfl
        rw [e3, e4]
        obtain ⟨ga, la⟩ := made_ok h1 ma
        obtain ⟨gb, lb⟩ := made_ok h2 mb
        have hn : t[p.length + (flat a).length + (flat b).length]? = some (k, 0, .empty) := by
          rw [show t = (p ++ flat a ++ flat b) ++ ([((k, (0 : Int), ByteArray.empty) : Nod)] ++ q) by rw [ea]; simp, List.getElem?_append_right (by simp; omega)]
          simp [Nat.add_assoc]
        have st := gStep_node (s := r) hn hk (by omega) ga gb (comb_lens la lb h3).2
        rw [show ([((k, (0 : Int), ByteArray.empty) : Nod)] ++ q).length = q.length + 1 by simp]
        by_cases hg : gOk (comb k (made a).1 (made b).1) = true
        · rw [if_pos hg] at st
          have hi : ifG (comb k (made a).1 (made b).1) = (comb k (made a).1 (made b).1, true) := if_pos hg
          rw [forO_stepL st]
          simp only [hi, and_self, if_true]
          rw [hlen, show p.length + ((flat a).length + (flat b).length + 1) = p.length + (flat a).length + (flat b).length + 1 by omega]
        · rw [if_neg hg] at st
          have hi : ifG (comb k (made a).1 (made b).1) = (noG, false) := if_neg hg
          rw [forO_stepR st]
          simp [hi]
theorem graphOf_ {T : Tr} {w : Int × Int} (h : typT T = some w) (hl : (flat T).length ≤ 400) : F_impl_graphOf (flat T) = some (made T) := by
  have loop := graph_loop hl h [] [] [] (by simp) (by simp)
  rw [List.length_nil, Nat.add_zero, Nat.zero_add, List.nil_append] at loop
  have e : F_impl_graphOf (flat T) = seqO (forO (gStep (flat T)) (flat T).length 0 []) fun s590 => (idxO s590 0).bind fun a599 => some ((a599.1, a599.2.1, a599.2.2.1, a599.2.2.2), true) := rfl
  rw [e, loop]
  cases hm : (made T).2 with
  | false =>
    have : made T = (noG, false) := by
      cases T with
      | leaf n => cases hm
      | node k a b =>
        rw [made] at hm ⊢
        split
        · rename_i hab
          rw [if_pos hab] at hm
          unfold ifG at hm ⊢
          split at hm
          · cases hm
          · rw [if_neg ‹_›]
        · rfl
    rw [if_neg (by simp), this]; rfl
  | true =>
    rw [if_pos rfl]
    refine congrArg some (Prod.ext rfl hm.symm)
open Classical in
noncomputable def wGraphOf (t : List Nod) : Gra × Bool := if h : validB t = true then made (Classical.choose (validB_tree h)) else (noG, false)
theorem wGraphOf_eq {t : List Nod} (h : validB t = true) : ∃ T w, t = flat T ∧ typT T = some w ∧ t.length ≤ 400 ∧ wGraphOf t = made T := by
  obtain ⟨w, h1, h2, h3⟩ := Classical.choose_spec (validB_tree h)
  exact ⟨_, w, h1, h2, h3, by unfold wGraphOf; rw [dif_pos h]⟩
theorem specGraphOf (t : List Nod) : F_spec_GraphOf t = some (wGraphOf t) := by
  refine bnd (tmValid_ t) (stp ?_)
  cases hv : validB t with
  | false => unfold wGraphOf; rw [dif_neg (by rw [hv]; simp)]; rfl
  | true =>
    obtain ⟨T, w, rfl, h2, h3, h4⟩ := wGraphOf_eq hv
    rw [h4]
    exact cFW rfl (bnd (hgMade_ 1000000 h2 h3 (by omega)) rfl)
theorem implGraphOf (t : List Nod) : F_impl_GraphOf t = some (wGraphOf t) := by
  refine bnd (isValid_ t) (stp ?_)
  cases hv : validB t with
  | false => unfold wGraphOf; rw [dif_neg (by rw [hv]; simp)]; rfl
  | true =>
    obtain ⟨T, w, rfl, h2, h3, h4⟩ := wGraphOf_eq hv
    rw [h4]
    exact cFW rfl (bnd (graphOf_ h2 h3) rfl)
end Go.Proofs.YtmchibapkddniaaGreat
namespace Go.Proofs.YtmchibapkddniaaGreat

/-! ### lists without repetition -/
theorem seenN_take {n : Nat} (L : List Int) (hL : inRg n L) (hn : L.Nodup) : ∀ k, k ≤ L.length → seenN n (L.take k) = k
  | 0, _ => by unfold seenN; simp
  | k + 1, hk => by
    have ih := seenN_take L hL hn k (by omega)
    have e : L.take (k + 1) = L.take k ++ [L[k]] := by rw [List.take_add_one, List.getElem?_eq_getElem (by omega)]; rfl
    have hr := hL _ (List.getElem_mem (show k < L.length by omega))
    obtain ⟨m, hm⟩ : ∃ m : Nat, L[k] = (m : Int) := ⟨L[k].toNat, by omega⟩
    have hnot : ¬ (m : Int) ∈ L.take k := by
      rw [← hm]
      intro h
      obtain ⟨j, hj, he⟩ := List.mem_iff_getElem.1 h
      have hj' : j < k := by rw [List.length_take] at hj; omega
      rw [List.getElem_take] at he
      have := (List.getElem_inj hn).1 he
      omega
    have := (seen_step n (L.take k) m (by omega) hnot).1
    rw [e, hm, this, ih]
theorem seenN_nodup {n : Nat} {L : List Int} (hL : inRg n L) (hn : L.Nodup) : seenN n L = L.length := by
  have := seenN_take L hL hn L.length (Nat.le_refl _)
  rwa [List.take_length] at this
theorem seenN_full {n : Nat} {L : List Int} : seenN n L = n ↔ ∀ k : Nat, k < n → (k : Int) ∈ L := by
  have : seenN n L = (List.range n).length ↔ _ := List.countP_eq_length
  rw [List.length_range] at this
  rw [this]
  constructor
  · intro h k hk; exact of_decide_eq_true (h k (List.mem_range.2 hk))
  · intro h k hk; exact decide_eq_true (h k (List.mem_range.1 hk))
/-- a list that is short and without repetition holds each number once -/
def permP (n : Nat) (L : List Int) : Prop := L.length = n ∧ inRg n L ∧ L.Nodup
theorem permP_iff {n : Nat} {L : List Int} (hL : inRg n L) : permP n L ↔ ∀ k : Nat, k < n → L.count (k : Int) = 1 := by
  constructor
  · rintro ⟨h1, _, h3⟩ k hk
    have h4 := seenN_nodup hL h3
    have h5 := seenN_full.1 (h4.trans h1) k hk
    exact List.Nodup.count h3 |>.trans (if_pos h5)
  · intro h
    have hn : L.Nodup := by
      rw [List.nodup_iff_count]
      intro a
      by_cases ha : a ∈ L
      · have := hL a ha
        obtain ⟨m, rfl⟩ : ∃ m : Nat, a = (m : Int) := ⟨a.toNat, by omega⟩
        rw [h m (by omega)]; exact Nat.le_refl _
      · rw [List.count_eq_zero.2 ha]; omega
    refine ⟨?_, hL, hn⟩
    rw [← seenN_nodup hL hn]
    refine seenN_full.2 fun k hk => ?_
    have := h k hk
    exact List.count_pos_iff.1 (by omega)

def diffB (n : Nat) (L : List Int) : Bool := wOk n L && decide L.Nodup
theorem nodup_snoc {L : List Int} {x : Int} : (L ++ [x]).Nodup ↔ L.Nodup ∧ ¬ x ∈ L := by
  rw [List.nodup_append]
  constructor
  · rintro ⟨h1, _, h3⟩; exact ⟨h1, fun h => h3 x h x (by simp) rfl⟩
  · rintro ⟨h1, h2⟩; exact ⟨h1, by simp, fun a ha b hb => by rw [List.mem_singleton.1 hb]; rintro rfl; exact h2 ha⟩

/-! ### each wire once -/
def origins (g : Gra) : List Int := g.2.2.1 ++ (g.2.1.map edO).flatten
def ends (g : Gra) : List Int := g.2.2.2 ++ (g.2.1.map edI).flatten
theorem inRg_flat {n : Nat} {E : List Edg} {s : Edg → List Int} (h : ∀ e ∈ E, inRg n (s e)) : inRg n (E.map s).flatten := by
  intro x hx
  obtain ⟨l, hl, hx⟩ := List.mem_flatten.1 hx
  obtain ⟨e, he, rfl⟩ := List.mem_map.1 hl
  exact h e he x hx
theorem inRg_app {n : Nat} {a b : List Int} (ha : inRg n a) (hb : inRg n b) : inRg n (a ++ b) := by
  intro x hx
  rcases List.mem_append.1 hx with h | h
  · exact ha x h
  · exact hb x h
theorem GOk.org {g : Gra} {n : Nat} (h : GOk g n) : inRg n (origins g) := inRg_app h.i (inRg_flat fun e he => (h.e e he).2)
theorem GOk.ends {g : Gra} {n : Nat} (h : GOk g n) : inRg n (ends g) := inRg_app h.o (inRg_flat fun e he => (h.e e he).1)
theorem wOk_of {n : Nat} {l : List Int} (h : inRg n l) : wOk n l = true := List.all_eq_true.2 fun x hx => rng_true.2 (by have := h x hx; omega)
/-- the counts are one -/
theorem ones_perm {n : Nat} {L : List Int} (hL : inRg n L) : ((tabl n fun k => ((L.count (k : Int) : Nat) : Int)).all fun x => rng x 1 1) = (decide (L.length = n) && diffB n L) := by
  rw [Bool.eq_iff_iff, List.all_eq_true]
  have h := permP_iff hL
  constructor
  · intro h1
    have h2 : permP n L := h.2 fun k hk => by
      have := rng_true.1 (h1 _ (List.mem_of_getElem? (tabl_get _ hk)))
      omega
    unfold diffB
    rw [dT h2.1, wOk_of hL, dT h2.2.2]; rfl
  · intro h1 x hx
    unfold diffB at h1
    simp only [Bool.and_eq_true, decide_eq_true_eq] at h1
    obtain ⟨k, hk, rfl⟩ := List.mem_iff_getElem.1 hx
    rw [tabl_len] at hk
    have h2 := h.1 ⟨h1.1, hL, h1.2.2⟩ k hk
    have h3 := tabl_get (n := n) (fun k => ((L.count (k : Int) : Nat) : Int)) hk
    rw [List.getElem?_eq_getElem (by rw [tabl_len]; exact hk)] at h3
    rw [Option.some.inj h3, h2]; rfl
end Go.Proofs.YtmchibapkddniaaGreat
namespace Go.Proofs.YtmchibapkddniaaGreat
set_option linter.unusedVariables false

/-! ### edges in an order -/
def topL (av : List Int) : List Edg → Prop
  | [] => True
  | e :: E => (∀ w ∈ edI e, w ∈ av) ∧ topL (av ++ edO e) E
theorem topL_mono : ∀ {E : List Edg} {av av' : List Int}, (∀ w ∈ av, w ∈ av') → topL av E → topL av' E
  | [], _, _, _, _ => trivial
  | e :: E, av, av', h, ht => ⟨fun w hw => h w (ht.1 w hw), topL_mono (fun w hw => by
      rcases List.mem_append.1 hw with k | k
      · exact List.mem_append_left _ (h w k)
      · exact List.mem_append_right _ k) ht.2⟩
theorem topL_app : ∀ {E E' : List Edg} {av : List Int}, topL av E → topL (av ++ (E.map edO).flatten) E' → topL av (E ++ E')
  | [], E', av, _, h => by
    rw [List.map_nil, List.flatten_nil, List.append_nil] at h; exact h
  | e :: E, E', av, h, h' => ⟨h.1, topL_app h.2 (by
      rw [List.map_cons, List.flatten_cons, ← List.append_assoc] at h'; exact h')⟩
theorem mem_mp {t : Nat → Int} {l : List Int} {x : Int} (h : x ∈ l) : t x.toNat ∈ mp t l := List.mem_map.2 ⟨x, h, rfl⟩
theorem mp_app (t : Nat → Int) (a b : List Int) : mp t (a ++ b) = mp t a ++ mp t b := List.map_append
theorem topL_mp (t : Nat → Int) : ∀ {E : List Edg} {av : List Int}, topL av E → topL (mp t av) (E.map (mpE t))
  | [], _, _ => trivial
  | e :: E, av, h => ⟨fun w hw => by
      rw [edI_mp] at hw
      obtain ⟨x, hx, rfl⟩ := List.mem_map.1 hw
      exact mem_mp (h.1 x hx), by
      have := topL_mp t h.2
      rw [mp_app] at this; exact this⟩
theorem mp_flat (t : Nat → Int) (s : Edg → List Int) (hs : ∀ e, s (mpE t e) = mp t (s e)) : ∀ E : List Edg, ((E.map (mpE t)).map s).flatten = mp t (E.map s).flatten
  | [] => rfl
  | e :: E => by
    rw [List.map_cons, List.map_cons, List.flatten_cons, hs, mp_flat t s hs E, List.map_cons, List.flatten_cons, mp_app]

structure Mono (g : Gra) : Prop where
  on : (origins g).Nodup
  en : (ends g).Nodup
  oe : ∀ x, x ∈ origins g ↔ x ∈ ends g
  top : topL g.2.2.1 g.2.1
theorem org_mpG (w : Int) (t : Nat → Int) (g : Gra) : origins (mpG w t g) = mp t (origins g) := by
  unfold origins mpG
  rw [mp_app, mp_flat t edO (fun e => rfl)]
theorem end_mpG (w : Int) (t : Nat → Int) (g : Gra) : ends (mpG w t g) = mp t (ends g) := by
  unfold ends mpG
  rw [mp_app, mp_flat t edI (fun e => rfl)]
theorem nodup_mp {t : Nat → Int} {l : List Int} (h : l.Nodup) (hi : ∀ x ∈ l, ∀ y ∈ l, t x.toNat = t y.toNat → x = y) : (mp t l).Nodup := by
  induction l with
  | nil => exact List.nodup_nil
  | cons a l ih =>
    rw [List.nodup_cons] at h
    show (t a.toNat :: mp t l).Nodup
    rw [List.nodup_cons]
    refine ⟨fun hm => ?_, ih h.2 fun x hx y hy => hi x (List.mem_cons_of_mem _ hx) y (List.mem_cons_of_mem _ hy)⟩
    obtain ⟨y, hy, e⟩ := List.mem_map.1 hm
    have := hi y (List.mem_cons_of_mem _ hy) a (List.mem_cons_self) e
    rw [this] at hy
    exact h.1 hy

/-! ### a leaf -/
theorem mem_ugL {n : Nat} {x : Int} : x ∈ ugL n ↔ 0 ≤ x ∧ x < n := by
  unfold ugL
  rw [List.mem_map]
  constructor
  · rintro ⟨q, hq, rfl⟩
    rw [List.mem_range] at hq; omega
  · intro h; exact ⟨x.toNat, List.mem_range.2 (by omega), by omega⟩
theorem mem_frL {a b : Nat} {x : Int} : x ∈ frL a b ↔ (a : Int) ≤ x ∧ x < a + b := by
  unfold frL
  rw [List.mem_map]
  constructor
  · rintro ⟨q, hq, rfl⟩
    rw [List.mem_range] at hq; omega
  · intro h; exact ⟨(x - a).toNat, List.mem_range.2 (by omega), by omega⟩
theorem nodup_range_map {f : Nat → Int} (hf : ∀ i j, f i = f j → i = j) : ∀ n, ((List.range n).map f).Nodup
  | 0 => List.nodup_nil
  | n + 1 => by
    rw [List.range_succ, List.map_append, List.map_singleton, nodup_snoc]
    refine ⟨nodup_range_map hf n, fun h => ?_⟩
    obtain ⟨q, hq, e⟩ := List.mem_map.1 h
    rw [List.mem_range] at hq
    have := hf q n e
    omega
theorem ugL_nd (n : Nat) : (ugL n).Nodup := nodup_range_map (fun i j h => by omega) n
theorem frL_nd (a b : Nat) : (frL a b).Nodup := nodup_range_map (fun i j h => by omega) b
theorem leafG_mono {n : Nod} (h : lfB n = true) : Mono (leafG n) := by
  unfold leafG
  by_cases h1 : n.1 = 1
  · rw [if_pos h1]
    refine ⟨?_, ?_, fun x => Iff.rfl, trivial⟩
    · show (ugL n.2.1.toNat ++ _).Nodup
      simpa using ugL_nd n.2.1.toNat
    · show (ugL n.2.1.toNat ++ _).Nodup
      simpa using ugL_nd n.2.1.toNat
  · rw [if_neg h1]
    by_cases h2 : n.1 = 2
    · rw [if_pos h2]
      refine ⟨by decide, by decide, fun x => ?_, trivial⟩
      show x ∈ ([0, 1] : List Int) ++ [] ↔ x ∈ ([1, 0] : List Int) ++ []
      simp only [List.append_nil, List.mem_cons, List.not_mem_nil, or_false]
      exact Or.comm
    · rw [if_neg h2]
      obtain ⟨a, b, e, _, _⟩ := kd_nat n.1
      rw [e]
      dsimp only
      rw [Int.toNat_natCast, Int.toNat_natCast]
      have dj : ∀ x ∈ ugL a, ∀ y ∈ frL a b, x ≠ y := fun x hx y hy => by
        have := mem_ugL.1 hx; have := mem_frL.1 hy; omega
      refine ⟨?_, ?_, fun x => ?_, ⟨fun w hw => hw, trivial⟩⟩
      · show (ugL a ++ (frL a b ++ [])).Nodup
        rw [List.append_nil, List.nodup_append]
        exact ⟨ugL_nd a, frL_nd a b, dj⟩
      · show (frL a b ++ (ugL a ++ [])).Nodup
        rw [List.append_nil, List.nodup_append]
        exact ⟨frL_nd a b, ugL_nd a, fun x hx y hy e => dj y hy x hx e.symm⟩
      · show x ∈ ugL a ++ (frL a b ++ []) ↔ x ∈ frL a b ++ (ugL a ++ [])
        rw [List.append_nil, List.append_nil, List.mem_append, List.mem_append]
        exact Or.comm

/-! ### beside each other -/
theorem shf_inj {n m : Nat} {l : List Int} (h : inRg m l) (hd : l.Nodup) : (mp (shf n) l).Nodup := nodup_mp hd fun x hx y hy e => by
  have := h x hx; have := h y hy
  unfold shf at e; omega
theorem mem_shf {n m : Nat} {l : List Int} (h : inRg m l) {x : Int} : x ∈ mp (shf n) l ↔ x - n ∈ l ∧ (n : Int) ≤ x := by
  constructor
  · intro hx
    obtain ⟨y, hy, rfl⟩ := List.mem_map.1 hx
    have := h y hy
    unfold shf
    refine ⟨?_, by omega⟩
    rw [show ((y.toNat : Nat) : Int) + n - n = y by omega]; exact hy
  · rintro ⟨hx, hn⟩
    have := h _ hx
    refine List.mem_map.2 ⟨_, hx, ?_⟩
    unfold shf; omega
theorem pPar_mono {n m : Nat} {a b : Gra} (ga : GOk a n) (gb : GOk b m) (ha : Mono a) (hb : Mono b) : Mono (pPar n m a b) := by
  have oa := ga.org; have ob := gb.org; have ea := ga.ends; have eb := gb.ends
  have eo : origins (pPar n m a b) = (a.2.2.1 ++ mp (shf n) b.2.2.1) ++ ((a.2.1.map edO).flatten ++ mp (shf n) (b.2.1.map edO).flatten) := by
    unfold origins pPar
    dsimp only
    rw [List.map_append, List.flatten_append]
    congr 2
    exact mp_flat (shf n) edO (fun e => rfl) b.2.1
  have ee : ends (pPar n m a b) = (a.2.2.2 ++ mp (shf n) b.2.2.2) ++ ((a.2.1.map edI).flatten ++ mp (shf n) (b.2.1.map edI).flatten) := by
    unfold ends pPar
    dsimp only
    rw [List.map_append, List.flatten_append]
    congr 2
    exact mp_flat (shf n) edI (fun e => rfl) b.2.1
  have po : (origins (pPar n m a b)).Perm (origins a ++ mp (shf n) (origins b)) := by
    rw [eo]; unfold origins
    rw [mp_app]
    simp only [List.append_assoc]
    refine List.Perm.append_left _ ?_
    rw [← List.append_assoc, ← List.append_assoc]
    exact List.Perm.append_right _ List.perm_append_comm
  have pe : (ends (pPar n m a b)).Perm (ends a ++ mp (shf n) (ends b)) := by
    rw [ee]; unfold ends
    rw [mp_app]
    simp only [List.append_assoc]
    refine List.Perm.append_left _ ?_
    rw [← List.append_assoc, ← List.append_assoc]
    exact List.Perm.append_right _ List.perm_append_comm
  refine ⟨po.nodup_iff.2 (List.nodup_append.2 ⟨ha.on, shf_inj ob hb.on, fun x hx y hy e => ?_⟩), pe.nodup_iff.2 (List.nodup_append.2 ⟨ha.en, shf_inj eb hb.en, fun x hx y hy e => ?_⟩), fun x => ?_, ?_⟩
  · have := oa x hx; have := (mem_shf ob).1 hy; omega
  · have := ea x hx; have := (mem_shf eb).1 hy; omega
  · rw [po.mem_iff, pe.mem_iff, List.mem_append, List.mem_append, mem_shf ob, mem_shf eb, ha.oe, hb.oe]
  · unfold pPar
    dsimp only
    refine topL_app (topL_mono (fun w hw => List.mem_append_left _ hw) ha.top) ?_
    exact topL_mono (fun w hw => List.mem_append_left _ (List.mem_append_right _ hw)) (topL_mp (shf n) hb.top)

/-! ### one behind the other -/
theorem clsL_look {n : Nat} : ∀ {P : List (Int × Int)}, (∀ p ∈ P, 0 ≤ p.1 ∧ p.1 < (n : Int) ∧ (n : Int) ≤ p.2) → (P.map fun p => p.2).Nodup → ∀ w : Nat, (∀ p ∈ P, p.2.toNat = w → clsL P w = p.1.toNat) ∧ ((∀ p ∈ P, p.2.toNat ≠ w) → clsL P w = w) := by
  have key : ∀ (k : Nat) (P : List (Int × Int)), P.length = k → (∀ p ∈ P, 0 ≤ p.1 ∧ p.1 < (n : Int) ∧ (n : Int) ≤ p.2) → (P.map fun p => p.2).Nodup → ∀ w : Nat, (∀ p ∈ P, p.2.toNat = w → clsL P w = p.1.toNat) ∧ ((∀ p ∈ P, p.2.toNat ≠ w) → clsL P w = w) := by
    intro k
    induction k with
    | zero =>
      intro P hP _ _ w
      obtain rfl := List.eq_nil_of_length_eq_zero hP
      exact ⟨fun p hp => (nomatch hp), fun _ => rfl⟩
    | succ k ih =>
      intro P hl hP hnd w
      obtain ⟨Q, q, rfl⟩ : ∃ Q q, P = Q ++ [q] := by
        rcases List.eq_nil_or_concat P with rfl | ⟨Q, q, rfl⟩
        · cases hl
        · exact ⟨Q, q, by simp⟩
      have hq := hP q (by simp)
      have hQ : ∀ p ∈ Q, 0 ≤ p.1 ∧ p.1 < (n : Int) ∧ (n : Int) ≤ p.2 := fun p hp => hP p (List.mem_append_left _ hp)
      rw [List.map_append, List.map_singleton, nodup_snoc] at hnd
      have ihw := ih Q (by simpa using hl) hQ hnd.1
      have hq2 : ∀ p ∈ Q, p.2.toNat ≠ q.2.toNat := fun p hp e => by
        have := hQ p hp
        exact hnd.2 (List.mem_map.2 ⟨p, hp, by omega⟩)
      have c2 : clsL Q q.2.toNat = q.2.toNat := (ihw q.2.toNat).2 hq2
      have c1 : clsL Q q.1.toNat = q.1.toNat := (ihw q.1.toNat).2 fun p hp => by have := hQ p hp; omega
      have hcl : ∀ v, clsL (Q ++ [q]) v = if clsL Q v = q.2.toNat then q.1.toNat else clsL Q v := by
        intro v
        rw [clsL_snoc]
        unfold joinC
        rw [c1, c2, Nat.max_eq_right (by omega), Nat.min_eq_left (by omega)]
      have hB : ∀ v, clsL Q v = q.2.toNat → v = q.2.toNat := by
        intro v hv
        refine Decidable.byContradiction fun hne => ?_
        by_cases hex : ∃ p ∈ Q, p.2.toNat = v
        · obtain ⟨p, hp, e⟩ := hex
          have := (ihw v).1 p hp e
          have := hQ p hp
          omega
        · have := (ihw v).2 (fun p hp e => hex ⟨p, hp, e⟩)
          omega
      refine ⟨fun p hp e => ?_, fun hno => ?_⟩
      · rw [hcl]
        rcases List.mem_append.1 hp with h | h
        · have h1 := (ihw w).1 p h e
          have := hQ p h
          rw [if_neg (by omega), h1]
        · obtain rfl := List.mem_singleton.1 h
          rw [← e, c2, if_pos rfl]
      · rw [hcl]
        have h1 := (ihw w).2 fun p hp => hno p (List.mem_append_left _ hp)
        rw [if_neg (fun h => hno q (by simp) (hB w h).symm), h1]
  intro P
  exact key P.length P rfl
theorem numW_mono {cls : Nat → Nat} {W : List Int} : ∀ {i j : Nat}, i ≤ j → numW cls W i ≤ numW cls W j
  | i, 0, h => by rw [show i = 0 by omega]; exact Nat.le_refl _
  | i, j + 1, h => by
    by_cases he : i = j + 1
    · rw [he]; exact Nat.le_refl _
    · have := numW_mono (cls := cls) (W := W) (show i ≤ j by omega)
      rw [numW_succ]; omega
theorem numW_lt {cls : Nat → Nat} {W : List Int} {i j : Nat} (h : i < j) (hi : cls i = i) (hu : usedW cls W i = true) : numW cls W i < numW cls W j := by
  have h1 := numW_mono (cls := cls) (W := W) (show i + 1 ≤ j by omega)
  rw [numW_succ, dT hi, hu] at h1
  simp only [Bool.and_self, if_true] at h1
  omega
theorem usedW_mem {cls : Nat → Nat} {W : List Int} {x : Int} (h : x ∈ W) : usedW cls W (cls x.toNat) = true := by
  unfold usedW
  rw [List.any_eq_true]
  exact ⟨x, h, dT rfl⟩
theorem toW_inj {cls : Nat → Nat} (hc : Cls cls) {W : List Int} {x y : Int} (hx : x ∈ W) (hy : y ∈ W) : toW cls W x.toNat = toW cls W y.toNat ↔ cls x.toNat = cls y.toNat := by
  constructor
  · intro h
    unfold toW at h
    rw [if_pos (usedW_mem hx), if_pos (usedW_mem hy)] at h
    rcases Nat.lt_trichotomy (cls x.toNat) (cls y.toNat) with k | k | k
    · have := numW_lt (W := W) k (hc.idem _) (usedW_mem hx); omega
    · exact k
    · have := numW_lt (W := W) k (hc.idem _) (usedW_mem hy); omega
  · intro h
    unfold toW
    rw [h]
theorem zip_mem_right {α β : Type} : ∀ {a : List α} {b : List β}, a.length = b.length → ∀ y ∈ b, ∃ x, (x, y) ∈ a.zip b
  | [], [], _, y, h => nomatch h
  | [], _ :: _, h, _, _ => nomatch h
  | _ :: _, [], h, _, _ => nomatch h
  | x :: a, z :: b, h, y, hy => by
    rcases List.mem_cons.1 hy with rfl | hy
    · exact ⟨x, List.mem_cons_self⟩
    · obtain ⟨x', hx'⟩ := zip_mem_right (by simpa using h) y hy
      exact ⟨x', List.mem_cons_of_mem _ hx'⟩
theorem zip_mem_left {α β : Type} : ∀ {a : List α} {b : List β}, a.length = b.length → ∀ x ∈ a, ∃ y, (x, y) ∈ a.zip b
  | [], [], _, y, h => nomatch h
  | [], _ :: _, h, _, _ => nomatch h
  | _ :: _, [], h, _, _ => nomatch h
  | x :: a, z :: b, h, y, hy => by
    rcases List.mem_cons.1 hy with rfl | hy
    · exact ⟨z, List.mem_cons_self⟩
    · obtain ⟨x', hx'⟩ := zip_mem_left (by simpa using h) y hy
      exact ⟨x', List.mem_cons_of_mem _ hx'⟩
theorem zip_snd {α β : Type} : ∀ {a : List α} {b : List β}, a.length = b.length → (a.zip b).map (fun p => p.2) = b
  | [], [], _ => rfl
  | [], _ :: _, h => nomatch h
  | _ :: _, [], h => nomatch h
  | x :: a, z :: b, h => by
    exact congrArg (z :: ·) (zip_snd (by simpa using h))
theorem zip_fst_inj {α β : Type} : ∀ {a : List α} {b : List β} {x : α} {y z : β}, a.Nodup → (x, y) ∈ a.zip b → (x, z) ∈ a.zip b → y = z
  | [], _, _, _, _, _, h, _ => nomatch h
  | _ :: _, [], _, _, _, _, h, _ => nomatch h
  | c :: a, d :: b, x, y, z, hn, h1, h2 => by
    rw [List.nodup_cons] at hn
    rcases List.mem_cons.1 h1 with e1 | e1 <;> rcases List.mem_cons.1 h2 with e2 | e2
    · cases e1; cases e2; rfl
    · cases e1; exact absurd (List.of_mem_zip e2).1 hn.1
    · cases e2; exact absurd (List.of_mem_zip e1).1 hn.1
    · exact zip_fst_inj hn.2 e1 e2
theorem org_bef (n m : Nat) (a b : Gra) : origins (befG n m a b) = origins a ++ mp (shf n) (b.2.1.map edO).flatten := by
  unfold origins befG
  dsimp only
  rw [List.map_append, List.flatten_append, mp_flat (shf n) edO (fun e => rfl), List.append_assoc]
theorem end_bef (n m : Nat) (a b : Gra) : ends (befG n m a b) = mp (shf n) b.2.2.2 ++ ((a.2.1.map edI).flatten ++ mp (shf n) (b.2.1.map edI).flatten) := by
  unfold ends befG
  dsimp only
  rw [List.map_append, List.flatten_append, mp_flat (shf n) edI (fun e => rfl)]
theorem org_allW {g : Gra} {x : Int} (h : x ∈ origins g) : x ∈ allW g := by
  rw [mem_allW]
  rcases List.mem_append.1 h with h | h
  · exact .inl h
  · obtain ⟨l, hl, hx⟩ := List.mem_flatten.1 h
    obtain ⟨e, he, rfl⟩ := List.mem_map.1 hl
    exact .inr (.inr ⟨e, he, .inr hx⟩)
theorem end_allW {g : Gra} {x : Int} (h : x ∈ ends g) : x ∈ allW g := by
  rw [mem_allW]
  rcases List.mem_append.1 h with h | h
  · exact .inr (.inl h)
  · obtain ⟨l, hl, hx⟩ := List.mem_flatten.1 h
    obtain ⟨e, he, rfl⟩ := List.mem_map.1 hl
    exact .inr (.inr ⟨e, he, .inl hx⟩)
theorem pSeq_mono {n m : Nat} {a b : Gra} (ga : GOk a n) (gb : GOk b m) (hl : a.2.2.2.length = b.2.2.1.length) (ha : Mono a) (hb : Mono b) : Mono (pSeq n m a b) := by
  have oa := ga.org; have ob := gb.org; have ea := ga.ends; have eb := gb.ends
  have bi : inRg m b.2.2.1 := gb.i
  have fo : inRg m (b.2.1.map edO).flatten := inRg_flat fun e he => (gb.e e he).2
  have fi : inRg m (b.2.1.map edI).flatten := inRg_flat fun e he => (gb.e e he).1
  have on2 := List.nodup_append.1 hb.on
  have en2 := List.nodup_append.1 ha.en
  have hl2 : a.2.2.2.length = (mp (shf n) b.2.2.1).length := by rw [mp_len]; exact hl
  have hP : ∀ p ∈ a.2.2.2.zip (mp (shf n) b.2.2.1), 0 ≤ p.1 ∧ p.1 < (n : Int) ∧ (n : Int) ≤ p.2 := fun p hp => by
    have h1 := List.of_mem_zip (a := p.1) (b := p.2) hp
    have h2 := ga.o _ h1.1
    have h3 := (mem_shf bi).1 h1.2
    omega
  have hnd : ((a.2.2.2.zip (mp (shf n) b.2.2.1)).map fun p => p.2).Nodup := by
    rw [zip_snd hl2]; exact shf_inj bi on2.1
  have look := clsL_look hP hnd
  have hc := clsL_ok (a.2.2.2.zip (mp (shf n) b.2.2.1))
  generalize eP : a.2.2.2.zip (mp (shf n) b.2.2.1) = P at hP hnd look hc
  -- classes of wires that are not the second's inputs
  have low : ∀ x : Int, 0 ≤ x → x < (n : Int) → clsL P x.toNat = x.toNat := fun x h0 h1 => (look x.toNat).2 fun p hp => by have := hP p hp; omega
  have high : ∀ x : Int, (n : Int) ≤ x → x ∉ mp (shf n) b.2.2.1 → clsL P x.toNat = x.toNat := fun x h0 h1 => (look x.toNat).2 fun p hp e => by
    have h2 := hP p hp
    rw [← eP] at hp
    have := (List.of_mem_zip (a := p.1) (b := p.2) hp).2
    rw [show p.2 = x by omega] at this
    exact h1 this
  have e0 : pSeq n m a b = mpG (numW (clsL P) (allW (befG n m a b)) (n + m) : Int) (toW (clsL P) (allW (befG n m a b))) (befG n m a b) := by
    unfold pSeq gluG; rw [eP]
  have eX := org_bef n m a b
  have eY := end_bef n m a b
  have inj := fun {x y : Int} (hx : x ∈ allW (befG n m a b)) (hy : y ∈ allW (befG n m a b)) => toW_inj hc hx hy
  -- identity on the origins
  have idX : ∀ x ∈ origins (befG n m a b), 0 ≤ x ∧ clsL P x.toNat = x.toNat := fun x hx => by
    rw [eX] at hx
    rcases List.mem_append.1 hx with h | h
    · have := oa x h
      exact ⟨by omega, low x (by omega) (by omega)⟩
    · have h1 := (mem_shf fo).1 h
      refine ⟨by omega, high x h1.2 fun h2 => ?_⟩
      have h3 := (mem_shf bi).1 h2
      exact on2.2.2 _ h3.1 _ h1.1 rfl
  -- the second's inputs are the first's outputs
  have pair : ∀ x ∈ a.2.2.2, ∃ y ∈ b.2.2.1, clsL P (y + n).toNat = clsL P x.toNat := fun x hx => by
    obtain ⟨y, hy⟩ := zip_mem_left hl2 x hx
    rw [eP] at hy
    have h1 := (look y.toNat).1 _ hy rfl
    have h2 := hP _ hy
    rw [← eP] at hy
    have h3 := (mem_shf bi).1 (List.of_mem_zip hy).2
    refine ⟨y - n, h3.1, ?_⟩
    rw [show y - (n : Int) + n = y by omega, h1, low x h2.1 h2.2.1]
  have pair2 : ∀ y ∈ b.2.2.1, ∃ x ∈ a.2.2.2, (x, y + n) ∈ P ∧ clsL P (y + n).toNat = x.toNat := fun y hy => by
    have hm : y + n ∈ mp (shf n) b.2.2.1 := (mem_shf bi).2 ⟨by rw [show y + (n : Int) - n = y by omega]; exact hy, by have := bi y hy; omega⟩
    obtain ⟨x, hx⟩ := zip_mem_right hl2 _ hm
    have hxa := (List.of_mem_zip hx).1
    rw [eP] at hx
    exact ⟨x, hxa, hx, (look _).1 _ hx rfl⟩
  have inY : ∀ y, y ∈ ends b → y + n ∈ ends (befG n m a b) := fun y hy => by
    rw [eY]
    have hr := eb y hy
    rcases List.mem_append.1 hy with h | h
    · exact List.mem_append_left _ ((mem_shf gb.o).2 ⟨by rw [show y + (n : Int) - n = y by omega]; exact h, by omega⟩)
    · exact List.mem_append_right _ (List.mem_append_right _ ((mem_shf fi).2 ⟨by rw [show y + (n : Int) - n = y by omega]; exact h, by omega⟩))
  have inX : ∀ y, y ∈ (b.2.1.map edO).flatten → y + n ∈ origins (befG n m a b) := fun y hy => by
    rw [eX]
    have := fo y hy
    exact List.mem_append_right _ ((mem_shf fo).2 ⟨by rw [show y + (n : Int) - n = y by omega]; exact hy, by omega⟩)
  rw [e0]
  generalize hW : allW (befG n m a b) = W at inj
  have wX : ∀ x ∈ origins (befG n m a b), x ∈ W := fun x hx => by rw [← hW]; exact org_allW hx
  have wY : ∀ x ∈ ends (befG n m a b), x ∈ W := fun x hx => by rw [← hW]; exact end_allW hx
  refine ⟨?_, ?_, fun x => ?_, ?_⟩
  · rw [org_mpG]
    refine nodup_mp ?_ fun x hx y hy e => ?_
    · rw [eX, List.nodup_append]
      refine ⟨ha.on, shf_inj fo on2.2.1, fun x hx y hy e => ?_⟩
      have := oa x hx; have := (mem_shf fo).1 hy; omega
    · have h1 := (inj (wX x hx) (wX y hy)).1 e
      have h2 := idX x hx; have h3 := idX y hy
      omega
  · rw [end_mpG]
    refine nodup_mp ?_ fun x hx y hy e => ?_
    · rw [eY, List.nodup_append]
      have en3 := List.nodup_append.1 hb.en
      refine ⟨shf_inj gb.o en3.1, List.nodup_append.2 ⟨en2.2.1, shf_inj fi en3.2.1, fun x hx y hy e => ?_⟩, fun x hx y hy e => ?_⟩
      · have := (inRg_flat (s := edI) fun e he => (ga.e e he).1) x hx; have := (mem_shf fi).1 hy; omega
      · have h1 := (mem_shf gb.o).1 hx
        rcases List.mem_append.1 hy with h | h
        · have := (inRg_flat (s := edI) fun e he => (ga.e e he).1) y h; omega
        · have h2 := (mem_shf fi).1 h
          exact en3.2.2 _ h1.1 _ h2.1 (by rw [e])
    · have h1 := (inj (wY x hx) (wY y hy)).1 e
      -- a wire of the ends: its class
      have cl : ∀ z ∈ ends (befG n m a b), 0 ≤ z ∧ ((clsL P z.toNat = z.toNat ∧ (z < n → z ∈ (a.2.1.map edI).flatten)) ∨ ∃ w ∈ a.2.2.2, (w, z) ∈ P ∧ clsL P z.toNat = w.toNat) := by
        intro z hz
        rw [eY] at hz
        by_cases hzn : (n : Int) ≤ z
        · refine ⟨by omega, ?_⟩
          by_cases hb2 : z ∈ mp (shf n) b.2.2.1
          · obtain ⟨w, h2, h3, h4⟩ := pair2 _ ((mem_shf bi).1 hb2).1
            rw [show z - (n : Int) + n = z by omega] at h3 h4
            exact .inr ⟨w, h2, h3, h4⟩
          · exact .inl ⟨high z hzn hb2, fun h => by omega⟩
        · have hm : z ∈ (a.2.1.map edI).flatten := by
            rcases List.mem_append.1 hz with h | h
            · exact absurd ((mem_shf gb.o).1 h).2 hzn
            · rcases List.mem_append.1 h with h | h
              · exact h
              · exact absurd ((mem_shf fi).1 h).2 hzn
          have := (inRg_flat (s := edI) fun e he => (ga.e e he).1) z hm
          exact ⟨by omega, .inl ⟨low z (by omega) (by omega), fun _ => hm⟩⟩
      obtain ⟨x0, cx⟩ := cl x hx
      obtain ⟨y0, cy⟩ := cl y hy
      rcases cx with ⟨c1, d1⟩ | ⟨w, w1, w2, w3⟩ <;> rcases cy with ⟨c2, d2⟩ | ⟨v, v1, v2, v3⟩
      · omega
      · have hv := ga.o v v1
        have hxv : x = v := by omega
        exact absurd rfl (en2.2.2 v v1 v (by rw [← hxv]; exact d1 (by omega)))
      · have hv := ga.o w w1
        have hxv : y = w := by omega
        exact absurd rfl (en2.2.2 w w1 w (by rw [← hxv]; exact d2 (by omega)))
      · have hv := ga.o w w1; have hv2 := ga.o v v1
        have hwv : w = v := by omega
        subst hwv
        rw [← eP] at w2 v2
        exact zip_fst_inj en2.1 w2 v2
  · rw [org_mpG, end_mpG]
    have t1 : ∀ x ∈ origins (befG n m a b), ∃ y ∈ ends (befG n m a b), clsL P y.toNat = clsL P x.toNat := by
      intro x hx
      rw [eX] at hx
      rcases List.mem_append.1 hx with h | h
      · rcases List.mem_append.1 ((ha.oe x).1 h) with h1 | h1
        · obtain ⟨y, hy, e⟩ := pair x h1
          exact ⟨y + n, inY y ((hb.oe y).1 (List.mem_append_left _ hy)), e⟩
        · exact ⟨x, by rw [eY]; exact List.mem_append_right _ (List.mem_append_left _ h1), rfl⟩
      · have h1 := (mem_shf fo).1 h
        refine ⟨x, ?_, rfl⟩
        have := inY _ ((hb.oe _).1 (List.mem_append_right _ h1.1))
        rwa [show x - (n : Int) + n = x by omega] at this
    have t2 : ∀ y ∈ ends (befG n m a b), ∃ x ∈ origins (befG n m a b), clsL P x.toNat = clsL P y.toNat := by
      have sec : ∀ y, y ∈ ends b → ∃ x ∈ origins (befG n m a b), clsL P x.toNat = clsL P (y + n).toNat := by
        intro y hy
        rcases List.mem_append.1 ((hb.oe y).2 hy) with h | h
        · obtain ⟨x, h1, _, h3⟩ := pair2 y h
          have := ga.o x h1
          refine ⟨x, by rw [eX]; exact List.mem_append_left _ ((ha.oe x).2 (List.mem_append_left _ h1)), ?_⟩
          rw [h3, low x (by omega) (by omega)]
        · exact ⟨y + n, inX y h, rfl⟩
      intro y hy
      rw [eY] at hy
      rcases List.mem_append.1 hy with h | h
      · have h1 := (mem_shf gb.o).1 h
        have := sec _ (List.mem_append_left _ h1.1)
        rwa [show y - (n : Int) + n = y by omega] at this
      · rcases List.mem_append.1 h with h | h
        · exact ⟨y, by rw [eX]; exact List.mem_append_left _ ((ha.oe y).2 (List.mem_append_right _ h)), rfl⟩
        · have h1 := (mem_shf fi).1 h
          have := sec _ (List.mem_append_right _ h1.1)
          rwa [show y - (n : Int) + n = y by omega] at this
    constructor
    · intro hx
      obtain ⟨u, hu, rfl⟩ := List.mem_map.1 hx
      obtain ⟨v, hv, e⟩ := t1 u hu
      rw [← (inj (wY v hv) (wX u hu)).2 e]
      exact mem_mp hv
    · intro hx
      obtain ⟨u, hu, rfl⟩ := List.mem_map.1 hx
      obtain ⟨v, hv, e⟩ := t2 u hu
      rw [← (inj (wX v hv) (wY u hu)).2 e]
      exact mem_mp hv
  · unfold mpG befG
    dsimp only
    rw [List.map_append]
    refine topL_app (topL_mp _ ha.top) ?_
    have h1 := topL_mp (toW (clsL P) W) (topL_mp (shf n) hb.top)
    refine topL_mono (fun w hw => ?_) h1
    obtain ⟨u, hu, rfl⟩ := List.mem_map.1 hw
    have h2 := (mem_shf bi).1 hu
    obtain ⟨x, x1, _, x3⟩ := pair2 _ h2.1
    rw [show u - (n : Int) + n = u by omega] at x3
    have hxo := (ha.oe x).2 (List.mem_append_left _ x1)
    have hx0 := ga.o x x1
    have hxW : x ∈ W := wX x (by rw [eX]; exact List.mem_append_left _ hxo)
    have huW : u ∈ W := by
      have := wY _ (inY _ ((hb.oe _).1 (List.mem_append_left _ h2.1)))
      rwa [show u - (n : Int) + n = u by omega] at this
    rw [← (inj hxW huW).2 (by rw [x3, low x (by omega) (by omega)])]
    rw [mp_flat _ edO (fun e => rfl), ← mp_app]
    exact mem_mp hxo
theorem made_mono : ∀ {T : Tr} {w : Int × Int}, typT T = some w → (made T).2 = true → Mono (made T).1
  | .leaf n, w, h, _ => leafG_mono (typ_leaf h).1
  | .node k a b, w, h, hm => by
    obtain ⟨hk, x, y, h1, h2, h3⟩ := typ_node h
    unfold made at hm ⊢
    split at hm
    · rename_i hab
      rw [if_pos hab]
      obtain ⟨g1, g2⟩ := ifG_ok hm
      obtain ⟨a1, a2⟩ := made_ok h1 hab.1
      obtain ⟨b1, b2⟩ := made_ok h2 hab.2
      have ma := made_mono h1 hab.1
      have mb := made_mono h2 hab.2
      have hl := (comb_lens a2 b2 h3).2
      obtain ⟨na, fa⟩ := gOk_facts a1
      obtain ⟨nb, fb⟩ := gOk_facts b1
      rw [g2]
      unfold comb
      rw [fa.w, fb.w, Int.toNat_natCast, Int.toNat_natCast]
      by_cases hk15 : k = 15
      · rw [if_pos hk15]; exact pSeq_mono fa fb (hl hk15) ma mb
      · rw [if_neg hk15]; exact pPar_mono fa fb ma mb
    · cases hm

end Go.Proofs.YtmchibapkddniaaGreat
