/-
  Plain laws: terms as trees; what a valid term is (the reference's test and the program's). No program in sight. No condition.
-/
import Derived.Test.YtciiinolpaohpaaDoorZP34
import Derived.Test.YtciiinolpaohpaaDoorZText
namespace Go.Proofs.YtciiinolpaohpaaDoor

abbrev Nod := Int × Int × ByteArray
inductive Tr where
  | leaf (n : Nod)
  | node (k : Int) (a b : Tr)
def flat : Tr → List Nod
  | .leaf n => [n]
  | .node k a b => flat a ++ flat b ++ [(k, 0, .empty)]
theorem flat_pos : ∀ T : Tr, 0 < (flat T).length
  | .leaf _ => by simp [flat]
  | .node _ _ _ => by simp [flat]; omega
/-- the leaves -/
def lfB (n : Nod) : Bool := decide (n.2.2 = .empty) && (rng n.1 1 14 && (if n.1 = 1 then rng n.2.1 0 12 else if n.1 = 7 ∨ n.1 = 13 then rng n.2.1 0 96 else decide (n.2.1 = 0)))
def lfT (n : Nod) : Int × Int := if n.1 = 1 then (n.2.1, n.2.1) else kd n.1
def jn (k : Int) (x y : Int × Int) : Option (Int × Int) := if k = 15 then (if x.2 = y.1 then some (x.1, y.2) else none) else if x.1 + y.1 ≤ 12 ∧ x.2 + y.2 ≤ 12 then some (x.1 + y.1, x.2 + y.2) else none
abbrev Stk := List (Tr × (Int × Int))
def stepT (S : Stk) (n : Nod) : Option Stk :=
  if n.1 = 15 ∨ n.1 = 16 then
    if n.2.1 = 0 ∧ n.2.2 = .empty then match S with
      | (b, y) :: (a, x) :: S' => (jn n.1 x y).map fun w => (.node n.1 a b, w) :: S'
      | _ => none
    else none
  else if lfB n = true then some ((.leaf n, lfT n) :: S) else none
def runT : List Nod → Stk → Option Stk
  | [], S => some S
  | n :: t, S => (stepT S n).bind fun S' => runT t S'
theorem runT_app : ∀ (a b : List Nod) (S : Stk), runT (a ++ b) S = (runT a S).bind fun S' => runT b S'
  | [], b, S => rfl
  | n :: a, b, S => by
    show (stepT S n).bind _ = ((stepT S n).bind _).bind _
    cases stepT S n with
    | none => rfl
    | some S' => exact runT_app a b S'
theorem runT_take {t : List Nod} {j : Nat} (hj : j < t.length) {S : Stk} (h : runT (t.take j) [] = some S) : runT (t.take (j + 1)) [] = stepT S t[j] := by
  rw [List.take_add_one, List.getElem?_eq_getElem hj, runT_app, h]
  show (stepT S t[j]).bind _ = _
  cases stepT S t[j] <;> rfl
theorem runT_none {t : List Nod} {j : Nat} (h : runT (t.take j) [] = none) : runT t [] = none := by
  have : t = t.take j ++ t.drop j := (List.take_append_drop _ _).symm
  rw [this, runT_app, h]; rfl
def validB (t : List Nod) : Bool := rng t.length 1 400 && (match runT t [] with | some [_] => true | _ => false)
/-- what holds of all trees on the stack -/
def wOk2 (w : Int × Int) : Prop := 0 ≤ w.1 ∧ w.1 ≤ 12 ∧ 0 ≤ w.2 ∧ w.2 ≤ 12
theorem lfT_ok {n : Nod} (h : lfB n = true) : wOk2 (lfT n) := by
  unfold lfB at h
  simp only [Bool.and_eq_true, decide_eq_true_eq] at h
  unfold lfT
  by_cases h1 : n.1 = 1
  · rw [if_pos h1]
    rw [if_pos h1] at h
    have := rng_true.1 h.2.2
    exact ⟨this.1, this.2, this.1, this.2⟩
  · rw [if_neg h1]
    have := kd_le n.1
    exact ⟨by omega, by omega, by omega, by omega⟩
theorem jn_ok {k : Int} {x y w : Int × Int} (hx : wOk2 x) (hy : wOk2 y) (h : jn k x y = some w) : wOk2 w := by
  obtain ⟨a1, a2, a3, a4⟩ := hx
  obtain ⟨b1, b2, b3, b4⟩ := hy
  unfold jn at h
  split at h
  · split at h
    · obtain rfl := Option.some.inj h; exact ⟨a1, a2, b3, b4⟩
    · cases h
  · split at h
    · obtain rfl := Option.some.inj h
      exact ⟨by dsimp only; omega, by dsimp only; omega, by dsimp only; omega, by dsimp only; omega⟩
    · cases h
def stkOk (S : Stk) : Prop := ∀ p ∈ S, wOk2 p.2
theorem stepT_ok {S S' : Stk} {n : Nod} (hS : stkOk S) (h : stepT S n = some S') : stkOk S' := by
  unfold stepT at h
  split at h
  · split at h
    · split at h
      · rename_i b y a x S0
        obtain ⟨w, hw, rfl⟩ := Option.map_eq_some_iff.1 h
        intro p hp
        rcases List.mem_cons.1 hp with rfl | hp
        · exact jn_ok (hS (a, x) (by simp)) (hS (b, y) (by simp)) hw
        · exact hS p (by simp [hp])
      · cases h
    · cases h
  · split at h
    · obtain rfl := Option.some.inj h
      intro p hp
      rcases List.mem_cons.1 hp with rfl | hp
      · exact lfT_ok ‹_›
      · exact hS p hp
    · cases h
theorem runT_ok : ∀ (t : List Nod) (S S' : Stk), stkOk S → runT t S = some S' → stkOk S'
  | [], S, S', hS, h => by obtain rfl := Option.some.inj h; exact hS
  | n :: t, S, S', hS, h => by
    obtain ⟨S1, h1, h2⟩ := bindS h
    exact runT_ok t S1 S' (stepT_ok hS h1) h2
/-- the nodes of the stack's trees are what has been read -/
def stkN (S : Stk) : List Nod := (S.reverse.map fun p => flat p.1).flatten
theorem stepT_flat {S S' : Stk} {n : Nod} (h : stepT S n = some S') : stkN S' = stkN S ++ [n] := by
  unfold stepT at h
  split at h
  · split at h
    · rename_i h0
      split at h
      · rename_i b y a x S0
        obtain ⟨w, hw, rfl⟩ := Option.map_eq_some_iff.1 h
        unfold stkN
        obtain ⟨k, v, s⟩ := n
        obtain ⟨rfl, rfl⟩ := h0
        simp [flat, List.append_assoc]
      · cases h
    · cases h
  · split at h
    · obtain rfl := Option.some.inj h
      unfold stkN
      simp [flat]
    · cases h
theorem runT_flat : ∀ (t : List Nod) (S S' : Stk), runT t S = some S' → stkN S' = stkN S ++ t
  | [], S, S', h => by obtain rfl := Option.some.inj h; simp
  | n :: t, S, S', h => by
    obtain ⟨S1, h1, h2⟩ := bindS h
    rw [runT_flat t S1 S' h2, stepT_flat h1, List.append_assoc]; rfl

/-! ### leaves in both -/
theorem tmLeaf_ (n : Nod) : F_spec_tmLeaf n = some (lfB n) := by
  obtain ⟨k, v, s⟩ := n
  unfold F_spec_tmLeaf lfB
  by_cases hs : s = .empty
  case neg => simp [hs]
  cases hr : rng k 1 14 with
  | false => simp [hs, l1In, hr]
  | true =>
    by_cases h1 : k = 1
    · subst h1; simp [hs, l1In, hr]
    by_cases h7 : k = 7
    · subst h7; simp [hs, l1In, hr]
    by_cases h13 : k = 13
    · subst h13; simp [hs, l1In, hr]
    simp [hs, l1In, hr, h1, h7, h13]
theorem tmArity_ (n : Nod) : F_spec_tmArity n = some (lfT n) := by
  obtain ⟨k, v, s⟩ := n
  unfold F_spec_tmArity lfT
  by_cases h1 : k = 1
  · simp [h1]
  · simp [h1, tmKind_]
theorem leafWires_ (n : Nod) : ∃ w, F_impl_leafWires n = some (w, lfB n) ∧ (lfB n = true → w = lfT n) := by
  obtain ⟨k, v, s⟩ := n
  by_cases hs : s = .empty
  case neg =>
    refine ⟨(0, 0), ?_, fun h => ?_⟩
    · unfold F_impl_leafWires lfB; simp [hs]
    · unfold lfB at h; simp [hs] at h
  by_cases h1 : k = 1
  · subst h1
    refine ⟨(v, v), ?_, fun _ => rfl⟩
    have hr : rng 1 1 14 = true := by decide
    unfold F_impl_leafWires lfB; simp [hs, within_, hr]
  by_cases h2 : k = 2
  · subst h2
    refine ⟨(2, 2), ?_, fun _ => rfl⟩
    have hr : rng 2 1 14 = true := by decide
    unfold F_impl_leafWires lfB; simp [hs, hr]
  cases hg : rng k 3 14 with
  | false =>
    have hr : rng k 1 14 = false := by
      cases hr : rng k 1 14 with
      | false => rfl
      | true =>
        have := rng_true.1 hr
        have : rng k 3 14 = true := rng_true.2 (by omega)
        rw [this] at hg; cases hg
    refine ⟨(0, 0), ?_, fun h => ?_⟩
    · unfold F_impl_leafWires lfB F_impl_isGenerator; simp [hs, h1, h2, within_, hg, hr]
    · unfold lfB at h; simp [hr] at h
  | true =>
    have hb := rng_true.1 hg
    have hr : rng k 1 14 = true := rng_true.2 (by omega)
    refine ⟨kd k, ?_, fun _ => by unfold lfT; rw [if_neg h1]⟩
    have hgen : genB k v = (if k = 7 ∨ k = 13 then rng v 0 96 else decide (v = 0)) := by unfold genB; rw [hg, Bool.true_and]
    unfold F_impl_leafWires lfB F_impl_isGenerator
    simp only [hs, h1, h2, within_, hg, hr, generatorWires_ hg, isGeneratorValue_ hg, hgen, decide_true, decide_false, Bool.not_true, cond_false, cond_true, Option.bind_some, Bool.true_and, if_false]
theorem joinWires_ {k : Int} {x y : Int × Int} (hx : wOk2 x) (hy : wOk2 y) : ∃ w, F_impl_joinWires k x y = some (w, (jn k x y).isSome) ∧ ∀ z, jn k x y = some z → w = z := by
  obtain ⟨x1, x2⟩ := x
  obtain ⟨y1, y2⟩ := y
  obtain ⟨a1, a2, a3, a4⟩ := hx
  obtain ⟨b1, b2, b3, b4⟩ := hy
  dsimp only at a1 a2 a3 a4 b1 b2 b3 b4
  by_cases hk : k = 15
  · refine ⟨(x1, y2), ?_, fun z hz => ?_⟩
    · unfold F_impl_joinWires jn
      by_cases h : x2 = y1
      · simp [hk, h]
      · simp [hk, h]
    · unfold jn at hz
      rw [if_pos hk] at hz
      split at hz
      · exact Option.some.inj hz
      · cases hz
  · refine ⟨(x1 + y1, x2 + y2), ?_, fun z hz => ?_⟩
    · have s1 : addO x1 y1 = some (x1 + y1) := addO_of (by omega) (by omega)
      have s2 : addO x2 y2 = some (x2 + y2) := addO_of (by omega) (by omega)
      unfold F_impl_joinWires jn F_impl_wires_fit
      by_cases h1 : x1 + y1 ≤ 12
      · by_cases h2 : x2 + y2 ≤ 12
        · simp [hk, s1, s2, h1, h2]
        · simp [hk, s1, s2, h1, h2]
      · simp [hk, s1, s2, h1]
    · unfold jn at hz
      rw [if_neg hk] at hz
      split at hz
      · exact Option.some.inj hz
      · cases hz

/-! ### the program's test -/
def tysR (S : Stk) : List (Int × Int) := (S.map fun p => p.2).reverse
/-- the type of a valid term -/
def tyT (t : List Nod) : Int × Int := match runT t [] with | some [(_, w)] => w | _ => (0, 0)
theorem typed_ (t : List Nod) : ∃ w, F_impl_typed_impl_leafWires t = some (w, validB t) ∧ (validB t = true → w = tyT t) := by
  have hm : maxN = 1099511627776 := rfl
  cases hr : rng t.length 1 400 with
  | false =>
    have hv : validB t = false := by unfold validB; rw [hr]; rfl
    refine ⟨(0, 0), bnd (within_ _ _ _) (stp ?_), fun h => by rw [hv] at h; cases h⟩
    rw [hv, hr]; rfl
  | true =>
    have hl := rng_true.1 hr
    have loop := forO_rel (n := t.length) (s := ([] : List (Int × Int))) (f := fun (k14 : Nat) (s884 : List (Int × Int)) =>
        seqO ((idxO t ((k14 : Nat) : Int)).bind fun a1117 =>
          ((some (!decide (a1117.1 = 15))).bind fun a1137 =>
            cond a1137
            ((some (!decide (a1117.1 = 16))).bind fun a1141 =>
              some a1141)
            (some false)).bind fun (s1131 : Bool) =>
          cond s1131
          ((F_impl_leafWires (a1117.1, a1117.2.1, a1117.2.2)).bind fun y1302 =>
            (some (!y1302.2)).bind fun a1309 =>
            cond a1309
            (some (.inr (.inr ((0, 0), false))))
            ((appO s884 [(y1302.1.1, y1302.1.2)]).bind fun a1318 =>
              some (.inl a1318)))
          (((some (!decide (a1117.2.1 = 0))).bind fun a1162 =>
              cond a1162
              (some true)
              ((some (!decide ((a1117.2.2 : ByteArray) = .empty))).bind fun a1165 =>
                cond a1165
                (some true)
                ((some (decide (((s884.length : Nat) : Int) < 2))).bind fun a1168 =>
                  some a1168))).bind fun (s1156 : Bool) =>
            cond s1156
            (some (.inr (.inr ((0, 0), false))))
            ((subO ((s884.length : Nat) : Int) 1).bind fun a1175 =>
              ((subO a1175 1).bind fun a1228 =>
                (idxO s884 a1228).bind fun a1236 =>
                (idxO s884 a1175).bind fun a1245 =>
                (F_impl_joinWires a1117.1 (a1236.1, a1236.2) (a1245.1, a1245.2)).bind fun y1255 =>
                some (y1255.1.1, y1255.1.2, y1255.2)).bind fun (s1220 : Int × Int × Bool) =>
              (some (!s1220.2.2)).bind fun a1272 =>
              cond a1272
              (some (.inr (.inr ((0, 0), false))))
              ((subO a1175 1).bind fun a1276 =>
                (sliceO s884 0 a1276).bind fun a1278 =>
                (appO a1278 [(s1220.1, s1220.2.1)]).bind fun a1288 =>
                some (.inl a1288))))) fun (s1104 : List (Int × Int)) =>
        some (.inl s1104)) (fun j s => ∃ S, runT (t.take j) [] = some S ∧ s = tysR S ∧ S.length ≤ j) (fun r => r = (((0 : Int), (0 : Int)), false) ∧ runT t [] = none) ⟨[], rfl, rfl, Nat.le_refl _⟩ (by
      rintro j s hj ⟨S, h1, rfl, h3⟩
      have hS := runT_ok _ _ _ (fun p hp => by cases hp) h1
      have hstep := runT_take hj h1
      have hlen : (tysR S).length = S.length := by unfold tysR; simp
      -- the two ends of a round
      have bad : stepT S t[j] = none → runT t [] = none := fun hn => runT_none (hstep.trans hn)
      have hi := idxO_of (List.getElem?_eq_getElem hj)
      generalize t[j] = n at hstep bad hi
      obtain ⟨k, v, u⟩ := n
      by_cases hk : k = 15 ∨ k = 16
      · have hc : ((some (!decide (k = 15))).bind fun a1137 => cond a1137 ((some (!decide (k = 16))).bind fun a1141 => some a1141) (some false)) = some false := by
          rcases hk with rfl | rfl <;> rfl
        have hst : stepT S (k, v, u) = if v = 0 ∧ u = .empty then (match S with
            | (b, y) :: (a, x) :: S' => (jn k x y).map fun w => (.node k a b, w) :: S'
            | _ => none) else none := by unfold stepT; rw [if_pos hk]
        by_cases hv : v = 0
        case neg =>
          have hn : stepT S (k, v, u) = none := by rw [hst, if_neg (fun h => hv h.1)]
          exact .inr ⟨_, sqW (bnd hi (bnd hc (cFW rfl (bnd (a := true) (stp (cTW (nF (dF hv)) rfl)) rfl)))) rfl, rfl, bad hn⟩
        by_cases hu : u = .empty
        case neg =>
          have hn : stepT S (k, v, u) = none := by rw [hst, if_neg (fun h => hu h.2)]
          exact .inr ⟨_, sqW (bnd hi (bnd hc (cFW rfl (bnd (a := true) (stp (cFW (nT (dT hv)) (stp (cTW (nF (dF hu)) rfl)))) rfl)))) rfl, rfl, bad hn⟩
        rw [if_pos ⟨hv, hu⟩] at hst
        by_cases h2 : S.length < 2
        · have hn : stepT S (k, v, u) = none := by
            rw [hst]
            match S, h2 with
            | [], _ => rfl
            | [p], _ => rfl
          refine .inr ⟨_, sqW (bnd hi (bnd hc (cFW rfl (bnd (a := true) (stp (cFW (nT (dT hv)) (stp (cFW (nT (dT hu)) (stp (congrArg some (dT ?_))))))) rfl)))) rfl, rfl, bad hn⟩
          rw [hlen]; omega
        · obtain ⟨b, y, a, x, S', rfl⟩ : ∃ b y a x S', S = (b, y) :: (a, x) :: S' := by
            match S, h2 with
            | (b, y) :: (a, x) :: S', _ => exact ⟨_, _, _, _, _, rfl⟩
            | [p], h2 => exact (h2 (by simp)).elim
            | [], h2 => exact (h2 (by simp)).elim
          have h3' : S'.length + 2 ≤ j := by simpa using h3
          have hlen' : (tysR ((b, y) :: (a, x) :: S')).length = S'.length + 2 := by simpa using hlen
          have hx := hS (a, x) (by simp)
          have hy := hS (b, y) (by simp)
          obtain ⟨w, w1, w2⟩ := joinWires_ (k := k) hx hy
          have e0 : tysR ((b, y) :: (a, x) :: S') = tysR S' ++ [x] ++ [y] := by unfold tysR; simp
          have l0 : (tysR S').length = S'.length := by unfold tysR; simp
          have i1 : idxO (tysR ((b, y) :: (a, x) :: S')) ((S'.length : Nat) : Int) = some x := by
            rw [e0, idxO_nat, ← l0, List.append_assoc, List.getElem?_append_right (Nat.le_refl _), Nat.sub_self]; rfl
          have i2 : idxO (tysR ((b, y) :: (a, x) :: S')) (((S'.length + 1 : Nat)) : Int) = some y := by
            rw [e0, idxO_nat, ← l0, List.append_assoc, List.getElem?_append_right (by omega), Nat.add_sub_cancel_left]; rfl
          have s1 : subO (((tysR ((b, y) :: (a, x) :: S')).length : Nat) : Int) 1 = some ((S'.length + 1 : Nat) : Int) := by
            rw [hlen', subO_of (by omega) (by omega)]; congr 1; omega
          have s2 : subO ((S'.length + 1 : Nat) : Int) 1 = some ((S'.length : Nat) : Int) := by
            rw [subO_of (by omega) (by omega)]; congr 1; omega
          have sl : sliceO (tysR ((b, y) :: (a, x) :: S')) 0 ((S'.length : Nat) : Int) = some (tysR S') := by
            unfold sliceO; rw [if_pos ⟨by omega, by omega, by rw [hlen']; omega⟩, e0]
            simp [← l0, List.append_assoc]
          have hpre : ∀ {α : Type} {r : Option α} {K : Bool → Option α}, K false = r → (((some (!decide (v = 0))).bind fun a1162 =>
            cond a1162
            (some true)
            ((some (!decide ((u : ByteArray) = .empty))).bind fun a1165 =>
              cond a1165
              (some true)
              ((some (decide ((((tysR ((b, y) :: (a, x) :: S')).length : Nat) : Int) < 2))).bind fun a1168 =>
                some a1168))).bind K) = r := fun h => bnd (a := false) (stp (cFW (nT (dT hv)) (stp (cFW (nT (dT hu)) (stp (congrArg some (dF (by rw [hlen']; omega)))))))) h
          have hj2 : ∀ {α : Type} {r : Option α} {K : Int × Int × Bool → Option α}, K (w.1, w.2, (jn k x y).isSome) = r → (((subO ((S'.length + 1 : Nat) : Int) 1).bind fun a1228 =>
              (idxO (tysR ((b, y) :: (a, x) :: S')) a1228).bind fun a1236 =>
              (idxO (tysR ((b, y) :: (a, x) :: S')) ((S'.length + 1 : Nat) : Int)).bind fun a1245 =>
              (F_impl_joinWires k (a1236.1, a1236.2) (a1245.1, a1245.2)).bind fun y1255 =>
              some (y1255.1.1, y1255.1.2, y1255.2)).bind K) = r := fun h => bnd (bnd s2 (bnd i1 (bnd i2 (bnd w1 rfl)))) h
          cases hjn : jn k x y with
          | none =>
            rw [hjn] at hj2
            have hn : stepT ((b, y) :: (a, x) :: S') (k, v, u) = none := by rw [hst]; simp only [hjn, Option.map_none]
            exact .inr ⟨_, sqW (bnd hi (bnd hc (cFW rfl (hpre (cFW rfl (bnd s1 (hj2 rfl))))))) rfl, rfl, bad hn⟩
          | some z =>
            rw [hjn] at hj2
            have hz := w2 z hjn
            subst hz
            have hn : stepT ((b, y) :: (a, x) :: S') (k, v, u) = some ((.node k a b, w) :: S') := by rw [hst]; simp only [hjn, Option.map_some]
            refine .inl ⟨tysR S' ++ [w], sqW (bnd hi (bnd hc (cFW rfl (hpre (cFW rfl (bnd s1 (hj2 (stp (cFW rfl (bnd s2 (bnd sl (bnd (appO_of ?_) rfl))))))))))) ) rfl, (.node k a b, w) :: S', by rw [hstep, hn], by unfold tysR; simp, by simp; omega⟩
            rw [l0]; simp; omega
      · have hc : ((some (!decide (k = 15))).bind fun a1137 => cond a1137 ((some (!decide (k = 16))).bind fun a1141 => some a1141) (some false)) = some true := by
          simp only [not_or] at hk
          simp [hk.1, hk.2]
        obtain ⟨w, w1, w2⟩ := leafWires_ (k, v, u)
        cases hb : lfB (k, v, u) with
        | false =>
          rw [hb] at w1
          have hn : stepT S (k, v, u) = none := by unfold stepT; rw [if_neg hk, if_neg (by rw [hb]; simp)]
          exact .inr ⟨_, sqW (bnd hi (bnd hc (cTW rfl (bnd w1 rfl)))) rfl, rfl, bad hn⟩
        | true =>
          rw [hb] at w1
          have hn : stepT S (k, v, u) = some ((.leaf (k, v, u), lfT (k, v, u)) :: S) := by unfold stepT; rw [if_neg hk, if_pos hb]
          refine .inl ⟨tysR S ++ [w], sqW (bnd hi (bnd hc (cTW rfl (bnd w1 (stp (cFW rfl (bnd (appO_of ?_) rfl))))))) rfl, _, by rw [hstep, hn], by rw [w2 hb]; unfold tysR; simp, by simp; omega⟩
          rw [hlen]; simp; omega)
    rcases loop with ⟨s, h1, S, h2, rfl, h4⟩ | ⟨r, h1, rfl, h2⟩
    · rw [List.take_length] at h2
      have hlen : (tysR S).length = S.length := by unfold tysR; simp
      -- the stack is not empty
      have hne : S ≠ [] := by
        rintro rfl
        have := runT_flat _ _ _ h2
        unfold stkN at this
        simp at this
        rw [this] at hl; simp at hl
      cases hS : tysR S with
      | nil => rw [hS] at hlen; exact (hne (List.eq_nil_of_length_eq_zero hlen.symm)).elim
      | cons w ws =>
        have hty : validB t = true → w = tyT t := fun hv => by
          unfold validB at hv
          unfold tyT
          rw [hr, h2] at hv
          rw [h2]
          match S, hS, hv with
          | [(T, w')], hS, _ => exact (List.cons.inj hS).1.symm
        refine ⟨w, bnd (within_ _ _ _) (stp ?_), hty⟩
        rw [hr]
        refine cFW rfl (sqW h1 ?_)
        rw [seqO_l, hS]
        refine bnd (a := w) rfl (stp (congrArg some (Prod.ext rfl ?_)))
        unfold validB
        rw [hr, h2]
        rw [← hS, hlen]
        match S with
        | [] => exact (hne rfl).elim
        | [p] => simp
        | p :: q :: S => simp; omega
    · have hv : validB t = false := by unfold validB; rw [h2, hr]; rfl
      refine ⟨(0, 0), bnd (within_ _ _ _) (stp ?_), fun h => by rw [hv] at h; cases h⟩
      rw [hr]
      refine cFW rfl (sqW h1 ?_)
      rw [seqO_r, hv]
theorem isValid_ (t : List Nod) : F_impl_Term_isValid t = some (validB t) := by
  obtain ⟨w, h, _⟩ := typed_ t
  exact bnd (bnd h rfl) rfl

/-! ### the reference's test -/
/-- what the reference's lists say of the trees on the stack -/
def ScR (x : List Int × List Int × List Int) : Nat → Stk → Prop
  | i, [] => i = 0
  | i, (T, w) :: S => (flat T).length ≤ i ∧ x.1[i - 1]? = some ((i - (flat T).length : Nat) : Int) ∧ x.2.1[i - 1]? = some w.1 ∧ x.2.2[i - 1]? = some w.2 ∧ ScR x (i - (flat T).length) S
theorem ScR.mono {x x' : List Int × List Int × List Int} : ∀ {S : Stk} {i : Nat}, ScR x i S → (∀ k, k < i → x'.1[k]? = x.1[k]? ∧ x'.2.1[k]? = x.2.1[k]? ∧ x'.2.2[k]? = x.2.2[k]?) → ScR x' i S
  | [], _, h, _ => h
  | (T, w) :: S, i, ⟨h1, h2, h3, h4, h5⟩, h => by
    have hp := flat_pos T
    obtain ⟨k1, k2, k3⟩ := h (i - 1) (by omega)
    exact ⟨h1, k1.trans h2, k2.trans h3, k3.trans h4, h5.mono (fun k hk => h k (by omega))⟩
theorem get_snoc {l : List Int} {i : Nat} (hl : l.length = i) (a : Int) : (∀ k, k < i → (l ++ [a])[k]? = l[k]?) ∧ (l ++ [a])[i]? = some a :=
  ⟨fun k hk => List.getElem?_append_left (by omega), by rw [List.getElem?_append_right (by omega), hl, Nat.sub_self]; rfl⟩
theorem ScR.push {x : List Int × List Int × List Int} {S : Stk} {i : Nat} {T : Tr} {w : Int × Int} (l1 : x.1.length = i) (l2 : x.2.1.length = i) (l3 : x.2.2.length = i) (hT : (flat T).length ≤ i + 1) (h : ScR x (i + 1 - (flat T).length) S) :
    ScR (x.1 ++ [((i + 1 - (flat T).length : Nat) : Int)], x.2.1 ++ [w.1], x.2.2 ++ [w.2]) (i + 1) ((T, w) :: S) := by
  have hp := flat_pos T
  have g1 := get_snoc l1 ((i + 1 - (flat T).length : Nat) : Int)
  have g2 := get_snoc l2 w.1
  have g3 := get_snoc l3 w.2
  refine ⟨hT, ?_, ?_, ?_, h.mono (fun k hk => ⟨g1.1 k (by omega), g2.1 k (by omega), g3.1 k (by omega)⟩)⟩
  · rw [Nat.add_sub_cancel]; exact g1.2
  · rw [Nat.add_sub_cancel]; exact g2.2
  · rw [Nat.add_sub_cancel]; exact g3.2
theorem add_of12 {a b : Int} (h1 : 0 ≤ a) (h2 : a ≤ 12) (h3 : 0 ≤ b) (h4 : b ≤ 12) : addO a b = some (a + b) := addO_of (by omega) (by omega)
theorem lbFind_nil (s : ByteArray) : F_spec_lbFind [] s = some (-1) := rfl
/-- the reference's scan, whatever it makes of the term -/
theorem lbScan_ (t : List Nod) : ∃ x, F_spec_lbScan [] t = some (x, validB t) ∧ (∀ S, runT t [] = some S → rng t.length 1 400 = true → x.1.length = t.length ∧ ScR x t.length S ∧
    ∀ S0 (p q : List Nod), t = p ++ q → runT p [] = some S0 → ScR x p.length S0) := by
  have hm : maxN = 1099511627776 := rfl
  cases hr : rng t.length 1 400 with
  | false =>
    refine ⟨([], [], []), bnd (l1In _ _ _) (stp ?_), fun _ _ h => by cases h⟩
    unfold validB
    rw [hr]; rfl
  | true =>
    have hl := rng_true.1 hr
    have loop := forO_rel (n := t.length) (s := (([] : List Int), ([] : List Int), ([] : List Int))) (f := fun (k18 : Nat) (s2156 : List Int × List Int × List Int) =>
        seqO ((idxO t ((k18 : Nat) : Int)).bind fun a2699 =>
          ((F_spec_tmLeaf (a2699.1, a2699.2.1, a2699.2.2)).bind fun y2720 =>
            cond y2720
            (some true)
            ((some (decide (a2699.1 = 17))).bind fun a2724 =>
              some a2724)).bind fun (s2714 : Bool) =>
          cond s2714
          ((F_spec_tmArity (a2699.1, a2699.2.1, a2699.2.2)).bind fun y3063 =>
            seqO ((some (decide (a2699.1 = 17))).bind fun a3127 =>
              cond a3127
              ((F_spec_lbFind [] a2699.2.2).bind fun y3131 =>
                ((some (decide (y3131 < 0))).bind fun a3146 =>
                  cond a3146
                  (some true)
                  ((some (!decide (a2699.2.1 = 0))).bind fun a3149 =>
                    some a3149)).bind fun (s3140 : Bool) =>
                cond s3140
                (some (.inr (.inr (.inr ((s2156.1, s2156.2.1, s2156.2.2), false)))))
                ((idxO ([] : List (ByteArray × Int × Int × List Nod)) y3131).bind fun a3162 =>
                  (idxO ([] : List (ByteArray × Int × Int × List Nod)) y3131).bind fun a3174 =>
                  some (.inl (a3174.2.2.1, a3162.2.1))))
              (some (.inl (y3063.2, y3063.1)))) fun (s3121 : Int × Int) =>
            (appO s2156.1 [((k18 : Nat) : Int)]).bind fun a3190 =>
            (appO s2156.2.1 [s3121.2]).bind fun a3199 =>
            (appO s2156.2.2 [s3121.1]).bind fun a3208 =>
            some (.inl (a3190, a3199, a3208)))
          (((some (!decide (a2699.1 = 15))).bind fun a2792 =>
              cond a2792
              ((some (!decide (a2699.1 = 16))).bind fun a2820 =>
                cond a2820
                (some true)
                ((some (!decide ((a2699.2.2 : ByteArray) = .empty))).bind fun a2823 =>
                  cond a2823
                  (some true)
                  ((some (!decide (a2699.2.1 = 0))).bind fun a2826 =>
                    cond a2826
                    (some true)
                    ((some (decide (((k18 : Nat) : Int) < 2))).bind fun a2829 =>
                      cond a2829
                      (some true)
                      ((subO ((k18 : Nat) : Int) 1).bind fun a2832 =>
                        (idxO s2156.1 a2832).bind fun a2840 =>
                        (some (decide (a2840 < 1))).bind fun a2842 =>
                        some a2842)))))
              ((some (!decide ((a2699.2.2 : ByteArray) = .empty))).bind fun a2795 =>
                cond a2795
                (some true)
                ((some (!decide (a2699.2.1 = 0))).bind fun a2798 =>
                  cond a2798
                  (some true)
                  ((some (decide (((k18 : Nat) : Int) < 2))).bind fun a2801 =>
                    cond a2801
                    (some true)
                    ((subO ((k18 : Nat) : Int) 1).bind fun a2804 =>
                      (idxO s2156.1 a2804).bind fun a2812 =>
                      (some (decide (a2812 < 1))).bind fun a2814 =>
                      some a2814))))).bind fun (s2786 : Bool) =>
            cond s2786
            (some (.inr (.inr ((s2156.1, s2156.2.1, s2156.2.2), false))))
            ((subO ((k18 : Nat) : Int) 1).bind fun a2851 =>
              (idxO s2156.1 a2851).bind fun a2859 =>
              (subO a2859 1).bind fun a2861 =>
              (idxO s2156.2.1 a2861).bind fun a2870 =>
              (idxO s2156.2.1 a2851).bind fun a2878 =>
              (addO a2870 a2878).bind fun a2880 =>
              (idxO s2156.2.2 a2861).bind fun a2888 =>
              (idxO s2156.2.2 a2851).bind fun a2896 =>
              (addO a2888 a2896).bind fun a2898 =>
              seqO ((some (decide (a2699.1 = 15))).bind fun a2949 =>
                cond a2949
                ((idxO s2156.2.2 a2861).bind fun a2960 =>
                  (idxO s2156.2.1 a2851).bind fun a2968 =>
                  (some (!decide (a2960 = a2968))).bind fun a2970 =>
                  cond a2970
                  (some (.inr (.inr (.inr ((s2156.1, s2156.2.1, s2156.2.2), false)))))
                  ((idxO s2156.2.1 a2861).bind fun a2980 =>
                    (idxO s2156.2.2 a2851).bind fun a2988 =>
                    some (.inl (a2980, a2988))))
                (some (.inl (a2880, a2898)))) fun (s2943 : Int × Int) =>
              ((some (decide ((12 : Int) < s2943.1))).bind fun a3009 =>
                cond a3009
                (some true)
                ((some (decide ((12 : Int) < s2943.2))).bind fun a3012 =>
                  some a3012)).bind fun (s3003 : Bool) =>
              cond s3003
              (some (.inr (.inr ((s2156.1, s2156.2.1, s2156.2.2), false))))
              ((idxO s2156.1 a2861).bind fun a3025 =>
                (appO s2156.1 [a3025]).bind fun a3030 =>
                (appO s2156.2.1 [s2943.1]).bind fun a3039 =>
                (appO s2156.2.2 [s2943.2]).bind fun a3048 =>
                some (.inl (a3030, a3039, a3048)))))) fun (s2684 : List Int × List Int × List Int) =>
        some (.inl (s2684.1, s2684.2.1, s2684.2.2)))
      (fun j x => ∃ S, runT (t.take j) [] = some S ∧ x.1.length = j ∧ x.2.1.length = j ∧ x.2.2.length = j ∧ ScR x j S ∧ ∀ i S0, i ≤ j → runT (t.take i) [] = some S0 → ScR x i S0) (fun r => r.2 = false ∧ runT t [] = none)
      ⟨[], rfl, rfl, rfl, rfl, rfl, fun i S0 hi h => by
        obtain rfl : i = 0 := by omega
        obtain rfl := Option.some.inj h
        rfl⟩ (by
      rintro j ⟨x1, x2, x3⟩ hj ⟨S, h1, l1, l2, l3, h2, hall⟩
      dsimp only at l1 l2 l3
      have hS := runT_ok _ _ _ (fun p hp => by cases hp) h1
      have hstep := runT_take hj h1
      have bad : stepT S t[j] = none → runT t [] = none := fun hn => runT_none (hstep.trans hn)
      have hi := idxO_of (List.getElem?_eq_getElem hj)
      -- a good end of a round
      have good : ∀ (T : Tr) (w : Int × Int) (S' : Stk), runT (t.take (j + 1)) [] = some ((T, w) :: S') → (flat T).length ≤ j + 1 → ScR (x1, x2, x3) (j + 1 - (flat T).length) S' → ∃ S1, runT (t.take (j + 1)) [] = some S1 ∧ (x1 ++ [((j + 1 - (flat T).length : Nat) : Int)]).length = j + 1 ∧ (x2 ++ [w.1]).length = j + 1 ∧ (x3 ++ [w.2]).length = j + 1 ∧
          ScR (x1 ++ [((j + 1 - (flat T).length : Nat) : Int)], x2 ++ [w.1], x3 ++ [w.2]) (j + 1) S1 ∧ ∀ i S0, i ≤ j + 1 → runT (t.take i) [] = some S0 → ScR (x1 ++ [((j + 1 - (flat T).length : Nat) : Int)], x2 ++ [w.1], x3 ++ [w.2]) i S0 := by
        intro T w S' hr1 hT hsc
        have hp := ScR.push (x := (x1, x2, x3)) (w := w) l1 l2 l3 hT hsc
        refine ⟨_, hr1, by simp [l1], by simp [l2], by simp [l3], hp, fun i S0 hi0 hS0 => ?_⟩
        by_cases hij : i = j + 1
        · subst hij
          rw [hr1] at hS0
          obtain rfl := Option.some.inj hS0
          exact hp
        · refine (hall i S0 (by omega) hS0).mono (fun k hk => ?_)
          exact ⟨(get_snoc l1 _).1 k (by omega), (get_snoc l2 _).1 k (by omega), (get_snoc l3 _).1 k (by omega)⟩
      generalize t[j] = n at hstep bad hi
      obtain ⟨k, v, u⟩ := n
      by_cases hk : k = 15 ∨ k = 16
      · have hlf : lfB (k, v, u) = false := by
          have hr : rng k 1 14 = false := by rcases hk with rfl | rfl <;> decide
          unfold lfB; dsimp only; rw [hr]; simp
        have hk17 : ¬ k = 17 := by omega
        have hc : ((F_spec_tmLeaf (k, v, u)).bind fun y2720 => cond y2720 (some true) ((some (decide (k = 17))).bind fun a2724 => some a2724)) = some false :=
          bnd (tmLeaf_ _) (by rw [hlf]; exact cFW rfl (stp (congrArg some (dF hk17))))
        have hst : stepT S (k, v, u) = if v = 0 ∧ u = .empty then (match S with
            | (b, y) :: (a, x) :: S' => (jn k x y).map fun w => (.node k a b, w) :: S'
            | _ => none) else none := by unfold stepT; rw [if_pos hk]
        -- the test ahead
        have hten : ∀ b : Bool, ((some (!decide ((u : ByteArray) = .empty))).bind fun a2795 =>
                cond a2795
                (some true)
                ((some (!decide (v = 0))).bind fun a2798 =>
                  cond a2798
                  (some true)
                  ((some (decide (((j : Nat) : Int) < 2))).bind fun a2801 =>
                    cond a2801
                    (some true)
                    ((subO ((j : Nat) : Int) 1).bind fun a2804 =>
                      (idxO x1 a2804).bind fun a2812 =>
                      (some (decide (a2812 < 1))).bind fun a2814 =>
                      some a2814)))) = some b → (((some (!decide (k = 15))).bind fun a2792 =>
              cond a2792
              ((some (!decide (k = 16))).bind fun a2820 =>
                cond a2820
                (some true)
                ((some (!decide ((u : ByteArray) = .empty))).bind fun a2823 =>
                  cond a2823
                  (some true)
                  ((some (!decide (v = 0))).bind fun a2826 =>
                    cond a2826
                    (some true)
                    ((some (decide (((j : Nat) : Int) < 2))).bind fun a2829 =>
                      cond a2829
                      (some true)
                      ((subO ((j : Nat) : Int) 1).bind fun a2832 =>
                        (idxO x1 a2832).bind fun a2840 =>
                        (some (decide (a2840 < 1))).bind fun a2842 =>
                        some a2842)))))
              ((some (!decide ((u : ByteArray) = .empty))).bind fun a2795 =>
                cond a2795
                (some true)
                ((some (!decide (v = 0))).bind fun a2798 =>
                  cond a2798
                  (some true)
                  ((some (decide (((j : Nat) : Int) < 2))).bind fun a2801 =>
                    cond a2801
                    (some true)
                    ((subO ((j : Nat) : Int) 1).bind fun a2804 =>
                      (idxO x1 a2804).bind fun a2812 =>
                      (some (decide (a2812 < 1))).bind fun a2814 =>
                      some a2814))))) = some b) := by
          intro b hb
          rcases hk with rfl | rfl
          · exact stp (cFW rfl hb)
          · exact stp (cTW rfl (stp (cFW rfl hb)))
        have fail : ∀ {n : Option Stk}, ((some (!decide ((u : ByteArray) = .empty))).bind fun a2795 =>
                cond a2795
                (some true)
                ((some (!decide (v = 0))).bind fun a2798 =>
                  cond a2798
                  (some true)
                  ((some (decide (((j : Nat) : Int) < 2))).bind fun a2801 =>
                    cond a2801
                    (some true)
                    ((subO ((j : Nat) : Int) 1).bind fun a2804 =>
                      (idxO x1 a2804).bind fun a2812 =>
                      (some (decide (a2812 < 1))).bind fun a2814 =>
                      some a2814)))) = some true → n = none → n = none := fun _ h => h
        by_cases hu : u = .empty
        case neg =>
          have hn : stepT S (k, v, u) = none := by rw [hst, if_neg (fun h => hu h.2)]
          exact .inr ⟨_, sqW (bnd hi (bnd hc (cFW rfl (bnd (hten true (stp (cTW (nF (dF hu)) rfl))) rfl)))) rfl, rfl, bad hn⟩
        by_cases hv : v = 0
        case neg =>
          have hn : stepT S (k, v, u) = none := by rw [hst, if_neg (fun h => hv h.1)]
          exact .inr ⟨_, sqW (bnd hi (bnd hc (cFW rfl (bnd (hten true (stp (cFW (nT (dT hu)) (stp (cTW (nF (dF hv)) rfl))))) rfl)))) rfl, rfl, bad hn⟩
        rw [if_pos ⟨hv, hu⟩] at hst
        match S, h2, hst, hS with
        | [], h2, hst, _ =>
          obtain rfl : j = 0 := h2
          exact .inr ⟨_, sqW (bnd hi (bnd hc (cFW rfl (bnd (hten true (stp (cFW (nT (dT hu)) (stp (cFW (nT (dT hv)) (stp (cTW (dT (by omega)) rfl))))))) rfl)))) rfl, rfl, bad hst⟩
        | [(b, y)], h2, hst, _ =>
          obtain ⟨s1, s2, s3, s4, s5⟩ := h2
          have s5 : j - (flat b).length = 0 := s5
          refine .inr ⟨_, sqW (bnd hi (bnd hc (cFW rfl (bnd (hten true (stp (cFW (nT (dT hu)) (stp (cFW (nT (dT hv)) (stp ?_)))))) rfl)))) rfl, rfl, bad hst⟩
          by_cases h2 : ((j : Nat) : Int) < 2
          · exact cTW (dT h2) rfl
          · refine cFW (dF h2) (bnd (subO_of (by omega) (by omega)) (bnd (a := 0) ?_ rfl))
            rw [s5] at s2
            have e : (j : Int) - 1 = ((j - 1 : Nat) : Int) := by omega
            rw [e]; exact idxO_of s2
        | (b, y) :: (a, x) :: S', h2, hst, hS =>
          have hx := hS (a, x) (by simp)
          have hy := hS (b, y) (by simp)
          obtain ⟨s1, s2, s3, s4, r1, r2, r3, r4, r5⟩ := h2
          dsimp only at s2 s3 s4 r2 r3 r4
          have hpa := flat_pos a
          have hpb := flat_pos b
          have hj2 : 2 ≤ j := by omega
          obtain ⟨a1, a2, a3, a4⟩ := hx
          obtain ⟨b1, b2, b3, b4⟩ := hy
          have e1 : subO ((j : Nat) : Int) 1 = some ((j - 1 : Nat) : Int) := by rw [subO_of (by omega) (by omega)]; congr 1; omega
          have e2 : subO ((j - (flat b).length : Nat) : Int) 1 = some ((j - (flat b).length - 1 : Nat) : Int) := by rw [subO_of (by omega) (by omega)]; congr 1; omega
          have hpass := hten false (stp (cFW (nT (dT hu)) (stp (cFW (nT (dT hv)) (stp (cFW (dF (by omega)) (bnd e1 (bnd (idxO_of s2) (stp (congrArg some (dF (by omega))))))))))))
          have hlenT : (flat (.node k a b)).length = (flat a).length + (flat b).length + 1 := by simp [flat]; omega
          have hidx : j + 1 - (flat (.node k a b)).length = j - (flat b).length - (flat a).length := by rw [hlenT]; omega
          dsimp only at a1 a2 a3 a4 b1 b2 b3 b4
          have hS1 : stkOk S' := fun p hp => hS p (by simp [hp])
          have bg : ∀ w : Int × Int, jn k x y = some w → wOk2 w ∧ (¬ (12 : Int) < w.1) ∧ ¬ (12 : Int) < w.2 := fun w h => by
            have := jn_ok (x := x) (y := y) ⟨a1, a2, a3, a4⟩ ⟨b1, b2, b3, b4⟩ h
            obtain ⟨c1, c2, c3, c4⟩ := this
            exact ⟨⟨c1, c2, c3, c4⟩, by omega, by omega⟩
          have hgood : ∀ w : Int × Int, jn k x y = some w → ∃ S1, runT (t.take (j + 1)) [] = some S1 ∧ (x1 ++ [((j - (flat b).length - (flat a).length : Nat) : Int)]).length = j + 1 ∧ (x2 ++ [w.1]).length = j + 1 ∧ (x3 ++ [w.2]).length = j + 1 ∧
              ScR (x1 ++ [((j - (flat b).length - (flat a).length : Nat) : Int)], x2 ++ [w.1], x3 ++ [w.2]) (j + 1) S1 ∧ ∀ i S0, i ≤ j + 1 → runT (t.take i) [] = some S0 → ScR (x1 ++ [((j - (flat b).length - (flat a).length : Nat) : Int)], x2 ++ [w.1], x3 ++ [w.2]) i S0 := fun w hw => by
            have hn : stepT ((b, y) :: (a, x) :: S') (k, v, u) = some ((.node k a b, w) :: S') := by rw [hst]; simp only [hw, Option.map_some]
            have := good (.node k a b) w S' (by rw [hstep, hn]) (by rw [hlenT]; omega) (by rw [hidx]; exact r5)
            rw [hidx] at this
            exact this
          have hbad : jn k x y = none → runT t [] = none := fun hw => bad (by rw [hst]; simp only [hw, Option.map_none])
          have ap : ∀ (l : List Int) (z : Int), l.length = j → appO l [z] = some (l ++ [z]) := fun l z h => appO_of (by simp; omega)
          have s1' := add_of12 a1 a2 b1 b2
          have s2' := add_of12 a3 a4 b3 b4
          by_cases h15 : k = 15
          · by_cases hxy : x.2 = y.1
            · have hw : jn k x y = some (x.1, y.2) := by unfold jn; rw [if_pos h15, if_pos hxy]
              obtain ⟨_, w1, w2⟩ := bg _ hw
              refine .inl ⟨(x1 ++ [((j - (flat b).length - (flat a).length : Nat) : Int)], x2 ++ [x.1], x3 ++ [y.2]), sqW (r := some (.inl (x1 ++ [((j - (flat b).length - (flat a).length : Nat) : Int)], x2 ++ [x.1], x3 ++ [y.2]))) ?_ rfl, hgood _ hw⟩
              refine bnd hi (bnd hc (cFW rfl (bnd hpass (cFW rfl ?_))))
              refine bnd e1 (bnd (idxO_of s2) (bnd e2 (bnd (idxO_of r3) (bnd (idxO_of s3) (bnd s1' (bnd (idxO_of r4) (bnd (idxO_of s4) (bnd s2' ?_))))))))
              refine sqW (r := some (.inl (x.1, y.2))) (bnd (congrArg some (dT h15)) (cTW rfl (bnd (idxO_of r4) (bnd (idxO_of s3) (stp (cFW (nT (dT hxy)) (bnd (idxO_of r3) (bnd (idxO_of s4) rfl)))))))) ?_
              rw [seqO_l]
              refine bnd (a := false) (bnd (congrArg some (dF w1)) (bnd (congrArg some (dF w2)) rfl)) (cFW rfl ?_)
              exact bnd (idxO_of r2) (bnd (ap _ _ l1) (bnd (ap _ _ l2) (bnd (ap _ _ l3) rfl)))
            · have hw : jn k x y = none := by unfold jn; rw [if_pos h15, if_neg hxy]
              refine .inr ⟨((x1, x2, x3), false), sqW (r := some (.inr (.inr ((x1, x2, x3), false)))) ?_ rfl, rfl, hbad hw⟩
              refine bnd hi (bnd hc (cFW rfl (bnd hpass (cFW rfl ?_))))
              refine bnd e1 (bnd (idxO_of s2) (bnd e2 (bnd (idxO_of r3) (bnd (idxO_of s3) (bnd s1' (bnd (idxO_of r4) (bnd (idxO_of s4) (bnd s2' ?_))))))))
              exact sqW (r := some (.inr (.inr (.inr ((x1, x2, x3), false))))) (bnd (congrArg some (dT h15)) (cTW rfl (bnd (idxO_of r4) (bnd (idxO_of s3) (stp (cTW (nF (dF hxy)) rfl)))))) rfl
          · by_cases h1 : x.1 + y.1 ≤ 12
            · by_cases h2 : x.2 + y.2 ≤ 12
              · have hw : jn k x y = some (x.1 + y.1, x.2 + y.2) := by unfold jn; rw [if_neg h15, if_pos ⟨h1, h2⟩]
                obtain ⟨_, w1, w2⟩ := bg _ hw
                refine .inl ⟨(x1 ++ [((j - (flat b).length - (flat a).length : Nat) : Int)], x2 ++ [x.1 + y.1], x3 ++ [x.2 + y.2]), sqW (r := some (.inl (x1 ++ [((j - (flat b).length - (flat a).length : Nat) : Int)], x2 ++ [x.1 + y.1], x3 ++ [x.2 + y.2]))) ?_ rfl, hgood _ hw⟩
                refine bnd hi (bnd hc (cFW rfl (bnd hpass (cFW rfl ?_))))
                refine bnd e1 (bnd (idxO_of s2) (bnd e2 (bnd (idxO_of r3) (bnd (idxO_of s3) (bnd s1' (bnd (idxO_of r4) (bnd (idxO_of s4) (bnd s2' ?_))))))))
                refine sqW (r := some (.inl (x.1 + y.1, x.2 + y.2))) (bnd (congrArg some (dF h15)) (cFW rfl rfl)) ?_
                rw [seqO_l]
                refine bnd (a := false) (bnd (congrArg some (dF w1)) (bnd (congrArg some (dF w2)) rfl)) (cFW rfl ?_)
                exact bnd (idxO_of r2) (bnd (ap _ _ l1) (bnd (ap _ _ l2) (bnd (ap _ _ l3) rfl)))
              · have hw : jn k x y = none := by unfold jn; rw [if_neg h15, if_neg (fun h => h2 h.2)]
                refine .inr ⟨((x1, x2, x3), false), sqW (r := some (.inr (.inr ((x1, x2, x3), false)))) ?_ rfl, rfl, hbad hw⟩
                refine bnd hi (bnd hc (cFW rfl (bnd hpass (cFW rfl ?_))))
                refine bnd e1 (bnd (idxO_of s2) (bnd e2 (bnd (idxO_of r3) (bnd (idxO_of s3) (bnd s1' (bnd (idxO_of r4) (bnd (idxO_of s4) (bnd s2' ?_))))))))
                refine sqW (r := some (.inl (x.1 + y.1, x.2 + y.2))) (bnd (congrArg some (dF h15)) (cFW rfl rfl)) ?_
                rw [seqO_l]
                exact bnd (a := true) (bnd (congrArg some (dF (by dsimp only; omega))) (bnd (congrArg some (dT (by dsimp only; omega))) rfl)) (cTW rfl rfl)
            · have hw : jn k x y = none := by unfold jn; rw [if_neg h15, if_neg (fun h => h1 h.1)]
              refine .inr ⟨((x1, x2, x3), false), sqW (r := some (.inr (.inr ((x1, x2, x3), false)))) ?_ rfl, rfl, hbad hw⟩
              refine bnd hi (bnd hc (cFW rfl (bnd hpass (cFW rfl ?_))))
              refine bnd e1 (bnd (idxO_of s2) (bnd e2 (bnd (idxO_of r3) (bnd (idxO_of s3) (bnd s1' (bnd (idxO_of r4) (bnd (idxO_of s4) (bnd s2' ?_))))))))
              refine sqW (r := some (.inl (x.1 + y.1, x.2 + y.2))) (bnd (congrArg some (dF h15)) (cFW rfl rfl)) ?_
              rw [seqO_l]
              exact bnd (a := true) (bnd (congrArg some (dT (by dsimp only; omega))) rfl) (cTW rfl rfl)
      · have ap : ∀ (l : List Int) (z : Int), l.length = j → appO l [z] = some (l ++ [z]) := fun l z h => appO_of (by simp; omega)
        cases hb : lfB (k, v, u) with
        | true =>
          have hr : rng k 1 14 = true := by
            unfold lfB at hb; simp only [Bool.and_eq_true] at hb; exact hb.2.1
          have hk17 : ¬ k = 17 := by have := rng_true.1 hr; omega
          have hn : stepT S (k, v, u) = some ((.leaf (k, v, u), lfT (k, v, u)) :: S) := by unfold stepT; rw [if_neg hk, if_pos hb]
          have hc : ((F_spec_tmLeaf (k, v, u)).bind fun y2720 => cond y2720 (some true) ((some (decide (k = 17))).bind fun a2724 => some a2724)) = some true :=
            bnd (tmLeaf_ _) (by rw [hb]; rfl)
          have := good (.leaf (k, v, u)) (lfT (k, v, u)) S (by rw [hstep, hn]) (by simp [flat]) (by simpa [flat] using h2)
          rw [show j + 1 - (flat (.leaf (k, v, u))).length = j by simp [flat]] at this
          refine .inl ⟨(x1 ++ [((j : Nat) : Int)], x2 ++ [(lfT (k, v, u)).1], x3 ++ [(lfT (k, v, u)).2]), sqW (r := some (.inl (x1 ++ [((j : Nat) : Int)], x2 ++ [(lfT (k, v, u)).1], x3 ++ [(lfT (k, v, u)).2]))) ?_ rfl, this⟩
          refine bnd hi (bnd hc (cTW rfl (bnd (tmArity_ _) ?_)))
          refine sqW (r := some (.inl ((lfT (k, v, u)).2, (lfT (k, v, u)).1))) (bnd (congrArg some (dF hk17)) (cFW rfl rfl)) ?_
          rw [seqO_l]
          exact bnd (ap _ _ l1) (bnd (ap _ _ l2) (bnd (ap _ _ l3) rfl))
        | false =>
          have hn : stepT S (k, v, u) = none := by unfold stepT; rw [if_neg hk, if_neg (by rw [hb]; simp)]
          by_cases h17 : k = 17
          · have hc : ((F_spec_tmLeaf (k, v, u)).bind fun y2720 => cond y2720 (some true) ((some (decide (k = 17))).bind fun a2724 => some a2724)) = some true :=
              bnd (tmLeaf_ _) (by rw [hb]; exact cFW rfl (stp (congrArg some (dT h17))))
            refine .inr ⟨((x1, x2, x3), false), sqW (r := some (.inr (.inr ((x1, x2, x3), false)))) ?_ rfl, rfl, bad hn⟩
            refine bnd hi (bnd hc (cTW rfl (bnd (tmArity_ _) ?_)))
            exact sqW (r := some (.inr (.inr (.inr ((x1, x2, x3), false))))) (bnd (congrArg some (dT h17)) (cTW rfl (bnd (lbFind_nil _) (bnd (a := true) rfl (cTW rfl rfl))))) rfl
          · have hc : ((F_spec_tmLeaf (k, v, u)).bind fun y2720 => cond y2720 (some true) ((some (decide (k = 17))).bind fun a2724 => some a2724)) = some false :=
              bnd (tmLeaf_ _) (by rw [hb]; exact cFW rfl (stp (congrArg some (dF h17))))
            have hk1 : ¬ k = 15 := fun h => hk (.inl h)
            have hk2 : ¬ k = 16 := fun h => hk (.inr h)
            exact .inr ⟨_, sqW (bnd hi (bnd hc (cFW rfl (bnd (a := true) (stp (cTW (nF (dF hk1)) (stp (cTW (nF (dF hk2)) rfl)))) rfl)))) rfl, rfl, bad hn⟩)
    rcases loop with ⟨x, h1, S, h2, k1, k2, k3, h3, hall⟩ | ⟨⟨x, r⟩, h1, rfl, h2⟩
    · rw [List.take_length] at h2
      have hne : S ≠ [] := by
        rintro rfl
        have : t.length = 0 := h3
        omega
      obtain ⟨⟨T, w⟩, S', rfl⟩ : ∃ p S', S = p :: S' := by
        cases S with
        | nil => exact (hne rfl).elim
        | cons p S' => exact ⟨p, S', rfl⟩
      obtain ⟨s1, s2, s3, s4, s5⟩ := h3
      have hT := flat_pos T
      have ev : validB t = decide (((t.length - (flat T).length : Nat) : Int) = 0) := by
        unfold validB
        rw [hr, h2, Bool.true_and]
        match S', s5 with
        | [], s5 =>
          have s5 : t.length - (flat T).length = 0 := s5
          rw [s5]; rfl
        | (T', w') :: S'', s5 =>
          have := flat_pos T'
          exact (dF (by have := s5.1; omega)).symm
      refine ⟨x, bnd (l1In _ _ _) (stp ?_), fun S0 hS0 _ => ?_⟩
      · rw [hr]
        refine cFW rfl (sqW h1 ?_)
        rw [seqO_l]
        refine bnd (a := ((t.length - 1 : Nat) : Int)) (by rw [subO_of (by omega) (by omega)]; congr 1; omega) (bnd (idxO_of s2) (stp ?_))
        rw [ev]
      · rw [h2] at hS0
        obtain rfl := Option.some.inj hS0
        refine ⟨k1, ⟨s1, s2, s3, s4, s5⟩, fun S0 p q hpq hp => ?_⟩
        refine hall p.length S0 (by rw [hpq]; simp) ?_
        rw [hpq, List.take_left]; exact hp
    · refine ⟨x, bnd (l1In _ _ _) (stp ?_), fun S hS => by rw [h2] at hS; cases hS⟩
      rw [hr]
      refine cFW rfl (sqW h1 ?_)
      rw [seqO_r]
      unfold validB
      rw [h2, hr]; rfl
end Go.Proofs.YtciiinolpaohpaaDoor
