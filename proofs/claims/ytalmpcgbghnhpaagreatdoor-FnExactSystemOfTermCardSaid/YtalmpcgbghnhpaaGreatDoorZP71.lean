/-
  Plain law of SeqGraphs: the reference's function and the program's answer alike. No program in sight. No condition.
-/
import Derived.Test.YtalmpcgbghnhpaaGreatDoorZP39
import Derived.Test.YtalmpcgbghnhpaaGreatDoorZFn
namespace Go.Proofs.YtalmpcgbghnhpaaGreatDoor

def shf (n : Nat) : Nat → Int := fun k => (k : Int) + n
theorem inRg_shf {n m : Nat} {l : List Int} (h : inRg m l) : inRg (n + m) (mp (shf n) l) := by
  intro x hx
  obtain ⟨y, hy, rfl⟩ := List.mem_map.1 hx
  have := h y hy
  unfold shf
  omega
theorem inRg_wide {n m : Nat} {l : List Int} (h : inRg n l) : inRg (n + m) l := fun x hx => by have := h x hx; omega
theorem totE_map (s : Edg → List Int) (t : Nat → Int) (hs : ∀ e, (s (mpE t e)).length = (s e).length) : ∀ E : List Edg, totE (E.map (mpE t)) s = totE E s := by
  intro E
  induction E with
  | nil => rfl
  | cons e E ih =>
    unfold totE at ih ⊢
    simp only [List.map_cons, List.flatten_cons, List.length_append]
    rw [hs, ih]
theorem totE_app (s : Edg → List Int) (E E' : List Edg) : totE (E ++ E') s = totE E s + totE E' s := by
  unfold totE; rw [List.map_append, List.flatten_append, List.length_append]
theorem edI_mp (t : Nat → Int) (e : Edg) : edI (mpE t e) = mp t (edI e) := rfl
theorem edO_mp (t : Nat → Int) (e : Edg) : edO (mpE t e) = mp t (edO e) := rfl
def befG (n m : Nat) (a b : Gra) : Gra := (((n + m : Nat) : Int), a.2.1 ++ b.2.1.map (mpE (shf n)), a.2.2.1, mp (shf n) b.2.2.2)
theorem befG_rgd {n m : Nat} {a b : Gra} (ha : GOk a n) (hb : GOk b m) : Rgd (n + m) (befG n m a b) := by
  have h1 := ha.e60; have h2 := hb.e60; have h3 := ha.i12; have h4 := hb.o12; have h5 := ha.ti; have h6 := ha.to; have h7 := hb.ti; have h8 := hb.to
  refine ⟨inRg_wide ha.i, inRg_shf hb.o, fun e he => ?_, by unfold befG; dsimp only; omega, by unfold befG; dsimp only; rw [mp_len]; omega, by unfold befG; dsimp only; rw [List.length_append, List.length_map]; omega, ?_, ?_⟩
  · rcases List.mem_append.1 he with h | h
    · exact ⟨inRg_wide (ha.e e h).1, inRg_wide (ha.e e h).2⟩
    · obtain ⟨e', he', rfl⟩ := List.mem_map.1 h
      exact ⟨inRg_shf (hb.e e' he').1, inRg_shf (hb.e e' he').2⟩
  · unfold befG; dsimp only
    rw [totE_app, totE_map edI _ (fun e => by rw [edI_mp, mp_len])]; omega
  · unfold befG; dsimp only
    rw [totE_app, totE_map edO _ (fun e => by rw [edO_mp, mp_len])]; omega
def pSeq (n m : Nat) (a b : Gra) : Gra := gluG (befG n m a b) (n + m) (a.2.2.2.zip (mp (shf n) b.2.2.1))
theorem hgSeq_ {n m : Nat} {a b : Gra} (ha : GOk a n) (hb : GOk b m) (hl : a.2.2.2.length = b.2.2.1.length) : F_spec_hgSeq a b = some (pSeq n m a b) := by
  have hmm : maxN = 1099511627776 := rfl
  have n1 := ha.n100; have m1 := hb.n100
  have hB := hgBeside_ (by omega) (by omega) ha.w hb.w ha.rgd hb.rgd
  have hR := befG_rgd ha hb
  have oa := ha.o12; have ib := hb.i12; have ia := ha.i12; have ob := hb.o12
  have hG := hgGlued_ (A := a.2.2.2) (B := mp (shf n) b.2.2.1) (by omega) rfl hR (inRg_wide ha.o) (inRg_shf hb.i) (by rw [mp_len, hl])
  obtain ⟨w0, E, I, O⟩ := a
  obtain ⟨w1, E', I', O'⟩ := b
  obtain rfl : w0 = (n : Int) := ha.w
  obtain rfl : w1 = (m : Int) := hb.w
  dsimp only at oa ib ia ob hl
  have sl1 : ∀ x y : List Int, sliceO (x ++ y) 0 ((x.length : Nat) : Int) = some x := fun x y => by
    unfold sliceO; rw [if_pos ⟨by omega, by omega, by rw [List.length_append]; omega⟩]; simp
  have sl2 : ∀ x y : List Int, sliceO (x ++ y) ((x.length : Nat) : Int) (((x ++ y).length : Nat) : Int) = some y := fun x y => by
    unfold sliceO; rw [if_pos ⟨by omega, by rw [List.length_append]; omega, by omega⟩]
    rw [Int.toNat_natCast, Int.toNat_natCast, List.drop_left, List.take_of_length_le (by rw [List.length_append]; omega)]
  refine bnd hB ?_
  unfold pPar
  refine bnd (sl1 O _) (bnd (sl2 I _) (bnd (own_ (by omega)) (bnd (own_ (by rw [mp_len]; dsimp only; omega)) (bnd (sl1 I _) (bnd (sl2 O _) (bnd (a := pSeq n m ((n : Int), E, I, O) ((m : Int), E', I', O')) ?_ rfl))))))
  exact bnd hG rfl
theorem seqGraphs_ {n m : Nat} {a b : Gra} (ha : GOk a n) (hb : GOk b m) (hl : a.2.2.2.length = b.2.2.1.length) : F_impl_seqGraphs a b = some (pSeq n m a b) := by
  have hmm : maxN = 1099511627776 := rfl
  have n1 := ha.n100; have m1 := hb.n100
  have hB := beside_ (by omega) (by omega) ha.w hb.w ha.rgd hb.rgd
  have hR := befG_rgd ha hb
  have oa := ha.o12; have ib := hb.i12; have ia := ha.i12; have ob := hb.o12
  have hP : ∀ p ∈ a.2.2.2.zip (mp (shf n) b.2.2.1), (0 ≤ p.1 ∧ p.1 < ((n + m : Nat) : Int)) ∧ (0 ≤ p.2 ∧ p.2 < ((n + m : Nat) : Int)) := fun p hp => by
    obtain ⟨x, y⟩ := p
    have h := List.of_mem_zip hp
    exact ⟨inRg_wide ha.o x h.1, inRg_shf hb.i y h.2⟩
  have hG := glue_ (P := a.2.2.2.zip (mp (shf n) b.2.2.1)) (by omega) rfl hR hP
  have hO := hb.o; have hAO := ha.o; have hBI := hb.i
  obtain ⟨w0, E, I, O⟩ := a
  obtain ⟨w1, E', I', O'⟩ := b
  obtain rfl : w0 = (n : Int) := ha.w
  obtain rfl : w1 = (m : Int) := hb.w
  dsimp only at oa ib ia ob hl hO hAO hBI
  have hzl : (O.zip (mp (shf n) I')).length = O.length := by rw [List.length_zip, mp_len, hl, Nat.min_self]
  have loop := forS_is (n := O.length) (fun j => (O.zip (mp (shf n) I')).take j) (f := fun (k32 : Nat) (s98 : List (Int × Int)) =>
      (idxO O ((k32 : Nat) : Int)).bind fun a114 =>
      (idxO I' ((k32 : Nat) : Int)).bind fun a123 =>
      (addO (n : Int) a123).bind fun a125 =>
      (appO s98 [(a114, a125)]).bind fun a133 =>
      some a133) (fun j hj => by
    have hji : j < I'.length := by omega
    have hx := hBI _ (List.getElem_mem hji)
    have e : (O.zip (mp (shf n) I')).take (j + 1) = (O.zip (mp (shf n) I')).take j ++ [(O[j], (n : Int) + I'[j])] := by
      rw [List.take_add_one, List.getElem?_eq_getElem (by omega), List.getElem_zip]
      congr 2
      refine congrArg (fun z => [z]) (Prod.ext rfl ?_)
      unfold mp shf
      rw [List.getElem_map]
      show ((I'[j].toNat : Nat) : Int) + n = _
      omega
    rw [e]
    exact bnd (idxO_of (List.getElem?_eq_getElem hj)) (bnd (idxO_of (List.getElem?_eq_getElem hji)) (bnd (addO_of (by omega) (by omega)) (bnd (appO_of (by simp; omega)) rfl))))
  rw [List.take_zero, show (O.zip (mp (shf n) I')).take O.length = O.zip (mp (shf n) I') from by rw [← hzl, List.take_length]] at loop
  exact bnd hB (bnd loop (bnd (clone_ (by dsimp only; omega)) (bnd (from_ (by omega) (by omega)) (bnd (mapped_ _ hO (by dsimp only; omega)) (bnd hG rfl)))))
end Go.Proofs.YtalmpcgbghnhpaaGreatDoor
namespace Go.Proofs.YtalmpcgbghnhpaaGreatDoor
instance : Nice ByteArray := ⟨fun s => (s.size : Int) ≤ 9223372036854775807⟩
def byD (n : Int) : ByteArray := ofBytes ([(48 + n.tmod 10) % 256] : List Int)
def mDig : Nat → Int → ByteArray → ByteArray
  | 0, _, s => s
  | f + 1, n, s => if 0 < n then mDig f (n.tdiv 10) (byD n ++ s) else s
def mText (k : Int) : ByteArray := if k ≤ 0 then ⟨#[109, 48]⟩ else ⟨#[109]⟩ ++ mDig (k.toNat + 1) k .empty
theorem catO_of {a b : ByteArray} (h : a.size + b.size ≤ 9223372036854775807) : catO a b = some (a ++ b) := if_pos (by omega)
theorem byD_size (n : Int) : (byD n).size = 1 := rfl
theorem markText_ (k : Int) (h0 : 0 ≤ k) (h : k ≤ 1125899906842624) : F_laws_markText k = some (mText k) := by
  unfold mText
  by_cases hk : k ≤ 0
  · rw [if_pos hk]; exact stp (cTW (dT hk) rfl)
  · rw [if_neg hk]
    have key : ∀ (f : Nat) (n : Int) (s : ByteArray), 0 ≤ n → n.toNat < f → n + s.size ≤ 1125899906842624 → (mDig f n s).size ≤ 1125899906842624 ∧ whileO (fun (s123 : Int × ByteArray) =>
        (some (decide ((0 : Int) < s123.1))).bind fun a132 =>
        cond a132
        ((remO s123.1 10).bind fun a137 =>
          (addO 48 a137).bind fun a139 =>
          (some (a139 % 256)).bind fun a141 =>
          (some (ofBytes ([a141] : List By))).bind fun a146 =>
          (catO a146 s123.2).bind fun a148 =>
          (quoO s123.1 10).bind fun a150 =>
          some (.inl (a150, a148)))
        (some (.inr s123.2))) (n, s) = some (mDig f n s) := by
      intro f
      induction f with
      | zero => intro n s h1 h2 h3; omega
      | succ f ih =>
        intro n s h1 h2 h3
        rw [mDig]
        by_cases hn : 0 < n
        · rw [if_pos hn]
          have e : n.tdiv 10 = n / 10 := Int.tdiv_eq_ediv_of_nonneg h1
          have e2 : n.tmod 10 = n % 10 := Int.tmod_eq_emod_of_nonneg h1
          have hq : quoO n 10 = some (n.tdiv 10) := by unfold quoO; rw [if_neg (by decide)]; exact cI_of ⟨by omega, by omega⟩
          have hs : (byD n ++ s).size = s.size + 1 := by rw [ByteArray.size_append, byD_size]; omega
          obtain ⟨i1, i2⟩ := ih (n.tdiv 10) (byD n ++ s) (by omega) (by omega) (by rw [hs]; omega)
          refine ⟨i1, ?_⟩
          have st := catO_of (a := byD n) (b := s) (by rw [byD_size]; omega)
          rw [← i2]
          exact whileO_step (stp (cTW (dT hn) (bnd (remO_of (by decide)) (bnd (addO_of (by dsimp only; omega) (by dsimp only; omega)) (stp (stp (bnd st (bnd hq rfl))))))))
        · rw [if_neg hn]
          exact ⟨by omega, whileO_end (stp (cFW (dF hn) rfl))⟩
    obtain ⟨k1, k2⟩ := key (k.toNat + 1) k .empty (by omega) (by omega) (by show k + 0 ≤ _; omega)
    have hz : (⟨#[109]⟩ : ByteArray).size = 1 := rfl
    have hc := catO_of (a := ⟨#[109]⟩) (b := mDig (k.toNat + 1) k .empty) (by omega)
    refine stp (cFW (dF hk) (bnd k2 ?_))
    exact bnd hc rfl
end Go.Proofs.YtalmpcgbghnhpaaGreatDoor
namespace Go.Proofs.YtalmpcgbghnhpaaGreatDoor

abbrev Nod := Int × Int × ByteArray
inductive Tr where
  | leaf (n : Nod)
  | node (k : Int) (a b : Tr)
def flat : Tr → List Nod
  | .leaf n => [n]
  | .node k a b => flat a ++ flat b ++ [(k, 0, .empty)]
theorem flat_pos : ∀ T : Tr, 0 < (flat T).length
  | .leaf _ => by simp [flat]
  | .node _ _ _ => by simp [flat]; omega
/-- the leaves -/
def lfB (n : Nod) : Bool := decide (n.2.2 = .empty) && (rng n.1 1 14 && (if n.1 = 1 then rng n.2.1 0 12 else if n.1 = 7 ∨ n.1 = 13 then rng n.2.1 0 96 else decide (n.2.1 = 0)))
def lfT (n : Nod) : Int × Int := if n.1 = 1 then (n.2.1, n.2.1) else kd n.1
def jn (k : Int) (x y : Int × Int) : Option (Int × Int) := if k = 15 then (if x.2 = y.1 then some (x.1, y.2) else none) else if x.1 + y.1 ≤ 12 ∧ x.2 + y.2 ≤ 12 then some (x.1 + y.1, x.2 + y.2) else none
abbrev Stk := List (Tr × (Int × Int))
def stepT (S : Stk) (n : Nod) : Option Stk :=
  if n.1 = 15 ∨ n.1 = 16 then
    if n.2.1 = 0 ∧ n.2.2 = .empty then match S with
      | (b, y) :: (a, x) :: S' => (jn n.1 x y).map fun w => (.node n.1 a b, w) :: S'
      | _ => none
    else none
  else if lfB n = true then some ((.leaf n, lfT n) :: S) else none
def runT : List Nod → Stk → Option Stk
  | [], S => some S
  | n :: t, S => (stepT S n).bind fun S' => runT t S'
theorem runT_app : ∀ (a b : List Nod) (S : Stk), runT (a ++ b) S = (runT a S).bind fun S' => runT b S'
  | [], b, S => rfl
  | n :: a, b, S => by
    show (stepT S n).bind _ = ((stepT S n).bind _).bind _
    cases stepT S n with
    | none => rfl
    | some S' => exact runT_app a b S'
theorem runT_take {t : List Nod} {j : Nat} (hj : j < t.length) {S : Stk} (h : runT (t.take j) [] = some S) : runT (t.take (j + 1)) [] = stepT S t[j] := by
  rw [List.take_add_one, List.getElem?_eq_getElem hj, runT_app, h]
  show (stepT S t[j]).bind _ = _
  cases stepT S t[j] <;> rfl
theorem runT_none {t : List Nod} {j : Nat} (h : runT (t.take j) [] = none) : runT t [] = none := by
  have : t = t.take j ++ t.drop j := (List.take_append_drop _ _).symm
  rw [this, runT_app, h]; rfl
def validB (t : List Nod) : Bool := rng t.length 1 400 && (match runT t [] with | some [_] => true | _ => false)
/-- what holds of all trees on the stack -/
def wOk2 (w : Int × Int) : Prop := 0 ≤ w.1 ∧ w.1 ≤ 12 ∧ 0 ≤ w.2 ∧ w.2 ≤ 12
theorem lfT_ok {n : Nod} (h : lfB n = true) : wOk2 (lfT n) := by
  unfold lfB at h
  simp only [Bool.and_eq_true, decide_eq_true_eq] at h
  unfold lfT
  by_cases h1 : n.1 = 1
  · rw [if_pos h1]
    rw [if_pos h1] at h
    have := rng_true.1 h.2.2
    exact ⟨this.1, this.2, this.1, this.2⟩
  · rw [if_neg h1]
    have := kd_le n.1
    exact ⟨by omega, by omega, by omega, by omega⟩
theorem jn_ok {k : Int} {x y w : Int × Int} (hx : wOk2 x) (hy : wOk2 y) (h : jn k x y = some w) : wOk2 w := by
  obtain ⟨a1, a2, a3, a4⟩ := hx
  obtain ⟨b1, b2, b3, b4⟩ := hy
  unfold jn at h
  split at h
  · split at h
    · obtain rfl := Option.some.inj h; exact ⟨a1, a2, b3, b4⟩
    · cases h
  · split at h
    · obtain rfl := Option.some.inj h
      exact ⟨by dsimp only; omega, by dsimp only; omega, by dsimp only; omega, by dsimp only; omega⟩
    · cases h
def stkOk (S : Stk) : Prop := ∀ p ∈ S, wOk2 p.2
theorem stepT_ok {S S' : Stk} {n : Nod} (hS : stkOk S) (h : stepT S n = some S') : stkOk S' := by
  unfold stepT at h
  split at h
  · split at h
    · split at h
      · rename_i b y a x S0
        obtain ⟨w, hw, rfl⟩ := Option.map_eq_some_iff.1 h
        intro p hp
        rcases List.mem_cons.1 hp with rfl | hp
        · exact jn_ok (hS (a, x) (by simp)) (hS (b, y) (by simp)) hw
        · exact hS p (by simp [hp])
      · cases h
    · cases h
  · split at h
    · obtain rfl := Option.some.inj h
      intro p hp
      rcases List.mem_cons.1 hp with rfl | hp
      · exact lfT_ok ‹_›
      · exact hS p hp
    · cases h
theorem runT_ok : ∀ (t : List Nod) (S S' : Stk), stkOk S → runT t S = some S' → stkOk S'
  | [], S, S', hS, h => by obtain rfl := Option.some.inj h; exact hS
  | n :: t, S, S', hS, h => by
    obtain ⟨S1, h1, h2⟩ := bindS h
    exact runT_ok t S1 S' (stepT_ok hS h1) h2
/-- the nodes of the stack's trees are what has been read -/
def stkN (S : Stk) : List Nod := (S.reverse.map fun p => flat p.1).flatten
theorem stepT_flat {S S' : Stk} {n : Nod} (h : stepT S n = some S') : stkN S' = stkN S ++ [n] := by
  unfold stepT at h
  split at h
  · split at h
    · rename_i h0
      split at h
      · rename_i b y a x S0
        obtain ⟨w, hw, rfl⟩ := Option.map_eq_some_iff.1 h
        unfold stkN
        obtain ⟨k, v, s⟩ := n
        obtain ⟨rfl, rfl⟩ := h0
        simp [flat, List.append_assoc]
      · cases h
    · cases h
  · split at h
    · obtain rfl := Option.some.inj h
      unfold stkN
      simp [flat]
    · cases h
theorem runT_flat : ∀ (t : List Nod) (S S' : Stk), runT t S = some S' → stkN S' = stkN S ++ t
  | [], S, S', h => by obtain rfl := Option.some.inj h; simp
  | n :: t, S, S', h => by
    obtain ⟨S1, h1, h2⟩ := bindS h
    rw [runT_flat t S1 S' h2, stepT_flat h1, List.append_assoc]; rfl

/-! ### leaves in both -/
theorem tmLeaf_ (n : Nod) : F_spec_tmLeaf n = some (lfB n) := by
  obtain ⟨k, v, s⟩ := n
  unfold F_spec_tmLeaf lfB
  by_cases hs : s = .empty
  case neg => simp [hs]
  cases hr : rng k 1 14 with
  | false => simp [hs, l1In, hr]
  | true =>
    by_cases h1 : k = 1
    · subst h1; simp [hs, l1In, hr]
    by_cases h7 : k = 7
    · subst h7; simp [hs, l1In, hr]
    by_cases h13 : k = 13
    · subst h13; simp [hs, l1In, hr]
    simp [hs, l1In, hr, h1, h7, h13]
theorem tmArity_ (n : Nod) : F_spec_tmArity n = some (lfT n) := by
  obtain ⟨k, v, s⟩ := n
  unfold F_spec_tmArity lfT
  by_cases h1 : k = 1
  · simp [h1]
  · simp [h1, tmKind_]
theorem leafWires_ (n : Nod) : ∃ w, F_impl_leafWires n = some (w, lfB n) ∧ (lfB n = true → w = lfT n) := by
  obtain ⟨k, v, s⟩ := n
  by_cases hs : s = .empty
  case neg =>
    refine ⟨(0, 0), ?_, fun h => ?_⟩
    · unfold F_impl_leafWires lfB; simp [hs]
    · unfold lfB at h; simp [hs] at h
  by_cases h1 : k = 1
  · subst h1
    refine ⟨(v, v), ?_, fun _ => rfl⟩
    have hr : rng 1 1 14 = true := by decide
    unfold F_impl_leafWires lfB; simp [hs, within_, hr]
  by_cases h2 : k = 2
  · subst h2
    refine ⟨(2, 2), ?_, fun _ => rfl⟩
    have hr : rng 2 1 14 = true := by decide
    unfold F_impl_leafWires lfB; simp [hs, hr]
  cases hg : rng k 3 14 with
  | false =>
    have hr : rng k 1 14 = false := by
      cases hr : rng k 1 14 with
      | false => rfl
      | true =>
        have := rng_true.1 hr
        have : rng k 3 14 = true := rng_true.2 (by omega)
        rw [this] at hg; cases hg
    refine ⟨(0, 0), ?_, fun h => ?_⟩
    · unfold F_impl_leafWires lfB F_impl_isGenerator; simp [hs, h1, h2, within_, hg, hr]
    · unfold lfB at h; simp [hr] at h
  | true =>
    have hb := rng_true.1 hg
    have hr : rng k 1 14 = true := rng_true.2 (by omega)
    refine ⟨kd k, ?_, fun _ => by unfold lfT; rw [if_neg h1]⟩
    have hgen : genB k v = (if k = 7 ∨ k = 13 then rng v 0 96 else decide (v = 0)) := by unfold genB; rw [hg, Bool.true_and]
    unfold F_impl_leafWires lfB F_impl_isGenerator
    simp only [hs, h1, h2, within_, hg, hr, generatorWires_ hg, isGeneratorValue_ hg, hgen, decide_true, decide_false, Bool.not_true, cond_false, cond_true, Option.bind_some, Bool.true_and, if_false]
theorem joinWires_ {k : Int} {x y : Int × Int} (hx : wOk2 x) (hy : wOk2 y) : ∃ w, F_impl_joinWires k x y = some (w, (jn k x y).isSome) ∧ ∀ z, jn k x y = some z → w = z := by
  obtain ⟨x1, x2⟩ := x
  obtain ⟨y1, y2⟩ := y
  obtain ⟨a1, a2, a3, a4⟩ := hx
  obtain ⟨b1, b2, b3, b4⟩ := hy
  dsimp only at a1 a2 a3 a4 b1 b2 b3 b4
  by_cases hk : k = 15
  · refine ⟨(x1, y2), ?_, fun z hz => ?_⟩
    · unfold F_impl_joinWires jn
      by_cases h : x2 = y1
      · simp [hk, h]
      · simp [hk, h]
    · unfold jn at hz
      rw [if_pos hk] at hz
      split at hz
      · exact Option.some.inj hz
      · cases hz
  · refine ⟨(x1 + y1, x2 + y2), ?_, fun z hz => ?_⟩
    · have s1 : addO x1 y1 = some (x1 + y1) := addO_of (by omega) (by omega)
      have s2 : addO x2 y2 = some (x2 + y2) := addO_of (by omega) (by omega)
      unfold F_impl_joinWires jn F_impl_wires_fit
      by_cases h1 : x1 + y1 ≤ 12
      · by_cases h2 : x2 + y2 ≤ 12
        · simp [hk, s1, s2, h1, h2]
        · simp [hk, s1, s2, h1, h2]
      · simp [hk, s1, s2, h1]
    · unfold jn at hz
      rw [if_neg hk] at hz
      split at hz
      · exact Option.some.inj hz
      · cases hz

/-! ### the program's test -/
def tysR (S : Stk) : List (Int × Int) := (S.map fun p => p.2).reverse
/-- the type of a valid term -/
def tyT (t : List Nod) : Int × Int := match runT t [] with | some [(_, w)] => w | _ => (0, 0)
theorem typed_ (t : List Nod) : ∃ w, F_impl_typed_impl_leafWires t = some (w, validB t) ∧ (validB t = true → w = tyT t) := by
  have hm : maxN = 1099511627776 := rfl
  cases hr : rng t.length 1 400 with
  | false =>
    have hv : validB t = false := by unfold validB; rw [hr]; rfl
    refine ⟨(0, 0), bnd (within_ _ _ _) (stp ?_), fun h => by rw [hv] at h; cases h⟩
    rw [hv, hr]; rfl
  | true =>
    have hl := rng_true.1 hr
    have loop := forO_rel (n := t.length) (s := ([] : List (Int × Int))) (f := fun (k14 : Nat) (s884 : List (Int × Int)) =>
        seqO ((idxO t ((k14 : Nat) : Int)).bind fun a1117 =>
          ((some (!decide (a1117.1 = 15))).bind fun a1137 =>
            cond a1137
            ((some (!decide (a1117.1 = 16))).bind fun a1141 =>
              some a1141)
            (some false)).bind fun (s1131 : Bool) =>
          cond s1131
          ((F_impl_leafWires (a1117.1, a1117.2.1, a1117.2.2)).bind fun y1302 =>
            (some (!y1302.2)).bind fun a1309 =>
            cond a1309
            (some (.inr (.inr ((0, 0), false))))
            ((appO s884 [(y1302.1.1, y1302.1.2)]).bind fun a1318 =>
              some (.inl a1318)))
          (((some (!decide (a1117.2.1 = 0))).bind fun a1162 =>
              cond a1162
              (some true)
              ((some (!decide ((a1117.2.2 : ByteArray) = .empty))).bind fun a1165 =>
                cond a1165
                (some true)
                ((some (decide (((s884.length : Nat) : Int) < 2))).bind fun a1168 =>
                  some a1168))).bind fun (s1156 : Bool) =>
            cond s1156
            (some (.inr (.inr ((0, 0), false))))
            ((subO ((s884.length : Nat) : Int) 1).bind fun a1175 =>
              ((subO a1175 1).bind fun a1228 =>
                (idxO s884 a1228).bind fun a1236 =>
                (idxO s884 a1175).bind fun a1245 =>
                (F_impl_joinWires a1117.1 (a1236.1, a1236.2) (a1245.1, a1245.2)).bind fun y1255 =>
                some (y1255.1.1, y1255.1.2, y1255.2)).bind fun (s1220 : Int × Int × Bool) =>
              (some (!s1220.2.2)).bind fun a1272 =>
              cond a1272
              (some (.inr (.inr ((0, 0), false))))
              ((subO a1175 1).bind fun a1276 =>
                (sliceO s884 0 a1276).bind fun a1278 =>
                (appO a1278 [(s1220.1, s1220.2.1)]).bind fun a1288 =>
                some (.inl a1288))))) fun (s1104 : List (Int × Int)) =>
        some (.inl s1104)) (fun j s => ∃ S, runT (t.take j) [] = some S ∧ s = tysR S ∧ S.length ≤ j) (fun r => r = (((0 : Int), (0 : Int)), false) ∧ runT t [] = none) ⟨[], rfl, rfl, Nat.le_refl _⟩ (by
      rintro j s hj ⟨S, h1, rfl, h3⟩
      have hS := runT_ok _ _ _ (fun p hp => by cases hp) h1
      have hstep := runT_take hj h1
      have hlen : (tysR S).length = S.length := by unfold tysR; simp
      -- the two ends of a round
      have bad : stepT S t[j] = none → runT t [] = none := fun hn => runT_none (hstep.trans hn)
      have hi := idxO_of (List.getElem?_eq_getElem hj)
      generalize t[j] = n at hstep bad hi
      obtain ⟨k, v, u⟩ := n
      by_cases hk : k = 15 ∨ k = 16
      · have hc : ((some (!decide (k = 15))).bind fun a1137 => cond a1137 ((some (!decide (k = 16))).bind fun a1141 => some a1141) (some false)) = some false := by
          rcases hk with rfl | rfl <;> rfl
        have hst : stepT S (k, v, u) = if v = 0 ∧ u = .empty then (match S with
            | (b, y) :: (a, x) :: S' => (jn k x y).map fun w => (.node k a b, w) :: S'
            | _ => none) else none := by unfold stepT; rw [if_pos hk]
        by_cases hv : v = 0
        case neg =>
          have hn : stepT S (k, v, u) = none := by rw [hst, if_neg (fun h => hv h.1)]
          exact .inr ⟨_, sqW (bnd hi (bnd hc (cFW rfl (bnd (a := true) (stp (cTW (nF (dF hv)) rfl)) rfl)))) rfl, rfl, bad hn⟩
        by_cases hu : u = .empty
        case neg =>
          have hn : stepT S (k, v, u) = none := by rw [hst, if_neg (fun h => hu h.2)]
          exact .inr ⟨_, sqW (bnd hi (bnd hc (cFW rfl (bnd (a := true) (stp (cFW (nT (dT hv)) (stp (cTW (nF (dF hu)) rfl)))) rfl)))) rfl, rfl, bad hn⟩
        rw [if_pos ⟨hv, hu⟩] at hst
        by_cases h2 : S.length < 2
        · have hn : stepT S (k, v, u) = none := by
            rw [hst]
            match S, h2 with
            | [], _ => rfl
            | [p], _ => rfl
          refine .inr ⟨_, sqW (bnd hi (bnd hc (cFW rfl (bnd (a := true) (stp (cFW (nT (dT hv)) (stp (cFW (nT (dT hu)) (stp (congrArg some (dT ?_))))))) rfl)))) rfl, rfl, bad hn⟩
          rw [hlen]; omega
        · obtain ⟨b, y, a, x, S', rfl⟩ : ∃ b y a x S', S = (b, y) :: (a, x) :: S' := by
            match S, h2 with
            | (b, y) :: (a, x) :: S', _ => exact ⟨_, _, _, _, _, rfl⟩
            | [p], h2 => exact (h2 (by simp)).elim
            | [], h2 => exact (h2 (by simp)).elim
          have h3' : S'.length + 2 ≤ j := by simpa using h3
          have hlen' : (tysR ((b, y) :: (a, x) :: S')).length = S'.length + 2 := by simpa using hlen
          have hx := hS (a, x) (by simp)
          have hy := hS (b, y) (by simp)
          obtain ⟨w, w1, w2⟩ := joinWires_ (k := k) hx hy
          have e0 : tysR ((b, y) :: (a, x) :: S') = tysR S' ++ [x] ++ [y] := by unfold tysR; simp
          have l0 : (tysR S').length = S'.length := by unfold tysR; simp
          have i1 : idxO (tysR ((b, y) :: (a, x) :: S')) ((S'.length : Nat) : Int) = some x := by
            rw [e0, idxO_nat, ← l0, List.append_assoc, List.getElem?_append_right (Nat.le_refl _), Nat.sub_self]; rfl
          have i2 : idxO (tysR ((b, y) :: (a, x) :: S')) (((S'.length + 1 : Nat)) : Int) = some y := by
            rw [e0, idxO_nat, ← l0, List.append_assoc, List.getElem?_append_right (by omega), Nat.add_sub_cancel_left]; rfl
          have s1 : subO (((tysR ((b, y) :: (a, x) :: S')).length : Nat) : Int) 1 = some ((S'.length + 1 : Nat) : Int) := by
            rw [hlen', subO_of (by omega) (by omega)]; congr 1; omega
          have s2 : subO ((S'.length + 1 : Nat) : Int) 1 = some ((S'.length : Nat) : Int) := by
            rw [subO_of (by omega) (by omega)]; congr 1; omega
          have sl : sliceO (tysR ((b, y) :: (a, x) :: S')) 0 ((S'.length : Nat) : Int) = some (tysR S') := by
            unfold sliceO; rw [if_pos ⟨by omega, by omega, by rw [hlen']; omega⟩, e0]
            simp [← l0, List.append_assoc]
          have hpre : ∀ {α : Type} {r : Option α} {K : Bool → Option α}, K false = r → (((some (!decide (v = 0))).bind fun a1162 =>
            cond a1162
            (some true)
            ((some (!decide ((u : ByteArray) = .empty))).bind fun a1165 =>
              cond a1165
              (some true)
              ((some (decide ((((tysR ((b, y) :: (a, x) :: S')).length : Nat) : Int) < 2))).bind fun a1168 =>
                some a1168))).bind K) = r := fun h => bnd (a := false) (stp (cFW (nT (dT hv)) (stp (cFW (nT (dT hu)) (stp (congrArg some (dF (by rw [hlen']; omega)))))))) h
          have hj2 : ∀ {α : Type} {r : Option α} {K : Int × Int × Bool → Option α}, K (w.1, w.2, (jn k x y).isSome) = r → (((subO ((S'.length + 1 : Nat) : Int) 1).bind fun a1228 =>
              (idxO (tysR ((b, y) :: (a, x) :: S')) a1228).bind fun a1236 =>
              (idxO (tysR ((b, y) :: (a, x) :: S')) ((S'.length + 1 : Nat) : Int)).bind fun a1245 =>
              (F_impl_joinWires k (a1236.1, a1236.2) (a1245.1, a1245.2)).bind fun y1255 =>
              some (y1255.1.1, y1255.1.2, y1255.2)).bind K) = r := fun h => bnd (bnd s2 (bnd i1 (bnd i2 (bnd w1 rfl)))) h
          cases hjn : jn k x y with
          | none =>
            rw [hjn] at hj2
            have hn : stepT ((b, y) :: (a, x) :: S') (k, v, u) = none := by rw [hst]; simp only [hjn, Option.map_none]
            exact .inr ⟨_, sqW (bnd hi (bnd hc (cFW rfl (hpre (cFW rfl (bnd s1 (hj2 rfl))))))) rfl, rfl, bad hn⟩
          | some z =>
            rw [hjn] at hj2
            have hz := w2 z hjn
            subst hz
            have hn : stepT ((b, y) :: (a, x) :: S') (k, v, u) = some ((.node k a b, w) :: S') := by rw [hst]; simp only [hjn, Option.map_some]
            refine .inl ⟨tysR S' ++ [w], sqW (bnd hi (bnd hc (cFW rfl (hpre (cFW rfl (bnd s1 (hj2 (stp (cFW rfl (bnd s2 (bnd sl (bnd (appO_of ?_) rfl))))))))))) ) rfl, (.node k a b, w) :: S', by rw [hstep, hn], by unfold tysR; simp, by simp; omega⟩
            rw [l0]; simp; omega
      · have hc : ((some (!decide (k = 15))).bind fun a1137 => cond a1137 ((some (!decide (k = 16))).bind fun a1141 => some a1141) (some false)) = some true := by
          simp only [not_or] at hk
          simp [hk.1, hk.2]
        obtain ⟨w, w1, w2⟩ := leafWires_ (k, v, u)
        cases hb : lfB (k, v, u) with
        | false =>
          rw [hb] at w1
          have hn : stepT S (k, v, u) = none := by unfold stepT; rw [if_neg hk, if_neg (by rw [hb]; simp)]
          exact .inr ⟨_, sqW (bnd hi (bnd hc (cTW rfl (bnd w1 rfl)))) rfl, rfl, bad hn⟩
        | true =>
          rw [hb] at w1
          have hn : stepT S (k, v, u) = some ((.leaf (k, v, u), lfT (k, v, u)) :: S) := by unfold stepT; rw [if_neg hk, if_pos hb]
          refine .inl ⟨tysR S ++ [w], sqW (bnd hi (bnd hc (cTW rfl (bnd w1 (stp (cFW rfl (bnd (appO_of ?_) rfl))))))) rfl, _, by rw [hstep, hn], by rw [w2 hb]; unfold tysR; simp, by simp; omega⟩
          rw [hlen]; simp; omega)
    rcases loop with ⟨s, h1, S, h2, rfl, h4⟩ | ⟨r, h1, rfl, h2⟩
    · rw [List.take_length] at h2
      have hlen : (tysR S).length = S.length := by unfold tysR; simp
      -- the stack is not empty
      have hne : S ≠ [] := by
        rintro rfl
        have := runT_flat _ _ _ h2
        unfold stkN at this
        simp at this
        rw [this] at hl; simp at hl
      cases hS : tysR S with
      | nil => rw [hS] at hlen; exact (hne (List.eq_nil_of_length_eq_zero hlen.symm)).elim
      | cons w ws =>
        have hty : validB t = true → w = tyT t := fun hv => by
          unfold validB at hv
          unfold tyT
          rw [hr, h2] at hv
          rw [h2]
          match S, hS, hv with
          | [(T, w')], hS, _ => exact (List.cons.inj hS).1.symm
        refine ⟨w, bnd (within_ _ _ _) (stp ?_), hty⟩
        rw [hr]
        refine cFW rfl (sqW h1 ?_)
        rw [seqO_l, hS]
        refine bnd (a := w) rfl (stp (congrArg some (Prod.ext rfl ?_)))
        unfold validB
        rw [hr, h2]
        rw [← hS, hlen]
        match S with
        | [] => exact (hne rfl).elim
        | [p] => simp
        | p :: q :: S => simp; omega
    · have hv : validB t = false := by unfold validB; rw [h2, hr]; rfl
      refine ⟨(0, 0), bnd (within_ _ _ _) (stp ?_), fun h => by rw [hv] at h; cases h⟩
      rw [hr]
      refine cFW rfl (sqW h1 ?_)
      rw [seqO_r, hv]
theorem isValid_ (t : List Nod) : F_impl_Term_isValid t = some (validB t) := by
  obtain ⟨w, h, _⟩ := typed_ t
  exact bnd (bnd h rfl) rfl

/-! ### the reference's test -/
/-- what the reference's lists say of the trees on the stack -/
def ScR (x : List Int × List Int × List Int) : Nat → Stk → Prop
  | i, [] => i = 0
  | i, (T, w) :: S => (flat T).length ≤ i ∧ x.1[i - 1]? = some ((i - (flat T).length : Nat) : Int) ∧ x.2.1[i - 1]? = some w.1 ∧ x.2.2[i - 1]? = some w.2 ∧ ScR x (i - (flat T).length) S
theorem ScR.mono {x x' : List Int × List Int × List Int} : ∀ {S : Stk} {i : Nat}, ScR x i S → (∀ k, k < i → x'.1[k]? = x.1[k]? ∧ x'.2.1[k]? = x.2.1[k]? ∧ x'.2.2[k]? = x.2.2[k]?) → ScR x' i S
  | [], _, h, _ => h
  | (T, w) :: S, i, ⟨h1, h2, h3, h4, h5⟩, h => by
    have hp := flat_pos T
    obtain ⟨k1, k2, k3⟩ := h (i - 1) (by omega)
    exact ⟨h1, k1.trans h2, k2.trans h3, k3.trans h4, h5.mono (fun k hk => h k (by omega))⟩
theorem get_snoc {l : List Int} {i : Nat} (hl : l.length = i) (a : Int) : (∀ k, k < i → (l ++ [a])[k]? = l[k]?) ∧ (l ++ [a])[i]? = some a :=
  ⟨fun k hk => List.getElem?_append_left (by omega), by rw [List.getElem?_append_right (by omega), hl, Nat.sub_self]; rfl⟩
theorem ScR.push {x : List Int × List Int × List Int} {S : Stk} {i : Nat} {T : Tr} {w : Int × Int} (l1 : x.1.length = i) (l2 : x.2.1.length = i) (l3 : x.2.2.length = i) (hT : (flat T).length ≤ i + 1) (h : ScR x (i + 1 - (flat T).length) S) :
    ScR (x.1 ++ [((i + 1 - (flat T).length : Nat) : Int)], x.2.1 ++ [w.1], x.2.2 ++ [w.2]) (i + 1) ((T, w) :: S) := by
  have hp := flat_pos T
  have g1 := get_snoc l1 ((i + 1 - (flat T).length : Nat) : Int)
  have g2 := get_snoc l2 w.1
  have g3 := get_snoc l3 w.2
  refine ⟨hT, ?_, ?_, ?_, h.mono (fun k hk => ⟨g1.1 k (by omega), g2.1 k (by omega), g3.1 k (by omega)⟩)⟩
  · rw [Nat.add_sub_cancel]; exact g1.2
  · rw [Nat.add_sub_cancel]; exact g2.2
  · rw [Nat.add_sub_cancel]; exact g3.2
theorem add_of12 {a b : Int} (h1 : 0 ≤ a) (h2 : a ≤ 12) (h3 : 0 ≤ b) (h4 : b ≤ 12) : addO a b = some (a + b) := addO_of (by omega) (by omega)
theorem lbFind_nil (s : ByteArray) : F_spec_lbFind [] s = some (-1) := rfl
/-- the reference's scan, whatever it makes of the term -/
theorem lbScan_ (t : List Nod) : ∃ x, F_spec_lbScan [] t = some (x, validB t) ∧ (∀ S, runT t [] = some S → rng t.length 1 400 = true → x.1.length = t.length ∧ ScR x t.length S ∧
    ∀ S0 (p q : List Nod), t = p ++ q → runT p [] = some S0 → ScR x p.length S0) := by
  have hm : maxN = 1099511627776 := rfl
  cases hr : rng t.length 1 400 with
  | false =>
    refine ⟨([], [], []), bnd (l1In _ _ _) (stp ?_), fun _ _ h => by cases h⟩
    unfold validB
    rw [hr]; rfl
  | true =>
    have hl := rng_true.1 hr
    have loop := forO_rel (n := t.length) (s := (([] : List Int), ([] : List Int), ([] : List Int))) (f := fun (k18 : Nat) (s2156 : List Int × List Int × List Int) =>
        seqO ((idxO t ((k18 : Nat) : Int)).bind fun a2699 =>
          ((F_spec_tmLeaf (a2699.1, a2699.2.1, a2699.2.2)).bind fun y2720 =>
            cond y2720
            (some true)
            ((some (decide (a2699.1 = 17))).bind fun a2724 =>
              some a2724)).bind fun (s2714 : Bool) =>
          cond s2714
          ((F_spec_tmArity (a2699.1, a2699.2.1, a2699.2.2)).bind fun y3063 =>
            seqO ((some (decide (a2699.1 = 17))).bind fun a3127 =>
              cond a3127
              ((F_spec_lbFind [] a2699.2.2).bind fun y3131 =>
                ((some (decide (y3131 < 0))).bind fun a3146 =>
                  cond a3146
                  (some true)
                  ((some (!decide (a2699.2.1 = 0))).bind fun a3149 =>
                    some a3149)).bind fun (s3140 : Bool) =>
                cond s3140
                (some (.inr (.inr (.inr ((s2156.1, s2156.2.1, s2156.2.2), false)))))
                ((idxO ([] : List (ByteArray × Int × Int × List Nod)) y3131).bind fun a3162 =>
                  (idxO ([] : List (ByteArray × Int × Int × List Nod)) y3131).bind fun a3174 =>
                  some (.inl (a3174.2.2.1, a3162.2.1))))
              (some (.inl (y3063.2, y3063.1)))) fun (s3121 : Int × Int) =>
            (appO s2156.1 [((k18 : Nat) : Int)]).bind fun a3190 =>
            (appO s2156.2.1 [s3121.2]).bind fun a3199 =>
            (appO s2156.2.2 [s3121.1]).bind fun a3208 =>
            some (.inl (a3190, a3199, a3208)))
          (((some (!decide (a2699.1 = 15))).bind fun a2792 =>
              cond a2792
              ((some (!decide (a2699.1 = 16))).bind fun a2820 =>
                cond a2820
                (some true)
                ((some (!decide ((a2699.2.2 : ByteArray) = .empty))).bind fun a2823 =>
                  cond a2823
                  (some true)
                  ((some (!decide (a2699.2.1 = 0))).bind fun a2826 =>
                    cond a2826
                    (some true)
                    ((some (decide (((k18 : Nat) : Int) < 2))).bind fun a2829 =>
                      cond a2829
                      (some true)
                      ((subO ((k18 : Nat) : Int) 1).bind fun a2832 =>
                        (idxO s2156.1 a2832).bind fun a2840 =>
                        (some (decide (a2840 < 1))).bind fun a2842 =>
                        some a2842)))))
              ((some (!decide ((a2699.2.2 : ByteArray) = .empty))).bind fun a2795 =>
                cond a2795
                (some true)
                ((some (!decide (a2699.2.1 = 0))).bind fun a2798 =>
                  cond a2798
                  (some true)
                  ((some (decide (((k18 : Nat) : Int) < 2))).bind fun a2801 =>
                    cond a2801
                    (some true)
                    ((subO ((k18 : Nat) : Int) 1).bind fun a2804 =>
                      (idxO s2156.1 a2804).bind fun a2812 =>
                      (some (decide (a2812 < 1))).bind fun a2814 =>
                      some a2814))))).bind fun (s2786 : Bool) =>
            cond s2786
            (some (.inr (.inr ((s2156.1, s2156.2.1, s2156.2.2), false))))
            ((subO ((k18 : Nat) : Int) 1).bind fun a2851 =>
              (idxO s2156.1 a2851).bind fun a2859 =>
              (subO a2859 1).bind fun a2861 =>
              (idxO s2156.2.1 a2861).bind fun a2870 =>
              (idxO s2156.2.1 a2851).bind fun a2878 =>
              (addO a2870 a2878).bind fun a2880 =>
              (idxO s2156.2.2 a2861).bind fun a2888 =>
              (idxO s2156.2.2 a2851).bind fun a2896 =>
              (addO a2888 a2896).bind fun a2898 =>
              seqO ((some (decide (a2699.1 = 15))).bind fun a2949 =>
                cond a2949
                ((idxO s2156.2.2 a2861).bind fun a2960 =>
                  (idxO s2156.2.1 a2851).bind fun a2968 =>
                  (some (!decide (a2960 = a2968))).bind fun a2970 =>
                  cond a2970
                  (some (.inr (.inr (.inr ((s2156.1, s2156.2.1, s2156.2.2), false)))))
                  ((idxO s2156.2.1 a2861).bind fun a2980 =>
                    (idxO s2156.2.2 a2851).bind fun a2988 =>
                    some (.inl (a2980, a2988))))
                (some (.inl (a2880, a2898)))) fun (s2943 : Int × Int) =>
              ((some (decide ((12 : Int) < s2943.1))).bind fun a3009 =>
                cond a3009
                (some true)
                ((some (decide ((12 : Int) < s2943.2))).bind fun a3012 =>
                  some a3012)).bind fun (s3003 : Bool) =>
              cond s3003
              (some (.inr (.inr ((s2156.1, s2156.2.1, s2156.2.2), false))))
              ((idxO s2156.1 a2861).bind fun a3025 =>
                (appO s2156.1 [a3025]).bind fun a3030 =>
                (appO s2156.2.1 [s2943.1]).bind fun a3039 =>
                (appO s2156.2.2 [s2943.2]).bind fun a3048 =>
                some (.inl (a3030, a3039, a3048)))))) fun (s2684 : List Int × List Int × List Int) =>
        some (.inl (s2684.1, s2684.2.1, s2684.2.2)))
      (fun j x => ∃ S, runT (t.take j) [] = some S ∧ x.1.length = j ∧ x.2.1.length = j ∧ x.2.2.length = j ∧ ScR x j S ∧ ∀ i S0, i ≤ j → runT (t.take i) [] = some S0 → ScR x i S0) (fun r => r.2 = false ∧ runT t [] = none)
      ⟨[], rfl, rfl, rfl, rfl, rfl, fun i S0 hi h => by
        obtain rfl : i = 0 := by omega
        obtain rfl := Option.some.inj h
        rfl⟩ (by
      rintro j ⟨x1, x2, x3⟩ hj ⟨S, h1, l1, l2, l3, h2, hall⟩
      dsimp only at l1 l2 l3
      have hS := runT_ok _ _ _ (fun p hp => by cases hp) h1
      have hstep := runT_take hj h1
      have bad : stepT S t[j] = none → runT t [] = none := fun hn => runT_none (hstep.trans hn)
      have hi := idxO_of (List.getElem?_eq_getElem hj)
      -- a good end of a round
      have good : ∀ (T : Tr) (w : Int × Int) (S' : Stk), runT (t.take (j + 1)) [] = some ((T, w) :: S') → (flat T).length ≤ j + 1 → ScR (x1, x2, x3) (j + 1 - (flat T).length) S' → ∃ S1, runT (t.take (j + 1)) [] = some S1 ∧ (x1 ++ [((j + 1 - (flat T).length : Nat) : Int)]).length = j + 1 ∧ (x2 ++ [w.1]).length = j + 1 ∧ (x3 ++ [w.2]).length = j + 1 ∧
          ScR (x1 ++ [((j + 1 - (flat T).length : Nat) : Int)], x2 ++ [w.1], x3 ++ [w.2]) (j + 1) S1 ∧ ∀ i S0, i ≤ j + 1 → runT (t.take i) [] = some S0 → ScR (x1 ++ [((j + 1 - (flat T).length : Nat) : Int)], x2 ++ [w.1], x3 ++ [w.2]) i S0 := by
        intro T w S' hr1 hT hsc
        have hp := ScR.push (x := (x1, x2, x3)) (w := w) l1 l2 l3 hT hsc
        refine ⟨_, hr1, by simp [l1], by simp [l2], by simp [l3], hp, fun i S0 hi0 hS0 => ?_⟩
        by_cases hij : i = j + 1
        · subst hij
          rw [hr1] at hS0
          obtain rfl := Option.some.inj hS0
          exact hp
        · refine (hall i S0 (by omega) hS0).mono (fun k hk => ?_)
          exact ⟨(get_snoc l1 _).1 k (by omega), (get_snoc l2 _).1 k (by omega), (get_snoc l3 _).1 k (by omega)⟩
      generalize t[j] = n at hstep bad hi
      obtain ⟨k, v, u⟩ := n
      by_cases hk : k = 15 ∨ k = 16
      · have hlf : lfB (k, v, u) = false := by
          have hr : rng k 1 14 = false := by rcases hk with rfl | rfl <;> decide
          unfold lfB; dsimp only; rw [hr]; simp
        have hk17 : ¬ k = 17 := by omega
        have hc : ((F_spec_tmLeaf (k, v, u)).bind fun y2720 => cond y2720 (some true) ((some (decide (k = 17))).bind fun a2724 => some a2724)) = some false :=
          bnd (tmLeaf_ _) (by rw [hlf]; exact cFW rfl (stp (congrArg some (dF hk17))))
        have hst : stepT S (k, v, u) = if v = 0 ∧ u = .empty then (match S with
            | (b, y) :: (a, x) :: S' => (jn k x y).map fun w => (.node k a b, w) :: S'
            | _ => none) else none := by unfold stepT; rw [if_pos hk]
        -- the test ahead
        have hten : ∀ b : Bool, ((some (!decide ((u : ByteArray) = .empty))).bind fun a2795 =>
                cond a2795
                (some true)
                ((some (!decide (v = 0))).bind fun a2798 =>
                  cond a2798
                  (some true)
                  ((some (decide (((j : Nat) : Int) < 2))).bind fun a2801 =>
                    cond a2801
                    (some true)
                    ((subO ((j : Nat) : Int) 1).bind fun a2804 =>
                      (idxO x1 a2804).bind fun a2812 =>
                      (some (decide (a2812 < 1))).bind fun a2814 =>
                      some a2814)))) = some b → (((some (!decide (k = 15))).bind fun a2792 =>
              cond a2792
              ((some (!decide (k = 16))).bind fun a2820 =>
                cond a2820
                (some true)
                ((some (!decide ((u : ByteArray) = .empty))).bind fun a2823 =>
                  cond a2823
                  (some true)
                  ((some (!decide (v = 0))).bind fun a2826 =>
                    cond a2826
                    (some true)
                    ((some (decide (((j : Nat) : Int) < 2))).bind fun a2829 =>
                      cond a2829
                      (some true)
                      ((subO ((j : Nat) : Int) 1).bind fun a2832 =>
                        (idxO x1 a2832).bind fun a2840 =>
                        (some (decide (a2840 < 1))).bind fun a2842 =>
                        some a2842)))))
              ((some (!decide ((u : ByteArray) = .empty))).bind fun a2795 =>
                cond a2795
                (some true)
                ((some (!decide (v = 0))).bind fun a2798 =>
                  cond a2798
                  (some true)
                  ((some (decide (((j : Nat) : Int) < 2))).bind fun a2801 =>
                    cond a2801
                    (some true)
                    ((subO ((j : Nat) : Int) 1).bind fun a2804 =>
                      (idxO x1 a2804).bind fun a2812 =>
                      (some (decide (a2812 < 1))).bind fun a2814 =>
                      some a2814))))) = some b) := by
          intro b hb
          rcases hk with rfl | rfl
          · exact stp (cFW rfl hb)
          · exact stp (cTW rfl (stp (cFW rfl hb)))
        have fail : ∀ {n : Option Stk}, ((some (!decide ((u : ByteArray) = .empty))).bind fun a2795 =>
                cond a2795
                (some true)
                ((some (!decide (v = 0))).bind fun a2798 =>
                  cond a2798
                  (some true)
                  ((some (decide (((j : Nat) : Int) < 2))).bind fun a2801 =>
                    cond a2801
                    (some true)
                    ((subO ((j : Nat) : Int) 1).bind fun a2804 =>
                      (idxO x1 a2804).bind fun a2812 =>
                      (some (decide (a2812 < 1))).bind fun a2814 =>
                      some a2814)))) = some true → n = none → n = none := fun _ h => h
        by_cases hu : u = .empty
        case neg =>
          have hn : stepT S (k, v, u) = none := by rw [hst, if_neg (fun h => hu h.2)]
          exact .inr ⟨_, sqW (bnd hi (bnd hc (cFW rfl (bnd (hten true (stp (cTW (nF (dF hu)) rfl))) rfl)))) rfl, rfl, bad hn⟩
        by_cases hv : v = 0
        case neg =>
          have hn : stepT S (k, v, u) = none := by rw [hst, if_neg (fun h => hv h.1)]
          exact .inr ⟨_, sqW (bnd hi (bnd hc (cFW rfl (bnd (hten true (stp (cFW (nT (dT hu)) (stp (cTW (nF (dF hv)) rfl))))) rfl)))) rfl, rfl, bad hn⟩
        rw [if_pos ⟨hv, hu⟩] at hst
        match S, h2, hst, hS with
        | [], h2, hst, _ =>
          obtain rfl : j = 0 := h2
          exact .inr ⟨_, sqW (bnd hi (bnd hc (cFW rfl (bnd (hten true (stp (cFW (nT (dT hu)) (stp (cFW (nT (dT hv)) (stp (cTW (dT (by omega)) rfl))))))) rfl)))) rfl, rfl, bad hst⟩
        | [(b, y)], h2, hst, _ =>
          obtain ⟨s1, s2, s3, s4, s5⟩ := h2
          have s5 : j - (flat b).length = 0 := s5
          refine .inr ⟨_, sqW (bnd hi (bnd hc (cFW rfl (bnd (hten true (stp (cFW (nT (dT hu)) (stp (cFW (nT (dT hv)) (stp ?_)))))) rfl)))) rfl, rfl, bad hst⟩
          by_cases h2 : ((j : Nat) : Int) < 2
          · exact cTW (dT h2) rfl
          · refine cFW (dF h2) (bnd (subO_of (by omega) (by omega)) (bnd (a := 0) ?_ rfl))
            rw [s5] at s2
            have e : (j : Int) - 1 = ((j - 1 : Nat) : Int) := by omega
            rw [e]; exact idxO_of s2
        | (b, y) :: (a, x) :: S', h2, hst, hS =>
          have hx := hS (a, x) (by simp)
          have hy := hS (b, y) (by simp)
          obtain ⟨s1, s2, s3, s4, r1, r2, r3, r4, r5⟩ := h2
          dsimp only at s2 s3 s4 r2 r3 r4
          have hpa := flat_pos a
          have hpb := flat_pos b
          have hj2 : 2 ≤ j := by omega
          obtain ⟨a1, a2, a3, a4⟩ := hx
          obtain ⟨b1, b2, b3, b4⟩ := hy
          have e1 : subO ((j : Nat) : Int) 1 = some ((j - 1 : Nat) : Int) := by rw [subO_of (by omega) (by omega)]; congr 1; omega
          have e2 : subO ((j - (flat b).length : Nat) : Int) 1 = some ((j - (flat b).length - 1 : Nat) : Int) := by rw [subO_of (by omega) (by omega)]; congr 1; omega
          have hpass := hten false (stp (cFW (nT (dT hu)) (stp (cFW (nT (dT hv)) (stp (cFW (dF (by omega)) (bnd e1 (bnd (idxO_of s2) (stp (congrArg some (dF (by omega))))))))))))
          have hlenT : (flat (.node k a b)).length = (flat a).length + (flat b).length + 1 := by simp [flat]; omega
          have hidx : j + 1 - (flat (.node k a b)).length = j - (flat b).length - (flat a).length := by rw [hlenT]; omega
          dsimp only at a1 a2 a3 a4 b1 b2 b3 b4
          have hS1 : stkOk S' := fun p hp => hS p (by simp [hp])
          have bg : ∀ w : Int × Int, jn k x y = some w → wOk2 w ∧ (¬ (12 : Int) < w.1) ∧ ¬ (12 : Int) < w.2 := fun w h => by
            have := jn_ok (x := x) (y := y) ⟨a1, a2, a3, a4⟩ ⟨b1, b2, b3, b4⟩ h
            obtain ⟨c1, c2, c3, c4⟩ := this
            exact ⟨⟨c1, c2, c3, c4⟩, by omega, by omega⟩
          have hgood : ∀ w : Int × Int, jn k x y = some w → ∃ S1, runT (t.take (j + 1)) [] = some S1 ∧ (x1 ++ [((j - (flat b).length - (flat a).length : Nat) : Int)]).length = j + 1 ∧ (x2 ++ [w.1]).length = j + 1 ∧ (x3 ++ [w.2]).length = j + 1 ∧
              ScR (x1 ++ [((j - (flat b).length - (flat a).length : Nat) : Int)], x2 ++ [w.1], x3 ++ [w.2]) (j + 1) S1 ∧ ∀ i S0, i ≤ j + 1 → runT (t.take i) [] = some S0 → ScR (x1 ++ [((j - (flat b).length - (flat a).length : Nat) : Int)], x2 ++ [w.1], x3 ++ [w.2]) i S0 := fun w hw => by
            have hn : stepT ((b, y) :: (a, x) :: S') (k, v, u) = some ((.node k a b, w) :: S') := by rw [hst]; simp only [hw, Option.map_some]
            have := good (.node k a b) w S' (by rw [hstep, hn]) (by rw [hlenT]; omega) (by rw [hidx]; exact r5)
            rw [hidx] at this
            exact this
          have hbad : jn k x y = none → runT t [] = none := fun hw => bad (by rw [hst]; simp only [hw, Option.map_none])
          have ap : ∀ (l : List Int) (z : Int), l.length = j → appO l [z] = some (l ++ [z]) := fun l z h => appO_of (by simp; omega)
          have s1' := add_of12 a1 a2 b1 b2
          have s2' := add_of12 a3 a4 b3 b4
          by_cases h15 : k = 15
          · by_cases hxy : x.2 = y.1
            · have hw : jn k x y = some (x.1, y.2) := by unfold jn; rw [if_pos h15, if_pos hxy]
              obtain ⟨_, w1, w2⟩ := bg _ hw
              refine .inl ⟨(x1 ++ [((j - (flat b).length - (flat a).length : Nat) : Int)], x2 ++ [x.1], x3 ++ [y.2]), sqW (r := some (.inl (x1 ++ [((j - (flat b).length - (flat a).length : Nat) : Int)], x2 ++ [x.1], x3 ++ [y.2]))) ?_ rfl, hgood _ hw⟩
              refine bnd hi (bnd hc (cFW rfl (bnd hpass (cFW rfl ?_))))
              refine bnd e1 (bnd (idxO_of s2) (bnd e2 (bnd (idxO_of r3) (bnd (idxO_of s3) (bnd s1' (bnd (idxO_of r4) (bnd (idxO_of s4) (bnd s2' ?_))))))))
              refine sqW (r := some (.inl (x.1, y.2))) (bnd (congrArg some (dT h15)) (cTW rfl (bnd (idxO_of r4) (bnd (idxO_of s3) (stp (cFW (nT (dT hxy)) (bnd (idxO_of r3) (bnd (idxO_of s4) rfl)))))))) ?_
              rw [seqO_l]
              refine bnd (a := false) (bnd (congrArg some (dF w1)) (bnd (congrArg some (dF w2)) rfl)) (cFW rfl ?_)
              exact bnd (idxO_of r2) (bnd (ap _ _ l1) (bnd (ap _ _ l2) (bnd (ap _ _ l3) rfl)))
            · have hw : jn k x y = none := by unfold jn; rw [if_pos h15, if_neg hxy]
              refine .inr ⟨((x1, x2, x3), false), sqW (r := some (.inr (.inr ((x1, x2, x3), false)))) ?_ rfl, rfl, hbad hw⟩
              refine bnd hi (bnd hc (cFW rfl (bnd hpass (cFW rfl ?_))))
              refine bnd e1 (bnd (idxO_of s2) (bnd e2 (bnd (idxO_of r3) (bnd (idxO_of s3) (bnd s1' (bnd (idxO_of r4) (bnd (idxO_of s4) (bnd s2' ?_))))))))
              exact sqW (r := some (.inr (.inr (.inr ((x1, x2, x3), false))))) (bnd (congrArg some (dT h15)) (cTW rfl (bnd (idxO_of r4) (bnd (idxO_of s3) (stp (cTW (nF (dF hxy)) rfl)))))) rfl
          · by_cases h1 : x.1 + y.1 ≤ 12
            · by_cases h2 : x.2 + y.2 ≤ 12
              · have hw : jn k x y = some (x.1 + y.1, x.2 + y.2) := by unfold jn; rw [if_neg h15, if_pos ⟨h1, h2⟩]
                obtain ⟨_, w1, w2⟩ := bg _ hw
                refine .inl ⟨(x1 ++ [((j - (flat b).length - (flat a).length : Nat) : Int)], x2 ++ [x.1 + y.1], x3 ++ [x.2 + y.2]), sqW (r := some (.inl (x1 ++ [((j - (flat b).length - (flat a).length : Nat) : Int)], x2 ++ [x.1 + y.1], x3 ++ [x.2 + y.2]))) ?_ rfl, hgood _ hw⟩
                refine bnd hi (bnd hc (cFW rfl (bnd hpass (cFW rfl ?_))))
                refine bnd e1 (bnd (idxO_of s2) (bnd e2 (bnd (idxO_of r3) (bnd (idxO_of s3) (bnd s1' (bnd (idxO_of r4) (bnd (idxO_of s4) (bnd s2' ?_))))))))
                refine sqW (r := some (.inl (x.1 + y.1, x.2 + y.2))) (bnd (congrArg some (dF h15)) (cFW rfl rfl)) ?_
                rw [seqO_l]
                refine bnd (a := false) (bnd (congrArg some (dF w1)) (bnd (congrArg some (dF w2)) rfl)) (cFW rfl ?_)
                exact bnd (idxO_of r2) (bnd (ap _ _ l1) (bnd (ap _ _ l2) (bnd (ap _ _ l3) rfl)))
              · have hw : jn k x y = none := by unfold jn; rw [if_neg h15, if_neg (fun h => h2 h.2)]
                refine .inr ⟨((x1, x2, x3), false), sqW (r := some (.inr (.inr ((x1, x2, x3), false)))) ?_ rfl, rfl, hbad hw⟩
                refine bnd hi (bnd hc (cFW rfl (bnd hpass (cFW rfl ?_))))
                refine bnd e1 (bnd (idxO_of s2) (bnd e2 (bnd (idxO_of r3) (bnd (idxO_of s3) (bnd s1' (bnd (idxO_of r4) (bnd (idxO_of s4) (bnd s2' ?_))))))))
                refine sqW (r := some (.inl (x.1 + y.1, x.2 + y.2))) (bnd (congrArg some (dF h15)) (cFW rfl rfl)) ?_
                rw [seqO_l]
                exact bnd (a := true) (bnd (congrArg some (dF (by dsimp only; omega))) (bnd (congrArg some (dT (by dsimp only; omega))) rfl)) (cTW rfl rfl)
            · have hw : jn k x y = none := by unfold jn; rw [if_neg h15, if_neg (fun h => h1 h.1)]
              refine .inr ⟨((x1, x2, x3), false), sqW (r := some (.inr (.inr ((x1, x2, x3), false)))) ?_ rfl, rfl, hbad hw⟩
              refine bnd hi (bnd hc (cFW rfl (bnd hpass (cFW rfl ?_))))
              refine bnd e1 (bnd (idxO_of s2) (bnd e2 (bnd (idxO_of r3) (bnd (idxO_of s3) (bnd s1' (bnd (idxO_of r4) (bnd (idxO_of s4) (bnd s2' ?_))))))))
              refine sqW (r := some (.inl (x.1 + y.1, x.2 + y.2))) (bnd (congrArg some (dF h15)) (cFW rfl rfl)) ?_
              rw [seqO_l]
              exact bnd (a := true) (bnd (congrArg some (dT (by dsimp only; omega))) rfl) (cTW rfl rfl)
      · have ap : ∀ (l : List Int) (z : Int), l.length = j → appO l [z] = some (l ++ [z]) := fun l z h => appO_of (by simp; omega)
        cases hb : lfB (k, v, u) with
        | true =>
          have hr : rng k 1 14 = true := by
            unfold lfB at hb; simp only [Bool.and_eq_true] at hb; exact hb.2.1
          have hk17 : ¬ k = 17 := by have := rng_true.1 hr; omega
          have hn : stepT S (k, v, u) = some ((.leaf (k, v, u), lfT (k, v, u)) :: S) := by unfold stepT; rw [if_neg hk, if_pos hb]
          have hc : ((F_spec_tmLeaf (k, v, u)).bind fun y2720 => cond y2720 (some true) ((some (decide (k = 17))).bind fun a2724 => some a2724)) = some true :=
            bnd (tmLeaf_ _) (by rw [hb]; rfl)
          have := good (.leaf (k, v, u)) (lfT (k, v, u)) S (by rw [hstep, hn]) (by simp [flat]) (by simpa [flat] using h2)
          rw [show j + 1 - (flat (.leaf (k, v, u))).length = j by simp [flat]] at this
          refine .inl ⟨(x1 ++ [((j : Nat) : Int)], x2 ++ [(lfT (k, v, u)).1], x3 ++ [(lfT (k, v, u)).2]), sqW (r := some (.inl (x1 ++ [((j : Nat) : Int)], x2 ++ [(lfT (k, v, u)).1], x3 ++ [(lfT (k, v, u)).2]))) ?_ rfl, this⟩
          refine bnd hi (bnd hc (cTW rfl (bnd (tmArity_ _) ?_)))
          refine sqW (r := some (.inl ((lfT (k, v, u)).2, (lfT (k, v, u)).1))) (bnd (congrArg some (dF hk17)) (cFW rfl rfl)) ?_
          rw [seqO_l]
          exact bnd (ap _ _ l1) (bnd (ap _ _ l2) (bnd (ap _ _ l3) rfl))
        | false =>
          have hn : stepT S (k, v, u) = none := by unfold stepT; rw [if_neg hk, if_neg (by rw [hb]; simp)]
          by_cases h17 : k = 17
          · have hc : ((F_spec_tmLeaf (k, v, u)).bind fun y2720 => cond y2720 (some true) ((some (decide (k = 17))).bind fun a2724 => some a2724)) = some true :=
              bnd (tmLeaf_ _) (by rw [hb]; exact cFW rfl (stp (congrArg some (dT h17))))
            refine .inr ⟨((x1, x2, x3), false), sqW (r := some (.inr (.inr ((x1, x2, x3), false)))) ?_ rfl, rfl, bad hn⟩
            refine bnd hi (bnd hc (cTW rfl (bnd (tmArity_ _) ?_)))
            exact sqW (r := some (.inr (.inr (.inr ((x1, x2, x3), false))))) (bnd (congrArg some (dT h17)) (cTW rfl (bnd (lbFind_nil _) (bnd (a := true) rfl (cTW rfl rfl))))) rfl
          · have hc : ((F_spec_tmLeaf (k, v, u)).bind fun y2720 => cond y2720 (some true) ((some (decide (k = 17))).bind fun a2724 => some a2724)) = some false :=
              bnd (tmLeaf_ _) (by rw [hb]; exact cFW rfl (stp (congrArg some (dF h17))))
            have hk1 : ¬ k = 15 := fun h => hk (.inl h)
            have hk2 : ¬ k = 16 := fun h => hk (.inr h)
            exact .inr ⟨_, sqW (bnd hi (bnd hc (cFW rfl (bnd (a := true) (stp (cTW (nF (dF hk1)) (stp (cTW (nF (dF hk2)) rfl)))) rfl)))) rfl, rfl, bad hn⟩)
    rcases loop with ⟨x, h1, S, h2, k1, k2, k3, h3, hall⟩ | ⟨⟨x, r⟩, h1, rfl, h2⟩
    · rw [List.take_length] at h2
      have hne : S ≠ [] := by
        rintro rfl
        have : t.length = 0 := h3
        omega
      obtain ⟨⟨T, w⟩, S', rfl⟩ : ∃ p S', S = p :: S' := by
        cases S with
        | nil => exact (hne rfl).elim
        | cons p S' => exact ⟨p, S', rfl⟩
      obtain ⟨s1, s2, s3, s4, s5⟩ := h3
      have hT := flat_pos T
      have ev : validB t = decide (((t.length - (flat T).length : Nat) : Int) = 0) := by
        unfold validB
        rw [hr, h2, Bool.true_and]
        match S', s5 with
        | [], s5 =>
          have s5 : t.length - (flat T).length = 0 := s5
          rw [s5]; rfl
        | (T', w') :: S'', s5 =>
          have := flat_pos T'
          exact (dF (by have := s5.1; omega)).symm
      refine ⟨x, bnd (l1In _ _ _) (stp ?_), fun S0 hS0 _ => ?_⟩
      · rw [hr]
        refine cFW rfl (sqW h1 ?_)
        rw [seqO_l]
        refine bnd (a := ((t.length - 1 : Nat) : Int)) (by rw [subO_of (by omega) (by omega)]; congr 1; omega) (bnd (idxO_of s2) (stp ?_))
        rw [ev]
      · rw [h2] at hS0
        obtain rfl := Option.some.inj hS0
        refine ⟨k1, ⟨s1, s2, s3, s4, s5⟩, fun S0 p q hpq hp => ?_⟩
        refine hall p.length S0 (by rw [hpq]; simp) ?_
        rw [hpq, List.take_left]; exact hp
    · refine ⟨x, bnd (l1In _ _ _) (stp ?_), fun S hS => by rw [h2] at hS; cases hS⟩
      rw [hr]
      refine cFW rfl (sqW h1 ?_)
      rw [seqO_r]
      unfold validB
      rw [h2, hr]; rfl
end Go.Proofs.YtalmpcgbghnhpaaGreatDoor
namespace Go.Proofs.YtalmpcgbghnhpaaGreatDoor

/-! ### trees that are typed -/
def typT : Tr → Option (Int × Int)
  | .leaf n => if lfB n = true then some (lfT n) else none
  | .node k a b => if k = 15 ∨ k = 16 then (typT a).bind fun x => (typT b).bind fun y => jn k x y else none
def typS (S : Stk) : Prop := ∀ p ∈ S, typT p.1 = some p.2
theorem stepT_typ {S S' : Stk} {n : Nod} (hS : typS S) (h : stepT S n = some S') : typS S' := by
  unfold stepT at h
  split at h
  · rename_i hk
    split at h
    · split at h
      · rename_i b y a x S0
        obtain ⟨w, hw, rfl⟩ := Option.map_eq_some_iff.1 h
        intro p hp
        rcases List.mem_cons.1 hp with rfl | hp
        · have h1 := hS (a, x) (by simp)
          have h2 := hS (b, y) (by simp)
          dsimp only at h1 h2
          show (if n.1 = 15 ∨ n.1 = 16 then _ else none) = _
          rw [if_pos hk, h1, h2]; exact hw
        · exact hS p (by simp [hp])
      · cases h
    · cases h
  · split at h
    · obtain rfl := Option.some.inj h
      intro p hp
      rcases List.mem_cons.1 hp with rfl | hp
      · show (if lfB n = true then _ else none) = _
        rw [if_pos ‹_›]
      · exact hS p hp
    · cases h
theorem runT_typ : ∀ (t : List Nod) (S S' : Stk), typS S → runT t S = some S' → typS S'
  | [], S, S', hS, h => by obtain rfl := Option.some.inj h; exact hS
  | n :: t, S, S', hS, h => by
    obtain ⟨S1, h1, h2⟩ := bindS h
    exact runT_typ t S1 S' (stepT_typ hS h1) h2
theorem typ_node {k : Int} {a b : Tr} {w : Int × Int} (h : typT (.node k a b) = some w) : (k = 15 ∨ k = 16) ∧ ∃ x y, typT a = some x ∧ typT b = some y ∧ jn k x y = some w := by
  unfold typT at h
  split at h
  · obtain ⟨x, h1, h2⟩ := bindS h
    obtain ⟨y, h3, h4⟩ := bindS h2
    exact ⟨‹_›, x, y, h1, h3, h4⟩
  · cases h
theorem typ_leaf {n : Nod} {w : Int × Int} (h : typT (.leaf n) = some w) : lfB n = true ∧ w = lfT n := by
  unfold typT at h
  split at h
  · exact ⟨‹_›, (Option.some.inj h).symm⟩
  · cases h
theorem lfB_k {n : Nod} (h : lfB n = true) : 1 ≤ n.1 ∧ n.1 ≤ 14 := by
  unfold lfB at h; simp only [Bool.and_eq_true] at h
  exact rng_true.1 h.2.1
theorem run_tree : ∀ {T : Tr} {w : Int × Int}, typT T = some w → ∀ S, runT (flat T) S = some ((T, w) :: S)
  | .leaf n, w, h, S => by
    obtain ⟨h1, rfl⟩ := typ_leaf h
    have hk := lfB_k h1
    show (stepT S n).bind _ = _
    unfold stepT
    rw [if_neg (by omega), if_pos h1]; rfl
  | .node k a b, w, h, S => by
    obtain ⟨hk, x, y, h1, h2, h3⟩ := typ_node h
    show runT (flat a ++ flat b ++ [(k, 0, .empty)]) S = _
    rw [runT_app, runT_app, run_tree h1 S]
    show ((runT (flat b) ((a, x) :: S)).bind _) = _
    rw [run_tree h2]
    show (stepT ((b, y) :: (a, x) :: S) (k, 0, .empty)).bind _ = _
    unfold stepT
    rw [if_pos hk, if_pos ⟨rfl, rfl⟩]
    show ((jn k x y).map _).bind _ = _
    rw [h3]; rfl
theorem validB_tree {t : List Nod} (h : validB t = true) : ∃ T w, t = flat T ∧ typT T = some w ∧ t.length ≤ 400 := by
  unfold validB at h
  rw [Bool.and_eq_true] at h
  have hl := rng_true.1 h.1
  cases hr : runT t [] with
  | none => rw [hr] at h; cases h.2
  | some S =>
    rw [hr] at h
    match S, hr, h.2 with
    | [(T, w)], hr, _ =>
      have h1 := runT_flat _ _ _ hr
      have h2 := runT_typ _ _ _ (fun p hp => by cases hp) hr
      refine ⟨T, w, ?_, h2 (T, w) (by simp), by omega⟩
      unfold stkN at h1
      simpa using h1.symm

/-! ### a tree's two halves -/
theorem tmScan_eq {t : List Nod} {x : List Int × List Int × List Int} {b : Bool} (h : F_spec_lbScan [] t = some (x, b)) : F_spec_tmScan t = some (x, b) := bnd h rfl
theorem tmValid_ (t : List Nod) : F_spec_tmValid t = some (validB t) := by
  obtain ⟨x, h, _⟩ := lbScan_ t
  exact bnd (tmScan_eq h) rfl
theorem tmOwn_ {t : List Nod} (h : t.length ≤ maxN) : F_spec_tmOwn t = some t := bnd (appO_of (by simpa using h)) rfl
theorem tmParts_ {k : Int} {a b : Tr} {w : Int × Int} (h : typT (.node k a b) = some w) (hl : (flat (.node k a b)).length ≤ 400) : F_spec_tmParts (flat (.node k a b)) = some (flat a, flat b) := by
  have hm : maxN = 1099511627776 := rfl
  obtain ⟨hk, x, y, h1, h2, h3⟩ := typ_node h
  obtain ⟨X, hX, hs⟩ := lbScan_ (flat (.node k a b))
  have hpa := flat_pos a
  have hpb := flat_pos b
  have hlen : (flat (.node k a b)).length = (flat a).length + (flat b).length + 1 := by simp [flat]; omega
  obtain ⟨k1, _, hsc⟩ := hs _ (run_tree h []) (rng_true.2 (by omega))
  have hsc := hsc [(b, y), (a, x)] (flat a ++ flat b) [(k, 0, .empty)] rfl (by
    rw [runT_app, run_tree h1]
    show runT (flat b) [(a, x)] = _
    rw [run_tree h2])
  obtain ⟨_, s2, _⟩ := hsc
  rw [List.length_append, Nat.add_sub_cancel] at s2
  have sl1 : sliceO (flat (.node k a b)) 0 (((flat a).length : Nat) : Int) = some (flat a) := by
    unfold sliceO; rw [if_pos ⟨by omega, by omega, by omega⟩]
    simp [flat]
  have sl2 : sliceO (flat (.node k a b)) (((flat a).length : Nat) : Int) (((flat a).length + (flat b).length : Nat) : Int) = some (flat b) := by
    unfold sliceO; rw [if_pos ⟨by omega, by omega, by omega⟩]
    have e : (((flat a).length : Int) + ((flat b).length : Int)).toNat - (flat a).length = (flat b).length := by omega
    simp [flat, e]
  refine bnd (tmScan_eq hX) (bnd (a := (((flat a).length + (flat b).length : Nat) : Int)) (by rw [hlen, subO_of (by omega) (by omega)]; congr 1; omega)
    (bnd (a := (((flat a).length + (flat b).length - 1 : Nat) : Int)) (by rw [subO_of (by omega) (by omega)]; congr 1; omega) (bnd (idxO_of s2) (bnd sl1 (bnd sl2 (bnd (tmOwn_ (by omega)) (bnd (tmOwn_ (by omega)) rfl)))))))

/-! ### the graph of a leaf -/
def frL (a b : Nat) : List Int := (List.range b).map fun j : Nat => ((j : Int) + (a : Int))
theorem frL_len (a b : Nat) : (frL a b).length = b := by simp [frL]
def ugL (n : Nat) : List Int := (List.range n).map fun q : Nat => (q : Int)
theorem ugL_len (n : Nat) : (ugL n).length = n := by simp [ugL]
theorem ugTo_ {n : Nat} (hn : n ≤ 1048576) : F_impl_upTo (n : Int) = some (ugL n) := upT_ hn
theorem ugL_succ (n : Nat) : ugL (n + 1) = ugL n ++ [(n : Int)] := by unfold ugL; rw [List.range_succ]; simp
theorem frL_succ (a b : Nat) : frL a (b + 1) = frL a b ++ [(b : Int) + a] := by unfold frL; rw [List.range_succ]; simp
theorem tabl_frL (a b : Nat) : (tabl b fun k => (k : Int) + a) = frL a b := rfl
def leafG (n : Nod) : Gra := if n.1 = 1 then (n.2.1, [], ugL n.2.1.toNat, ugL n.2.1.toNat) else if n.1 = 2 then (2, [], [0, 1], [1, 0]) else
  ((kd n.1).1 + (kd n.1).2, [(n.1, n.2.1, ugL (kd n.1).1.toNat, frL (kd n.1).1.toNat (kd n.1).2.toNat)], ugL (kd n.1).1.toNat, frL (kd n.1).1.toNat (kd n.1).2.toNat)
theorem hgId_ {n : Nat} (hn : n ≤ 1000) : F_spec_hgId (n : Int) = some ((n : Int), [], ugL n, ugL n) := by
  have hm : maxN = 1099511627776 := rfl
  have loop := whileO_is (f := fun (s166 : List Int × List Int × Int) =>
      (some (decide (s166.2.2 < (n : Int)))).bind fun a179 =>
      cond a179
      ((appO s166.1 [s166.2.2]).bind fun a187 =>
        (appO s166.2.1 [s166.2.2]).bind fun a196 =>
        (addO s166.2.2 1).bind fun a202 =>
        some (.inl (a187, a196, a202)))
      (some (.inr (s166.1, s166.2.1)))) (fun j => (ugL j, ugL j, (j : Int))) (t := (ugL n, ugL n)) n (fun j hj => by
    refine stp (cTW (dT (by dsimp only; omega)) ?_)
    have e : appO (ugL j) [(j : Int)] = some (ugL (j + 1)) := by rw [ugL_succ]; exact appO_of (by rw [ugL_len]; simp; omega)
    exact bnd e (bnd e (bnd (addO_of (by dsimp only; omega) (by dsimp only; omega)) rfl)))
    (stp (cFW (dF (by dsimp only; omega)) rfl))
  exact bnd loop rfl
theorem hgLeafLoop {a b : Nat} (ha : a ≤ 1000) (hb : b ≤ 1000) : whileO (fun (s328 : List Int × List Int × List Int × List Int × Int) =>
          (addO (a : Int) (b : Int)).bind fun a345 =>
          (some (decide (s328.2.2.2.2 < a345))).bind fun a347 =>
          cond a347
          ((some (decide (s328.2.2.2.2 < (a : Int)))).bind fun a352 =>
            cond a352
            ((appO s328.1 [s328.2.2.2.2]).bind fun a379 =>
              (appO s328.2.2.1 [s328.2.2.2.2]).bind fun a388 =>
              (addO s328.2.2.2.2 1).bind fun a394 =>
              some (.inl (a379, s328.2.1, a388, s328.2.2.2.1, a394)))
            ((appO s328.2.1 [s328.2.2.2.2]).bind fun a358 =>
              (appO s328.2.2.2.1 [s328.2.2.2.2]).bind fun a367 =>
              (addO s328.2.2.2.2 1).bind fun a373 =>
              some (.inl (s328.1, a358, s328.2.2.1, a367, a373))))
          (some (.inr (s328.1, s328.2.1, s328.2.2.1, s328.2.2.2.1)))) (([] : List Int), ([] : List Int), ([] : List Int), ([] : List Int), (0 : Int)) = some (ugL a, frL a b, ugL a, frL a b) := by
  have hm : maxN = 1099511627776 := rfl
  have hs : addO (a : Int) (b : Int) = some ((a : Int) + b) := addO_of (by omega) (by omega)
  have loop := whileO_is (f := fun (s328 : List Int × List Int × List Int × List Int × Int) =>
          (addO (a : Int) (b : Int)).bind fun a345 =>
          (some (decide (s328.2.2.2.2 < a345))).bind fun a347 =>
          cond a347
          ((some (decide (s328.2.2.2.2 < (a : Int)))).bind fun a352 =>
            cond a352
            ((appO s328.1 [s328.2.2.2.2]).bind fun a379 =>
              (appO s328.2.2.1 [s328.2.2.2.2]).bind fun a388 =>
              (addO s328.2.2.2.2 1).bind fun a394 =>
              some (.inl (a379, s328.2.1, a388, s328.2.2.2.1, a394)))
            ((appO s328.2.1 [s328.2.2.2.2]).bind fun a358 =>
              (appO s328.2.2.2.1 [s328.2.2.2.2]).bind fun a367 =>
              (addO s328.2.2.2.2 1).bind fun a373 =>
              some (.inl (s328.1, a358, s328.2.2.1, a367, a373))))
          (some (.inr (s328.1, s328.2.1, s328.2.2.1, s328.2.2.2.1)))) (fun j => (ugL (min j a), frL a (j - a), ugL (min j a), frL a (j - a), (j : Int))) (t := (ugL a, frL a b, ugL a, frL a b)) (a + b) (fun j hj => by
    refine bnd hs (stp (cTW (dT (by dsimp only; omega)) ?_))
    have e1 : addO ((j : Nat) : Int) 1 = some ((j + 1 : Nat) : Int) := addO_of (by omega) (by omega)
    by_cases hja : j < a
    · have e : appO (ugL (min j a)) [(j : Int)] = some (ugL (min (j + 1) a)) := by
        rw [Nat.min_eq_left (by omega), Nat.min_eq_left (by omega), ugL_succ]; exact appO_of (by rw [ugL_len]; simp; omega)
      refine stp (cTW (dT (by dsimp only; omega)) (bnd e (bnd e (bnd e1 ?_))))
      rw [show j + 1 - a = j - a by omega]
    · have e : appO (frL a (j - a)) [(j : Int)] = some (frL a (j + 1 - a)) := by
        rw [show j + 1 - a = j - a + 1 by omega, frL_succ, show ((j - a : Nat) : Int) + a = j by omega]; exact appO_of (by rw [frL_len]; simp; omega)
      refine stp (cFW (dF (by dsimp only; omega)) (bnd e (bnd e (bnd e1 ?_))))
      rw [Nat.min_eq_right (by omega), Nat.min_eq_right (by omega)])
    (bnd hs (stp (cFW (dF (by dsimp only; omega)) (by rw [Nat.min_eq_right (by omega), Nat.add_sub_cancel_left]))))
  rw [Nat.zero_min, Nat.zero_sub] at loop
  exact loop
theorem kd_nat (k : Int) : ∃ a b : Nat, kd k = ((a : Int), (b : Int)) ∧ a ≤ 2 ∧ b ≤ 2 := by
  have h := kd_le k
  refine ⟨(kd k).1.toNat, (kd k).2.toNat, Prod.ext (by dsimp only; omega) (by dsimp only; omega), by omega, by omega⟩
theorem lfB_id {n : Nod} (h : lfB n = true) (h1 : n.1 = 1) : 0 ≤ n.2.1 ∧ n.2.1 ≤ 12 := by
  unfold lfB at h
  simp only [Bool.and_eq_true] at h
  rw [if_pos h1] at h
  exact rng_true.1 h.2.2
theorem hgLeaf_ {n : Nod} (h : lfB n = true) : F_spec_hgLeaf n = some (leafG n) := by
  obtain ⟨k, v, s⟩ := n
  unfold F_spec_hgLeaf leafG
  by_cases h1 : k = 1
  · have hv := lfB_id h h1
    dsimp only at hv
    obtain ⟨m, rfl⟩ : ∃ m : Nat, v = (m : Int) := ⟨v.toNat, by omega⟩
    simp [h1, hgId_ (n := m) (by omega)]
  by_cases h2 : k = 2
  · simp [h2]
  obtain ⟨a, b, hk, ha, hb⟩ := kd_nat k
  have hs : addO (a : Int) (b : Int) = some ((a : Int) + b) := addO_of (by omega) (by omega)
  rw [if_neg h1, if_neg h2]
  refine stp (cFW (dF h1) (stp (cFW (dF h2) (bnd (tmKind_ k) ?_))))
  simp only [hk, Int.toNat_natCast]
  exact bnd hs (bnd (hgLeafLoop (by omega) (by omega)) rfl)
theorem leafGraph_ {n : Nod} (h : lfB n = true) : F_impl_leafGraph n = some (leafG n) := by
  have hm : maxN = 1099511627776 := rfl
  have hkk := lfB_k h
  obtain ⟨k, v, s⟩ := n
  dsimp only at hkk
  unfold F_impl_leafGraph leafG
  by_cases h1 : k = 1
  · have hv := lfB_id h h1
    dsimp only at hv
    obtain ⟨m, rfl⟩ : ∃ m : Nat, v = (m : Int) := ⟨v.toNat, by omega⟩
    have : F_impl_identityGraph (m : Int) = some ((m : Int), [], ugL m, ugL m) := bnd (ugTo_ (by omega)) (bnd (ugTo_ (by omega)) rfl)
    simp [h1, this]
  by_cases h2 : k = 2
  · simp [h2]
  obtain ⟨a, b, hk, ha, hb⟩ := kd_nat k
  have hs : addO (a : Int) (b : Int) = some ((a : Int) + b) := addO_of (by omega) (by omega)
  have hr : rng k 3 14 = true := rng_true.2 (by omega)
  have c1 : F_impl_clone (ugL a) = some (ugL a) := clone_ (by rw [ugL_len]; omega)
  have c2 : F_impl_clone (frL a b) = some (frL a b) := clone_ (by rw [frL_len]; omega)
  have f1 := from_ (n := b) (a := a) (by omega) (by omega)
  rw [tabl_frL] at f1
  simp only [h1, h2, generatorWires_ hr, hk, decide_false, cond_false, Option.bind_some, hs, if_false, Int.toNat_natCast, ugTo_ (n := a) (by omega), f1, c1, c2]
theorem leafG_ok {n : Nod} (h : lfB n = true) : gOk (leafG n) = true ∧ ((leafG n).2.2.1.length : Int) = (lfT n).1 ∧ ((leafG n).2.2.2.length : Int) = (lfT n).2 := by
  have hkk := lfB_k h
  obtain ⟨k, v, s⟩ := n
  dsimp only at hkk
  unfold leafG lfT
  by_cases h1 : k = 1
  · have hv := lfB_id h h1
    dsimp only at hv
    obtain ⟨m, rfl⟩ : ∃ m : Nat, v = (m : Int) := ⟨v.toNat, by omega⟩
    have key : ∀ m : Nat, m < 13 → gOk ((m : Int), [], ugL m, ugL m) = true := by decide
    simp only [h1, if_true, Int.toNat_natCast, ugL_len]
    exact ⟨key m (by omega), trivial, trivial⟩
  by_cases h2 : k = 2
  · subst h2
    have e : gOk (2, [], [0, 1], [1, 0]) = true := by decide
    exact ⟨e, rfl, rfl⟩
  have hr : rng k 3 14 = true := rng_true.2 (by omega)
  have hg : genB k v = true := by
    unfold lfB at h
    simp only [Bool.and_eq_true] at h
    rw [if_neg h1] at h
    unfold genB
    rw [hr, Bool.true_and]; exact h.2.2
  obtain ⟨a, b, hk, ha, hb⟩ := kd_nat k
  have h0 := hk
  simp only [h1, h2, if_false, hk, Int.toNat_natCast, ugL_len, frL_len, and_true]
  have hE : edW ((a : Int) + b) (k, v, ugL a, frL a b) = (wOk ((a : Int) + b) (ugL a) && wOk ((a : Int) + b) (frL a b)) := by
    unfold edW arB edI edO
    simp only [hg, hk, ugL_len, frL_len, decide_true, Bool.true_and]
  have e1 : ((a : Int) + b) = ((a + b : Nat) : Int) := by omega
  unfold gOk allW
  simp only [List.all_cons, List.all_nil, hE, ugL_len, frL_len, List.map_cons, List.map_nil]
  have key : ∀ a : Nat, a < 3 → ∀ b : Nat, b < 3 → (rng ((a : Int) + b) 0 100 && (decide (1 ≤ 60) && (decide (a ≤ 12) && (decide (b ≤ 12) && (wOk ((a : Int) + b) (ugL a) && (wOk ((a : Int) + b) (frL a b) && ((wOk ((a : Int) + b) (ugL a) && wOk ((a : Int) + b) (frL a b) && true) && (List.range ((a : Int) + b).toNat).all fun j : Nat => decide ((j : Int) ∈ ugL a ++ frL a b ++ ([ugL a ++ frL a b]).flatten)))))))) = true := by decide
  exact key a (by omega) b (by omega)

/-! ### the graph of a tree -/
def comb (k : Int) (a b : Gra) : Gra := if k = 15 then pSeq a.1.toNat b.1.toNat a b else pPar a.1.toNat b.1.toNat a b
def made : Tr → Gra × Bool
  | .leaf n => (leafG n, true)
  | .node k a b => if (made a).2 = true ∧ (made b).2 = true then ifG (comb k (made a).1 (made b).1) else (noG, false)
theorem ifG_ok {g : Gra} (h : (ifG g).2 = true) : gOk g = true ∧ (ifG g).1 = g := by
  unfold ifG at h ⊢
  split at h
  · rename_i hg
    rw [if_pos hg]; exact ⟨hg, rfl⟩
  · cases h
theorem pSeq_len (n m : Nat) (a b : Gra) : (pSeq n m a b).2.2.1.length = a.2.2.1.length ∧ (pSeq n m a b).2.2.2.length = b.2.2.2.length := by
  unfold pSeq gluG mpG befG
  dsimp only
  rw [mp_len, mp_len, mp_len]; exact ⟨rfl, rfl⟩
theorem pPar_len (n m : Nat) (a b : Gra) : (pPar n m a b).2.2.1.length = a.2.2.1.length + b.2.2.1.length ∧ (pPar n m a b).2.2.2.length = a.2.2.2.length + b.2.2.2.length := by
  unfold pPar
  dsimp only
  rw [List.length_append, List.length_append, mp_len, mp_len]; exact ⟨rfl, rfl⟩
def lens (g : Gra) (w : Int × Int) : Prop := (g.2.2.1.length : Int) = w.1 ∧ (g.2.2.2.length : Int) = w.2
theorem comb_lens {k : Int} {a b : Gra} {x y w : Int × Int} (ha : lens a x) (hb : lens b y) (h : jn k x y = some w) : lens (comb k a b) w ∧ (k = 15 → a.2.2.2.length = b.2.2.1.length) := by
  obtain ⟨a1, a2⟩ := ha
  obtain ⟨b1, b2⟩ := hb
  unfold comb
  unfold jn at h
  by_cases hk : k = 15
  · rw [if_pos hk] at h ⊢
    split at h
    · obtain rfl := Option.some.inj h
      have := pSeq_len a.1.toNat b.1.toNat a b
      exact ⟨⟨by dsimp only; omega, by dsimp only; omega⟩, fun _ => by omega⟩
    · cases h
  · rw [if_neg hk] at h ⊢
    split at h
    · obtain rfl := Option.some.inj h
      have := pPar_len a.1.toNat b.1.toNat a b
      exact ⟨⟨by dsimp only; omega, by dsimp only; omega⟩, fun h => (hk h).elim⟩
    · cases h
theorem made_ok : ∀ {T : Tr} {w : Int × Int}, typT T = some w → (made T).2 = true → gOk (made T).1 = true ∧ lens (made T).1 w
  | .leaf n, w, h, _ => by
    obtain ⟨h1, rfl⟩ := typ_leaf h
    have := leafG_ok h1
    exact ⟨this.1, this.2.1, this.2.2⟩
  | .node k a b, w, h, hm => by
    obtain ⟨hk, x, y, h1, h2, h3⟩ := typ_node h
    unfold made at hm ⊢
    split at hm
    · rename_i hab
      rw [if_pos hab]
      obtain ⟨g1, g2⟩ := ifG_ok hm
      rw [g2]
      exact ⟨g1, (comb_lens (made_ok h1 hab.1).2 (made_ok h2 hab.2).2 h3).1⟩
    · cases hm
theorem hgComb {k : Int} {a b : Gra} (ga : gOk a = true) (gb : gOk b = true) (hl : k = 15 → a.2.2.2.length = b.2.2.1.length) : (k = 15 → F_spec_hgSeq a b = some (comb k a b) ∧ F_impl_seqGraphs a b = some (comb k a b)) ∧ (k ≠ 15 → F_spec_hgPar a b = some (comb k a b) ∧ F_impl_parGraphs a b = some (comb k a b)) := by
  obtain ⟨n, ha⟩ := gOk_facts ga
  obtain ⟨m, hb⟩ := gOk_facts gb
  have n1 := ha.n100; have m1 := hb.n100
  unfold comb
  rw [ha.w, hb.w, Int.toNat_natCast, Int.toNat_natCast]
  constructor
  · intro h; rw [if_pos h]; exact ⟨hgSeq_ ha hb (hl h), seqGraphs_ ha hb (hl h)⟩
  · intro h; rw [if_neg h]; exact ⟨bnd (hgBeside_ (by omega) (by omega) ha.w hb.w ha.rgd hb.rgd) rfl, parGraphs_ (by omega) (by omega) ha.w hb.w ha.rgd hb.rgd⟩
theorem tmTop_leaf (n : Nod) : F_spec_tmTop (flat (.leaf n)) = some n.1 := rfl
theorem tmTop_node (k : Int) (a b : Tr) (hl : (flat (.node k a b)).length ≤ 400) : F_spec_tmTop (flat (.node k a b)) = some k := by
  have hlen : (flat (.node k a b)).length = (flat a).length + (flat b).length + 1 := by simp [flat]; omega
  refine bnd (a := (((flat a).length + (flat b).length : Nat) : Int)) (by rw [hlen, subO_of (by omega) (by omega)]; congr 1; omega) (bnd (a := (k, 0, .empty)) (idxO_of ?_) rfl)
  show (flat a ++ flat b ++ [_])[_]? = _
  rw [List.getElem?_append_right (by simp)]; simp
theorem hgMade_ : ∀ (fuel : Nat) {T : Tr} {w : Int × Int}, typT T = some w → (flat T).length ≤ 400 → (flat T).length ≤ fuel → F_spec_hgMade_n fuel (flat T) = some (made T)
  | 0, T, _, _, _, hf => by have := flat_pos T; omega
  | fuel + 1, .leaf n, w, h, hl, hf => by
    obtain ⟨h1, rfl⟩ := typ_leaf h
    have hk := lfB_k h1
    exact bnd (tmTop_leaf n) (stp (cTW (dT (by omega)) (bnd (a := n) rfl (bnd (hgLeaf_ h1) rfl))))
  | fuel + 1, .node k a b, w, h, hl, hf => by
    obtain ⟨hk, x, y, h1, h2, h3⟩ := typ_node h
    have hpa := flat_pos a
    have hpb := flat_pos b
    have hlen : (flat (.node k a b)).length = (flat a).length + (flat b).length + 1 := by simp [flat]; omega
    have ia := hgMade_ fuel h1 (by omega) (by omega)
    have ib := hgMade_ fuel h2 (by omega) (by omega)
    refine bnd (tmTop_node k a b hl) (stp (cFW (dF (by omega)) (bnd (tmParts_ h hl) (bnd ia (bnd ib ?_)))))
    rw [made]
    cases ma : (made a).2 with
    | false =>
      rw [if_neg (fun h => by cases h.1)]
      exact bnd (a := true) rfl rfl
    | true =>
      cases mb : (made b).2 with
      | false =>
        rw [if_neg (fun h => by cases h.2)]
        exact bnd (a := true) rfl rfl
      | true =>
        rw [if_pos ⟨rfl, rfl⟩]
        obtain ⟨ga, la⟩ := made_ok h1 ma
        obtain ⟨gb, lb⟩ := made_ok h2 mb
        have hc := hgComb (k := k) ga gb (comb_lens la lb h3).2
        refine bnd (a := false) rfl (cFW rfl ?_)
        by_cases h15 : k = 15
        · exact stp (cTW (dT h15) (bnd (hc.1 h15).1 (bnd (hgIf_ _) rfl)))
        · exact stp (cFW (dF h15) (bnd (hc.2 h15).1 (bnd (hgIf_ _) rfl)))

/-! ### the program's stack of graphs -/
noncomputable def gStep (t_ : List Nod) (k11 : Nat) (s383 : List Gra) : Option (List Gra ⊕ (Gra × Bool)) :=
      (idxO t_ ((k11 : Nat) : Int)).bind fun a399 =>
      (subO ((s383.length : Nat) : Int) 1).bind fun a407 =>
      (some (decide (a399.1 = 15))).bind fun a412 =>
      cond a412
      ((subO a407 1).bind fun a522 =>
        (idxO s383 a522).bind fun a530 =>
        (idxO s383 a407).bind fun a542 =>
        (F_impl_seqGraphs (a530.1, a530.2.1, a530.2.2.1, a530.2.2.2) (a542.1, a542.2.1, a542.2.2.1, a542.2.2.2)).bind fun y548 =>
        (subO a407 1).bind fun a558 =>
        (sliceO s383 0 a558).bind fun a560 =>
        (F_impl_Graph_isGraph (y548.1, y548.2.1, y548.2.2.1, y548.2.2.2)).bind fun y564 =>
        (some (!y564)).bind fun a567 =>
        cond a567
        (some (.inr ((0, [], [], []), false)))
        ((appO a560 [(y548.1, y548.2.1, y548.2.2.1, y548.2.2.2)]).bind fun a577 =>
          some (.inl a577)))
      ((some (decide (a399.1 = 16))).bind fun a415 =>
        cond a415
        ((subO a407 1).bind fun a454 =>
          (idxO s383 a454).bind fun a462 =>
          (idxO s383 a407).bind fun a474 =>
          (F_impl_parGraphs (a462.1, a462.2.1, a462.2.2.1, a462.2.2.2) (a474.1, a474.2.1, a474.2.2.1, a474.2.2.2)).bind fun y480 =>
          (subO a407 1).bind fun a490 =>
          (sliceO s383 0 a490).bind fun a492 =>
          (F_impl_Graph_isGraph (y480.1, y480.2.1, y480.2.2.1, y480.2.2.2)).bind fun y496 =>
          (some (!y496)).bind fun a499 =>
          cond a499
          (some (.inr ((0, [], [], []), false)))
          ((appO a492 [(y480.1, y480.2.1, y480.2.2.1, y480.2.2.2)]).bind fun a509 =>
            some (.inl a509)))
        ((F_impl_leafGraph (a399.1, a399.2.1, a399.2.2)).bind fun y418 =>
          (F_impl_Graph_isGraph (y418.1, y418.2.1, y418.2.2.1, y418.2.2.2)).bind fun y428 =>
          (some (!y428)).bind fun a431 =>
          cond a431
          (some (.inr ((0, [], [], []), false)))
          ((appO s383 [(y418.1, y418.2.1, y418.2.2.1, y418.2.2.2)]).bind fun a441 =>
            some (.inl a441))))
theorem gStep_leaf {t : List Nod} {j : Nat} {n : Nod} {s : List Gra} (ht : t[j]? = some n) (hn : lfB n = true) (hs : s.length ≤ 1000) : gStep t j s = some (.inl (s ++ [leafG n])) := by
  have hm : maxN = 1099511627776 := rfl
  have hk := lfB_k hn
  refine bnd (idxO_of ht) (bnd (subO_of (by omega) (by omega)) (stp (cFW (dF (by omega)) (stp (cFW (dF (by omega)) (bnd (leafGraph_ hn) (bnd (isGraph_ _) (stp ?_))))))))
  rw [(leafG_ok hn).1]
  exact cFW rfl (bnd (appO_of (by simp; omega)) rfl)
theorem gStep_node {t : List Nod} {j : Nat} {k : Int} {s : List Gra} {a b : Gra} (ht : t[j]? = some (k, 0, .empty)) (hk : k = 15 ∨ k = 16) (hs : s.length ≤ 1000) (ga : gOk a = true) (gb : gOk b = true) (hl : k = 15 → a.2.2.2.length = b.2.2.1.length) :
    gStep t j (s ++ [a] ++ [b]) = if gOk (comb k a b) = true then some (.inl (s ++ [comb k a b])) else some (.inr (noG, false)) := by
  have hm : maxN = 1099511627776 := rfl
  have hlen : (s ++ [a] ++ [b]).length = s.length + 2 := by simp
  have e1 : subO (((s ++ [a] ++ [b]).length : Nat) : Int) 1 = some ((s.length + 1 : Nat) : Int) := by rw [hlen, subO_of (by omega) (by omega)]; congr 1; omega
  have e2 : subO ((s.length + 1 : Nat) : Int) 1 = some ((s.length : Nat) : Int) := by rw [subO_of (by omega) (by omega)]; congr 1; omega
  have i1 : (s ++ [a] ++ [b])[s.length]? = some a := by rw [List.append_assoc, List.getElem?_append_right (Nat.le_refl _), Nat.sub_self]; rfl
  have i2 : (s ++ [a] ++ [b])[s.length + 1]? = some b := by rw [List.append_assoc, List.getElem?_append_right (by omega), Nat.add_sub_cancel_left]; rfl
  have sl : sliceO (s ++ [a] ++ [b]) 0 ((s.length : Nat) : Int) = some s := by
    unfold sliceO; rw [if_pos ⟨by omega, by omega, by rw [hlen]; omega⟩, List.append_assoc]
    simp
  have hc := hgComb (k := k) ga gb hl
  refine bnd (idxO_of ht) (bnd e1 ?_)
  by_cases h15 : k = 15
  · refine stp (cTW (dT h15) (bnd e2 (bnd (idxO_of i1) (bnd (idxO_of i2) (bnd (hc.1 h15).2 (bnd e2 (bnd sl (bnd (isGraph_ _) (stp ?_)))))))))
    cases hg : gOk (comb k a b) with
    | false => rfl
    | true => exact cFW rfl (bnd (appO_of (by simp; omega)) rfl)
  · refine stp (cFW (dF h15) (stp (cTW (dT (by dsimp only; omega)) (bnd e2 (bnd (idxO_of i1) (bnd (idxO_of i2) (bnd (hc.2 h15).2 (bnd e2 (bnd sl (bnd (isGraph_ _) (stp ?_)))))))))))
    cases hg : gOk (comb k a b) with
    | false => rfl
    | true => exact cFW rfl (bnd (appO_of (by simp; omega)) rfl)
theorem forO_stepL {σ τ : Type} {f : Nat → σ → Option (σ ⊕ τ)} {n k : Nat} {s s' : σ} (h : f k s = some (.inl s')) : forO f (n + 1) k s = forO f n (k + 1) s' := by
  show (f k s).bind _ = _
  rw [h]; rfl
theorem forO_stepR {σ τ : Type} {f : Nat → σ → Option (σ ⊕ τ)} {n k : Nat} {s : σ} {r : τ} (h : f k s = some (.inr r)) : forO f (n + 1) k s = some (.inr r) := by
  show (f k s).bind _ = _
  rw [h]; rfl
theorem graph_loop {t : List Nod} (ht : t.length ≤ 400) : ∀ {T : Tr} {w : Int × Int}, typT T = some w → ∀ (p q : List Nod) (r : List Gra), t = p ++ (flat T ++ q) → r.length ≤ p.length →
    forO (gStep t) ((flat T).length + q.length) p.length r = if (made T).2 = true then forO (gStep t) q.length (p.length + (flat T).length) (r ++ [(made T).1]) else some (.inr (noG, false))
  | .leaf n, w, h, p, q, r, e, hr => by
    obtain ⟨h1, rfl⟩ := typ_leaf h
    have hlt : p.length < t.length := by rw [e]; simp [flat]
    have hn : t[p.length]? = some n := by rw [e, List.getElem?_append_right (Nat.le_refl _), Nat.sub_self]; rfl
    rw [show (flat (.leaf n)).length + q.length = q.length + 1 by simp [flat]; omega, forO_stepL (gStep_leaf hn h1 (by omega))]
    rfl
  | .node k a b, w, h, p, q, r, e, hr => by
    obtain ⟨hk, x, y, h1, h2, h3⟩ := typ_node h
    have hlen : (flat (.node k a b)).length = (flat a).length + (flat b).length + 1 := by simp [flat]; omega
    have htl : t.length = p.length + ((flat a).length + (flat b).length + 1 + q.length) := by rw [e, List.length_append, List.length_append, hlen]
    have ea : t = p ++ (flat a ++ (flat b ++ ([((k, (0 : Int), ByteArray.empty) : Nod)] ++ q))) := by rw [e]; simp [flat]
    have eb : t = (p ++ flat a) ++ (flat b ++ ([((k, (0 : Int), ByteArray.empty) : Nod)] ++ q)) := by rw [ea]; simp
    have hpa := flat_pos a
    have la := graph_loop ht h1 p (flat b ++ ([((k, (0 : Int), ByteArray.empty) : Nod)] ++ q)) r ea hr
    rw [show (flat (.node k a b)).length + q.length = (flat a).length + (flat b ++ ([((k, (0 : Int), ByteArray.empty) : Nod)] ++ q)).length by rw [hlen]; simp; omega, la, made]
    cases ma : (made a).2 with
    | false => simp
    | true =>
      rw [if_pos rfl]
      have lb := graph_loop ht h2 (p ++ flat a) ([((k, (0 : Int), ByteArray.empty) : Nod)] ++ q) (r ++ [(made a).1]) eb (by simp; omega)
      rw [show (p ++ flat a).length = p.length + (flat a).length from List.length_append] at lb
      rw [show (flat b ++ ([((k, (0 : Int), ByteArray.empty) : Nod)] ++ q)).length = (flat b).length + ([((k, (0 : Int), ByteArray.empty) : Nod)] ++ q).length from List.length_append, lb]
      cases mb : (made b).2 with
      | false => simp
      | true =>
        have e3 : (if true = true ∧ true = true then ifG (comb k (made a).1 (made b).1) else (noG, false)) = ifG (comb k (made a).1 (made b).1) := if_pos ⟨rfl, rfl⟩
        have e4 : ∀ {α : Type} (u v : α), (if true = true then u else v) = u := fun u v => if_pos rfl
        rw [e3, e4]
        obtain ⟨ga, la⟩ := made_ok h1 ma
        obtain ⟨gb, lb⟩ := made_ok h2 mb
        have hn : t[p.length + (flat a).length + (flat b).length]? = some (k, 0, .empty) := by
          rw [show t = (p ++ flat a ++ flat b) ++ ([((k, (0 : Int), ByteArray.empty) : Nod)] ++ q) by rw [ea]; simp, List.getElem?_append_right (by simp; omega)]
          simp [Nat.add_assoc]
        have st := gStep_node (s := r) hn hk (by omega) ga gb (comb_lens la lb h3).2
        rw [show ([((k, (0 : Int), ByteArray.empty) : Nod)] ++ q).length = q.length + 1 by simp]
        by_cases hg : gOk (comb k (made a).1 (made b).1) = true
        · rw [if_pos hg] at st
          have hi : ifG (comb k (made a).1 (made b).1) = (comb k (made a).1 (made b).1, true) := if_pos hg
          rw [forO_stepL st]
          simp only [hi, and_self, if_true]
          rw [hlen, show p.length + ((flat a).length + (flat b).length + 1) = p.length + (flat a).length + (flat b).length + 1 by omega]
        · rw [if_neg hg] at st
          have hi : ifG (comb k (made a).1 (made b).1) = (noG, false) := if_neg hg
          rw [forO_stepR st]
          simp [hi]
theorem graphOf_ {T : Tr} {w : Int × Int} (h : typT T = some w) (hl : (flat T).length ≤ 400) : F_impl_graphOf (flat T) = some (made T) := by
  have loop := graph_loop hl h [] [] [] (by simp) (by simp)
  rw [List.length_nil, Nat.add_zero, Nat.zero_add, List.nil_append] at loop
  have e : F_impl_graphOf (flat T) = seqO (forO (gStep (flat T)) (flat T).length 0 []) fun s590 => (idxO s590 0).bind fun a599 => some ((a599.1, a599.2.1, a599.2.2.1, a599.2.2.2), true) := rfl
  rw [e, loop]
  cases hm : (made T).2 with
  | false =>
    have : made T = (noG, false) := by
      cases T with
      | leaf n => cases hm
      | node k a b =>
        rw [made] at hm ⊢
        split
        · rename_i hab
          rw [if_pos hab] at hm
          unfold ifG at hm ⊢
          split at hm
          · cases hm
          · rw [if_neg ‹_›]
        · rfl
    rw [if_neg (by simp), this]; rfl
  | true =>
    rw [if_pos rfl]
    refine congrArg some (Prod.ext rfl hm.symm)
open Classical in
noncomputable def wGraphOf (t : List Nod) : Gra × Bool := if h : validB t = true then made (Classical.choose (validB_tree h)) else (noG, false)
theorem wGraphOf_eq {t : List Nod} (h : validB t = true) : ∃ T w, t = flat T ∧ typT T = some w ∧ t.length ≤ 400 ∧ wGraphOf t = made T := by
  obtain ⟨w, h1, h2, h3⟩ := Classical.choose_spec (validB_tree h)
  exact ⟨_, w, h1, h2, h3, by unfold wGraphOf; rw [dif_pos h]⟩
theorem specGraphOf (t : List Nod) : F_spec_GraphOf t = some (wGraphOf t) := by
  refine bnd (tmValid_ t) (stp ?_)
  cases hv : validB t with
  | false => unfold wGraphOf; rw [dif_neg (by rw [hv]; simp)]; rfl
  | true =>
    obtain ⟨T, w, rfl, h2, h3, h4⟩ := wGraphOf_eq hv
    rw [h4]
    exact cFW rfl (bnd (hgMade_ 1000000 h2 h3 (by omega)) rfl)
end Go.Proofs.YtalmpcgbghnhpaaGreatDoor
namespace Go.Proofs.YtalmpcgbghnhpaaGreatDoor

/-! ### spans of chosen columns -/

/-! ### the relation of a leaf -/
theorem timeless_ (k : Int) : F_spec_dnTimeless k = some (decide (k ≠ 8 ∧ k ≠ 14)) := by
  unfold F_spec_dnTimeless
  by_cases h1 : k = 8
  · simp [h1]
  · by_cases h2 : k = 14 <;> simp [h1, h2]
end Go.Proofs.YtalmpcgbghnhpaaGreatDoor
namespace Go.Proofs.YtalmpcgbghnhpaaGreatDoor
section
variable {p v : Int} (hp : 2 ≤ p ∧ p ≤ 97) (hv : 0 ≤ v ∧ v < p)
include hp
include hv
end

/-! ### a generator's relation, the reference's way -/
end Go.Proofs.YtalmpcgbghnhpaaGreatDoor
namespace Go.Proofs.YtalmpcgbghnhpaaGreatDoor

/-! ### names -/
instance (s : ByteArray) (l : List ByteArray) : Decidable (s ∈ l) := decidable_of_iff (l.any (fun a => decide (a = s)) = true) (by simp [List.any_eq_true])

/-! ### rules -/
def ovN (p : Int) (n : Nod) : Bool := !(decide (n.1 = 7 ∨ n.1 = 13) && decide (p ≤ n.2.1))
def ovB (p : Int) (t : List Nod) : Bool := validB t && (fdB p && t.all (ovN p))
theorem hasValue_ (k : Int) : F_impl_hasValue k = some (decide (k = 7 ∨ k = 13)) := by
  unfold F_impl_hasValue
  by_cases h1 : k = 7
  · simp [h1]
  · by_cases h2 : k = 13 <;> simp [h1, h2]
theorem tmGood_ (p : Int) (t : List Nod) : F_spec_tmGood p t = some (ovB p t) := by
  obtain ⟨x, h1, _⟩ := lbScan_ t
  unfold ovB
  refine bnd (tmScan_eq h1) ?_
  cases hv : validB t with
  | false => rfl
  | true =>
    cases hf : fdB p with
    | false => exact bnd (a := true) (stp (cFW rfl (bnd (fdGood p) (stp (by rw [hf]; rfl))))) rfl
    | true =>
      refine bnd (a := false) (stp (cFW rfl (bnd (fdGood p) (stp (by rw [hf]; rfl))))) (cFW rfl ?_)
      refine sqW (forO_all (ovN p) t 0 ?_ (t := false)) ?_
      · intro j n hj
        rw [Nat.zero_add]
        refine bnd (idxO_of hj) ?_
        unfold ovN
        by_cases k7 : n.1 = 7
        · by_cases hp : p ≤ n.2.1 <;> simp [k7, hp]
        · by_cases k13 : n.1 = 13
          · by_cases hp : p ≤ n.2.1 <;> simp [k13, hp]
          · simp [k7, k13]
      · cases t.all (ovN p) <;> rfl
theorem isOver_ (p : Int) (t : List Nod) : F_impl_Term_isOver t p = some (ovB p t) := by
  unfold ovB
  cases hf : fdB p with
  | false =>
    refine (bnd (a := true) (bnd (isField_ p) (stp (by rw [hf]; rfl))) rfl : _ = some false).trans ?_
    cases validB t <;> rfl
  | true =>
    cases hv : validB t with
    | false => exact bnd (a := true) (bnd (isField_ p) (stp (by rw [hf]; exact cFW rfl (bnd (isValid_ t) (stp (by rw [hv]; rfl)))))) rfl
    | true =>
      refine bnd (a := false) (bnd (isField_ p) (stp (by rw [hf]; exact cFW rfl (bnd (isValid_ t) (stp (by rw [hv]; rfl)))))) (cFW rfl ?_)
      refine sqW (forO_all (ovN p) t 0 ?_ (t := false)) ?_
      · intro j n hj
        rw [Nat.zero_add]
        refine bnd (idxO_of hj) ?_
        have hh := hasValue_ n.1
        unfold ovN
        by_cases k : n.1 = 7 ∨ n.1 = 13
        · by_cases hp : p ≤ n.2.1 <;> simp [hh, k, hp]
        · simp [hh, k]
      · cases t.all (ovN p) <;> rfl
end Go.Proofs.YtalmpcgbghnhpaaGreatDoor
namespace Go.Proofs.YtalmpcgbghnhpaaGreatDoor

/-! ### crossings and identities -/
end Go.Proofs.YtalmpcgbghnhpaaGreatDoor
namespace Go.Proofs.YtalmpcgbghnhpaaGreatDoor
def tmlB (n : Nod) : Bool := decide (n.1 ≠ 8 ∧ n.1 ≠ 14)
end Go.Proofs.YtalmpcgbghnhpaaGreatDoor
namespace Go.Proofs.YtalmpcgbghnhpaaGreatDoor

/-! ### the reference's loop -/
/-- what a term denotes -/
def statB (p : Int) (t : List Nod) : Bool := ovB p t && t.all tmlB
theorem ovB_true {p : Int} {t : List Nod} (h : ovB p t = true) : validB t = true ∧ fdB p = true ∧ ∀ n ∈ t, ovN p n = true := by
  unfold ovB at h
  simp only [Bool.and_eq_true] at h
  exact ⟨h.1, h.2.1, fun n hn => List.all_eq_true.1 h.2.2 n hn⟩
end Go.Proofs.YtalmpcgbghnhpaaGreatDoor
namespace Go.Proofs.YtalmpcgbghnhpaaGreatDoor
theorem isStatic_ (p : Int) (t : List Nod) : F_impl_Term_isStatic t p = some (statB p t) := by
  refine bnd (isOver_ p t) (stp ?_)
  unfold statB
  cases ovB p t with
  | false => rfl
  | true =>
    refine cFW rfl (sqW (forO_all tmlB t 0 (t := false) (fun j n hj => ?_)) ?_)
    · rw [Nat.zero_add]
      have hd : F_impl_isDelay n.1 = some (!tmlB n) := by
        unfold F_impl_isDelay tmlB
        by_cases h1 : n.1 = 8
        · simp [h1]
        · by_cases h2 : n.1 = 14 <;> simp [h1, h2]
      refine bnd (idxO_of hj) (bnd hd ?_)
      cases tmlB n <;> rfl
    · cases t.all tmlB <;> rfl
end Go.Proofs.YtalmpcgbghnhpaaGreatDoor
namespace Go.Proofs.YtalmpcgbghnhpaaGreatDoor
/-- the coefficient of j in a list of places and coefficients -/
def sumAt : List (Int × Int) → Int → Int
  | [], _ => 0
  | q :: l, j => (if q.1 = j then q.2 else 0) + sumAt l j
theorem sumAt_app : ∀ (l m : List (Int × Int)) (j : Int), sumAt (l ++ m) j = sumAt l j + sumAt m j
  | [], _, _ => by simp [sumAt]
  | q :: l, m, j => by
    show (if q.1 = j then q.2 else 0) + sumAt (l ++ m) j = _
    rw [sumAt_app l m j]; show _ = ((if q.1 = j then q.2 else 0) + sumAt l j) + _; omega
theorem sumAt_le {B : Int} (hB : 0 ≤ B) : ∀ {l : List (Int × Int)} {j : Int}, (∀ q ∈ l, -B ≤ q.2 ∧ q.2 ≤ B) → -(B * l.length) ≤ sumAt l j ∧ sumAt l j ≤ B * l.length
  | [], _, _ => by simp [sumAt]
  | q :: l, j, h => by
    have ih := sumAt_le hB (l := l) (j := j) fun x hx => h x (.tail _ hx)
    have h0 := h q (.head _)
    have e : B * ((q :: l).length : Nat) = B * (l.length : Int) + B := by
      rw [List.length_cons]; push_cast; rw [Int.mul_add]; omega
    show _ ≤ (if q.1 = j then q.2 else 0) + sumAt l j ∧ (if q.1 = j then q.2 else 0) + sumAt l j ≤ _
    rw [e]
    split <;> omega
def cg (p : Int) (l : List (Int × Int)) : List (Int × Int) := l.map fun q => (q.1, q.2 % p)
theorem sumAt_cg (p : Int) : ∀ (l : List (Int × Int)) (j : Int), sumAt (cg p l) j % p = sumAt l j % p
  | [], _ => rfl
  | q :: l, j => by
    show ((if q.1 = j then q.2 % p else 0) + sumAt (cg p l) j) % p = ((if q.1 = j then q.2 else 0) + sumAt l j) % p
    have ih := sumAt_cg p l j
    rw [Int.add_emod, ih]
    split
    · rw [mod_mod, ← Int.add_emod]
    · rw [← Int.add_emod]
theorem fdAdd_ {p a b : Int} (hp : 2 ≤ p ∧ p ≤ 97) (ha : 0 ≤ a ∧ a < p) (hb : 0 ≤ b ∧ b < p) : F_spec_fdAdd p a b = some ((a + b) % p) := by
  refine bnd (addO_of (by omega) (by omega)) (bnd (remO_of (by omega)) ?_)
  rw [Int.tmod_eq_emod_of_nonneg (by omega)]
def sumRow (p : Int) (n : Nat) (L : List (Int × Int)) : List Int := tabl n fun j => sumAt L (j : Int) % p
theorem dnRowG {p : Int} {n : Nat} (hp : 2 ≤ p ∧ p ≤ 97) (hn : n ≤ 1000000) {L : List (Int × Int)} (hL : ∀ q ∈ L, (0 ≤ q.1 ∧ q.1 < (n : Int)) ∧ (0 ≤ q.2 ∧ q.2 < p)) :
    F_spec_dnRow p (n : Int) (L.map (·.1)) (L.map (·.2)) = some (sumRow p n L) := by
  have hm : maxN = 1099511627776 := rfl
  have h0 : (tabl n fun _ => (0 : Int)) = sumRow p n (L.take 0) := tabl_ext fun k _ => by simp [sumAt]
  refine bnd (tabl_make 0 (by omega)) ?_
  rw [h0]
  refine bnd (forS_is (n := (L.map (·.1)).length) (fun j => sumRow p n (L.take j)) fun j hj => ?_) ?_
  · have hj : j < L.length := by simpa using hj
    obtain ⟨⟨a1, a2⟩, a3⟩ := hL L[j] (List.getElem_mem hj)
    obtain ⟨m, hq⟩ := Int.eq_ofNat_of_zero_le a1
    have hmn : m < n := by omega
    have e1 : idxO (L.map (·.1)) (j : Int) = some (m : Int) := by
      rw [← hq]; exact idxO_of (by rw [List.getElem?_map, List.getElem?_eq_getElem hj]; rfl)
    have e2 : idxO (L.map (·.2)) (j : Int) = some L[j].2 := idxO_of (by rw [List.getElem?_map, List.getElem?_eq_getElem hj]; rfl)
    refine bnd e1 (bnd (tabl_idx _ hmn) (bnd e2 (bnd (fdAdd_ hp (emod_in hp.1) a3) (bnd (tabl_setO _ _ hmn) ?_))))
    refine congrArg some (tabl_ext fun k _ => ?_)
    rw [List.take_add_one, List.getElem?_eq_getElem hj]
    show (if k = m then _ else _) = sumAt (L.take j ++ [L[j]]) (k : Int) % p
    rw [sumAt_app]
    show _ = (sumAt (L.take j) k + ((if L[j].1 = (k : Int) then L[j].2 else 0) + 0)) % p
    by_cases hk : k = m
    · subst hk
      rw [if_pos rfl, if_pos hq, Int.add_zero, Int.add_emod (sumAt _ _ % p), mod_mod, ← Int.add_emod]
    · rw [if_neg hk, if_neg (by omega), Int.add_zero, Int.add_zero]
  · have : L.take (L.map (·.1)).length = L := by rw [List.length_map]; exact List.take_length
    rw [this]

/-! ### the program's map -/
def MIs (m : MI) (L : List (Int × Int)) : Prop := KeysOk m.kvs ∧ (∀ x ∈ m.kvs.map (·.1), x ∈ L.map (·.1)) ∧ ∀ j, getL m.kvs j = sumAt L j
theorem getL_put : ∀ (l : List (Int × Int)) (k v j : Int), getL (putL l k v) j = if k = j then v else getL l j
  | [], k, v, j => by
    show (if k = j then v else getL [] j) = _
    rfl
  | p :: l, k, v, j => by
    unfold putL
    by_cases h : p.1 = k
    · rw [if_pos h]
      show (if k = j then v else getL l j) = if k = j then v else (if p.1 = j then p.2 else getL l j)
      by_cases hj : k = j
      · rw [if_pos hj, if_pos hj]
      · rw [if_neg hj, if_neg hj, if_neg (by omega)]
    · rw [if_neg h]
      show (if p.1 = j then p.2 else getL (putL l k v) j) = if k = j then v else (if p.1 = j then p.2 else getL l j)
      rw [getL_put l k v j]
      by_cases hj : p.1 = j
      · rw [if_pos hj, if_pos hj, if_neg (by omega)]
      · rw [if_neg hj, if_neg hj]
theorem getL_no : ∀ {l : List (Int × Int)} {k : Int}, k ∉ l.map (·.1) → getL l k = 0
  | [], _, _ => rfl
  | p :: l, k, h => by
    unfold getL
    rw [if_neg (fun e => h (by rw [← e]; simp))]
    exact getL_no fun q => h (by simp [q])
theorem putL_mem (l : List (Int × Int)) (k v : Int) (h : KeysOk l) (x : Int) : x ∈ (putL l k v).map (·.1) ↔ x = k ∨ x ∈ l.map (·.1) := (putL_keys l k v h).2 x
theorem rowMap_ {one b : Int} {os : List Int} (hb : -97 ≤ b ∧ b ≤ 97) (hl : os.length ≤ 1000) :
    ∃ m, F_impl_edgeRows_1 one os b = some m ∧ MIs m ((one, 1) :: os.map fun x => (x, b)) := by
  have key : ∃ r, forS (fun (k6 : Nat) (s33 : MI) =>
      (idxO os ((k6 : Nat) : Int)).bind fun a48 =>
      (addO (getM s33 a48) b).bind fun a50 =>
      some (setM s33 a48 a50)) os.length 0 (setM (⟨[]⟩ : MI) one 1) = some r ∧ MIs r ((one, 1) :: (os.take os.length).map fun x => (x, b)) := by
    refine forS_rel (I := fun j s => MIs s ((one, 1) :: (os.take j).map fun x => (x, b))) ?_ ?_
    · refine ⟨by simp [setM, putL, KeysOk], by simp [setM, putL], fun j => ?_⟩
      show (if one = j then (1 : Int) else getL [] j) = (if one = j then 1 else 0) + 0
      split <;> rfl
    · rintro j s hj ⟨h1, h2, h3⟩
      have hB := sumAt_le (B := 97) (by omega) (l := (one, 1) :: (os.take j).map fun x => (x, b)) (j := os[j]) (by
        intro q hq
        rcases List.mem_cons.1 hq with rfl | hq
        · exact ⟨by show (-97 : Int) ≤ 1; omega, by show (1 : Int) ≤ 97; omega⟩
        · obtain ⟨y, _, rfl⟩ := List.mem_map.1 hq
          exact ⟨hb.1, hb.2⟩)
      have hlen : (((one, (1 : Int)) :: (os.take j).map fun x => (x, b)).length : Int) ≤ 1001 := by simp; omega
      have hg : getM s os[j] = sumAt ((one, 1) :: (os.take j).map fun x => (x, b)) os[j] := h3 _
      refine ⟨setM s os[j] (getM s os[j] + b), bnd (idxO_of (List.getElem?_eq_getElem hj)) (bnd (addO_of (by rw [hg]; omega) (by rw [hg]; omega)) rfl), ?_⟩
      have ht : (os.take (j + 1)).map (fun x => (x, b)) = (os.take j).map (fun x => (x, b)) ++ [(os[j], b)] := by
        rw [List.take_add_one, List.getElem?_eq_getElem hj, List.map_append]; rfl
      rw [ht, ← List.cons_append]
      refine ⟨(putL_keys _ _ _ h1).1, fun x hx => ?_, fun i => ?_⟩
      · rcases (putL_mem _ _ _ h1 x).1 hx with rfl | hx
        · simp
        · rw [List.map_append]; exact List.mem_append_left _ (h2 x hx)
      · show getL (putL s.kvs os[j] (getM s os[j] + b)) i = _
        rw [getL_put, sumAt_app, hg]
        show _ = _ + ((if os[j] = i then b else 0) + 0)
        by_cases hi : os[j] = i
        · subst hi; rw [if_pos rfl, if_pos rfl, Int.add_zero]
        · rw [if_neg hi, if_neg hi, h3 i, Int.add_zero, Int.add_zero]
  obtain ⟨r, h1, h2⟩ := key
  rw [List.take_length] at h2
  exact ⟨r, bnd h1 rfl, h2⟩
/-- the entries of a map into a row -/
theorem kv_row {p : Int} {c W : Nat} (hp : 2 ≤ p ∧ p ≤ 97) (hc : c ≤ 100000) (hW : W ≤ 100000) : ∀ (l : List (Int × Int)) (g : Nat → Int), KeysOk l → (∀ q ∈ l, (0 ≤ q.1 ∧ q.1 < (W : Int)) ∧ (-1000000 ≤ q.2 ∧ q.2 ≤ 1000000)) →
    kvO (fun (s : List Int) (k v : Int) =>
      (addO (c : Int) k).bind fun i =>
      (F_impl_mod p v).bind fun b =>
      (setO s i b).bind fun a => some a) l (tabl (c + W) g) = some (tabl (c + W) fun j => if (j : Int) - c ∈ l.map (·.1) then getL l ((j : Int) - c) % p else g j)
  | [], g, _, _ => congrArg some (tabl_ext fun j _ => by simp)
  | q :: l, g, hk, hq => by
    obtain ⟨h1, h2⟩ := List.nodup_cons.1 hk
    obtain ⟨⟨a1, a2⟩, a3⟩ := hq q (.head _)
    obtain ⟨m, hm⟩ := Int.eq_ofNat_of_zero_le a1
    have hmW : c + m < c + W := by omega
    refine bnd (bnd (addO_of (by omega) (by omega)) (bnd (modG hp a3) (bnd (by rw [show (c : Int) + q.1 = ((c + m : Nat) : Int) by push_cast; omega]; exact tabl_setO _ _ hmW) rfl))) ?_
    rw [kv_row hp hc hW l _ h2 fun x hx => hq x (.tail _ hx)]
    refine congrArg some (tabl_ext fun j _ => ?_)
    by_cases hj : j = c + m
    · have e : (j : Int) - c = q.1 := by omega
      rw [e, if_neg h1, if_pos hj, if_pos (by simp)]
      show _ = (if q.1 = q.1 then q.2 else getL l q.1) % p
      rw [if_pos rfl]
    · have e : ¬ (q.1 = (j : Int) - c) := by omega
      have : ((j : Int) - c ∈ (q :: l).map (·.1)) ↔ ((j : Int) - c ∈ l.map (·.1)) := by
        rw [List.map_cons, List.mem_cons]
        exact ⟨fun h => h.elim (fun h => (e h.symm).elim) id, .inr⟩
      rw [if_neg hj]
      by_cases hm : (j : Int) - c ∈ l.map (·.1)
      · rw [if_pos hm, if_pos (this.2 hm)]
        show _ = (if q.1 = (j : Int) - c then q.2 else getL l ((j : Int) - c)) % p
        rw [if_neg e]
      · rw [if_neg hm, if_neg (fun h => hm (this.1 h))]
/-- a row of an edge among all variables -/
def wide (p : Int) (c W : Nat) (L : List (Int × Int)) : List Int := List.replicate c 0 ++ sumRow p W L
theorem wide_tabl (p : Int) (c W : Nat) (L : List (Int × Int)) : wide p c W L = tabl (c + W) fun j => if j < c then 0 else sumAt L ((j : Int) - c) % p := by
  refine tabl_of (by simp [wide, sumRow, tabl_len]) fun k hk => ?_
  unfold wide
  by_cases h : k < c
  · rw [if_pos h, List.getElem?_append_left (by simpa using h), List.getElem?_replicate, if_pos h]
  · rw [if_neg h, List.getElem?_append_right (by simpa using h), List.length_replicate]
    unfold sumRow
    rw [tabl_get _ (by omega)]
    congr 3; omega
def LOk (W : Nat) (L : List (Int × Int)) : Prop := L.length ≤ 3 ∧ ∀ q ∈ L, (0 ≤ q.1 ∧ q.1 < (W : Int)) ∧ (-97 ≤ q.2 ∧ q.2 ≤ 97)
theorem kv_wide {p : Int} {c W : Nat} (hp : 2 ≤ p ∧ p ≤ 97) (hc : c ≤ 100000) (hW : W ≤ 100000) {m : MI} {L : List (Int × Int)} (hm : MIs m L) (hL : LOk W L) :
    kvO (fun (s : List Int) (k v : Int) =>
      (addO (c : Int) k).bind fun i =>
      (F_impl_mod p v).bind fun b =>
      (setO s i b).bind fun a => some a) m.kvs (List.replicate (c + W) 0) = some (wide p c W L) := by
  obtain ⟨h1, h2, h3⟩ := hm
  have hB : ∀ j, -1000000 ≤ sumAt L j ∧ sumAt L j ≤ 1000000 := fun j => by
    have := sumAt_le (B := 97) (by omega) (l := L) (j := j) fun q hq => (hL.2 q hq).2
    have := hL.1
    omega
  have hat : ∀ (l : List (Int × Int)), KeysOk l → ∀ q ∈ l, getL l q.1 = q.2 := by
    intro l
    induction l with
    | nil => intro _ q hq; cases hq
    | cons x l ih =>
      intro hk q hq
      obtain ⟨k1, k2⟩ := List.nodup_cons.1 hk
      show (if x.1 = q.1 then x.2 else getL l q.1) = q.2
      rcases List.mem_cons.1 hq with rfl | hq
      · rw [if_pos rfl]
      · rw [if_neg (fun e => k1 (by show x.1 ∈ _; rw [e]; exact List.mem_map_of_mem hq)), ih k2 q hq]
  rw [tabl_rep, kv_row hp hc hW m.kvs _ h1 fun q hq => ⟨?_, ?_⟩, wide_tabl]
  · refine congrArg some (tabl_ext fun j hj => ?_)
    by_cases hk : (j : Int) - c ∈ m.kvs.map (·.1)
    · rw [if_pos hk, h3]
      obtain ⟨q, hq, e⟩ := List.mem_map.1 (h2 _ hk)
      have := (hL.2 q hq).1.1
      rw [if_neg (by omega)]
    · rw [if_neg hk]
      by_cases hjc : j < c
      · rw [if_pos hjc]
      · rw [if_neg hjc, ← h3, getL_no hk]; rfl
  · obtain ⟨x, hx, e⟩ := List.mem_map.1 (h2 q.1 (List.mem_map_of_mem hq))
    rw [← e]; exact (hL.2 x hx).1
  · rw [← hat m.kvs h1 q hq, h3]; exact hB _
end Go.Proofs.YtalmpcgbghnhpaaGreatDoor
namespace Go.Proofs.YtalmpcgbghnhpaaGreatDoor
def ori (e : Edg) : Option (List Int × List Int) := (some (decide ((9 : Int) ≤ e.1))).bind fun a19 =>
    cond a19
    (some (e.2.2.2, e.2.2.1))
    (some (e.2.2.1, e.2.2.2))
def oriS (e : Edg) : Option (List Int × List Int × Int) := (some (decide ((9 : Int) ≤ e.1))).bind fun a24 =>
    cond a24
    ((subO e.1 9).bind fun a33 =>
      (addO a33 3).bind fun a35 =>
      some (e.2.2.2, e.2.2.1, a35))
    (some (e.2.2.1, e.2.2.2, e.1))
/-- both have the rows of these coefficients -/
structure RowsOf (p : Int) (W : Nat) (e : Edg) (Ls : List (List (Int × Int))) : Prop where
  spec : F_spec_dnRows p (W : Int) e = some (Ls.map (sumRow p W))
  impl : ∃ ms, F_impl_edgeRows e = some ms ∧ ms.length = Ls.length ∧ ∀ (i : Nat) m L, ms[i]? = some m → Ls[i]? = some L → MIs m L
  ok : ∀ L ∈ Ls, LOk W L
  len : Ls.length ≤ 2
theorem dnRow2 {p : Int} {W : Nat} (hp : 2 ≤ p ∧ p ≤ 97) (hW : W ≤ 1000000) (L : List (Int × Int)) {at_ vals : List Int} (h1 : at_ = L.map (·.1)) (h2 : vals = L.map fun q => q.2 % p) (hL : LOk W L) : F_spec_dnRow p (W : Int) at_ vals = some (sumRow p W L) := by
  have e1 : at_ = (cg p L).map (·.1) := by rw [h1]; unfold cg; rw [List.map_map]; rfl
  have e2 : vals = (cg p L).map (·.2) := by rw [h2]; unfold cg; rw [List.map_map]; rfl
  rw [e1, e2, dnRowG hp hW fun q hq => ?_]
  · exact congrArg some (tabl_ext fun k _ => sumAt_cg p L k)
  · obtain ⟨x, hx, rfl⟩ := List.mem_map.1 hq
    exact ⟨(hL.2 x hx).1, emod_in hp.1⟩
theorem LOk_mk {W : Nat} {o b : Int} {is : List Int} (ho : 0 ≤ o ∧ o < (W : Int)) (hi : ∀ x ∈ is, 0 ≤ x ∧ x < (W : Int)) (hl : is.length ≤ 2) (hb : -97 ≤ b ∧ b ≤ 97) : LOk W ((o, 1) :: is.map fun x => (x, b)) := by
  refine ⟨by simp; omega, fun q hq => ?_⟩
  rcases List.mem_cons.1 hq with rfl | hq
  · exact ⟨ho, by show (-97 : Int) ≤ 1; omega, by show (1 : Int) ≤ 97; omega⟩
  · obtain ⟨x, hx, rfl⟩ := List.mem_map.1 hq
    exact ⟨hi x hx, hb⟩
theorem m1_mod {p : Int} (hp : 2 ≤ p ∧ p ≤ 97) : (-1) % p = p - 1 := by
  have h : (p - 1) % p = p - 1 := Int.emod_eq_of_lt (by omega) (by omega)
  rw [← Int.add_emod_right (-1) p, show (-1 : Int) + p = p - 1 by omega, h]
theorem neg_mod {p v : Int} (_ : 2 ≤ p ∧ p ≤ 97) : (-v) % p = (p - v) % p := by
  rw [show p - v = -v + p by omega, Int.add_emod_right]
theorem one_mod {p : Int} (hp : 2 ≤ p ∧ p ≤ 97) : (1 : Int) % p = 1 := Int.emod_eq_of_lt (by omega) (by omega)
section
variable {p : Int} {W : Nat} {e : Edg} {a b c : Int}
theorem rows3 (hp : 2 ≤ p ∧ p ≤ 97) (hW : W ≤ 1000000) (h1 : oriS e = some ([a], [b, c], 3)) (h2 : ori e = some ([a], [b, c])) {y : Int} (h3 : F_impl_mirrorKind e.1 = some y) (h4 : minI2 e.1 y = 3)
    (ha : 0 ≤ a ∧ a < (W : Int)) (hb : 0 ≤ b ∧ b < (W : Int)) (hc : 0 ≤ c ∧ c < (W : Int)) : RowsOf p W e [[(b, 1), (a, -1)], [(c, 1), (a, -1)]] := by
  have sp : subO p 1 = some (p - 1) := subO_of (by omega) (by omega)
  have l1 : LOk W [(b, 1), (a, -1)] := LOk_mk (is := [a]) hb (by simpa using ha) (by simp) (by omega)
  have l2 : LOk W [(c, 1), (a, -1)] := LOk_mk (is := [a]) hc (by simpa using ha) (by simp) (by omega)
  have d1 := dnRow2 (at_ := [b, a]) (vals := [1, p - 1]) hp hW _ rfl (by simp [one_mod hp, m1_mod hp]) l1
  have d2 := dnRow2 (at_ := [c, a]) (vals := [1, p - 1]) hp hW _ rfl (by simp [one_mod hp, m1_mod hp]) l2
  obtain ⟨m1, g1, g2⟩ := rowMap_ (one := b) (b := -1) (os := [a]) (by omega) (by simp)
  obtain ⟨m2, g3, g4⟩ := rowMap_ (one := c) (b := -1) (os := [a]) (by omega) (by simp)
  refine ⟨bnd h1 (stp (cTW rfl ?_)), ⟨[m1, m2], bnd h2 (bnd h3 (bnd (congrArg some h4) (stp (cTW rfl (bnd rfl (bnd g1 (bnd rfl (bnd g3 rfl)))))))), rfl, ?_⟩, ?_, by simp⟩
  · exact bnd (bnd rfl (bnd rfl (bnd sp (bnd rfl (bnd rfl (bnd sp (bnd d1 (bnd d2 rfl)))))))) rfl
  · intro i m L hm hL
    match i, hm, hL with
    | 0, hm, hL => obtain rfl := Option.some.inj hm; obtain rfl := Option.some.inj hL; exact g2
    | 1, hm, hL => obtain rfl := Option.some.inj hm; obtain rfl := Option.some.inj hL; exact g4
    | _ + 2, hm, _ => cases hm
  · intro L hL
    rcases List.mem_cons.1 hL with rfl | hL
    · exact l1
    · rcases List.mem_cons.1 hL with rfl | hL
      · exact l2
      · cases hL
theorem rowsOne {L : List (Int × Int)} {m : MI} (hs : F_spec_dnRows p (W : Int) e = some [sumRow p W L]) (hi : F_impl_edgeRows e = some [m]) (hm : MIs m L) (hl : LOk W L) : RowsOf p W e [L] :=
  ⟨hs, ⟨[m], hi, rfl, fun i m' L' h1 h2 => by
    match i, h1, h2 with
    | 0, h1, h2 => obtain rfl := Option.some.inj h1; obtain rfl := Option.some.inj h2; exact hm
    | _ + 1, h1, _ => cases h1⟩, (by
      intro L' h
      rcases List.mem_cons.1 h with rfl | h
      · exact hl
      · cases h), by simp⟩
theorem rows4 {I O : List Int} (h1 : oriS e = some (I, O, 4)) (h2 : ori e = some (I, O)) {y : Int} (h3 : F_impl_mirrorKind e.1 = some y) (h4 : minI2 e.1 y = 4) : RowsOf p W e [] :=
  ⟨bnd h1 (stp (cFW rfl (stp (cFW rfl (stp (cFW rfl (stp (cFW rfl rfl)))))))), ⟨[], bnd h2 (bnd h3 (bnd (congrArg some h4) (stp (cFW rfl (stp (cFW rfl (stp (cFW rfl (stp (cFW rfl rfl)))))))))), rfl, (fun i _ _ h => by cases h)⟩, (fun L h => by cases h), by simp⟩
theorem rows5 (hp : 2 ≤ p ∧ p ≤ 97) (hW : W ≤ 1000000) (h1 : oriS e = some ([a, b], [c], 5)) (h2 : ori e = some ([a, b], [c])) {y : Int} (h3 : F_impl_mirrorKind e.1 = some y) (h4 : minI2 e.1 y = 5)
    (ha : 0 ≤ a ∧ a < (W : Int)) (hb : 0 ≤ b ∧ b < (W : Int)) (hc : 0 ≤ c ∧ c < (W : Int)) : RowsOf p W e [[(c, 1), (a, -1), (b, -1)]] := by
  have sp : subO p 1 = some (p - 1) := subO_of (by omega) (by omega)
  have l1 : LOk W [(c, 1), (a, -1), (b, -1)] := LOk_mk (is := [a, b]) hc (by simpa using ⟨ha, hb⟩) (by simp) (by omega)
  have d1 := dnRow2 (at_ := [c, a, b]) (vals := [1, p - 1, p - 1]) hp hW _ rfl (by simp [one_mod hp, m1_mod hp]) l1
  obtain ⟨m1, g1, g2⟩ := rowMap_ (one := c) (b := -1) (os := [a, b]) (by omega) (by simp)
  refine rowsOne (m := m1) (bnd h1 (stp (cFW rfl (stp (cTW rfl ?_))))) (bnd h2 (bnd h3 (bnd (congrArg some h4) (stp (cFW rfl (stp (cTW rfl (bnd rfl (bnd g1 rfl))))))))) g2 l1
  exact bnd (bnd rfl (bnd rfl (bnd rfl (bnd sp (bnd sp (bnd d1 rfl)))))) rfl
theorem rows6 {I : List Int} (hp : 2 ≤ p ∧ p ≤ 97) (hW : W ≤ 1000000) (h1 : oriS e = some (I, [c], 6)) (h2 : ori e = some (I, [c])) {y : Int} (h3 : F_impl_mirrorKind e.1 = some y) (h4 : minI2 e.1 y = 6)
    (hc : 0 ≤ c ∧ c < (W : Int)) : RowsOf p W e [[(c, 1)]] := by
  have l1 : LOk W [(c, 1)] := LOk_mk (is := []) (b := 0) hc (fun x hx => by cases hx) (Nat.zero_le _) (by omega)
  have d1 := dnRow2 (at_ := [c]) (vals := [1]) hp hW _ rfl (by simp [one_mod hp]) l1
  obtain ⟨m1, g1, g2⟩ := rowMap_ (one := c) (b := 0) (os := []) (by omega) (by simp)
  exact rowsOne (m := m1) (bnd h1 (stp (cFW rfl (stp (cFW rfl (stp (cTW rfl (bnd rfl (bnd d1 rfl)))))))))
    (bnd h2 (bnd h3 (bnd (congrArg some h4) (stp (cFW rfl (stp (cFW rfl (stp (cTW rfl (bnd rfl (bnd g1 rfl)))))))))) ) g2 l1
theorem rows7 (hp : 2 ≤ p ∧ p ≤ 97) (hW : W ≤ 1000000) (h1 : oriS e = some ([a], [c], 7)) (h2 : ori e = some ([a], [c])) {y : Int} (h3 : F_impl_mirrorKind e.1 = some y) (h4 : minI2 e.1 y = 7)
    (hv : 0 ≤ e.2.1 ∧ e.2.1 < p) (ha : 0 ≤ a ∧ a < (W : Int)) (hc : 0 ≤ c ∧ c < (W : Int)) : RowsOf p W e [[(c, 1), (a, -e.2.1)]] := by
  have l1 : LOk W [(c, 1), (a, -e.2.1)] := LOk_mk (is := [a]) hc (by simpa using ha) (by simp) (by omega)
  have d1 := dnRow2 (at_ := [c, a]) (vals := [1, (p - e.2.1) % p]) hp hW _ rfl (by show [1, (p - e.2.1) % p] = [(1 : Int) % p, (-e.2.1) % p]; rw [one_mod hp, neg_mod hp]) l1
  obtain ⟨m1, g1, g2⟩ := rowMap_ (one := c) (b := -e.2.1) (os := [a]) (by omega) (by simp)
  have ng : negO e.2.1 = some (-e.2.1) := by
    unfold negO; rw [Int.zero_sub]; exact cI_of ⟨by omega, by omega⟩
  refine rowsOne (m := m1) (bnd h1 (stp (cFW rfl (stp (cFW rfl (stp (cFW rfl (stp (cTW rfl ?_))))))))) (bnd h2 (bnd h3 (bnd (congrArg some h4) (stp (cFW rfl (stp (cFW rfl (stp (cFW rfl (stp (cTW rfl (bnd rfl (bnd ng (bnd g1 rfl)))))))))))))) g2 l1
  exact bnd (bnd rfl (bnd rfl (bnd (fdNeg_ hp hv) (bnd d1 rfl)))) rfl
end
theorem llen1 {l : List Int} (h : (l.length : Int) = 1) : ∃ a, l = [a] := List.length_eq_one_iff.1 (by omega)
theorem llen2 {l : List Int} (h : (l.length : Int) = 2) : ∃ a b, l = [a, b] := by
  match l, h with
  | [a, b], _ => exact ⟨a, b, rfl⟩
theorem edge_rows {p : Int} {W : Nat} {e : Edg} (hp : 2 ≤ p ∧ p ≤ 97) (hW : W ≤ 1000000) (he : edW (W : Int) e = true) (hv : e.2.1 < p) (ht : e.1 ≠ 8 ∧ e.1 ≠ 14) : ∃ Ls, RowsOf p W e Ls := by
  unfold edW arB genB wOk at he
  simp only [Bool.and_eq_true, decide_eq_true_eq, List.all_eq_true] at he
  obtain ⟨⟨⟨hk, hval⟩, hI, hO⟩, wI, wO⟩ := he
  have hk := rng_true.1 hk
  have hr : ∀ {x : Int}, rng x 0 ((W : Int) - 1) = true → 0 ≤ x ∧ x < (W : Int) := fun h => by have := rng_true.1 h; omega
  have hv0 : 0 ≤ e.2.1 := by
    split at hval
    · exact (rng_true.1 hval).1
    · rw [of_decide_eq_true hval]; omega
  have hc : e.1 = 3 ∨ e.1 = 4 ∨ e.1 = 5 ∨ e.1 = 6 ∨ e.1 = 7 ∨ e.1 = 9 ∨ e.1 = 10 ∨ e.1 = 11 ∨ e.1 = 12 ∨ e.1 = 13 := by omega
  obtain ⟨k, v, I, O⟩ := e
  unfold edI edO at *
  dsimp only at *
  rcases hc with rfl | rfl | rfl | rfl | rfl | rfl | rfl | rfl | rfl | rfl
  · obtain ⟨a, rfl⟩ := llen1 hI; obtain ⟨b, c, rfl⟩ := llen2 hO
    exact ⟨_, rows3 hp hW rfl rfl (y := 9) rfl rfl (hr (wI a (by simp))) (hr (wO b (by simp))) (hr (wO c (by simp)))⟩
  · exact ⟨_, rows4 rfl rfl (y := 10) rfl rfl⟩
  · obtain ⟨a, b, rfl⟩ := llen2 hI; obtain ⟨c, rfl⟩ := llen1 hO
    exact ⟨_, rows5 hp hW rfl rfl (y := 11) rfl rfl (hr (wI a (by simp))) (hr (wI b (by simp))) (hr (wO c (by simp)))⟩
  · obtain ⟨c, rfl⟩ := llen1 hO
    exact ⟨_, rows6 hp hW rfl rfl (y := 12) rfl rfl (hr (wO c (by simp)))⟩
  · obtain ⟨a, rfl⟩ := llen1 hI; obtain ⟨c, rfl⟩ := llen1 hO
    exact ⟨_, rows7 hp hW rfl rfl (y := 13) rfl rfl ⟨hv0, hv⟩ (hr (wI a (by simp))) (hr (wO c (by simp)))⟩
  · obtain ⟨a, rfl⟩ := llen1 hO; obtain ⟨b, c, rfl⟩ := llen2 hI
    exact ⟨_, rows3 hp hW rfl rfl (y := 3) rfl rfl (hr (wO a (by simp))) (hr (wI b (by simp))) (hr (wI c (by simp)))⟩
  · exact ⟨_, rows4 rfl rfl (y := 4) rfl rfl⟩
  · obtain ⟨a, b, rfl⟩ := llen2 hO; obtain ⟨c, rfl⟩ := llen1 hI
    exact ⟨_, rows5 hp hW rfl rfl (y := 5) rfl rfl (hr (wO a (by simp))) (hr (wO b (by simp))) (hr (wI c (by simp)))⟩
  · obtain ⟨c, rfl⟩ := llen1 hI
    exact ⟨_, rows6 hp hW rfl rfl (y := 6) rfl rfl (hr (wI c (by simp)))⟩
  · obtain ⟨a, rfl⟩ := llen1 hO; obtain ⟨c, rfl⟩ := llen1 hI
    exact ⟨_, rows7 hp hW rfl rfl (y := 7) rfl rfl ⟨hv0, hv⟩ (hr (wO a (by simp))) (hr (wI c (by simp)))⟩
end Go.Proofs.YtalmpcgbghnhpaaGreatDoor
