/-
  Plain law of SeqGraphs: the reference's function and the program's answer alike. No program in sight. No condition.
-/
import Derived.Test.YtciiinolpaohpaaDoorZP39
namespace Go.Proofs.YtciiinolpaohpaaDoor

def shf (n : Nat) : Nat → Int := fun k => (k : Int) + n
theorem inRg_shf {n m : Nat} {l : List Int} (h : inRg m l) : inRg (n + m) (mp (shf n) l) := by
  intro x hx
  obtain ⟨y, hy, rfl⟩ := List.mem_map.1 hx
  have := h y hy
  unfold shf
  omega
theorem inRg_wide {n m : Nat} {l : List Int} (h : inRg n l) : inRg (n + m) l := fun x hx => by have := h x hx; omega
theorem totE_map (s : Edg → List Int) (t : Nat → Int) (hs : ∀ e, (s (mpE t e)).length = (s e).length) : ∀ E : List Edg, totE (E.map (mpE t)) s = totE E s := by
  intro E
  induction E with
  | nil => rfl
  | cons e E ih =>
    unfold totE at ih ⊢
    simp only [List.map_cons, List.flatten_cons, List.length_append]
    rw [hs, ih]
theorem totE_app (s : Edg → List Int) (E E' : List Edg) : totE (E ++ E') s = totE E s + totE E' s := by
  unfold totE; rw [List.map_append, List.flatten_append, List.length_append]
theorem edI_mp (t : Nat → Int) (e : Edg) : edI (mpE t e) = mp t (edI e) := rfl
theorem edO_mp (t : Nat → Int) (e : Edg) : edO (mpE t e) = mp t (edO e) := rfl
def befG (n m : Nat) (a b : Gra) : Gra := (((n + m : Nat) : Int), a.2.1 ++ b.2.1.map (mpE (shf n)), a.2.2.1, mp (shf n) b.2.2.2)
theorem befG_rgd {n m : Nat} {a b : Gra} (ha : GOk a n) (hb : GOk b m) : Rgd (n + m) (befG n m a b) := by
  have h1 := ha.e60; have h2 := hb.e60; have h3 := ha.i12; have h4 := hb.o12; have h5 := ha.ti; have h6 := ha.to; have h7 := hb.ti; have h8 := hb.to
  refine ⟨inRg_wide ha.i, inRg_shf hb.o, fun e he => ?_, by unfold befG; dsimp only; omega, by unfold befG; dsimp only; rw [mp_len]; omega, by unfold befG; dsimp only; rw [List.length_append, List.length_map]; omega, ?_, ?_⟩
  · rcases List.mem_append.1 he with h | h
    · exact ⟨inRg_wide (ha.e e h).1, inRg_wide (ha.e e h).2⟩
    · obtain ⟨e', he', rfl⟩ := List.mem_map.1 h
      exact ⟨inRg_shf (hb.e e' he').1, inRg_shf (hb.e e' he').2⟩
  · unfold befG; dsimp only
    rw [totE_app, totE_map edI _ (fun e => by rw [edI_mp, mp_len])]; omega
  · unfold befG; dsimp only
    rw [totE_app, totE_map edO _ (fun e => by rw [edO_mp, mp_len])]; omega
def pSeq (n m : Nat) (a b : Gra) : Gra := gluG (befG n m a b) (n + m) (a.2.2.2.zip (mp (shf n) b.2.2.1))
theorem hgSeq_ {n m : Nat} {a b : Gra} (ha : GOk a n) (hb : GOk b m) (hl : a.2.2.2.length = b.2.2.1.length) : F_spec_hgSeq a b = some (pSeq n m a b) := by
  have hmm : maxN = 1099511627776 := rfl
  have n1 := ha.n100; have m1 := hb.n100
  have hB := hgBeside_ (by omega) (by omega) ha.w hb.w ha.rgd hb.rgd
  have hR := befG_rgd ha hb
  have oa := ha.o12; have ib := hb.i12; have ia := ha.i12; have ob := hb.o12
  have hG := hgGlued_ (A := a.2.2.2) (B := mp (shf n) b.2.2.1) (by omega) rfl hR (inRg_wide ha.o) (inRg_shf hb.i) (by rw [mp_len, hl])
  obtain ⟨w0, E, I, O⟩ := a
  obtain ⟨w1, E', I', O'⟩ := b
  obtain rfl : w0 = (n : Int) := ha.w
  obtain rfl : w1 = (m : Int) := hb.w
  dsimp only at oa ib ia ob hl
  have sl1 : ∀ x y : List Int, sliceO (x ++ y) 0 ((x.length : Nat) : Int) = some x := fun x y => by
    unfold sliceO; rw [if_pos ⟨by omega, by omega, by rw [List.length_append]; omega⟩]; simp
  have sl2 : ∀ x y : List Int, sliceO (x ++ y) ((x.length : Nat) : Int) (((x ++ y).length : Nat) : Int) = some y := fun x y => by
    unfold sliceO; rw [if_pos ⟨by omega, by rw [List.length_append]; omega, by omega⟩]
    rw [Int.toNat_natCast, Int.toNat_natCast, List.drop_left, List.take_of_length_le (by rw [List.length_append]; omega)]
  refine bnd hB ?_
  unfold pPar
  refine bnd (sl1 O _) (bnd (sl2 I _) (bnd (own_ (by omega)) (bnd (own_ (by rw [mp_len]; dsimp only; omega)) (bnd (sl1 I _) (bnd (sl2 O _) (bnd (a := pSeq n m ((n : Int), E, I, O) ((m : Int), E', I', O')) ?_ rfl))))))
  exact bnd hG rfl
theorem seqGraphs_ {n m : Nat} {a b : Gra} (ha : GOk a n) (hb : GOk b m) (hl : a.2.2.2.length = b.2.2.1.length) : F_impl_seqGraphs a b = some (pSeq n m a b) := by
  have hmm : maxN = 1099511627776 := rfl
  have n1 := ha.n100; have m1 := hb.n100
  have hB := beside_ (by omega) (by omega) ha.w hb.w ha.rgd hb.rgd
  have hR := befG_rgd ha hb
  have oa := ha.o12; have ib := hb.i12; have ia := ha.i12; have ob := hb.o12
  have hP : ∀ p ∈ a.2.2.2.zip (mp (shf n) b.2.2.1), (0 ≤ p.1 ∧ p.1 < ((n + m : Nat) : Int)) ∧ (0 ≤ p.2 ∧ p.2 < ((n + m : Nat) : Int)) := fun p hp => by
    obtain ⟨x, y⟩ := p
    have h := List.of_mem_zip hp
    exact ⟨inRg_wide ha.o x h.1, inRg_shf hb.i y h.2⟩
  have hG := glue_ (P := a.2.2.2.zip (mp (shf n) b.2.2.1)) (by omega) rfl hR hP
  have hO := hb.o; have hAO := ha.o; have hBI := hb.i
  obtain ⟨w0, E, I, O⟩ := a
  obtain ⟨w1, E', I', O'⟩ := b
  obtain rfl : w0 = (n : Int) := ha.w
  obtain rfl : w1 = (m : Int) := hb.w
  dsimp only at oa ib ia ob hl hO hAO hBI
  have hzl : (O.zip (mp (shf n) I')).length = O.length := by rw [List.length_zip, mp_len, hl, Nat.min_self]
  have loop := forS_is (n := O.length) (fun j => (O.zip (mp (shf n) I')).take j) (f := fun (k32 : Nat) (s98 : List (Int × Int)) =>
      (idxO O ((k32 : Nat) : Int)).bind fun a114 =>
      (idxO I' ((k32 : Nat) : Int)).bind fun a123 =>
      (addO (n : Int) a123).bind fun a125 =>
      (appO s98 [(a114, a125)]).bind fun a133 =>
      some a133) (fun j hj => by
    have hji : j < I'.length := by omega
    have hx := hBI _ (List.getElem_mem hji)
    have e : (O.zip (mp (shf n) I')).take (j + 1) = (O.zip (mp (shf n) I')).take j ++ [(O[j], (n : Int) + I'[j])] := by
      rw [List.take_add_one, List.getElem?_eq_getElem (by omega), List.getElem_zip]
      congr 2
      refine congrArg (fun z => [z]) (Prod.ext rfl ?_)
      unfold mp shf
      rw [List.getElem_map]
      show ((I'[j].toNat : Nat) : Int) + n = _
      omega
    rw [e]
    exact bnd (idxO_of (List.getElem?_eq_getElem hj)) (bnd (idxO_of (List.getElem?_eq_getElem hji)) (bnd (addO_of (by omega) (by omega)) (bnd (appO_of (by simp; omega)) rfl))))
  rw [List.take_zero, show (O.zip (mp (shf n) I')).take O.length = O.zip (mp (shf n) I') from by rw [← hzl, List.take_length]] at loop
  exact bnd hB (bnd loop (bnd (clone_ (by dsimp only; omega)) (bnd (from_ (by omega) (by omega)) (bnd (mapped_ _ hO (by dsimp only; omega)) (bnd hG rfl)))))
end Go.Proofs.YtciiinolpaohpaaDoor
