/-
  Plain law: the text of a mark. No program in sight. No condition.
-/
import Derived.Test.YtgfnophfoccamaaZP1
import Derived.Test.YtgfnophfoccamaaZFn
namespace Go.Proofs.Ytgfnophfoccamaa
instance : Nice ByteArray := ⟨fun s => (s.size : Int) ≤ 9223372036854775807⟩
def byD (n : Int) : ByteArray := ofBytes ([(48 + n.tmod 10) % 256] : List Int)
def mDig : Nat → Int → ByteArray → ByteArray
  | 0, _, s => s
  | f + 1, n, s => if 0 < n then mDig f (n.tdiv 10) (byD n ++ s) else s
def mText (k : Int) : ByteArray := if k ≤ 0 then ⟨#[109, 48]⟩ else ⟨#[109]⟩ ++ mDig (k.toNat + 1) k .empty
theorem catO_of {a b : ByteArray} (h : a.size + b.size ≤ 9223372036854775807) : catO a b = some (a ++ b) := if_pos (by omega)
theorem byD_size (n : Int) : (byD n).size = 1 := rfl
theorem markText_ (k : Int) (h0 : 0 ≤ k) (h : k ≤ 1125899906842624) : F_laws_markText k = some (mText k) := by
  unfold mText
  by_cases hk : k ≤ 0
  · rw [if_pos hk]; exact stp (cTW (dT hk) rfl)
  · rw [if_neg hk]
    have key : ∀ (f : Nat) (n : Int) (s : ByteArray), 0 ≤ n → n.toNat < f → n + s.size ≤ 1125899906842624 → (mDig f n s).size ≤ 1125899906842624 ∧ whileO (fun (s123 : Int × ByteArray) =>
        (some (decide ((0 : Int) < s123.1))).bind fun a132 =>
        cond a132
        ((remO s123.1 10).bind fun a137 =>
          (addO 48 a137).bind fun a139 =>
          (some (a139 % 256)).bind fun a141 =>
          (some (ofBytes ([a141] : List By))).bind fun a146 =>
          (catO a146 s123.2).bind fun a148 =>
          (quoO s123.1 10).bind fun a150 =>
          some (.inl (a150, a148)))
        (some (.inr s123.2))) (n, s) = some (mDig f n s) := by
      intro f
      induction f with
      | zero => intro n s h1 h2 h3; omega
      | succ f ih =>
        intro n s h1 h2 h3
        rw [mDig]
        by_cases hn : 0 < n
        · rw [if_pos hn]
          have e : n.tdiv 10 = n / 10 := Int.tdiv_eq_ediv_of_nonneg h1
          have e2 : n.tmod 10 = n % 10 := Int.tmod_eq_emod_of_nonneg h1
          have hq : quoO n 10 = some (n.tdiv 10) := by unfold quoO; rw [if_neg (by decide)]; exact cI_of ⟨by omega, by omega⟩
          have hs : (byD n ++ s).size = s.size + 1 := by rw [ByteArray.size_append, byD_size]; omega
          obtain ⟨i1, i2⟩ := ih (n.tdiv 10) (byD n ++ s) (by omega) (by omega) (by rw [hs]; omega)
          refine ⟨i1, ?_⟩
          have st := catO_of (a := byD n) (b := s) (by rw [byD_size]; omega)
          rw [← i2]
          exact whileO_step (stp (cTW (dT hn) (bnd (remO_of (by decide)) (bnd (addO_of (by dsimp only; omega) (by dsimp only; omega)) (stp (stp (bnd st (bnd hq rfl))))))))
        · rw [if_neg hn]
          exact ⟨by omega, whileO_end (stp (cFW (dF hn) rfl))⟩
    obtain ⟨k1, k2⟩ := key (k.toNat + 1) k .empty (by omega) (by omega) (by show k + 0 ≤ _; omega)
    have hz : (⟨#[109]⟩ : ByteArray).size = 1 := rfl
    have hc := catO_of (a := ⟨#[109]⟩) (b := mDig (k.toNat + 1) k .empty) (by omega)
    refine stp (cFW (dF hk) (bnd k2 ?_))
    exact bnd hc rfl
end Go.Proofs.Ytgfnophfoccamaa
