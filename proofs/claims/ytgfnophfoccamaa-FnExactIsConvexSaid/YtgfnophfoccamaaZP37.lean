/-
  Plain laws: lists that rise; what the reference finds in reach; ReachableWires. No program in sight. No condition.
-/
import Derived.Test.YtgfnophfoccamaaZP36
namespace Go.Proofs.Ytgfnophfoccamaa

def Srt (l : List Int) : Prop := l.Pairwise (· < ·)
theorem Srt.nd {l : List Int} (h : Srt l) : l.Nodup := h.imp (fun h => by omega)
theorem Srt.len {n : Nat} {l : List Int} (h : Srt l) (hr : inRg n l) : l.length ≤ n := by
  rw [← seenN_nodup hr h.nd]; exact seenN_le n l
/-- a number put into its place -/
theorem l1Put_ {l : List Int} (x : Int) (hs : Srt l) (hl : l.length ≤ 1048576) : ∃ r, F_spec_l1Put l x = some r ∧ Srt r ∧ (∀ y, y ∈ r ↔ y ∈ l ∨ y = x) ∧ (x ∈ l → r = l) ∧ (¬ x ∈ l → r.length = l.length + 1) := by
  have hm : maxN = 1099511627776 := rfl
  obtain ⟨t, h1, k, rfl, hk, hlt, hge⟩ := whileO_rel (f := fun (s226 : Int) =>
      ((some (decide (s226 < ((l.length : Nat) : Int)))).bind fun a255 =>
        cond a255
        ((idxO l s226).bind fun a265 =>
          (some (decide (a265 < x))).bind fun a267 =>
          some a267)
        (some false)).bind fun (s249 : Bool) =>
      cond s249
      ((addO s226 1).bind fun a274 =>
        some (.inl a274))
      (some (.inr s226))) (fun s => ∃ k : Nat, s = (k : Int) ∧ k ≤ l.length ∧ ∀ y ∈ l.take k, y < x) (fun s => ∃ k : Nat, s = (k : Int) ∧ k ≤ l.length ∧ (∀ y ∈ l.take k, y < x) ∧ ∀ y ∈ l.drop k, x ≤ y)
      (fun s => l.length - s.toNat) (by
    rintro s ⟨k, rfl, hk, hlt⟩
    by_cases hkl : k < l.length
    · by_cases hx : l[k] < x
      · refine .inl ⟨((k + 1 : Nat) : Int), bnd (a := true) (stp (cTW (dT (by omega)) (bnd (idxO_of (List.getElem?_eq_getElem hkl)) (stp (congrArg some (dT hx)))))) (cTW rfl (bnd (addO_of (by omega) (by omega)) rfl)), ⟨k + 1, rfl, by omega, fun y hy => ?_⟩, by omega⟩
        rw [List.take_add_one, List.getElem?_eq_getElem hkl] at hy
        rcases List.mem_append.1 hy with h | h
        · exact hlt y h
        · simp only [Option.toList_some, List.mem_singleton] at h; rw [h]; exact hx
      · refine .inr ⟨(k : Int), bnd (a := false) (stp (cTW (dT (by omega)) (bnd (idxO_of (List.getElem?_eq_getElem hkl)) (stp (congrArg some (dF hx)))))) rfl, k, rfl, hk, hlt, fun y hy => ?_⟩
        rw [List.drop_eq_getElem_cons hkl] at hy
        have hd : (l[k] :: l.drop (k + 1)).Pairwise (· < ·) := by rw [← List.drop_eq_getElem_cons hkl]; exact hs.sublist (List.drop_sublist _ _)
        rcases List.mem_cons.1 hy with h | h
        · omega
        · have := (List.pairwise_cons.1 hd).1 y h; omega
    · refine .inr ⟨(k : Int), bnd (a := false) (stp (cFW (dF (by omega)) rfl)) rfl, k, rfl, hk, hlt, fun y hy => ?_⟩
      rw [List.drop_eq_nil_of_le (by omega)] at hy; cases hy) (s := 0) ⟨0, rfl, Nat.zero_le _, fun y hy => by simp at hy⟩
  have hspl : l = l.take k ++ l.drop k := (List.take_append_drop _ _).symm
  by_cases hx : x ∈ l
  · -- it is there
    have hxd : x ∈ l.drop k := by
      rw [hspl] at hx
      rcases List.mem_append.1 hx with h | h
      · have := hlt x h; omega
      · exact h
    have hkl : k < l.length := by
      rcases Nat.lt_or_ge k l.length with h | h
      · exact h
      · rw [List.drop_eq_nil_of_le h] at hxd; cases hxd
    have he : l[k] = x := by
      have h2 := hge l[k] (by rw [List.drop_eq_getElem_cons hkl]; exact List.mem_cons_self ..)
      have hd : (l[k] :: l.drop (k + 1)).Pairwise (· < ·) := by rw [← List.drop_eq_getElem_cons hkl]; exact hs.sublist (List.drop_sublist _ _)
      rw [List.drop_eq_getElem_cons hkl] at hxd
      rcases List.mem_cons.1 hxd with h | h
      · exact h.symm
      · have := (List.pairwise_cons.1 hd).1 x h; omega
    refine ⟨l, bnd h1 (bnd (a := true) (stp (cTW (dT (by omega)) (bnd (idxO_of (List.getElem?_eq_getElem hkl)) (stp (congrArg some (dT he)))))) rfl), hs, fun y => ⟨.inl, fun h => by rcases h with h | h; exact h; rw [h]; exact hx⟩, fun _ => rfl, fun h => (h hx).elim⟩
  · have hlt2 : ∀ y ∈ l.drop k, x < y := fun y hy => by
      have := hge y hy
      have : y ≠ x := fun e => hx (by rw [hspl]; exact List.mem_append_right _ (e ▸ hy))
      omega
    have s1 : sliceO l 0 (k : Int) = some (l.take k) := by unfold sliceO; rw [if_pos ⟨by omega, by omega, by omega⟩]; simp
    have s2 : sliceO l (k : Int) ((l.length : Nat) : Int) = some (l.drop k) := by
      unfold sliceO; rw [if_pos ⟨by omega, by omega, by omega⟩]
      rw [Int.toNat_natCast, Int.toNat_natCast, List.take_of_length_le (by simp)]
    have hlen : (l.take k).length + (l.drop k).length = l.length := by conv => rhs; rw [hspl]; rw [List.length_append]
    refine ⟨l.take k ++ [x] ++ l.drop k, bnd h1 (bnd (a := false) ?_ (cFW rfl (bnd s1 (bnd (appO_of (by simp; omega)) (bnd (appO_of (by simp; omega)) (bnd s2 (bnd (appO_of (by simp; omega)) rfl))))))), ?_, fun y => ?_, fun h => (hx h).elim, fun _ => ?_⟩
    · by_cases hkl : k < l.length
      · refine stp (cTW (dT (by omega)) (bnd (idxO_of (List.getElem?_eq_getElem hkl)) (stp (congrArg some (dF fun e => hx ?_)))))
        rw [← e]; exact List.getElem_mem hkl
      · exact stp (cFW (dF (by omega)) rfl)
    · unfold Srt at hs ⊢
      rw [hspl] at hs
      obtain ⟨p1, p2, p3⟩ := List.pairwise_append.1 hs
      rw [List.append_assoc]
      refine List.pairwise_append.2 ⟨p1, List.pairwise_cons.2 ⟨hlt2, p2⟩, fun a ha b hb => ?_⟩
      rcases List.mem_cons.1 hb with h | h
      · rw [h]; exact hlt a ha
      · exact p3 a ha b h
    · conv => rhs; rw [hspl]
      simp only [List.mem_append, List.mem_singleton]
      constructor
      · rintro ((h | h) | h)
        · exact .inl (.inl h)
        · exact .inr h
        · exact .inl (.inr h)
      · rintro ((h | h) | h)
        · exact .inl (.inl h)
        · exact .inr h
        · exact .inl (.inr h)
    · simp only [List.length_append, List.length_singleton]; omega
theorem hgMeets_ (a b : List Int) : F_spec_hgMeets a b = some (a.any fun w => decide (w ∈ b)) := by
  refine sqW (forO_all (fun w => !decide (w ∈ b)) a 0 ?_ (t := true)) ?_
  · intro j w hj
    rw [Nat.zero_add]
    refine bnd (idxO_of hj) (bnd (l1Has_ b w) ?_)
    cases decide (w ∈ b) <;> rfl
  · have : (a.all fun w => !decide (w ∈ b)) = !(a.any fun w => decide (w ∈ b)) := by rw [List.not_any_eq_all_not]
    rw [this]
    cases (a.any fun w => decide (w ∈ b)) <;> rfl
theorem meets_iff {a b : List Int} : (a.any fun w => decide (w ∈ b)) = true ↔ ∃ w ∈ a, w ∈ b := by
  rw [List.any_eq_true]
  exact ⟨fun ⟨w, hw, hm⟩ => ⟨w, hw, of_decide_eq_true hm⟩, fun ⟨w, hw, hm⟩ => ⟨w, hw, dT hm⟩⟩
theorem mtReach_ {n : Nat} {E : List Edg} {I O ws : List Int} (hn : n ≤ 1000000) (hE : edRg n E) (hw : inRg n ws) : ∃ r, F_spec_mtReach ((n : Int), E, I, O) ws = some r ∧ Srt r ∧ inRg n r ∧ ∀ y, y ∈ r ↔ Rch E (· ∈ ws) y := by
  have hm : maxN = 1099511627776 := rfl
  -- the wires to begin with
  obtain ⟨r0, a1, a2, a3⟩ := forS_rel (n := ws.length) (s := ([] : List Int)) (f := fun (k8 : Nat) (s41 : List Int) =>
      (idxO ws ((k8 : Nat) : Int)).bind fun a58 =>
      (F_spec_l1Put s41 a58).bind fun y60 =>
      some y60) (fun j r => Srt r ∧ ∀ y, y ∈ r ↔ y ∈ ws.take j) ⟨List.Pairwise.nil, fun y => by simp⟩ (fun j r hj ⟨r1, r2⟩ => by
    have hr : inRg n r := fun x hx => hw x (List.mem_of_mem_take ((r2 x).1 hx))
    have hlen := r1.len hr
    obtain ⟨t, t1, t2, t3, _, _⟩ := l1Put_ ws[j] r1 (by omega)
    refine ⟨t, bnd (idxO_of (List.getElem?_eq_getElem hj)) (bnd t1 rfl), t2, fun y => ?_⟩
    rw [t3 y, r2 y, List.take_add_one, List.getElem?_eq_getElem hj, List.mem_append]
    simp)
  rw [List.take_length] at a3
  have key := whileO_rel (f := fun (s4834 : List Int × Bool) =>
      cond s4834.2
      ((forS (fun (k4847 : Nat) (s5467 : List Int × Bool) =>
            ((idxO E ((k4847 : Nat) : Int)).bind fun a5641 =>
              (F_spec_hgMeets a5641.2.2.1 s5467.1).bind fun y5653 =>
              (some (!y5653)).bind fun a5656 =>
              cond a5656
              (some (s5467.1, s5467.2))
              ((forS (fun (k5659 : Nat) (s5735 : List Int × Bool) =>
                    (idxO a5641.2.2.2 ((k5659 : Nat) : Int)).bind fun a5751 =>
                    (cond s5735.2
                      (some true)
                      ((F_spec_l1Has s5735.1 a5751).bind fun y5767 =>
                        (some (!y5767)).bind fun a5770 =>
                        some a5770)).bind fun (s5760 : Bool) =>
                    (F_spec_l1Put s5735.1 a5751).bind fun y5775 =>
                    some (y5775, s5760)) a5641.2.2.2.length 0 (s5467.1, s5467.2)).bind fun (s5782 : List Int × Bool) =>
                some (s5782.1, s5782.2))).bind fun (s5628 : List Int × Bool) =>
            some (s5628.1, s5628.2)) E.length 0 (s4834.1, false)).bind fun (s5790 : List Int × Bool) =>
        some (.inl (s5790.1, s5790.2)))
      (some (.inr s4834.1)))
    (fun s => Srt s.1 ∧ inRg n s.1 ∧ (∀ y ∈ s.1, Rch E (· ∈ ws) y) ∧ (∀ y ∈ ws, y ∈ s.1) ∧ (s.2 = false → ∀ e ∈ E, ∀ w ∈ edI e, w ∈ s.1 → ∀ v ∈ edO e, v ∈ s.1))
    (fun r => Srt r ∧ inRg n r ∧ ∀ y, y ∈ r ↔ Rch E (· ∈ ws) y)
    (fun s => 2 * (n - s.1.length) + (if s.2 then 1 else 0)) ?_ (s := (r0, true)) ⟨a2, fun x hx => hw x ((a3 x).1 hx), fun y hy => .base ((a3 y).1 hy), fun y hy => (a3 y).2 hy, fun h => by cases h⟩
  · obtain ⟨t, h1, h2, h3, h4⟩ := key
    exact ⟨t, bnd a1 (bnd h1 rfl), h2, h3, h4⟩
  · rintro ⟨s, c⟩ ⟨h1, h2, h3, h4, h5⟩
    dsimp only at h1 h2 h3 h4 h5
    cases c with
    | false =>
      refine .inr ⟨s, rfl, h1, h2, fun y => ⟨h3 y, fun hy => ?_⟩⟩
      exact Rch.sub (T := fun y => y ∈ s) h4 (h5 rfl) hy
    | true =>
      refine .inl ?_
      have pass := forS_rel (n := E.length) (s := (s, false)) (f := fun (k4847 : Nat) (s5467 : List Int × Bool) =>
            ((idxO E ((k4847 : Nat) : Int)).bind fun a5641 =>
              (F_spec_hgMeets a5641.2.2.1 s5467.1).bind fun y5653 =>
              (some (!y5653)).bind fun a5656 =>
              cond a5656
              (some (s5467.1, s5467.2))
              ((forS (fun (k5659 : Nat) (s5735 : List Int × Bool) =>
                    (idxO a5641.2.2.2 ((k5659 : Nat) : Int)).bind fun a5751 =>
                    (cond s5735.2
                      (some true)
                      ((F_spec_l1Has s5735.1 a5751).bind fun y5767 =>
                        (some (!y5767)).bind fun a5770 =>
                        some a5770)).bind fun (s5760 : Bool) =>
                    (F_spec_l1Put s5735.1 a5751).bind fun y5775 =>
                    some (y5775, s5760)) a5641.2.2.2.length 0 (s5467.1, s5467.2)).bind fun (s5782 : List Int × Bool) =>
                some (s5782.1, s5782.2))).bind fun (s5628 : List Int × Bool) =>
            some (s5628.1, s5628.2))
        (fun j r => Srt r.1 ∧ inRg n r.1 ∧ (∀ y ∈ r.1, Rch E (· ∈ ws) y) ∧ (∀ y ∈ ws, y ∈ r.1) ∧ ((r.2 = true ∧ s.length < r.1.length) ∨ (r.2 = false ∧ r.1 = s ∧ ∀ e ∈ E.take j, ∀ w ∈ edI e, w ∈ s → ∀ v ∈ edO e, v ∈ s)))
        ⟨h1, h2, h3, h4, .inr ⟨rfl, rfl, fun e he => by simp at he⟩⟩ ?_
      · obtain ⟨⟨t, c'⟩, p1, p2, p3, p4, p5, p6⟩ := pass
        dsimp only at p2 p3 p4 p5 p6
        refine ⟨(t, c'), bnd p1 rfl, ⟨p2, p3, p4, p5, fun hc => ?_⟩, ?_⟩
        · rcases p6 with ⟨q, _⟩ | ⟨_, rfl, q⟩
          · rw [q] at hc; cases hc
          · rw [List.take_length] at q; exact q
        · have := p2.len p3
          rcases p6 with ⟨rfl, q⟩ | ⟨rfl, rfl, q⟩
          · simp only [if_true]; omega
          · simp
      · rintro j ⟨r, c⟩ hj ⟨r1, r2, r3, r4, r5⟩
        dsimp only at r1 r2 r3 r4 r5 ⊢
        have he := hE _ (List.getElem_mem hj)
        have hmt := meets_iff (a := edI E[j]) (b := r)
        have hmt2 := hgMeets_ (edI E[j]) r
        generalize ((edI E[j]).any fun w => decide (w ∈ r)) = op at hmt hmt2
        cases op with
        | false =>
          have hno : ¬ ∃ w ∈ edI E[j], w ∈ r := fun h => by have := hmt.2 h; cases this
          refine ⟨(r, c), bnd (a := (r, c)) (bnd (idxO_of (List.getElem?_eq_getElem hj)) (bnd hmt2 rfl)) rfl, r1, r2, r3, r4, ?_⟩
          rcases r5 with h | ⟨rfl, rfl, h⟩
          · exact .inl h
          · refine .inr ⟨rfl, rfl, fun e hee w hw hM v hv => ?_⟩
            rw [List.take_add_one, List.getElem?_eq_getElem hj] at hee
            rcases List.mem_append.1 hee with h' | h'
            · exact h e h' w hw hM v hv
            · simp only [Option.toList_some, List.mem_singleton] at h'
              subst h'
              exact (hno ⟨w, hw, hM⟩).elim
        | true =>
          obtain ⟨w0, hw0, hr0⟩ := hmt.1 rfl
          have inner := forS_rel (n := (edO E[j]).length) (s := (r, c)) (f := fun (k5659 : Nat) (s5735 : List Int × Bool) =>
                    (idxO (edO E[j]) ((k5659 : Nat) : Int)).bind fun a5751 =>
                    (cond s5735.2
                      (some true)
                      ((F_spec_l1Has s5735.1 a5751).bind fun y5767 =>
                        (some (!y5767)).bind fun a5770 =>
                        some a5770)).bind fun (s5760 : Bool) =>
                    (F_spec_l1Put s5735.1 a5751).bind fun y5775 =>
                    some (y5775, s5760))
            (fun i q => Srt q.1 ∧ inRg n q.1 ∧ (∀ y ∈ q.1, Rch E (· ∈ ws) y) ∧ (∀ y ∈ r, y ∈ q.1) ∧ (∀ v ∈ (edO E[j]).take i, v ∈ q.1) ∧ ((q.2 = true ∧ s.length < q.1.length) ∨ (q.2 = false ∧ q.1 = s ∧ c = false)))
            ⟨r1, r2, r3, fun _ h => h, fun v hv => by simp at hv, by rcases r5 with h | h; exact .inl h; exact .inr ⟨h.1, h.2.1, h.1⟩⟩ ?_
          · obtain ⟨⟨q, c'⟩, i1, i2, i3, i4, i5, i6, i7⟩ := inner
            dsimp only at i2 i3 i4 i5 i6 i7
            refine ⟨(q, c'), bnd (a := (q, c')) (bnd (idxO_of (List.getElem?_eq_getElem hj)) (bnd hmt2 (stp (cFW rfl (bnd i1 rfl))))) rfl, i2, i3, i4, fun y hy => i5 y (r4 y hy), ?_⟩
            rcases i7 with h | ⟨rfl, rfl, rfl⟩
            · exact .inl h
            · refine .inr ⟨rfl, rfl, ?_⟩
              rcases r5 with ⟨h, _⟩ | ⟨_, rfl, h⟩
              · cases h
              intro e hee w hw hM v hv
              rw [List.take_add_one, List.getElem?_eq_getElem hj] at hee
              rcases List.mem_append.1 hee with h' | h'
              · exact h e h' w hw hM v hv
              · simp only [Option.toList_some, List.mem_singleton] at h'
                subst h'
                exact i6 v (by rw [List.take_length]; exact hv)
          · rintro i ⟨q, c'⟩ hi ⟨q2, q3, q4, q5, q6, q7⟩
            dsimp only at q2 q3 q4 q5 q6 q7 ⊢
            have hv := he.2 _ (List.getElem_mem hi)
            have hmem : (edO E[j])[i] ∈ edO E[j] := List.getElem_mem hi
            have htk : ∀ v ∈ (edO E[j]).take (i + 1), v ∈ (edO E[j]).take i ∨ v = (edO E[j])[i] := fun v hv => by
              rw [List.take_add_one, List.getElem?_eq_getElem hi] at hv
              rcases List.mem_append.1 hv with h | h
              · exact .inl h
              · exact .inr (by simpa using h)
            have hlq := q2.len q3
            obtain ⟨t, t1, t2, t3, t4, t5⟩ := l1Put_ (edO E[j])[i] q2 (by omega)
            have hag : (cond c' (some true) ((F_spec_l1Has q (edO E[j])[i]).bind fun y5767 => (some (!y5767)).bind fun a5770 => some a5770)) = some (c' || !decide ((edO E[j])[i] ∈ q)) := by
              cases c' with
              | true => rfl
              | false => rw [l1Has_]; rfl
            refine ⟨(t, c' || !decide ((edO E[j])[i] ∈ q)), bnd (idxO_of (List.getElem?_eq_getElem hi)) (bnd hag (bnd t1 rfl)), t2, fun y hy => ?_, fun y hy => ?_, fun y hy => (t3 y).2 (.inl (q5 y hy)), fun v hv' => ?_, ?_⟩
            · rcases (t3 y).1 hy with h | h
              · exact q3 y h
              · rw [h]; exact hv
            · rcases (t3 y).1 hy with h | h
              · exact q4 y h
              · rw [h]; exact .step (List.getElem_mem hj) hw0 (r3 _ hr0) hmem
            · rcases htk v hv' with h | h
              · exact (t3 v).2 (.inl (q6 v h))
              · exact (t3 v).2 (.inr h)
            · by_cases hin : (edO E[j])[i] ∈ q
              · rw [dT hin, t4 hin, Bool.not_true, Bool.or_false]; exact q7
              · rw [dF hin, Bool.not_false, Bool.or_true]
                have := t5 hin
                refine .inl ⟨rfl, ?_⟩
                show s.length < t.length
                rcases q7 with ⟨_, h⟩ | ⟨_, h, _⟩
                · omega
                · rw [h] at this; omega

end Go.Proofs.Ytgfnophfoccamaa
