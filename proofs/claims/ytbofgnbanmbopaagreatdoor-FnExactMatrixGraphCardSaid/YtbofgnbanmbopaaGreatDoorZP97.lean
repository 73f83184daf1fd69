/-
  Plain laws: numbers by the place in a list, the edges at each wire's sides; the walk that gives canonical numbers, over plain lists, and the reference's walk. No program in sight. No condition.
-/
import Derived.Test.YtbofgnbanmbopaaGreatDoorZP36
namespace Go.Proofs.YtbofgnbanmbopaaGreatDoor
set_option linter.unusedVariables false

/-! ### places in a list -/
def plcF : List Int → Nat → Int → Int
  | [], _, _ => -1
  | a :: l, i, x => if a = x then (i : Int) else plcF l (i + 1) x
/-- the place of x in l, or -1 -/
def plc (l : List Int) (x : Int) : Int := plcF l 0 x
theorem plcF_mem : ∀ {l : List Int} {i : Nat} {x : Int}, x ∈ l → (i : Int) ≤ plcF l i x ∧ plcF l i x < (i : Int) + l.length
  | a :: l, i, x, h => by
    unfold plcF
    by_cases ha : a = x
    · rw [if_pos ha, List.length_cons]; omega
    · rw [if_neg ha]
      have := plcF_mem (i := i + 1) ((List.mem_cons.1 h).resolve_left fun e => ha e.symm)
      rw [List.length_cons]; omega
theorem plcF_not : ∀ {l : List Int} {i : Nat} {x : Int}, ¬ x ∈ l → plcF l i x = -1
  | [], _, _, _ => rfl
  | a :: l, i, x, h => by
    rw [List.mem_cons, not_or] at h
    unfold plcF
    rw [if_neg (fun e => h.1 e.symm)]
    exact plcF_not h.2
theorem plcF_snoc : ∀ {l : List Int} {i : Nat} {x y : Int}, ¬ x ∈ l → plcF (l ++ [x]) i y = if y = x then ((i + l.length : Nat) : Int) else plcF l i y
  | [], i, x, y, _ => by
    show (if x = y then (i : Int) else -1) = _
    by_cases h : y = x
    · rw [if_pos h.symm, if_pos h]; rfl
    · rw [if_neg (fun e => h e.symm), if_neg h]; rfl
  | a :: l, i, x, y, h => by
    rw [List.mem_cons, not_or] at h
    show (if a = y then (i : Int) else plcF (l ++ [x]) (i + 1) y) = if y = x then _ else if a = y then (i : Int) else plcF l (i + 1) y
    rw [plcF_snoc h.2]
    by_cases hy : y = x
    · rw [if_neg (fun e => h.1 (hy.symm.trans e.symm)), if_pos hy, if_pos hy, List.length_cons]
      congr 1; omega
    · rw [if_neg hy, if_neg hy]
theorem plc_mem {l : List Int} {x : Int} (h : x ∈ l) : 0 ≤ plc l x ∧ plc l x < l.length := by
  have := plcF_mem (i := 0) h
  unfold plc; omega
theorem plc_not {l : List Int} {x : Int} (h : ¬ x ∈ l) : plc l x = -1 := plcF_not h
theorem plc_snoc {l : List Int} {x y : Int} (h : ¬ x ∈ l) : plc (l ++ [x]) y = if y = x then ((l.length : Nat) : Int) else plc l y := by
  unfold plc
  rw [plcF_snoc h, Nat.zero_add]
theorem plc_neg {l : List Int} {x : Int} : plc l x < 0 ↔ ¬ x ∈ l := by
  constructor
  · intro h hx; have := plc_mem hx; omega
  · intro h; rw [plc_not h]; omega

/-! ### wires in order -/
def giv1 (o : List Int) (w : Int) : List Int := if w ∈ o then o else o ++ [w]
def giv (o l : List Int) : List Int := l.foldl giv1 o
structure Od (n : Nat) (o : List Int) : Prop where
  r : inRg n o
  d : o.Nodup
theorem Od.le {n : Nat} {o : List Int} (h : Od n o) : o.length ≤ n := by
  rw [← seenN_nodup h.r h.d]; exact seenN_le _ _
theorem Od.giv1 {n : Nat} {o : List Int} {w : Int} (h : Od n o) (hw : 0 ≤ w ∧ w < (n : Int)) : Od n (giv1 o w) := by
  unfold Go.Proofs.YtbofgnbanmbopaaGreatDoor.giv1
  split
  · exact h
  · exact ⟨inRg_app h.r (fun x hx => by simp at hx; subst hx; exact hw), nodup_snoc.2 ⟨h.d, ‹_›⟩⟩
theorem Od.giv {n : Nat} : ∀ {l : List Int} {o : List Int}, Od n o → inRg n l → Od n (giv o l)
  | [], _, h, _ => h
  | w :: l, o, h, hl => Od.giv (l := l) (h.giv1 (hl w (.head _))) (fun x hx => hl x (.tail _ hx))
theorem giv1_mem {o : List Int} {w x : Int} : x ∈ giv1 o w ↔ x ∈ o ∨ x = w := by
  unfold giv1
  split
  · constructor
    · exact .inl
    · rintro (h | rfl)
      · exact h
      · assumption
  · simp
theorem giv_mem : ∀ {l o : List Int} {x : Int}, x ∈ giv o l ↔ x ∈ o ∨ x ∈ l
  | [], o, x => by simp [giv]
  | w :: l, o, x => by
    show x ∈ giv (giv1 o w) l ↔ _
    rw [giv_mem, giv1_mem, List.mem_cons, or_assoc]
theorem giv_app (o a b : List Int) : giv o (a ++ b) = giv (giv o a) b := List.foldl_append
theorem giv1_pre (o : List Int) (w : Int) : ∃ r, giv1 o w = o ++ r := by
  unfold giv1
  split
  · exact ⟨[], by simp⟩
  · exact ⟨[w], rfl⟩
theorem giv_pre : ∀ (l o : List Int), ∃ r, giv o l = o ++ r
  | [], o => ⟨[], by simp [giv]⟩
  | w :: l, o => by
    obtain ⟨r, h⟩ := giv1_pre o w
    obtain ⟨r', h'⟩ := giv_pre l (giv1 o w)
    exact ⟨r ++ r', by show giv (giv1 o w) l = _; rw [h', h, List.append_assoc]⟩
theorem cnGive_ {n : Nat} (hn : n ≤ 1000) {o l : List Int} (ho : Od n o) (hl : inRg n l) : F_spec_cnGive (tabl n fun k => plc o k) o l = some (tabl n (fun k => plc (giv o l) k), giv o l) := by
  have hm : maxN = 1099511627776 := rfl
  have key := forS_is (n := l.length) (fun j => ((tabl n fun k => plc (giv o (l.take j)) k), giv o (l.take j))) (f := fun (k4 : Nat) (s84 : List Int × List Int) =>
      (idxO l ((k4 : Nat) : Int)).bind fun a100 =>
      (idxO s84.1 a100).bind fun a108 =>
      (some (decide (a108 < 0))).bind fun a110 =>
      cond a110
      ((setO s84.1 a100 ((s84.2.length : Nat) : Int)).bind fun a120 =>
        (appO s84.2 [a100]).bind fun a126 =>
        some (a120, a126))
      (some (s84.1, s84.2))) (fun j hj => by
    have hOd : Od n (giv o (l.take j)) := ho.giv (fun x hx => hl x (List.mem_of_mem_take hx))
    have hle := hOd.le
    have hr := hl _ (List.getElem_mem hj)
    have hs : giv o (l.take (j + 1)) = giv1 (giv o (l.take j)) l[j] := by
      rw [List.take_add_one, List.getElem?_eq_getElem hj]
      exact giv_app _ _ _
    obtain ⟨m, hme⟩ : ∃ m : Nat, l[j] = (m : Int) := ⟨l[j].toNat, by omega⟩
    rw [hs]
    refine bnd (idxO_of (List.getElem?_eq_getElem hj)) ?_
    rw [hme]
    refine bnd (tabl_idx _ (by omega)) (stp ?_)
    unfold giv1
    by_cases hin : (m : Int) ∈ giv o (l.take j)
    · rw [if_pos hin]
      exact cFW (dF (fun h => plc_neg.1 h hin)) rfl
    · rw [if_neg hin]
      refine cTW (dT (plc_neg.2 hin)) (bnd (tabl_setO _ _ (by omega)) (bnd (appO_of (by simp; omega)) (congrArg some (Prod.ext (tabl_ext fun k hk => ?_) rfl))))
      rw [plc_snoc hin]
      by_cases hkm : k = m
      · rw [if_pos hkm, if_pos (by omega)]
      · rw [if_neg hkm, if_neg (by omega)])
  rw [List.take_length] at key
  exact bnd key rfl
theorem cnNone_ {n : Nat} (hn : n ≤ 1000) : F_spec_cnNone (n : Int) = some (tabl n fun _ => (-1 : Int)) := by
  have hm : maxN = 1099511627776 := rfl
  refine bnd (tabl_make _ (by omega)) ?_
  rw [tabl_len]
  exact bnd (fill_loop (fun _ => (-1 : Int)) (fun _ => 0) (fun j hj => bnd (tabl_setO _ _ hj) rfl)) rfl
theorem repeated_ {n : Nat} (hn : n ≤ 1000) (a : Int) : F_impl_repeated a (n : Int) = some (tabl n fun _ => a) := by
  have hm : maxN = 1099511627776 := rfl
  refine bnd (zeros_ (by omega)) ?_
  rw [tabl_rep, tabl_len]
  exact bnd (fill_loop (fun _ => a) (fun _ => 0) (fun j hj => bnd (tabl_setO _ _ hj) rfl)) rfl

/-! ### the edges at a wire's sides -/
def whrF (s : Edg → List Int) : List Edg → Nat → Int → Int → Int
  | [], _, _, a => a
  | e :: E, i, x, a => whrF s E (i + 1) x (if x ∈ s e then (i : Int) else a)
/-- the last edge with x on a side, or -1 -/
def whr (s : Edg → List Int) (E : List Edg) (x : Int) : Int := whrF s E 0 x (-1)
theorem whrF_snoc {s : Edg → List Int} : ∀ {E : List Edg} {i : Nat} {x a : Int} {e : Edg}, whrF s (E ++ [e]) i x a = if x ∈ s e then ((i + E.length : Nat) : Int) else whrF s E i x a
  | [], i, x, a, e => rfl
  | d :: E, i, x, a, e => by
    show whrF s (E ++ [e]) (i + 1) x (if x ∈ s d then (i : Int) else a) = if x ∈ s e then _ else whrF s E (i + 1) x (if x ∈ s d then (i : Int) else a)
    rw [whrF_snoc, List.length_cons]
    congr 2; omega
theorem whr_take {s : Edg → List Int} {E : List Edg} {j : Nat} (hj : j < E.length) (x : Int) : whr s (E.take (j + 1)) x = if x ∈ s E[j] then (j : Int) else whr s (E.take j) x := by
  rw [List.take_add_one, List.getElem?_eq_getElem hj]
  unfold whr
  rw [show (some E[j]).toList = [E[j]] from rfl, whrF_snoc, List.length_take, Nat.min_eq_left (by omega), Nat.zero_add]
theorem whr_rng (s : Edg → List Int) (E : List Edg) (x : Int) : (whr s E x = -1 ∧ ∀ e ∈ E, ¬ x ∈ s e) ∨ ∃ i, ∃ h : i < E.length, whr s E x = (i : Int) ∧ x ∈ s E[i] := by
  have key : ∀ j, j ≤ E.length → (whr s (E.take j) x = -1 ∧ ∀ e ∈ E.take j, ¬ x ∈ s e) ∨ ∃ i, ∃ h : i < E.length, whr s (E.take j) x = (i : Int) ∧ x ∈ s E[i] := by
    intro j
    induction j with
    | zero => intro _; exact .inl ⟨rfl, fun e he => by simp at he⟩
    | succ j ih =>
      intro hj
      rw [whr_take (by omega)]
      by_cases h : x ∈ s E[j]
      · rw [if_pos h]; exact .inr ⟨j, by omega, rfl, h⟩
      · rw [if_neg h]
        rcases ih (by omega) with ⟨h1, h2⟩ | h1
        · refine .inl ⟨h1, fun e he => ?_⟩
          rw [List.take_add_one, List.getElem?_eq_getElem (by omega)] at he
          rcases List.mem_append.1 he with he | he
          · exact h2 e he
          · simp at he; subst he; exact h
        · exact .inr h1
  have := key E.length (Nat.le_refl _)
  rwa [List.take_length] at this
theorem setv_loop {n : Nat} (l : List Int) (v : Int) (f : Nat → Int) (hl : inRg n l) {g : Nat → List Int → Option (List Int)} (hg : ∀ k s, g k s = ((idxO l ((k : Nat) : Int)).bind fun a => (setO s a v).bind fun b => some b)) :
    forS g l.length 0 (tabl n f) = some (tabl n fun k => if (k : Int) ∈ l then v else f k) := by
  have key := forS_is (f := g) (n := l.length) (fun j => tabl n fun k => if (k : Int) ∈ l.take j then v else f k) (fun j hj => by
    rw [hg]
    have hr := hl _ (List.getElem_mem hj)
    obtain ⟨m, hme⟩ : ∃ m : Nat, l[j] = (m : Int) := ⟨l[j].toNat, by omega⟩
    refine bnd (idxO_of (List.getElem?_eq_getElem hj)) ?_
    rw [hme]
    refine bnd (tabl_setO _ _ (by omega)) (congrArg some (tabl_ext fun k hk => ?_))
    rw [List.take_add_one, List.getElem?_eq_getElem hj, hme]
    by_cases h : k = m
    · subst h; rw [if_pos rfl, if_pos (by simp)]
    · rw [if_neg h]
      have : ¬ (k : Int) = (m : Int) := by omega
      simp [this])
  rw [List.take_length] at key
  have e0 : (tabl n fun k => if (k : Int) ∈ l.take 0 then v else f k) = tabl n f := tabl_ext fun k hk => by simp
  rw [e0] at key
  exact key
theorem mtOrigins_ {n : Nat} (hn : n ≤ 1000) {E : List Edg} {I O : List Int} (hE : edRg n E) : F_spec_mtOrigins ((n : Int), E, I, O) = some (tabl n fun k => whr edO E k) := by
  have hm : maxN = 1099511627776 := rfl
  refine bnd (tabl_make _ (by omega)) ?_
  rw [tabl_len]
  refine bnd (fill_loop (fun _ => (-1 : Int)) (fun _ => 0) (fun j hj => bnd (tabl_setO _ _ hj) rfl)) ?_
  have key := forS_is (n := E.length) (fun j => tabl n fun k => whr edO (E.take j) k) (f := fun (k57 : Nat) (s236 : List Int) =>
      (idxO E ((k57 : Nat) : Int)).bind fun a251 =>
      (forS (fun (k263 : Nat) (s302 : List Int) =>
          (idxO a251.2.2.2 ((k263 : Nat) : Int)).bind fun a317 =>
          (setO s302 a317 ((k57 : Nat) : Int)).bind fun a325 =>
          some a325) a251.2.2.2.length 0 s236).bind fun (s330 : List Int) =>
      some s330) (fun j hj => by
    refine bnd (idxO_of (List.getElem?_eq_getElem hj)) (bnd (setv_loop (edO E[j]) _ _ (hE _ (List.getElem_mem hj)).2 (fun _ _ => rfl)) (congrArg some (tabl_ext fun k hk => ?_)))
    rw [whr_take hj])
  rw [List.take_length] at key
  exact bnd key rfl
theorem mtEnds_ {n : Nat} (hn : n ≤ 1000) {E : List Edg} {I O : List Int} (hE : edRg n E) : F_spec_mtEnds ((n : Int), E, I, O) = some (tabl n fun k => whr edI E k) := by
  have hm : maxN = 1099511627776 := rfl
  refine bnd (tabl_make _ (by omega)) ?_
  rw [tabl_len]
  refine bnd (fill_loop (fun _ => (-1 : Int)) (fun _ => 0) (fun j hj => bnd (tabl_setO _ _ hj) rfl)) ?_
  have key := forS_is (n := E.length) (fun j => tabl n fun k => whr edI (E.take j) k) (f := fun (k57 : Nat) (s236 : List Int) =>
      (idxO E ((k57 : Nat) : Int)).bind fun a251 =>
      (forS (fun (k263 : Nat) (s302 : List Int) =>
          (idxO a251.2.2.1 ((k263 : Nat) : Int)).bind fun a317 =>
          (setO s302 a317 ((k57 : Nat) : Int)).bind fun a325 =>
          some a325) a251.2.2.1.length 0 s236).bind fun (s330 : List Int) =>
      some s330) (fun j hj => by
    refine bnd (idxO_of (List.getElem?_eq_getElem hj)) (bnd (setv_loop (edI E[j]) _ _ (hE _ (List.getElem_mem hj)).1 (fun _ _ => rfl)) (congrArg some (tabl_ext fun k hk => ?_)))
    rw [whr_take hj])
  rw [List.take_length] at key
  exact bnd key rfl
theorem gends_ {n : Nat} (hn : n ≤ 1000) {E : List Edg} {I O : List Int} (hE : edRg n E) : F_impl_Graph_ends ((n : Int), E, I, O) = some (tabl n (fun k => whr edO E k), tabl n (fun k => whr edI E k)) := by
  refine bnd (bnd (repeated_ hn _) (bnd (repeated_ hn _) rfl)) ?_
  have key := forS_is (n := E.length) (fun j => (tabl n (fun k => whr edO (E.take j) k), tabl n (fun k => whr edI (E.take j) k))) (f := fun (k159 : Nat) (s476 : List Int × List Int) =>
      (idxO E ((k159 : Nat) : Int)).bind fun a491 =>
      (forS (fun (k503 : Nat) (s542 : List Int) =>
          (idxO a491.2.2.2 ((k503 : Nat) : Int)).bind fun a557 =>
          (setO s542 a557 ((k159 : Nat) : Int)).bind fun a565 =>
          some a565) a491.2.2.2.length 0 s476.1).bind fun (s570 : List Int) =>
      (forS (fun (k572 : Nat) (s611 : List Int) =>
          (idxO a491.2.2.1 ((k572 : Nat) : Int)).bind fun a626 =>
          (setO s611 a626 ((k159 : Nat) : Int)).bind fun a634 =>
          some a634) a491.2.2.1.length 0 s476.2).bind fun (s639 : List Int) =>
      some (s570, s639)) (fun j hj => by
    have he := hE _ (List.getElem_mem hj)
    refine bnd (idxO_of (List.getElem?_eq_getElem hj)) (bnd (setv_loop (edO E[j]) _ _ he.2 (fun _ _ => rfl)) (bnd (setv_loop (edI E[j]) _ _ he.1 (fun _ _ => rfl)) (congrArg some (Prod.ext (tabl_ext fun k hk => ?_) (tabl_ext fun k hk => ?_)))))
    · rw [whr_take hj]
    · rw [whr_take hj])
  rw [List.take_length] at key
  exact bnd key rfl

/-! ### the walk -/
/-- wires in order, edges in order -/
abbrev WS := List Int × List Int
def stE (E : List Edg) (s : WS) (e : Int) : WS := if e < 0 ∨ e ∈ s.2 then s else match E[e.toNat]? with
  | some x => (giv s.1 (edI x ++ edO x), s.2 ++ [e])
  | none => s
def stW (E : List Edg) (s : WS) (w : Int) : WS := stE E (stE E s (whr edI E w)) (whr edO E w)
def wlk (E : List Edg) (s0 : WS) : Nat → WS
  | 0 => s0
  | k + 1 => match (wlk E s0 k).1[k]? with
    | some w => stW E (wlk E s0 k) w
    | none => wlk E s0 k
structure Ws (n m : Nat) (s : WS) : Prop where
  o : Od n s.1
  e : Od m s.2
theorem stE_ok {n : Nat} {E : List Edg} (hE : edRg n E) {s : WS} (h : Ws n E.length s) {e : Int} (he : e = -1 ∨ 0 ≤ e ∧ e < (E.length : Int)) : Ws n E.length (stE E s e) := by
  unfold stE
  split
  · exact h
  · rename_i hn
    rw [not_or] at hn
    split
    · rename_i x hx
      have hm := List.mem_of_getElem? hx
      exact ⟨h.o.giv (inRg_app (hE x hm).1 (hE x hm).2), ⟨inRg_app h.e.r (fun y hy => by simp at hy; subst hy; omega), nodup_snoc.2 ⟨h.e.d, hn.2⟩⟩⟩
    · exact h
theorem whr_ok (s : Edg → List Int) (E : List Edg) (x : Int) : whr s E x = -1 ∨ 0 ≤ whr s E x ∧ whr s E x < (E.length : Int) := by
  rcases whr_rng s E x with ⟨h, _⟩ | ⟨i, hi, h, _⟩
  · exact .inl h
  · exact .inr (by omega)
theorem stW_ok {n : Nat} {E : List Edg} (hE : edRg n E) {s : WS} (h : Ws n E.length s) (w : Int) : Ws n E.length (stW E s w) := stE_ok hE (stE_ok hE h (whr_ok _ _ _)) (whr_ok _ _ _)
theorem wlk_ok {n : Nat} {E : List Edg} (hE : edRg n E) {s : WS} (h : Ws n E.length s) : ∀ k, Ws n E.length (wlk E s k)
  | 0 => h
  | k + 1 => by
    show Ws n E.length (match (wlk E s k).1[k]? with
      | some w => stW E (wlk E s k) w
      | none => wlk E s k)
    split
    · exact stW_ok hE (wlk_ok hE h k) _
    · exact wlk_ok hE h k
theorem stE_pre (E : List Edg) (s : WS) (e : Int) : ∃ r, (stE E s e).1 = s.1 ++ r := by
  unfold stE
  split
  · exact ⟨[], by simp⟩
  · split
    · exact giv_pre _ _
    · exact ⟨[], by simp⟩
theorem stW_len (E : List Edg) (s : WS) (w : Int) : s.1.length ≤ (stW E s w).1.length := by
  obtain ⟨r, h⟩ := stE_pre E s (whr edI E w)
  obtain ⟨r', h'⟩ := stE_pre E (stE E s (whr edI E w)) (whr edO E w)
  unfold stW
  rw [h', h]; simp
/-- when all wires are walked, the walk stays as it is -/
theorem wlk_stay {E : List Edg} {s : WS} {k : Nat} (h : (wlk E s k).1.length ≤ k) : ∀ d, wlk E s (k + d) = wlk E s k
  | 0 => rfl
  | d + 1 => by
    have ih := wlk_stay h d
    show (match (wlk E s (k + d)).1[k + d]? with
      | some w => stW E (wlk E s (k + d)) w
      | none => wlk E s (k + d)) = _
    rw [ih, List.getElem?_eq_none (by omega)]
theorem wlk_end {n : Nat} {E : List Edg} (hE : edRg n E) {s : WS} (h : Ws n E.length s) {k : Nat} (hk : (wlk E s k).1.length ≤ k) (hkn : k ≤ n) : wlk E s n = wlk E s k := by
  have := wlk_stay hk (n - k)
  rwa [show k + (n - k) = n by omega] at this

/-! ### the reference's walk -/
theorem forS_st1 {σ : Type} {f : Nat → σ → Option σ} {n k : Nat} {s s' : σ} (h : f k s = some s') : forS f (n + 1) k s = forS f n (k + 1) s' := by
  show (f k s).bind _ = _
  rw [h]; rfl
theorem cnWalk_ {n : Nat} (hn : n ≤ 1000) {E : List Edg} {I O : List Int} (hE : edRg n E) (hm : E.length ≤ 1000) {s : WS} (hs : Ws n E.length s) :
    F_spec_cnWalk ((n : Int), E, I, O) (tabl n fun k => plc s.1 k) (tabl E.length fun k => plc s.2 k) s.1 ((s.2.length : Nat) : Int) =
      some (tabl n (fun k => plc (wlk E s n).1 k), tabl E.length (fun k => plc (wlk E s n).2 k), (((wlk E s n).2.length : Nat) : Int), (wlk E s n).1) := by
  refine bnd (mtOrigins_ hn hE) (bnd (mtEnds_ hn hE) ?_)
  -- one edge
  have edge : ∀ (t : WS) (e : Int), Ws n E.length t → (e = -1 ∨ 0 ≤ e ∧ e < (E.length : Int)) → ∀ l : List Int, ∀ k : Nat, idxO l (k : Int) = some e →
      (((idxO l ((k : Nat) : Int)).bind fun a3922 =>
              ((some (decide (a3922 < 0))).bind fun a3944 =>
                cond a3944
                (some true)
                ((idxO (tabl E.length fun k => plc t.2 k) a3922).bind fun a3953 =>
                  (some (decide ((0 : Int) ≤ a3953))).bind fun a3955 =>
                  some a3955)).bind fun (s3938 : Bool) =>
              cond s3938
              (some ((tabl n fun k => plc t.1 k), (tabl E.length fun k => plc t.2 k), t.1, ((t.2.length : Nat) : Int)))
              ((setO (tabl E.length fun k => plc t.2 k) a3922 ((t.2.length : Nat) : Int)).bind fun a3967 =>
                (addO ((t.2.length : Nat) : Int) 1).bind fun a3970 =>
                (idxO E a3922).bind fun a3978 =>
                (F_spec_cnGive (tabl n fun k => plc t.1 k) t.1 a3978.2.2.1).bind fun y3986 =>
                (idxO E a3922).bind fun a3997 =>
                (F_spec_cnGive y3986.1 y3986.2 a3997.2.2.2).bind fun y4005 =>
                some (y4005.1, a3967, y4005.2, a3970))).bind fun (s3909 : List Int × List Int × List Int × Int) =>
            some (s3909.1, s3909.2.1, s3909.2.2.1, s3909.2.2.2)) =
        some ((tabl n fun k => plc (stE E t e).1 k), (tabl E.length fun k => plc (stE E t e).2 k), (stE E t e).1, (((stE E t e).2.length : Nat) : Int)) := by
    intro t e ht he l k hl
    refine bnd (a := ((tabl n fun k => plc (stE E t e).1 k), (tabl E.length fun k => plc (stE E t e).2 k), (stE E t e).1, (((stE E t e).2.length : Nat) : Int))) (bnd hl ?_) rfl
    by_cases h0 : e < 0
    · have : stE E t e = t := by unfold stE; rw [if_pos (.inl h0)]
      rw [this]
      exact bnd (a := true) (stp (cTW (dT h0) rfl)) rfl
    obtain ⟨i, rfl⟩ : ∃ i : Nat, e = (i : Int) := ⟨e.toNat, by omega⟩
    have hi : i < E.length := by omega
    have hidx := tabl_idx (fun k => plc t.2 (k : Int)) hi
    by_cases hin : (i : Int) ∈ t.2
    · have : stE E t (i : Int) = t := by unfold stE; rw [if_pos (.inr hin)]
      rw [this]
      have := plc_mem hin
      exact bnd (a := true) (stp (cFW (dF h0) (bnd hidx (stp (congrArg some (dT (by omega))))))) rfl
    · have hst : stE E t (i : Int) = (giv (giv t.1 (edI E[i])) (edO E[i]), t.2 ++ [(i : Int)]) := by
        unfold stE
        rw [if_neg (by rw [not_or]; exact ⟨h0, hin⟩), Int.toNat_natCast, List.getElem?_eq_getElem hi]
        show (giv t.1 (edI E[i] ++ edO E[i]), _) = _
        rw [giv_app]
      have hE' := hE _ (List.getElem_mem hi)
      have hle := ht.e.le
      have hpn := plc_neg.2 hin
      rw [hst]
      refine bnd (a := false) (stp (cFW (dF h0) (bnd hidx (stp (congrArg some (dF (by omega))))))) ?_
      refine bnd (tabl_setO _ _ hi) (bnd (addO_of (by omega) (by omega)) (bnd (idxO_of (List.getElem?_eq_getElem hi)) (bnd (cnGive_ hn ht.o hE'.1) (bnd (idxO_of (List.getElem?_eq_getElem hi)) (bnd (cnGive_ hn (ht.o.giv hE'.1) hE'.2) ?_)))))
      refine congrArg some (Prod.ext rfl (Prod.ext (tabl_ext fun k hk => ?_) (Prod.ext rfl ?_)))
      · rw [plc_snoc hin]
        by_cases hki : k = i
        · rw [if_pos hki, if_pos (by omega)]
        · rw [if_neg hki, if_neg (by omega)]
      · simp
  obtain ⟨t, h1, h2⟩ := whileO_num (f := fun (s3349 : List Int × List Int × Int × List Int × Int) =>
      (some (decide (s3349.2.2.1 < ((s3349.2.2.2.1.length : Nat) : Int)))).bind fun a3359 =>
      cond a3359
      ((idxO s3349.2.2.2.1 s3349.2.2.1).bind fun a3371 =>
        (idxO s3349.2.2.2.1 s3349.2.2.1).bind fun a3379 =>
        (idxO (tabl n fun k => whr edI E k) a3371).bind fun a3387 =>
        (idxO (tabl n fun k => whr edO E k) a3379).bind fun a3395 =>
        (forS (fun (k3400 : Nat) (s3804 : List Int × List Int × List Int × Int) =>
            ((idxO [a3387, a3395] ((k3400 : Nat) : Int)).bind fun a3922 =>
              ((some (decide (a3922 < 0))).bind fun a3944 =>
                cond a3944
                (some true)
                ((idxO s3804.2.1 a3922).bind fun a3953 =>
                  (some (decide ((0 : Int) ≤ a3953))).bind fun a3955 =>
                  some a3955)).bind fun (s3938 : Bool) =>
              cond s3938
              (some (s3804.1, s3804.2.1, s3804.2.2.1, s3804.2.2.2))
              ((setO s3804.2.1 a3922 s3804.2.2.2).bind fun a3967 =>
                (addO s3804.2.2.2 1).bind fun a3970 =>
                (idxO E a3922).bind fun a3978 =>
                (F_spec_cnGive s3804.1 s3804.2.2.1 a3978.2.2.1).bind fun y3986 =>
                (idxO E a3922).bind fun a3997 =>
                (F_spec_cnGive y3986.1 y3986.2 a3997.2.2.2).bind fun y4005 =>
                some (y4005.1, a3967, y4005.2, a3970))).bind fun (s3909 : List Int × List Int × List Int × Int) =>
            some (s3909.1, s3909.2.1, s3909.2.2.1, s3909.2.2.2)) ([a3387, a3395].length) 0 (s3349.1, s3349.2.1, s3349.2.2.2.1, s3349.2.2.2.2)).bind fun (s4015 : List Int × List Int × List Int × Int) =>
        (addO s3349.2.2.1 1).bind fun a4018 =>
        some (.inl (s4015.1, s4015.2.1, a4018, s4015.2.2.1, s4015.2.2.2)))
      (some (.inr (s3349.1, s3349.2.1, s3349.2.2.2.1, s3349.2.2.2.2))))
    (fun j u => j ≤ (wlk E s j).1.length ∧ u = ((tabl n fun k => plc (wlk E s j).1 k), (tabl E.length fun k => plc (wlk E s j).2 k), (j : Int), (wlk E s j).1, (((wlk E s j).2.length : Nat) : Int)))
    (fun t => t = ((tabl n fun k => plc (wlk E s n).1 k), (tabl E.length fun k => plc (wlk E s n).2 k), (wlk E s n).1, (((wlk E s n).2.length : Nat) : Int))) n (by
    rintro j u hjn ⟨hj, rfl⟩
    have hok := wlk_ok hE hs j
    by_cases hlt : j < (wlk E s j).1.length
    · have hle := hok.o.le
      refine .inl ⟨_, stp (cTW (dT (by dsimp only; omega)) ?_), ⟨?_, rfl⟩, by omega⟩
      · have hr := hok.o.r _ (List.getElem_mem hlt)
        obtain ⟨w, hw⟩ : ∃ w : Nat, (wlk E s j).1[j] = (w : Int) := ⟨((wlk E s j).1[j]).toNat, by omega⟩
        have hget : idxO (wlk E s j).1 (j : Int) = some (w : Int) := by rw [← hw]; exact idxO_of (List.getElem?_eq_getElem hlt)
        have hstep : wlk E s (j + 1) = stW E (wlk E s j) (w : Int) := by
          show (match (wlk E s j).1[j]? with
            | some w => stW E (wlk E s j) w
            | none => wlk E s j) = _
          rw [List.getElem?_eq_getElem hlt, hw]
        refine bnd hget (bnd hget (bnd (tabl_idx _ (by omega)) (bnd (tabl_idx _ (by omega)) ?_)))
        have ht1 := stE_ok hE hok (whr_ok edI E w)
        refine bnd (a := ((tabl n fun k => plc (stW E (wlk E s j) w).1 k), (tabl E.length fun k => plc (stW E (wlk E s j) w).2 k), (stW E (wlk E s j) w).1, (((stW E (wlk E s j) w).2.length : Nat) : Int))) ?_ (bnd (addO_of (by dsimp only; omega) (by dsimp only; omega)) ?_)
        · show forS _ 2 0 _ = _
          refine (forS_st1 (edge (wlk E s j) (whr edI E w) hok (whr_ok _ _ _) _ 0 rfl)).trans ?_
          exact (forS_st1 (edge _ (whr edO E w) ht1 (whr_ok _ _ _) _ 1 rfl)).trans rfl
        · rw [hstep]; rfl
      · rw [show wlk E s (j + 1) = stW E (wlk E s j) (wlk E s j).1[j] by
          show (match (wlk E s j).1[j]? with
            | some w => stW E (wlk E s j) w
            | none => wlk E s j) = _
          rw [List.getElem?_eq_getElem hlt]]
        have := stW_len E (wlk E s j) (wlk E s j).1[j]
        omega
    · refine .inr ⟨_, stp (cFW (dF (by dsimp only; omega)) rfl), ?_⟩
      rw [wlk_end hE hs (k := j) (by omega) hjn]) (s := ((tabl n fun k => plc s.1 k), (tabl E.length fun k => plc s.2 k), 0, s.1, ((s.2.length : Nat) : Int))) ⟨Nat.zero_le _, rfl⟩
  subst h2
  exact bnd h1 rfl
/-- where the walk begins -/
def w0S (I O : List Int) : WS := (giv (giv [] I) O, [])
theorem od_nil (n : Nat) : Od n [] := ⟨(fun x hx => by cases hx), List.nodup_nil⟩
theorem w0_ok {n m : Nat} {I O : List Int} (hI : inRg n I) (hO : inRg n O) : Ws n m (w0S I O) := ⟨((od_nil n).giv hI).giv hO, od_nil m⟩
/-- all of the walk -/
def walk (n : Nat) (g : Gra) : WS := wlk g.2.1 (w0S g.2.2.1 g.2.2.2) n
theorem cnOpen_ {n : Nat} (hn : n ≤ 1000) {E : List Edg} {I O : List Int} (hE : edRg n E) (hI : inRg n I) (hO : inRg n O) (hm : E.length ≤ 1000) :
    F_spec_cnOpen ((n : Int), E, I, O) = some (tabl n (fun k => plc (walk n ((n : Int), E, I, O)).1 k), tabl E.length (fun k => plc (walk n ((n : Int), E, I, O)).2 k), (walk n ((n : Int), E, I, O)).1, (((walk n ((n : Int), E, I, O)).2.length : Nat) : Int)) := by
  have h1 := (od_nil n).giv hI
  refine bnd (cnNone_ hn) (bnd (cnNone_ hm) (bnd (cnGive_ hn (od_nil n) hI) (bnd (cnGive_ hn h1 hO) ?_)))
  exact bnd (cnWalk_ hn hE hm (w0_ok hI hO)) rfl
end Go.Proofs.YtbofgnbanmbopaaGreatDoor
namespace Go.Proofs.YtbofgnbanmbopaaGreatDoor
set_option linter.unusedVariables false

/-! ### maps that number a list's elements -/
def enF : List Int → Nat → List (Int × Int)
  | [], _ => []
  | a :: l, i => (a, (i : Int)) :: enF l (i + 1)
def en (l : List Int) : MI := ⟨enF l 0⟩
theorem enF_len : ∀ (l : List Int) (i : Nat), (enF l i).length = l.length
  | [], _ => rfl
  | a :: l, i => congrArg (· + 1) (enF_len l (i + 1))
theorem enF_keys : ∀ (l : List Int) (i : Nat), (enF l i).map (·.1) = l
  | [], _ => rfl
  | a :: l, i => congrArg (a :: ·) (enF_keys l (i + 1))
theorem enF_has : ∀ (l : List Int) (i : Nat) (x : Int), hasL (enF l i) x = decide (x ∈ l)
  | [], _, x => by simp [hasL, enF]
  | a :: l, i, x => by
    have ih := enF_has l (i + 1) x
    unfold hasL at ih ⊢
    show (decide (a = x) || (enF l (i + 1)).any _) = _
    rw [ih]
    by_cases h : a = x
    · simp [h]
    · have : ¬ x = a := fun e => h e.symm
      simp [h, this]
theorem en_has (l : List Int) (x : Int) : hasM (en l) x = decide (x ∈ l) := enF_has l 0 x
theorem enF_put : ∀ {l : List Int} {i : Nat} {x : Int}, ¬ x ∈ l → putL (enF l i) x ((i + l.length : Nat) : Int) = enF (l ++ [x]) i
  | [], i, x, _ => rfl
  | a :: l, i, x, h => by
    rw [List.mem_cons, not_or] at h
    show (if a = x then _ else (a, (i : Int)) :: putL (enF l (i + 1)) x _) = (a, (i : Int)) :: enF (l ++ [x]) (i + 1)
    rw [if_neg (fun e => h.1 e.symm), ← enF_put h.2, List.length_cons, show i + (l.length + 1) = i + 1 + l.length by omega]
theorem en_put {l : List Int} {x : Int} (h : ¬ x ∈ l) : setM (en l) x (((en l).kvs.length : Nat) : Int) = en (l ++ [x]) := by
  unfold setM en
  dsimp only
  rw [enF_len]
  have := enF_put (i := 0) h
  rw [Nat.zero_add] at this
  rw [this]

/-! ### the walker -/
abbrev Wk := (Int × List Edg × List Int × List Int) × (List Int × List Int) × MI × MI × List Int × List Int
/-- a walker that has numbered o and e, and has to go on behind the first j wires -/
def wkr (g : Gra) (to fr : List Int) (s : WS) (j : Nat) : Wk := (g, (fr, to), en s.1, en s.2, s.1.drop j, s.2)
theorem wire_ {g : Gra} {to fr : List Int} {o e : List Int} {j : Nat} (hj : j ≤ o.length) (hl : o.length ≤ 1000) (w : Int) :
    F_impl_walker_wire (wkr g to fr (o, e) j) w = some (wkr g to fr (giv1 o w, e) j) := by
  have hm : maxN = 1099511627776 := rfl
  refine stp (stp ?_)
  unfold giv1
  show cond (!hasM (en o) w) _ _ = _
  rw [en_has]
  by_cases h : w ∈ o
  · rw [if_pos h]
    exact cFW (nT (dT h)) rfl
  · rw [if_neg h]
    refine cTW (nF (dF h)) (bnd (appO_of (by simp [wkr]; omega)) ?_)
    unfold wkr
    dsimp only
    rw [en_put h, List.drop_append_of_le_length hj]
theorem wires_ {g : Gra} {to fr : List Int} {e : List Int} {j : Nat} (l : List Int) {n : Nat} (hn : n ≤ 1000) {o : List Int} (ho : Od n o) (hl : inRg n l) (hj : j ≤ o.length) :
    ∀ k, k ≤ l.length → (giv o (l.take k)).length ≤ 1000 ∧ j ≤ (giv o (l.take k)).length ∧ (∀ h : k < l.length, giv o (l.take (k + 1)) = giv1 (giv o (l.take k)) l[k]) := by
  intro k hk
  have hOd : Od n (giv o (l.take k)) := ho.giv (fun x hx => hl x (List.mem_of_mem_take hx))
  have hle := hOd.le
  obtain ⟨r, hr⟩ := giv_pre (l.take k) o
  refine ⟨by omega, by rw [hr]; simp; omega, fun h => ?_⟩
  rw [List.take_add_one, List.getElem?_eq_getElem h]
  exact giv_app _ _ _
theorem edge_ {n : Nat} (hn : n ≤ 1000) {g : Gra} {to fr : List Int} {s : WS} {j : Nat} (hE : edRg n g.2.1) (hm : g.2.1.length ≤ 1000) (ht : totE g.2.1 edI ≤ 1000) (ht2 : totE g.2.1 edO ≤ 1000) (hs : Ws n g.2.1.length s) (hj : j ≤ s.1.length) {e : Int} (he : e = -1 ∨ 0 ≤ e ∧ e < (g.2.1.length : Int)) :
    F_impl_walker_edge (wkr g to fr s j) e = some (wkr g to fr (stE g.2.1 s e) j) := by
  have hmx : maxN = 1099511627776 := rfl
  obtain ⟨w0, E, I, O⟩ := g
  obtain ⟨o, ds⟩ := s
  dsimp only at hE hm ht ht2 hs hj he ⊢
  refine stp ?_
  by_cases h0 : e < 0
  · refine cTW (dT h0) ?_
    unfold stE
    rw [if_pos (.inl h0)]
  refine cFW (dF h0) (stp ?_)
  show cond (hasM (en ds) e) _ _ = _
  rw [en_has]
  obtain ⟨i, rfl⟩ : ∃ i : Nat, e = (i : Int) := ⟨e.toNat, by omega⟩
  have hi : i < E.length := by omega
  by_cases hin : (i : Int) ∈ ds
  · refine cTW (dT hin) ?_
    unfold stE
    rw [if_pos (.inr hin)]
  refine cFW (dF hin) ?_
  have hle : ds.length ≤ E.length := hs.e.le
  have hE' := hE _ (List.getElem_mem hi)
  have hst : stE E (o, ds) (i : Int) = (giv o (edI E[i] ++ edO E[i]), ds ++ [(i : Int)]) := by
    unfold stE
    rw [if_neg (by rw [not_or]; exact ⟨h0, hin⟩), Int.toNat_natCast, List.getElem?_eq_getElem hi]
  rw [hst]
  have l1 := len_tot edI (List.getElem_mem hi)
  have l2 := len_tot edO (List.getElem_mem hi)
  refine bnd (appO_of (by simp [wkr]; omega)) (bnd (idxO_of (List.getElem?_eq_getElem hi)) (bnd (idxO_of (List.getElem?_eq_getElem hi)) (bnd (joined2_ (show (edI E[i]).length + (edO E[i]).length ≤ _ by omega)) ?_)))
  have hl := inRg_app hE'.1 hE'.2
  have hw := wires_ (g := (w0, E, I, O)) (to := to) (fr := fr) (e := ds ++ [(i : Int)]) (edI E[i] ++ edO E[i]) hn hs.o hl hj
  have key := forS_is (n := (edI E[i] ++ edO E[i]).length) (fun k => ((w0 : Int), en (giv o ((edI E[i] ++ edO E[i]).take k)), (giv o ((edI E[i] ++ edO E[i]).take k)).drop j)) (f := fun (k67 : Nat) (s104 : Int × MI × List Int) =>
          (idxO (edI E[i] ++ edO E[i]) ((k67 : Nat) : Int)).bind fun a121 =>
          (F_impl_walker_wire ((s104.1, E, I, O), (fr, to), s104.2.1, (setM (en ds) (i : Int) (((en ds).kvs.length : Nat) : Int)), s104.2.2, ds ++ [(i : Int)]) a121).bind fun y123 =>
          some (y123.1.1, y123.2.2.1, y123.2.2.2.2.1)) (fun k hk => by
    obtain ⟨w1, w2, w3⟩ := hw k (by omega)
    refine bnd (idxO_of (List.getElem?_eq_getElem hk)) ?_
    rw [en_put hin]
    refine bnd (wire_ (g := (w0, E, I, O)) (to := to) (fr := fr) (e := ds ++ [(i : Int)]) w2 w1 _) ?_
    rw [w3 hk]
    rfl)
  rw [List.take_length] at key
  refine bnd key ?_
  unfold wkr
  dsimp only
  rw [en_put hin]
theorem walkI_ {n : Nat} (hn : n ≤ 1000) {g : Gra} {s : WS} (hE : edRg n g.2.1) (hm : g.2.1.length ≤ 1000) (ht : totE g.2.1 edI ≤ 1000) (ht2 : totE g.2.1 edO ≤ 1000) (hs : Ws n g.2.1.length s) :
    F_impl_walker_walk (wkr g (tabl n fun k => whr edI g.2.1 k) (tabl n fun k => whr edO g.2.1 k) s 0) = some (wkr g (tabl n fun k => whr edI g.2.1 k) (tabl n fun k => whr edO g.2.1 k) (wlk g.2.1 s n) (wlk g.2.1 s n).1.length) := by
  obtain ⟨w0, E, I, O⟩ := g
  dsimp only at hE hm ht ht2 hs ⊢
  generalize hto : (tabl n fun k => whr edI E (k : Int)) = to
  generalize hfr : (tabl n fun k => whr edO E (k : Int)) = fr
  obtain ⟨t, h1, h2⟩ := whileO_num (f := fun (s129 : Int × MI × MI × List Int × List Int) =>
    (some (decide ((0 : Int) < ((s129.2.2.2.1.length : Nat) : Int)))).bind fun a142 =>
    cond a142
    ((idxO s129.2.2.2.1 0).bind fun a153 =>
      (sliceO s129.2.2.2.1 1 ((s129.2.2.2.1.length : Nat) : Int)).bind fun a155 =>
      (idxO to a153).bind fun a166 =>
      (F_impl_walker_edge ((s129.1, E, I, O), (fr, to), s129.2.1, s129.2.2.1, a155, s129.2.2.2.2) a166).bind fun y168 =>
      (idxO fr a153).bind fun a185 =>
      (F_impl_walker_edge ((y168.1.1, E, I, O), (fr, to), y168.2.2.1, y168.2.2.2.1, y168.2.2.2.2.1, y168.2.2.2.2.2) a185).bind fun y187 =>
      some (.inl (y187.1.1, y187.2.2.1, y187.2.2.2.1, y187.2.2.2.2.1, y187.2.2.2.2.2)))
    (some (.inr ((s129.1, E, I, O), (fr, to), s129.2.1, s129.2.2.1, s129.2.2.2.1, s129.2.2.2.2))))
    (fun j u => j ≤ (wlk E s j).1.length ∧ u = (w0, en (wlk E s j).1, en (wlk E s j).2, (wlk E s j).1.drop j, (wlk E s j).2))
    (fun t => t = wkr (w0, E, I, O) to fr (wlk E s n) (wlk E s n).1.length) n (by
    rintro j u hjn ⟨hj, rfl⟩
    have hok := wlk_ok hE hs j
    by_cases hlt : j < (wlk E s j).1.length
    · have hle := hok.o.le
      refine .inl ⟨_, stp (cTW (dT (by dsimp only; rw [List.length_drop]; omega)) ?_), ⟨?_, rfl⟩, by omega⟩
      · have hr := hok.o.r _ (List.getElem_mem hlt)
        obtain ⟨w, hw⟩ : ∃ w : Nat, (wlk E s j).1[j] = (w : Int) := ⟨((wlk E s j).1[j]).toNat, by omega⟩
        have hstep : wlk E s (j + 1) = stW E (wlk E s j) (w : Int) := by
          show (match (wlk E s j).1[j]? with
            | some w => stW E (wlk E s j) w
            | none => wlk E s j) = _
          rw [List.getElem?_eq_getElem hlt, hw]
        have hd : (wlk E s j).1.drop j = (w : Int) :: (wlk E s j).1.drop (j + 1) := by
          rw [List.drop_eq_getElem_cons hlt, hw]
        have ht1 := stE_ok hE hok (whr_ok edI E w)
        obtain ⟨r1, hr1⟩ := stE_pre E (wlk E s j) (whr edI E w)
        dsimp only
        rw [hd]
        refine bnd (a := (w : Int)) rfl (bnd (a := (wlk E s j).1.drop (j + 1)) ?_ ?_)
        · unfold sliceO
          rw [if_pos (by simp; omega)]
          rw [show ((1 : Int).toNat) = 1 from rfl, List.drop_succ_cons, List.drop_zero, Int.toNat_natCast, List.length_cons, Nat.add_sub_cancel, List.take_length]
        refine bnd (show idxO to (w : Int) = some (whr edI E w) by rw [← hto]; exact tabl_idx _ (by omega)) (bnd (edge_ (g := (w0, E, I, O)) hn hE hm ht ht2 hok (j := j + 1) (by omega) (whr_ok edI E w)) (bnd (show idxO fr (w : Int) = some (whr edO E w) by rw [← hfr]; exact tabl_idx _ (by omega)) ?_))
        refine bnd (edge_ (g := (w0, E, I, O)) hn hE hm ht ht2 ht1 (j := j + 1) (by rw [hr1]; simp; omega) (whr_ok edO E w)) ?_
        rw [hstep]
        rfl
      · rw [show wlk E s (j + 1) = stW E (wlk E s j) (wlk E s j).1[j] by
          show (match (wlk E s j).1[j]? with
            | some w => stW E (wlk E s j) w
            | none => wlk E s j) = _
          rw [List.getElem?_eq_getElem hlt]]
        have := stW_len E (wlk E s j) (wlk E s j).1[j]
        omega
    · have hjl : j = (wlk E s j).1.length := by omega
      refine .inr ⟨_, stp (cFW (dF (by dsimp only; rw [List.length_drop]; omega)) rfl), ?_⟩
      rw [wlk_end hE hs (k := j) (by omega) hjn]
      unfold wkr
      rw [← hjl]) (s := (w0, en s.1, en s.2, s.1, s.2)) ⟨Nat.zero_le _, by simp [wlk]⟩
  subst h2
  exact h1
theorem openWalk_ {n : Nat} (hn : n ≤ 1000) {g : Gra} (hw : g.1 = (n : Int)) (h : Rgd n g) :
    F_impl_Graph_openWalk g = some (wkr g (tabl n fun k => whr edI g.2.1 k) (tabl n fun k => whr edO g.2.1 k) (walk n g) (walk n g).1.length) := by
  obtain ⟨w0, E, I, O⟩ := g
  dsimp only at hw
  subst hw
  obtain ⟨hI, hO, hE, li, lo, le, ti, to'⟩ := h
  dsimp only at hI hO hE li lo le ti to'
  refine bnd (bnd (bnd (gends_ hn hE) rfl) rfl) (bnd (joined2_ (by dsimp only; omega)) ?_)
  generalize hto : (tabl n fun k => whr edI E (k : Int)) = to
  generalize hfr : (tabl n fun k => whr edO E (k : Int)) = fr
  have hl := inRg_app hI hO
  have hw := wires_ (g := ((n : Int), E, I, O)) (to := to) (fr := fr) (e := []) (I ++ O) hn (od_nil n) hl (Nat.zero_le _)
  have key := forS_is (n := (I ++ O).length) (fun k => ((n : Int), en (giv [] ((I ++ O).take k)), (giv [] ((I ++ O).take k)).drop 0)) (f := fun (k34 : Nat) (s71 : Int × MI × List Int) =>
      (idxO (I ++ O) ((k34 : Nat) : Int)).bind fun a88 =>
      (F_impl_walker_wire ((s71.1, E, I, O), (fr, to), s71.2.1, ⟨[]⟩, s71.2.2, []) a88).bind fun y90 =>
      some (y90.1.1, y90.2.2.1, y90.2.2.2.2.1)) (fun k hk => by
    obtain ⟨w1, w2, w3⟩ := hw k (by omega)
    refine bnd (idxO_of (List.getElem?_eq_getElem hk)) ?_
    refine bnd (wire_ (g := ((n : Int), E, I, O)) (to := to) (fr := fr) (e := []) w2 w1 _) ?_
    rw [w3 hk]
    rfl)
  rw [List.take_length] at key
  refine bnd key ?_
  subst hto hfr
  rw [giv_app]
  exact bnd (walkI_ hn (g := ((n : Int), E, I, O)) (s := w0S I O) hE le ti to' (w0_ok hI hO)) rfl

/-! ### the numbers, written into a list -/
theorem fillK {n : Nat} (c : Int) : ∀ (l : List Int) (i : Nat) (f : Nat → Int), inRg n l → l.Nodup → c = 0 → l.length + i ≤ 1000 →
    kvO (fun (s : List Int) (k v : Int) => (addO c v).bind fun a => (setO s k a).bind fun b => some b) (enF l i) (tabl n f) = some (tabl n fun k => if (k : Int) ∈ l then plcF l i k else f k)
  | [], i, f, _, _, _, _ => congrArg some (tabl_ext fun k _ => by simp)
  | a :: l, i, f, hl, hd, hc, hi => by
    obtain ⟨d1, d2⟩ := List.nodup_cons.1 hd
    have hr := hl a (.head _)
    obtain ⟨m, rfl⟩ : ∃ m : Nat, a = (m : Int) := ⟨a.toNat, by omega⟩
    subst hc
    rw [List.length_cons] at hi
    show Option.bind _ (kvO _ (enF l (i + 1))) = _
    refine bnd (a := tabl n fun k => if k = m then (i : Int) else f k) (bnd (addO_of (by dsimp only; omega) (by dsimp only; omega)) (bnd (tabl_setO _ _ (by omega)) (congrArg some (tabl_ext fun k _ => by simp)))) ?_
    rw [fillK 0 l (i + 1) _ (fun x hx => hl x (.tail _ hx)) d2 rfl (by omega)]
    refine congrArg some (tabl_ext fun k _ => ?_)
    by_cases hkm : k = m
    · subst hkm
      rw [if_neg d1, if_pos rfl, if_pos (.head _)]
      unfold plcF
      rw [if_pos rfl]
    · have hne : ¬ (m : Int) = (k : Int) := by omega
      have hne' : ¬ (k : Int) = (m : Int) := by omega
      rw [if_neg hkm, show plcF ((m : Int) :: l) i (k : Int) = plcF l (i + 1) k from if_neg hne]
      by_cases hkl : (k : Int) ∈ l
      · rw [if_pos hkl, if_pos (.tail _ hkl)]
      · rw [if_neg hkl, if_neg (by rw [List.mem_cons, not_or]; exact ⟨hne', hkl⟩)]
theorem fill_en {n : Nat} {l : List Int} (h : Od n l) (hn : n ≤ 1000) : kvO (fun (s : List Int) (k v : Int) => (addO 0 v).bind fun a => (setO s k a).bind fun b => some b) (en l).kvs (tabl n fun _ => -1) = some (tabl n fun k => plc l k) := by
  have hle := h.le
  rw [show (en l).kvs = enF l 0 from rfl, fillK 0 l 0 _ h.r h.d rfl (by omega)]
  refine congrArg some (tabl_ext fun k _ => ?_)
  split
  · rfl
  · rw [plc_not ‹_›]
theorem canon1_ {n m : Nat} (hn : n ≤ 1000) (hm : m ≤ 1000) {g : Gra} {to fr : List Int} {s : WS} (hs : Ws n m s) (j : Nat) :
    F_impl_Graph_canonicalNumbers_1 (wkr g to fr s j) 0 (tabl n fun _ => -1) 0 (tabl m fun _ => -1) = some ((s.1.length : Int), (tabl n fun k => plc s.1 k), (s.2.length : Int), tabl m fun k => plc s.2 k) := by
  have h1 := hs.o.le; have h2 := hs.e.le
  have l1 : (en s.1).kvs.length = s.1.length := enF_len _ _
  have l2 : (en s.2).kvs.length = s.2.length := enF_len _ _
  refine bnd (bnd (fill_en hs.o hn) rfl) (bnd (bnd (fill_en hs.e hm) rfl) ?_)
  show (addO 0 (((en s.1).kvs.length : Nat) : Int)).bind _ = _
  rw [l1]
  refine bnd (addO_of (by omega) (by omega)) ?_
  show (addO 0 (((en s.2).kvs.length : Nat) : Int)).bind _ = _
  rw [l2]
  refine bnd (addO_of (by omega) (by omega)) ?_
  rw [Int.zero_add, Int.zero_add]
end Go.Proofs.YtbofgnbanmbopaaGreatDoor
namespace Go.Proofs.YtbofgnbanmbopaaGreatDoor
set_option linter.unusedVariables false

/-! ### components -/
theorem comp_ {n : Nat} (hn : n ≤ 1000) {g : Gra} (hw : g.1 = (n : Int)) (h : Rgd n g) : ∃ y c, F_impl_Graph_components g = some (y, c) ∧ y.length = n := by
  obtain ⟨w0, E, I, O⟩ := g
  dsimp only at hw
  subst hw
  obtain ⟨hI, hO, hE, li, lo, le, ti, to'⟩ := h
  dsimp only at hI hO hE li lo le ti to'
  have id0 : (tabl n fun k => (k : Int)) = tabN n id := rfl
  have step : ∀ (u v : Nat), u < n → v < n → ∀ s : List Int, (∃ c cls, s = tabN n c ∧ Forest n c cls ∧ Cls cls) → ∃ s', F_impl_classes_join s (u : Int) (v : Int) = some s' ∧ ∃ c cls, s' = tabN n c ∧ Forest n c cls ∧ Cls cls := by
    rintro u v hu hv s ⟨c, cls, rfl, hf, hc⟩
    exact ⟨_, join_ hf hc hu hv, _, _, rfl, hf.join hc u v, hc.join u v⟩
  obtain ⟨s1, h1, c, cls, rfl, hf, hc⟩ := forS_rel (f := fun (k12 : Nat) (s223 : List Int) =>
      (idxO E ((k12 : Nat) : Int)).bind fun a238 =>
      (F_impl_joined [a238.2.2.1, a238.2.2.2]).bind fun y255 =>
      (forS (fun (k260 : Nat) (s303 : List Int) =>
          (idxO y255 ((k260 : Nat) : Int)).bind fun a318 =>
          (idxO y255 0).bind fun a326 =>
          (F_impl_classes_join s303 a326 a318).bind fun y328 =>
          some y328) y255.length 0 s223).bind fun (s333 : List Int) =>
      some s333) (n := E.length) (s := tabN n id) (fun _ s => ∃ c cls, s = tabN n c ∧ Forest n c cls ∧ Cls cls)
    ⟨id, id, rfl, ⟨fun w _ => Nat.le_refl _, fun w _ _ => rfl, fun w _ => rfl⟩, ⟨fun w => Nat.le_refl _, fun w => rfl⟩⟩ (fun j s hj hs => by
      have he := hE _ (List.getElem_mem hj)
      have l1 := len_tot edI (List.getElem_mem hj)
      have l2 := len_tot edO (List.getElem_mem hj)
      have hl := inRg_app he.1 he.2
      obtain ⟨s2, h2, h3⟩ := forS_rel (f := fun (k260 : Nat) (s303 : List Int) =>
          (idxO (edI E[j] ++ edO E[j]) ((k260 : Nat) : Int)).bind fun a318 =>
          (idxO (edI E[j] ++ edO E[j]) 0).bind fun a326 =>
          (F_impl_classes_join s303 a326 a318).bind fun y328 =>
          some y328) (n := (edI E[j] ++ edO E[j]).length) (s := s) (fun _ s => ∃ c cls, s = tabN n c ∧ Forest n c cls ∧ Cls cls) hs (fun k s hk hs => by
        have hr := hl _ (List.getElem_mem hk)
        have hr0 := hl _ (List.getElem_mem (show 0 < (edI E[j] ++ edO E[j]).length by omega))
        obtain ⟨s', k1, k2⟩ := step ((edI E[j] ++ edO E[j])[0].toNat) ((edI E[j] ++ edO E[j])[k].toNat) (by omega) (by omega) s hs
        refine ⟨s', bnd (idxO_of (List.getElem?_eq_getElem hk)) (bnd (idxO_of (k := 0) (List.getElem?_eq_getElem (by omega))) (bnd ?_ rfl)), k2⟩
        rw [← k1]
        congr 1
        · omega
        · omega)
      exact ⟨s2, bnd (idxO_of (List.getElem?_eq_getElem hj)) (bnd (joined2_ (show (edI E[j]).length + (edO E[j]).length ≤ _ by omega)) (bnd h2 rfl)), h3⟩)
  have hmx : maxN = 1099511627776 := rfl
  obtain ⟨s2, h2, h3⟩ := forS_rel (f := fun (k344 : Nat) (s505 : List Int × Int) =>
      ((F_impl_classes_root (tabN n c) ((k344 : Nat) : Int)).bind fun y555 =>
        (some (decide (y555 < ((k344 : Nat) : Int)))).bind fun a558 =>
        cond a558
        ((idxO s505.1 y555).bind fun a579 =>
          (setO s505.1 ((k344 : Nat) : Int) a579).bind fun a587 =>
          some (a587, s505.2))
        ((setO s505.1 ((k344 : Nat) : Int) s505.2).bind fun a567 =>
          (addO s505.2 1).bind fun a570 =>
          some (a567, a570))).bind fun (s549 : List Int × Int) =>
      some (s549.1, s549.2)) (n := n) (s := (tabl n fun _ => (0 : Int), 0)) (fun k s => s.1.length = n ∧ 0 ≤ s.2 ∧ s.2 ≤ (k : Int)) ⟨tabl_len _ _, Int.le_refl _, Int.le_refl _⟩ (fun k s hk hs => by
    obtain ⟨hl, h0, h1⟩ := hs
    have hle := hc.le k
    by_cases hlt : cls k < k
    · have hi : cls k < s.1.length := by omega
      refine ⟨_, bnd (bnd (root_ hf hk) (stp (cTW (dT (by omega)) (bnd (idxO_of (List.getElem?_eq_getElem hi)) (bnd (setO_of _ (by omega)) rfl))))) rfl, ?_, h0, by dsimp only; omega⟩
      rw [List.length_set]; exact hl
    · refine ⟨_, bnd (bnd (root_ hf hk) (stp (cFW (dF (by omega)) (bnd (setO_of _ (by omega)) (bnd (addO_of (by omega) (by omega)) rfl))))) rfl, ?_, by dsimp only; omega, by dsimp only; omega⟩
      rw [List.length_set]; exact hl)
  refine ⟨s2.1, s2.2, bnd (upT_ (by omega)) (bnd h1 (bnd (zeros_ (by omega)) ?_)), h3.1⟩
  rw [tabl_rep, tabl_len]
  exact bnd h2 rfl

/-! ### all is walked -/
structure Full (n : Nat) (g : Gra) : Prop where
  w : ∀ k : Nat, k < n → (k : Int) ∈ (walk n g).1
  e : ∀ i : Nat, i < g.2.1.length → (i : Int) ∈ (walk n g).2
  ne : ∀ e ∈ g.2.1, edI e ++ edO e ≠ []
theorem walk_ok {n : Nat} {g : Gra} (h : Rgd n g) : Ws n g.2.1.length (walk n g) := wlk_ok h.e (w0_ok h.i h.o) n
theorem closed_ {n : Nat} (hn : n ≤ 1000) {g : Gra} (hw : g.1 = (n : Int)) (h : Rgd n g) (hf : Full n g) {to fr : List Int} {j : Nat} :
    F_impl_Graph_closedParts g (wkr g to fr (walk n g) j) = some [] := by
  obtain ⟨y, c, hy, hl⟩ := comp_ hn hw h
  have hmx : maxN = 1099511627776 := rfl
  have hle := h.le
  have hyx : ∀ x : Int, 0 ≤ x ∧ x < (n : Int) → ∃ v, idxO y x = some v := fun x hx => by
    obtain ⟨m, rfl⟩ : ∃ m : Nat, x = (m : Int) := ⟨x.toNat, by omega⟩
    exact ⟨_, idxO_of (List.getElem?_eq_getElem (by omega))⟩
  obtain ⟨cs, h1, h2⟩ := forS_rel (f := fun (k : Nat) (s : List Int) =>
      (idxO g.2.1 ((k : Nat) : Int)).bind fun e =>
      (F_impl_joined [e.2.2.1, e.2.2.2]).bind fun j =>
      (idxO j 0).bind fun a =>
      (idxO y a).bind fun c =>
      some (s ++ [c])) (n := g.2.1.length) (s := ([] : List Int)) (fun _ s => ∀ c ∈ s, ∃ x ∈ (walk n g).1, idxO y x = some c) (fun c hc => by cases hc) (fun k s hk hs => by
    have he := h.e _ (List.getElem_mem hk)
    have l1 := len_tot edI (List.getElem_mem hk)
    have l2 := len_tot edO (List.getElem_mem hk)
    have ti := h.ti; have to' := h.to
    have hlr := inRg_app he.1 he.2
    have hne := hf.ne _ (List.getElem_mem hk)
    have hpos : 0 < (edI g.2.1[k] ++ edO g.2.1[k]).length := List.length_pos_iff.2 hne
    have hr := hlr _ (List.getElem_mem hpos)
    obtain ⟨v, hv⟩ := hyx _ hr
    refine ⟨s ++ [v], bnd (idxO_of (List.getElem?_eq_getElem hk)) (bnd (joined2_ (show (edI g.2.1[k]).length + (edO g.2.1[k]).length ≤ _ by omega)) (bnd (idxO_of (k := 0) (List.getElem?_eq_getElem hpos)) (bnd hv rfl))), fun c hc => ?_⟩
    rcases List.mem_append.1 hc with hc | hc
    · exact hs c hc
    · simp at hc
      subst hc
      refine ⟨_, ?_, hv⟩
      obtain ⟨m, hm⟩ : ∃ m : Nat, (edI g.2.1[k] ++ edO g.2.1[k])[0] = (m : Int) := ⟨(edI g.2.1[k] ++ edO g.2.1[k])[0].toNat, by omega⟩
      rw [hm]
      exact hf.w m (by omega))
  have hkeys : (en (walk n g).1).kvs.map (·.1) = (walk n g).1 := enF_keys _ _
  have hok := walk_ok h
  refine bnd hy (bnd h1 (cTW ?_ rfl))
  rw [Bool.and_eq_true, Bool.and_eq_true, decide_eq_true_eq]
  refine ⟨⟨by omega, List.all_eq_true.2 fun p hp => ?_⟩, List.all_eq_true.2 fun c hc => ?_⟩
  · have hm : p.1 ∈ (walk n g).1 := by rw [← hkeys]; exact List.mem_map_of_mem hp
    obtain ⟨v, hv⟩ := hyx _ (hok.o.r _ hm)
    dsimp only
    rw [hv]; rfl
  · obtain ⟨x, hx, hc⟩ := h2 c hc
    rw [← hkeys] at hx
    obtain ⟨p, hp, rfl⟩ := List.mem_map.1 hx
    exact List.any_eq_true.2 ⟨p, hp, decide_eq_true hc⟩
theorem canonNumI_ {n : Nat} (hn : n ≤ 1000) {g : Gra} (hw : g.1 = (n : Int)) (h : Rgd n g) (hf : Full n g) :
    F_impl_Graph_canonicalNumbers g = some (tabl n (fun k => plc (walk n g).1 k), tabl g.2.1.length (fun k => plc (walk n g).2 k)) := by
  have hle := h.le
  obtain ⟨w0, E, I, O⟩ := g
  dsimp only at hw hle
  subst hw
  refine bnd (openWalk_ hn rfl h) (bnd (bnd (repeated_ hn _) (bnd (repeated_ hle _) rfl)) (bnd (canon1_ hn hle (walk_ok h) _) (bnd (closed_ hn rfl h hf) rfl)))
theorem canonNumS_ {n : Nat} (hn : n ≤ 1000) {g : Gra} (hw : g.1 = (n : Int)) (h : Rgd n g) (hf : Full n g) :
    F_spec_cnNumbers g = some (tabl n (fun k => plc (walk n g).1 k), tabl g.2.1.length (fun k => plc (walk n g).2 k)) := by
  have hle := h.le
  obtain ⟨w0, E, I, O⟩ := g
  dsimp only at hw hle
  subst hw
  have ho := cnOpen_ (I := I) (O := O) hn h.e h.i h.o hle
  refine bnd ho (bnd (a := []) (bnd ho ?_) rfl)
  obtain ⟨_, h1, _⟩ := forS_rel (f := fun (k16 : Nat) (_ : Unit) =>
      ((idxO (tabl E.length (fun k => plc (walk n ((n : Int), E, I, O)).2 k)) ((k16 : Nat) : Int)).bind fun a84 =>
        (some (decide ((0 : Int) ≤ a84))).bind fun a86 =>
        cond a86
        (some ())
        (none)).bind fun (s72 : Unit) =>
      some ()) (n := E.length) (s := ()) (fun _ _ => True) trivial (fun j s hj _ => by
    have hp := plc_mem (hf.e j hj)
    exact ⟨(), bnd (bnd (tabl_idx _ hj) (stp (cTW (dT hp.1) rfl))) rfl, trivial⟩)
  exact bnd h1 rfl

/-! ### the canonical graph -/
def setsL (m : Nat) (ep : Nat → Int) (L : List Edg) : Nat → List Edg
  | 0 => List.replicate m (0, 0, [], [])
  | j + 1 => match L[j]? with
    | some e => (setsL m ep L j).set (ep j).toNat e
    | none => setsL m ep L j
theorem setsL_len (m : Nat) (ep : Nat → Int) (L : List Edg) : ∀ j, (setsL m ep L j).length = m
  | 0 => by simp [setsL]
  | j + 1 => by
    unfold setsL
    split
    · rw [List.length_set]; exact setsL_len m ep L j
    · exact setsL_len m ep L j
theorem setsL_mem (m : Nat) (ep : Nat → Int) (L : List Edg) : ∀ j, ∀ e ∈ setsL m ep L j, e = (0, 0, [], []) ∨ e ∈ L
  | 0, e, he => .inl (List.eq_of_mem_replicate he)
  | j + 1, e, he => by
    unfold setsL at he
    split at he
    · rename_i x hx
      rcases List.mem_or_eq_of_mem_set he with h | h
      · exact setsL_mem m ep L j e h
      · exact .inr (h ▸ List.mem_of_getElem? hx)
    · exact setsL_mem m ep L j e he
def renG (n : Nat) (wp ep : Nat → Int) (g : Gra) : Gra := ((n : Int), setsL g.2.1.length ep (g.2.1.map (mpE wp)) g.2.1.length, mp wp g.2.2.1, mp wp g.2.2.2)
theorem sets_loop {m : Nat} {ep : Nat → Int} {L : List Edg} (hL : L.length = m) (hep : ∀ j, j < m → 0 ≤ ep j ∧ ep j < (m : Int)) {f : Nat → List Edg → Option (List Edg)} (hf : ∀ j e s, L[j]? = some e → j < m → f j s = setO s (ep j) e) :
    forS f m 0 (List.replicate m (0, 0, [], [])) = some (setsL m ep L m) := by
  refine forS_is (f := f) (n := m) (fun j => setsL m ep L j) (fun j hj => ?_)
  have he : L[j]? = some L[j] := List.getElem?_eq_getElem (by omega)
  rw [hf j _ _ he hj]
  have hr := hep j hj
  obtain ⟨i, hi⟩ : ∃ i : Nat, ep j = (i : Int) := ⟨(ep j).toNat, by omega⟩
  rw [hi, setO_of _ (by rw [setsL_len]; omega)]
  congr 1
  show _ = (match L[j]? with
    | some e => (setsL m ep L j).set (ep j).toNat e
    | none => setsL m ep L j)
  rw [he, hi]; rfl
theorem hgRen_ {n : Nat} {g : Gra} (hw : g.1 = (n : Int)) (h : Rgd n g) (wp ep : Nat → Int) (hep : ∀ j, j < g.2.1.length → 0 ≤ ep j ∧ ep j < (g.2.1.length : Int)) :
    F_spec_hgRenumber g (tabl n wp) (tabl g.2.1.length ep) = some (renG n wp ep g) := by
  have hle := h.le
  have hmx : maxN = 1099511627776 := rfl
  obtain ⟨w0, E, I, O⟩ := g
  dsimp only at hw hle hep ⊢
  subst hw
  refine bnd (hgMap_ wp (n : Int) h) (bnd (a := List.replicate E.length (0, 0, [], [])) (stp ?_) ?_)
  · rw [tabl_len]
    by_cases h0 : 0 < E.length
    · exact cTW (dT (by omega)) (bnd (makeO_of _ (by omega)) rfl)
    · refine cFW (dF (by omega)) ?_
      rw [show E.length = 0 by omega]; rfl
  · rw [tabl_len]
    refine bnd (sets_loop (L := E.map (mpE wp)) (by simp) hep (fun j e s he hj => ?_)) rfl
    refine bnd (tabl_idx _ hj) (bnd (idxO_of he) ?_)
    show (setO s (ep j) e).bind _ = _
    cases setO s (ep j) e <;> rfl
theorem gRen_ {n : Nat} {g : Gra} (hw : g.1 = (n : Int)) (h : Rgd n g) (wp ep : Nat → Int) (hep : ∀ j, j < g.2.1.length → 0 ≤ ep j ∧ ep j < (g.2.1.length : Int)) :
    F_impl_Graph_renumbered g (tabl n wp) (tabl g.2.1.length ep) = some (renG n wp ep g) := by
  have hle := h.le
  have hmx : maxN = 1099511627776 := rfl
  obtain ⟨w0, E, I, O⟩ := g
  dsimp only at hw hle hep ⊢
  subst hw
  have hl : (mpG (n : Int) wp ((n : Int), E, I, O)).2.1.length = E.length := List.length_map _
  refine bnd (moved_ wp (n : Int) h) (bnd (a := ((n : Int), List.replicate E.length (0, 0, [], []))) (bnd (a := List.replicate E.length (0, 0, [], [])) ?_ rfl) ?_)
  · rw [hl]; exact makeO_of _ (by omega)
  · rw [hl]
    refine bnd (sets_loop (L := E.map (mpE wp)) (by simp) hep (fun j e s he hj => ?_)) rfl
    refine bnd (idxO_of he) (bnd (tabl_idx _ hj) ?_)
    show (setO s (ep j) e).bind _ = _
    cases setO s (ep j) e <;> rfl
def cnG (n : Nat) (g : Gra) : Gra := renG n (fun k => plc (walk n g).1 k) (fun k => plc (walk n g).2 k) g
theorem cnGraph_ {n : Nat} (hn : n ≤ 1000) {g : Gra} (hw : g.1 = (n : Int)) (h : Rgd n g) (hf : Full n g) : F_spec_cnGraph g = some (cnG n g) := by
  have hle := (walk_ok h).e.le
  refine bnd (canonNumS_ hn hw h hf) (bnd (hgRen_ hw h _ _ (fun j hj => ?_)) rfl)
  have := plc_mem (hf.e j hj)
  exact ⟨this.1, Int.lt_of_lt_of_le this.2 (Int.ofNat_le.2 hle)⟩
theorem canonical_ {n : Nat} (hn : n ≤ 1000) {g : Gra} (hw : g.1 = (n : Int)) (h : Rgd n g) (hf : Full n g) : F_impl_Graph_canonical g = some (cnG n g) := by
  have hle := (walk_ok h).e.le
  refine bnd (canonNumI_ hn hw h hf) (bnd (gRen_ hw h _ _ (fun j hj => ?_)) rfl)
  have := plc_mem (hf.e j hj)
  exact ⟨this.1, Int.lt_of_lt_of_le this.2 (Int.ofNat_le.2 hle)⟩
end Go.Proofs.YtbofgnbanmbopaaGreatDoor
namespace Go.Proofs.YtbofgnbanmbopaaGreatDoor
set_option linter.unusedVariables false

/-! ### other numbers -/
structure Ij (n : Nat) (t : Nat → Int) : Prop where
  r : ∀ k, k < n → 0 ≤ t k ∧ t k < (n : Int)
  i : ∀ j k, j < n → k < n → t j = t k → j = k
section
variable {n : Nat} {t : Nat → Int} (h : Ij n t)
include h
theorem Ij.rg {l : List Int} (hl : inRg n l) : inRg n (mp t l) := fun x hx => by
  obtain ⟨y, hy, rfl⟩ := List.mem_map.1 hx
  have := hl y hy
  exact h.r _ (by omega)
theorem Ij.mem {l : List Int} (hl : inRg n l) {k : Nat} (hk : k < n) : t k ∈ mp t l ↔ (k : Int) ∈ l := by
  constructor
  · intro hx
    obtain ⟨y, hy, e⟩ := List.mem_map.1 hx
    have := hl y hy
    have := h.i _ _ (by omega) hk e
    rw [← this, show ((y.toNat : Nat) : Int) = y by omega]; exact hy
  · intro hx
    exact List.mem_map.2 ⟨(k : Int), hx, rfl⟩
theorem Ij.giv1 {o : List Int} (ho : inRg n o) {w : Int} (hw : 0 ≤ w ∧ w < (n : Int)) : giv1 (mp t o) (t w.toNat) = mp t (giv1 o w) := by
  have hm := h.mem ho (k := w.toNat) (by omega)
  rw [show ((w.toNat : Nat) : Int) = w by omega] at hm
  unfold Go.Proofs.YtbofgnbanmbopaaGreatDoor.giv1
  by_cases hin : w ∈ o
  · rw [if_pos hin, if_pos (hm.2 hin)]
  · rw [if_neg hin, if_neg (fun e => hin (hm.1 e))]
    unfold mp
    rw [List.map_append]; rfl
theorem Ij.giv : ∀ {l o : List Int}, Od n o → inRg n l → giv (mp t o) (mp t l) = mp t (giv o l)
  | [], o, _, _ => rfl
  | w :: l, o, ho, hl => by
    have hw := hl w (.head _)
    show Go.Proofs.YtbofgnbanmbopaaGreatDoor.giv (Go.Proofs.YtbofgnbanmbopaaGreatDoor.giv1 (mp t o) (t w.toNat)) (mp t l) = mp t (Go.Proofs.YtbofgnbanmbopaaGreatDoor.giv (Go.Proofs.YtbofgnbanmbopaaGreatDoor.giv1 o w) l)
    rw [h.giv1 ho.r hw]
    exact Ij.giv (ho.giv1 hw) (fun x hx => hl x (.tail _ hx))
theorem Ij.whrF (s : Edg → List Int) (hs : ∀ e, s (mpE t e) = mp t (s e)) {k : Nat} (hk : k < n) : ∀ {E : List Edg} {i : Nat} {a : Int}, (∀ e ∈ E, inRg n (s e)) → whrF s (E.map (mpE t)) i (t k) a = whrF s E i k a
  | [], _, _, _ => rfl
  | e :: E, i, a, hE => by
    show Go.Proofs.YtbofgnbanmbopaaGreatDoor.whrF s (E.map (mpE t)) (i + 1) (t k) (if t k ∈ s (mpE t e) then (i : Int) else a) = Go.Proofs.YtbofgnbanmbopaaGreatDoor.whrF s E (i + 1) k (if (k : Int) ∈ s e then (i : Int) else a)
    rw [Ij.whrF s hs hk (fun e he => hE e (.tail _ he)), hs]
    have := h.mem (hE e (.head _)) hk
    by_cases hin : (k : Int) ∈ s e
    · rw [if_pos hin, if_pos (this.2 hin)]
    · rw [if_neg hin, if_neg (fun e => hin (this.1 e))]
theorem Ij.stE {E : List Edg} (hE : edRg n E) {s : WS} (ho : Od n s.1) (e : Int) : stE (E.map (mpE t)) (mp t s.1, s.2) e = (mp t (stE E s e).1, (stE E s e).2) := by
  unfold Go.Proofs.YtbofgnbanmbopaaGreatDoor.stE
  by_cases hc : e < 0 ∨ e ∈ s.2
  · rw [if_pos hc, if_pos hc]
  · rw [if_neg hc, if_neg hc, List.getElem?_map]
    cases hx : E[e.toNat]? with
    | none => rfl
    | some x =>
      have hm := List.mem_of_getElem? hx
      show (Go.Proofs.YtbofgnbanmbopaaGreatDoor.giv (mp t s.1) (mp t (edI x) ++ mp t (edO x)), _) = _
      rw [show mp t (edI x) ++ mp t (edO x) = mp t (edI x ++ edO x) from List.map_append.symm, h.giv ho (inRg_app (hE x hm).1 (hE x hm).2)]
theorem Ij.wlk {E : List Edg} (hE : edRg n E) {s : WS} (hs : Ws n E.length s) : ∀ k, wlk (E.map (mpE t)) (mp t s.1, s.2) k = (mp t (wlk E s k).1, (wlk E s k).2)
  | 0 => rfl
  | k + 1 => by
    have ih := Ij.wlk hE hs k
    have hok := wlk_ok hE hs k
    show (match (Go.Proofs.YtbofgnbanmbopaaGreatDoor.wlk (E.map (mpE t)) (mp t s.1, s.2) k).1[k]? with
      | some w => stW (E.map (mpE t)) (Go.Proofs.YtbofgnbanmbopaaGreatDoor.wlk (E.map (mpE t)) (mp t s.1, s.2) k) w
      | none => Go.Proofs.YtbofgnbanmbopaaGreatDoor.wlk (E.map (mpE t)) (mp t s.1, s.2) k) = (mp t (match (Go.Proofs.YtbofgnbanmbopaaGreatDoor.wlk E s k).1[k]? with
      | some w => stW E (Go.Proofs.YtbofgnbanmbopaaGreatDoor.wlk E s k) w
      | none => Go.Proofs.YtbofgnbanmbopaaGreatDoor.wlk E s k).1, (match (Go.Proofs.YtbofgnbanmbopaaGreatDoor.wlk E s k).1[k]? with
      | some w => stW E (Go.Proofs.YtbofgnbanmbopaaGreatDoor.wlk E s k) w
      | none => Go.Proofs.YtbofgnbanmbopaaGreatDoor.wlk E s k).2)
    rw [ih]
    dsimp only
    rw [show (mp t (Go.Proofs.YtbofgnbanmbopaaGreatDoor.wlk E s k).1)[k]? = (Go.Proofs.YtbofgnbanmbopaaGreatDoor.wlk E s k).1[k]?.map (fun x => t x.toNat) from List.getElem?_map]
    cases hx : (Go.Proofs.YtbofgnbanmbopaaGreatDoor.wlk E s k).1[k]? with
    | none => rfl
    | some w =>
      have hr := hok.o.r w (List.mem_of_getElem? hx)
      have e : ((w.toNat : Nat) : Int) = w := by omega
      have w1 := h.whrF edI (fun e => rfl) (k := w.toNat) (by omega) (E := E) (i := 0) (a := -1) (fun e he => (hE e he).1)
      have w2 := h.whrF edO (fun e => rfl) (k := w.toNat) (by omega) (E := E) (i := 0) (a := -1) (fun e he => (hE e he).2)
      rw [e] at w1 w2
      show stW (E.map (mpE t)) (mp t (Go.Proofs.YtbofgnbanmbopaaGreatDoor.wlk E s k).1, (Go.Proofs.YtbofgnbanmbopaaGreatDoor.wlk E s k).2) (t w.toNat) = (mp t (stW E (Go.Proofs.YtbofgnbanmbopaaGreatDoor.wlk E s k) w).1, (stW E (Go.Proofs.YtbofgnbanmbopaaGreatDoor.wlk E s k) w).2)
      unfold stW
      rw [show whr edI (E.map (mpE t)) (t w.toNat) = whr edI E w from w1, show whr edO (E.map (mpE t)) (t w.toNat) = whr edO E w from w2, h.stE hE hok.o]
      exact h.stE hE (stE_ok hE hok (whr_ok _ _ _)).o _
theorem Ij.walk {g : Gra} (hg : Rgd n g) (w : Int) : walk n (mpG w t g) = (mp t (walk n g).1, (walk n g).2) := by
  have h1 := h.giv (od_nil n) hg.i
  have h2 := h.giv ((od_nil n).giv hg.i) hg.o
  unfold Go.Proofs.YtbofgnbanmbopaaGreatDoor.walk
  rw [← h.wlk hg.e (w0_ok hg.i hg.o)]
  show Go.Proofs.YtbofgnbanmbopaaGreatDoor.wlk _ (Go.Proofs.YtbofgnbanmbopaaGreatDoor.giv (Go.Proofs.YtbofgnbanmbopaaGreatDoor.giv (mp t []) (mp t g.2.2.1)) (mp t g.2.2.2), []) n = _
  rw [h1, h2]; rfl
theorem Ij.plcF {k : Nat} (hk : k < n) : ∀ {l : List Int} {i : Nat}, inRg n l → plcF (mp t l) i (t k) = plcF l i k
  | [], _, _ => rfl
  | a :: l, i, hl => by
    have ha := hl a (.head _)
    show (if t a.toNat = t k then (i : Int) else Go.Proofs.YtbofgnbanmbopaaGreatDoor.plcF (mp t l) (i + 1) (t k)) = if a = (k : Int) then (i : Int) else Go.Proofs.YtbofgnbanmbopaaGreatDoor.plcF l (i + 1) k
    rw [Ij.plcF hk (fun x hx => hl x (.tail _ hx))]
    by_cases e : a = (k : Int)
    · rw [if_pos e, if_pos (by rw [e]; rfl)]
    · rw [if_neg e, if_neg (fun e2 => e (by have := h.i _ _ (by omega) hk e2; omega))]
theorem Ij.rgd {g : Gra} (hg : Rgd n g) (w : Int) : Rgd n (mpG w t g) := by
  have key : ∀ (s : Edg → List Int) (hs : ∀ e, s (mpE t e) = mp t (s e)) (E : List Edg), totE (E.map (mpE t)) s = totE E s := by
    intro s hs E
    induction E with
    | nil => rfl
    | cons e E ih =>
      unfold totE at ih ⊢
      simp only [List.map_cons, List.flatten_cons, List.length_append]
      rw [hs, mp_len, ih]
  refine ⟨h.rg hg.i, h.rg hg.o, fun e he => ?_, ?_, ?_, ?_, ?_, ?_⟩
  · obtain ⟨x, hx, rfl⟩ := List.mem_map.1 he
    exact ⟨h.rg (hg.e x hx).1, h.rg (hg.e x hx).2⟩
  · exact (mp_len t _).symm ▸ hg.li
  · exact (mp_len t _).symm ▸ hg.lo
  · exact (List.length_map (as := g.2.1) (mpE t)).symm ▸ hg.le
  · exact (key edI (fun _ => rfl) g.2.1).symm ▸ hg.ti
  · exact (key edO (fun _ => rfl) g.2.1).symm ▸ hg.to
theorem Ij.full {g : Gra} (hg : Rgd n g) (w : Int) (hf : Full n g) : Full n (mpG w t g) := by
  have hw := h.walk hg w
  have hl : (Go.Proofs.YtbofgnbanmbopaaGreatDoor.walk n g).1.length = n := by
    have ho := (walk_ok hg).o
    rw [← seenN_nodup ho.r ho.d]
    exact seenN_full.2 hf.w
  have ho := (walk_ok (h.rgd hg w)).o
  have hl2 : (Go.Proofs.YtbofgnbanmbopaaGreatDoor.walk n (mpG w t g)).1.length = n := by
    rw [hw]
    exact (mp_len _ _).trans hl
  refine ⟨seenN_full.1 ((seenN_nodup ho.r ho.d).trans hl2), fun i hi => ?_, fun e he => ?_⟩
  · rw [hw]
    exact hf.e i (by simpa [mpG] using hi)
  · obtain ⟨x, hx, rfl⟩ := List.mem_map.1 he
    have := hf.ne x hx
    show mp t (edI x) ++ mp t (edO x) ≠ []
    rw [show mp t (edI x) ++ mp t (edO x) = mp t (edI x ++ edO x) from List.map_append.symm]
    exact fun e => this (List.map_eq_nil_iff.1 e)
theorem Ij.cnG {g : Gra} (hg : Rgd n g) (w : Int) : cnG n (mpG w t g) = cnG n g := by
  have hw := h.walk hg w
  have ho := (walk_ok hg).o
  have hmp : ∀ l, inRg n l → mp (fun k => plc (mp t (Go.Proofs.YtbofgnbanmbopaaGreatDoor.walk n g).1) k) (mp t l) = mp (fun k => plc (Go.Proofs.YtbofgnbanmbopaaGreatDoor.walk n g).1 k) l := by
    intro l hl
    unfold mp
    rw [List.map_map]
    refine List.map_congr_left fun x hx => ?_
    have hx := hl x hx
    have hr := h.r x.toNat (by omega)
    show plc (List.map _ _) (((t x.toNat).toNat : Nat) : Int) = plc _ ((x.toNat : Nat) : Int)
    rw [show (((t x.toNat).toNat : Nat) : Int) = t x.toNat by omega]
    exact h.plcF (by omega) ho.r
  unfold Go.Proofs.YtbofgnbanmbopaaGreatDoor.cnG renG
  rw [hw]
  show (_, setsL (g.2.1.map (mpE t)).length _ ((g.2.1.map (mpE t)).map (mpE _)) (g.2.1.map (mpE t)).length, mp _ (mp t g.2.2.1), mp _ (mp t g.2.2.2)) = _
  rw [hmp _ hg.i, hmp _ hg.o, List.length_map, List.map_map]
  refine Prod.ext rfl (Prod.ext ?_ rfl)
  dsimp only
  congr 1
  refine List.map_congr_left fun e he => ?_
  show (_, _, mp _ (mp t (edI e)), mp _ (mp t (edO e))) = (_, _, _, _)
  rw [hmp _ (hg.e e he).1, hmp _ (hg.e e he).2]; rfl
end

/-! ### what hangs together is walked -/
/-- all wires hang together with the interface -/
def Con (n : Nat) (g : Gra) : Prop := ∀ S : Int → Prop, (∀ x ∈ g.2.2.1, S x) → (∀ x ∈ g.2.2.2, S x) → (∀ e ∈ g.2.1, (∃ x ∈ edI e ++ edO e, S x) → ∀ x ∈ edI e ++ edO e, S x) → ∀ k : Nat, k < n → S (k : Int)
theorem whr_uniq {s : Edg → List Int} {E : List Edg} (hd : (E.map s).flatten.Nodup) {i : Nat} (hi : i < E.length) {x : Int} (hx : x ∈ s E[i]) : whr s E x = (i : Int) := by
  rcases whr_rng s E x with ⟨_, h⟩ | ⟨j, hj, h, hxj⟩
  · exact (h _ (List.getElem_mem hi) hx).elim
  · have hp := (List.pairwise_flatten.1 hd).2
    rw [List.pairwise_map, List.pairwise_iff_getElem] at hp
    rcases Nat.lt_trichotomy i j with hl | he | hl
    · exact (hp i j hi hj hl x hx x hxj rfl).elim
    · rw [h, he]
    · exact (hp j i hj hi hl x hxj x hx rfl).elim
theorem stE_pre2 (E : List Edg) (s : WS) (e : Int) : ∃ r, (stE E s e).2 = s.2 ++ r := by
  unfold stE
  split
  · exact ⟨[], by simp⟩
  · split
    · exact ⟨_, rfl⟩
    · exact ⟨[], by simp⟩
theorem stE_in {E : List Edg} {s : WS} {e : Int} (he : e = -1 ∨ 0 ≤ e ∧ e < (E.length : Int)) : e < 0 ∨ e ∈ (stE E s e).2 := by
  unfold stE
  by_cases hc : e < 0 ∨ e ∈ s.2
  · rw [if_pos hc]; exact hc
  · rw [if_neg hc]
    rw [not_or] at hc
    rw [List.getElem?_eq_getElem (show e.toNat < E.length by omega)]
    exact .inr (by simp)
/-- the wires of numbered edges are numbered -/
def Clo (E : List Edg) (s : WS) : Prop := ∀ e ∈ s.2, ∃ i, ∃ h : i < E.length, e = (i : Int) ∧ ∀ x ∈ edI E[i] ++ edO E[i], x ∈ s.1
theorem stE_clo {E : List Edg} {s : WS} (h : Clo E s) (e : Int) : Clo E (stE E s e) := by
  intro d hd
  obtain ⟨r, hr⟩ := stE_pre E s e
  have old : d ∈ s.2 → ∃ i, ∃ h : i < E.length, d = (i : Int) ∧ ∀ x ∈ edI E[i] ++ edO E[i], x ∈ (stE E s e).1 := fun hd => by
    obtain ⟨i, hi, h1, h2⟩ := h d hd
    exact ⟨i, hi, h1, fun x hx => by rw [hr]; exact List.mem_append_left _ (h2 x hx)⟩
  by_cases hc : e < 0 ∨ e ∈ s.2
  · have hs : stE E s e = s := by unfold stE; rw [if_pos hc]
    rw [hs] at hd
    exact old hd
  · cases hx : E[e.toNat]? with
    | none =>
      have hs : stE E s e = s := by unfold stE; rw [if_neg hc, hx]
      rw [hs] at hd
      exact old hd
    | some x =>
      have hs : stE E s e = (giv s.1 (edI x ++ edO x), s.2 ++ [e]) := by unfold stE; rw [if_neg hc, hx]
      rw [hs] at hd
      rcases List.mem_append.1 hd with hd | hd
      · exact old hd
      · simp at hd
        subst hd
        rw [not_or] at hc
        obtain ⟨hi, he⟩ := List.getElem?_eq_some_iff.1 hx
        refine ⟨d.toNat, hi, by omega, fun y hy => ?_⟩
        rw [hs]
        rw [he] at hy
        exact giv_mem.2 (.inr hy)
theorem wlk_clo {E : List Edg} {s : WS} (h : Clo E s) : ∀ k, Clo E (wlk E s k)
  | 0 => h
  | k + 1 => by
    show Clo E (match (wlk E s k).1[k]? with
      | some w => stW E (wlk E s k) w
      | none => wlk E s k)
    split
    · exact stE_clo (stE_clo (wlk_clo h k) _) _
    · exact wlk_clo h k
theorem wlk_done {E : List Edg} {s : WS} : ∀ k j w, j < k → (wlk E s k).1[j]? = some w → (whr edI E w < 0 ∨ whr edI E w ∈ (wlk E s k).2) ∧ (whr edO E w < 0 ∨ whr edO E w ∈ (wlk E s k).2)
  | 0, j, w, hj, _ => by omega
  | k + 1, j, w, hj, hw => by
    have e : wlk E s (k + 1) = match (wlk E s k).1[k]? with
      | some w => stW E (wlk E s k) w
      | none => wlk E s k := rfl
    cases hx : (wlk E s k).1[k]? with
    | none =>
      rw [hx] at e
      dsimp only at e
      rw [e] at hw ⊢
      have h1 := (List.getElem?_eq_some_iff.1 hw).1
      have h2 := List.getElem?_eq_none_iff.1 hx
      exact wlk_done k j w (by omega) hw
    | some v =>
      rw [hx] at e
      dsimp only at e
      rw [e] at hw ⊢
      obtain ⟨r, hr⟩ := stE_pre E (wlk E s k) (whr edI E v)
      obtain ⟨r', hr'⟩ := stE_pre E (stE E (wlk E s k) (whr edI E v)) (whr edO E v)
      obtain ⟨q, hq⟩ := stE_pre2 E (wlk E s k) (whr edI E v)
      obtain ⟨q', hq'⟩ := stE_pre2 E (stE E (wlk E s k) (whr edI E v)) (whr edO E v)
      have hkl := (List.getElem?_eq_some_iff.1 hx).1
      have hw2 : (wlk E s k).1[j]? = some w := by
        unfold stW at hw
        rw [hr', hr, List.append_assoc, List.getElem?_append_left (by omega)] at hw
        exact hw
      by_cases hjk : j < k
      · obtain ⟨h1, h2⟩ := wlk_done k j w hjk hw2
        unfold stW
        rw [hq', hq]
        exact ⟨h1.imp id fun h => List.mem_append_left _ (List.mem_append_left _ h), h2.imp id fun h => List.mem_append_left _ (List.mem_append_left _ h)⟩
      · obtain rfl : j = k := by omega
        obtain rfl : v = w := Option.some.inj (hx.symm.trans hw2)
        refine ⟨?_, stE_in (whr_ok _ _ _)⟩
        unfold stW
        rw [hq']
        exact (stE_in (whr_ok edI E v)).imp id fun h => List.mem_append_left _ h
theorem full_of {n : Nat} {g : Gra} (h : Rgd n g) (hi : (g.2.1.map edI).flatten.Nodup) (ho : (g.2.1.map edO).flatten.Nodup) (hne : ∀ e ∈ g.2.1, edI e ++ edO e ≠ []) (hc : Con n g) : Full n g := by
  have hok := walk_ok h
  have hle := hok.o.le
  have hclo : Clo g.2.1 (walk n g) := wlk_clo (fun e he => by cases he) n
  have hpre : ∀ k x, x ∈ (w0S g.2.2.1 g.2.2.2).1 → x ∈ (wlk g.2.1 (w0S g.2.2.1 g.2.2.2) k).1 := by
    intro k x hx
    induction k with
    | zero => exact hx
    | succ k ih =>
      show x ∈ (match (wlk g.2.1 (w0S g.2.2.1 g.2.2.2) k).1[k]? with
        | some w => stW g.2.1 (wlk g.2.1 (w0S g.2.2.1 g.2.2.2) k) w
        | none => wlk g.2.1 (w0S g.2.2.1 g.2.2.2) k).1
      split
      · rename_i w _
        obtain ⟨r, hr⟩ := stE_pre g.2.1 (wlk g.2.1 (w0S g.2.2.1 g.2.2.2) k) (whr edI g.2.1 w)
        obtain ⟨r', hr'⟩ := stE_pre g.2.1 (stE g.2.1 (wlk g.2.1 (w0S g.2.2.1 g.2.2.2) k) (whr edI g.2.1 w)) (whr edO g.2.1 w)
        unfold stW
        rw [hr', hr]
        exact List.mem_append_left _ (List.mem_append_left _ ih)
      · exact ih
  -- an edge with a wire that is numbered is numbered
  have hedge : ∀ i, ∀ hil : i < g.2.1.length, (∃ x ∈ edI g.2.1[i] ++ edO g.2.1[i], x ∈ (walk n g).1) → (i : Int) ∈ (walk n g).2 := by
    rintro i hil ⟨x, hx, hxo⟩
    obtain ⟨j, hj⟩ := List.getElem?_of_mem hxo
    have hjl := (List.getElem?_eq_some_iff.1 hj).1
    obtain ⟨h1, h2⟩ := wlk_done n j x (by unfold walk at hle hjl; omega) hj
    rcases List.mem_append.1 hx with hx | hx
    · rw [whr_uniq hi hil hx] at h1
      exact h1.resolve_left (by omega)
    · rw [whr_uniq ho hil hx] at h2
      exact h2.resolve_left (by omega)
  have hw : ∀ k : Nat, k < n → (k : Int) ∈ (walk n g).1 := by
    refine hc (fun x => x ∈ (walk n g).1) (fun x hx => hpre n x ?_) (fun x hx => hpre n x ?_) (fun e he hx => ?_)
    · exact giv_mem.2 (.inl (giv_mem.2 (.inr hx)))
    · exact giv_mem.2 (.inr hx)
    · obtain ⟨i, hil, rfl⟩ := List.mem_iff_getElem.1 he
      obtain ⟨i', hi', e1, h2⟩ := hclo _ (hedge i hil hx)
      obtain rfl : i = i' := by omega
      exact h2
  refine ⟨hw, fun i hil => hedge i hil ?_, hne⟩
  have hn := hne _ (List.getElem_mem hil)
  obtain ⟨x, hx⟩ := List.exists_mem_of_ne_nil _ hn
  have he := h.e _ (List.getElem_mem hil)
  have hr := inRg_app he.1 he.2 x hx
  refine ⟨x, hx, ?_⟩
  have := hw x.toNat (by omega)
  rwa [show ((x.toNat : Nat) : Int) = x by omega] at this
/-- both programs' canonical graphs of graphs that differ in their wires' numbers -/
theorem canon_same {n : Nat} (hn : n ≤ 1000) {g : Gra} (hw : g.1 = (n : Int)) (h : Rgd n g) (hf : Full n g) {t : Nat → Int} (ht : Ij n t) :
    F_spec_cnGraph g = some (cnG n g) ∧ F_impl_Graph_canonical (mpG (n : Int) t g) = some (cnG n g) := by
  refine ⟨cnGraph_ hn hw h hf, ?_⟩
  rw [canonical_ hn rfl (ht.rgd h _) (ht.full h _ hf), ht.cnG h]
end Go.Proofs.YtbofgnbanmbopaaGreatDoor
namespace Go.Proofs.YtbofgnbanmbopaaGreatDoor
set_option linter.unusedVariables false

/-! ### lists in pairs -/
def LsR (P : List (Int × Int)) : List Int → List Int → Prop
  | [], [] => True
  | x :: l, y :: l' => (x, y) ∈ P ∧ LsR P l l'
  | _, _ => False
def EdR (P : List (Int × Int)) (e e' : Edg) : Prop := e.1 = e'.1 ∧ e.2.1 = e'.2.1 ∧ LsR P (edI e) (edI e') ∧ LsR P (edO e) (edO e')
def EsR (P : List (Int × Int)) : List Edg → List Edg → Prop
  | [], [] => True
  | e :: l, e' :: l' => EdR P e e' ∧ EsR P l l'
  | _, _ => False
theorem LsR.mono {P Q : List (Int × Int)} (h : ∀ p ∈ P, p ∈ Q) : ∀ {l l' : List Int}, LsR P l l' → LsR Q l l'
  | [], [], _ => trivial
  | x :: l, y :: l', hl => ⟨h _ hl.1, LsR.mono h hl.2⟩
  | [], _ :: _, hl => hl.elim
  | _ :: _, [], hl => hl.elim
theorem LsR.app {P : List (Int × Int)} : ∀ {l l' m m' : List Int}, LsR P l l' → LsR P m m' → LsR P (l ++ m) (l' ++ m')
  | [], [], _, _, _, hm => hm
  | x :: l, y :: l', _, _, hl, hm => ⟨hl.1, LsR.app hl.2 hm⟩
  | [], _ :: _, _, _, hl, _ => hl.elim
  | _ :: _, [], _, _, hl, _ => hl.elim
theorem LsR.len {P : List (Int × Int)} : ∀ {l l' : List Int}, LsR P l l' → l.length = l'.length
  | [], [], _ => rfl
  | x :: l, y :: l', hl => congrArg (· + 1) hl.2.len
  | [], _ :: _, hl => hl.elim
  | _ :: _, [], hl => hl.elim
theorem LsR.get {P : List (Int × Int)} : ∀ {l l' : List Int} {i : Nat}, LsR P l l' → i < l.length → ∃ x y, l[i]? = some x ∧ l'[i]? = some y ∧ (x, y) ∈ P
  | [], [], _, _, h => by simp at h
  | x :: l, y :: l', 0, hl, _ => ⟨x, y, rfl, rfl, hl.1⟩
  | x :: l, y :: l', i + 1, hl, h => by
    obtain ⟨x, y, h1, h2, h3⟩ := hl.2.get (i := i) (by simpa using h)
    exact ⟨x, y, by simpa using h1, by simpa using h2, h3⟩
  | [], _ :: _, _, hl, _ => hl.elim
  | _ :: _, [], _, hl, _ => hl.elim
theorem LsR.take {P : List (Int × Int)} : ∀ {l l' : List Int} (i : Nat), LsR P l l' → LsR P (l.take i) (l'.take i)
  | [], [], i, _ => by simp [LsR]
  | x :: l, y :: l', 0, _ => trivial
  | x :: l, y :: l', i + 1, hl => ⟨hl.1, hl.2.take i⟩
  | [], _ :: _, _, hl => hl.elim
  | _ :: _, [], _, hl => hl.elim
theorem EdR.mono {P Q : List (Int × Int)} (h : ∀ p ∈ P, p ∈ Q) {e e' : Edg} (he : EdR P e e') : EdR Q e e' := ⟨he.1, he.2.1, he.2.2.1.mono h, he.2.2.2.mono h⟩
theorem EsR.mono {P Q : List (Int × Int)} (h : ∀ p ∈ P, p ∈ Q) : ∀ {l l' : List Edg}, EsR P l l' → EsR Q l l'
  | [], [], _ => trivial
  | x :: l, y :: l', hl => ⟨hl.1.mono h, EsR.mono h hl.2⟩
  | [], _ :: _, hl => hl.elim
  | _ :: _, [], hl => hl.elim
theorem EsR.snoc {P : List (Int × Int)} {e e' : Edg} (he : EdR P e e') : ∀ {l l' : List Edg}, EsR P l l' → EsR P (l ++ [e]) (l' ++ [e'])
  | [], [], _ => ⟨he, trivial⟩
  | x :: l, y :: l', hl => ⟨hl.1, EsR.snoc he hl.2⟩
  | [], _ :: _, hl => hl.elim
  | _ :: _, [], hl => hl.elim
theorem EsR.len {P : List (Int × Int)} : ∀ {l l' : List Edg}, EsR P l l' → l.length = l'.length
  | [], [], _ => rfl
  | x :: l, y :: l', hl => congrArg (· + 1) hl.2.len
  | [], _ :: _, hl => hl.elim
  | _ :: _, [], hl => hl.elim

/-! ### what holds of two drawings -/
def inN (n : Nat) (x : Int) : Nat := if 0 ≤ x ∧ x < (n : Int) then 1 else 0
theorem inN_succ (n : Nat) (x : Int) : inN (n + 1) x = inN n x + (if x = (n : Int) then 1 else 0) := by
  unfold inN
  by_cases h : x = (n : Int)
  · rw [if_pos h, if_pos (by omega), if_neg (by omega)]
  · rw [if_neg h]
    by_cases h2 : 0 ≤ x ∧ x < (n : Int)
    · rw [if_pos h2, if_pos (by omega)]
    · rw [if_neg h2, if_neg (by omega)]
def csE (s : Edg → List Int) (E : List Edg) (x : Int) : Nat := ((E.map s).flatten).count x
theorem csE_snoc (s : Edg → List Int) (E : List Edg) (e : Edg) (x : Int) : csE s (E ++ [e]) x = csE s E x + (s e).count x := by
  unfold csE
  simp only [List.map_append, List.flatten_append, List.map_cons, List.map_nil, List.flatten_cons, List.flatten_nil, List.append_nil, List.count_append]
theorem cnt1 (x y : Int) : List.count x [y] = if x = y then 1 else 0 := by
  rw [List.count_singleton]
  by_cases h : x = y
  · simp [h]
  · have : ¬ y = x := fun e => h e.symm
    simp [h, this]
theorem cntC (x y : Int) (l : List Int) : List.count x (y :: l) = l.count x + if x = y then 1 else 0 := by
  rw [List.count_cons]
  by_cases h : x = y
  · simp [h]
  · have : ¬ y = x := fun e => h e.symm
    simp [h, this]
/-- with a wire of an edge, all its wires are in S -/
def ClE (E : List Edg) (S : Int → Prop) : Prop := ∀ e ∈ E, (∃ x ∈ edI e ++ edO e, S x) → ∀ x ∈ edI e ++ edO e, S x
/-- P: the wires in pairs; U, V: wires without a partner; D: wires that lead nowhere yet -/
structure Dw (P : List (Int × Int)) (U V D : List Int) (n : Nat) (I : List Int) (E : List Edg) (n' : Nat) (E' : List Edg) (B : Nat) : Prop where
  pa : ∀ x, (P.map (·.1)).count x + U.count x = inN n x
  pb : ∀ x, (P.map (·.2)).count x + V.count x = inN n' x
  ed : EsR P E E'
  og : ∀ x, I.count x + csE edO E x = inN n x
  en : ∀ x, csE edI E x + D.count x = inN n x
  co : ∀ S : Int → Prop, (∀ x ∈ I, S x) → (∀ x ∈ D, S x) → ClE E S → ∀ x : Int, 0 ≤ x → x < (n : Int) → S x
  b1 : n ≤ B
  b2 : n' ≤ B
  b3 : E.length ≤ B
section
variable {P : List (Int × Int)} {U V D : List Int} {n n' B : Nat} {I : List Int} {E E' : List Edg}
theorem Dw.cnt (h : Dw P U V D n I E n' E' B) {V1 D1 : List Int} {B1 : Nat} (hV : ∀ x, V.count x = V1.count x) (hD : ∀ x, D.count x = D1.count x) (hB : B ≤ B1) : Dw P U V1 D1 n I E n' E' B1 :=
  ⟨h.pa, fun x => by rw [← hV]; exact h.pb x, h.ed, h.og, fun x => by rw [← hD]; exact h.en x, fun S h1 h2 h3 => h.co S h1 (fun x hx => h2 x (by
    have h4 := List.count_pos_iff.2 hx
    rw [hD] at h4
    exact List.count_pos_iff.1 h4)) h3, Nat.le_trans h.b1 hB, Nat.le_trans h.b2 hB, Nat.le_trans h.b3 hB⟩
theorem Dw.setB (h : Dw P U V D n I E n' E' B) {B1 : Nat} (h1 : n ≤ B1) (h2 : n' ≤ B1) (h3 : E.length ≤ B1) : Dw P U V D n I E n' E' B1 := ⟨h.pa, h.pb, h.ed, h.og, h.en, h.co, h1, h2, h3⟩
theorem Dw.perm (h : Dw P U V D n I E n' E' B) {D1 : List Int} (hD : ∀ x, D.count x = D1.count x) : Dw P U V D1 n I E n' E' B := h.cnt (fun _ => rfl) hD (Nat.le_refl _)
theorem Dw.up (h : Dw P U V D n I E n' E' B) {B1 : Nat} (hB : B ≤ B1) : Dw P U V D n I E n' E' B1 := h.cnt (fun _ => rfl) (fun _ => rfl) hB
theorem Dw.wireI (h : Dw P U V D n I E n' E' B) : Dw P U ((n' : Int) :: V) D n I E (n' + 1) E' (B + 1) :=
  ⟨h.pa, fun x => by rw [inN_succ, cntC, ← h.pb x]; omega, h.ed, h.og, h.en, h.co, by have := h.b1; omega, by have := h.b2; omega, by have := h.b3; omega⟩
theorem ClE.left {e : Edg} {S : Int → Prop} (h : ClE (E ++ [e]) S) : ClE E S := fun d hd => h d (List.mem_append_left _ hd)
/-- an edge with one new wire -/
theorem Dw.edge1 {y : Int} {ins ins' : List Int} (k v : Int) (h : Dw P U (y :: V) (ins ++ D) n I E n' E' B) (hi : LsR P ins ins') :
    Dw (P ++ [((n : Int), y)]) U V ((n : Int) :: D) (n + 1) I (E ++ [(k, v, ins, [(n : Int)])]) n' (E' ++ [(k, v, ins', [y])]) (B + 1) := by
  have hsub : ∀ p ∈ P, p ∈ P ++ [((n : Int), y)] := fun p hp => List.mem_append_left _ hp
  refine ⟨fun z => ?_, fun z => ?_, EsR.snoc (e := (k, v, ins, [(n : Int)])) (e' := (k, v, ins', [y])) ⟨rfl, rfl, hi.mono hsub, (⟨by simp, trivial⟩ : LsR _ [(n : Int)] [y])⟩ (h.ed.mono hsub), fun z => ?_, fun z => ?_, fun S h1 h2 h3 x hx0 hx1 => ?_, ?_, ?_, ?_⟩
  · rw [inN_succ, List.map_append, List.count_append, ← h.pa z]
    show _ + List.count z [(n : Int)] + _ = _
    rw [cnt1]; omega
  · have := h.pb z
    rw [cntC] at this
    rw [List.map_append, List.count_append, ← this]
    show _ + List.count z [y] + _ = _
    rw [cnt1]; omega
  · rw [inN_succ, csE_snoc, ← h.og z]
    show _ + (_ + List.count z [(n : Int)]) = _
    rw [cnt1]; omega
  · have := h.en z
    rw [List.count_append] at this
    rw [inN_succ, csE_snoc, cntC, ← this]
    show _ + List.count z ins + _ = _
    omega
  · have hn : S (n : Int) := h2 _ (.head _)
    have hall := h3 _ (List.mem_append_right _ (.head _)) ⟨(n : Int), List.mem_append_right _ (.head _), hn⟩
    by_cases hx : x = (n : Int)
    · rw [hx]; exact hn
    · refine h.co S h1 (fun y hy => ?_) h3.left x hx0 (by omega)
      rcases List.mem_append.1 hy with hy | hy
      · exact hall y (List.mem_append_left _ hy)
      · exact h2 y (.tail _ hy)
  · have := h.b1; omega
  · have := h.b2; omega
  · have := h.b3; simp; omega
/-- an edge with two new wires -/
theorem Dw.edge2 {y z : Int} {ins ins' : List Int} (k v : Int) (h : Dw P U (y :: z :: V) (ins ++ D) n I E n' E' B) (hi : LsR P ins ins') :
    Dw (P ++ [((n : Int), y), ((n : Int) + 1, z)]) U V ((n : Int) :: ((n : Int) + 1) :: D) (n + 2) I (E ++ [(k, v, ins, [(n : Int), (n : Int) + 1])]) n' (E' ++ [(k, v, ins', [y, z])]) (B + 2) := by
  have hsub : ∀ p ∈ P, p ∈ P ++ [((n : Int), y), ((n : Int) + 1, z)] := fun p hp => List.mem_append_left _ hp
  have ho : ∀ x, inN (n + 2) x = inN n x + (if x = (n : Int) then 1 else 0) + (if x = (n : Int) + 1 then 1 else 0) := fun x => by
    rw [show n + 2 = (n + 1) + 1 from rfl, inN_succ, inN_succ, show ((n + 1 : Nat) : Int) = (n : Int) + 1 by omega]
  refine ⟨fun u => ?_, fun u => ?_, EsR.snoc (e := (k, v, ins, [(n : Int), (n : Int) + 1])) (e' := (k, v, ins', [y, z])) ⟨rfl, rfl, hi.mono hsub, (⟨by simp, by simp, trivial⟩ : LsR _ [(n : Int), (n : Int) + 1] [y, z])⟩ (h.ed.mono hsub), fun u => ?_, fun u => ?_, fun S h1 h2 h3 x hx0 hx1 => ?_, ?_, ?_, ?_⟩
  · rw [ho, List.map_append, List.count_append, ← h.pa u]
    show _ + List.count u [(n : Int), (n : Int) + 1] + _ = _
    rw [cntC, cnt1]; omega
  · have := h.pb u
    rw [cntC, cntC] at this
    rw [List.map_append, List.count_append, ← this]
    show _ + List.count u [y, z] + _ = _
    rw [cntC, cnt1]; omega
  · rw [ho, csE_snoc, ← h.og u]
    show _ + (_ + List.count u [(n : Int), (n : Int) + 1]) = _
    rw [cntC, cnt1]; omega
  · have := h.en u
    rw [List.count_append] at this
    rw [ho, csE_snoc, cntC, cntC, ← this]
    show _ + List.count u ins + _ = _
    omega
  · have hn : S (n : Int) := h2 _ (.head _)
    have hall := h3 _ (List.mem_append_right _ (.head _)) ⟨(n : Int), List.mem_append_right _ (.head _), hn⟩
    by_cases hx : x = (n : Int)
    · rw [hx]; exact hn
    · by_cases hx' : x = (n : Int) + 1
      · rw [hx']; exact h2 _ (.tail _ (.head _))
      · refine h.co S h1 (fun y hy => ?_) h3.left x hx0 (by omega)
        rcases List.mem_append.1 hy with hy | hy
        · exact hall y (List.mem_append_left _ hy)
        · exact h2 y (.tail _ (.tail _ hy))
  · have := h.b1; omega
  · have := h.b2; omega
  · have := h.b3; simp; omega
/-- an edge that ends a wire -/
theorem Dw.edge0 {w w' : Int} (k v : Int) (h : Dw P U V (w :: D) n I E n' E' B) (hw : (w, w') ∈ P) (hc : ∀ S : Int → Prop, (∀ x ∈ I, S x) → ClE E S → S w) :
    Dw P U V D n I (E ++ [(k, v, [w], [])]) n' (E' ++ [(k, v, [w'], [])]) (B + 1) := by
  refine ⟨h.pa, h.pb, EsR.snoc (e := (k, v, [w], [])) (e' := (k, v, [w'], [])) ⟨rfl, rfl, (⟨hw, trivial⟩ : LsR P [w] [w']), trivial⟩ h.ed, fun z => ?_, fun z => ?_, fun S h1 h2 h3 x hx0 hx1 => ?_, ?_, ?_, ?_⟩
  · rw [csE_snoc, ← h.og z]
    rfl
  · have := h.en z
    rw [cntC] at this
    rw [csE_snoc, ← this]
    show _ + List.count z [w] + _ = _
    rw [cnt1]; omega
  · refine h.co S h1 (fun y hy => ?_) h3.left x hx0 hx1
    rcases List.mem_cons.1 hy with rfl | hy
    · exact hc S h1 h3.left
    · exact h2 y hy
  · have := h.b1; omega
  · have := h.b2; omega
  · have := h.b3; simp; omega
theorem inN_le (n : Nat) (x : Int) : inN n x ≤ 1 := by unfold inN; split <;> omega
theorem inN_pos {n : Nat} {x : Int} (h : 0 < inN n x) : 0 ≤ x ∧ x < (n : Int) := by
  unfold inN at h
  split at h
  · assumption
  · omega
theorem od_of {n : Nat} {l : List Int} (h : ∀ x, l.count x ≤ inN n x) : Od n l :=
  ⟨fun x hx => inN_pos (Nat.lt_of_lt_of_le (List.count_pos_iff.2 hx) (h x)), List.nodup_iff_count.2 fun x => Nat.le_trans (h x) (inN_le n x)⟩
theorem Dw.len (h : Dw P U V D n I E n' E' B) : D.length ≤ n := (od_of fun x => by have := h.en x; omega).le
end

/-! ### steps of both programs -/
theorem wireS_ {n : Nat} {E : List Edg} {I O : List Int} (hn : n ≤ 1000000) : F_spec_axMake_wire ((n : Int), E, I, O) = some ((((n + 1 : Nat) : Int), E, I, O), (n : Int)) := by
  refine bnd (addO_of (by dsimp only; omega) (by dsimp only; omega)) (bnd (subO_of (by dsimp only; omega) (by dsimp only; omega)) ?_)
  dsimp only
  rw [show (n : Int) + 1 - 1 = (n : Int) by omega, show ((n + 1 : Nat) : Int) = (n : Int) + 1 by omega]
theorem wireI_ {n : Nat} {E : List Edg} {I O : List Int} (hn : n ≤ 1000000) : F_impl_drawing_wire ((n : Int), E, I, O) = some ((((n + 1 : Nat) : Int), E, I, O), (n : Int)) := by
  refine bnd (addO_of (by dsimp only; omega) (by dsimp only; omega)) (bnd (subO_of (by dsimp only; omega) (by dsimp only; omega)) ?_)
  dsimp only
  rw [show (n : Int) + 1 - 1 = (n : Int) by omega, show ((n + 1 : Nat) : Int) = (n : Int) + 1 by omega]
theorem edgeS_ {n : Int} {E : List Edg} {I O : List Int} (hE : E.length ≤ 1000000) (k v : Int) (a b : List Int) : F_spec_axMake_edge (n, E, I, O) k v a b = some (n, E ++ [(k, v, a, b)], I, O) := by
  have hm : maxN = 1099511627776 := rfl
  exact bnd (appO_of (by simp; omega)) rfl
theorem edgeI_ {n : Int} {E : List Edg} {I O : List Int} (hE : E.length ≤ 1000000) (k v : Int) (a b : List Int) : F_impl_drawing_edge (n, E, I, O) k v a b = some (n, E ++ [(k, v, a, b)], I, O) := by
  have hm : maxN = 1099511627776 := rfl
  exact bnd (appO_of (by simp; omega)) rfl
theorem wiresI_ {n : Nat} {E : List Edg} {I O : List Int} (k : Nat) (hn : n + k ≤ 1000000) : F_impl_drawing_wires ((n : Int), E, I, O) (k : Int) = some ((((n + k : Nat) : Int), E, I, O), (List.range k).map fun i => ((n + i : Nat) : Int)) := by
  have hm : maxN = 1099511627776 := rfl
  refine bnd (cI_of (by unfold inI; omega)) ?_
  rw [Int.toNat_natCast]
  refine bnd (forS_is (n := k) (fun j => (((n + j : Nat) : Int), (List.range j).map fun i => ((n + i : Nat) : Int))) (fun j hj => ?_)) rfl
  refine bnd (wireI_ (by omega)) (bnd (appO_of (by simp; omega)) ?_)
  rw [List.range_succ, List.map_append]
  rfl

/-! ### fans -/
theorem fan_sim (I2 O2 I3 O3 : List Int) : ∀ (k fuel : Nat), 1 ≤ k → k < fuel → ∀ {P : List (Int × Int)} {U V D : List Int} {n n' B : Nat} {I : List Int} {E E' : List Edg} {w w' : Int}, Dw P U V (w :: D) n I E n' E' B → (w, w') ∈ P → B + 2 * k ≤ 1000000 →
    ∃ P' n1 E1 n1' E1' r r', F_spec_axMake_fan_n fuel ((n : Int), E, I2, O2) w (k : Int) = some ((((n1 : Nat) : Int), E1, I2, O2), r) ∧ F_impl_drawing_fanOut_n fuel ((n' : Int), E', I3, O3) w' (k : Int) = some ((((n1' : Nat) : Int), E1', I3, O3), r') ∧
      (∀ p ∈ P, p ∈ P') ∧ LsR P' r r' ∧ r.length = k ∧ Dw P' U V (r ++ D) n1 I E1 n1' E1' (B + 2 * k)
  | 0, _, h1, _, _, _, _, _, _, _, _, _, _, _, _, _, _, _, _ => by omega
  | 1, fuel + 1, _, _, P, U, V, D, n, n', B, I, E, E', w, w', h, hw, hB => by
    refine ⟨P, n, E, n', E', [w], [w'], ?_, ?_, fun p hp => hp, ⟨hw, trivial⟩, rfl, h.up (by omega)⟩
    · exact stp (cFW rfl (stp (cTW rfl rfl)))
    · exact stp (cFW rfl (stp (cTW rfl rfl)))
  | k + 2, fuel + 1, _, hf, P, U, V, D, n, n', B, I, E, E', w, w', h, hw, hB => by
    have hm : maxN = 1099511627776 := rfl
    have b1 := h.b1; have b2 := h.b2; have b3 := h.b3
    have hl := h.ed.len
    have h2 := ((h.wireI.wireI).cnt (V1 := (n' : Int) :: ((n' : Int) + 1) :: V) (D1 := [w] ++ D) (fun x => by
      rw [cntC, cntC, cntC, cntC, show ((n' + 1 : Nat) : Int) = (n' : Int) + 1 by omega]; omega) (fun _ => rfl) (Nat.le_refl _)).edge2 3 0 (ins' := [w']) ⟨hw, trivial⟩
    have h3 := h2.perm (D1 := ((n : Int) + 1) :: ((n : Int) :: D)) (fun x => by rw [cntC, cntC, cntC, cntC]; omega)
    obtain ⟨P', n1, E1, n1', E1', r, r', k1, k2, k3, k4, k5, k6⟩ := fan_sim I2 O2 I3 O3 (k + 1) fuel (by omega) (by omega) (h3.setB (B1 := B + 2) (by omega) (by omega) (by simp; omega)) (w' := (n' : Int) + 1) (List.mem_append_right _ (by simp)) (by omega)
    have hk : ((k + 2 : Nat) : Int) - 1 = ((k + 1 : Nat) : Int) := by omega
    refine ⟨P', n1, E1, n1', E1', (n : Int) :: r, (n' : Int) :: r', ?_, ?_, fun p hp => k3 p (List.mem_append_left _ hp), ⟨k3 _ (List.mem_append_right _ (by simp)), k4⟩, by simp [k5], (k6.perm (fun x => by
      simp only [List.count_append, List.cons_append, cntC]; omega)).up (by omega)⟩
    · refine stp (cFW (dF (by omega)) (stp (cFW (dF (by omega)) ?_)))
      refine bnd (wireS_ (by omega)) (bnd (wireS_ (by omega)) (bnd (edgeS_ (by dsimp only; omega) _ _ _ _) (bnd (subO_of (by omega) (by omega)) ?_)))
      rw [hk]
      dsimp only
      rw [show ((n + 1 : Nat) : Int) = (n : Int) + 1 by omega]
      refine bnd (show F_spec_axMake_fan_n fuel (((n + 1 + 1 : Nat) : Int), E ++ [(3, 0, [w], [(n : Int), (n : Int) + 1])], I2, O2) ((n : Int) + 1) ((k + 1 : Nat) : Int) = _ from k1) (bnd (appO_of (by simp; omega)) rfl)
    · refine stp (cFW (dF (by omega)) (stp (cFW (dF (by omega)) ?_)))
      refine bnd (wiresI_ 2 (by omega)) (bnd (edgeI_ (by dsimp only; omega) _ _ _ _) (bnd (a := (((n1' : Nat) : Int), E1', (n' : Int) :: r')) (bnd (subO_of (by omega) (by omega)) ?_) rfl))
      rw [hk]
      dsimp only
      refine bnd (a := (n' : Int)) rfl (bnd (a := (n' : Int) + 1) rfl ?_)
      refine bnd (show F_impl_drawing_fanOut_n fuel (((n' + 1 + 1 : Nat) : Int), E' ++ [(3, 0, [w'], [(n' : Int), (n' : Int) + 1])], I3, O3) ((n' : Int) + 1) ((k + 1 : Nat) : Int) = _ from k2) (bnd (appO_of (by have := k4.len; simp; omega)) rfl)

/-! ### sums -/
theorem sum_sim (I2 O2 I3 O3 : List Int) : ∀ (k fuel : Nat), k < fuel → ∀ {P : List (Int × Int)} {U V D : List Int} {n n' B : Nat} {I : List Int} {E E' : List Edg} {l l' : List Int}, l.length = k → Dw P U V (l ++ D) n I E n' E' B → LsR P l l' → B + 2 * k + 2 ≤ 1000000 →
    ∃ P' n1 E1 n1' E1' r r', F_spec_axMake_sum_n fuel ((n : Int), E, I2, O2) l = some ((((n1 : Nat) : Int), E1, I2, O2), r) ∧ F_impl_drawing_sum_n fuel ((n' : Int), E', I3, O3) l' = some ((((n1' : Nat) : Int), E1', I3, O3), r') ∧
      (∀ p ∈ P, p ∈ P') ∧ (r, r') ∈ P' ∧ Dw P' U V (r :: D) n1 I E1 n1' E1' (B + 2 * k + 2)
  | 0, fuel + 1, _, P, U, V, D, n, n', B, I, E, E', l, l', hl, h, hr, hB => by
    obtain rfl : l = [] := List.length_eq_zero_iff.1 hl
    obtain rfl : l' = [] := List.length_eq_zero_iff.1 (hr.len.symm.trans hl)
    have b1 := h.b1; have b2 := h.b2; have b3 := h.b3
    have hle := h.ed.len
    have h1 := h.wireI.edge1 (ins := []) (ins' := []) 6 0 trivial
    refine ⟨_, _, _, _, _, (n : Int), (n' : Int), ?_, ?_, fun p hp => List.mem_append_left _ hp, by simp, h1.up (by omega)⟩
    · exact stp (cFW rfl (stp (cTW rfl (bnd (wireS_ (by omega)) (bnd (edgeS_ (by dsimp only; omega) _ _ _ _) rfl)))))
    · exact bnd (a := -1) rfl (stp (cFW rfl (bnd (wireI_ (by omega)) (stp (cTW rfl (bnd (edgeI_ (by dsimp only; omega) _ _ _ _) rfl))))))
  | 1, fuel + 1, _, P, U, V, D, n, n', B, I, E, E', l, l', hl, h, hr, hB => by
    match l, l', hl, hr with
    | [x], [y], _, hr =>
      refine ⟨P, n, E, n', E', x, y, ?_, ?_, fun p hp => hp, hr.1, h.up (by omega)⟩
      · exact stp (cTW rfl (bnd (a := x) rfl rfl))
      · exact bnd (a := 0) rfl (stp (cTW rfl (bnd (a := y) rfl rfl)))
  | k + 2, fuel + 1, hf, P, U, V, D, n, n', B, I, E, E', l, l', hl, h, hr, hB => by
    have hm : maxN = 1099511627776 := rfl
    have b1 := h.b1; have b2 := h.b2; have b3 := h.b3
    have hle := h.ed.len
    have hl' : l'.length = k + 2 := hr.len.symm.trans hl
    obtain ⟨x, y, hx, hy, hxy⟩ := hr.get (i := k + 1) (by omega)
    have hsp : l = l.take (k + 1) ++ [x] := by
      obtain ⟨h1, h2⟩ := List.getElem?_eq_some_iff.1 hx
      rw [← h2, ← List.take_succ_eq_append_getElem h1]
      exact (List.take_of_length_le (by omega)).symm
    have h1 := h.wireI.perm (D1 := l.take (k + 1) ++ (x :: D)) (fun u => by
      conv => lhs; rw [hsp]
      rw [List.append_assoc]; rfl)
    obtain ⟨P', n1, E1, n1', E1', r, r', k1, k2, k3, k4, k5⟩ := sum_sim I2 O2 I3 O3 (k + 1) fuel (by omega) (by rw [List.length_take]; omega) h1 (hr.take (k + 1)) (by omega)
    have c1 := k5.b1; have c2 := k5.b2; have c3 := k5.b3
    have cl := k5.ed.len
    have h2 := Dw.edge1 (ins := [r, x]) (ins' := [r', y]) 5 0 k5 ⟨k4, k3 _ hxy, trivial⟩
    have hk : ((l.length : Nat) : Int) - 1 = ((k + 1 : Nat) : Int) := by omega
    have hk' : ((l'.length : Nat) : Int) - 1 = ((k + 1 : Nat) : Int) := by omega
    have hs : sliceO l 0 ((k + 1 : Nat) : Int) = some (l.take (k + 1)) := by
      unfold sliceO
      rw [if_pos (by omega)]; rfl
    have hs' : sliceO l' 0 ((k + 1 : Nat) : Int) = some (l'.take (k + 1)) := by
      unfold sliceO
      rw [if_pos (by omega)]; rfl
    refine ⟨_, _, _, _, _, (n1 : Int), (n' : Int), ?_, ?_, fun p hp => List.mem_append_left _ (k3 p hp), by simp, h2.up (by omega)⟩
    · refine stp (cFW (dF (by omega)) (stp (cFW (dF (by omega)) (bnd (subO_of (by omega) (by omega)) ?_))))
      rw [hk]
      exact bnd hs (bnd k1 (bnd (wireS_ (by omega)) (bnd (idxO_of hx) (bnd (edgeS_ (by dsimp only; omega) _ _ _ _) rfl))))
    · refine bnd (subO_of (by omega) (by omega)) ?_
      rw [hk']
      refine stp (cFW (dF (by omega)) (bnd (wireI_ (by omega)) (stp (cFW (dF (by omega)) (bnd (a := (((n1' : Nat) : Int), E1' ++ [(5, 0, [r', y], [(n' : Int)])])) ?_ rfl)))))
      exact bnd hs' (bnd k2 (bnd (idxO_of hy) (bnd (edgeI_ (by dsimp only; omega) _ _ _ _) rfl)))
end Go.Proofs.YtbofgnbanmbopaaGreatDoor
namespace Go.Proofs.YtbofgnbanmbopaaGreatDoor
set_option linter.unusedVariables false

/-! ### from pairs to a map of wires -/
def lkp : List (Int × Int) → Int → Int
  | [], _ => 0
  | p :: l, x => if p.1 = x then p.2 else lkp l x
theorem lkp_of : ∀ {P : List (Int × Int)} {x y : Int}, (P.map (·.1)).Nodup → (x, y) ∈ P → lkp P x = y
  | p :: l, x, y, hn, h => by
    obtain ⟨h1, h2⟩ := List.nodup_cons.1 hn
    unfold lkp
    rcases List.mem_cons.1 h with rfl | h
    · exact if_pos rfl
    · rw [if_neg (fun e => h1 (by show p.1 ∈ _; rw [e]; exact List.mem_map.2 ⟨(x, y), h, rfl⟩))]
      exact lkp_of h2 h
theorem od_full {n : Nat} {l : List Int} (h : ∀ x, l.count x = inN n x) : Od n l ∧ l.length = n ∧ ∀ k : Nat, k < n → (k : Int) ∈ l := by
  have ho : Od n l := od_of fun x => by rw [h]; exact Nat.le_refl _
  have hc : ∀ k : Nat, k < n → (k : Int) ∈ l := fun k hk => List.count_pos_iff.1 (by rw [h]; unfold inN; rw [if_pos (by omega)]; omega)
  refine ⟨ho, ?_, hc⟩
  rw [← seenN_nodup ho.r ho.d]
  exact seenN_full.2 hc
theorem snd_uniq : ∀ {P : List (Int × Int)} {x x' y : Int}, (P.map (·.2)).Nodup → (x, y) ∈ P → (x', y) ∈ P → x = x'
  | p :: l, x, x', y, hn, h, h' => by
    obtain ⟨h1, h2⟩ := List.nodup_cons.1 hn
    rcases List.mem_cons.1 h with e | hq
    · rcases List.mem_cons.1 h' with e' | hq'
      · exact congrArg Prod.fst (e.trans e'.symm)
      · exact (h1 (List.mem_map.2 ⟨(x', y), hq', by rw [← e]⟩)).elim
    · rcases List.mem_cons.1 h' with e' | hq'
      · exact (h1 (List.mem_map.2 ⟨(x, y), hq, by rw [← e']⟩)).elim
      · exact snd_uniq h2 hq hq'
theorem Dw.same {P : List (Int × Int)} {D : List Int} {n n' B : Nat} {I : List Int} {E E' : List Edg} (h : Dw P [] [] D n I E n' E' B) :
    n' = n ∧ ∃ t, Ij n t ∧ (∀ y : Nat, y < n → ∃ k : Nat, k < n ∧ t k = (y : Int)) ∧ (∀ l l', LsR P l l' → l' = mp t l) ∧ E' = E.map (mpE t) := by
  obtain ⟨a1, a2, a3⟩ := od_full (n := n) (l := P.map (·.1)) (fun x => by have := h.pa x; simpa using this)
  obtain ⟨b1, b2, b3⟩ := od_full (n := n') (l := P.map (·.2)) (fun x => by have := h.pb x; simpa using this)
  rw [List.length_map] at a2 b2
  have hnn : n' = n := b2.symm.trans a2
  subst hnn
  have hex : ∀ k : Nat, k < n' → ∃ y, ((k : Int), y) ∈ P := fun k hk => by
    obtain ⟨p, hp, e⟩ := List.mem_map.1 (a3 k hk)
    exact ⟨p.2, by rw [← e]; exact hp⟩
  have hls : ∀ l l', LsR P l l' → l' = mp (fun k : Nat => lkp P (k : Int)) l := by
    intro l
    induction l with
    | nil =>
      intro l' hl
      cases l' with
      | nil => rfl
      | cons y l' => exact hl.elim
    | cons x l ih =>
      intro l' hl
      cases l' with
      | nil => exact hl.elim
      | cons y l' =>
        have hx := a1.r x (List.mem_map.2 ⟨(x, y), hl.1, rfl⟩)
        show y :: l' = lkp P ((x.toNat : Nat) : Int) :: mp (fun k : Nat => lkp P (k : Int)) l
        rw [show ((x.toNat : Nat) : Int) = x by omega, lkp_of a1.d hl.1, ← ih l' hl.2]
  refine ⟨rfl, fun k : Nat => lkp P (k : Int), ⟨fun k hk => ?_, fun j k hj hk e => ?_⟩, fun y hy => ?_, hls, ?_⟩
  · obtain ⟨y, hy⟩ := hex k hk
    rw [lkp_of a1.d hy]
    exact b1.r y (List.mem_map.2 ⟨_, hy, rfl⟩)
  · obtain ⟨y, hy⟩ := hex j hj
    obtain ⟨z, hz⟩ := hex k hk
    rw [lkp_of a1.d hy, lkp_of a1.d hz] at e
    subst e
    have := snd_uniq b1.d hy hz
    omega
  · obtain ⟨p, hp, e⟩ := List.mem_map.1 (b3 y hy)
    have hx := a1.r p.1 (List.mem_map.2 ⟨p, hp, rfl⟩)
    refine ⟨p.1.toNat, by omega, ?_⟩
    show lkp P ((p.1.toNat : Nat) : Int) = _
    rw [show ((p.1.toNat : Nat) : Int) = p.1 by omega, ← e]
    exact lkp_of a1.d hp
  · have key : ∀ E E' : List Edg, EsR P E E' → E' = E.map (mpE fun k : Nat => lkp P (k : Int)) := by
      intro E
      induction E with
      | nil =>
        intro E' hE
        cases E' with
        | nil => rfl
        | cons e E' => exact hE.elim
      | cons e E ih =>
        intro E' hE
        cases E' with
        | nil => exact hE.elim
        | cons e' E' =>
          obtain ⟨⟨h1, h2, h3, h4⟩, h5⟩ := hE
          rw [List.map_cons, ← ih E' h5]
          congr 1
          exact Prod.ext h1.symm (Prod.ext h2.symm (Prod.ext (hls _ _ h3) (hls _ _ h4)))
    exact key _ _ h.ed
theorem Ij.od {n : Nat} {t : Nat → Int} (h : Ij n t) : ∀ {l : List Int}, Od n l → Od n (mp t l)
  | [], _ => od_nil n
  | x :: l, ho => by
    obtain ⟨d1, d2⟩ := List.nodup_cons.1 ho.d
    have hl : inRg n l := fun y hy => ho.r y (.tail _ hy)
    have ih := Ij.od h (l := l) ⟨hl, d2⟩
    have hx := ho.r x (.head _)
    refine ⟨h.rg ho.r, List.nodup_cons.2 ⟨fun hm => d1 ?_, ih.d⟩⟩
    have := (h.mem hl (k := x.toNat) (by omega)).1 hm
    rwa [show ((x.toNat : Nat) : Int) = x by omega] at this

/-! ### validity -/
theorem gOk_cov {n : Nat} {g : Gra} (hw : g.1 = (n : Int)) (hI : inRg n g.2.2.1) (hO : inRg n g.2.2.2) (hE : edRg n g.2.1) (hc : ∀ k : Nat, k < n → (k : Int) ∈ allW g) :
    gOk g = (rng (n : Int) 0 100 && (decide (g.2.1.length ≤ 60) && (decide (g.2.2.1.length ≤ 12) && (decide (g.2.2.2.length ≤ 12) && g.2.1.all arB)))) := by
  unfold gOk
  have h1 : (g.2.1.all (edW g.1)) = g.2.1.all arB := by
    rw [hw]
    rw [Bool.eq_iff_iff, List.all_eq_true, List.all_eq_true]
    refine forall_congr' fun e => forall_congr' fun he => ?_
    unfold edW
    rw [wOk_of (hE e he).1, wOk_of (hE e he).2]
    simp
  have h2 : ((List.range g.1.toNat).all fun k : Nat => decide ((k : Int) ∈ allW g)) = true := by
    rw [hw, Int.toNat_natCast]
    exact List.all_eq_true.2 fun k hk => decide_eq_true (hc k (List.mem_range.1 hk))
  rw [h1, h2, hw, wOk_of hI, wOk_of hO]
  simp
theorem arB_mp (t : Nat → Int) (e : Edg) : arB (mpE t e) = arB e := by
  unfold arB
  show (genB e.1 e.2.1 && (decide (((mp t (edI e)).length : Int) = _) && decide (((mp t (edO e)).length : Int) = _))) = _
  rw [mp_len, mp_len]; rfl
theorem org_mp (w : Int) (t : Nat → Int) (g : Gra) : origins (mpG w t g) = mp t (origins g) := by
  have key : ∀ E : List Edg, ((E.map (mpE t)).map edO).flatten = mp t (E.map edO).flatten := by
    intro E
    induction E with
    | nil => rfl
    | cons e E ih =>
      rw [List.map_cons, List.map_cons, List.flatten_cons, ih, List.map_cons, List.flatten_cons]
      exact List.map_append.symm
  show mp t g.2.2.1 ++ ((g.2.1.map (mpE t)).map edO).flatten = mp t (g.2.2.1 ++ _)
  rw [key]
  exact List.map_append.symm
theorem end_mp (w : Int) (t : Nat → Int) (g : Gra) : ends (mpG w t g) = mp t (ends g) := by
  have key : ∀ E : List Edg, ((E.map (mpE t)).map edI).flatten = mp t (E.map edI).flatten := by
    intro E
    induction E with
    | nil => rfl
    | cons e E ih =>
      rw [List.map_cons, List.map_cons, List.flatten_cons, ih, List.map_cons, List.flatten_cons]
      exact List.map_append.symm
  show mp t g.2.2.2 ++ ((g.2.1.map (mpE t)).map edI).flatten = mp t (g.2.2.2 ++ _)
  rw [key]
  exact List.map_append.symm
theorem arB_ne {e : Edg} (h : arB e = true) : edI e ++ edO e ≠ [] := by
  intro he
  obtain ⟨h1, h2⟩ := List.append_eq_nil_iff.1 he
  unfold arB at h
  simp only [Bool.and_eq_true, decide_eq_true_eq] at h
  obtain ⟨hg, h3, h4⟩ := h
  have e1 : e.2.2.1 = [] := h1
  have e2 : e.2.2.2 = [] := h2
  rw [e1] at h3
  rw [e2] at h4
  unfold genB at hg
  simp only [Bool.and_eq_true] at hg
  have hr := rng_true.1 hg.1
  have : e.1 = 3 ∨ e.1 = 4 ∨ e.1 = 5 ∨ e.1 = 6 ∨ e.1 = 7 ∨ e.1 = 8 ∨ e.1 = 9 ∨ e.1 = 10 ∨ e.1 = 11 ∨ e.1 = 12 ∨ e.1 = 13 ∨ e.1 = 14 := by omega
  rcases this with h | h | h | h | h | h | h | h | h | h | h | h <;> rw [h] at h3 h4 <;> revert h3 h4 <;> decide
theorem cnG_small {n : Nat} {g : Gra} (h : GOk g n) : nGraph (cnG n g) ≤ 1048576 := by
  have h60 := h.e60; have h12 := h.i12; have h13 := h.o12
  have key : ∀ (wp ep : Nat → Int), ∀ e ∈ setsL g.2.1.length ep (g.2.1.map (mpE wp)) g.2.1.length, nEdge e ≤ 4 := by
    intro wp ep e he
    rcases setsL_mem _ _ _ _ e he with rfl | he
    · exact Nat.zero_le _
    · obtain ⟨x, hx, rfl⟩ := List.mem_map.1 he
      have := arB_len (List.all_eq_true.1 h.ar x hx)
      unfold nEdge nIntS
      show (mp wp (edI x)).length + (mp wp (edO x)).length ≤ 4
      rw [mp_len, mp_len]; omega
  have hsum : ∀ {l : List Edg} {c : Nat}, (∀ a ∈ l, nEdge a ≤ c) → tot nEdge l ≤ l.length * c := by
    intro l c
    induction l with
    | nil => intro _; exact Nat.zero_le _
    | cons a l ih =>
      intro hl
      have h1 := ih fun b hb => hl b (.tail _ hb)
      have h2 := hl a (.head _)
      rw [tot_cons, List.length_cons, Nat.add_mul]; omega
  have hs := hsum (key (fun k => plc (walk n g).1 k) (fun k => plc (walk n g).2 k))
  rw [setsL_len] at hs
  unfold nGraph nEdgeS nIntS cnG renG
  dsimp only
  rw [setsL_len, mp_len, mp_len]
  have : tot nEdge (setsL g.2.1.length (fun k => plc (walk n g).2 k) (g.2.1.map (mpE fun k => plc (walk n g).1 k)) g.2.1.length) ≤ 240 := by omega
  refine Nat.le_trans (Nat.add_le_add (Nat.add_le_add (Nat.add_le_add h60 this) h12) h13) ?_
  omega
/-- what both programs make of drawings that have gone alike -/
theorem finish_same {P : List (Int × Int)} {n n' B : Nat} {I I' O O' : List Int} {E E' : List Edg} (h : Dw P [] [] O n I E n' E' B) (hI : LsR P I I') (hO : LsR P O O') :
    ∃ G, F_spec_axMake_done ((n : Int), E, I, O) = some G ∧ F_impl_drawing_finish ((n' : Int), E', I', O') = some G ∧ nGraph G.1 ≤ 1048576 := by
  obtain ⟨rfl, t, ht, hsur, hls, rfl⟩ := h.same
  obtain rfl := hls _ _ hI
  obtain rfl := hls _ _ hO
  have og := od_full (n := n') (l := origins ((n' : Int), E, I, O)) (fun x => by
    show (I ++ (E.map edO).flatten).count x = _
    rw [List.count_append]; exact h.og x)
  have en := od_full (n := n') (l := ends ((n' : Int), E, I, O)) (fun x => by
    show (O ++ (E.map edI).flatten).count x = _
    rw [List.count_append, Nat.add_comm]; exact h.en x)
  have hIr : inRg n' I := fun x hx => og.1.r x (List.mem_append_left _ hx)
  have hOr : inRg n' O := fun x hx => en.1.r x (List.mem_append_left _ hx)
  have hEr : edRg n' E := fun e he => ⟨fun x hx => en.1.r x (List.mem_append_right _ (List.mem_flatten.2 ⟨edI e, List.mem_map_of_mem he, hx⟩)), fun x hx => og.1.r x (List.mem_append_right _ (List.mem_flatten.2 ⟨edO e, List.mem_map_of_mem he, hx⟩))⟩
  have hcov : ∀ k : Nat, k < n' → (k : Int) ∈ allW ((n' : Int), E, I, O) := fun k hk => by
    rcases List.mem_append.1 (og.2.2 k hk) with h1 | h1
    · exact mem_allW.2 (.inl h1)
    · obtain ⟨l, hl, hx⟩ := List.mem_flatten.1 h1
      obtain ⟨e, he, rfl⟩ := List.mem_map.1 hl
      exact mem_allW.2 (.inr (.inr ⟨e, he, .inr hx⟩))
  have hcov' : ∀ k : Nat, k < n' → (k : Int) ∈ allW (mpG (n' : Int) t ((n' : Int), E, I, O)) := fun y hy => by
    obtain ⟨k, hk, e⟩ := hsur y hy
    rw [← e]
    rcases mem_allW.1 (hcov k hk) with h1 | h1 | ⟨e, he, h1⟩
    · exact mem_allW.2 (.inl ((ht.mem hIr hk).2 h1))
    · exact mem_allW.2 (.inr (.inl ((ht.mem hOr hk).2 h1)))
    · refine mem_allW.2 (.inr (.inr ⟨mpE t e, List.mem_map_of_mem he, ?_⟩))
      exact h1.imp (fun h1 => (ht.mem (hEr e he).1 hk).2 h1) (fun h1 => (ht.mem (hEr e he).2 hk).2 h1)
  have hEr' : edRg n' (E.map (mpE t)) := fun e he => by
    obtain ⟨x, hx, rfl⟩ := List.mem_map.1 he
    exact ⟨ht.rg (hEr x hx).1, ht.rg (hEr x hx).2⟩
  have g1 := gOk_cov (g := ((n' : Int), E, I, O)) rfl hIr hOr hEr hcov
  have g2 := gOk_cov (g := mpG (n' : Int) t ((n' : Int), E, I, O)) rfl (ht.rg hIr) (ht.rg hOr) hEr' hcov'
  have hall : (E.map (mpE t)).all arB = E.all arB := by
    rw [List.all_map]
    congr 1
    funext e
    exact arB_mp t e
  have hgg : gOk (mpG (n' : Int) t ((n' : Int), E, I, O)) = gOk ((n' : Int), E, I, O) := by
    rw [g1, g2]
    show (_ && (decide ((E.map (mpE t)).length ≤ 60) && (decide ((mp t I).length ≤ 12) && (decide ((mp t O).length ≤ 12) && (E.map (mpE t)).all arB)))) = _
    rw [hall, mp_len, mp_len, List.length_map]
  have hmono : monoB (mpG (n' : Int) t ((n' : Int), E, I, O)) = gOk ((n' : Int), E, I, O) := by
    have o1 := ht.od og.1
    have o2 := ht.od en.1
    unfold monoB
    rw [hgg, org_mp, end_mp]
    show (gOk _ && ((decide ((mp t _).length = ((n' : Int)).toNat) && diffB ((n' : Int)).toNat (mp t _)) && (decide ((mp t _).length = ((n' : Int)).toNat) && diffB ((n' : Int)).toNat (mp t _)))) = _
    rw [Int.toNat_natCast, mp_len, mp_len, og.2.1, en.2.1]
    unfold diffB
    rw [wOk_of o1.r, wOk_of o2.r, decide_eq_true o1.d, decide_eq_true o2.d]
    simp
  cases hg : gOk ((n' : Int), E, I, O) with
  | false =>
    rw [hg] at hmono
    refine ⟨(noG, false), bnd (hgValid_ _) (stp (cTW (nF hg) rfl)), bnd (isMonoI_ _) (stp (cTW (nF hmono) rfl)), by decide⟩
  | true =>
    rw [hg] at hmono
    obtain ⟨m, hm⟩ := gOk_facts hg
    obtain rfl : m = n' := by have := hm.w; dsimp only at this; omega
    have hrg := hm.rgd
    have hn := hm.n100
    have hf : Full m ((m : Int), E, I, O) := by
      refine full_of hrg ?_ ?_ (fun e he => arB_ne (List.all_eq_true.1 hm.ar e he)) (fun S h1 h2 h3 k hk => h.co S h1 h2 h3 k (by omega) (by omega))
      · exact (List.nodup_append.1 en.1.d).2.1
      · exact (List.nodup_append.1 og.1.d).2.1
    obtain ⟨c1, c2⟩ := canon_same (by omega) rfl hrg hf ht
    exact ⟨(cnG m ((m : Int), E, I, O), true), bnd (hgValid_ _) (stp (cFW (nT hg) (bnd c1 rfl))), bnd (isMonoI_ _) (stp (cFW (nT hmono) (bnd c2 rfl))), cnG_small hm⟩

/-! ### inputs -/
def ug (n : Nat) : List Int := (List.range n).map fun i : Nat => (i : Int)
def dg (n : Nat) : List (Int × Int) := (List.range n).map fun i : Nat => ((i : Int), (i : Int))
theorem ug_cnt (n : Nat) (x : Int) : (ug n).count x = inN n x := by
  induction n with
  | zero => unfold inN; rw [if_neg (by omega)]; rfl
  | succ n ih =>
    rw [inN_succ, ← ih]
    unfold ug
    rw [List.range_succ, List.map_append, List.count_append]
    show _ + List.count x [(n : Int)] = _
    rw [cnt1]
theorem ug_len (n : Nat) : (ug n).length = n := by simp [ug]
theorem dg_ls (n : Nat) : LsR (dg n) (ug n) (ug n) := by
  have key : ∀ (l : List Nat) (P : List (Int × Int)), (∀ i ∈ l, ((i : Int), (i : Int)) ∈ P) → LsR P (l.map fun i : Nat => (i : Int)) (l.map fun i : Nat => (i : Int)) := by
    intro l P h
    induction l with
    | nil => trivial
    | cons a l ih => exact ⟨h a (.head _), ih fun i hi => h i (.tail _ hi)⟩
  exact key _ _ fun i hi => List.mem_map.2 ⟨i, hi, rfl⟩
theorem inputs_ {n : Nat} (hn : n ≤ 1000) : F_spec_axMake_inputs (0, [], [], []) (n : Int) = some ((n : Int), [], ug n, []) := by
  have hm : maxN = 1099511627776 := rfl
  have h0 : ((0 : Int), ([] : List Int), (n : Int)) = ((((0 : Nat) : Int)), ug 0, ((n : Int) - ((0 : Nat) : Int))) := by
    show _ = ((0 : Int), ([] : List Int), (n : Int) - 0)
    rw [Int.sub_zero]
  show whileO _ ((0 : Int), ([] : List Int), (n : Int)) = _
  rw [h0]
  refine whileO_is (fun j => ((j : Int), ug j, (n : Int) - (j : Int))) n (fun j hj => ?_) ?_
  · refine stp (cTW (dT (by dsimp only; omega)) (bnd (wireS_ (by omega)) (bnd (appO_of (by rw [ug_len]; simp; omega)) (bnd (subO_of (by dsimp only; omega) (by dsimp only; omega)) ?_))))
    unfold ug
    dsimp only
    rw [List.range_succ, List.map_append, show (n : Int) - (j : Int) - 1 = (n : Int) - ((j + 1 : Nat) : Int) by omega]
    rfl
  · exact stp (cFW (dF (by dsimp only; omega)) rfl)
theorem wires0_ {n : Nat} (hn : n ≤ 1000) : F_impl_drawing_wires (0, [], [], []) (n : Int) = some (((n : Int), [], [], []), ug n) := by
  have := wiresI_ (n := 0) (E := []) (I := []) (O := []) n (by omega)
  simp only [Nat.zero_add] at this
  exact this
/-- inputs alone -/
theorem dw_inputs (n : Nat) : Dw (dg n) [] [] (ug n) n (ug n) [] n [] n := by
  have h1 : (dg n).map (·.1) = ug n := by unfold dg ug; rw [List.map_map]; rfl
  have h2 : (dg n).map (·.2) = ug n := by unfold dg ug; rw [List.map_map]; rfl
  refine ⟨fun x => ?_, fun x => ?_, trivial, fun x => ?_, fun x => ?_, fun S h1 h2 h3 x hx0 hx1 => ?_, Nat.le_refl _, Nat.le_refl _, Nat.zero_le _⟩
  · rw [h1, ug_cnt]; rfl
  · rw [h2, ug_cnt]; rfl
  · rw [ug_cnt]; rfl
  · rw [ug_cnt]; unfold csE; simp
  · exact h1 x (List.count_pos_iff.1 (by rw [ug_cnt]; unfold inN; rw [if_pos ⟨hx0, hx1⟩]; omega))

/-! ### SumGraph -/
end Go.Proofs.YtbofgnbanmbopaaGreatDoor
