import Derived.Test.YtcbkcgnigncahaaTGivenT
namespace Go.Proofs.Ytcbkcgnigncahaa.P
open Go.RowKit Go.Maps Go.Proofs.YtcbkcgnigncahaaW.PrintWords
set_option linter.unusedVariables false
set_option linter.unusedSimpArgs false
/-- j is i or one of its ancestors. -/
inductive Anc (s : Ln) : Int → Int → Prop
  | refl (i : Int) : Anc s i i
  | up (i j : Int) (h0 : 0 ≤ i) (h : Anc s (rd_T43 s.V i).f1 j) : Anc s i j
theorem Anc.le {s : Ln} (hg : LnOk s) {i j : Int} (h : Anc s i j) : 0 ≤ j → i < s.V.length → j ≤ i := by
  induction h with
  | refl i => intro _ _; exact Int.le_refl _
  | up i j h0 h ih =>
    intro hj hi
    have := hg i h0 hi
    have := ih hj (by omega)
    omega
theorem search_found {s : Ln} (hg : Good s) (p : S43 → Bool) : ∀ (k : Nat) (i : Int), i < s.V.length → (searchGo s p k i = -1 ∨ (0 ≤ searchGo s p k i ∧ searchGo s p k i < s.V.length ∧ (rd_T43 s.V (searchGo s p k i)).f7 = false ∧ p (rd_T43 s.V (searchGo s p k i)) = true ∧ Anc s i (searchGo s p k i)))
  | 0, i, hi => .inl rfl
  | k + 1, i, hi => by
    simp only [searchGo]
    by_cases h0 : i < 0
    · rw [if_pos h0]; exact .inl rfl
    · rw [if_neg h0]
      by_cases hp : (!(rd_T43 s.V i).f7 && p (rd_T43 s.V i)) = true
      · rw [if_pos hp, (hg.par i (by omega) hi).2.2]
        simp only [Bool.and_eq_true, Bool.not_eq_true'] at hp
        exact .inr ⟨by omega, hi, hp.1, hp.2, .refl _⟩
      · rw [if_neg hp]
        have h1 := hg.par i (by omega) hi
        rcases search_found hg p k (rd_T43 s.V i).f1 (by omega) with h | h
        · exact .inl h
        · exact .inr ⟨h.1, h.2.1, h.2.2.1, h.2.2.2.1, .up _ _ (by omega) h.2.2.2.2⟩
/-- With enough rounds, the number of rounds is of no matter. -/
theorem search_fuel {s : Ln} (hg : LnOk s) (p : S43 → Bool) : ∀ (k k' : Nat) (i : Int), i < s.V.length → (i + 1).toNat ≤ k → (i + 1).toNat ≤ k' → searchGo s p k i = searchGo s p k' i := by
  intro k
  induction k with
  | zero =>
    intro k' i hi h1 h2
    rw [searchGo_neg _ _ _ _ (by omega), searchGo_neg _ _ _ _ (by omega)]
  | succ k ih =>
    intro k' i hi h1 h2
    by_cases h0 : i < 0
    · rw [searchGo_neg _ _ _ _ h0, searchGo_neg _ _ _ _ h0]
    · obtain ⟨k'', rfl⟩ : ∃ k'', k' = k'' + 1 := ⟨k' - 1, by omega⟩
      simp only [searchGo]
      rw [if_neg h0, if_neg h0]
      have := hg i (by omega) hi
      rw [ih k'' _ (by omega) (by omega) (by omega)]
/-- The head is at least what any search finds, and what is found is its ancestor. -/
theorem search_head {s : Ln} (hg : Good s) (p : S43 → Bool) : ∀ (k : Nat) (i : Int), i < s.V.length → 0 ≤ searchGo s p k i → 0 ≤ searchGo s (fun _ => true) k i ∧ Anc s (searchGo s (fun _ => true) k i) (searchGo s p k i)
  | 0, i, hi, h => absurd h (by simp [searchGo])
  | k + 1, i, hi, h => by
    simp only [searchGo] at h ⊢
    by_cases h0 : i < 0
    · rw [if_pos h0] at h; omega
    · rw [if_neg h0] at h ⊢
      rw [if_neg h0]
      have hid := (hg.par i (by omega) hi).2.2
      have hpar := hg.par i (by omega) hi
      cases h7 : (rd_T43 s.V i).f7 with
      | true =>
        rw [h7] at h
        simp only [Bool.not_true, Bool.false_and, Bool.false_eq_true, if_false] at h ⊢
        exact search_head hg p k _ (by omega) h
      | false =>
        rw [h7] at h
        simp only [Bool.not_false, Bool.true_and, if_true] at h ⊢
        rw [hid] at h ⊢
        refine ⟨by omega, ?_⟩
        by_cases hp : p (rd_T43 s.V i) = true
        · rw [if_pos hp]; exact .refl _
        · rw [if_neg hp] at h ⊢
          rcases search_found hg p k (rd_T43 s.V i).f1 (by omega) with h' | h'
          · omega
          · exact .up _ _ (by omega) h'.2.2.2.2
theorem base_anc {s : Ln} (hg : Good s) : ∀ (k : Nat) (a b : Int), 0 ≤ b → a < s.V.length → Anc s a b → (a + 1).toNat ≤ k → baseGo s k a b = b
  | 0, a, b, hb, ha, h, hk => by
    have := h.le hg.ok hb ha
    omega
  | k + 1, a, b, hb, ha, h, hk => by
    have hle := h.le hg.ok hb ha
    simp only [baseGo]
    by_cases e : a = b
    · subst e
      rw [if_neg (by simp)]
      omega
    · rw [if_pos ⟨e, by omega, hb⟩, if_pos (by omega)]
      cases h with
      | refl => exact absurd rfl e
      | up _ _ h0 h =>
        have := hg.ok a h0 ha
        exact base_anc hg k _ b hb (by omega) h (by omega)
/-- What Read finds. -/
theorem read_found {s : Ln} (hg : Good s) {name : ByteArray} (hh : hasB s.D name = true) (t u : Int) :
    readF s name t u = (-1, 7) ∨ ∃ id, readF s name t u = (id, 0) ∧ 0 ≤ id ∧ id < s.V.length ∧ (rd_T43 s.V id).f7 = false ∧ (rd_T43 s.V id).f3 ≤ t ∧ (rd_T43 s.V id).f4 ≤ u ∧ (rd_T43 s.V id).f0 = id ∧
      ∃ h, headF s name = (h, 0) ∧ id ≤ h ∧ h < s.V.length ∧ baseF s h id = (id, 0) := by
  have hf := hg.first hh
  have hs : ∀ p, searchF s name p = (searchGo s p (s.V.length + 1) (firstF (lkp s.D name)), 0) := fun p => by unfold searchF; rw [if_neg (by rw [hh]; decide)]
  unfold readF
  rw [hs]
  simp only [true_and]
  rcases search_found hg (readP t u) (s.V.length + 1) (firstF (lkp s.D name)) hf.2 with h | ⟨h1, h2, h3, h4, h5⟩
  · rw [h]; exact .inl (by simp)
  · right
    obtain ⟨g1, g2⟩ := search_head hg (readP t u) (s.V.length + 1) (firstF (lkp s.D name)) hf.2 h1
    have g3 : searchGo s (fun _ => true) (s.V.length + 1) (firstF (lkp s.D name)) < s.V.length := by
      rcases search_found hg (fun _ => true) (s.V.length + 1) (firstF (lkp s.D name)) hf.2 with h | h
      · omega
      · exact h.2.1
    obtain ⟨id, hid⟩ : ∃ id, searchGo s (readP t u) (s.V.length + 1) (firstF (lkp s.D name)) = id := ⟨_, rfl⟩
    rw [hid] at h1 h2 h3 h4 h5 g2 ⊢
    rw [if_neg (by omega)]
    unfold readP at h4
    simp only [Bool.and_eq_true, decide_eq_true_eq] at h4
    refine ⟨id, rfl, h1, h2, h3, h4.1, h4.2, (hg.par id h1 h2).2.2, _, by unfold headF; rw [hs], g2.le hg.ok h1 g3, g3, ?_⟩
    unfold baseF
    rw [if_neg, base_anc hg _ _ _ h1 g3 g2 (by omega)]
    unfold existsB
    simp
    omega
theorem get_found {s : Ln} {id : Int} (h0 : 0 ≤ id) (h1 : id < s.V.length) (h7 : (rd_T43 s.V id).f7 = false) : getF s id = (rd_T43 s.V id, 0) := by
  unfold getF
  rw [if_neg (by unfold existsB; simp; omega), if_neg (by unfold closedB; rw [h7]; decide)]
/-- What is searched for among the elder versions does not see what has been appended. -/
theorem search_append {s : Ln} (hg : LnOk s) {V' : List S43} {D' : DataW Unit} (hV : ∃ x, V' = s.V ++ [x]) (p : S43 → Bool) : ∀ (k : Nat) (i : Int), i < s.V.length → searchGo ⟨D', V'⟩ p k i = searchGo s p k i
  | 0, i, hi => rfl
  | k + 1, i, hi => by
    obtain ⟨x, rfl⟩ := hV
    simp only [searchGo]
    by_cases h0 : i < 0
    · rw [if_pos h0, if_pos h0]
    · rw [if_neg h0, if_neg h0, rd_append_left (by omega) hi]
      have := hg i (by omega) hi
      rw [search_append hg ⟨x, rfl⟩ p k _ (by omega)]
/-- A version of a greater Known is not read. -/
theorem read_later {s : Ln} (hg : Good s) (name x : ByteArray) (a2 a3 a4 a5 t u : Int) (hu : u < a3) (hx : hasB s.D x = true) : readF (publishF s name a2 a3 a4 a5).2.2 x t u = readF s x t u ∧ hasB (publishF s name a2 a3 a4 a5).2.2.D x = true := by
  unfold publishF
  split
  · exact ⟨rfl, hx⟩
  rename_i h1
  have hn : hasB s.D name = true := by simpa using h1
  split
  · exact ⟨rfl, hx⟩
  split
  · exact ⟨rfl, hx⟩
  split
  · exact ⟨rfl, hx⟩
  have hhas : hasB (s.D.put (keyB name) (lnD (lkp s.D name).1 (s.V.length : Int))) x = true := by
    by_cases e : x = name
    · subst e; exact hasB_put_same hg.tidy _ _
    · rw [hasB_put_other e]; exact hx
  refine ⟨?_, hhas⟩
  have key : searchF ⟨s.D.put (keyB name) (lnD (lkp s.D name).1 (s.V.length : Int)), s.V ++ [⟨(s.V.length : Int), firstF (lkp s.D name), name, a2, a3, a4, a5, false⟩]⟩ x (readP t u) = searchF s x (readP t u) := by
    unfold searchF
    simp only
    rw [if_neg (by rw [hhas]; decide), if_neg (by rw [hx]; decide)]
    congr 1
    have hf := hg.first hx
    have hfn := hg.first hn
    simp only [List.length_append, List.length_singleton]
    by_cases e : x = name
    · subst e
      rw [lkp_put_same hg.tidy]
      have hnew : firstF ((lkp s.D x).1, (s.V.length : Int)) = (s.V.length : Int) := by unfold firstF; rw [if_pos (by simp only; omega)]
      rw [hnew]
      conv => lhs; unfold searchGo
      rw [if_neg (by omega), rd_append_new _ _ _ rfl]
      rw [if_neg (by unfold readP; simp; omega)]
      simp only
      rw [search_append hg.ok ⟨_, rfl⟩ _ _ _ hf.2]
    · rw [lkp_put_other e, search_append hg.ok ⟨_, rfl⟩ _ _ _ hf.2]
      exact search_fuel hg.ok _ _ _ _ hf.2 (by omega) (by omega)
  unfold readF
  rw [key]
end Go.Proofs.Ytcbkcgnigncahaa.P
