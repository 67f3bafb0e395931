import Derived.Test.YtcbkcgnigncahaaVGivenT
namespace Go.Proofs.Ytcbkcgnigncahaa.P
open Go.RowKit Go.Maps Go.Proofs.YtcbkcgnigncahaaW.PrintWords
set_option linter.unusedVariables false
set_option linter.unusedSimpArgs false
/-- j is i or one of its ancestors. -/
inductive Anc (s : Ln) : Int → Int → Prop
  | refl (i : Int) : Anc s i i
  | up (i j : Int) (h0 : 0 ≤ i) (h : Anc s (rd_T43 s.V i).f1 j) : Anc s i j
theorem Anc.le {s : Ln} (hg : LnOk s) {i j : Int} (h : Anc s i j) : 0 ≤ j → i < s.V.length → j ≤ i := by
  induction h with
  | refl i => intro _ _; exact Int.le_refl _
  | up i j h0 h ih =>
    intro hj hi
    have := hg i h0 hi
    have := ih hj (by omega)
    omega
/-- With enough rounds, the number of rounds is of no matter. -/
theorem search_fuel {s : Ln} (hg : LnOk s) (p : S43 → Bool) : ∀ (k k' : Nat) (i : Int), i < s.V.length → (i + 1).toNat ≤ k → (i + 1).toNat ≤ k' → searchGo s p k i = searchGo s p k' i := by
  intro k
  induction k with
  | zero =>
    intro k' i hi h1 h2
    rw [searchGo_neg _ _ _ _ (by omega), searchGo_neg _ _ _ _ (by omega)]
  | succ k ih =>
    intro k' i hi h1 h2
    by_cases h0 : i < 0
    · rw [searchGo_neg _ _ _ _ h0, searchGo_neg _ _ _ _ h0]
    · obtain ⟨k'', rfl⟩ : ∃ k'', k' = k'' + 1 := ⟨k' - 1, by omega⟩
      simp only [searchGo]
      rw [if_neg h0, if_neg h0]
      have := hg i (by omega) hi
      rw [ih k'' _ (by omega) (by omega) (by omega)]
theorem base_anc {s : Ln} (hg : Good s) : ∀ (k : Nat) (a b : Int), 0 ≤ b → a < s.V.length → Anc s a b → (a + 1).toNat ≤ k → baseGo s k a b = b
  | 0, a, b, hb, ha, h, hk => by
    have := h.le hg.ok hb ha
    omega
  | k + 1, a, b, hb, ha, h, hk => by
    have hle := h.le hg.ok hb ha
    simp only [baseGo]
    by_cases e : a = b
    · subst e
      rw [if_neg (by simp)]
      omega
    · rw [if_pos ⟨e, by omega, hb⟩, if_pos (by omega)]
      cases h with
      | refl => exact absurd rfl e
      | up _ _ h0 h =>
        have := hg.ok a h0 ha
        exact base_anc hg k _ b hb (by omega) h (by omega)
theorem get_found {s : Ln} {id : Int} (h0 : 0 ≤ id) (h1 : id < s.V.length) (h7 : (rd_T43 s.V id).f7 = false) : getF s id = (rd_T43 s.V id, 0) := by
  unfold getF
  rw [if_neg (by unfold existsB; simp; omega), if_neg (by unfold closedB; rw [h7]; decide)]
end Go.Proofs.Ytcbkcgnigncahaa.P
