import Derived.Test.YtcbkcgnigncahaaDGivenT
namespace Go.Proofs.Ytcbkcgnigncahaa.P
open Go.RowKit Go.Maps Go.Proofs.YtcbkcgnigncahaaW.PrintWords
set_option linter.unusedVariables false
set_option linter.unusedSimpArgs false
/-- j is i or one of its ancestors. -/
inductive Anc (s : Ln) : Int → Int → Prop
  | refl (i : Int) : Anc s i i
  | up (i j : Int) (h0 : 0 ≤ i) (h : Anc s (rd_T43 s.V i).f1 j) : Anc s i j
theorem Anc.le {s : Ln} (hg : LnOk s) {i j : Int} (h : Anc s i j) : 0 ≤ j → i < s.V.length → j ≤ i := by
  induction h with
  | refl i => intro _ _; exact Int.le_refl _
  | up i j h0 h ih =>
    intro hj hi
    have := hg i h0 hi
    have := ih hj (by omega)
    omega
theorem search_found {s : Ln} (hg : Good s) (p : S43 → Bool) : ∀ (k : Nat) (i : Int), i < s.V.length → (searchGo s p k i = -1 ∨ (0 ≤ searchGo s p k i ∧ searchGo s p k i < s.V.length ∧ (rd_T43 s.V (searchGo s p k i)).f7 = false ∧ p (rd_T43 s.V (searchGo s p k i)) = true ∧ Anc s i (searchGo s p k i)))
  | 0, i, hi => .inl rfl
  | k + 1, i, hi => by
    simp only [searchGo]
    by_cases h0 : i < 0
    · rw [if_pos h0]; exact .inl rfl
    · rw [if_neg h0]
      by_cases hp : (!(rd_T43 s.V i).f7 && p (rd_T43 s.V i)) = true
      · rw [if_pos hp, (hg.par i (by omega) hi).2.2]
        simp only [Bool.and_eq_true, Bool.not_eq_true'] at hp
        exact .inr ⟨by omega, hi, hp.1, hp.2, .refl _⟩
      · rw [if_neg hp]
        have h1 := hg.par i (by omega) hi
        rcases search_found hg p k (rd_T43 s.V i).f1 (by omega) with h | h
        · exact .inl h
        · exact .inr ⟨h.1, h.2.1, h.2.2.1, h.2.2.2.1, .up _ _ (by omega) h.2.2.2.2⟩
end Go.Proofs.Ytcbkcgnigncahaa.P
