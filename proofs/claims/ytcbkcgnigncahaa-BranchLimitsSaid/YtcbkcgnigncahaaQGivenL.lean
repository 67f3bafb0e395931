import Derived.Test.YtcbkcgnigncahaaQGivenK
import Derived.Maps.Views
namespace Go.Proofs.Ytcbkcgnigncahaa.P
open Go.RowKit Go.Maps Go.Proofs.YtcbkcgnigncahaaW.PrintWords Go.Proofs.YtcbkcgnigncahaaW.PrintLast Go.Proofs.YtcbkcgnigncahaaW.PrintMore
set_option linter.unusedVariables false
set_option linter.unusedSimpArgs false
theorem forkF_map {s : Ln} (h : IsMap s.D) (name : ByteArray) (fr : Int) : IsMap (forkF s name fr).2.D := by
  unfold forkF
  split
  · exact h
  split
  · exact h
  split
  · exact h
  split
  · exact h
  split
  · exact h
  · exact h.put _ _
def b1 : ByteArray := ByteArray.mk #[98, 49]
theorem key_lit (x : ByteArray) : WideAt.IsKeyLit (keyB x) := trivial
/-- The line after j publishes of b1. -/
structure Pub (j : Nat) (s : Ln) : Prop where
  map : IsMap s.D
  has : hasB s.D b1 = true
  at1 : lkp s.D b1 = (-1, (j : Int) - 1)
  len : s.V.length = j
  f4 : ∀ i : Nat, i < j → (rd_T43 s.V (i : Int)).f4 = i
theorem Pub.first {j : Nat} {s : Ln} (h : Pub j s) : firstF (lkp s.D b1) = (j : Int) - 1 := by
  rw [h.at1]
  unfold firstF
  simp only
  split <;> omega
theorem Pub.next {j : Nat} {s : Ln} (h : Pub j s) (hj : j < 1024) : publishF s b1 ((j : Int) % 3) j (-1) 5 = ((j : Int), 0, (publishF s b1 ((j : Int) % 3) j (-1) 5).2.2) ∧ Pub (j + 1) (publishF s b1 ((j : Int) % 3) j (-1) 5).2.2 := by
  have hr : rangeB ((j : Int) % 3) j (-1) = true := by
    unfold rangeB tickB
    have : 0 ≤ (j : Int) % 3 := by omega
    have : (j : Int) % 3 ≤ 1099511627776 := by omega
    have : (j : Int) ≤ 1099511627776 := by omega
    simp [*]
  have ho : ¬ (0 ≤ firstF (lkp s.D b1) ∧ (j : Int) < (rd_T43 s.V (firstF (lkp s.D b1))).f4) := by
    rw [h.first]
    rintro ⟨h0, h1⟩
    have := h.f4 (j - 1) (by omega)
    rw [show ((j - 1 : Nat) : Int) = (j : Int) - 1 by omega] at this
    omega
  have hl : ¬ 1024 ≤ s.V.length := by rw [h.len]; omega
  have hf : publishF s b1 ((j : Int) % 3) j (-1) 5 = ((s.V.length : Int), 0, ⟨s.D.put (keyB b1) (lnD (lkp s.D b1).1 (s.V.length : Int)), s.V ++ [⟨(s.V.length : Int), firstF (lkp s.D b1), b1, (j : Int) % 3, j, -1, 5, false⟩]⟩) := by
    unfold publishF
    rw [if_neg (by rw [h.has]; decide), if_neg (by rw [hr]; decide), if_neg ho, if_neg hl]
  rw [hf]
  refine ⟨by rw [h.len], ⟨h.map.put _ _, has_put_same h.map (key_lit _) _, ?_, by simp [h.len], ?_⟩⟩
  · unfold lkp
    simp only
    rw [atKey_put_same h.map (key_lit _)]
    have := h.at1
    unfold lkp at this
    rw [this, h.len]
    simp [lkD, lnD]
  · intro i hi
    unfold rd_T43
    simp only [Int.toNat_natCast]
    rw [List.getD_eq_getElem?_getD]
    by_cases hlt : i < j
    · rw [List.getElem?_append_left (by rw [h.len]; exact hlt), ← List.getD_eq_getElem?_getD]
      have := h.f4 i hlt
      unfold rd_T43 at this
      simpa using this
    · have : i = j := by omega
      subst this
      rw [List.getElem?_append_right (by rw [h.len]; exact Nat.le_refl _), h.len]
      simp
theorem Pub.full {s : Ln} (h : Pub 1024 s) (j : Int) (h0 : 1024 ≤ j) (h1 : j ≤ 2000) : publishF s b1 (j % 3) j (-1) 5 = (0, 4, s) := by
  have hr : rangeB (j % 3) j (-1) = true := by
    unfold rangeB tickB
    have : 0 ≤ j % 3 := by omega
    have : j % 3 ≤ 1099511627776 := by omega
    have : j ≤ 1099511627776 := by omega
    have : 0 ≤ j := by omega
    simp [*]
  have ho : ¬ (0 ≤ firstF (lkp s.D b1) ∧ j < (rd_T43 s.V (firstF (lkp s.D b1))).f4) := by
    rw [h.first]
    rintro ⟨_, h1⟩
    have := h.f4 1023 (by omega)
    rw [show ((1023 : Nat) : Int) = ((1024 : Nat) : Int) - 1 by omega] at this
    omega
  unfold publishF
  rw [if_neg (by rw [h.has]; decide), if_neg (by rw [hr]; decide), if_neg ho, if_pos (by rw [h.len]; exact Nat.le_refl _)]
theorem forkN_pub (m : Nat) (h0 : 62 ≤ m) (h1 : m ≤ 66) : Pub 0 (forkN m) := by
  have hm : IsMap (forkN m).D := by
    clear h0 h1
    induction m with
    | zero => exact ⟨[], rfl⟩
    | succ m ih => exact forkF_map ih _ _
  have hk : (hasB (forkN m).D b1 = true ∧ lkp (forkN m).D b1 = (-1, -1)) ∧ (forkN m).V.length = 0 := by
    obtain rfl | rfl | rfl | rfl | rfl : m = 62 ∨ m = 63 ∨ m = 64 ∨ m = 65 ∨ m = 66 := by omega
    all_goals decide +kernel
  exact ⟨hm, hk.1.1, hk.1.2, hk.2, fun i hi => absurd hi (Nat.not_lt_zero _)⟩
end Go.Proofs.Ytcbkcgnigncahaa.P
