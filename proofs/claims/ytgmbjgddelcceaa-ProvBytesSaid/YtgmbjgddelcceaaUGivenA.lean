import Derived.Test.YtgmbjgddelcceaaUPx0
import Derived.Test.YtgmbjgddelcceaaUPx1
namespace Go.Proofs.Ytgmbjgddelcceaa.P
open Go.RowKit Go.Proofs.YtgmbjgddelcceaaW.PrintWords Go.Proofs.YtgmbjgddelcceaaW.PrintLast Go.Proofs.YtgmbjgddelcceaaW.PrintMore
attribute [local go_sem] max2_int min2_int max_two min_two max_three min_three max_four min_four
attribute [local go_sem high] eqA71
set_option linter.unusedVariables false
set_option linter.unusedSimpArgs false
def inSide (n : Int) : Bool := decide (0 ≤ n) && decide (n < 4096)
theorem valid1_calls (n : Int) (w : World) : Calls Try.prog 61 #[.int .i64 n] w fun e w' => e = .returned (.bool (inSide n)) ∧ w = w' := by
  by_cases h1 : 0 ≤ n
  · by_cases h2 : n < 4096
    · have hf : inSide n = true := by simp [inSide, h1, h2]
      rw [hf]
      go_enter Try.func61, Try.ntmps61
      go_wp2
      go_ret
      exact ⟨rfl, rfl⟩
    · have hf : inSide n = false := by simp [inSide, h2]
      rw [hf]
      go_enter Try.func61, Try.ntmps61
      go_wp2
      go_ret
      exact ⟨rfl, rfl⟩
  · have hf : inSide n = false := by simp [inSide, h1]
    rw [hf]
    go_enter Try.func61, Try.ntmps61
    go_wp2
    go_ret
    exact ⟨rfl, rfl⟩
def noneB (a b c d : Int) : Bool := a == -1 && (b == 0 && (c == 0 && (d == 0)))
def validB (a b c d : Int) : Bool := noneB a b c d || (decide (0 ≤ a) && (inSide b && inSide c))
theorem valid_calls (a b c d : Int) (w : World) : Calls Try.prog 40 #[.agg #[.int .i64 a, .int .i64 b, .int .i64 c, .int .u64 d]] w fun e w' => e = .returned (.bool (validB a b c d)) ∧ Below w.heap.size w w' := by
  have hu71 := Try.underlying71
  by_cases h1 : noneB a b c d = true
  · have hf : validB a b c d = true := by simp [validB, h1]
    rw [hf]
    unfold noneB at h1
    go_enter Try.func40, Try.ntmps40
    go_wp2
    go_ret
    exact ⟨rfl, (Below.refl _ _).alloc (Nat.le_refl _) _⟩
  · have hf : validB a b c d = (decide (0 ≤ a) && (inSide b && inSide c)) := by simp [validB, h1]
    rw [hf]
    simp only [Bool.not_eq_true] at h1
    unfold noneB at h1
    by_cases h2 : 0 ≤ a
    · by_cases h3 : inSide b = true
      · by_cases h4 : inSide c = true
        · go_enter Try.func40, Try.ntmps40
          go_wp2_with (go_at_call 61; refine (valid1_calls _ _).mono ?_; rintro e w' ⟨rfl, rfl⟩)
          go_ret
          exact ⟨by simp [h2, h3, h4], (Below.refl _ _).alloc (Nat.le_refl _) _⟩
        · simp only [Bool.not_eq_true] at h4
          go_enter Try.func40, Try.ntmps40
          go_wp2_with (go_at_call 61; refine (valid1_calls _ _).mono ?_; rintro e w' ⟨rfl, rfl⟩)
          go_ret
          exact ⟨by simp [h2, h3, h4], (Below.refl _ _).alloc (Nat.le_refl _) _⟩
      · simp only [Bool.not_eq_true] at h3
        go_enter Try.func40, Try.ntmps40
        go_wp2_with (go_at_call 61; refine (valid1_calls _ _).mono ?_; rintro e w' ⟨rfl, rfl⟩)
        go_ret
        exact ⟨by simp [h2, h3], (Below.refl _ _).alloc (Nat.le_refl _) _⟩
    · go_enter Try.func40, Try.ntmps40
      go_wp2_with (go_at_call 61; refine (valid1_calls _ _).mono ?_; rintro e w' ⟨rfl, rfl⟩)
      go_ret
      exact ⟨by have h3 : decide (0 ≤ a) = false := decide_eq_false (by omega)
                rw [h3]; rfl, (Below.refl _ _).alloc (Nat.le_refl _) _⟩
theorem pack1_calls (a b c d : Int) (w : World) : Calls Try.prog 39 #[.agg #[.int .i64 a, .int .i64 b, .int .i64 c, .int .u64 d]] w fun e w' => e = .returned (.bool (!validB a b c d)) ∧ Below w.heap.size w w' := by
  have hu71 := Try.underlying71
  go_enter Try.func39, Try.ntmps39
  go_wp2_with (go_at_call 40; refine (valid_calls _ _ _ _ _).mono ?_; rintro e w' ⟨rfl, hb⟩)
  go_ret
  exact ⟨rfl, ((Below.refl _ _).alloc (Nat.le_refl _) _).trans (hb.mono (by simp))⟩
end Go.Proofs.Ytgmbjgddelcceaa.P
