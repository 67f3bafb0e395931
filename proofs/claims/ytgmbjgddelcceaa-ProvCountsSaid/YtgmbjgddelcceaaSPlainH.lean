import Derived.Test.YtgmbjgddelcceaaSPlainG
set_option linter.unusedVariables false
set_option linter.unusedSimpArgs false
namespace Go.Proofs.Ytgmbjgddelcceaa.P
open Go.RowKit Go.Proofs.YtgmbjgddelcceaaW.PrintWords Go.Proofs.YtgmbjgddelcceaaW.PrintLast
theorem mem_rowP (r : Int) (l : List S71) : ∀ (k : Nat) (fr : Int) (p : S80), 0 ≤ fr → p ∈ rowP r l k fr → ∃ f, 0 ≤ f ∧ f < 16 ∧ p = beginF r l f
  | 0, fr, p, h0, h => by simp [rowP] at h
  | k + 1, fr, p, h0, h => by
    simp only [rowP] at h
    by_cases hf : fr < 16
    · rw [if_pos hf] at h
      have hto := beginF_to r l fr hf
      rcases List.mem_cons.1 h with h | h
      · exact ⟨fr, h0, hf, h⟩
      · exact mem_rowP r l k _ p (by omega) h
    · rw [if_neg hf] at h; cases h
theorem mem_packRows (xs : List S71) : ∀ (k : Nat) (r : Int) (p : S80), 0 ≤ r → r + k ≤ 16 → p ∈ packRows xs k r → ∃ r' f, 0 ≤ r' ∧ r' < 16 ∧ 0 ≤ f ∧ f < 16 ∧ p = beginF r' (rowOf xs r') f
  | 0, r, p, h0, hk, h => by simp [packRows] at h
  | k + 1, r, p, h0, hk, h => by
    simp only [packRows] at h
    rcases List.mem_append.1 h with h | h
    · obtain ⟨f, f0, f1, e⟩ := mem_rowP r (rowOf xs r) 16 0 p (by omega) h
      exact ⟨r, f, h0, by omega, f0, f1, e⟩
    · exact mem_packRows xs k (r + 1) p (by omega) (by omega) h
theorem mem_pack (xs : List S71) (p : S80) (h : p ∈ packL xs) : ∃ r f, 0 ≤ r ∧ r < 16 ∧ 0 ≤ f ∧ f < 16 ∧ p = beginF r (rowOf xs r) f := mem_packRows xs 16 0 p (by omega) (by omega) h
theorem begin_f3 (xs : List S71) (hx : xs.length = 256) (r f : Int) (h0 : 0 ≤ r) (h1 : r < 16) (f0 : 0 ≤ f) (f1 : f < 16) : (beginF r (rowOf xs r) f).f3 = rd_T71 xs (r * 16 + f) := by
  rw [← rd_row xs hx r f h0 h1 f0 f1]
  unfold beginF begin0
  split <;> rfl
theorem rd_mem (xs : List S71) (i : Int) (h0 : 0 ≤ i) (h : i < xs.length) : rd_T71 xs i ∈ xs := by
  rw [← rd_get xs i h0 h]
  exact List.getElem_mem _
theorem pack_first (xs : List S71) (hx : xs.length = 256) (p : S80) (h : p ∈ packL xs) : p.f3 ∈ xs := by
  obtain ⟨r, f, h0, h1, f0, f1, rfl⟩ := mem_pack xs p h
  rw [begin_f3 xs hx r f h0 h1 f0 f1]
  exact rd_mem xs _ (by omega) (by omega)
end Go.Proofs.Ytgmbjgddelcceaa.P
