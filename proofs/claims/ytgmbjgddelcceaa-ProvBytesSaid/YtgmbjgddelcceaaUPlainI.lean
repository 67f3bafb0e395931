import Derived.Test.YtgmbjgddelcceaaUPx0
import Derived.Test.YtgmbjgddelcceaaUPx17
import Derived.Test.YtgmbjgddelcceaaUPlainF
set_option linter.unusedVariables false
set_option linter.unusedSimpArgs false
namespace Go.Proofs.Ytgmbjgddelcceaa.P
open Go.RowKit Go.Proofs.YtgmbjgddelcceaaW.PrintWords Go.Proofs.YtgmbjgddelcceaaW.PrintLast
end Go.Proofs.Ytgmbjgddelcceaa.P
set_option linter.unusedVariables false
set_option linter.unusedSimpArgs false
namespace Go.Proofs.Ytgmbjgddelcceaa.P
open Go.RowKit Go.Proofs.YtgmbjgddelcceaaW.PrintWords Go.Proofs.YtgmbjgddelcceaaW.PrintLast
def pixOf (p : S80) : List S71 := pixs p (p.f2 - p.f1).toNat
def okP (p : S80) : Prop := 0 ≤ p.f1 ∧ p.f1 < p.f2 ∧ p.f2 ≤ 16
theorem go_flat : ∀ (l : List S80) (out o : List S71), unpackGo l out = some o → (∀ p ∈ l, okP p) ∧ o = out ++ l.flatMap pixOf
  | [], out, o, h => by simp only [unpackGo, Option.some.injEq] at h; exact ⟨fun p hp => (by cases hp), (by simp [h])⟩
  | p :: ps, out, o, h => by
    simp only [unpackGo] at h
    split at h
    · cases h
    · rename_i hb
      split at h
      · cases h
      · obtain ⟨h1, h2⟩ := go_flat ps _ o h
        refine ⟨fun q hq => ?_, by rw [h2, List.flatMap_cons, List.append_assoc]; rfl⟩
        rcases List.mem_cons.1 hq with rfl | hq
        · simp only [badPiece, Bool.or_eq_true, bne_iff_ne, decide_eq_true_eq, not_or, Decidable.not_not] at hb
          unfold okP
          omega
        · exact h1 q hq
theorem rowP_ne (r : Int) (l : List S71) : 1 ≤ (rowP r l 16 0).length := by
  show 1 ≤ (rowP r l (15 + 1) 0).length
  simp only [rowP]
  rw [if_pos (by omega)]
  simp
theorem packRows_ge (xs : List S71) : ∀ (k : Nat) (r : Int), k ≤ (packRows xs k r).length
  | 0, r => Nat.zero_le _
  | k + 1, r => by
    simp only [packRows, List.length_append]
    have := rowP_ne r (rowOf xs r)
    have := packRows_ge xs k (r + 1)
    omega
theorem pack_facts (xs : List S71) (hx : xs.length = 256) (hv : xs.any badS = false) : (∀ p ∈ packL xs, okP p) ∧ xs = (packL xs).flatMap pixOf ∧ 16 ≤ (packL xs).length ∧ (packL xs).length ≤ 256 := by
  have h := unpack_tail xs hx hv 256 0 (by omega) (by omega) (by omega)
  rw [← packL_tail] at h
  obtain ⟨h1, h2⟩ := go_flat _ _ _ h
  refine ⟨h1, by simpa using h2, packRows_ge xs 16 0, ?_⟩
  exact packRows_len xs 16 0
end Go.Proofs.Ytgmbjgddelcceaa.P
