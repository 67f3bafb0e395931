import Derived.Test.YtgmbjgddelcceaaSPlainD
import Derived.Test.YtgmbjgddelcceaaSPx10
import Derived.Test.YtgmbjgddelcceaaSGivenX
import Derived.Test.YtgmbjgddelcceaaSGivenY
import Derived.Lib.Zigzag
import Derived.Laws.BitsAllLaws
set_option linter.unusedVariables false
set_option linter.unusedSimpArgs false
namespace Go.Proofs.Ytgmbjgddelcceaa.P
open Go.RowKit Go.Proofs.YtgmbjgddelcceaaW.PrintWords Go.Proofs.YtgmbjgddelcceaaW.PrintLast
/-- A source whose scene and parameters are machine numbers. -/
def uOk (s : S71) : Prop := (0 ≤ s.f3 ∧ s.f3 < 18446744073709551616) ∧ (-9223372036854775808 ≤ s.f0 ∧ s.f0 ≤ 9223372036854775807)
theorem u64_ok (x : Int) : 0 ≤ IntKind.u64.wrap x ∧ IntKind.u64.wrap x < 18446744073709551616 := by
  have h : IntKind.u64.wrap x = x % 18446744073709551616 := by simp [IntKind.wrap, IntKind.signed, IntKind.bits]
  rw [h]; omega
theorem w64_ok (x : Int) : -9223372036854775808 ≤ wrap64 x ∧ wrap64 x ≤ 9223372036854775807 := by unfold wrap64; omega
theorem sources_uOk : ∀ k : Nat,
    (∀ x0 x3 x4 r, (∀ s ∈ x3, uOk s) → skymosaicref36_Sources.l0 k x0 x3 x4 = some r → ∀ s ∈ r, uOk s) ∧
    (∀ x0 x3 x4 x5 x7 x8 a b c d r, (∀ s ∈ x3, uOk s) → (0 ≤ d ∧ d < 18446744073709551616) → (-9223372036854775808 ≤ a ∧ a ≤ 9223372036854775807) → skymosaicref36_Sources.j1 k x0 x3 x4 x5 x7 x8 a b c d = some r → ∀ s ∈ r, uOk s) ∧
    (∀ x0 x3 x4 x7 x8 x9 x10 a b c d r, (∀ s ∈ x3, uOk s) → (0 ≤ d ∧ d < 18446744073709551616) → (-9223372036854775808 ≤ a ∧ a ≤ 9223372036854775807) → skymosaicref36_Sources.l1 k x0 x3 x4 x7 x8 x9 x10 a b c d = some r → ∀ s ∈ r, uOk s) := by
  intro k
  induction k with
  | zero => exact ⟨fun _ _ _ _ _ h => (by cases h), fun _ _ _ _ _ _ _ _ _ _ _ _ _ _ h => (by cases h), fun _ _ _ _ _ _ _ _ _ _ _ _ _ _ _ h => (by cases h)⟩
  | succ k ih =>
    obtain ⟨ih0, ih1, ih2⟩ := ih
    refine ⟨?_, ?_, ?_⟩
    · intro x0 x3 x4 r hx h
      unfold skymosaicref36_Sources.l0 at h
      split at h
      · split at h
        · cases h
        · obtain ⟨t, ht, h⟩ := Option.bind_eq_some_iff.mp h
          split at h
          · exact ih1 _ _ _ _ _ _ _ _ _ _ _ hx (u64_ok _) (w64_ok _) h
          · exact ih1 _ _ _ _ _ _ _ _ _ _ _ hx ⟨by decide, by decide⟩ (w64_ok _) h
      · obtain rfl := Option.some.inj h
        exact hx
    · intro x0 x3 x4 x5 x7 x8 a b c d r hx hd ha h
      unfold skymosaicref36_Sources.j1 at h
      exact ih2 _ _ _ _ _ _ _ _ _ _ _ _ hx hd ha h
    · intro x0 x3 x4 x7 x8 x9 x10 a b c d r hx hd ha h
      unfold skymosaicref36_Sources.l1 at h
      split at h
      · split at h
        · split at h
          · simp only [skymosaicref36_next.f, Option.bind_some] at h
            refine ih2 _ _ _ _ _ _ _ _ _ _ _ _ ?_ hd ha h
            intro s hs
            rcases List.mem_append.1 hs with hs | hs
            · exact hx s hs
            · obtain rfl := List.mem_singleton.1 hs
              exact ⟨hd, ha⟩
          · cases h
        · exact ih0 _ _ _ _ hx h
      · exact ih0 _ _ _ _ hx h
theorem sources_params {l : List Int} {s : List S71} (h : Ev (fun k => skymosaicref36_Sources.f k l) s) : ∀ x ∈ s, uOk x := by
  obtain ⟨k, hk⟩ := h.rounds
  exact (sources_uOk k).1 l [] 0 s (fun x hx => by cases hx) hk
end Go.Proofs.Ytgmbjgddelcceaa.P
