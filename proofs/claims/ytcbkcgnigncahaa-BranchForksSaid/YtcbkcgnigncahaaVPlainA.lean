import Derived.Test.YtcbkcgnigncahaaVPx1
namespace Go.Proofs.Ytcbkcgnigncahaa.P
open Go.RowKit Go.Proofs.YtcbkcgnigncahaaW.PrintWords
set_option linter.unusedVariables false
set_option linter.unusedSimpArgs false
theorem wfI {x : Int} (h : (Lit.int .i64 x).wf = true) : -9223372036854775808 ≤ x ∧ x ≤ 9223372036854775807 := by
  simp [Lit.wf, IntKind.min, IntKind.max, IntKind.signed, IntKind.bits] at h
  omega
theorem w64 {x : Int} (h : -9223372036854775808 ≤ x ∧ x ≤ 9223372036854775807) : wrap64 x = x := by unfold wrap64; omega
theorem tmod_nn {a b : Int} (ha : 0 ≤ a) (hb : 0 < b) : Int.tmod a b = a % b ∧ 0 ≤ Int.tmod a b ∧ Int.tmod a b < b := by
  rw [Int.tmod_eq_emod_of_nonneg ha]
  exact ⟨rfl, Int.emod_nonneg _ (by omega), Int.emod_lt_of_pos _ hb⟩
theorem around_some (n most : Int) (hn : (Lit.int .i64 n).wf = true) (hm : 1 ≤ most) (hm2 : most ≤ 9223372036854775807) : ∃ r, skymosaicref01_Around.f n most = some r ∧ 0 ≤ r ∧ r < most := by
  have h := wfI hn
  unfold skymosaicref01_Around.f
  by_cases hneg : n < 0
  · rw [if_pos hneg, if_neg (by omega), w64 (x := n + 1) (by omega), w64 (by omega)]
    have := tmod_nn (a := -(n + 1)) (b := most) (by omega) (by omega)
    exact ⟨_, rfl, this.2.1, this.2.2⟩
  · rw [if_neg hneg, if_neg (by omega)]
    have := tmod_nn (a := n) (b := most) (by omega) (by omega)
    exact ⟨_, rfl, this.2.1, this.2.2⟩
end Go.Proofs.Ytcbkcgnigncahaa.P
