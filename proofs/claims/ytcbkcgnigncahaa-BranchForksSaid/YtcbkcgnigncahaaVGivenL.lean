import Derived.Test.YtcbkcgnigncahaaVGivenK
import Derived.Maps.Views
namespace Go.Proofs.Ytcbkcgnigncahaa.P
open Go.RowKit Go.Maps Go.Proofs.YtcbkcgnigncahaaW.PrintWords Go.Proofs.YtcbkcgnigncahaaW.PrintLast Go.Proofs.YtcbkcgnigncahaaW.PrintMore
set_option linter.unusedVariables false
set_option linter.unusedSimpArgs false
def b1 : ByteArray := ByteArray.mk #[98, 49]
/-- The line after j publishes of b1. -/
structure Pub (j : Nat) (s : Ln) : Prop where
  map : IsMap s.D
  has : hasB s.D b1 = true
  at1 : lkp s.D b1 = (-1, (j : Int) - 1)
  len : s.V.length = j
  f4 : ∀ i : Nat, i < j → (rd_T43 s.V (i : Int)).f4 = i
theorem Pub.first {j : Nat} {s : Ln} (h : Pub j s) : firstF (lkp s.D b1) = (j : Int) - 1 := by
  rw [h.at1]
  unfold firstF
  simp only
  split <;> omega
end Go.Proofs.Ytcbkcgnigncahaa.P
