import Derived.Test.YtcbkcgnigncahaaQPlainA
import Derived.Test.YtcbkcgnigncahaaQGivenR
namespace Go.Proofs.Ytcbkcgnigncahaa.P
open Go.RowKit Go.Proofs.YtcbkcgnigncahaaW.PrintWords
theorem branchLimits_law (a0 : Int) (w0 : (Lit.int .i64 a0).wf = true) (a1 : Int) (w1 : (Lit.int .i64 a1).wf = true) (W : World) :
    Calls Try.prog 3 #[.int .i64 a0, .int .i64 a1] W fun e W' => e = .returned (.bool true) ∧ Below W.heap.size W W' := by
  obtain ⟨A, hA, hA0, hA1⟩ := around_some a0 5 w0 (by omega) (by omega)
  obtain ⟨B, hB, hB0, hB1⟩ := around_some a1 5 w1 (by omega) (by omega)
  exact law3 a0 a1 A B hA hA0 hA1 hB hB0 hB1 lives_calls W
end Go.Proofs.Ytcbkcgnigncahaa.P
