import Derived.Test.YtjmkccabpnigiaaQPolyZ
namespace Go.Proofs.Ytjmkccabpnigiaa.P
open Go.RowKit Go.Proofs.YtjmkccabpnigiaaW.PrintWords Go.Proofs.YtjmkccabpnigiaaW.PrintLast Go.Proofs.YtjmkccabpnigiaaW.PrintMore
attribute [local go_sem] max2_int min2_int max_two min_two max_three min_three max_four min_four
set_option linter.unusedVariables false
set_option linter.unusedSimpArgs false
/-- PolygonSegments returns true, whatever the numbers. -/
theorem polygonSegments_law (l0 : List Int) (h0 : l0.length ≤ 17592186043904) (w0 : ∀ x ∈ l0, (Lit.int .i64 x).wf = true) (A0 : Option Addr) (c0 : Nat)
    (a1 : Int) (w1 : (Lit.int .i64 a1).wf = true) (a2 : Int) (w2 : (Lit.int .i64 a2).wf = true) (W : World) (hr0 : Kd.C (Kd.int .i64) W A0 l0.length l0) (hc0 : l0.length ≤ c0) :
    Calls Try.prog 3 #[.slice A0 l0.length c0, .int .i64 a1, .int .i64 a2] W fun e W' => e = .returned (.bool true) ∧ Below W.heap.size W W' :=
 segments_calls A0 c0 l0 a1 a2 W hr0 hc0
end Go.Proofs.Ytjmkccabpnigiaa.P
