import Derived.Test.YtcbkcgnigncahaaVGivenW
namespace Go.Proofs.Ytcbkcgnigncahaa.P
open Go.RowKit Go.Proofs.YtcbkcgnigncahaaW.PrintWords
theorem branchForks_law (l0 : List Int) (h0 : l0.length ≤ 17592186043904) (w0 : ∀ x ∈ l0, (Lit.int .i64 x).wf = true) (A0 : Option Addr) (c0 : Nat)
    (a1 : Int) (w1 : (Lit.int .i64 a1).wf = true) (a2 : Int) (w2 : (Lit.int .i64 a2).wf = true) (a3 : Int) (w3 : (Lit.int .i64 a3).wf = true) (W : World) (hr0 : Kd.C (Kd.int .i64) W A0 l0.length l0) (hc0 : l0.length ≤ c0) :
    Calls Try.prog 6 #[.slice A0 l0.length c0, .int .i64 a1, .int .i64 a2, .int .i64 a3] W fun e W' => e = .returned (.bool true) ∧ Below W.heap.size W W' := by
  obtain ⟨k0, ops, s0, o0, n0⟩ := script_some l0 18 (by omega) (by omega) w0 (by omega)
  obtain ⟨t, ht, t0, t1⟩ := around_some a2 32 w2 (by omega) (by omega)
  obtain ⟨u, hu, u0, u1⟩ := around_some a3 32 w3 (by omega) (by omega)
  exact law6 l0 A0 c0 a1 a2 a3 t u ops k0 W hr0 hc0 s0 o0 (by omega) (fun L h1 h2 => around_some a1 L w1 h1 (by omega)) ht hu
end Go.Proofs.Ytcbkcgnigncahaa.P
