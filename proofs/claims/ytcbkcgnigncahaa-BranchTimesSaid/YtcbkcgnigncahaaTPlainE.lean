import Derived.Test.YtcbkcgnigncahaaTGivenU
namespace Go.Proofs.Ytcbkcgnigncahaa.P
open Go.RowKit Go.Proofs.YtcbkcgnigncahaaW.PrintWords
theorem branchTimes_law (l0 : List Int) (h0 : l0.length ≤ 17592186043904) (w0 : ∀ x ∈ l0, (Lit.int .i64 x).wf = true) (A0 : Option Addr) (c0 : Nat) (l1 : List Int) (h1 : l1.length ≤ 17592186043904) (w1 : ∀ x ∈ l1, (Lit.int .i64 x).wf = true) (A1 : Option Addr) (c1 : Nat)
    (a2 : Int) (w2 : (Lit.int .i64 a2).wf = true) (a3 : Int) (w3 : (Lit.int .i64 a3).wf = true) (W : World) (hr0 : Kd.C (Kd.int .i64) W A0 l0.length l0) (hc0 : l0.length ≤ c0) (hr1 : Kd.C (Kd.int .i64) W A1 l1.length l1) (hc1 : l1.length ≤ c1) :
    Calls Try.prog 4 #[.slice A0 l0.length c0, .slice A1 l1.length c1, .int .i64 a2, .int .i64 a3] W fun e W' => e = .returned (.bool true) ∧ Below W.heap.size W W' := by
  obtain ⟨k0, ops, s0, o0, n0⟩ := script_some l0 20 (by omega) (by omega) w0 (by omega)
  obtain ⟨k1, ops2, s1, o1, n1⟩ := script_some l1 12 (by omega) (by omega) w1 (by omega)
  obtain ⟨t, ht, t0, t1⟩ := around_some a2 32 w2 (by omega) (by omega)
  obtain ⟨u, hu, u0, u1⟩ := around_some a3 32 w3 (by omega) (by omega)
  exact law4 l0 l1 A0 A1 c0 c1 a2 a3 t u ops ops2 k0 k1 W hr0 hc0 hr1 hc1 s0 o0 (by omega) s1 o1 (by omega) ht ⟨t0, t1⟩ hu ⟨u0, u1⟩
end Go.Proofs.Ytcbkcgnigncahaa.P
