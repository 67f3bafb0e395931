import Derived.Test.YtcbkcgnigncahaaEGivenZl
import Derived.SizedLaws
import Derived.ChangeSlices
namespace Go.Proofs.Ytcbkcgnigncahaa.P
open Go.RowKit Go.Proofs.YtcbkcgnigncahaaW.PrintWords
set_option linter.unusedVariables false
theorem branchBytes_law (l0 : List Int) (h0 : l0.length ≤ 17592186043904) (w0 : ∀ x ∈ l0, (Lit.int .i64 x).wf = true) (A0 : Option Addr) (c0 : Nat) (l1 : List Int) (h1 : l1.length ≤ 17592186043904) (w1 : ∀ x ∈ l1, (Lit.int .i64 x).wf = true) (A1 : Option Addr) (c1 : Nat)
    (raw : List Int) (h2 : raw.length ≤ 140737488351232) (w2 : ∀ x ∈ raw, (Lit.int .u8 x).wf = true) (A2 : Option Addr) (c2 : Nat) (a3 : Int) (w3 : (Lit.int .i64 a3).wf = true) (a4 : Int) (w4 : (Lit.int .u8 a4).wf = true)
    (W : World) (hr0 : Kd.C (Kd.int .i64) W A0 l0.length l0) (hc0 : l0.length ≤ c0) (hr1 : Kd.C (Kd.int .i64) W A1 l1.length l1) (hc1 : l1.length ≤ c1) (hr2 : Kd.C (Kd.int .u8) W A2 raw.length raw) (hc2 : raw.length ≤ c2) :
    Calls Try.prog 8 #[.slice A0 l0.length c0, .slice A1 l1.length c1, .slice A2 raw.length c2, .int .i64 a3, .int .u8 a4] W fun e W' => e = .returned (.bool true) ∧ Below W.heap.size W W' := by
  have u8 : ∀ x : Int, (Lit.int .u8 x).wf = true → 0 ≤ x ∧ x < 256 := by
    intro x h
    simp [Lit.wf, IntKind.min, IntKind.max, IntKind.bits, IntKind.signed] at h
    omega
  obtain ⟨k0, ops, s0, o0, n0⟩ := script_some l0 16 (by omega) (by omega) w0 (by omega)
  obtain ⟨k1, xs, s1, o1, n1⟩ := script_some l1 8 (by omega) (by omega) w1 (by omega)
  have hg := good4_0.run ops o0
  have hl := lineB_len hg.neat
  have hp := lineB_pos (rfOf (runL Ln0 ops))
  obtain ⟨J, hJ, hJ0, hJ1⟩ := around_some a3 ((lineB (rfOf (runL Ln0 ops))).length : Int) w3 (by omega) (by omega)
  exact law8 l0 l1 raw a3 a4 J A0 A1 A2 c0 c1 c2 ops xs k0 k1 W hr0 hc0 hr1 hc1 hr2 hc2 h2 (fun x hx => u8 x (w2 x hx)) (u8 a4 w4) s0 o0 (by omega) s1 o1 (by omega) (fun n hn => by rw [hn]; exact hJ) ⟨hJ0, hJ1⟩
end Go.Proofs.Ytcbkcgnigncahaa.P
namespace Go.Proofs.YtcbkcgnigncahaaW.PrintWords
open Go.ChangeShapes Go.WideShapes
/-- A row's slice of whole numbers is no longer than its weight allows. -/
theorem sized_ints {H : Type} {enc : TypeId × Value → H} {P : Program} {W : World} {base : Nat} {spare : Nat → Bool} {held : Bool} {t e : TypeId} {k : IntKind} {a : Option Addr} {len cap : Nat} {d : DataW H} {ps : List MemPlace} {ts : List TypeId} {ds : List (DataW H)} {j : Nat}
    (hsz : (DataW.weightsEach P ts ds).all (· ≤ reachBytes) = true) (ht : ts[j]? = some t) (hd : ds[j]? = some d) (hu : P.underlying t = some (.slice e)) (he : P.underlying e = some (.int k)) (hc : P.cellsOf e = 1) {B : Nat} (hB : P.bytesOf e = B)
    (h : DataW.Trod enc P W base spare held t (.slice a len cap) d ps) : len * B ≤ 140737488351232 := by
  obtain ⟨fuel, hf⟩ := h
  rcases open_ints hu he hc hf with ⟨hcs, _⟩ | ⟨x, l, c, zs, hcs, _, hl, _, hz, hx, _, _⟩
  · simp [Value.cells] at hcs
    obtain ⟨rfl, rfl, rfl⟩ := hcs
    simp
  · simp [Value.cells] at hcs
    obtain ⟨rfl, rfl, rfl⟩ := hcs
    obtain ⟨hx, _⟩ := Prod.mk.inj hx
    subst hx
    have z := sized_slice hsz ht hd hu
    rw [hB] at z
    have hl2 : len ≤ zs.length := by
      rw [hz]
      split
      · exact hl
      · exact Nat.le_refl _
    have h1 : (lits (H := H) k (zs.take len)).length + (lits (H := H) k (zs.drop len)).length = zs.length := by
      simp [lits]
      omega
    rw [h1] at z
    exact Nat.le_trans (Nat.mul_le_mul_right _ hl2) z
end Go.Proofs.YtcbkcgnigncahaaW.PrintWords
