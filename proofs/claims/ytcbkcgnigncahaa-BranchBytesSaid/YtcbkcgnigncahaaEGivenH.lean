import Derived.Test.YtcbkcgnigncahaaEGivenG
import Derived.Handy
namespace Go.Proofs.Ytcbkcgnigncahaa.P
open Go.RowKit Go.Maps Go.Proofs.YtcbkcgnigncahaaW.PrintWords Go.Proofs.YtcbkcgnigncahaaW.PrintLast Go.Proofs.YtcbkcgnigncahaaW.PrintMore
attribute [local go_sem] max2_int min2_int max_two min_two max_three min_three max_four min_four
set_option linter.unusedVariables false
set_option linter.unusedSimpArgs false
def agg43 (x : S43) : Value := .agg #[.int .i64 x.f0, .int .i64 x.f1, .string x.f2, .int .i64 x.f3, .int .i64 x.f4, .int .i64 x.f5, .int .u64 x.f6, .bool x.f7]
def getF (s : Ln) (id : Int) : S43 × Int :=
  if existsB s id = false then (z43, 7)
  else if closedB s id = true then (z43, 28)
  else (rd_T43 s.V id, 0)
set_option maxHeartbeats 4000000 in
set_option maxRecDepth 100000 in
theorem get_calls (base g b n : Nat) (s : Ln) (id : Int) (w : World) (hs0 : LS base g b n s w) :
    Calls Try.prog 19 #[.pointer (some ⟨g, 0, none⟩), .int .i64 id] w fun e w' => e = .returned (.tuple #[agg43 (getF s id).1, .int .i64 (getF s id).2]) ∧ Below w.heap.size w w' := by
  have HS := Aside0.mk hs0
  have HS1 := Aside0.mk (hs0.below (below_alloc (Below.refl _ _) (Obj.cells #[.int .i64 0, .int .i64 0, .string ⟨#[]⟩, .int .i64 0, .int .i64 0, .int .i64 0, .int .u64 0, .bool false] 43)))
  clear hs0
  have hu43 := Try.underlying43
  cases hx : existsB s id with
  | false =>
    have hf : getF s id = (z43, 7) := by unfold getF; rw [if_pos hx]
    have HF := Aside0.mk hf
    clear hf
    go_enter Try.func19, Try.ntmps19
    go_wp2_with (first
      | (go_at_call 41; (with_reducible refine (exists_calls base g b n s id _ HS1.out).mono ?_); rintro e w3 ⟨rfl, rfl⟩; rw [hx])
      | fail)
    go_returns
    rw [HF.out]
    exact ⟨rfl, by first | exact below_set (below_alloc (Below.refl _ _) _) (Nat.le_refl _) | exact below_alloc (Below.refl _ _) _⟩
  | true =>
    have hx2 : 0 ≤ id ∧ id < s.V.length := by
      unfold existsB at hx
      simpa using hx
    have i0 := hx2.1
    have i1 := hx2.2
    obtain ⟨A, c, hb, hR⟩ := HS1.out.block
    have k1 := blk_cell hb 1
    have hcap := (Kd.R_reads' hR).2.1
    obtain ⟨ad, e9, y0, y1, y2, y3, y4, y5, y6, y7⟩ := at_T43 (Kd.R_reads' hR).2.2 id i0 i1
    obtain rfl := e9
    clear hb hR hx2
    cases hcl : closedB s id with
    | true =>
      have hcv : (rd_T43 s.V id).f7 = true := hcl
      rw [hcv] at y7
      have hf : getF s id = (z43, 28) := by unfold getF; rw [if_neg (by rw [hx]; decide), if_pos hcl]
      have HF := Aside0.mk hf
      clear hf
      go_enter Try.func19, Try.ntmps19
      go_wp2_with (first
        | (go_at_call 41; (with_reducible refine (exists_calls base g b n s id _ HS1.out).mono ?_); rintro e w3 ⟨rfl, rfl⟩; rw [hx])
        | fail)
      go_returns
      rw [HF.out]
      exact ⟨rfl, by first | exact below_set (below_alloc (Below.refl _ _) _) (Nat.le_refl _) | exact below_alloc (Below.refl _ _) _⟩
    | false =>
      have hcv : (rd_T43 s.V id).f7 = false := hcl
      have hf : getF s id = (rd_T43 s.V id, 0) := by unfold getF; rw [if_neg (by rw [hx]; decide), if_neg (by rw [hcl]; decide)]
      have HF := Aside0.mk hf
      clear hf
      go_enter Try.func19, Try.ntmps19
      go_upto_region 5 with (first
        | (go_at_call 41; (with_reducible refine (exists_calls base g b n s id _ HS1.out).mono ?_); rintro e w3 ⟨rfl, rfl⟩; rw [hx])
        | fail)
      go_wp2
      go_returns
      rw [HF.out]
      refine ⟨?_, below_alloc (Below.refl _ _) _⟩
      unfold agg43
      rw [hcv]
end Go.Proofs.Ytcbkcgnigncahaa.P
