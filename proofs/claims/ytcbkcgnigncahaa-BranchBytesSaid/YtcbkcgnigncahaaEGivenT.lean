import Derived.Test.YtcbkcgnigncahaaEGivenR
namespace Go.Proofs.Ytcbkcgnigncahaa.P
open Go.RowKit Go.Maps Go.Proofs.YtcbkcgnigncahaaW.PrintWords Go.Proofs.YtcbkcgnigncahaaW.PrintLast Go.Proofs.YtcbkcgnigncahaaW.PrintMore
attribute [local go_sem] max2_int min2_int max_two min_two max_three min_three max_four min_four
set_option linter.unusedVariables false
set_option linter.unusedSimpArgs false
def doF (s : Ln) (o : S38) : Int × Int × Ln :=
  if o.f0 = 0 then (0, (forkF s o.f1 o.f2).1, (forkF s o.f1 o.f2).2)
  else if o.f0 = 2 then (0, (closeF s o.f2).1, (closeF s o.f2).2)
  else publishF s o.f1 o.f3 o.f4 o.f5 o.f6
theorem Good.do_ {s : Ln} (h : Good s) (o : S38) : Good (doF s o).2.2 := by
  unfold doF
  split
  · exact h.fork _ _
  split
  · exact h.close _
  · exact h.publish _ _ _ _ _
abbrev agg38 (x : S38) : Value := .agg #[.int .i64 x.f0, .string x.f1, .int .i64 x.f2, .int .i64 x.f3, .int .i64 x.f4, .int .i64 x.f5, .int .u64 x.f6]
set_option maxHeartbeats 4000000 in
set_option maxRecDepth 100000 in
theorem do_calls (base g b n : Nat) (s : Ln) (o : S38) (w : World) (hs0 : LS base g b n s w) (hbase : base ≤ w.heap.size) (hs : o.f1.size ≤ maxLen) (hn : n < 1000000) (hg : Good s) :
    Calls Try.prog 16 #[.pointer (some ⟨g, 0, none⟩), agg38 o] w fun e w' => e = .returned (.tuple #[.int .i64 (doF s o).1, .int .i64 (doF s o).2.1]) ∧ LS base g b (n + 1) (doF s o).2.2 w' ∧ Below base w w' ∧ KeepO g b w w' := by
  have HB := Aside0.mk (below_alloc (Below.refl w.heap.size w) (.cells #[.int .i64 o.f0, .string o.f1, .int .i64 o.f2, .int .i64 o.f3, .int .i64 o.f4, .int .i64 o.f5, .int .u64 o.f6] 38))
  have HS := Aside0.mk (hs0.below HB.out)
  have HG := Aside0.mk hg
  have HL0 := Aside0.mk hs0.lt
  have hu38 := Try.underlying38
  clear hs0 hg
  unfold agg38
  by_cases h0 : o.f0 = 0
  · have hf : doF s o = (0, (forkF s o.f1 o.f2).1, (forkF s o.f1 o.f2).2) := by unfold doF; rw [if_pos h0]
    rw [hf]
    rw [h0] at HB HS ⊢
    clear hf h0
    go_enter Try.func16, Try.ntmps16
    go_wp2_with (first
      | (go_at_call 11; (with_reducible refine (fork_calls base g b n s o.f1 o.f2 _ HS.out (by rw [World.size_alloc]; omega) hs hn).mono ?_); rintro e w3 ⟨rfl, h1, h2, h3⟩; have H1 := Aside0.mk h1; have H2 := Aside0.mk h2; have H3 := Aside0.mk h3; clear h1 h2 h3)
      | fail)
    go_ret2
    exact ⟨rfl, H1.out, (HB.out.mono hbase).trans H2.out, (KeepO.of_below HB.out HL0.out).trans H3.out⟩
  · by_cases h2 : o.f0 = 2
    · have hf : doF s o = (0, (closeF s o.f2).1, (closeF s o.f2).2) := by unfold doF; rw [if_neg h0, if_pos h2]
      rw [hf]
      rw [h2] at HB HS ⊢
      clear hf h0 h2
      go_enter Try.func16, Try.ntmps16
      go_wp2_with (first
        | (go_at_call 28; (with_reducible refine (close_calls base g b n s o.f2 _ HS.out (by rw [World.size_alloc]; omega)).mono ?_); rintro e w3 ⟨rfl, h1, h2, h3⟩; have H1 := Aside0.mk h1; have H2 := Aside0.mk h2; have H3 := Aside0.mk h3; clear h1 h2 h3)
        | fail)
      go_ret2
      exact ⟨rfl, H1.out.more, (HB.out.mono hbase).trans H2.out, (KeepO.of_below HB.out HL0.out).trans H3.out⟩
    · have hf : doF s o = publishF s o.f1 o.f3 o.f4 o.f5 o.f6 := by unfold doF; rw [if_neg h0, if_neg h2]
      rw [hf]
      have h0' : (o.f0 == 0) = false := by simpa using h0
      have h2' : (o.f0 == 2) = false := by simpa using h2
      clear hf h0 h2
      go_enter Try.func16, Try.ntmps16
      go_wp2_with (first
        | (go_at_call 13; (with_reducible refine (publish_calls base g b n s o.f1 o.f3 o.f4 o.f5 o.f6 _ HS.out (by rw [World.size_alloc]; omega) hs (by unfold maxLen; omega) HG.out.most (fun h => (HG.out.first h).2)).mono ?_); rintro e w3 ⟨rfl, h1, h2, h3⟩; have H1 := Aside0.mk h1; have H2 := Aside0.mk h2; have H3 := Aside0.mk h3; clear h1 h2 h3)
        | fail)
      go_ret2
      exact ⟨rfl, H1.out, (HB.out.mono hbase).trans H2.out, (KeepO.of_below HB.out HL0.out).trans H3.out⟩
end Go.Proofs.Ytcbkcgnigncahaa.P
