import Derived.Test.YtcbkcgnigncahaaEGivenQ
namespace Go.Proofs.Ytcbkcgnigncahaa.P
open Go.RowKit Go.Maps Go.Proofs.YtcbkcgnigncahaaW.PrintWords Go.Proofs.YtcbkcgnigncahaaW.PrintLast Go.Proofs.YtcbkcgnigncahaaW.PrintMore
attribute [local go_sem] max2_int min2_int max_two min_two max_three min_three max_four min_four
set_option linter.unusedVariables false
set_option linter.unusedSimpArgs false
def nMain : ByteArray := ByteArray.mk #[109, 97, 105, 110]
def nFix : ByteArray := ByteArray.mk #[102, 105, 120]
def lv1 : Ln := (forkF Ln0 nMain (-1)).2
def lv2 : Ln := (publishF lv1 nMain 3 5 (-1) 7).2.2
def lv3 : Ln := (publishF lv2 nMain 3 9 (-1) 8).2.2
def lv4 : Ln := (forkF lv3 nFix 0).2
def lv5 : Ln := (publishF lv4 nFix 4 9 (-1) 9).2.2
def lv6 : Ln := (closeF lv5 0).2
theorem lv_reckoned : (forkF Ln0 nMain (-1)).1 = 0 ∧ ((publishF lv1 nMain 3 5 (-1) 7).1 = 0 ∧ (publishF lv1 nMain 3 5 (-1) 7).2.1 = 0) ∧ ((publishF lv2 nMain 3 9 (-1) 8).1 = 1 ∧ (publishF lv2 nMain 3 9 (-1) 8).2.1 = 0) ∧ readF lv3 nMain 4 8 = (0, 0) ∧
    (forkF lv3 nFix 0).1 = 0 ∧ headF lv4 nFix = (0, 0) ∧ ((publishF lv4 nFix 4 9 (-1) 9).1 = 2 ∧ (publishF lv4 nFix 4 9 (-1) 9).2.1 = 0) ∧ baseF lv5 2 1 = (0, 0) ∧ (closeF lv5 0).1 = 0 ∧ readF lv6 nMain 4 8 = (-1, 7) := by decide +kernel
theorem good1 : Good lv1 := good0.fork _ _
theorem good2 : Good lv2 := good1.publish _ _ _ _ _
theorem good3 : Good lv3 := good2.publish _ _ _ _ _
theorem good4 : Good lv4 := good3.fork _ _
theorem good5 : Good lv5 := good4.publish _ _ _ _ _
theorem good6 : Good lv6 := good5.close _
set_option maxHeartbeats 8000000 in
set_option maxRecDepth 100000 in
theorem lives_calls (w : World) : Calls Try.prog 14 #[] w fun e w' => e = .returned (.bool true) ∧ Below w.heap.size w w' := by
  obtain ⟨r1, ⟨r2, r2'⟩, ⟨r3, r3'⟩, r4, r5, r6, ⟨r7, r7'⟩, r8, r9, r10⟩ := lv_reckoned
  have R1 := Aside0.mk r1
  have R2 := Aside0.mk (And.intro r2 r2')
  have R3 := Aside0.mk (And.intro r3 r3')
  have R4 := Aside0.mk r4
  have R5 := Aside0.mk r5
  have R6 := Aside0.mk r6
  have R7 := Aside0.mk (And.intro r7 r7')
  have R8 := Aside0.mk r8
  have R9 := Aside0.mk r9
  have R10 := Aside0.mk r10
  clear r1 r2 r2' r3 r3' r4 r5 r6 r7 r7' r8 r9 r10
  go_enter Try.func14, Try.ntmps14
  go_wp2_with (first
    | (go_at_call 9; (with_reducible refine (new_calls _).mono ?_); rintro e w1 ⟨rfl, h1, h2⟩; have HL1 := Aside0.mk h1; have HB1 := Aside0.mk h2; clear h1 h2)
    | (go_at_call 11; (with_reducible refine (fork_calls w.heap.size (w.heap.size + 1) w.heap.size 0 Ln0 (ByteArray.mk #[109, 97, 105, 110]) (-1) w1 HL1.out HB1.out.size (by decide) (by decide)).mono ?_); rintro e w2 ⟨rfl, h1, h2, _⟩; rw [show (forkF Ln0 (ByteArray.mk #[109, 97, 105, 110]) (-1)).1 = 0 from R1.out]; have HL2 := Aside0.mk (show LS w.heap.size (w.heap.size + 1) w.heap.size 1 lv1 w2 from h1); have HB2 := Aside0.mk (HB1.out.trans h2); clear h1 h2)
    | (go_at_call 13; (with_reducible refine (publish_calls w.heap.size (w.heap.size + 1) w.heap.size 1 lv1 (ByteArray.mk #[109, 97, 105, 110]) 3 5 (-1) 7 w2 HL2.out HB2.out.size (by decide) (by decide) good1.most (fun h => (good1.first h).2)).mono ?_); rintro e w3 ⟨rfl, h1, h2, _⟩; rw [show (publishF lv1 (ByteArray.mk #[109, 97, 105, 110]) 3 5 (-1) 7).1 = 0 from R2.out.1, show (publishF lv1 (ByteArray.mk #[109, 97, 105, 110]) 3 5 (-1) 7).2.1 = 0 from R2.out.2]; have HL3 := Aside0.mk (show LS w.heap.size (w.heap.size + 1) w.heap.size 2 lv2 w3 from h1); have HB3 := Aside0.mk (HB2.out.trans h2); clear h1 h2)
    | (go_at_call 13; (with_reducible refine (publish_calls w.heap.size (w.heap.size + 1) w.heap.size 2 lv2 (ByteArray.mk #[109, 97, 105, 110]) 3 9 (-1) 8 w3 HL3.out HB3.out.size (by decide) (by decide) good2.most (fun h => (good2.first h).2)).mono ?_); rintro e w4 ⟨rfl, h1, h2, _⟩; rw [show (publishF lv2 (ByteArray.mk #[109, 97, 105, 110]) 3 9 (-1) 8).1 = 1 from R3.out.1, show (publishF lv2 (ByteArray.mk #[109, 97, 105, 110]) 3 9 (-1) 8).2.1 = 0 from R3.out.2]; have HL4 := Aside0.mk (show LS w.heap.size (w.heap.size + 1) w.heap.size 3 lv3 w4 from h1); have HB4 := Aside0.mk (HB3.out.trans h2); clear h1 h2)
    | (go_at_call 18; (with_reducible refine (read_calls w.heap.size (w.heap.size + 1) w.heap.size 3 lv3 (ByteArray.mk #[109, 97, 105, 110]) 4 8 w4 HL4.out (by decide) good3).mono ?_); rintro e w5 ⟨rfl, h2⟩; rw [show readF lv3 (ByteArray.mk #[109, 97, 105, 110]) 4 8 = (0, 0) from R4.out]; have HL5 := Aside0.mk (HL4.out.below h2); have HB5 := Aside0.mk (below_step HB4.out h2); clear h2)
    | (go_at_call 11; (with_reducible refine (fork_calls w.heap.size (w.heap.size + 1) w.heap.size 3 lv3 (ByteArray.mk #[102, 105, 120]) (0) w5 HL5.out HB5.out.size (by decide) (by decide)).mono ?_); rintro e w6 ⟨rfl, h1, h2, _⟩; rw [show (forkF lv3 (ByteArray.mk #[102, 105, 120]) (0)).1 = 0 from R5.out]; have HL6 := Aside0.mk (show LS w.heap.size (w.heap.size + 1) w.heap.size 4 lv4 w6 from h1); have HB6 := Aside0.mk (HB5.out.trans h2); clear h1 h2)
    | (go_at_call 20; (with_reducible refine (head_calls w.heap.size (w.heap.size + 1) w.heap.size 4 lv4 (ByteArray.mk #[102, 105, 120]) w6 HL6.out (by decide) good4).mono ?_); rintro e w7 ⟨rfl, h2⟩; rw [show headF lv4 (ByteArray.mk #[102, 105, 120]) = (0, 0) from R6.out]; have HL7 := Aside0.mk (HL6.out.below h2); have HB7 := Aside0.mk (below_step HB6.out h2); clear h2)
    | (go_at_call 13; (with_reducible refine (publish_calls w.heap.size (w.heap.size + 1) w.heap.size 4 lv4 (ByteArray.mk #[102, 105, 120]) 4 9 (-1) 9 w7 HL7.out HB7.out.size (by decide) (by decide) good4.most (fun h => (good4.first h).2)).mono ?_); rintro e w8 ⟨rfl, h1, h2, _⟩; rw [show (publishF lv4 (ByteArray.mk #[102, 105, 120]) 4 9 (-1) 9).1 = 2 from R7.out.1, show (publishF lv4 (ByteArray.mk #[102, 105, 120]) 4 9 (-1) 9).2.1 = 0 from R7.out.2]; have HL8 := Aside0.mk (show LS w.heap.size (w.heap.size + 1) w.heap.size 5 lv5 w8 from h1); have HB8 := Aside0.mk (HB7.out.trans h2); clear h1 h2)
    | (go_at_call 21; (with_reducible refine (base_calls w.heap.size (w.heap.size + 1) w.heap.size 5 lv5 2 1 w8 HL8.out good5.ok).mono ?_); rintro e w9 ⟨rfl, h2⟩; rw [show baseF lv5 2 1 = (0, 0) from R8.out]; obtain rfl := h2)
    | (go_at_call 28; (with_reducible refine (close_calls w.heap.size (w.heap.size + 1) w.heap.size 5 lv5 0 w8 HL8.out HB8.out.size).mono ?_); rintro e w9 ⟨rfl, h1, h2, _⟩; rw [show (closeF lv5 0).1 = 0 from R9.out]; have HL9 := Aside0.mk (show LS w.heap.size (w.heap.size + 1) w.heap.size 5 lv6 w9 from h1); have HB9 := Aside0.mk (HB8.out.trans h2); clear h1 h2)
    | (go_at_call 18; (with_reducible refine (read_calls w.heap.size (w.heap.size + 1) w.heap.size 5 lv6 (ByteArray.mk #[109, 97, 105, 110]) 4 8 w9 HL9.out (by decide) good6).mono ?_); rintro e w10 ⟨rfl, h2⟩; rw [show readF lv6 (ByteArray.mk #[109, 97, 105, 110]) 4 8 = (-1, 7) from R10.out]; have HL10 := Aside0.mk (HL9.out.below h2); have HB10 := Aside0.mk (below_step HB9.out h2); clear h2)
    | fail)
  go_returns
  exact ⟨rfl, HB10.out⟩
end Go.Proofs.Ytcbkcgnigncahaa.P
