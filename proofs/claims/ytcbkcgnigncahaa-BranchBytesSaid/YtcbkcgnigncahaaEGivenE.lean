import Derived.Test.YtcbkcgnigncahaaEGivenD
namespace Go.Proofs.Ytcbkcgnigncahaa.P
open Go.RowKit Go.Maps Go.Proofs.YtcbkcgnigncahaaW.PrintWords Go.Proofs.YtcbkcgnigncahaaW.PrintLast Go.Proofs.YtcbkcgnigncahaaW.PrintMore
attribute [local go_sem] max2_int min2_int max_two min_two max_three min_three max_four min_four
set_option linter.unusedVariables false
set_option linter.unusedSimpArgs false
def firstF (p : Int × Int) : Int := if p.2 ≥ 0 then p.2 else p.1
theorem first_c (x y : Int) (w : World) : Calls Try.prog 42 #[.agg #[.int .i64 x, .int .i64 y]] w fun e w' => e = .returned (.int .i64 (firstF (x, y))) ∧ Below w.heap.size w w' := by
  refine branch_line_first.calls x y (firstF (x, y)) w ?_
  unfold branch_line_first.f firstF
  split <;> rfl
def publishF (s : Ln) (name : ByteArray) (a2 a3 a4 a5 : Int) : Int × Int × Ln :=
  if hasB s.D name = false then (0, 6, s)
  else if rangeB a2 a3 a4 = false then (0, 1, s)
  else if 0 ≤ firstF (lkp s.D name) ∧ a3 < (rd_T43 s.V (firstF (lkp s.D name))).f4 then (0, 16, s)
  else if 1024 ≤ s.V.length then (0, 4, s)
  else ((s.V.length : Int), 0, ⟨s.D.put (keyB name) (lnD (lkp s.D name).1 (s.V.length : Int)), s.V ++ [⟨(s.V.length : Int), firstF (lkp s.D name), name, a2, a3, a4, a5, false⟩]⟩)
set_option maxHeartbeats 4000000 in
set_option maxRecDepth 100000 in
theorem publish_no (base g b n : Nat) (s : Ln) (name : ByteArray) (a2 a3 a4 a5 : Int) (w : World) (hs0 : LS base g b n s w) (hbase : base ≤ w.heap.size) (hs : name.size ≤ maxLen) (hV : s.V.length ≤ 1024) (hfst : hasB s.D name = true → firstF (lkp s.D name) < s.V.length)
    (hno : (publishF s name a2 a3 a4 a5).2.1 ≠ 0) :
    Calls Try.prog 13 #[.pointer (some ⟨g, 0, none⟩), .string name, .int .i64 a2, .int .i64 a3, .int .i64 a4, .int .u64 a5] w fun e w' => e = .returned (.tuple #[.int .i64 (publishF s name a2 a3 a4 a5).1, .int .i64 (publishF s name a2 a3 a4 a5).2.1]) ∧ LS base g b (n + 1) (publishF s name a2 a3 a4 a5).2.2 w' ∧ Below base w w' ∧ KeepO g b w w' := by
  have HFST := Aside0.mk hfst
  clear hfst
  have HS := Aside0.mk hs0
  have HOW := Aside0.mk hs0.2.2.2
  obtain ⟨A0, cc0, c0, c1, z1, _, _, _, _⟩ := hs0.cells
  clear hs0 c1 z1
  have hu80 := Try.underlying80
  cases hh : hasB s.D name with
  | false =>
    have hf : publishF s name a2 a3 a4 a5 = (0, 6, s) := by unfold publishF; rw [if_pos hh]
    have HF := Aside0.mk hf
    clear hf
    go_enter Try.func13, Try.ntmps13
    go_wp2_with (first
      | (at_lookup; refine lookup_line _ rfl _ _ rfl b n s.D name rfl rfl HOW.out hs ?_)
      | (go_at_call 42; (with_reducible refine (first_c _ _ _).mono ?_); rintro e w2 ⟨rfl, hb2⟩; have HB2 := Aside0.mk (below_step (below_alloc (Below.refl w.heap.size w) _) hb2); have HS2 := Aside0.mk (LS.below HS.out HB2.out); have HX := Aside0.mk (blk_below (blk_new w (.cells #[.int .i64 (lkp s.D name).1, .int .i64 (lkp s.D name).2] 80)) hb2); clear hb2; obtain ⟨A, c, c0, c1, z1, hc, hC, hR, hG⟩ := HS2.out.cells; have HC2 := Aside0.mk hC; clear hC hR hG hc)
      | (go_at_call 43; (with_reducible refine (inrange_calls a2 a3 a4 _).mono ?_); rintro e w3 ⟨rfl, rfl⟩)
      | fail)
    go_ret2
    rw [HF.out]
    exact ⟨rfl, HS2.out.more, HB2.out.mono hbase, KeepO.of_below HB2.out HS.out.lt⟩
  | true =>
    cases hr : rangeB a2 a3 a4 with
    | false =>
      have hf : publishF s name a2 a3 a4 a5 = (0, 1, s) := by unfold publishF; rw [if_neg (by rw [hh]; decide), if_pos hr]
      have HF := Aside0.mk hf
      clear hf
      go_enter Try.func13, Try.ntmps13
      go_wp2_with (first
        | (at_lookup; refine lookup_line _ rfl _ _ rfl b n s.D name rfl rfl HOW.out hs ?_)
        | (go_at_call 42; (with_reducible refine (first_c _ _ _).mono ?_); rintro e w2 ⟨rfl, hb2⟩; have HB2 := Aside0.mk (below_step (below_alloc (Below.refl w.heap.size w) _) hb2); have HS2 := Aside0.mk (LS.below HS.out HB2.out); have HX := Aside0.mk (blk_below (blk_new w (.cells #[.int .i64 (lkp s.D name).1, .int .i64 (lkp s.D name).2] 80)) hb2); clear hb2; obtain ⟨A, c, c0, c1, z1, hc, hC, hR, hG⟩ := HS2.out.cells; have HC2 := Aside0.mk hC; clear hC hR hG hc)
        | (go_at_call 43; (with_reducible refine (inrange_calls a2 a3 a4 _).mono ?_); rintro e w3 ⟨rfl, rfl⟩)
        | fail)
      go_ret2
      rw [HF.out]
      exact ⟨rfl, HS2.out.more, HB2.out.mono hbase, KeepO.of_below HB2.out HS.out.lt⟩
    | true =>
      obtain ⟨p, hp⟩ : ∃ p, firstF ((lkp s.D name).1, (lkp s.D name).2) = p := ⟨_, rfl⟩
      have hp' : firstF (lkp s.D name) = p := hp
      have hfst := HFST.out hh
      rw [hp'] at hfst
      by_cases hp0 : 0 ≤ p
      · by_cases ho : a3 < (rd_T43 s.V p).f4
        · have hf : publishF s name a2 a3 a4 a5 = (0, 16, s) := by unfold publishF; rw [hp', if_neg (by rw [hh]; decide), if_neg (by rw [hr]; decide), if_pos ⟨hp0, ho⟩]
          have HF := Aside0.mk hf
          clear hf
          go_enter Try.func13, Try.ntmps13
          go_wp2_with (first
            | (at_lookup; refine lookup_line _ rfl _ _ rfl b n s.D name rfl rfl HOW.out hs ?_)
            | (go_at_call 42; (with_reducible refine (first_c _ _ _).mono ?_); rintro e w2 ⟨rfl, hb2⟩; have HB2 := Aside0.mk (below_step (below_alloc (Below.refl w.heap.size w) _) hb2); have HS2 := Aside0.mk (LS.below HS.out HB2.out); have HX := Aside0.mk (blk_below (blk_new w (.cells #[.int .i64 (lkp s.D name).1, .int .i64 (lkp s.D name).2] 80)) hb2); clear hb2; obtain ⟨A, c, c0, c1, z1, hc, hC, hR, hG⟩ := HS2.out.cells; have HC2 := Aside0.mk hC; clear hC hR hG hc; obtain ⟨ad, e9, y0, y1, y2, y3, y4, y5, y6, y7⟩ := at_T43 HC2.out p hp0 hfst; obtain rfl := e9; rw [hp])
            | (go_at_call 43; (with_reducible refine (inrange_calls a2 a3 a4 _).mono ?_); rintro e w3 ⟨rfl, rfl⟩)
            | fail)
          go_ret2
          rw [HF.out]
          exact ⟨rfl, HS2.out.more, HB2.out.mono hbase, KeepO.of_below HB2.out HS.out.lt⟩
        · by_cases hf4 : 1024 ≤ s.V.length
          · have hf5 : (1024 : Int) ≤ (s.V.length : Int) := by omega
            have hf : publishF s name a2 a3 a4 a5 = (0, 4, s) := by unfold publishF; rw [hp', if_neg (by rw [hh]; decide), if_neg (by rw [hr]; decide), if_neg (fun h => ho h.2), if_pos hf4]
            have HF := Aside0.mk hf
            clear hf
            go_enter Try.func13, Try.ntmps13
            go_wp2_with (first
              | (at_lookup; refine lookup_line _ rfl _ _ rfl b n s.D name rfl rfl HOW.out hs ?_)
              | (go_at_call 42; (with_reducible refine (first_c _ _ _).mono ?_); rintro e w2 ⟨rfl, hb2⟩; have HB2 := Aside0.mk (below_step (below_alloc (Below.refl w.heap.size w) _) hb2); have HS2 := Aside0.mk (LS.below HS.out HB2.out); have HX := Aside0.mk (blk_below (blk_new w (.cells #[.int .i64 (lkp s.D name).1, .int .i64 (lkp s.D name).2] 80)) hb2); clear hb2; obtain ⟨A, c, c0, c1, z1, hc, hC, hR, hG⟩ := HS2.out.cells; have HC2 := Aside0.mk hC; clear hC hR hG hc; obtain ⟨ad, e9, y0, y1, y2, y3, y4, y5, y6, y7⟩ := at_T43 HC2.out p hp0 hfst; obtain rfl := e9; rw [hp])
              | (go_at_call 43; (with_reducible refine (inrange_calls a2 a3 a4 _).mono ?_); rintro e w3 ⟨rfl, rfl⟩)
              | fail)
            go_ret2
            rw [HF.out]
            exact ⟨rfl, HS2.out.more, HB2.out.mono hbase, KeepO.of_below HB2.out HS.out.lt⟩
          · exfalso
            apply hno
            unfold publishF
            rw [hp', if_neg (by rw [hh]; decide), if_neg (by rw [hr]; decide), if_neg (fun h => ho h.2), if_neg hf4]
      · by_cases hf4 : 1024 ≤ s.V.length
        · have hf5 : (1024 : Int) ≤ (s.V.length : Int) := by omega
          have hf : publishF s name a2 a3 a4 a5 = (0, 4, s) := by unfold publishF; rw [hp', if_neg (by rw [hh]; decide), if_neg (by rw [hr]; decide), if_neg (fun h => hp0 h.1), if_pos hf4]
          have HF := Aside0.mk hf
          clear hf
          go_enter Try.func13, Try.ntmps13
          go_wp2_with (first
            | (at_lookup; refine lookup_line _ rfl _ _ rfl b n s.D name rfl rfl HOW.out hs ?_)
            | (go_at_call 42; (with_reducible refine (first_c _ _ _).mono ?_); rintro e w2 ⟨rfl, hb2⟩; have HB2 := Aside0.mk (below_step (below_alloc (Below.refl w.heap.size w) _) hb2); have HS2 := Aside0.mk (LS.below HS.out HB2.out); have HX := Aside0.mk (blk_below (blk_new w (.cells #[.int .i64 (lkp s.D name).1, .int .i64 (lkp s.D name).2] 80)) hb2); clear hb2; obtain ⟨A, c, c0, c1, z1, hc, hC, hR, hG⟩ := HS2.out.cells; have HC2 := Aside0.mk hC; clear hC hR hG hc; rw [hp])
            | (go_at_call 43; (with_reducible refine (inrange_calls a2 a3 a4 _).mono ?_); rintro e w3 ⟨rfl, rfl⟩)
            | fail)
          go_ret2
          rw [HF.out]
          exact ⟨rfl, HS2.out.more, HB2.out.mono hbase, KeepO.of_below HB2.out HS.out.lt⟩
        · exfalso
          apply hno
          unfold publishF
          rw [hp', if_neg (by rw [hh]; decide), if_neg (by rw [hr]; decide), if_neg (fun h => hp0 h.1), if_neg hf4]
end Go.Proofs.Ytcbkcgnigncahaa.P
