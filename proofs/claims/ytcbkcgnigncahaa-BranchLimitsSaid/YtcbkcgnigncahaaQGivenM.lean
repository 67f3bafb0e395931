import Derived.Test.YtcbkcgnigncahaaQGivenL
namespace Go.Proofs.Ytcbkcgnigncahaa.P
open Go.RowKit Go.Maps Go.Proofs.YtcbkcgnigncahaaW.PrintWords Go.Proofs.YtcbkcgnigncahaaW.PrintLast Go.Proofs.YtcbkcgnigncahaaW.PrintMore
attribute [local go_sem] max2_int min2_int max_two min_two max_three min_three max_four min_four
set_option linter.unusedVariables false
set_option linter.unusedSimpArgs false
theorem forkRun_at : ∀ (k i : Nat) (s : Ln), forkRun k i s = true → s = forkN i → ∀ j, j < k → (forkF (forkN (i + j)) (nameB (i + j)) (-1)).1 = if i + j < 64 then 0 else 4
  | 0, _, _, _, _, j, hj => absurd hj (Nat.not_lt_zero _)
  | k + 1, i, s, h, e, j, hj => by
    simp only [forkRun, Bool.and_eq_true, beq_iff_eq] at h
    subst e
    cases j with
    | zero => exact h.1
    | succ j =>
      have := forkRun_at k (i + 1) _ h.2 rfl j (by omega)
      rw [show i + (j + 1) = i + 1 + j by omega]
      exact this
theorem fork_at (i : Nat) (h : i < 66) : (forkF (forkN i) (nameB i) (-1)).1 = if i < 64 then 0 else 4 := by
  have := forkRun_at 66 0 Ln0 forks_ok rfl i h
  simpa using this
theorem names_small : ((List.range 66).all fun i => decide ((nameB i).size ≤ 10)) = true := by decide +kernel
theorem name_small (i : Nat) (h : i < 66) : (nameB i).size ≤ 10 := by
  have := List.all_eq_true.1 names_small i (List.mem_range.2 h)
  simpa using this
set_option maxHeartbeats 4000000 in
set_option maxRecDepth 100000 in
theorem law3 (x y A B : Int) (hA : skymosaicref01_Around.f x 5 = some A) (hA0 : 0 ≤ A) (hA1 : A < 5) (hB : skymosaicref01_Around.f y 5 = some B) (hB0 : 0 ≤ B) (hB1 : B < 5)
    (hlv : ∀ w, Calls Try.prog 14 #[] w fun e w' => e = .returned (.bool true) ∧ Below w.heap.size w w') (w : World) :
    Calls Try.prog 3 #[.int .i64 x, .int .i64 y] w fun e w' => e = .returned (.bool true) ∧ Below w.heap.size w w' := by
  have HA := Aside0.mk hA
  have HB := Aside0.mk hB
  have HLV := Aside0.mk hlv
  clear hA hB hlv
  have hwA : IntKind.i64.wrap (62 + A) = 62 + A := IntWalk.i64_in _ (by omega)
  have hwB : IntKind.i64.wrap (1022 + B) = 1022 + B := IntWalk.i64_in _ (by omega)
  go_enter Try.func3, Try.ntmps3
  go_wp2_with (first
    | (go_at_call 9; (with_reducible refine (new_calls _).mono ?_); rintro e w1 ⟨rfl, h1, h2⟩; have HL1 := Aside0.mk h1; have HB1 := Aside0.mk h2; clear h1 h2)
    | fail)
  go_loopw [6] (fun v6 wr => ∃ (i : Nat), v6 = .int .i64 i ∧ Aside0 ((i : Int) ≤ 62 + A) ∧ Aside0 (LS w.heap.size (w.heap.size + 1) w.heap.size i (forkN i) wr) ∧ Aside0 (Below w.heap.size w wr)) (fun v _ => 100 - (intOf v).toNat)
  case atStart => exact ⟨0, rfl, ⟨by omega⟩, HL1, HB1⟩
  case round =>
    obtain ⟨i, rfl, HI, HL, HBw⟩ := hrel
    obtain ⟨W, rfl⟩ : ∃ W : World, W = wr := ⟨_, rfl⟩
    have hi := HI.out
    by_cases hlt : (i : Int) < 62 + A
    · have hsz : (nameB i).size ≤ 10 := name_small i (by omega)
      have hml : (nameB i).size ≤ maxLen := by unfold maxLen; omega
      have hf := fork_at i (by omega)
      obtain ⟨dz, hdz⟩ : ∃ dz, decimalF (i : Int) = dz := ⟨_, rfl⟩
      have hnm : nameB i = ByteArray.mk #[98] ++ dz := by unfold nameB; rw [hdz]
      rw [hnm] at hsz hml hf
      have hFN : (forkF (forkN i) (ByteArray.mk #[98] ++ dz) (-1)).2 = forkN (i + 1) := by rw [← hnm]; rfl
      have hdzs : dz.size ≤ 9 := by rw [ByteArray.size_append] at hsz; have : (ByteArray.mk #[98]).size = 1 := rfl; omega
      have hnc : ¬ 9223372036854775807 < 1 + dz.size := by omega
      go_wp2_with (first
        | (go_at_call 10; (with_reducible refine (skymosaicref01_Around.calls x 5 A _ HA.out).mono ?_); rintro e w2 ⟨rfl, hd⟩; have HD := Aside0.mk hd.below; have HL2 := Aside0.mk (HL.out.below HD.out); have hs2 : w.heap.size ≤ w2.heap.size := Nat.le_trans HBw.out.size HD.out.size; clear hd)
        | (go_at_call 12; (with_reducible refine (decimal_calls (i : Int) (by omega) (by omega) _).mono ?_); rintro e w3 ⟨rfl, rfl⟩; rw [hdz])
        | (go_at_call 11; (with_reducible refine (fork_calls w.heap.size (w.heap.size + 1) w.heap.size i (forkN i) (ByteArray.mk #[98] ++ dz) (-1) _ HL2.out hs2 hml (by omega)).mono ?_); rintro e w4 ⟨rfl, h1, h2⟩; have HL4 := Aside0.mk h1; have HB4 := Aside0.mk h2; clear h1 h2; rw [hf])
        | fail)
      all_goals
        refine ⟨⟨i + 1, by simp, ⟨by omega⟩, ⟨by rw [← hFN]; exact HL4.out⟩, ⟨(below_step HBw.out HD.out).trans HB4.out⟩⟩, ?_⟩
        simp [intOf]
        omega
    · obtain ⟨n0, hn0⟩ : ∃ n0 : Nat, (n0 : Int) = 62 + A := ⟨(62 + A).toNat, by omega⟩
      obtain rfl : i = n0 := by omega
      have hP0 := Aside0.mk (forkN_pub i (by omega) (by omega))
      obtain ⟨s0, hs0⟩ : ∃ s0, forkN i = s0 := ⟨_, rfl⟩
      rw [hs0] at HL hP0
      go_wp2_with (first
        | (go_at_call 10; (with_reducible refine (skymosaicref01_Around.calls x 5 A _ HA.out).mono ?_); rintro e w2 ⟨rfl, hd⟩; have HD := Aside0.mk hd.below; have HL2 := Aside0.mk (HL.out.below HD.out); have hs2 : w.heap.size ≤ w2.heap.size := Nat.le_trans HBw.out.size HD.out.size; clear hd)
        | fail)
      have HB2 := Aside0.mk (below_step HBw.out HD.out)
      go_loopw [8] (fun v8 wr => ∃ (j : Nat) (s : Ln), v8 = .int .i64 j ∧ Aside0 ((j : Int) ≤ 1022 + B) ∧ Aside0 (Pub (min j 1024) s) ∧ Aside0 (LS w.heap.size (w.heap.size + 1) w.heap.size (i + j) s wr) ∧ Aside0 (Below w.heap.size w wr)) (fun v _ => 2000 - (intOf v).toNat)
      case atStart => exact ⟨0, s0, rfl, ⟨by omega⟩, hP0, HL2, HB2⟩
      case round =>
        obtain ⟨j, s, rfl, HJ, HP, HL3, HB3⟩ := hrel
        obtain ⟨W2, rfl⟩ : ∃ W2 : World, W2 = wr := ⟨_, rfl⟩
        have hj0 := HJ.out
        by_cases hlt2 : (j : Int) < 1022 + B
        · obtain ⟨q, hq⟩ : ∃ q, Int.tmod (j : Int) 3 = q := ⟨_, rfl⟩
          have hq2 : q = (j : Int) % 3 := by rw [← hq, Int.tmod_eq_emod_of_nonneg (by omega)]
          have hwq : IntKind.i64.wrap q = q := IntWalk.i64_in _ (by omega)
          have hVl : s.V.length ≤ 1024 := by rw [HP.out.len]; omega
          have hfst : firstF (lkp s.D (ByteArray.mk #[98, 49])) < s.V.length := by
            have := HP.out.first
            rw [show (ByteArray.mk #[98, 49]) = b1 from rfl, this, HP.out.len]
            omega
          by_cases hj : j < 1024
          · have hm : min j 1024 = j := by omega
            have hP := HP.out
            rw [hm] at hP
            obtain ⟨hn1, hn2⟩ := hP.next hj
            rw [← hq2] at hn1 hn2
            obtain ⟨s', hs'⟩ : ∃ s', (publishF s b1 q j (-1) 5).2.2 = s' := ⟨_, rfl⟩
            rw [hs'] at hn1 hn2
            have hpu : publishF s (ByteArray.mk #[98, 49]) q j (-1) 5 = ((j : Int), 0, s') := hn1
            have HN2 := Aside0.mk hn2
            clear hP hn1 hn2 hs' hq2 hm
            go_wp2_with (first
              | (go_at_call 10; (with_reducible refine (skymosaicref01_Around.calls y 5 B _ HB.out).mono ?_); rintro e w3 ⟨rfl, hd⟩; have HD3 := Aside0.mk hd.below; have HL4 := Aside0.mk (HL3.out.below HD3.out); have hs3 : w.heap.size ≤ w3.heap.size := Nat.le_trans HB3.out.size HD3.out.size; clear hd)
              | (go_at_call 13; (with_reducible refine (publish_calls w.heap.size (w.heap.size + 1) w.heap.size (i + j) s (ByteArray.mk #[98, 49]) q (j : Int) (-1) 5 _ HL4.out hs3 (by decide) (by unfold maxLen; omega) hVl (fun _ => hfst)).mono ?_); rintro e w4 ⟨rfl, h1, h2⟩; rw [hpu] at h1; rw [hpu]; have HL5 := Aside0.mk h1; have HB5 := Aside0.mk h2; clear h1 h2)
              | fail)
            all_goals
              refine ⟨⟨j + 1, s', by simp, ⟨by omega⟩, ⟨by rw [show min (j + 1) 1024 = j + 1 by omega]; exact HN2.out⟩, ⟨HL5.out⟩, ⟨(below_step HB3.out HD3.out).trans HB5.out⟩⟩, ?_⟩
              simp [intOf]
              omega
          · have hm : min j 1024 = 1024 := by omega
            have hP := HP.out
            rw [hm] at hP
            have hpu : publishF s (ByteArray.mk #[98, 49]) q j (-1) 5 = (0, 4, s) := by
              rw [hq2]
              exact hP.full j (by omega) (by omega)
            clear hP hq2 hm
            go_wp2_with (first
              | (go_at_call 10; (with_reducible refine (skymosaicref01_Around.calls y 5 B _ HB.out).mono ?_); rintro e w3 ⟨rfl, hd⟩; have HD3 := Aside0.mk hd.below; have HL4 := Aside0.mk (HL3.out.below HD3.out); have hs3 : w.heap.size ≤ w3.heap.size := Nat.le_trans HB3.out.size HD3.out.size; clear hd)
              | (go_at_call 13; (with_reducible refine (publish_calls w.heap.size (w.heap.size + 1) w.heap.size (i + j) s (ByteArray.mk #[98, 49]) q (j : Int) (-1) 5 _ HL4.out hs3 (by decide) (by unfold maxLen; omega) hVl (fun _ => hfst)).mono ?_); rintro e w4 ⟨rfl, h1, h2⟩; rw [hpu] at h1; rw [hpu]; have HL5 := Aside0.mk h1; have HB5 := Aside0.mk h2; clear h1 h2)
              | fail)
            all_goals
              refine ⟨⟨j + 1, s, by simp, ⟨by omega⟩, ⟨by rw [show min (j + 1) 1024 = min j 1024 by omega]; exact HP.out⟩, ⟨HL5.out⟩, ⟨(below_step HB3.out HD3.out).trans HB5.out⟩⟩, ?_⟩
              simp [intOf]
              omega
        · go_wp2_with (first
            | (go_at_call 10; (with_reducible refine (skymosaicref01_Around.calls y 5 B _ HB.out).mono ?_); rintro e w3 ⟨rfl, hd⟩; have HD3 := Aside0.mk hd.below; clear hd)
            | (go_at_call 14; (with_reducible refine (HLV.out _).mono ?_); rintro e w4 ⟨rfl, hb4⟩; have HB4 := Aside0.mk hb4; clear hb4)
            | fail)
          go_returns
          exact ⟨rfl, below_step (below_step HB3.out HD3.out) HB4.out⟩
end Go.Proofs.Ytcbkcgnigncahaa.P
