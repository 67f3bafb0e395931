import Derived.Test.YtcbkcgnigncahaaEGivenH
namespace Go.Proofs.Ytcbkcgnigncahaa.P
open Go.RowKit Go.Maps Go.Proofs.YtcbkcgnigncahaaW.PrintWords Go.Proofs.YtcbkcgnigncahaaW.PrintLast Go.Proofs.YtcbkcgnigncahaaW.PrintMore
attribute [local go_sem] max2_int min2_int max_two min_two max_three min_three max_four min_four
set_option linter.unusedVariables false
set_option linter.unusedSimpArgs false
/-- The parent of a version comes before it. -/
def LnOk (s : Ln) : Prop := ∀ i : Int, 0 ≤ i → i < s.V.length → (rd_T43 s.V i).f1 < i
def baseGo (s : Ln) : Nat → Int → Int → Int
  | 0, a, b => min a b
  | k + 1, a, b => if a ≠ b ∧ 0 ≤ a ∧ 0 ≤ b then (if b < a then baseGo s k (rd_T43 s.V a).f1 b else baseGo s k a (rd_T43 s.V b).f1) else min a b
theorem baseGo_stop (s : Ln) (k : Nat) (a b : Int) (h : ¬ (a ≠ b ∧ 0 ≤ a ∧ 0 ≤ b)) : baseGo s k a b = min a b := by
  cases k with
  | zero => rfl
  | succ k => simp only [baseGo]; rw [if_neg h]
def baseF (s : Ln) (a b : Int) : Int × Int :=
  if existsB s a = false ∨ existsB s b = false then (-1, 7) else (baseGo s (2 * s.V.length + 2) a b, 0)
theorem exists_true {s : Ln} {id : Int} (h : existsB s id = true) : 0 ≤ id ∧ id < s.V.length := by
  unfold existsB at h
  simpa using h
set_option maxHeartbeats 4000000 in
set_option maxRecDepth 100000 in
theorem base_calls (base g b n : Nat) (s : Ln) (p q : Int) (w : World) (hs0 : LS base g b n s w) (hok : LnOk s) :
    Calls Try.prog 21 #[.pointer (some ⟨g, 0, none⟩), .int .i64 p, .int .i64 q] w fun e w' => e = .returned (.tuple #[.int .i64 (baseF s p q).1, .int .i64 (baseF s p q).2]) ∧ w = w' := by
  have HS := Aside0.mk hs0
  have HOK := Aside0.mk hok
  clear hs0 hok
  cases hx : existsB s p with
  | false =>
    have hf : baseF s p q = (-1, 7) := by unfold baseF; rw [if_pos (.inl hx)]
    have HF := Aside0.mk hf
    clear hf
    go_enter Try.func21, Try.ntmps21
    go_wp2_with (first
      | (go_at_call 41; (with_reducible refine (exists_calls base g b n s p _ HS.out).mono ?_); rintro e w3 ⟨rfl, rfl⟩; rw [hx])
      | fail)
    go_returns
    rw [HF.out]
    exact ⟨rfl, rfl⟩
  | true =>
    cases hy : existsB s q with
    | false =>
      have hf : baseF s p q = (-1, 7) := by unfold baseF; rw [if_pos (.inr hy)]
      have HF := Aside0.mk hf
      clear hf
      go_enter Try.func21, Try.ntmps21
      go_wp2_with (first
        | (go_at_call 41; (with_reducible refine (exists_calls base g b n s p _ HS.out).mono ?_); rintro e w3 ⟨rfl, rfl⟩; rw [hx])
        | (go_at_call 41; (with_reducible refine (exists_calls base g b n s q _ HS.out).mono ?_); rintro e w3 ⟨rfl, rfl⟩; rw [hy])
        | fail)
      go_returns
      rw [HF.out]
      exact ⟨rfl, rfl⟩
    | true =>
      obtain ⟨A, c, hb, hR⟩ := HS.out.block
      have k1 : w.cell? ⟨g, 1, none⟩ = some (.slice A s.V.length c) := blk_cell hb 1
      have hcap := (Kd.R_reads' hR).2.1
      have HC := Aside0.mk (Kd.R_reads' hR).2.2
      have hp := exists_true hx
      have hq := exists_true hy
      obtain ⟨m, hm⟩ : ∃ m : Nat, m = 2 * s.V.length + 2 := ⟨_, rfl⟩
      have hf : baseF s p q = (baseGo s m p q, 0) := by unfold baseF; rw [if_neg (by rw [hx, hy]; simp), hm]
      have HF := Aside0.mk hf
      have hmm : (p + 1).toNat + (q + 1).toNat ≤ m := by omega
      clear hf hb hR hm
      go_enter Try.func21, Try.ntmps21
      go_wp2_with (first
        | (go_at_call 41; (with_reducible refine (exists_calls base g b n s p _ HS.out).mono ?_); rintro e w3 ⟨rfl, rfl⟩; rw [hx])
        | (go_at_call 41; (with_reducible refine (exists_calls base g b n s q _ HS.out).mono ?_); rintro e w3 ⟨rfl, rfl⟩; rw [hy])
        | fail)
      go_loopw [1, 2] (fun v1 v2 wr => ∃ a b : Int, v1 = .int .i64 a ∧ v2 = .int .i64 b ∧ Aside0 (wr = w) ∧ Aside0 (a < s.V.length ∧ b < s.V.length) ∧ Aside0 (∃ k, (a + 1).toNat + (b + 1).toNat ≤ k ∧ baseGo s k a b = baseGo s m p q)) (fun v1 v2 _ => (intOf v1 + 1).toNat + (intOf v2 + 1).toNat)
      case atStart => exact ⟨p, q, rfl, rfl, ⟨rfl⟩, ⟨hp.2, hq.2⟩, ⟨m, hmm, rfl⟩⟩
      case round =>
        obtain ⟨a, b', rfl, rfl, ⟨rfl⟩, HI, HG⟩ := hrel
        by_cases hgo : a ≠ b' ∧ 0 ≤ a ∧ 0 ≤ b'
        · obtain ⟨hne, ha, hb⟩ := hgo
          have hne' : (a != b') = true := by rw [bne_iff_ne]; exact hne
          by_cases hlt : b' < a
          · obtain ⟨ad, e9, y0, y1, y2, y3, y4, y5, y6, y7⟩ := at_T43 HC.out a ha HI.out.1
            obtain rfl := e9
            have ha1 := HI.out.1
            go_wp2
            go_roundw
            case rel =>
              obtain ⟨k, hk, hg⟩ := HG.out
              have hpar := HOK.out a ha HI.out.1
              obtain ⟨k', rfl⟩ : ∃ k', k = k' + 1 := ⟨k - 1, by omega⟩
              simp only [baseGo] at hg
              rw [if_pos ⟨hne, ha, hb⟩, if_pos hlt] at hg
              exact ⟨_, b', rfl, rfl, ⟨by trivial⟩, ⟨by omega, HI.out.2⟩, ⟨k', by omega, hg⟩⟩
            case measure =>
              have hpar := HOK.out a ha HI.out.1
              simp only [intOf]; omega
          · obtain ⟨ad, e9, y0, y1, y2, y3, y4, y5, y6, y7⟩ := at_T43 HC.out b' hb HI.out.2
            obtain rfl := e9
            have hb1 := HI.out.2
            go_wp2
            go_roundw
            case rel =>
              obtain ⟨k, hk, hg⟩ := HG.out
              have hpar := HOK.out b' hb HI.out.2
              obtain ⟨k', rfl⟩ : ∃ k', k = k' + 1 := ⟨k - 1, by omega⟩
              simp only [baseGo] at hg
              rw [if_pos ⟨hne, ha, hb⟩, if_neg hlt] at hg
              exact ⟨a, _, rfl, rfl, ⟨by trivial⟩, ⟨HI.out.1, by omega⟩, ⟨k', by omega, hg⟩⟩
            case measure =>
              have hpar := HOK.out b' hb HI.out.2
              simp only [intOf]; omega
        · have hend : baseGo s m p q = min a b' := by
            obtain ⟨k, hk, hg⟩ := HG.out
            rw [← hg, baseGo_stop _ _ _ _ hgo]
          have HE := Aside0.mk hend
          clear hend
          have hcase : a = b' ∨ (a ≠ b' ∧ ¬ 0 ≤ a) ∨ (a ≠ b' ∧ 0 ≤ a ∧ ¬ 0 ≤ b') := by omega
          clear hgo
          obtain rfl | ⟨h1, h2⟩ | ⟨h1, h2, h3⟩ := hcase
          · go_wp2
            all_goals go_returns
            all_goals rw [HF.out, HE.out]
            all_goals exact ⟨by first | (simp; done) | (simp; omega), rfl⟩
          · have h1' : (a != b') = true := by rw [bne_iff_ne]; exact h1
            go_wp2
            all_goals go_returns
            all_goals rw [HF.out, HE.out]
            all_goals exact ⟨by first | (simp; done) | (simp; omega), rfl⟩
          · have h1' : (a != b') = true := by rw [bne_iff_ne]; exact h1
            go_wp2
            all_goals go_returns
            all_goals rw [HF.out, HE.out]
            all_goals exact ⟨by first | (simp; done) | (simp; omega), rfl⟩
end Go.Proofs.Ytcbkcgnigncahaa.P
