import Derived.Test.YtcbkcgnigncahaaDGivenXc
namespace Go.Proofs.Ytcbkcgnigncahaa.P
open Go.RowKit Go.Maps Go.Proofs.YtcbkcgnigncahaaW.PrintWords Go.Proofs.YtcbkcgnigncahaaW.PrintLast Go.Proofs.YtcbkcgnigncahaaW.PrintMore
attribute [local go_sem] max2_int min2_int max_two min_two max_three min_three max_four min_four
set_option linter.unusedVariables false
set_option linter.unusedSimpArgs false
/-- Parents come before. -/
def RfOk (r : Rf) : Prop := ∀ i : Int, 0 ≤ i → i < r.V.length → (rd_T92 r.V i).f1 < i
theorem rgo_neg (V : List S92) (t u : Int) (k : Nat) (i : Int) (h : i < 0) : rgo V t u k i = -1 := by
  cases k with
  | zero => rfl
  | succ k => simp only [rgo]; rw [if_pos h]
set_option maxHeartbeats 8000000 in
set_option maxRecDepth 100000 in
theorem rread_calls (base g : Nat) (r : Rf) (name : ByteArray) (t u : Int) (w : World) (h : RS base g r w) (hl : r.B.length ≤ 64) (hv : r.V.length ≤ 2000) (hfi : firstR r name < r.V.length) (hfl : findR r.B name < r.B.length) (hok : RfOk r) :
    Calls Try.prog 25 #[.pointer (some ⟨g, 0, none⟩), .string name, .int .i64 t, .int .i64 u] w fun e w' => e = .returned (.tuple #[.int .i64 (rreadF r name t u).1, .int .i64 (rreadF r name t u).2]) ∧ w = w' := by
  have HS := Aside0.mk h
  have HFL := Aside0.mk hfl
  have HOK := Aside0.mk hok
  obtain ⟨f, hff⟩ : ∃ f, findR r.B name = f := ⟨_, rfl⟩
  have HFF := Aside0.mk hff
  obtain ⟨p, hpp⟩ : ∃ p, firstR r name = p := ⟨_, rfl⟩
  have HPP := Aside0.mk hpp
  rw [hpp] at hfi
  obtain ⟨A, c, A', c', hg, c0, c1, z0, z1, hc, hc', hB, hV⟩ := h.cells
  have HV := Aside0.mk hV
  by_cases h1 : findR r.B name < 0
  · have HF := Aside0.mk (show rreadF r name t u = (-1, 6) by unfold rreadF; rw [if_pos h1])
    have hf0 : f < 0 := by omega
    clear h hfl hff hpp h1 hok hg hB hV c0 z0 z1 hc
    go_enter Try.func25, Try.ntmps25
    go_wp2_with (first
      | (go_at_call 56; (with_reducible refine (find_calls base g r name w HS.out (by omega)).mono ?_); rintro e w3 ⟨rfl, rfl⟩; rw [HFF.out])
      | fail)
    go_returns
    rw [HF.out]
    exact ⟨rfl, rfl⟩
  · have hf0 : ¬ f < 0 := by omega
    obtain ⟨K, hK⟩ : ∃ K, K = r.V.length + 1 := ⟨_, rfl⟩
    have HF := Aside0.mk (show ∀ x, rgo r.V t u K p = x → rreadF r name t u = if x < 0 then (-1, 7) else (x, 0) from by
      rintro x rfl
      unfold rreadF
      rw [if_neg h1, hpp, ← hK])
    have hpK : (p + 1).toNat ≤ K := by omega
    clear h hfl hff hpp h1 hok hg hB hV c0 z0 z1 hc hK
    go_enter Try.func25, Try.ntmps25
    go_wp2_with (first
      | (go_at_call 56; (with_reducible refine (find_calls base g r name w HS.out (by omega)).mono ?_); rintro e w3 ⟨rfl, rfl⟩; rw [HFF.out])
      | (go_at_call 57; (with_reducible refine (first_calls base g r name _ HS.out (by omega) hv HFL.out).mono ?_); rintro e w4 ⟨rfl, rfl⟩; rw [HPP.out])
      | fail)
    go_loopw [10] (fun v10 wr => ∃ i : Int, v10 = .int .i64 i ∧ Aside0 (wr = w) ∧ Aside0 (i < r.V.length) ∧ Aside0 (∃ k, (i + 1).toNat ≤ k ∧ rgo r.V t u k i = rgo r.V t u K p)) (fun v _ => (intOf v + 1).toNat)
    case atStart => exact ⟨p, rfl, ⟨rfl⟩, ⟨hfi⟩, ⟨K, hpK, rfl⟩⟩
    case round =>
      obtain ⟨i, rfl, ⟨rfl⟩, HI, HK⟩ := hrel
      have hi := HI.out
      by_cases h0 : i < 0
      · have hres : rgo r.V t u K p = -1 := by
          obtain ⟨k, _, hk⟩ := HK.out
          rw [← hk, rgo_neg _ _ _ _ _ h0]
        have HR := Aside0.mk (HF.out _ hres)
        have hnn : ¬ 0 ≤ i := by omega
        clear hres
        go_wp2
        go_returns
        rw [HR.out]
        exact ⟨rfl, rfl⟩
      · have h0' : 0 ≤ i := by omega
        obtain ⟨ad, e9, y0, y1, y2, y3, y4, y5, y6, y7⟩ := at_T92 (Kd.R_reads' HV.out).2.2 i h0' hi
        obtain rfl := e9
        have hpar := HOK.out i h0' hi
        have hstep : (((rd_T92 r.V i).f7 = true ∨ t < (rd_T92 r.V i).f3 ∨ u < (rd_T92 r.V i).f4) → ∃ k, ((rd_T92 r.V i).f1 + 1).toNat ≤ k ∧ rgo r.V t u k (rd_T92 r.V i).f1 = rgo r.V t u K p) ∧ (¬ ((rd_T92 r.V i).f7 = true ∨ t < (rd_T92 r.V i).f3 ∨ u < (rd_T92 r.V i).f4) → rgo r.V t u K p = i) := by
          obtain ⟨k, hk1, hk2⟩ := HK.out
          obtain ⟨k, rfl⟩ : ∃ k', k = k' + 1 := ⟨k - 1, by omega⟩
          simp only [rgo] at hk2
          rw [if_neg h0] at hk2
          constructor
          · intro hc
            rw [if_pos hc] at hk2
            exact ⟨k, by omega, hk2⟩
          · intro hc
            rw [if_neg hc] at hk2
            exact hk2.symm
        obtain ⟨x, hx⟩ : ∃ x, rd_T92 r.V i = x := ⟨_, rfl⟩
        rw [hx] at y0 y1 y2 y3 y4 y5 y6 y7 hstep hpar
        have HST := Aside0.mk hstep
        clear hstep y0 y2 y5 y6 hx
        obtain ⟨x0, x1, x2, x3, x4, x5, x6, x7⟩ := x
        simp only at y1 y3 y4 y7 hpar
        have hnext : ∀ (hc : x7 = true ∨ t < x3 ∨ u < x4), ∃ k, (x1 + 1).toNat ≤ k ∧ rgo r.V t u k x1 = rgo r.V t u K p := fun hc => HST.out.1 hc
        have hstop : ¬ (x7 = true ∨ t < x3 ∨ u < x4) → rgo r.V t u K p = i := fun hc => HST.out.2 hc
        have HN := Aside0.mk hnext
        have HE := Aside0.mk hstop
        clear hnext hstop
        cases x7 with
        | true =>
          go_wp2
          go_roundw
          case rel => exact ⟨x1, rfl, ⟨by trivial⟩, ⟨by omega⟩, ⟨HN.out (.inl rfl)⟩⟩
          case measure => simp only [intOf]; omega
        | false =>
          by_cases c3 : t < x3
          · go_wp2
            go_roundw
            case rel => exact ⟨x1, rfl, ⟨by trivial⟩, ⟨by omega⟩, ⟨HN.out (.inr (.inl c3))⟩⟩
            case measure => simp only [intOf]; omega
          · by_cases c4 : u < x4
            · go_wp2
              go_roundw
              case rel => exact ⟨x1, rfl, ⟨by trivial⟩, ⟨by omega⟩, ⟨HN.out (.inr (.inr c4))⟩⟩
              case measure => simp only [intOf]; omega
            · have HR := Aside0.mk (HF.out _ (HE.out (by simp; omega)))
              go_wp2
              go_returns
              rw [HR.out, if_neg (by omega)]
              exact ⟨rfl, rfl⟩
set_option maxHeartbeats 8000000 in
theorem rhead_calls (base g : Nat) (r : Rf) (name : ByteArray) (w : World) (h : RS base g r w) (hl : r.B.length ≤ 64) (hv : r.V.length ≤ 2000) (hfi : firstR r name < r.V.length) (hfl : findR r.B name < r.B.length) (hok : RfOk r) :
    Calls Try.prog 55 #[.pointer (some ⟨g, 0, none⟩), .string name] w fun e w' => e = .returned (.tuple #[.int .i64 (rheadF r name).1, .int .i64 (rheadF r name).2]) ∧ w = w' := by
  have hr := rread_calls base g r name 4611686018427387904 4611686018427387904 w h hl hv hfi hfl hok
  obtain ⟨⟨v, e⟩, hre⟩ : ∃ x, rreadF r name 4611686018427387904 4611686018427387904 = x := ⟨_, rfl⟩
  rw [hre] at hr
  have HR := Aside0.mk hr
  have HF := Aside0.mk (show rheadF r name = if e = 7 then (-1, 0) else (v, e) by unfold rheadF; rw [hre])
  clear hr h hfi hfl hok hre
  by_cases h7 : e = 7
  · subst h7
    go_enter Try.func55, Try.ntmps55
    go_wp2_with (first
      | (go_at_call 25; (with_reducible refine HR.out.mono ?_); rintro e w3 ⟨rfl, rfl⟩)
      | fail)
    go_returns
    rw [HF.out]
    exact ⟨rfl, rfl⟩
  · have h7' : (e == 7) = false := by simpa using h7
    have H7 := Aside0.mk h7
    clear h7
    go_enter Try.func55, Try.ntmps55
    go_wp2_with (first
      | (go_at_call 25; (with_reducible refine HR.out.mono ?_); rintro e w3 ⟨rfl, rfl⟩)
      | fail)
    go_returns
    rw [HF.out, if_neg H7.out]
    exact ⟨rfl, rfl⟩
end Go.Proofs.Ytcbkcgnigncahaa.P
