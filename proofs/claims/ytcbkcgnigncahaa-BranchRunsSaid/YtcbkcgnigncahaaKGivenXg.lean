import Derived.Test.YtcbkcgnigncahaaKGivenXf
import Derived.Test.YtcbkcgnigncahaaKGivenU
import Derived.Test.YtcbkcgnigncahaaKPlainK
namespace Go.Proofs.Ytcbkcgnigncahaa.P
open Go.RowKit Go.Maps Go.Proofs.YtcbkcgnigncahaaW.PrintWords Go.Proofs.YtcbkcgnigncahaaW.PrintLast Go.Proofs.YtcbkcgnigncahaaW.PrintMore
attribute [local go_sem] max2_int min2_int max_two min_two max_three min_three max_four min_four
set_option linter.unusedVariables false
set_option linter.unusedSimpArgs false
set_option maxHeartbeats 8000000 in
set_option maxRecDepth 100000 in
theorem anc_calls (base g : Nat) (r : Rf) (a : Int) (w : World) (h : RS base g r w) (hv : r.V.length ≤ 2000) (ha : a < r.V.length) (hok : RfOk r) :
    Calls Try.prog 58 #[.pointer (some ⟨g, 0, none⟩), .int .i64 a] w fun e w' => ∃ v, e = .returned v ∧ Kd.R (Kd.int .i64) 3 w' w.heap.size (fun _ => True) v (anc r.V (r.V.length + 1) a) ∧ Below w.heap.size w w' := by
  have HS := Aside0.mk h
  have HOK := Aside0.mk hok
  obtain ⟨K, hK⟩ : ∃ K, r.V.length + 1 = K := ⟨_, rfl⟩
  rw [hK]
  have hKl : K ≤ 2001 := by omega
  have haK : (a + 1).toNat ≤ K := by omega
  obtain ⟨L, hL⟩ : ∃ L, anc r.V K a = L := ⟨_, rfl⟩
  have hLl : L.length ≤ K := by rw [← hL]; exact anc_len _ _ _
  rw [hL]
  have HLL := Aside0.mk hL
  clear h hok hK hL
  go_enter Try.func58, Try.ntmps58
  go_wp2_with fail
  go_loopw [1, 5] (fun v1 v5 wr => ∃ (i : Int) (acc : List Int), v1 = .int .i64 i ∧ Aside0 (i < r.V.length) ∧ Aside0 (Below w.heap.size w wr) ∧ Aside0 (Kd.R (Kd.int .i64) 3 wr w.heap.size (fun _ => True) v5 acc) ∧ Aside0 (∃ k, (i + 1).toNat ≤ k ∧ acc ++ anc r.V k i = L)) (fun v _ _ => (intOf v + 1).toNat)
  case atStart => exact ⟨a, [], rfl, ⟨ha⟩, ⟨Below.refl _ _⟩, ⟨Kd.R_nil _ _ _ _ _⟩, ⟨K, haK, HLL.out⟩⟩
  case round =>
    obtain ⟨i, acc, rfl, HI, HB, HO, HE⟩ := hrel
    obtain ⟨wb, rfl⟩ : ∃ wb : World, wb = wr := ⟨_, rfl⟩
    have hi := HI.out
    by_cases h0 : 0 ≤ i
    · obtain ⟨k, hk1, hk2⟩ := HE.out
      obtain ⟨k, rfl⟩ : ∃ k', k = k' + 1 := ⟨k - 1, by omega⟩
      simp only [anc] at hk2
      rw [if_neg (by omega)] at hk2
      have hal : acc.length + 1 ≤ K := by
        have := congrArg List.length hk2
        rw [List.length_append, List.length_cons] at this
        omega
      have HN := Aside0.mk (show acc ++ [i] ++ anc r.V k (rd_T92 r.V i).f1 = L from by rw [List.append_assoc]; exact hk2)
      have hpar := HOK.out i h0 hi
      clear hk2
      obtain ⟨Av, cv, rfl⟩ := Kd.R_slice HO.out
      go_wp2_with (first
        | (at_builtin; refine Kd.R_append (Kd.int .i64) (w0 := w) w.heap.size rfl (.tmp 8) (.tmp 10) 33 3 (.int .i64 0) 8 rfl Try.underlying33 info3 rfl (by decide) (by omega) (.slice Av acc.length cv) acc i [.int .i64 i] (fun _ => True) (fun _ => False) rfl rfl ?aP (fun _ hk => hk.elim) ?aF HO.out ?aB ?aS ?aL ?_; (case aP => exact rfl); (case aF => exact fun _ _ => trivial); (case aB => exact HB.out); (case aS => exact HB.out.size); (case aL => omega); intro v1 w5 ho hb hg hat; have HO5 := Aside0.mk ho; have HB5 := Aside0.mk hb; clear ho hb hg hat; obtain ⟨A5, c5, rfl⟩ := Kd.R_slice HO5.out; have HS5 := Aside0.mk (HS.out.below HB5.out); obtain ⟨A6, c6, A6', c6', hg6, c60, c61, z60, z61, hc6, hc6', hB6, hV6⟩ := HS5.out.cells; obtain ⟨ad, e9, y0, y1, y2, y3, y4, y5, y6, y7⟩ := at_T92 (Kd.R_reads' hV6).2.2 i h0 hi; obtain rfl := e9; clear hg6 c60 z60 z61 hc6 hB6 hV6 y0 y2 y3 y4 y5 y6 y7)
        | fail)
      go_roundw
      case rel => exact ⟨(rd_T92 r.V i).f1, acc ++ [i], rfl, ⟨by omega⟩, HB5, ⟨by have := HO5.out; rwa [List.length_append, List.length_singleton] at this⟩, ⟨k, by omega, HN.out⟩⟩
      case measure => simp only [intOf]; omega
    · have hL2 : acc = L := by
        obtain ⟨k, _, hk⟩ := HE.out
        rw [← hk]
        cases k with
        | zero => simp [anc]
        | succ k => simp only [anc]; rw [if_pos (by omega)]; simp
      obtain ⟨Av, cv, rfl⟩ := Kd.R_slice HO.out
      have HO2 := Aside0.mk (show Kd.R (Kd.int .i64) 3 wb w.heap.size (fun _ => True) (.slice Av acc.length cv) L from by rw [← hL2]; exact HO.out)
      clear hL2
      go_wp2
      go_returns
      exact ⟨_, rfl, HO2.out, HB.out⟩
set_option maxHeartbeats 8000000 in
set_option maxRecDepth 100000 in
theorem rbase_calls (base g : Nat) (r : Rf) (a b : Int) (w : World) (h : RS base g r w) (hv : r.V.length ≤ 2000) (hok : RfOk r) :
    Calls Try.prog 26 #[.pointer (some ⟨g, 0, none⟩), .int .i64 a, .int .i64 b] w fun e w' => e = .returned (.tuple #[.int .i64 (rbaseF r a b).1, .int .i64 (rbaseF r a b).2]) ∧ Below w.heap.size w w' := by
  have HS := Aside0.mk h
  obtain ⟨A, c, A', c', hg, c0, c1, z0, z1, hc, hc', hB, hV⟩ := h.cells
  clear hg c0 z0 z1 hc hB hV h
  by_cases hx : rexists r a = false ∨ rexists r b = false
  · have HF := Aside0.mk (show rbaseF r a b = (-1, 7) by unfold rbaseF; rw [if_pos hx])
    have hcase : a < 0 ∨ (¬ a < 0 ∧ (r.V.length : Int) ≤ a) ∨ (¬ a < 0 ∧ ¬ (r.V.length : Int) ≤ a ∧ b < 0) ∨ (¬ a < 0 ∧ ¬ (r.V.length : Int) ≤ a ∧ ¬ b < 0 ∧ (r.V.length : Int) ≤ b) := by
      unfold rexists at hx
      simp only [Bool.and_eq_false_iff, decide_eq_false_iff_not] at hx
      omega
    clear hx hok
    rcases hcase with h1 | ⟨h1, h2⟩ | ⟨h1, h2, h3⟩ | ⟨h1, h2, h3, h4⟩
    · go_enter Try.func26, Try.ntmps26
      go_wp2
      go_returns
      rw [HF.out]
      exact ⟨rfl, Below.refl _ _⟩
    · go_enter Try.func26, Try.ntmps26
      go_wp2
      go_returns
      rw [HF.out]
      exact ⟨rfl, Below.refl _ _⟩
    · go_enter Try.func26, Try.ntmps26
      go_wp2
      go_returns
      rw [HF.out]
      exact ⟨rfl, Below.refl _ _⟩
    · go_enter Try.func26, Try.ntmps26
      go_wp2
      go_returns
      rw [HF.out]
      exact ⟨rfl, Below.refl _ _⟩
  · have ha := rexists_true (r := r) (id := a) (by cases e : rexists r a with | true => rfl | false => exact absurd (.inl e) hx)
    have hb := rexists_true (r := r) (id := b) (by cases e : rexists r b with | true => rfl | false => exact absurd (.inr e) hx)
    have n1 : ¬ a < 0 := by omega
    have n2 : ¬ (r.V.length : Int) ≤ a := by omega
    have n3 : ¬ b < 0 := by omega
    have n4 : ¬ (r.V.length : Int) ≤ b := by omega
    obtain ⟨X, hX⟩ : ∃ X, anc r.V (r.V.length + 1) a = X := ⟨_, rfl⟩
    obtain ⟨Y, hY⟩ : ∃ Y, anc r.V (r.V.length + 1) b = Y := ⟨_, rfl⟩
    have hXl : X.length ≤ 2001 := by have := anc_len r.V (r.V.length + 1) a; rw [hX] at this; omega
    have hYl : Y.length ≤ 2001 := by have := anc_len r.V (r.V.length + 1) b; rw [hY] at this; omega
    have HF := Aside0.mk (show rbaseF r a b = ((X.find? (fun x => Y.contains x)).getD (-1), 0) by unfold rbaseF; rw [if_neg hx, hX, hY])
    have HA := Aside0.mk ha.2
    have HBB := Aside0.mk hb.2
    have HX := Aside0.mk hX
    have HY := Aside0.mk hY
    clear hx hX hY ha hb
    go_enter Try.func26, Try.ntmps26
    go_upto_region 5 with (first
      | (go_at_call 58; (with_reducible refine (anc_calls base g r a w HS.out hv HA.out hok).mono ?_); rintro e w3 ⟨v, rfl, h1, h2⟩; rw [HX.out] at h1; have HX3 := Aside0.mk h1; have HB3 := Aside0.mk h2; have HS3 := Aside0.mk (HS.out.below h2); clear h1 h2; obtain ⟨Ax, cx, rfl⟩ := Kd.R_slice HX3.out)
      | (go_at_call 58; (with_reducible refine (anc_calls base g r b w3 HS3.out hv HBB.out hok).mono ?_); rintro e w4 ⟨v, rfl, h1, h2⟩; rw [HY.out] at h1; have HY4 := Aside0.mk h1; have HB4 := Aside0.mk (below_step HB3.out h2); have HX4 := Aside0.mk (Kd.R_below HX3.out h2); clear h1 h2; obtain ⟨Ay, cy, rfl⟩ := Kd.R_slice HY4.out)
      | fail)
    go_wp2_with fail
    go_loopw [10] (fun v10 wr => ∃ i : Nat, v10 = .int .i64 i ∧ Aside0 (i ≤ X.length) ∧ Aside0 (Below w.heap.size w wr) ∧ Aside0 (Kd.R (Kd.int .i64) 3 wr w.heap.size (fun _ => True) (.slice Ax X.length cx) X) ∧ Aside0 (Kd.R (Kd.int .i64) 3 wr w3.heap.size (fun _ => True) (.slice Ay Y.length cy) Y) ∧ Aside0 ((X.drop i).find? (fun x => Y.contains x) = X.find? (fun x => Y.contains x))) (fun v _ => X.length - (intOf v).toNat)
    case atStart => exact ⟨0, rfl, ⟨Nat.zero_le _⟩, HB4, HX4, HY4, ⟨rfl⟩⟩
    case round =>
      obtain ⟨i, rfl, HI, HB, HXi, HYi, HE⟩ := hrel
      obtain ⟨wb, rfl⟩ : ∃ wb : World, wb = wr := ⟨_, rfl⟩
      have hi := HI.out
      by_cases hlt : i < X.length
      · obtain ⟨ad, e9, _⟩ := Kd.at_int (Kd.R_reads' HXi.out).2.2 (i : Int) (by omega) (by omega)
        obtain rfl := e9
        have y0 := int_at HXi.out i hlt
        obtain ⟨x, hx⟩ : ∃ x, rd X (i : Int) = x := ⟨_, rfl⟩
        rw [hx] at y0
        have hd : X.drop i = x :: X.drop (i + 1) := by
          rw [List.drop_eq_getElem_cons hlt, ← hx]
          congr 1
          simp [rd, List.getD_eq_getElem?_getD, List.getElem?_eq_getElem hlt]
        have hc1 := (Kd.R_reads' HXi.out).2.1
        have hc2 := (Kd.R_reads' HYi.out).2.1
        have HH := Aside0.mk (has_f Y x (by omega))
        have HXX := Aside0.mk hx
        cases hcn : Y.contains x with
        | true =>
          have hres : X.find? (fun x => Y.contains x) = some x := by rw [← HE.out, hd, List.find?_cons, hcn]
          have HR := Aside0.mk (show rbaseF r a b = (x, 0) by rw [HF.out, hres]; rfl)
          rw [hcn] at HH
          clear hres hd hx hcn
          go_wp2_with (first
            | (go_at_call 59; (with_reducible refine (skymosaicref01_Has.calls (Y.length + 1) Ay cy Y x true wb (Kd.R_reads' HYi.out).2.2 hc2 HH.out).mono ?_); rintro e w6 ⟨rfl, hd⟩; have HB6 := Aside0.mk (below_step HB.out hd.below); have y6 := int_at (Kd.R_below HXi.out hd.below) i hlt; rw [HXX.out] at y6; clear hd)
            | fail)
          go_returns
          rw [HR.out]
          exact ⟨rfl, HB6.out⟩
        | false =>
          have hres : (X.drop (i + 1)).find? (fun x => Y.contains x) = X.find? (fun x => Y.contains x) := by rw [← HE.out, hd, List.find?_cons, hcn]
          have HR := Aside0.mk hres
          rw [hcn] at HH
          clear hres hd hx hcn
          go_wp2_with (first
            | (go_at_call 59; (with_reducible refine (skymosaicref01_Has.calls (Y.length + 1) Ay cy Y x false wb (Kd.R_reads' HYi.out).2.2 hc2 HH.out).mono ?_); rintro e w6 ⟨rfl, hd⟩; have HB6 := Aside0.mk (below_step HB.out hd.below); have HX6 := Aside0.mk (Kd.R_below HXi.out hd.below); have HY6 := Aside0.mk (Kd.R_below HYi.out hd.below); clear hd)
            | fail)
          go_roundw
          case rel => exact ⟨i + 1, by simp, ⟨hlt⟩, HB6, HX6, HY6, HR⟩
          case measure => simp [intOf]; omega
      · have hres : X.find? (fun x => Y.contains x) = none := by rw [← HE.out, List.drop_eq_nil_of_le (by omega)]; rfl
        have HR := Aside0.mk (show rbaseF r a b = (-1, 0) by rw [HF.out, hres]; rfl)
        clear hres
        go_wp2_with fail
        go_returns
        rw [HR.out]
        exact ⟨rfl, HB.out⟩
end Go.Proofs.Ytcbkcgnigncahaa.P
