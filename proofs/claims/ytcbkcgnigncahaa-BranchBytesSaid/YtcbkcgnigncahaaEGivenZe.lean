import Derived.Test.YtcbkcgnigncahaaEGivenZd
namespace Go.Proofs.Ytcbkcgnigncahaa.P
open Go.RowKit Go.Maps Go.Sort Go.Proofs.YtcbkcgnigncahaaW.PrintWords Go.Proofs.YtcbkcgnigncahaaW.PrintLast Go.Proofs.YtcbkcgnigncahaaW.PrintMore
open Wr (WS KeepTy uintB intB boolB uintB_len intB_len U8s zig_range initWS done_calls)
attribute [local go_sem] max2_int min2_int max_two min_two max_three min_three max_four min_four
set_option linter.unusedVariables false
set_option linter.unusedSimpArgs false
set_option maxHeartbeats 8000000 in
set_option maxRecDepth 100000 in
theorem encode_calls (base g b n : Nat) (s : Ln) (w : World) (h : LS base g b n s w) (hg : Good4 s) :
    Calls Try.prog 31 #[.pointer (some ⟨g, 0, none⟩)] w fun e w' => ∃ v, e = .returned v ∧ Kd.R (Kd.int .u8) 5 w' w.heap.size (fun _ => True) v (lineB (rfOf s)) ∧ Below w.heap.size w w' := by
  have HL := Aside0.mk h
  have HG := Aside0.mk hg
  have HT := Aside0.mk hg.neat
  have hgl := h.lt
  obtain ⟨A, cc, c0, c1, z1, hcap, hC, hR, hG0⟩ := h.cells
  have HC := Aside0.mk hC
  have C0 := Aside0.mk c0
  have C1 := Aside0.mk c1
  have hu43 := Try.underlying43
  have hu80 := Try.underlying80
  obtain ⟨B, hB⟩ : ∃ B, (rfOf s).B = B := ⟨_, rfl⟩
  obtain ⟨V, hV⟩ : ∃ V, (rfOf s).V = V := ⟨_, rfl⟩
  have HBq := Aside0.mk hB
  have HVq := Aside0.mk hV
  have HSZ := Aside0.mk (show Maps.size s.D = B.length by rw [← hB]; exact (bOf_len s hg.keyed).symm)
  have HVL := Aside0.mk (show V.length = s.V.length by rw [← hV]; exact rf_len s)
  have hBf := HT.out.few
  have hVf := HT.out.most
  rw [hB] at hBf
  rw [hV] at hVf
  have HL1 := Aside0.mk (h.below (below_alloc (Below.refl _ _) (.cells #[.slice none 0 0] 66)))
  have HX1 : Aside0 (((w.alloc (.cells #[.slice none 0 0] 66)).alloc (.cells #[.int .i64 (Maps.size s.D : Int)] 3)).heap[w.heap.size + 1]? = some (.cells #[.int .i64 (Maps.size s.D : Int)] 3 (0, 0))) := ⟨by have := blk_new (w.alloc (.cells #[.slice none 0 0] 66)) (.cells #[.int .i64 (Maps.size s.D : Int)] 3); simpa using this⟩
  have HW1 := Aside0.mk ((initWS w).below (below_alloc (Below.refl _ _) (.cells #[.int .i64 (Maps.size s.D : Int)] 3)))
  have HS1 : Aside0 (w.heap.size ≤ ((w.alloc (.cells #[.slice none 0 0] 66)).alloc (.cells #[.int .i64 (Maps.size s.D : Int)] 3)).heap.size) := ⟨by simp; omega⟩
  have HLn1 : Aside0 (([] : List Int).length ≤ 999999000) := ⟨by simp⟩
  have HNe1 : Aside0 (w.heap.size + 1 ≠ w.heap.size) := ⟨by omega⟩
  have HBB := Aside0.mk (below_alloc (below_alloc (Below.refl w.heap.size w) (.cells #[.slice none 0 0] 66)) (.cells #[.int .i64 (Maps.size s.D : Int)] 3))
  clear h hg z1 hC hR hG0 hB hV
  go_enter Try.func31, Try.ntmps31
  go_upto_region 4 with (first
    | (at_len; refine wpList_len_own _ rfl _ 76 rfl 9 80 Try.underlying76 _ b n s.D rfl HL1.out.2.2.2 ?_)
    | (go_at_call 62; (with_reducible refine (i1_calls w.heap.size w.heap.size (w.heap.size + 1) [] (Maps.size s.D : Int) _ HW1.out HS1.out HLn1.out HX1.out HNe1.out).mono ?_); rintro e w2 ⟨rfl, hW, hBe, hK⟩; have HW2 := Aside0.mk hW; have HB2 := Aside0.mk (HBB.out.trans hBe); have HL2 := Aside0.mk (HL.out.below HB2.out); clear hW hBe hK)
    | fail)
  obtain ⟨names, hnm⟩ : ∃ names, branchesF s = names := ⟨_, rfl⟩
  have hbc := branches_calls base g b n s w2 HL2.out HG.out.toGood
  rw [hnm] at hbc
  have HBC := Aside0.mk hbc
  clear hbc
  go_wp2_with (first
    | (go_at_call 17; (with_reducible refine HBC.out.mono ?_); rintro e w3 ⟨vn, rfl, h1, h2⟩; have HN3 := Aside0.mk h1; have HB3 := Aside0.mk (below_step HB2.out h2); have HW3 := Aside0.mk (HW2.out.below h2); have HLt := Aside0.mk HB2.out.size; clear h1 h2; obtain ⟨An, cn, rfl⟩ := Kd.R_slice HN3.out)
    | fail)
  have hne := names_eq HG.out.toGood2
  rw [hnm, HBq.out] at hne
  have HNE := Aside0.mk hne
  have hnl : names.length = B.length := by rw [hne, List.length_map]
  have HNL := Aside0.mk hnl
  clear hnm hne HBC hnl
  have hlB : ∀ i, i ≤ B.length → ((B.take i).flatMap brB).length ≤ 36 * 64 := fun i hi => by
    have h1 := flat_len brB 36 (B.take i) (fun b hb => brB_len (HT.out.nb b (by rw [HBq.out]; exact List.mem_of_mem_take hb)).1)
    rw [List.length_take] at h1
    omega
  have hlV : ∀ i, i ≤ V.length → ((V.take i).flatMap verB).length ≤ 86 * 1024 := fun i hi => by
    have h1 := flat_len verB 86 (V.take i) (fun b hb => verB_len (HT.out.nv b (by rw [HVq.out]; exact List.mem_of_mem_take hb)).1)
    rw [List.length_take] at h1
    omega
  have HLB := Aside0.mk hlB
  have HLV := Aside0.mk hlV
  have hiB := intB_len (B.length : Int)
  have hiV := intB_len (V.length : Int)
  rw [HSZ.out] at HW3
  clear hlB hlV HX1 HW1 HS1 HLn1 HNe1 HBB HL1
  go_loopw [21] (fun v21 wr => ∃ j : Nat, v21 = .int .i64 j ∧ Aside0 (j ≤ names.length) ∧ Aside0 (WS w.heap.size w.heap.size ([] ++ intB (B.length : Int) ++ (B.take j).flatMap brB) wr) ∧ Aside0 (Below w.heap.size w wr) ∧ Aside0 (Kd.string.R 9 wr w2.heap.size (fun _ => True) (.slice An names.length cn) names)) (fun v _ => names.length - (intOf v).toNat)
  case atStart => exact ⟨0, rfl, ⟨Nat.zero_le _⟩, by simpa using HW3, HB3, HN3⟩
  case round =>
    obtain ⟨j, rfl, HJ, HW, HB, HN⟩ := hrel
    obtain ⟨y, rfl⟩ : ∃ y : World, y = wr := ⟨_, rfl⟩
    have hj := HJ.out
    by_cases hlt : j < names.length
    · have hltB : j < B.length := by have := HNL.out; omega
      obtain ⟨ad, e9, y0⟩ := Kd.at_string (Kd.R_reads' HN.out).2.2 (j : Int) (by omega) (by omega)
      obtain rfl := e9
      rw [Int.toNat_natCast] at y0
      have hcap2 := (Kd.R_reads' HN.out).2.1
      obtain ⟨⟨z, bs⟩, hq⟩ : ∃ q, B[j] = q := ⟨_, rfl⟩
      have hzz : rdOf ByteArray.empty names (j : Int) = z := by
        unfold rdOf
        rw [Int.toNat_natCast, List.getD_eq_getElem?_getD, List.getElem?_eq_getElem hlt]
        have : names[j] = (B[j]).f0 := by simp [HNE.out]
        rw [Option.getD_some, this, hq]
      rw [hzz] at y0
      have hbj := HT.out.nb (B[j]) (by rw [HBq.out]; exact List.getElem_mem hltB)
      have hlk : (lkp s.D z).1 = bs := by
        have h1 : (⟨z, bs⟩ : S97) ∈ bOf s.D := by
          have h2 : (⟨z, bs⟩ : S97) ∈ (rfOf s).B := by rw [HBq.out, ← hq]; exact List.getElem_mem hltB
          exact h2
        rw [mem_bOf HG.out.ris HG.out.keyed] at h1
        exact h1.2.symm
      rw [hq] at hbj
      simp only at hbj
      have HFT := Aside0.mk (flat_take brB B j hltB)
      rw [hq] at HFT
      have hl0 := HLB.out j (by omega)
      have htl := txtB_len z
      have HLn1 : Aside0 (([] ++ intB (B.length : Int) ++ (B.take j).flatMap brB).length ≤ 999999000) := ⟨by rw [List.length_append, List.nil_append]; omega⟩
      have HLn2 : Aside0 (([] ++ intB (B.length : Int) ++ (B.take j).flatMap brB ++ txtB z).length ≤ 999999000) := ⟨by rw [List.length_append, List.length_append, List.nil_append]; omega⟩
      have HZ : Aside0 (z.size ≤ 16) := ⟨hbj.1⟩
      have HZ2 : Aside0 (z.size ≤ maxLen) := ⟨by have := hbj.1; unfold maxLen; omega⟩
      have HLK := Aside0.mk hlk
      clear hzz hq hbj hlk hl0 htl
      go_wp2_with (first
        | (go_at_call 64; (with_reducible refine (tx_calls w.heap.size w.heap.size _ z _ HW.out HB.out.size HLn1.out HZ.out).mono ?_); rintro e w4 ⟨rfl, hW, hBe, hK⟩; have HW4 := Aside0.mk hW; have HB4 := Aside0.mk (HB.out.trans hBe); have HK4 := Aside0.mk hK; have HL4 := Aside0.mk (HL.out.below HB4.out); have d0 := cell_keepB C0.out HB4.out; clear hW hBe hK)
        | (at_lookup; refine lookup_line1 _ rfl _ _ rfl b n s.D z rfl rfl HL4.out.2.2.2 HZ2.out ?_; rw [HLK.out])
        | (refine field80 _ rfl _ rfl _ _ rfl ?_)
        | (go_at_call 62; (with_reducible refine (i1_calls w.heap.size w.heap.size _ _ bs _ (HW4.out.below (below_alloc (Below.refl _ _) _)) (Nat.le_trans HB4.out.size (below_alloc (Below.refl _ _) _).size) HLn2.out (blk_new _ _) (ws_ne HW4.out)).mono ?_); rintro e w5 ⟨rfl, hW, hBe, hK⟩; have HW5 := Aside0.mk hW; have HB5 := Aside0.mk ((HB4.out.trans (below_alloc (Below.refl _ _) _ |> fun h => h.mono HB4.out.size)).trans hBe); have HK5 := Aside0.mk ((HK4.out.alloc _).trans hK); clear hW hBe hK)
        | fail)
      go_roundw
      case rel => exact ⟨j + 1, by simp, ⟨by omega⟩, ⟨by rw [HFT.out]; simpa [brB, List.append_assoc] using HW5.out⟩, HB5, ⟨keepTy_row HK5.out HW.out HN.out (by decide)⟩⟩
      case measure => simp [intOf]; omega
    · obtain rfl : j = names.length := by omega
      rw [HNL.out, List.take_length] at HW
      have hl0 := HLB.out B.length (Nat.le_refl _)
      rw [List.take_length] at hl0
      obtain ⟨P0, hP0⟩ : ∃ P0, [] ++ intB (B.length : Int) ++ B.flatMap brB ++ intB (s.V.length : Int) = P0 := ⟨_, rfl⟩
      have HP0 := Aside0.mk hP0
      rw [HVL.out] at hiV
      have HPL : Aside0 (P0.length ≤ 3000) := ⟨by rw [← hP0, List.length_append, List.length_append, List.nil_append]; omega⟩
      have HLn : Aside0 (([] ++ intB (B.length : Int) ++ B.flatMap brB).length ≤ 999999000) := ⟨by rw [List.length_append, List.nil_append]; omega⟩
      have d1 := cell_keepB C1.out HB.out
      have hyl : w.heap.size ≤ y.heap.size := HB.out.size
      clear hl0 hP0
      go_wp2_with (first
        | (go_at_call 62; (with_reducible refine (i1_calls w.heap.size w.heap.size _ _ (s.V.length : Int) _ (HW.out.below (below_alloc (Below.refl _ _) _)) (Nat.le_trans HB.out.size (below_alloc (Below.refl _ _) _).size) HLn.out (blk_new _ _) (ws_ne HW.out)).mono ?_); rintro e w4 ⟨rfl, hW, hBe, hK⟩; have HW4 := Aside0.mk hW; have HB4 := Aside0.mk ((HB.out.trans ((below_alloc (Below.refl _ _) _).mono HB.out.size)).trans hBe); have e1 := cell_keepB C1.out HB4.out; clear hW hBe hK)
        | fail)
      rw [HP0.out] at HW4
      go_loopw [51] (fun v51 wr => ∃ j : Nat, v51 = .int .i64 j ∧ Aside0 (j ≤ V.length) ∧ Aside0 (WS w.heap.size w.heap.size (P0 ++ (V.take j).flatMap verB) wr) ∧ Aside0 (Below w.heap.size w wr)) (fun v _ => V.length - (intOf v).toNat)
      case atStart => exact ⟨0, rfl, ⟨Nat.zero_le _⟩, by simpa using HW4, HB4⟩
      case round =>
        obtain ⟨j, rfl, HJ2, HW2', HB2'⟩ := hrel
        obtain ⟨wa, rfl⟩ : ∃ wa : World, wa = wr := ⟨_, rfl⟩
        have hj2 := HJ2.out
        have hvl := HVL.out
        by_cases hlt2 : j < V.length
        · have hlt3 : (j : Int) < s.V.length := by omega
          obtain ⟨ad, e9, y0, y1, y2, y3, y4, y5, y6, y7⟩ := at_T43 (Kd.C_below HC.out HB2'.out) (j : Int) (by omega) (by omega)
          obtain rfl := e9
          obtain ⟨q, hq⟩ : ∃ q, rd_T43 s.V (j : Int) = q := ⟨_, rfl⟩
          have hvq : V[j] = toV q := by
            rw [← hq]
            have h1 : rd_T92 V (j : Int) = toV (rd_T43 s.V (j : Int)) := by rw [← HVq.out]; exact rd_rf (by omega) (by omega)
            rw [← h1]
            unfold rd_T92
            rw [List.getD_eq_getElem?_getD, Int.toNat_natCast, List.getElem?_eq_getElem hlt2]
            rfl
          have hvj := HT.out.nv (V[j]) (by rw [HVq.out]; exact List.getElem_mem hlt2)
          have HFT := Aside0.mk (flat_take verB V j hlt2)
          rw [hvq] at hvj HFT
          have hl0 := HLV.out j (by omega)
          rw [hq] at y0 y1 y2 y3 y4 y5 y6 y7
          rw [Int.toNat_natCast] at y0 y1 y2 y3 y4 y5 y6 y7
          have hcap3 := hcap
          go_upto_region 13 with fail
          go_cut [8] (fun s8 wx => ∃ k : Nat, s8 = .pointer (some ⟨k, 0, none⟩) ∧ Aside0 (wx.heap[k]? = some (.cells (box43 q) 43 (0, 0)) ∧ wa.heap.size ≤ k ∧ Below wa.heap.size wa wx))
          case first =>
            go_wp2
            go_meet
            exact ⟨_, rfl, ⟨blk_new _ _, Nat.le_refl _, below_alloc (Below.refl _ _) _⟩⟩
          case rest =>
            obtain ⟨k, rfl, HX⟩ := hcut
            obtain ⟨wk, rfl⟩ : ∃ wk : World, wk = wc := ⟨_, rfl⟩
            have HX4 := Aside0.mk HX.out.1
            have HB4 := Aside0.mk (below_step HB2'.out HX.out.2.2)
            have HW4 := Aside0.mk (HW2'.out.below HX.out.2.2)
            have HNE : Aside0 (k ≠ w.heap.size) := ⟨by have h1 := HX.out.2.1; obtain ⟨_, _, h2, _⟩ := HW2'.out; have := blk_lt h2; omega⟩
            clear y0 y1 y2 y3 y4 y5 y6 y7 hq HX hvq e1
            obtain ⟨c1_, c2_, c3_, c4_, c5_, c6_, c7_⟩ := at_B43 HX4.out
            obtain ⟨n1, n2, n3, n4, n5, n6⟩ := hvj
            have HRT : Aside0 (0 ≤ q.f6 ∧ q.f6 < 18446744073709551616) := ⟨n2⟩
            have HZ : Aside0 (q.f2.size ≤ 16) := ⟨n1⟩
            have n7 : q.f2.size ≤ 16 := n1
            have e1 := intB_len q.f1
            have e2 := txtB_len q.f2
            have e3 := intB_len q.f3
            have e4 := intB_len q.f4
            have e5 := intB_len q.f5
            have e6 := uintB_len 9 q.f6
            have e7 := boolB_len q.f7
            have e8 := HPL.out
            have HLn4 : Aside0 ((P0 ++ (V.take j).flatMap verB).length ≤ 999999000) := ⟨by simp only [List.length_append]; omega⟩
            have HLn5 : Aside0 ((P0 ++ (V.take j).flatMap verB ++ intB q.f1).length ≤ 999999000) := ⟨by simp only [List.length_append]; omega⟩
            have HLn6 : Aside0 ((P0 ++ (V.take j).flatMap verB ++ intB q.f1 ++ txtB q.f2).length ≤ 999999000) := ⟨by simp only [List.length_append]; omega⟩
            have HLn7 : Aside0 ((P0 ++ (V.take j).flatMap verB ++ intB q.f1 ++ txtB q.f2 ++ (intB q.f3 ++ (intB q.f4 ++ intB q.f5))).length ≤ 999999000) := ⟨by simp only [List.length_append]; omega⟩
            have HLn8 : Aside0 ((P0 ++ (V.take j).flatMap verB ++ intB q.f1 ++ txtB q.f2 ++ (intB q.f3 ++ (intB q.f4 ++ intB q.f5)) ++ uintB 9 q.f6).length ≤ 999999000) := ⟨by simp only [List.length_append]; omega⟩
            clear n1 n2 n3 n4 n5 n6 n7 e1 e2 e3 e4 e5 e6 e7 e8 hl0
            go_wp2_with (first
              | (go_at_call 62; (with_reducible refine (i1_calls w.heap.size w.heap.size _ _ q.f1 _ (HW4.out.below (below_alloc (Below.refl _ _) _)) (Nat.le_trans HB4.out.size (below_alloc (Below.refl _ _) _).size) HLn4.out (blk_new _ _) (ws_ne HW4.out)).mono ?_); rintro e w5 ⟨rfl, hW, hBe, hK⟩; have HW5 := Aside0.mk hW; have HB5 := Aside0.mk ((HB4.out.trans ((below_alloc (Below.refl _ _) _).mono HB4.out.size)).trans hBe); have HX5 := Aside0.mk (hK _ _ 43 (blk_alloc HX4.out _) (by decide) HNE.out); clear hW hBe hK; obtain ⟨c1_, c2_, c3_, c4_, c5_, c6_, c7_⟩ := at_B43 HX5.out)
              | (go_at_call 64; (with_reducible refine (tx_calls w.heap.size w.heap.size _ q.f2 _ HW5.out HB5.out.size HLn5.out HZ.out).mono ?_); rintro e w6 ⟨rfl, hW, hBe, hK⟩; have HW6 := Aside0.mk hW; have HB6 := Aside0.mk (HB5.out.trans hBe); have HX6 := Aside0.mk (hK _ _ 43 HX5.out (by decide) HNE.out); clear hW hBe hK; obtain ⟨c1_, c2_, c3_, c4_, c5_, c6_, c7_⟩ := at_B43 HX6.out)
              | (go_at_call 62; (with_reducible refine (i3_calls w.heap.size w.heap.size _ _ q.f3 q.f4 q.f5 _ (HW6.out.below (below_alloc (Below.refl _ _) _)) (Nat.le_trans HB6.out.size (below_alloc (Below.refl _ _) _).size) HLn6.out (blk_new _ _) (ws_ne HW6.out)).mono ?_); rintro e w7 ⟨rfl, hW, hBe, hK⟩; have HW7 := Aside0.mk hW; have HB7 := Aside0.mk ((HB6.out.trans ((below_alloc (Below.refl _ _) _).mono HB6.out.size)).trans hBe); have HX7 := Aside0.mk (hK _ _ 43 (blk_alloc HX6.out _) (by decide) HNE.out); clear hW hBe hK; obtain ⟨c1_, c2_, c3_, c4_, c5_, c6_, c7_⟩ := at_B43 HX7.out)
              | (go_at_call 65; (with_reducible refine (un_calls w.heap.size w.heap.size _ q.f6 HRT.out _ HW7.out HB7.out.size HLn7.out).mono ?_); rintro e w8 ⟨rfl, hW, hBe, hK⟩; have HW8 := Aside0.mk hW; have HB8 := Aside0.mk (HB7.out.trans hBe); have HX8 := Aside0.mk (hK _ _ 43 HX7.out (by decide) HNE.out); clear hW hBe hK; obtain ⟨c1_, c2_, c3_, c4_, c5_, c6_, c7_⟩ := at_B43 HX8.out)
              | (go_at_call 66; (with_reducible refine (bo_calls w.heap.size w.heap.size _ q.f7 _ HW8.out HB8.out.size HLn8.out).mono ?_); rintro e w9 ⟨rfl, hW, hBe, hK⟩; have HW9 := Aside0.mk hW; have HB9 := Aside0.mk (HB8.out.trans hBe); have HX9 := Aside0.mk (hK _ _ 43 HX8.out (by decide) HNE.out); clear hW hBe hK; obtain ⟨c1_, c2_, c3_, c4_, c5_, c6_, c7_⟩ := at_B43 HX9.out)
              | fail)
            go_roundw
            case rel => exact ⟨j + 1, by simp, ⟨by omega⟩, ⟨by rw [HFT.out]; simpa [verB, toV, List.append_assoc] using HW9.out⟩, HB9⟩
            case measure => simp [intOf]; omega
        · obtain rfl : j = V.length := by omega
          rw [List.take_length] at HW2'
          have hlv := HLV.out V.length (Nat.le_refl _)
          rw [List.take_length] at hlv
          have HLd : Aside0 ((P0 ++ V.flatMap verB).length ≤ 1000000000) := ⟨by have := HPL.out; rw [List.length_append]; omega⟩
          have HLd2 := Aside0.mk HB2'.out.size
          clear hlv
          go_wp2_with (first
            | (go_at_call 34; (with_reducible refine (done_calls w.heap.size w.heap.size _ _ HW2'.out HLd.out).mono ?_); rintro e w9 ⟨v9, rfl, hR9, hB9⟩; have HR9 := Aside0.mk hR9; have HB9 := Aside0.mk hB9; clear hR9 hB9)
            | fail)
          go_ret
          refine ⟨_, rfl, ?_, below_step HB2'.out HB9.out⟩
          have := Kd.R_lower HR9.out HLd2.out
          unfold lineB
          rw [HBq.out, HVq.out, HVL.out]
          rw [← HP0.out] at this
          simpa [List.append_assoc] using this
end Go.Proofs.Ytcbkcgnigncahaa.P
