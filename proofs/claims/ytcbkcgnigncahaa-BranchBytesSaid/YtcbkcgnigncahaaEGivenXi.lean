import Derived.Test.YtcbkcgnigncahaaEGivenXh
import Derived.Test.YtcbkcgnigncahaaEGivenS
namespace Go.Proofs.Ytcbkcgnigncahaa.P
open Go.RowKit Go.Maps Go.Sort Go.Proofs.YtcbkcgnigncahaaW.PrintWords Go.Proofs.YtcbkcgnigncahaaW.PrintLast Go.Proofs.YtcbkcgnigncahaaW.PrintMore
attribute [local go_sem] max2_int min2_int max_two min_two max_three min_three max_four min_four
set_option linter.unusedVariables false
set_option linter.unusedSimpArgs false
theorem rf_ok2 {s : Ln} (h : Good s) : RfOk (rfOf s) := rf_ok h
theorem cell_keepB {w w1 : World} {a : Addr} {v : Value} (h : w.cell? a = some v) (hb : Below w.heap.size w w1) : w1.cell? a = some v := by
  have hl : a.block < w.heap.size := by
    rcases Nat.lt_or_ge a.block w.heap.size with h0 | h0
    · exact h0
    · exfalso
      rw [World.cell?, Array.getElem?_eq_none h0] at h
      cases h
  rw [World.cell?, hb.block _ hl]
  rw [World.cell?] at h
  exact h
set_option maxHeartbeats 16000000 in
set_option maxRecDepth 100000 in
theorem agrees_calls (base g b n base2 g2 : Nat) (s : Ln) (w : World) (h : LS base g b n s w) (h2 : RS base2 g2 (rfOf s) w) (hbase : base ≤ w.heap.size) (hg : Good3 s) :
    Calls Try.prog 23 #[.pointer (some ⟨g, 0, none⟩), .pointer (some ⟨g2, 0, none⟩)] w fun e w' => e = .returned (.bool true) ∧ Below w.heap.size w w' := by
  have HS := Aside0.mk h
  have HR := Aside0.mk h2
  have HG := Aside0.mk hg
  have hu43 := Try.underlying43
  have hu92 := Try.underlying92
  obtain ⟨vl, hvl⟩ : ∃ vl, (rfOf s).V.length = vl := ⟨_, rfl⟩
  have hvl2 : s.V.length = vl := by rw [← rf_len]; exact hvl
  have hvm : vl ≤ 1024 := by have := hg.most; omega
  have HVL := Aside0.mk hvl
  have HVL2 := Aside0.mk hvl2
  clear h h2 hg hvl hvl2
  go_enter Try.func23, Try.ntmps23
  go_wp2_with (first
    | (go_at_call 27; (with_reducible refine (versions_calls base g b n s w HS.out HG.out.most).mono ?_); rintro e w1 ⟨vv, rfl, h1, h2⟩; have HV1 := Aside0.mk h1; have HS1 := Aside0.mk (HS.out.below h2); have HR1 := Aside0.mk (HR.out.below h2); have HB1 := Aside0.mk h2; clear h1 h2; obtain ⟨Av, cv, rfl⟩ := Kd.R_slice HV1.out; rw [HVL2.out] at HV1 ⊢; obtain ⟨A, c, A', c', hg, c0, c1, z0, z1, hc, hc', hB, hV⟩ := HR1.out.cells; rw [HVL.out] at c1; clear hg c0 z0 z1 hc hB hV)
    | fail)
  go_loopw [6] (fun v6 wr => ∃ i : Nat, v6 = .int .i64 i ∧ Aside0 (i ≤ vl) ∧ Aside0 (LS base g b n s wr) ∧ Aside0 (RS base2 g2 (rfOf s) wr) ∧ Aside0 (Below w.heap.size w wr) ∧ Aside0 (Kd.R k43 43 wr w.heap.size (fun _ => True) (.slice Av vl cv) s.V)) (fun v _ => vl - (intOf v).toNat)
  case atStart => exact ⟨0, rfl, ⟨Nat.zero_le _⟩, HS1, HR1, HB1, HV1⟩
  case round =>
    obtain ⟨i, rfl, HI, HSr, HRr, HBr, HVr⟩ := hrel
    obtain ⟨wa, rfl⟩ : ∃ wa : World, wa = wr := ⟨_, rfl⟩
    have hi := HI.out
    by_cases hlt : i < vl
    · clear c1
      obtain ⟨⟨p0, p1, p2, p3, p4, p5, p6, p7⟩, hp⟩ : ∃ v, rd_T43 s.V (i : Int) = v := ⟨_, rfl⟩
      have hp2 : rd_T92 (rfOf s).V (i : Int) = ⟨p0, p1, p2, p3, p4, p5, p6, p7⟩ := by rw [rd_rf (by omega) (by have := HVL2.out; omega), hp]; rfl
      have HP := Aside0.mk hp
      have HP2 := Aside0.mk hp2
      obtain ⟨⟨⟨q0, q1, q2, q3, q4, q5, q6, q7⟩, er⟩, hq⟩ : ∃ v, getF s (i : Int) = v := ⟨_, rfl⟩
      have HQ := Aside0.mk hq
      have HQ2 := Aside0.mk (show rgetF (rfOf s) (i : Int) = (⟨q0, q1, q2, q3, q4, q5, q6, q7⟩, er) from by rw [rget_eq, hq]; rfl)
      have hee : (er != er) = false := by simp
      clear hp hp2 hq
      have hcap := (Kd.R_reads' HVr.out).2.1
      go_upto_region 9 with (first
        | (go_at_call 19; (with_reducible refine (get_calls base g b n s (i : Int) wa HSr.out).mono ?_); rintro e w2 ⟨rfl, h1⟩; rw [HQ.out]; simp only [agg43]; have HS2 := Aside0.mk (HSr.out.below h1); have HR2 := Aside0.mk (HRr.out.below h1); have HB2 := Aside0.mk (below_step HBr.out h1); have HV2 := Aside0.mk (Kd.R_below HVr.out h1); clear h1)
        | (go_at_call 52; (with_reducible refine (rget_calls base2 g2 (rfOf s) (i : Int) _ (HR2.out.below (below_alloc (Below.refl _ _) _))).mono ?_); rintro e w3 ⟨rfl, h1⟩; rw [HQ2.out]; have hx3 := Aside0.mk (blk_below (blk_new w2 (.cells #[.int .i64 q0, .int .i64 q1, .string q2, .int .i64 q3, .int .i64 q4, .int .i64 q5, .int .u64 q6, .bool q7] 43)) h1); have h0 := (below_alloc (Below.refl w2.heap.size w2) (.cells #[.int .i64 q0, .int .i64 q1, .string q2, .int .i64 q3, .int .i64 q4, .int .i64 q5, .int .u64 q6, .bool q7] 43)).trans (h1.mono (by rw [World.size_alloc]; omega)); have HS3 := Aside0.mk (HS2.out.below h0); have HR3 := Aside0.mk (HR2.out.below h0); have HB3 := Aside0.mk (below_step HB2.out h0); have HV3 := Aside0.mk (Kd.R_below HV2.out h0); clear h1 h0)
        | fail)
      obtain ⟨w4, hw4⟩ : ∃ w4, w3.alloc (.cells #[.int .i64 q0, .int .i64 q1, .string q2, .int .i64 q3, .int .i64 q4, .int .i64 q5, .int .u64 q6, .bool q7] 92) = w4 := ⟨_, rfl⟩
      have hb4 : Below w3.heap.size w3 w4 := hw4 ▸ below_alloc (Below.refl _ _) _
      have hx4 : w4.heap[w2.heap.size]? = some (Obj.cells #[.int .i64 q0, .int .i64 q1, .string q2, .int .i64 q3, .int .i64 q4, .int .i64 q5, .int .u64 q6, .bool q7] 43 (0, 0)) := blk_below hx3.out hb4
      have hy4 : w4.heap[w3.heap.size]? = some (Obj.cells #[.int .i64 q0, .int .i64 q1, .string q2, .int .i64 q3, .int .i64 q4, .int .i64 q5, .int .u64 q6, .bool q7] 92 (0, 0)) := by rw [← hw4]; exact blk_new w3 _
      rw [hw4]
      have HS4 := Aside0.mk (HS3.out.below hb4)
      have HR4 := Aside0.mk (HR3.out.below hb4)
      have HB4 := Aside0.mk (below_step HB3.out hb4)
      have HV4 := Aside0.mk (Kd.R_below HV3.out hb4)
      have u0 : w4.cell? ⟨w2.heap.size, 0, none⟩ = some (.int .i64 q0) := blk_cell hx4 0
      have u1 : w4.cell? ⟨w2.heap.size, 1, none⟩ = some (.int .i64 q1) := blk_cell hx4 1
      have u2 : w4.cell? ⟨w2.heap.size, 2, none⟩ = some (.string q2) := blk_cell hx4 2
      have u3 : w4.cell? ⟨w2.heap.size, 3, none⟩ = some (.int .i64 q3) := blk_cell hx4 3
      have u4 : w4.cell? ⟨w2.heap.size, 4, none⟩ = some (.int .i64 q4) := blk_cell hx4 4
      have u5 : w4.cell? ⟨w2.heap.size, 5, none⟩ = some (.int .i64 q5) := blk_cell hx4 5
      have u6 : w4.cell? ⟨w2.heap.size, 6, none⟩ = some (.int .u64 q6) := blk_cell hx4 6
      have u7 : w4.cell? ⟨w2.heap.size, 7, none⟩ = some (.bool q7) := blk_cell hx4 7
      have v0 : w4.cell? ⟨w3.heap.size, 0, none⟩ = some (.int .i64 q0) := blk_cell hy4 0
      have v1 : w4.cell? ⟨w3.heap.size, 1, none⟩ = some (.int .i64 q1) := blk_cell hy4 1
      have v2 : w4.cell? ⟨w3.heap.size, 2, none⟩ = some (.string q2) := blk_cell hy4 2
      have v3 : w4.cell? ⟨w3.heap.size, 3, none⟩ = some (.int .i64 q3) := blk_cell hy4 3
      have v4 : w4.cell? ⟨w3.heap.size, 4, none⟩ = some (.int .i64 q4) := blk_cell hy4 4
      have v5 : w4.cell? ⟨w3.heap.size, 5, none⟩ = some (.int .i64 q5) := blk_cell hy4 5
      have v6 : w4.cell? ⟨w3.heap.size, 6, none⟩ = some (.int .u64 q6) := blk_cell hy4 6
      have v7 : w4.cell? ⟨w3.heap.size, 7, none⟩ = some (.bool q7) := blk_cell hy4 7
      clear hw4 hb4 hx4 hy4 hx3 HS3 HR3 HB3 HV3 HS2 HR2 HB2 HV2
      obtain ⟨A2, c2, A3, c'', hg, c0, c1, z0, z1, hc, hc', hB, hV⟩ := HR4.out.cells
      rw [HVL.out] at c1 hV
      have hVV := Kd.R_reads' hV
      have hcap2 := hVV.2.1
      obtain ⟨ad2, e9, z0, z1, z2, z3, z4, z5, z6, z7⟩ := at_T92 hVV.2.2 (i : Int) (by omega) (by have := HVL.out; omega)
      obtain rfl := e9
      rw [HP2.out, Int.toNat_natCast] at z0 z1 z2 z3 z4 z5 z6 z7
      have hV3 := Kd.R_reads' HV4.out
      obtain ⟨ad, e9, y0, y1, y2, y3, y4, y5, y6, y7⟩ := at_T43 hV3.2.2 (i : Int) (by omega) (by have := HVL2.out; omega)
      obtain rfl := e9
      rw [HP.out, Int.toNat_natCast] at y0 y1 y2 y3 y4 y5 y6 y7
      clear hg c0 hc hB hV hVV hV3 hc'
      go_region_held3 (fun w' => w'.cell? ⟨g2, 1, none⟩ = some (.slice (some ad2) vl c'') ∧ w'.cell? (ad.add (i * 8)) = some (.int .i64 p0) ∧ w'.cell? ⟨(ad.add (i * 8)).block, (ad.add (i * 8)).off + 1, none⟩ = some (.int .i64 p1) ∧ w'.cell? ⟨(ad.add (i * 8)).block, (ad.add (i * 8)).off + 2, none⟩ = some (.string p2) ∧ w'.cell? ⟨(ad.add (i * 8)).block, (ad.add (i * 8)).off + 3, none⟩ = some (.int .i64 p3) ∧ w'.cell? ⟨(ad.add (i * 8)).block, (ad.add (i * 8)).off + 4, none⟩ = some (.int .i64 p4) ∧ w'.cell? ⟨(ad.add (i * 8)).block, (ad.add (i * 8)).off + 5, none⟩ = some (.int .i64 p5) ∧ w'.cell? ⟨(ad.add (i * 8)).block, (ad.add (i * 8)).off + 6, none⟩ = some (.int .u64 p6) ∧ w'.cell? ⟨(ad.add (i * 8)).block, (ad.add (i * 8)).off + 7, none⟩ = some (.bool p7) ∧ w'.cell? (ad2.add (i * 8)) = some (.int .i64 p0) ∧ w'.cell? ⟨(ad2.add (i * 8)).block, (ad2.add (i * 8)).off + 1, none⟩ = some (.int .i64 p1) ∧ w'.cell? ⟨(ad2.add (i * 8)).block, (ad2.add (i * 8)).off + 2, none⟩ = some (.string p2) ∧ w'.cell? ⟨(ad2.add (i * 8)).block, (ad2.add (i * 8)).off + 3, none⟩ = some (.int .i64 p3) ∧ w'.cell? ⟨(ad2.add (i * 8)).block, (ad2.add (i * 8)).off + 4, none⟩ = some (.int .i64 p4) ∧ w'.cell? ⟨(ad2.add (i * 8)).block, (ad2.add (i * 8)).off + 5, none⟩ = some (.int .i64 p5) ∧ w'.cell? ⟨(ad2.add (i * 8)).block, (ad2.add (i * 8)).off + 6, none⟩ = some (.int .u64 p6) ∧ w'.cell? ⟨(ad2.add (i * 8)).block, (ad2.add (i * 8)).off + 7, none⟩ = some (.bool p7) ∧ w'.cell? ⟨w2.heap.size, 0, none⟩ = some (.int .i64 q0) ∧ w'.cell? ⟨w2.heap.size, 1, none⟩ = some (.int .i64 q1) ∧ w'.cell? ⟨w2.heap.size, 2, none⟩ = some (.string q2) ∧ w'.cell? ⟨w2.heap.size, 3, none⟩ = some (.int .i64 q3) ∧ w'.cell? ⟨w2.heap.size, 4, none⟩ = some (.int .i64 q4) ∧ w'.cell? ⟨w2.heap.size, 5, none⟩ = some (.int .i64 q5) ∧ w'.cell? ⟨w2.heap.size, 6, none⟩ = some (.int .u64 q6) ∧ w'.cell? ⟨w2.heap.size, 7, none⟩ = some (.bool q7) ∧ w'.cell? ⟨w3.heap.size, 0, none⟩ = some (.int .i64 q0) ∧ w'.cell? ⟨w3.heap.size, 1, none⟩ = some (.int .i64 q1) ∧ w'.cell? ⟨w3.heap.size, 2, none⟩ = some (.string q2) ∧ w'.cell? ⟨w3.heap.size, 3, none⟩ = some (.int .i64 q3) ∧ w'.cell? ⟨w3.heap.size, 4, none⟩ = some (.int .i64 q4) ∧ w'.cell? ⟨w3.heap.size, 5, none⟩ = some (.int .i64 q5) ∧ w'.cell? ⟨w3.heap.size, 6, none⟩ = some (.int .u64 q6) ∧ w'.cell? ⟨w3.heap.size, 7, none⟩ = some (.bool q7))
        (first | exact ⟨c1, y0, y1, y2, y3, y4, y5, y6, y7, z0, z1, z2, z3, z4, z5, z6, z7, u0, u1, u2, u3, u4, u5, u6, u7, v0, v1, v2, v3, v4, v5, v6, v7⟩ | exact ⟨c1a, y0a, y1a, y2a, y3a, y4a, y5a, y6a, y7a, z0a, z1a, z2a, z3a, z4a, z5a, z6a, z7a, u0a, u1a, u2a, u3a, u4a, u5a, u6a, u7a, v0a, v1a, v2a, v3a, v4a, v5a, v6a, v7a⟩ | exact ⟨c1b, y0b, y1b, y2b, y3b, y4b, y5b, y6b, y7b, z0b, z1b, z2b, z3b, z4b, z5b, z6b, z7b, u0b, u1b, u2b, u3b, u4b, u5b, u6b, u7b, v0b, v1b, v2b, v3b, v4b, v5b, v6b, v7b⟩)
        (first
          | (go_at_call 53; (with_reducible refine (skymosaiclaw31_same.calls p0 p1 p2 p3 p4 p5 p6 p7 p0 p1 p2 p3 p4 p5 p6 p7 true _ (same_f (⟨p0, p1, p2, p3, p4, p5, p6, p7⟩ : S43))).mono ?_); rintro e w5 ⟨rfl, hb⟩; have hb5 : Below w4.heap.size w4 w5 := (below_drew1 (Below.refl w4.heap.size w4)).trans hb; have HS5 := Aside0.mk (HS4.out.below hb5); have HR5 := Aside0.mk (HR4.out.below hb5); have HB5 := Aside0.mk (below_step HB4.out hb5); have HV5 := Aside0.mk (Kd.R_below HV4.out hb5); have c1a := cell_keepB c1 hb5; have y0a := cell_keepB y0 hb5; have y1a := cell_keepB y1 hb5; have y2a := cell_keepB y2 hb5; have y3a := cell_keepB y3 hb5; have y4a := cell_keepB y4 hb5; have y5a := cell_keepB y5 hb5; have y6a := cell_keepB y6 hb5; have y7a := cell_keepB y7 hb5; have z0a := cell_keepB z0 hb5; have z1a := cell_keepB z1 hb5; have z2a := cell_keepB z2 hb5; have z3a := cell_keepB z3 hb5; have z4a := cell_keepB z4 hb5; have z5a := cell_keepB z5 hb5; have z6a := cell_keepB z6 hb5; have z7a := cell_keepB z7 hb5; have u0a := cell_keepB u0 hb5; have u1a := cell_keepB u1 hb5; have u2a := cell_keepB u2 hb5; have u3a := cell_keepB u3 hb5; have u4a := cell_keepB u4 hb5; have u5a := cell_keepB u5 hb5; have u6a := cell_keepB u6 hb5; have u7a := cell_keepB u7 hb5; have v0a := cell_keepB v0 hb5; have v1a := cell_keepB v1 hb5; have v2a := cell_keepB v2 hb5; have v3a := cell_keepB v3 hb5; have v4a := cell_keepB v4 hb5; have v5a := cell_keepB v5 hb5; have v6a := cell_keepB v6 hb5; have v7a := cell_keepB v7 hb5; clear hb hb5)
          | (go_at_call 53; (with_reducible refine (skymosaiclaw31_same.calls q0 q1 q2 q3 q4 q5 q6 q7 q0 q1 q2 q3 q4 q5 q6 q7 true _ (same_f (⟨q0, q1, q2, q3, q4, q5, q6, q7⟩ : S43))).mono ?_); rintro e w6 ⟨rfl, hb⟩; have HS6 := Aside0.mk (HS5.out.below hb); have HR6 := Aside0.mk (HR5.out.below hb); have HB6 := Aside0.mk (below_step HB5.out hb); have HV6 := Aside0.mk (Kd.R_below HV5.out hb); have c1b := cell_keepB c1a hb; have y0b := cell_keepB y0a hb; have y1b := cell_keepB y1a hb; have y2b := cell_keepB y2a hb; have y3b := cell_keepB y3a hb; have y4b := cell_keepB y4a hb; have y5b := cell_keepB y5a hb; have y6b := cell_keepB y6a hb; have y7b := cell_keepB y7a hb; have z0b := cell_keepB z0a hb; have z1b := cell_keepB z1a hb; have z2b := cell_keepB z2a hb; have z3b := cell_keepB z3a hb; have z4b := cell_keepB z4a hb; have z5b := cell_keepB z5a hb; have z6b := cell_keepB z6a hb; have z7b := cell_keepB z7a hb; have u0b := cell_keepB u0a hb; have u1b := cell_keepB u1a hb; have u2b := cell_keepB u2a hb; have u3b := cell_keepB u3a hb; have u4b := cell_keepB u4a hb; have u5b := cell_keepB u5a hb; have u6b := cell_keepB u6a hb; have u7b := cell_keepB u7a hb; have v0b := cell_keepB v0a hb; have v1b := cell_keepB v1a hb; have v2b := cell_keepB v2a hb; have v3b := cell_keepB v3a hb; have v4b := cell_keepB v4a hb; have v5b := cell_keepB v5a hb; have v6b := cell_keepB v6a hb; have v7b := cell_keepB v7a hb; clear hb)
          | fail)
      go_wp2
      go_roundw
      case rel => exact ⟨i + 1, by simp, ⟨by omega⟩, HS6, HR6, HB6, HV6⟩
      case measure => simp [intOf]; omega
    · clear c1 HV1 HS1 HR1 HB1
      obtain ⟨bl, hbl⟩ : ∃ bl, (rfOf s).B.length = bl := ⟨_, rfl⟩
      have hblm : bl ≤ 64 := by rw [← hbl]; exact rf_few HG.out.toGood
      have HBL := Aside0.mk hbl
      obtain ⟨names, hnm⟩ : ∃ names, (rfOf s).B.map (·.f0) = names := ⟨_, rfl⟩
      have hnl : names.length = bl := by rw [← hnm, List.length_map]; exact hbl
      have HNM := Aside0.mk hnm
      have HNL := Aside0.mk hnl
      clear hbl hnm hnl HSr HRr HVr
      go_wp2_with fail
      go_loopw [11, 12] (fun v11 v12 wr => ∃ j : Nat, v12 = .int .i64 j ∧ Aside0 (j ≤ bl) ∧ Aside0 (Below w.heap.size w wr) ∧ Aside0 (Kd.string.R 9 wr w.heap.size (fun _ => True) v11 (names.take j))) (fun _ v _ => bl - (intOf v).toNat)
      case atStart => exact ⟨0, rfl, ⟨Nat.zero_le _⟩, HBr, ⟨Kd.R_nil _ _ _ _ _⟩⟩
      case round =>
        obtain ⟨j, rfl, HJ, HBj, HNj⟩ := hrel
        obtain ⟨wb, rfl⟩ : ∃ wb : World, wb = wr := ⟨_, rfl⟩
        have hj := HJ.out
        obtain ⟨A2, c2, A3, c3, hg, c0, c1, z0, z1, hc, hc', hB, hV⟩ := (HR.out.below HBj.out).cells
        rw [HBL.out] at c0 hB
        clear hg c1 z0 z1 hc' hV
        by_cases hlt2 : j < bl
        · obtain ⟨ad, e9, y0, y1⟩ := at_T97 (Kd.R_reads' hB).2.2 (j : Int) (by omega) (by have := HBL.out; omega)
          obtain rfl := e9
          rw [Int.toNat_natCast] at y0 y1
          have hcap := hc
          rw [HBL.out] at hcap
          have htk : names.take (j + 1) = names.take j ++ [(rd_T97 (rfOf s).B (j : Int)).f0] := by
            have hjl : j < (rfOf s).B.length := by rw [HBL.out]; exact hlt2
            rw [← HNM.out, List.take_succ_eq_append_getElem (by rw [List.length_map]; exact hjl), List.getElem_map]
            unfold rd_T97
            rw [Int.toNat_natCast, List.getD_eq_getElem?_getD, List.getElem?_eq_getElem hjl]
            rfl
          obtain ⟨z, hz⟩ : ∃ z, (rd_T97 (rfOf s).B (j : Int)).f0 = z := ⟨_, rfl⟩
          rw [hz] at y0 htk
          have HTK := Aside0.mk htk
          have htl : (names.take j).length = j := by rw [List.length_take]; have := HNL.out; omega
          have HTL := Aside0.mk htl
          obtain ⟨Ax, cx, rfl⟩ := Kd.R_slice HNj.out
          rw [htl] at HNj ⊢
          obtain ⟨olds, hol⟩ : ∃ olds, names.take j = olds := ⟨_, rfl⟩
          rw [hol] at HNj HTL HTK
          clear hB hc hz htk htl y1 hol
          go_wp2_with (first
            | (at_builtin; refine Kd.R_append Kd.string (w0 := w) w.heap.size rfl (.tmp 79) (.tmp 88) 39 9 (.string ⟨#[]⟩) 16 rfl Try.underlying39 info9 rfl (by decide) (by omega) (.slice Ax j cx) olds z [.string z] (fun _ => True) (fun _ => False) rfl rfl ?aP (fun _ hk => hk.elim) ?aF HNj.out ?aB ?aS ?aL ?_; (case aP => exact rfl); (case aF => exact fun _ _ => trivial); (case aB => exact HBj.out); (case aS => exact HBj.out.size); (case aL => rw [HTL.out]; omega); intro v1 w5 ho hb hg hat; have HN5 := Aside0.mk ho; have HB5 := Aside0.mk hb; clear ho hb hg hat)
            | fail)
          go_roundw
          case rel => exact ⟨j + 1, by simp, ⟨by omega⟩, HB5, ⟨by rw [HTK.out]; exact HN5.out⟩⟩
          case measure => simp [intOf]; omega
        · rw [List.take_of_length_le (by have := HNL.out; omega)] at HNj
          have HN5 := HNj
          clear HNj hc
          obtain ⟨An, cn, rfl⟩ := Kd.R_slice HN5.out
          go_wp2_with (first
            | (go_at_call 17; (with_reducible refine (branches_calls base g b n s wb (HS.out.below HBj.out) HG.out.toGood).mono ?_); rintro e w6 ⟨vn, rfl, h1, h2⟩; rw [names_eq HG.out.toGood2, HNM.out] at h1; have HM6 := Aside0.mk h1; have HN6 := Aside0.mk (Kd.R_below HN5.out h2); have HB6 := Aside0.mk (below_step HBj.out h2); clear h1 h2; obtain ⟨Am, cm, rfl⟩ := Kd.R_slice HM6.out)
            | (go_at_call 54; (with_reducible refine (skymosaicref01_SameTexts.calls (names.length + 1) Am cm names An cn names true w6 (Kd.R_reads' HM6.out).2.2 (Kd.R_reads' HM6.out).2.1 (Kd.R_reads' HN6.out).2.2 (Kd.R_reads' HN6.out).2.1 (texts_same names (by have := HNL.out; omega))).mono ?_); rintro e w7 ⟨rfl, hd⟩; have HB7 := Aside0.mk (below_step HB6.out hd.below); clear hd)
            | fail)
          clear HN5 HN6 HM6 HB6 c0
          go_loopw [13] (fun v13 wr => ∃ m : Nat, v13 = .int .i64 m ∧ Aside0 (m ≤ 14) ∧ Aside0 (Below w.heap.size w wr)) (fun v _ => 14 - (intOf v).toNat)
          case atStart => exact ⟨0, rfl, ⟨Nat.zero_le _⟩, HB7⟩
          case round =>
            obtain ⟨m, rfl, HM, HBm⟩ := hrel
            obtain ⟨wc, rfl⟩ : ∃ wc : World, wc = wr := ⟨_, rfl⟩
            have hm := HM.out
            by_cases hlt3 : m < 14
            · obtain ⟨z, hz, hzm⟩ := name_some (m : Int) (wf_of (by omega))
              have HZ := Aside0.mk hz
              have hzs : z.size ≤ maxLen := by have := List.all_eq_true.1 names_size z hzm; have := of_decide_eq_true this; unfold maxLen; omega
              obtain ⟨⟨hv, he⟩, hh⟩ : ∃ v, headF s z = v := ⟨_, rfl⟩
              have HH := Aside0.mk hh
              have HH2 := Aside0.mk (show rheadF (rfOf s) z = (hv, he) from by rw [rhead_eq HG.out]; exact hh)
              have hee1 : (hv != hv) = false := by simp
              have hee2 : (he != he) = false := by simp
              clear hz hzm hh
              go_wp2_with (first
                | (go_at_call 24; (with_reducible refine (skymosaicref31_Name.calls (m : Int) z wc HZ.out).mono ?_); rintro e w8 ⟨rfl, hd⟩; have HB8 := Aside0.mk (below_step HBm.out hd); clear hd)
                | (go_at_call 20; (with_reducible refine (head_calls base g b n s z w8 (HS.out.below HB8.out) hzs HG.out.toGood).mono ?_); rintro e w9 ⟨rfl, hd⟩; rw [HH.out]; have HB9 := Aside0.mk (below_step HB8.out hd); clear hd)
                | (go_at_call 24; (with_reducible refine (skymosaicref31_Name.calls (m : Int) z w9 HZ.out).mono ?_); rintro e w10 ⟨rfl, hd⟩; have HB10 := Aside0.mk (below_step HB9.out hd); clear hd)
                | (go_at_call 55; (with_reducible refine (rhead_calls base2 g2 (rfOf s) z w10 (HR.out.below HB10.out) (rf_few HG.out.toGood) (by have := rf_most HG.out.toGood; omega) (rf_first_lt HG.out.toGood2 _) (rf_find_lt HG.out.toGood2 _) (rf_ok2 HG.out.toGood)).mono ?_); rintro e w11 ⟨rfl, rfl⟩; rw [HH2.out]; have HB11 := HB10)
                | fail)
              go_roundw
              case rel => exact ⟨m + 1, by simp, ⟨by omega⟩, HB11⟩
              case measure => simp [intOf]; omega
            · go_wp2
              go_returns
              exact ⟨rfl, HBm.out⟩
end Go.Proofs.Ytcbkcgnigncahaa.P
