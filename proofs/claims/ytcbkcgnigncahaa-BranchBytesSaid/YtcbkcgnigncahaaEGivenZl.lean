import Derived.Test.YtcbkcgnigncahaaEGivenZk
namespace Go.Proofs.Ytcbkcgnigncahaa.P
open Go.RowKit Go.Maps Go.Sort Go.Proofs.YtcbkcgnigncahaaW.PrintWords Go.Proofs.YtcbkcgnigncahaaW.PrintLast Go.Proofs.YtcbkcgnigncahaaW.PrintMore
open Wr (U8s uintB)
attribute [local go_sem] max2_int min2_int max_two min_two max_three min_three max_four min_four
set_option linter.unusedVariables false
set_option linter.unusedSimpArgs false
set_option maxHeartbeats 16000000 in
set_option maxRecDepth 100000 in
theorem law8 (l0 l1 raw : List Int) (at_ bt J : Int) (A0 A1 Ar : Option Addr) (c0 c1 cr : Nat) (ops xs : List S38) (k0 k1 : Nat) (W : World)
    (hr0 : Kd.C (Kd.int .i64) W A0 l0.length l0) (hc0 : l0.length ≤ c0) (hr1 : Kd.C (Kd.int .i64) W A1 l1.length l1) (hc1 : l1.length ≤ c1)
    (hrr : Kd.C (Kd.int .u8) W Ar raw.length raw) (hcr : raw.length ≤ cr) (hrl : raw.length ≤ 140737488351232) (hru : U8s raw) (hbt : 0 ≤ bt ∧ bt < 256)
    (hs0 : skymosaicref31_Script.f k0 l0 16 = some ops) (ho0 : ∀ o ∈ ops, OpOk o) (hl0 : ops.length ≤ 16)
    (hs1 : skymosaicref31_Script.f k1 l1 8 = some xs) (ho1 : ∀ o ∈ xs, OpOk o) (hl1 : xs.length ≤ 8)
    (hJ : ∀ n : Int, n = ((lineB (rfOf (runL Ln0 ops))).length : Int) → skymosaicref01_Around.f at_ n = some J) (hJ0 : 0 ≤ J ∧ J < ((lineB (rfOf (runL Ln0 ops))).length : Int)) :
    Calls Try.prog 8 #[.slice A0 l0.length c0, .slice A1 l1.length c1, .slice Ar raw.length cr, .int .i64 at_, .int .u8 bt] W fun e W' => e = .returned (.bool true) ∧ Below W.heap.size W W' := by
  have HR0 := Aside0.mk hr0
  have HS0 := Aside0.mk hs0
  have HO0 := Aside0.mk ho0
  have HR1 := Aside0.mk hr1
  have HS1 := Aside0.mk hs1
  have HO1 := Aside0.mk ho1
  have HRR := Aside0.mk hrr
  have HRU := Aside0.mk hru
  have HJ := Aside0.mk hJ
  have HJ0 := Aside0.mk hJ0
  have hu38 := Try.underlying38
  clear hr0 hs0 ho0 hr1 hs1 ho1 hrr hru hJ hJ0
  go_enter Try.func8, Try.ntmps8
  go_wp2_with (first
    | (go_at_call 9; (with_reducible refine (new_calls _).mono ?_); rintro e w1 ⟨rfl, h1, h2⟩; have HL1 := Aside0.mk h1; have HB1 := Aside0.mk h2; clear h1 h2)
    | (go_at_call 15; fail)
    | fail)
  have h0 := below_alloc (Below.refl w1.heap.size w1) (.cells #[.slice none 0 0, .slice none 0 0] 53)
  have hb0 := below_step HB1.out h0
  with_reducible refine (skymosaicref31_Script.calls k0 A0 c0 l0 16 ops _ (Kd.C_below HR0.out hb0) hc0 HS0.out).mono ?_
  rintro e w2 ⟨vo, rfl, h1, h2⟩
  have HP2 := Aside0.mk h1
  have HL2 := Aside0.mk ((HL1.out.below h0).below h2)
  have HQ2 := Aside0.mk ((rs_new w1 W.heap.size HB1.out.size).below h2)
  have HB2 := Aside0.mk (below_step hb0 h2)
  clear h1 h2 h0 hb0
  obtain ⟨Ao, co, rfl⟩ := Kd.R_slice HP2.out
  go_wp2_with fail
  go_loopw [14] (fun v14 wr => ∃ i : Nat, v14 = .int .i64 i ∧ Aside0 (i ≤ ops.length) ∧ Aside0 (LS W.heap.size (W.heap.size + 1) W.heap.size i (runL Ln0 (ops.take i)) wr) ∧ Aside0 (RS W.heap.size w1.heap.size (rfOf (runL Ln0 (ops.take i))) wr) ∧ Aside0 (Below W.heap.size W wr) ∧ Aside0 (Kd.R k38 38 wr (w1.heap.size + 1) (fun _ => True) (.slice Ao ops.length co) ops)) (fun v _ => ops.length - (intOf v).toNat)
  case atStart => exact ⟨0, rfl, ⟨Nat.zero_le _⟩, HL2, HQ2, HB2, ⟨by have := HP2.out; rwa [World.size_alloc] at this⟩⟩
  case round =>
    obtain ⟨i, rfl, HI, HL, HQ, HB, HO⟩ := hrel
    obtain ⟨wa, rfl⟩ : ∃ wa : World, wa = wr := ⟨_, rfl⟩
    have hi := HI.out
    by_cases hlt : i < ops.length
    · obtain ⟨ad, e9, y0, y1, y2, y3, y4, y5, y6⟩ := at_T38 (Kd.R_reads' HO.out).2.2 (i : Int) (by omega) (by omega)
      obtain rfl := e9
      have HOK := Aside0.mk (HO0.out _ (mem_rd38 ops i hlt))
      have HTK := Aside0.mk (take_rd38 ops i hlt)
      obtain ⟨⟨o0, o1, o2, o3, o4, o5, o6⟩, ho⟩ : ∃ o, rd_T38 ops (i : Int) = o := ⟨_, rfl⟩
      have HRO := Aside0.mk ho
      rw [ho] at HOK HTK y0 y1 y2 y3 y4 y5 y6
      rw [Int.toNat_natCast] at y0 y1 y2 y3 y4 y5 y6
      simp only at y0 y1 y2 y3 y4 y5 y6
      have hoz : o1.size ≤ maxLen := by have := HOK.out.size; simp only at this; unfold maxLen; omega
      have hcap := (Kd.R_reads' HO.out).2.1
      obtain ⟨s1, hs1⟩ : ∃ s1, runL Ln0 (ops.take i) = s1 := ⟨_, rfl⟩
      have HG1 := Aside0.mk (show Good3 s1 from hs1 ▸ good3_0.run (ops.take i))
      rw [hs1] at HL HQ
      have hsn : runL Ln0 (ops.take (i + 1)) = (doF s1 ⟨o0, o1, o2, o3, o4, o5, o6⟩).2.2 := by rw [HTK.out, runL_snoc, hs1]
      obtain ⟨⟨da, de, s2⟩, hd⟩ : ∃ v, doF s1 ⟨o0, o1, o2, o3, o4, o5, o6⟩ = v := ⟨_, rfl⟩
      rw [hd] at hsn
      have HSN := Aside0.mk hsn
      have HD := Aside0.mk hd
      have HG2 := Aside0.mk (show Good3 s2 from by have := HG1.out.do_ ⟨o0, o1, o2, o3, o4, o5, o6⟩; rwa [hd] at this)
      have hda : (da != da) = false := by simp
      have hde : (de != de) = false := by simp
      clear ho hs1 hsn hd
      go_wp2_with (first
        | (go_at_call 16; (with_reducible refine (do_calls W.heap.size (W.heap.size + 1) W.heap.size i s1 ⟨o0, o1, o2, o3, o4, o5, o6⟩ wa HL.out HB.out.size hoz (by omega) HG1.out.toGood).mono ?_); rintro e w4 ⟨rfl, h1, h2, h3⟩; rw [HD.out] at h1; have hk := h3.toT HL.out; have HL4 := Aside0.mk h1; have HB4 := Aside0.mk (HB.out.trans h2); have HQ4 := Aside0.mk (HQ.out.keepT hk); have HO4 := Aside0.mk (hk.row HO.out (by decide)); clear h1 h2 h3 hk y0 y1 y2 y3 y4 y5 y6; obtain ⟨ad4, e9, y0, y1, y2, y3, y4, y5, y6⟩ := at_T38 (Kd.R_reads' HO4.out).2.2 (i : Int) (by omega) (by omega); obtain rfl := Option.some.inj e9; rw [HRO.out] at y0 y1 y2 y3 y4 y5 y6; rw [Int.toNat_natCast] at y0 y1 y2 y3 y4 y5 y6; simp only at y0 y1 y2 y3 y4 y5 y6)
        | (go_at_call 22; (with_reducible refine (rdo_calls W.heap.size w1.heap.size s1 ⟨o0, o1, o2, o3, o4, o5, o6⟩ w4 HQ4.out HB4.out.size HOK.out HG1.out.toGood2).mono ?_); rintro e w5 ⟨rfl, h1, h2, h3⟩; rw [HD.out] at h1; have HQ5 := Aside0.mk h1; have HB5 := Aside0.mk (HB4.out.trans h2); have hkr := h3.toR HQ4.out; have HL5 := Aside0.mk (HL4.out.keepR hkr h2); have HO5 := Aside0.mk (hkr.row HO4.out (by decide)); clear hkr; clear h1 h2 h3 y0 y1 y2 y3 y4 y5 y6)
        | fail)
      go_roundw
      case rel => exact ⟨i + 1, by simp, ⟨by omega⟩, ⟨by rw [HSN.out]; exact HL5.out⟩, ⟨by rw [HSN.out]; exact HQ5.out⟩, HB5, HO5⟩
      case measure => simp [intOf]; omega
    · obtain rfl : i = ops.length := by omega
      rw [List.take_length] at HL HQ
      obtain ⟨s, hs⟩ : ∃ s, runL Ln0 ops = s := ⟨_, rfl⟩
      have HG := Aside0.mk (show Good4 s from hs ▸ good4_0.run ops HO0.out)
      rw [hs] at HL HQ HJ HJ0
      obtain ⟨B, hB⟩ : ∃ B, lineB (rfOf s) = B := ⟨_, rfl⟩
      have HBE := Aside0.mk hB
      have hBl : B.length ≤ 91000 := by rw [← hB]; exact lineB_len HG.out.neat
      have hB0 : 0 < B.length := by rw [← hB]; exact lineB_pos _
      have HBU : Aside0 (U8s B) := ⟨by rw [← hB]; exact lineB_u8 _⟩
      have hec := encode_calls W.heap.size (W.heap.size + 1) W.heap.size ops.length s wa HL.out HG.out
      have hre := fun (w' : World) (h : RS W.heap.size w1.heap.size (rfOf s) w') => renc_calls W.heap.size w1.heap.size (rfOf s) w' h HG.out.neat
      rw [hB] at hec HJ HJ0
      simp only [hB] at hre
      have HEC := Aside0.mk hec
      have HRE := Aside0.mk hre
      have hJ1 := HJ0.out.1
      have hJ2 := HJ0.out.2
      have hbn : ((B.length : Int) == 0) = false := beq_eq_false_iff_ne.mpr (by omega)
      obtain ⟨Y, hY⟩ : ∃ Y, uintB 9 (B.length : Int) ++ B = Y := ⟨_, rfl⟩
      have HYE := Aside0.mk hY
      have hul := Wr.uintB_len 9 (B.length : Int)
      have hYl : Y.length ≤ 92000 := by rw [← hY, List.length_append]; omega
      have HYP := Aside0.mk (show Wr.listF ⟨Y, 0⟩ = (B, ⟨[], 0⟩) by rw [← hY]; exact Wr.list_parse B (by omega))
      have HB9 : Aside0 (B.length ≤ 1000000000) := ⟨by omega⟩
      have HB6 : Aside0 (B.length ≤ 1000000) := ⟨by omega⟩
      have HY9 : Aside0 (Y.length ≤ 1000000000) := ⟨by omega⟩
      have HYU : Aside0 ((Wr.uintF ⟨Y, 0⟩).2.b.length ≤ 1000000000) := ⟨by have := uint_b ⟨Y, 0⟩; simp only at this; omega⟩
      have HN1 : Aside0 (([] : List Int).length ≤ 1000000000 - 10) := ⟨by simp⟩
      clear hs hB hec hre hY hul HO HP2 HL1 HB1 HL2 HQ2 HB2
      go_upto_region 15 with (first
        | (go_at_call 31; (with_reducible refine HEC.out.mono ?_); rintro e w3 ⟨v3, rfl, h1, h2⟩; obtain ⟨AB, cB, rfl⟩ := Kd.R_slice h1; have HV3 := Aside0.mk h1; have hcB := (Kd.R_reads' h1).2.1; have HQ3 := Aside0.mk (HQ.out.below h2); have HB3 := Aside0.mk (below_step HB.out h2); have HW3 := Aside0.mk (Wr.initWS w3); have HC3 := Aside0.mk (Kd.C_alloc (Kd.R_reads' h1).2.2 (.cells #[.slice none 0 0] 66)); have HZ3 := Aside0.mk (below_alloc (Below.refl w3.heap.size w3) (.cells #[.slice none 0 0] 66)); clear h1 h2)
        | (go_at_call 32; (with_reducible refine (Wr.wraw_calls w3.heap.size w3.heap.size [] AB cB B _ HW3.out HZ3.out.size HN1.out HC3.out hcB HB9.out HBU.out).mono ?_); rintro e w4 ⟨rfl, h1, h2, _⟩; rw [List.nil_append, HYE.out] at h1; have HW4 := Aside0.mk h1; have HZ4 := Aside0.mk (HZ3.out.trans h2); clear h1 h2)
        | (go_at_call 34; (with_reducible refine (Wr.done_calls w3.heap.size w3.heap.size Y w4 HW4.out HY9.out).mono ?_); rintro e w5 ⟨v5, rfl, h1, h2⟩; obtain ⟨A5, c5, rfl⟩ := Kd.R_slice h1; have HV5 := Aside0.mk (Kd.R_reads' h1); have HZ5 := Aside0.mk (below_step HZ4.out h2); clear h1 h2)
        | (go_at_call 33; (with_reducible refine (Wr.read_calls A5 c5 Y w5 HV5.out.2.2 HV5.out.2.1 HY9.out).mono ?_); rintro e w6 ⟨g6, rfl, h1, h2, h3⟩; have HR6 := Aside0.mk h1; have HG6 := Aside0.mk (Nat.le_trans HZ5.out.size h2); have HZ6 := Aside0.mk (below_step HZ5.out h3); have HQ6 := Aside0.mk (HQ3.out.below HZ6.out); clear h1 h2 h3)
        | fail)
      go_upto_region 17 with (first
        | (go_at_call 36; (with_reducible refine (HRE.out w6 HQ6.out).mono ?_); rintro e w7 ⟨v7, rfl, h1, h2⟩; obtain ⟨A7, c7, rfl⟩ := Kd.R_slice h1; have HV7 := Aside0.mk (Kd.R_reads' h1); have HZ7 := Aside0.mk (below_step HZ6.out h2); have HC7 := Aside0.mk (Kd.C_below (Kd.R_reads' HV3.out).2.2 HZ7.out); have HR7 := Aside0.mk (HR6.out.below h2); clear h1 h2)
        | (go_at_call 35; (with_reducible refine (sameb_c B HB6.out AB A7 cB c7 w7 HC7.out hcB HV7.out.2.2 HV7.out.2.1).mono ?_); rintro e w8 ⟨rfl, h1⟩; have HZ8 := Aside0.mk (below_step HZ7.out h1); have HR8 := Aside0.mk (HR7.out.below h1); clear h1)
        | fail)
      clear HC3 HW3 HZ3 HW4 HZ4 HV5 HZ5 HR6 HZ6 HQ6 HV7 HZ7 HC7 HR7
      go_upto_region 20 with (first
        | (go_at_call 38; (with_reducible refine (Wr.raw_calls g6 ⟨Y, 0⟩ w8 HR8.out HY9.out HYU.out).mono ?_); rintro e w9 ⟨v9, rfl, h1, _, h3⟩; rw [HYP.out] at h1; obtain ⟨A9, c9, rfl⟩ := Kd.R_slice h1; have HV9 := Aside0.mk (Kd.R_reads' h1); have HZ9 := Aside0.mk (HZ8.out.grown h3 HZ8.out.size (fun k hk => by cases hk; exact HG6.out)); clear h1 h3)
        | (go_at_call 37; (with_reducible refine (dec_yes s HG.out B HBE.out A9 c9 w9 HV9.out.2.2 HV9.out.2.1).mono ?_); rintro e w10 ⟨g, b, sc, rfl, h1, h2, h3, h4⟩; have HL10 := Aside0.mk (h1.lower (Nat.le_trans HB3.out.size HZ9.out.size)); have HGc := Aside0.mk h2; have HEQ := Aside0.mk h3; have HZ10 := Aside0.mk (below_step HZ9.out h4); have HQ10 := Aside0.mk (show RS W.heap.size w1.heap.size (rfOf sc) w10 by rw [h3]; exact HQ3.out.below (below_step HZ9.out h4)); have HB10 := Aside0.mk (below_step HB3.out (below_step HZ9.out h4)); clear h1 h2 h3 h4)
        | (go_at_call 23; (with_reducible refine (agrees_calls W.heap.size g b 64 W.heap.size w1.heap.size sc w10 HL10.out HQ10.out HB10.out.size HGc.out.toGood3).mono ?_); rintro e w11 ⟨rfl, h1⟩; have HL11 := Aside0.mk (HL10.out.below h1); have HQ11 := Aside0.mk (HQ10.out.below h1); have HB11 := Aside0.mk (below_step HB10.out h1); have HV11 := Aside0.mk (Kd.R_below HV3.out (below_step HZ10.out h1)); clear h1)
        | fail)
      clear HZ8 HR8 HV9 HZ9 HL10 HQ10 HZ10 HB10 HQ3 HV3 HL HQ HB
      go_wp2_with (first
        | (go_at_call 15; fail)
        | fail)
      with_reducible refine (skymosaicref31_Script.calls k1 A1 c1 l1 8 xs _ (Kd.C_below HR1.out HB11.out) hc1 HS1.out).mono ?_
      rintro e w12 ⟨vo, rfl, h1, h2⟩
      have HX12 := Aside0.mk h1
      have HL12 := Aside0.mk (HL11.out.below h2)
      have HQ12 := Aside0.mk (HQ11.out.below h2)
      have HB12 := Aside0.mk (below_step HB11.out h2)
      have HV12 := Aside0.mk (Kd.R_below HV11.out h2)
      clear h1 h2 HL11 HQ11 HB11 HV11
      obtain ⟨Ax, cx, rfl⟩ := Kd.R_slice HX12.out
      go_wp2_with fail
      go_loopw [21] (fun v21 wr => ∃ j : Nat, v21 = .int .i64 j ∧ Aside0 (j ≤ xs.length) ∧ Aside0 (LS W.heap.size g b (64 + j) (runL sc (xs.take j)) wr) ∧ Aside0 (RS W.heap.size w1.heap.size (rfOf (runL sc (xs.take j))) wr) ∧ Aside0 (Below W.heap.size W wr) ∧ Aside0 (Kd.R k38 38 wr w11.heap.size (fun _ => True) (.slice Ax xs.length cx) xs) ∧ Aside0 (Kd.R (Kd.int .u8) 5 wr wa.heap.size (fun _ => True) (.slice AB B.length cB) B)) (fun v _ => xs.length - (intOf v).toNat)
      case atStart => exact ⟨0, rfl, ⟨Nat.zero_le _⟩, HL12, HQ12, HB12, HX12, HV12⟩
      case round =>
        obtain ⟨j, rfl, HJ2, HL, HQ, HB, HO, HV⟩ := hrel
        obtain ⟨wb, rfl⟩ : ∃ wb : World, wb = wr := ⟨_, rfl⟩
        have hj := HJ2.out
        by_cases hlt : j < xs.length
        · obtain ⟨ad, e9, y0, y1, y2, y3, y4, y5, y6⟩ := at_T38 (Kd.R_reads' HO.out).2.2 (j : Int) (by omega) (by omega)
          obtain rfl := e9
          have HOK := Aside0.mk (HO1.out _ (mem_rd38 xs j hlt))
          have HTK := Aside0.mk (take_rd38 xs j hlt)
          obtain ⟨⟨o0, o1, o2, o3, o4, o5, o6⟩, ho⟩ : ∃ o, rd_T38 xs (j : Int) = o := ⟨_, rfl⟩
          have HRO := Aside0.mk ho
          rw [ho] at HOK HTK y0 y1 y2 y3 y4 y5 y6
          rw [Int.toNat_natCast] at y0 y1 y2 y3 y4 y5 y6
          simp only at y0 y1 y2 y3 y4 y5 y6
          have hoz : o1.size ≤ maxLen := by have := HOK.out.size; simp only at this; unfold maxLen; omega
          have hcap := (Kd.R_reads' HO.out).2.1
          obtain ⟨s1, hs1⟩ : ∃ s1, runL sc (xs.take j) = s1 := ⟨_, rfl⟩
          have HG1 := Aside0.mk (show Good3 s1 from hs1 ▸ HGc.out.toGood3.run (xs.take j))
          rw [hs1] at HL HQ
          have hsn : runL sc (xs.take (j + 1)) = (doF s1 ⟨o0, o1, o2, o3, o4, o5, o6⟩).2.2 := by rw [HTK.out, runL_snoc, hs1]
          obtain ⟨⟨da, de, s2⟩, hd⟩ : ∃ v, doF s1 ⟨o0, o1, o2, o3, o4, o5, o6⟩ = v := ⟨_, rfl⟩
          rw [hd] at hsn
          have HSN := Aside0.mk hsn
          have HD := Aside0.mk hd
          have hda : (da != da) = false := by simp
          have hde : (de != de) = false := by simp
          clear ho hs1 hsn hd
          go_upto_region 26 with (first
            | (go_at_call 16; (with_reducible refine (do_calls W.heap.size g b (64 + j) s1 ⟨o0, o1, o2, o3, o4, o5, o6⟩ wb HL.out HB.out.size hoz (by omega) HG1.out.toGood).mono ?_); rintro e w4 ⟨rfl, h1, h2, h3⟩; rw [HD.out] at h1; rw [HD.out]; have hk := h3.toT HL.out; have HL4 := Aside0.mk h1; have HB4 := Aside0.mk (HB.out.trans h2); have HQ4 := Aside0.mk (HQ.out.keepT hk); have HO4 := Aside0.mk (hk.row HO.out (by decide)); have HV4 := Aside0.mk (hk.row HV.out (by decide)); clear h1 h2 h3 hk y0 y1 y2 y3 y4 y5 y6; obtain ⟨ad4, e9, y0, y1, y2, y3, y4, y5, y6⟩ := at_T38 (Kd.R_reads' HO4.out).2.2 (j : Int) (by omega) (by omega); obtain rfl := Option.some.inj e9; rw [HRO.out] at y0 y1 y2 y3 y4 y5 y6; rw [Int.toNat_natCast] at y0 y1 y2 y3 y4 y5 y6; simp only at y0 y1 y2 y3 y4 y5 y6)
            | (go_at_call 22; (with_reducible refine (rdo_calls W.heap.size w1.heap.size s1 ⟨o0, o1, o2, o3, o4, o5, o6⟩ w4 HQ4.out HB4.out.size HOK.out HG1.out.toGood2).mono ?_); rintro e w5 ⟨rfl, h1, h2, h3⟩; rw [HD.out] at h1; rw [HD.out]; have HQ5 := Aside0.mk h1; have HB5 := Aside0.mk (HB4.out.trans h2); have hkr := h3.toR HQ4.out; have HL5 := Aside0.mk (HL4.out.keepR hkr h2); have HO5 := Aside0.mk (hkr.row HO4.out (by decide)); have HV5 := Aside0.mk (hkr.row HV4.out (by decide)); clear hkr; clear h1 h2 h3 y0 y1 y2 y3 y4 y5 y6)
            | fail)
          go_wp2_with fail
          go_roundw
          case rel => exact ⟨j + 1, by simp, ⟨by omega⟩, ⟨by rw [HSN.out]; exact HL5.out⟩, ⟨by rw [HSN.out]; exact HQ5.out⟩, HB5, HO5, HV5⟩
          case measure => simp [intOf]; omega
        · obtain rfl : j = xs.length := by omega
          rw [List.take_length] at HL HQ
          obtain ⟨sd, hsd⟩ : ∃ sd, runL sc xs = sd := ⟨_, rfl⟩
          have HGd := Aside0.mk (show Good3 sd from hsd ▸ HGc.out.toGood3.run xs)
          rw [hsd] at HL HQ
          have HE0 := Aside0.mk (Kd.R_reads' HV.out)
          have HRw := Aside0.mk (Kd.C_below HRR.out HB.out)
          clear hsd HO HX12 HL12 HQ12 HB12 HV12
          have HEb := Aside0.mk HE0.out.2.2
          have HRb := HRw
          have htk : B.take (B.length : Int).toNat = B := List.take_of_length_le (by omega)
          have HTK := Aside0.mk htk
          clear htk
          go_upto_region 28 with fail
          go_cut [26] (fun s26 wx => ∃ gb cb : Nat, s26 = .slice (some ⟨gb, 0, none⟩) B.length cb ∧ Aside0 (Kd.R (Kd.int .u8) 5 wx wb.heap.size (fun _ => True) (.slice (some ⟨gb, 0, none⟩) B.length cb) B ∧ Below wb.heap.size wb wx ∧ wb.heap.size ≤ gb))
          case first =>
            go_wp2_with fail
            refine (few_c B (B.length : Int) B HTK.out AB cB _ HEb.out hcB (by omega) (by omega)).mono ?_
            rintro e w12 ⟨A7, c7, rfl, hR7, hb7⟩
            go_wp2
            go_meet
            obtain ⟨gb, cap, hv, h1, h2, _⟩ := Kd.R_form hR7 hB0
            injection hv with e1 _ e2
            subst e1
            exact ⟨gb, c7, rfl, ⟨hR7, hb7, h1⟩⟩
          case rest =>
            obtain ⟨gb, cb, rfl, HF⟩ := hcut
            obtain ⟨w12, rfl⟩ : ∃ w12 : World, w12 = wc := ⟨_, rfl⟩
            have HB12 := Aside0.mk (below_step HB.out HF.out.2.1)
            have HE12 := Aside0.mk (Kd.C_below HEb.out HF.out.2.1)
            have HR12 := Aside0.mk (Kd.C_below HRb.out HF.out.2.1)
            have HF12 := Aside0.mk HF.out.1
            have hgb : wb.heap.size ≤ gb := HF.out.2.2
            have HEF := Aside0.mk (fun ad (e : AB = some ad) (hn : 0 < B.length) => Nat.ne_of_lt (Nat.lt_of_lt_of_le (C_lt HEb.out ad e hn) hgb))
            have HRF := Aside0.mk (fun ad (e : Ar = some ad) (hn : 0 < raw.length) => Nat.ne_of_lt (Nat.lt_of_lt_of_le (C_lt HRb.out ad e hn) hgb))
            have hwb : W.heap.size ≤ wb.heap.size := HB.out.size
            have hbk := Kd.R_form HF.out.1 hB0
            have hJn : J < ((B.length : Nat) : Int) := hJ2
            have hcell : w12.cell? ⟨gb, J.toNat, none⟩ = some (.int .u8 (rd B J)) := by
              obtain ⟨ad, e, h⟩ := Kd.at_int (Kd.R_reads' HF.out.1).2.2 J hJ1 hJn
              obtain rfl := Option.some.inj e
              have e3 : (⟨gb, 0, none⟩ : Addr).add J.toNat = ⟨gb, J.toNat, none⟩ := by simp [Addr.add]; intro h; omega
              rw [e3] at h
              exact h
            have hfz : w12.frozen? ⟨gb, J.toNat, none⟩ = false := by
              obtain ⟨g', cap', e, _, _, cells, hcl⟩ := hbk
              injection e with e1
              have e2 : gb = g' := congrArg Addr.block (Option.some.inj e1)
              rw [← e2] at hcl
              exact blk_frozen hcl J.toNat
            have HZ12 := Aside0.mk HF.out.2.1
            clear hbk HF HEb HRb
            go_upto_region 29 with fail
            go_cut [] (fun wx => Aside0 (Kd.R (Kd.int .u8) 5 wx wb.heap.size (fun _ => True) (.slice (some ⟨gb, 0, none⟩) B.length cb) (B.set J.toNat bt) ∧ w12.grownBy wx (some gb)))
            case first =>
              have hac := skymosaicref01_Around.calls at_ (B.length : Int) J w12 (HJ.out _ rfl)
              have HP1 := Aside0.mk (fun n : Nat => Kd.R_putg (enc := Value.int .u8) (h1 := fun _ => rfl) (Kd.R_drewN HF12.out n) J bt)
              go_wp2_with (go_at_call 10; refine hac.mono ?_; rintro e w13 ⟨rfl, ⟨nd, rfl⟩⟩)
              go_meet
              exact ⟨(HP1.out nd).1, (Wr.grown_drewN ⟨rfl, rfl, rfl, Nat.le_refl _, fun _ _ _ => rfl⟩ nd : w12.grownBy (w12.drewN nd) (some gb)).trans (HP1.out nd).2⟩
            case rest =>
              obtain ⟨w13, rfl⟩ : ∃ w13 : World, w13 = wc := ⟨_, rfl⟩
              have HF13 := Aside0.mk hcut.out.1
              have HG13 := Aside0.mk hcut.out.2
              have HE13p := Aside0.mk (C_grown1 HE12.out HG13.out HEF.out)
              have HE13 := Aside0.mk (Kd.C_drew HE13p.out)
              have HR13p := Aside0.mk (C_grown1 HR12.out HG13.out HRF.out)
              have HR13 := Aside0.mk (Kd.C_drew HR13p.out)
              have HB13 := Aside0.mk (HB12.out.grown HG13.out HB12.out.size (fun k hk => by have := Option.some.inj hk; omega))
              have HZ13 := Aside0.mk (HZ12.out.grown HG13.out HZ12.out.size (fun k hk => by have := Option.some.inj hk; omega))
              clear HB12 HE12 HR12 HF12 HG13 hcut hcell hfz HEF HRF
              obtain ⟨q0, hq0, _, hqsz, _⟩ := info_parts info5
              have hcutb := cut_to (P := Try.prog) 63 5 .i64 Try.underlying63 hq0 AB B.length cB ((B.length : Int) - 1) (by omega) (by omega) hcB
              have hws : IntKind.i64.wrap ((B.length : Int) - 1) = (B.length : Int) - 1 := IntWalk.i64_in _ (by omega)
              have htn : ((B.length : Int) - 1).toNat = B.length - 1 := by omega
              rw [htn] at hcutb
              clear hq0 hqsz htn
              go_upto_region 30 with fail
              go_cut [27] (fun s27 wx => ∃ ad : Addr, s27 = .slice (some ad) 4 4 ∧ Aside0 (Four wx ad ∧ Below w13.heap.size w13 wx))
              case first =>
                go_region_held3 (fun _ => True) (trivial) (first
                  | (go_at_call 39; (with_reducible refine (few_d raw 40 (raw.take 40) rfl Ar cr _ ?_ hcr hrl (by decide) w13 ?_).mono ?_)
                     (first | with_reducible exact HR13.out | with_reducible exact Kd.C_drew (Kd.C_alloc HR13p.out _))
                     (first | with_reducible exact below_drew1 (Below.refl _ _) | with_reducible exact below_drew1 (below_alloc (Below.refl _ _) _))
                     rintro e x1 ⟨A13, c13, rfl, hRa, hna, hB1, hba⟩)
                  | (go_at_call 39; (with_reducible refine (few_d B (B.length : Int) B HTK.out AB cB _ ?_ hcB (by omega) (by omega) w13 ?_).mono ?_)
                     (first | with_reducible exact Kd.C_below HE13.out hba.out | with_reducible exact Kd.C_below (Kd.C_drew (Kd.C_alloc HE13p.out _)) hba.out | with_reducible exact Kd.C_alloc (Kd.C_below HE13.out hba.out) _)
                     (first | with_reducible exact hB1.out | with_reducible exact below_alloc hB1.out _)
                     rintro e x2 ⟨A14, c14, rfl, hRb, hnb, hB2, hbb⟩)
                  | ((refine app_step (P := Try.prog) (w0 := w13) w13.heap.size ?_ (.tmp 150) (.tmp 152) ?_ ?_ ?_ (.slice A14 B.length c14) B [bt] 1 1 x2.heap.size ?_ ?_ ?_ ?_ ?_ ?_ ?_); rfl; rfl; exact Try.underlying63; exact info5; rfl
                     refine ⟨_, rfl, ?_⟩
                     (first | with_reducible exact C1_of (blk_new _ _) | with_reducible exact Kd.C_below (C1_of (blk_new _ _)) hbb.out | with_reducible exact Kd.C_below (Kd.C_below (Kd.C_drew (C1_of (blk_new _ _))) hba.out) hbb.out)
                     (first | with_reducible exact hRb.out | with_reducible exact Kd.R_below hRb.out (below_alloc (Below.refl _ _) _))
                     (first | with_reducible exact hB2.out | with_reducible exact below_alloc hB2.out _)
                     (first | with_reducible exact hB2.out.size | (have := hB2.out.size; simp; omega))
                     omega
                     intro v1 x3 ho hb hg
                     have H3 := Aside0.mk (And.intro ho hb); have HG3 := Aside0.mk hg; clear ho hb hg; obtain ⟨A15, c15, rfl⟩ := Kd.R_slice H3.out.1)
                  | fail)
                all_goals go_wp2
                all_goals go_meet
                all_goals
                  have hE3 := H3.out
                  have hr2 : Kd.R (Kd.int .u8) 5 x2 w13.heap.size (fun k => k < x1.heap.size) (.slice A13 (raw.take 40).length c13) (raw.take 40) := by
                    first
                      | with_reducible exact Kd.R_below hRa.out hbb.out
                      | with_reducible exact Kd.R_below (Kd.R_below hRa.out (below_alloc (Below.refl _ _) _)) hbb.out
                  have hne : ∀ k, k < x1.heap.size → some k ≠ (Value.slice A14 B.length c14).ownBlock := by
                    first
                      | with_reducible exact hnb.out
                      | with_reducible exact fun k hk => hnb.out k (Nat.lt_of_lt_of_le hk (below_alloc (Below.refl x1.heap.size x1) _).size)
                  have hr3 : Kd.R (Kd.int .u8) 5 x3 w13.heap.size (fun k => k < x1.heap.size) (.slice A13 (raw.take 40).length c13) (raw.take 40) := by
                    first
                      | with_reducible exact Kd.R_grown hr2 HG3.out hne
                      | with_reducible exact Kd.R_grown (Kd.R_below hr2 (below_alloc (Below.refl _ _) _)) HG3.out hne
                  have e40 : (raw.take 40).length = min 40 raw.length := List.length_take
                  have eset : (B.set J.toNat bt).length = B.length := List.length_set
                  have etk : (B.take (B.length - 1)).length = B.length - 1 := by rw [List.length_take]; omega
                  have eapp : (B ++ [bt]).length = B.length + 1 := by simp
                  have hcb := (Kd.R_reads' HF13.out).2.1
                  refine ⟨⟨x3.heap.size, 0, none⟩, ?_, ⟨?_, ?_⟩⟩
                  · rfl
                  · refine four_of (c0 := c13) (c1 := cb) (c2 := cB) (c3 := c15) (A0 := A13) (A1 := some ⟨gb, 0, none⟩) (A2 := AB) (A3 := A15) (X0 := raw.take 40) (X1 := B.set J.toNat bt) (X2 := B.take (B.length - 1)) (X3 := B ++ [bt]) ?_ ?_ ?_ ?_ ?_
                    · rw [e40, eset, etk, eapp]
                      exact blk_new _ _
                    · exact ⟨(Kd.R_reads' hr3).2.1, Kd.C_alloc (Kd.R_reads' hr3).2.2 _, u8_cut HRU.out 40, by omega⟩
                    · exact ⟨by omega, Kd.C_alloc (Kd.C_below (Kd.R_reads' HF13.out).2.2 hE3.2) _, u8_put HBU.out _ hbt, by omega⟩
                    · exact ⟨by omega, Kd.C_alloc (Kd.C_take (Kd.C_below HE13p.out hE3.2) (by omega)) _, u8_cut HBU.out _, by omega⟩
                    · exact ⟨(Kd.R_reads' hE3.1).2.1, Kd.C_alloc (Kd.R_reads' hE3.1).2.2 _, Wr.u8_app HBU.out (fun x hx => by rw [List.mem_singleton.1 hx]; exact hbt), by omega⟩
                  · exact below_alloc hE3.2 _
              case rest =>
                obtain ⟨ad, rfl, HK⟩ := hcut
                obtain ⟨w14, rfl⟩ : ∃ w14 : World, w14 = wc := ⟨_, rfl⟩
                have HB14 := Aside0.mk (below_step HB13.out HK.out.2)
                have HF14 := Aside0.mk HK.out.1
                have HZ14 := Aside0.mk (below_step HZ13.out HK.out.2)
                clear HK HB13 HE13 HR13 HF13 HE13p HR13p hcutb hws
                go_wp2
                go_loopw [28] (fun v28 wr => ∃ i : Int, v28 = .int .i64 i ∧ Aside0 (0 ≤ i ∧ i ≤ 4) ∧ Aside0 (Below w14.heap.size w14 wr)) (fun v _ => 4 - (intOf v).toNat)
                case atStart => exact ⟨0, rfl, ⟨by omega, by omega⟩, ⟨Below.refl _ _⟩⟩
                case round =>
                  obtain ⟨i, rfl, HI, HBi⟩ := hrel
                  have h0 := HI.out.1
                  obtain ⟨wo, rfl⟩ : ∃ wo : World, wo = wr := ⟨_, rfl⟩
                  by_cases hlt : i < 4
                  · obtain ⟨Ai, X, ci, hcell, hci, hC, hU, hL⟩ := HF14.out.below HBi.out i h0 hlt
                    have HC := Aside0.mk hC
                    have HU := Aside0.mk hU
                    clear hC hU
                    go_upto_region 35 with fail
                    refine (dec_any X HU.out hL Ai ci _ HC.out hci).mono ?_
                    rintro e w7 ⟨hb7, rfl | ⟨gd, bd, sd2, rfl, h1, h2, h3⟩⟩
                    · have HB7 := Aside0.mk (below_step HBi.out hb7)
                      clear hb7
                      go_upto_region 35 with fail
                      refine wp_region_held_drew (S := fun _ => True) (by kernel_rfl) trivial (fun hHeld => ?_)
                      refine take_slot 0 (some 167) (.int .i64 2) rfl rfl (by kernel_rfl) (by kernel_rfl) (by kernel_rfl) (fun _ _ _ h => h) (Or.inl ⟨by kernel_rfl, ?_⟩) hHeld ?_
                      · (intro w hSw; (try dsimp only at hSw); first | (go_simp; done) | (go_simp; with_reducible rfl))
                      try simp only [Act.put, List.setIfInBounds_toArray, List.set_cons_zero, List.set_cons_succ]
                      refine take_slot 1 (some 168) (.bool true) rfl rfl (by kernel_rfl) (by kernel_rfl) (by kernel_rfl) (fun _ _ _ h => h) (Or.inl ⟨by kernel_rfl, ?_⟩) hHeld ?_
                      · (intro w hSw; (try dsimp only at hSw); first | (go_simp; done) | (go_simp; with_reducible rfl))
                      try simp only [Act.put, List.setIfInBounds_toArray, List.set_cons_zero, List.set_cons_succ]
                      refine take_slot 2 (some 169) (.bool true) rfl rfl (by kernel_rfl) (by kernel_rfl) (by kernel_rfl) (fun _ _ _ h => h) (Or.inl ⟨by kernel_rfl, ?_⟩) hHeld ?_
                      · (intro w hSw; (try dsimp only at hSw); first | (go_simp; done) | (go_simp; with_reducible rfl))
                      try simp only [Act.put, List.setIfInBounds_toArray, List.set_cons_zero, List.set_cons_succ]
                      refine take_slot 3 (some 170) (.int .i64 2) rfl rfl (by kernel_rfl) (by kernel_rfl) (by kernel_rfl) (fun _ _ _ h => h) (Or.inl ⟨by kernel_rfl, ?_⟩) hHeld ?_
                      · (intro w hSw; (try dsimp only at hSw); first | (go_simp; done) | (go_simp; with_reducible rfl))
                      try simp only [Act.put, List.setIfInBounds_toArray, List.set_cons_zero, List.set_cons_succ]
                      refine take_slot 4 (some 171) (.bool false) rfl rfl (by kernel_rfl) (by kernel_rfl) (by kernel_rfl) (fun _ _ _ h => h) (Or.inl ⟨by kernel_rfl, ?_⟩) hHeld ?_
                      · (intro w hSw; (try dsimp only at hSw); first | (go_simp; done) | (go_simp; with_reducible rfl))
                      try simp only [Act.put, List.setIfInBounds_toArray, List.set_cons_zero, List.set_cons_succ]
                      refine take_slot 5 (some 172) (.bool false) rfl rfl (by kernel_rfl) (by kernel_rfl) (by kernel_rfl) (fun _ _ _ h => h) (Or.inl ⟨by kernel_rfl, ?_⟩) hHeld ?_
                      · (intro w hSw; (try dsimp only at hSw); first | (go_simp; done) | (go_simp; with_reducible rfl))
                      try simp only [Act.put, List.setIfInBounds_toArray, List.set_cons_zero, List.set_cons_succ]
                      refine take_slot 6 (some 173) (.pointer none) rfl rfl (by kernel_rfl) (by kernel_rfl) (by kernel_rfl) (fun _ _ _ h => h) (Or.inl ⟨by kernel_rfl, ?_⟩) hHeld ?_
                      · (intro w hSw; (try dsimp only at hSw); first | (go_simp; done) | (go_simp; with_reducible rfl))
                      try simp only [Act.put, List.setIfInBounds_toArray, List.set_cons_zero, List.set_cons_succ]
                      refine take_slot 7 (some 174) (.bool false) rfl rfl (by kernel_rfl) (by kernel_rfl) (by kernel_rfl) (fun _ _ _ h => h) (Or.inl ⟨by kernel_rfl, ?_⟩) hHeld ?_
                      · (intro w hSw; (try dsimp only at hSw); first | (go_simp; done) | (go_simp; with_reducible rfl))
                      try simp only [Act.put, List.setIfInBounds_toArray, List.set_cons_zero, List.set_cons_succ]
                      refine take_slot 8 (some 175) (.bool false) rfl rfl (by kernel_rfl) (by kernel_rfl) (by kernel_rfl) (fun _ _ _ h => h) (Or.inl ⟨by kernel_rfl, ?_⟩) hHeld ?_
                      · (intro w hSw; (try dsimp only at hSw); first | (go_simp; done) | (go_simp; with_reducible rfl))
                      try simp only [Act.put, List.setIfInBounds_toArray, List.set_cons_zero, List.set_cons_succ]
                      refine take_slot 9 (some 176) (.bool false) rfl rfl (by kernel_rfl) (by kernel_rfl) (by kernel_rfl) (fun _ _ _ h => h) (Or.inl ⟨by kernel_rfl, ?_⟩) hHeld ?_
                      · (intro w hSw; (try dsimp only at hSw); first | (go_simp; done) | (go_simp; with_reducible rfl))
                      try simp only [Act.put, List.setIfInBounds_toArray, List.set_cons_zero, List.set_cons_succ]
                      refine take_slot 10 (some 177) (.bool false) rfl rfl (by kernel_rfl) (by kernel_rfl) (by kernel_rfl) (fun _ _ _ h => h) (Or.inl ⟨by kernel_rfl, ?_⟩) hHeld ?_
                      · (intro w hSw; (try dsimp only at hSw); first | (go_simp; done) | (go_simp; with_reducible rfl))
                      try simp only [Act.put, List.setIfInBounds_toArray, List.set_cons_zero, List.set_cons_succ]
                      refine take_slot 11 (some 178) (.int .i64 2) rfl rfl (by kernel_rfl) (by kernel_rfl) (by kernel_rfl) (fun _ _ _ h => h) (Or.inl ⟨by kernel_rfl, ?_⟩) hHeld ?_
                      · (intro w hSw; (try dsimp only at hSw); first | (go_simp; done) | (go_simp; with_reducible rfl))
                      try simp only [Act.put, List.setIfInBounds_toArray, List.set_cons_zero, List.set_cons_succ]
                      refine take_slot 12 (some 179) (.bool false) rfl rfl (by kernel_rfl) (by kernel_rfl) (by kernel_rfl) (fun _ _ _ h => h) (Or.inl ⟨by kernel_rfl, ?_⟩) hHeld ?_
                      · (intro w hSw; (try dsimp only at hSw); first | (go_simp; done) | (go_simp; with_reducible rfl))
                      try simp only [Act.put, List.setIfInBounds_toArray, List.set_cons_zero, List.set_cons_succ]
                      refine take_slot 13 (some 180) (.bool false) rfl rfl (by kernel_rfl) (by kernel_rfl) (by kernel_rfl) (fun _ _ _ h => h) (Or.inl ⟨by kernel_rfl, ?_⟩) hHeld ?_
                      · (intro w hSw; (try dsimp only at hSw); first | (go_simp; done) | (go_simp; with_reducible rfl))
                      try simp only [Act.put, List.setIfInBounds_toArray, List.set_cons_zero, List.set_cons_succ]
                      refine take_slot 14 (some 181) undef rfl rfl (by kernel_rfl) (by kernel_rfl) (by kernel_rfl) (fun _ _ _ h => h) (Or.inr ⟨by kernel_rfl, rfl⟩) hHeld ?_
                      try simp only [Act.put, List.setIfInBounds_toArray, List.set_cons_zero, List.set_cons_succ]
                      refine take_slot 15 (some 182) undef rfl rfl (by kernel_rfl) (by kernel_rfl) (by kernel_rfl) (fun _ _ _ h => h) (Or.inr ⟨by kernel_rfl, rfl⟩) hHeld ?_
                      try simp only [Act.put, List.setIfInBounds_toArray, List.set_cons_zero, List.set_cons_succ]
                      refine take_slot 16 (some 183) undef rfl rfl (by kernel_rfl) (by kernel_rfl) (by kernel_rfl) (fun _ _ _ h => h) (Or.inr ⟨by kernel_rfl, rfl⟩) hHeld ?_
                      try simp only [Act.put, List.setIfInBounds_toArray, List.set_cons_zero, List.set_cons_succ]
                      refine take_slot 17 (some 184) undef rfl rfl (by kernel_rfl) (by kernel_rfl) (by kernel_rfl) (fun _ _ _ h => h) (Or.inr ⟨by kernel_rfl, rfl⟩) hHeld ?_
                      try simp only [Act.put, List.setIfInBounds_toArray, List.set_cons_zero, List.set_cons_succ]
                      refine take_slot 18 (some 185) undef rfl rfl (by kernel_rfl) (by kernel_rfl) (by kernel_rfl) (fun _ _ _ h => h) (Or.inr ⟨by kernel_rfl, rfl⟩) hHeld ?_
                      try simp only [Act.put, List.setIfInBounds_toArray, List.set_cons_zero, List.set_cons_succ]
                      refine take_slot 19 (some 186) undef rfl rfl (by kernel_rfl) (by kernel_rfl) (by kernel_rfl) (fun _ _ _ h => h) (Or.inr ⟨by kernel_rfl, rfl⟩) hHeld ?_
                      try simp only [Act.put, List.setIfInBounds_toArray, List.set_cons_zero, List.set_cons_succ]
                      refine take_slot 20 (some 187) undef rfl rfl (by kernel_rfl) (by kernel_rfl) (by kernel_rfl) (fun _ _ _ h => h) (Or.inr ⟨by kernel_rfl, rfl⟩) hHeld ?_
                      try simp only [Act.put, List.setIfInBounds_toArray, List.set_cons_zero, List.set_cons_succ]
                      refine take_slot 21 (some 188) undef rfl rfl (by kernel_rfl) (by kernel_rfl) (by kernel_rfl) (fun _ _ _ h => h) (Or.inr ⟨by kernel_rfl, rfl⟩) hHeld ?_
                      try simp only [Act.put, List.setIfInBounds_toArray, List.set_cons_zero, List.set_cons_succ]
                      refine take_slot 22 (some 189) undef rfl rfl (by kernel_rfl) (by kernel_rfl) (by kernel_rfl) (fun _ _ _ h => h) (Or.inr ⟨by kernel_rfl, rfl⟩) hHeld ?_
                      try simp only [Act.put, List.setIfInBounds_toArray, List.set_cons_zero, List.set_cons_succ]
                      refine take_slot 23 (some 190) undef rfl rfl (by kernel_rfl) (by kernel_rfl) (by kernel_rfl) (fun _ _ _ h => h) (Or.inr ⟨by kernel_rfl, rfl⟩) hHeld ?_
                      try simp only [Act.put, List.setIfInBounds_toArray, List.set_cons_zero, List.set_cons_succ]
                      refine take_slot 24 (some 191) undef rfl rfl (by kernel_rfl) (by kernel_rfl) (by kernel_rfl) (fun _ _ _ h => h) (Or.inr ⟨by kernel_rfl, rfl⟩) hHeld ?_
                      try simp only [Act.put, List.setIfInBounds_toArray, List.set_cons_zero, List.set_cons_succ]
                      refine take_slot 25 (some 192) undef rfl rfl (by kernel_rfl) (by kernel_rfl) (by kernel_rfl) (fun _ _ _ h => h) (Or.inr ⟨by kernel_rfl, rfl⟩) hHeld ?_
                      try simp only [Act.put, List.setIfInBounds_toArray, List.set_cons_zero, List.set_cons_succ]
                      refine take_slot 26 (some 193) (.bool false) rfl rfl (by kernel_rfl) (by kernel_rfl) (by kernel_rfl) (fun _ _ _ h => h) (Or.inl ⟨by kernel_rfl, ?_⟩) hHeld ?_
                      · (intro w hSw; (try dsimp only at hSw); first | (go_simp; done) | (go_simp; with_reducible rfl))
                      try simp only [Act.put, List.setIfInBounds_toArray, List.set_cons_zero, List.set_cons_succ]
                      refine take_slot 27 (some 194) (.bool false) rfl rfl (by kernel_rfl) (by kernel_rfl) (by kernel_rfl) (fun _ _ _ h => h) (Or.inl ⟨by kernel_rfl, ?_⟩) hHeld ?_
                      · (intro w hSw; (try dsimp only at hSw); first | (go_simp; done) | (go_simp; with_reducible rfl))
                      try simp only [Act.put, List.setIfInBounds_toArray, List.set_cons_zero, List.set_cons_succ]
                      refine wpAnyH_done (by kernel_rfl) ?_ _
                      go_wp2_with fail
                      go_roundw
                      case rel => exact ⟨i + 1, rfl, ⟨by omega, by omega⟩, ⟨below_step HB7.out (drew_below w7)⟩⟩
                      case measure => simp [intOf]; omega
                    · have HB7 := Aside0.mk (below_step HBi.out hb7)
                      have hcell7 := pw_cell_below (below_step hb7 (drew_below w7)) hcell
                      have HC7 := Aside0.mk (Kd.C_below HC.out (below_step hb7 (drew_below w7)))
                      have HL7 := Aside0.mk (h1.below (drew_below w7))
                      have henc := encode_calls wo.heap.size gd bd 64 sd2 w7.drew HL7.out h2
                      rw [h3] at henc
                      have HEN := Aside0.mk henc
                      have HLX := Aside0.mk hL
                      clear hb7 h1 h2 h3 henc
                      go_upto_region 35 with fail
                      refine wp_region_held_drew (S := fun w' => w'.cell? (ad.add i.toNat) = some (.slice Ai X.length ci)) (by kernel_rfl) hcell7 (fun hHeld => ?_)
                      refine take_slot 0 (some 167) (.int .i64 0) rfl rfl (by kernel_rfl) (by kernel_rfl) (by kernel_rfl) (fun _ _ _ h => h) (Or.inl ⟨by kernel_rfl, ?_⟩) hHeld ?_
                      · (intro w hSw; (try dsimp only at hSw); first | (go_simp; done) | (go_simp; with_reducible rfl))
                      try simp only [Act.put, List.setIfInBounds_toArray, List.set_cons_zero, List.set_cons_succ]
                      refine take_slot 1 (some 168) (.bool false) rfl rfl (by kernel_rfl) (by kernel_rfl) (by kernel_rfl) (fun _ _ _ h => h) (Or.inl ⟨by kernel_rfl, ?_⟩) hHeld ?_
                      · (intro w hSw; (try dsimp only at hSw); first | (go_simp; done) | (go_simp; with_reducible rfl))
                      try simp only [Act.put, List.setIfInBounds_toArray, List.set_cons_zero, List.set_cons_succ]
                      refine take_slot 2 (some 169) (.bool false) rfl rfl (by kernel_rfl) (by kernel_rfl) (by kernel_rfl) (fun _ _ _ h => h) (Or.inl ⟨by kernel_rfl, ?_⟩) hHeld ?_
                      · (intro w hSw; (try dsimp only at hSw); first | (go_simp; done) | (go_simp; with_reducible rfl))
                      try simp only [Act.put, List.setIfInBounds_toArray, List.set_cons_zero, List.set_cons_succ]
                      refine take_slot 3 (some 170) undef rfl rfl (by kernel_rfl) (by kernel_rfl) (by kernel_rfl) (fun _ _ _ h => h) (Or.inr ⟨by kernel_rfl, rfl⟩) hHeld ?_
                      try simp only [Act.put, List.setIfInBounds_toArray, List.set_cons_zero, List.set_cons_succ]
                      refine take_slot 4 (some 171) undef rfl rfl (by kernel_rfl) (by kernel_rfl) (by kernel_rfl) (fun _ _ _ h => h) (Or.inr ⟨by kernel_rfl, rfl⟩) hHeld ?_
                      try simp only [Act.put, List.setIfInBounds_toArray, List.set_cons_zero, List.set_cons_succ]
                      refine take_slot 5 (some 172) undef rfl rfl (by kernel_rfl) (by kernel_rfl) (by kernel_rfl) (fun _ _ _ h => h) (Or.inr ⟨by kernel_rfl, rfl⟩) hHeld ?_
                      try simp only [Act.put, List.setIfInBounds_toArray, List.set_cons_zero, List.set_cons_succ]
                      refine take_slot 6 (some 173) undef rfl rfl (by kernel_rfl) (by kernel_rfl) (by kernel_rfl) (fun _ _ _ h => h) (Or.inr ⟨by kernel_rfl, rfl⟩) hHeld ?_
                      try simp only [Act.put, List.setIfInBounds_toArray, List.set_cons_zero, List.set_cons_succ]
                      refine take_slot 7 (some 174) undef rfl rfl (by kernel_rfl) (by kernel_rfl) (by kernel_rfl) (fun _ _ _ h => h) (Or.inr ⟨by kernel_rfl, rfl⟩) hHeld ?_
                      try simp only [Act.put, List.setIfInBounds_toArray, List.set_cons_zero, List.set_cons_succ]
                      refine take_slot 8 (some 175) undef rfl rfl (by kernel_rfl) (by kernel_rfl) (by kernel_rfl) (fun _ _ _ h => h) (Or.inr ⟨by kernel_rfl, rfl⟩) hHeld ?_
                      try simp only [Act.put, List.setIfInBounds_toArray, List.set_cons_zero, List.set_cons_succ]
                      refine take_slot 9 (some 176) (.bool false) rfl rfl (by kernel_rfl) (by kernel_rfl) (by kernel_rfl) (fun _ _ _ h => h) (Or.inl ⟨by kernel_rfl, ?_⟩) hHeld ?_
                      · (intro w hSw; (try dsimp only at hSw); first | (go_simp; done) | (go_simp; with_reducible rfl))
                      try simp only [Act.put, List.setIfInBounds_toArray, List.set_cons_zero, List.set_cons_succ]
                      refine take_slot 10 (some 177) (.bool false) rfl rfl (by kernel_rfl) (by kernel_rfl) (by kernel_rfl) (fun _ _ _ h => h) (Or.inl ⟨by kernel_rfl, ?_⟩) hHeld ?_
                      · (intro w hSw; (try dsimp only at hSw); first | (go_simp; done) | (go_simp; with_reducible rfl))
                      try simp only [Act.put, List.setIfInBounds_toArray, List.set_cons_zero, List.set_cons_succ]
                      refine take_slot 11 (some 178) (.int .i64 0) rfl rfl (by kernel_rfl) (by kernel_rfl) (by kernel_rfl) (fun _ _ _ h => h) (Or.inl ⟨by kernel_rfl, ?_⟩) hHeld ?_
                      · (intro w hSw; (try dsimp only at hSw); first | (go_simp; done) | (go_simp; with_reducible rfl))
                      try simp only [Act.put, List.setIfInBounds_toArray, List.set_cons_zero, List.set_cons_succ]
                      refine take_slot 12 (some 179) (.bool true) rfl rfl (by kernel_rfl) (by kernel_rfl) (by kernel_rfl) (fun _ _ _ h => h) (Or.inl ⟨by kernel_rfl, ?_⟩) hHeld ?_
                      · (intro w hSw; (try dsimp only at hSw); first | (go_simp; done) | (go_simp; with_reducible rfl))
                      try simp only [Act.put, List.setIfInBounds_toArray, List.set_cons_zero, List.set_cons_succ]
                      refine take_slot 13 (some 180) (.bool true) rfl rfl (by kernel_rfl) (by kernel_rfl) (by kernel_rfl) (fun _ _ _ h => h) (Or.inl ⟨by kernel_rfl, ?_⟩) hHeld ?_
                      · (intro w hSw; (try dsimp only at hSw); first | (go_simp; done) | (go_simp; with_reducible rfl))
                      try simp only [Act.put, List.setIfInBounds_toArray, List.set_cons_zero, List.set_cons_succ]
                      refine take_slot 14 (some 181) (.pointer (some ⟨gd, 0, none⟩)) rfl rfl (by kernel_rfl) (by kernel_rfl) (by kernel_rfl) (fun _ _ _ h => h) (Or.inl ⟨by kernel_rfl, ?_⟩) hHeld ?_
                      · (intro w hSw; (try dsimp only at hSw); first | (go_simp; done) | (go_simp; with_reducible rfl))
                      try simp only [Act.put, List.setIfInBounds_toArray, List.set_cons_zero, List.set_cons_succ]
                      refine take_slot 15 (some 182) (.bool false) rfl rfl (by kernel_rfl) (by kernel_rfl) (by kernel_rfl) (fun _ _ _ h => h) (Or.inl ⟨by kernel_rfl, ?_⟩) hHeld ?_
                      · (intro w hSw; (try dsimp only at hSw); first | (go_simp; done) | (go_simp; with_reducible rfl))
                      try simp only [Act.put, List.setIfInBounds_toArray, List.set_cons_zero, List.set_cons_succ]
                      refine take_slot 16 (some 183) (.bool false) rfl rfl (by kernel_rfl) (by kernel_rfl) (by kernel_rfl) (fun _ _ _ h => h) (Or.inl ⟨by kernel_rfl, ?_⟩) hHeld ?_
                      · (intro w hSw; (try dsimp only at hSw); first | (go_simp; done) | (go_simp; with_reducible rfl))
                      try simp only [Act.put, List.setIfInBounds_toArray, List.set_cons_zero, List.set_cons_succ]
                      refine take_slot 17 (some 184) (.pointer (some ⟨gd, 0, none⟩)) rfl rfl (by kernel_rfl) (by kernel_rfl) (by kernel_rfl) (fun _ _ _ h => h) (Or.inl ⟨by kernel_rfl, ?_⟩) hHeld ?_
                      · (intro w hSw; (try dsimp only at hSw); first | (go_simp; done) | (go_simp; with_reducible rfl))
                      try simp only [Act.put, List.setIfInBounds_toArray, List.set_cons_zero, List.set_cons_succ]
                      refine take_slot 19 (some 186) (.slice (some ad) 4 4) rfl rfl (by kernel_rfl) (by kernel_rfl) (by kernel_rfl) (fun _ _ _ h => h) (Or.inl ⟨by kernel_rfl, ?_⟩) hHeld ?_
                      · (intro w hSw; (try dsimp only at hSw); first | (go_simp; done) | (go_simp; with_reducible rfl))
                      try simp only [Act.put, List.setIfInBounds_toArray, List.set_cons_zero, List.set_cons_succ]
                      refine take_slot 20 (some 187) (.int .i64 i) rfl rfl (by kernel_rfl) (by kernel_rfl) (by kernel_rfl) (fun _ _ _ h => h) (Or.inl ⟨by kernel_rfl, ?_⟩) hHeld ?_
                      · (intro w hSw; (try dsimp only at hSw); first | (go_simp; done) | (go_simp; with_reducible rfl))
                      try simp only [Act.put, List.setIfInBounds_toArray, List.set_cons_zero, List.set_cons_succ]
                      refine take_slot 21 (some 188) (.pointer (some (ad.add i.toNat))) rfl rfl (by kernel_rfl) (by kernel_rfl) (by kernel_rfl) (fun _ _ _ h => h) (Or.inl ⟨by kernel_rfl, ?_⟩) hHeld ?_
                      · (intro w hSw; (try dsimp only at hSw); first | (go_simp; done) | (go_simp; with_reducible rfl))
                      try simp only [Act.put, List.setIfInBounds_toArray, List.set_cons_zero, List.set_cons_succ]
                      refine take_slot 22 (some 189) (.slice Ai X.length ci) rfl rfl (by kernel_rfl) (by kernel_rfl) (by kernel_rfl) (fun _ _ _ h => h) (Or.inl ⟨by kernel_rfl, ?_⟩) hHeld ?_
                      · (intro w hSw; (try dsimp only at hSw); first | (go_simp; done) | (go_simp; with_reducible rfl))
                      try simp only [Act.put, List.setIfInBounds_toArray, List.set_cons_zero, List.set_cons_succ]
                      refine wpAnyH_ready (rs := [18]) (by kernel_rfl) (by simp) ?_
                      refine AllReadyH.cons (o := _) rfl (fun K hK => ?_) AllReadyH.nil
                      go_simp
                      (go_at_call 31; (with_reducible refine HEN.out.mono ?_); rintro e w8 ⟨v8, rfl, h1, h2⟩; obtain ⟨A8, c8, rfl⟩ := Kd.R_slice h1; have HV8 := Aside0.mk (Kd.R_reads' h1); have HB8 := Aside0.mk (below_step (drew_below w7) h2); have HC8 := Aside0.mk (Kd.C_below HC7.out h2); have hcell8 := pw_cell_below h2 hcell7; clear h1 h2)
                      (try go_wp2_with fail)
                      refine hK.out _ _ ?_ (fun hHeld => ?_)
                      · exact hcell8
                      clear hK K
                      try simp only [Act.put, List.setIfInBounds_toArray, List.set_cons_zero, List.set_cons_succ]
                      refine wpAnyH_ready (rs := [23]) (by kernel_rfl) (by simp) ?_
                      refine AllReadyH.cons (o := _) rfl (fun K hK => ?_) AllReadyH.nil
                      go_simp
                      (go_at_call 35; (with_reducible refine (sameb_c X HLX.out A8 Ai c8 ci w8 HV8.out.2.2 HV8.out.2.1 HC8.out hci).mono ?_); rintro e w9 ⟨rfl, h1⟩; have HB9 := Aside0.mk (below_step HB8.out h1); have hcell9 := pw_cell_below h1 hcell8; clear h1)
                      (try go_wp2_with fail)
                      refine hK.out _ _ ?_ (fun hHeld => ?_)
                      · exact hcell9
                      clear hK K
                      try simp only [Act.put, List.setIfInBounds_toArray, List.set_cons_zero, List.set_cons_succ]
                      refine take_slot 24 (some 191) (.bool false) rfl rfl (by kernel_rfl) (by kernel_rfl) (by kernel_rfl) (fun _ _ _ h => h) (Or.inl ⟨by kernel_rfl, ?_⟩) hHeld ?_
                      · (intro w hSw; (try dsimp only at hSw); first | (go_simp; done) | (go_simp; with_reducible rfl))
                      try simp only [Act.put, List.setIfInBounds_toArray, List.set_cons_zero, List.set_cons_succ]
                      refine take_slot 25 (some 192) (.bool false) rfl rfl (by kernel_rfl) (by kernel_rfl) (by kernel_rfl) (fun _ _ _ h => h) (Or.inl ⟨by kernel_rfl, ?_⟩) hHeld ?_
                      · (intro w hSw; (try dsimp only at hSw); first | (go_simp; done) | (go_simp; with_reducible rfl))
                      try simp only [Act.put, List.setIfInBounds_toArray, List.set_cons_zero, List.set_cons_succ]
                      refine take_slot 26 (some 193) (.bool false) rfl rfl (by kernel_rfl) (by kernel_rfl) (by kernel_rfl) (fun _ _ _ h => h) (Or.inl ⟨by kernel_rfl, ?_⟩) hHeld ?_
                      · (intro w hSw; (try dsimp only at hSw); first | (go_simp; done) | (go_simp; with_reducible rfl))
                      try simp only [Act.put, List.setIfInBounds_toArray, List.set_cons_zero, List.set_cons_succ]
                      refine take_slot 27 (some 194) (.bool false) rfl rfl (by kernel_rfl) (by kernel_rfl) (by kernel_rfl) (fun _ _ _ h => h) (Or.inl ⟨by kernel_rfl, ?_⟩) hHeld ?_
                      · (intro w hSw; (try dsimp only at hSw); first | (go_simp; done) | (go_simp; with_reducible rfl))
                      try simp only [Act.put, List.setIfInBounds_toArray, List.set_cons_zero, List.set_cons_succ]
                      refine wpAnyH_done (by kernel_rfl) ?_ _
                      go_wp2_with fail
                      go_roundw
                      case rel => exact ⟨i + 1, rfl, ⟨by omega, by omega⟩, ⟨below_step HB7.out HB9.out⟩⟩
                      case measure => simp [intOf]; omega
                  · have HZi := Aside0.mk (below_step HZ14.out HBi.out)
                    have HLi := Aside0.mk (HL.out.below HZi.out)
                    have HQi := Aside0.mk (HQ.out.below HZi.out)
                    have HBw := Aside0.mk (below_step HB.out HZi.out)
                    go_wp2_with (first
                      | (go_at_call 23; (with_reducible refine (agrees_calls W.heap.size g b (64 + xs.length) W.heap.size w1.heap.size sd wo HLi.out HQi.out HBw.out.size HGd.out).mono ?_); rintro e w15 ⟨rfl, h1⟩; have HBx := Aside0.mk (below_step HBw.out h1); clear h1)
                      | (go_at_call 14; (with_reducible refine (lives_calls w15).mono ?_); rintro e w16 ⟨rfl, h1⟩; have HBy := Aside0.mk (below_step HBx.out h1); clear h1)
                      | fail)
                    go_returns
                    exact ⟨rfl, HBy.out⟩
end Go.Proofs.Ytcbkcgnigncahaa.P
