import Derived.Test.YtcbkcgnigncahaaDGivenYc
import Derived.Test.YtcbkcgnigncahaaDGivenYd
import Derived.Test.YtcbkcgnigncahaaDGivenXi
namespace Go.Proofs.Ytcbkcgnigncahaa.P
open Go.RowKit Go.Maps Go.Proofs.YtcbkcgnigncahaaW.PrintWords Go.Proofs.YtcbkcgnigncahaaW.PrintLast Go.Proofs.YtcbkcgnigncahaaW.PrintMore
set_option linter.unusedVariables false
set_option linter.unusedSimpArgs false
theorem LS.lower {base base' g b n : Nat} {s : Ln} {W : World} (h : LS base g b n s W) (hb : base' ≤ base) : LS base' g b n s W := by
  obtain ⟨h1, h2, ⟨v, h3, h4⟩, h5⟩ := h
  exact ⟨Nat.le_trans hb h1, Nat.le_trans hb h2, ⟨v, h3, Kd.R_lower h4 hb⟩, h5⟩
theorem RS.lower {base base' g : Nat} {r : Rf} {W : World} (h : RS base g r W) (hb : base' ≤ base) : RS base' g r W := by
  obtain ⟨h1, u, v, h3, h4, h5⟩ := h
  exact ⟨Nat.le_trans hb h1, u, v, h3, Kd.R_lower h4 hb, Kd.R_lower h5 hb⟩
theorem RApart.fresh {base g g2 : Nat} {r r2 : Rf} {w w' : World} (h : RS base g r w) (h2 : RS w.heap.size g2 r2 w') (hb : Below w.heap.size w w') : RApart g g2 w' := by
  have hlt := h.lt
  obtain ⟨_, u, v, a3, a4, a5⟩ := h
  obtain ⟨c1, u2, v2, c3, c4, c5⟩ := h2
  refine ⟨by omega, fun k e1 e2 => ?_, fun k e1 e2 => ?_⟩
  · rw [bown_same (hb.block g hlt), bown_of a3] at e1
    rw [bown_of c3] at e2
    have := Kd.R_lt a4 k e1
    have := Kd.R_base c4 k e2
    omega
  · rw [vown_same (hb.block g hlt), vown_of a3] at e1
    rw [vown_of c3] at e2
    have := Kd.R_lt a5 k e1
    have := Kd.R_base c5 k e2
    omega
structure Two (B g b m g2 b2 m2 n n2 : Nat) (s s2 : Ln) (r r2 : Rf) (W : World) : Prop where
  l1 : LS B g b n s W
  l2 : LS B g2 b2 n2 s2 W
  ap : Apart g b g2 b2 W
  r1 : RS B m r W
  r2 : RS B m2 r2 W
  rap : RApart m m2 W
section
variable {B g b m g2 b2 m2 n n2 : Nat} {s s2 s' : Ln} {r r2 r' : Rf} {W W' : World}
theorem Two.swap (h : Two B g b m g2 b2 m2 n n2 s s2 r r2 W) : Two B g2 b2 m2 g b m n2 n s2 s r2 r W := ⟨h.l2, h.l1, h.ap.swap, h.r2, h.r1, h.rap.swap⟩
theorem Two.below (h : Two B g b m g2 b2 m2 n n2 s s2 r r2 W) (hb : Below W.heap.size W W') : Two B g b m g2 b2 m2 n n2 s s2 r r2 W' :=
  ⟨h.l1.below hb, h.l2.below hb, h.ap.below hb h.l1.lt h.l2.lt, h.r1.below hb, h.r2.below hb, h.rap.below hb h.r1.lt h.r2.lt⟩
theorem Two.doL (h : Two B g b m g2 b2 m2 n n2 s s2 r r2 W) (hl : LS B g b (n + 1) s' W') (hk : KeepO g b W W') : Two B g b m g2 b2 m2 (n + 1) n2 s' s2 r r2 W' := by
  have h2 := h.l1.keepO h.l2 h.ap hk
  have hT := hk.toT h.l1
  exact ⟨hl, h2.1, h2.2, h.r1.keepT hT, h.r2.keepT hT, h.rap.keepT h.r1 h.r2 hT⟩
theorem Two.doR (h : Two B g b m g2 b2 m2 n n2 s s2 r r2 W) (hr : RS B m r' W') (hk : KeepRO m W W') (hb : Below B W W') : Two B g b m g2 b2 m2 n n2 s s2 r' r2 W' := by
  have h2 := h.r1.keepRO h.r2 h.rap hk
  have hR := hk.toR h.r1
  exact ⟨h.l1.keepR hR hb, h.l2.keepR hR hb, h.ap.keepR h.l1 h.l2 hR, hr, h2.1, h2.2⟩
theorem two_do (h : Two B g b m g2 b2 m2 n n2 s s2 r r2 W) (hB : B ≤ W.heap.size) (o : S38) (hs : o.f1.size ≤ maxLen) (hn : n < 1000000) (hg : Good s) :
    Calls Try.prog 16 #[.pointer (some ⟨g, 0, none⟩), agg38 o] W fun e W' => (∃ x y, e = .returned (.tuple #[.int .i64 x, .int .i64 y])) ∧ Two B g b m g2 b2 m2 (n + 1) n2 (doF s o).2.2 s2 r r2 W' ∧ Below B W W' ∧ KeepT W W' := by
  refine (do_calls B g b n s o W h.l1 hB hs hn hg).mono ?_
  rintro e W' ⟨rfl, h1, h2, h3⟩
  exact ⟨⟨_, _, rfl⟩, h.doL h1 h3, h2, h3.toT h.l1⟩
theorem two_rdo (h : Two B g b m g2 b2 m2 n n2 s' s2 (rfOf s) r2 W) (hB : B ≤ W.heap.size) (o : S38) (ho : OpOk o) (hg : Good2 s) :
    Calls Try.prog 22 #[.pointer (some ⟨m, 0, none⟩), agg38 o] W fun e W' => (∃ x y, e = .returned (.tuple #[.int .i64 x, .int .i64 y])) ∧ Two B g b m g2 b2 m2 n n2 s' s2 (rfOf (doF s o).2.2) r2 W' ∧ Below B W W' ∧ KeepR W W' := by
  refine (rdo_calls B m s o W h.r1 hB ho hg).mono ?_
  rintro e W' ⟨rfl, h1, h2, h3⟩
  exact ⟨⟨_, _, rfl⟩, h.doR h1 h3 h2, h2, h3.toR h.r1⟩
end
end Go.Proofs.Ytcbkcgnigncahaa.P
namespace Go.Proofs.Ytcbkcgnigncahaa.P
open Go.RowKit Go.Maps Go.Sort Go.Proofs.YtcbkcgnigncahaaW.PrintWords Go.Proofs.YtcbkcgnigncahaaW.PrintLast Go.Proofs.YtcbkcgnigncahaaW.PrintMore
attribute [local go_sem] max2_int min2_int max_two min_two max_three min_three max_four min_four
set_option linter.unusedVariables false
set_option linter.unusedSimpArgs false
set_option maxHeartbeats 16000000 in
set_option maxRecDepth 100000 in
theorem law7 (l0 l1 l2 : List Int) (A0 A1 A2 : Option Addr) (c0 c1 c2 : Nat) (ops xs ys : List S38) (k0 k1 k2 : Nat) (W : World)
    (hr0 : Kd.C (Kd.int .i64) W A0 l0.length l0) (hc0 : l0.length ≤ c0) (hr1 : Kd.C (Kd.int .i64) W A1 l1.length l1) (hc1 : l1.length ≤ c1) (hr2 : Kd.C (Kd.int .i64) W A2 l2.length l2) (hc2 : l2.length ≤ c2)
    (hs0 : skymosaicref31_Script.f k0 l0 14 = some ops) (ho0 : ∀ o ∈ ops, OpOk o) (hl0 : ops.length ≤ 14)
    (hs1 : skymosaicref31_Script.f k1 l1 8 = some xs) (ho1 : ∀ o ∈ xs, OpOk o) (hl1 : xs.length ≤ 8)
    (hs2 : skymosaicref31_Script.f k2 l2 8 = some ys) (ho2 : ∀ o ∈ ys, OpOk o) (hl2 : ys.length ≤ 8) :
    Calls Try.prog 7 #[.slice A0 l0.length c0, .slice A1 l1.length c1, .slice A2 l2.length c2] W fun e W' => e = .returned (.bool true) ∧ Below W.heap.size W W' := by
  have HR0 := Aside0.mk hr0
  have HS0 := Aside0.mk hs0
  have HO0 := Aside0.mk ho0
  have HR1 := Aside0.mk hr1
  have HS1 := Aside0.mk hs1
  have HO1 := Aside0.mk ho1
  have HR2 := Aside0.mk hr2
  have HS2 := Aside0.mk hs2
  have HO2 := Aside0.mk ho2
  have hu38 := Try.underlying38
  have hu43 := Try.underlying43
  clear hr0 hs0 ho0 hr1 hs1 ho1 hr2 hs2 ho2
  go_enter Try.func7, Try.ntmps7
  go_wp2_with (first
    | (go_at_call 9; (with_reducible refine (new_calls _).mono ?_); rintro e w1 ⟨rfl, h1, h2⟩; have HL1 := Aside0.mk h1; have HB1 := Aside0.mk h2; clear h1 h2)
    | (go_at_call 15; fail)
    | fail)
  have h0 := below_alloc (Below.refl w1.heap.size w1) (.cells #[.slice none 0 0, .slice none 0 0] 53)
  have hb0 := below_step HB1.out h0
  with_reducible refine (skymosaicref31_Script.calls k0 A0 c0 l0 14 ops _ (Kd.C_below HR0.out hb0) hc0 HS0.out).mono ?_
  rintro e w2 ⟨vo, rfl, h1, h2⟩
  have HP2 := Aside0.mk h1
  have HL2 := Aside0.mk ((HL1.out.below h0).below h2)
  have HQ2 := Aside0.mk ((rs_new w1 W.heap.size HB1.out.size).below h2)
  have HB2 := Aside0.mk (below_step hb0 h2)
  clear h1 h2 h0 hb0
  obtain ⟨Ao, co, rfl⟩ := Kd.R_slice HP2.out
  go_wp2_with fail
  go_loopw [10] (fun v10 wr => ∃ i : Nat, v10 = .int .i64 i ∧ Aside0 (i ≤ ops.length) ∧ Aside0 (LS W.heap.size (W.heap.size + 1) W.heap.size i (runL Ln0 (ops.take i)) wr) ∧ Aside0 (RS W.heap.size w1.heap.size (rfOf (runL Ln0 (ops.take i))) wr) ∧ Aside0 (Below W.heap.size W wr) ∧ Aside0 (Kd.R k38 38 wr (w1.heap.size + 1) (fun _ => True) (.slice Ao ops.length co) ops)) (fun v _ => ops.length - (intOf v).toNat)
  case atStart => exact ⟨0, rfl, ⟨Nat.zero_le _⟩, HL2, HQ2, HB2, ⟨by have := HP2.out; rwa [World.size_alloc] at this⟩⟩
  case round =>
    obtain ⟨i, rfl, HI, HL, HQ, HB, HO⟩ := hrel
    obtain ⟨wa, rfl⟩ : ∃ wa : World, wa = wr := ⟨_, rfl⟩
    have hi := HI.out
    by_cases hlt : i < ops.length
    · obtain ⟨ad, e9, y0, y1, y2, y3, y4, y5, y6⟩ := at_T38 (Kd.R_reads' HO.out).2.2 (i : Int) (by omega) (by omega)
      obtain rfl := e9
      have HOK := Aside0.mk (HO0.out _ (mem_rd38 ops i hlt))
      have HTK := Aside0.mk (take_rd38 ops i hlt)
      obtain ⟨⟨o0, o1, o2, o3, o4, o5, o6⟩, ho⟩ : ∃ o, rd_T38 ops (i : Int) = o := ⟨_, rfl⟩
      have HRO := Aside0.mk ho
      rw [ho] at HOK HTK y0 y1 y2 y3 y4 y5 y6
      rw [Int.toNat_natCast] at y0 y1 y2 y3 y4 y5 y6
      simp only at y0 y1 y2 y3 y4 y5 y6
      have hoz : o1.size ≤ maxLen := by have := HOK.out.size; simp only at this; unfold maxLen; omega
      have hcap := (Kd.R_reads' HO.out).2.1
      obtain ⟨s1, hs1⟩ : ∃ s1, runL Ln0 (ops.take i) = s1 := ⟨_, rfl⟩
      have HG1 := Aside0.mk (show Good3 s1 from hs1 ▸ good3_0.run (ops.take i))
      rw [hs1] at HL HQ
      have hsn : runL Ln0 (ops.take (i + 1)) = (doF s1 ⟨o0, o1, o2, o3, o4, o5, o6⟩).2.2 := by rw [HTK.out, runL_snoc, hs1]
      obtain ⟨⟨da, de, s2⟩, hd⟩ : ∃ v, doF s1 ⟨o0, o1, o2, o3, o4, o5, o6⟩ = v := ⟨_, rfl⟩
      rw [hd] at hsn
      have HSN := Aside0.mk hsn
      have HD := Aside0.mk hd
      have HG2 := Aside0.mk (show Good3 s2 from by have := HG1.out.do_ ⟨o0, o1, o2, o3, o4, o5, o6⟩; rwa [hd] at this)
      have hda : (da != da) = false := by simp
      have hde : (de != de) = false := by simp
      clear ho hs1 hsn hd
      go_wp2_with (first
        | (go_at_call 16; (with_reducible refine (do_calls W.heap.size (W.heap.size + 1) W.heap.size i s1 ⟨o0, o1, o2, o3, o4, o5, o6⟩ wa HL.out HB.out.size hoz (by omega) HG1.out.toGood).mono ?_); rintro e w4 ⟨rfl, h1, h2, h3⟩; rw [HD.out] at h1; have hk := h3.toT HL.out; have HL4 := Aside0.mk h1; have HB4 := Aside0.mk (HB.out.trans h2); have HQ4 := Aside0.mk (HQ.out.keepT hk); have HO4 := Aside0.mk (hk.row HO.out (by decide)); clear h1 h2 h3 hk y0 y1 y2 y3 y4 y5 y6; obtain ⟨ad4, e9, y0, y1, y2, y3, y4, y5, y6⟩ := at_T38 (Kd.R_reads' HO4.out).2.2 (i : Int) (by omega) (by omega); obtain rfl := Option.some.inj e9; rw [HRO.out] at y0 y1 y2 y3 y4 y5 y6; rw [Int.toNat_natCast] at y0 y1 y2 y3 y4 y5 y6; simp only at y0 y1 y2 y3 y4 y5 y6)
        | (go_at_call 22; (with_reducible refine (rdo_calls W.heap.size w1.heap.size s1 ⟨o0, o1, o2, o3, o4, o5, o6⟩ w4 HQ4.out HB4.out.size HOK.out HG1.out.toGood2).mono ?_); rintro e w5 ⟨rfl, h1, h2, h3⟩; rw [HD.out] at h1; have HQ5 := Aside0.mk h1; have HB5 := Aside0.mk (HB4.out.trans h2); have hkr := h3.toR HQ4.out; have HL5 := Aside0.mk (HL4.out.keepR hkr h2); have HO5 := Aside0.mk (hkr.row HO4.out (by decide)); clear hkr; clear h1 h2 h3 y0 y1 y2 y3 y4 y5 y6)
        | fail)
      go_roundw
      case rel => exact ⟨i + 1, by simp, ⟨by omega⟩, ⟨by rw [HSN.out]; exact HL5.out⟩, ⟨by rw [HSN.out]; exact HQ5.out⟩, HB5, HO5⟩
      case measure => simp [intOf]; omega
    · obtain rfl : i = ops.length := by omega
      rw [List.take_length] at HL HQ
      obtain ⟨s, hs⟩ : ∃ s, runL Ln0 ops = s := ⟨_, rfl⟩
      have HG := Aside0.mk (show Good3 s from hs ▸ good3_0.run ops)
      rw [hs] at HL HQ
      clear hs HO HP2
      have hhg := HG.out.most
      go_wp2_with (first
        | (go_at_call 29; (with_reducible refine (copy_calls W.heap.size (W.heap.size + 1) W.heap.size ops.length s wa HL.out HG.out.toGood).mono ?_); rintro e w3 ⟨g2, b2, rfl, h1, h2, h3⟩; have HC3 := Aside0.mk (h1.lower HB.out.size); have HAP3 := Aside0.mk h3; have HL3 := Aside0.mk (HL.out.below h2); have HQ3 := Aside0.mk (HQ.out.below h2); have HB3 := Aside0.mk (below_step HB.out h2); clear h1 h2 h3)
        | (go_at_call 30; (with_reducible refine (rcopy_calls W.heap.size w1.heap.size (rfOf s) w3 HQ3.out (by have := rf_few HG.out.toGood; omega) (by have := rf_most HG.out.toGood; omega)).mono ?_); rintro e w4 ⟨m2, rfl, h1, h2⟩; have HT4 := Aside0.mk (show Two W.heap.size (W.heap.size + 1) W.heap.size w1.heap.size g2 b2 m2 ops.length ops.length s s (rfOf s) (rfOf s) w4 from ⟨HL3.out.below h2, HC3.out.below h2, HAP3.out.below h2 HL3.out.lt HC3.out.lt, HQ3.out.below h2, h1.lower HB3.out.size, RApart.fresh HQ3.out h1 h2⟩); have HB4 := Aside0.mk (below_step HB3.out h2); clear h1 h2)
        | (go_at_call 15; (with_reducible refine (skymosaicref31_Script.calls k1 A1 c1 l1 8 xs w4 (Kd.C_below HR1.out HB4.out) hc1 HS1.out).mono ?_); rintro e w5 ⟨vo, rfl, h1, h2⟩; have HX5 := Aside0.mk h1; have HT5 := Aside0.mk (HT4.out.below h2); have HB5 := Aside0.mk (below_step HB4.out h2); clear h1 h2; obtain ⟨Ax, cx, rfl⟩ := Kd.R_slice HX5.out)
        | (go_at_call 15; (with_reducible refine (skymosaicref31_Script.calls k2 A2 c2 l2 8 ys w5 (Kd.C_below HR2.out HB5.out) hc2 HS2.out).mono ?_); rintro e w6 ⟨vo, rfl, h1, h2⟩; have HY6 := Aside0.mk h1; have HX6 := Aside0.mk (Kd.R_below HX5.out h2); have HT6 := Aside0.mk (HT5.out.below h2); have HB6 := Aside0.mk (below_step HB5.out h2); clear h1 h2; obtain ⟨Ay, cy, rfl⟩ := Kd.R_slice HY6.out)
        | fail)
      have hom := hl0
      clear HL3 HQ3 HC3 HAP3 HB3 HT4 HB4 HX5 HT5 HB5 HL HQ
      go_loopw [15] (fun v15 wr => ∃ i : Nat, v15 = .int .i64 i ∧ Aside0 (i ≤ xs.length ∨ i ≤ ys.length) ∧ Aside0 (∃ n n2, n ≤ ops.length + i ∧ n2 ≤ ops.length + i ∧ Two W.heap.size (W.heap.size + 1) W.heap.size w1.heap.size g2 b2 m2 n n2 (runL s (xs.take i)) (runL s (ys.take i)) (rfOf (runL s (xs.take i))) (rfOf (runL s (ys.take i))) wr) ∧ Aside0 (Below W.heap.size W wr) ∧ Aside0 (Kd.R k38 38 wr w4.heap.size (fun _ => True) (.slice Ax xs.length cx) xs) ∧ Aside0 (Kd.R k38 38 wr w5.heap.size (fun _ => True) (.slice Ay ys.length cy) ys)) (fun v _ => xs.length + ys.length - (intOf v).toNat)
      case atStart => exact ⟨0, rfl, ⟨.inl (Nat.zero_le _)⟩, ⟨_, _, Nat.le_refl _, Nat.le_refl _, HT6.out⟩, HB6, HX6, HY6⟩
      case round =>
        obtain ⟨j, rfl, HJ, HT, HB2, HX, HY⟩ := hrel
        obtain ⟨wb, rfl⟩ : ∃ wb : World, wb = wr := ⟨_, rfl⟩
        have hj := HJ.out
        obtain ⟨n, n2, hn, hn2, hT⟩ := HT.out
        obtain ⟨s1, hs1⟩ : ∃ s1, runL s (xs.take j) = s1 := ⟨_, rfl⟩
        obtain ⟨s2, hs2⟩ : ∃ s2, runL s (ys.take j) = s2 := ⟨_, rfl⟩
        have HG1 := Aside0.mk (show Good3 s1 from hs1 ▸ HG.out.run (xs.take j))
        have HG2 := Aside0.mk (show Good3 s2 from hs2 ▸ HG.out.run (ys.take j))
        rw [hs1, hs2] at hT
        have HT0 := Aside0.mk hT
        have HE1 := Aside0.mk hs1
        have HE2 := Aside0.mk hs2
        have hcx := (Kd.R_reads' HX.out).2.1
        have hcy := (Kd.R_reads' HY.out).2.1
        clear hs1 hs2 hT HT
        by_cases hlx : j < xs.length
        · by_cases hly : j < ys.length
          · skip
            have HOKx := Aside0.mk (HO1.out _ (mem_rd38 xs j hlx))
            have HTKx := Aside0.mk (take_rd38 xs j hlx)
            obtain ⟨⟨o0, o1, o2, o3, o4, o5, o6⟩, hox⟩ : ∃ o, rd_T38 xs (j : Int) = o := ⟨_, rfl⟩
            have HROx := Aside0.mk hox
            rw [hox] at HOKx HTKx
            have hzx : o1.size ≤ maxLen := by have := HOKx.out.size; simp only at this; unfold maxLen; omega
            have hsnx : runL s (xs.take (j + 1)) = (doF s1 ⟨o0, o1, o2, o3, o4, o5, o6⟩).2.2 := by rw [HTKx.out, runL_snoc, HE1.out]
            have HSNx := Aside0.mk hsnx
            clear hox hsnx
            have HOKy := Aside0.mk (HO2.out _ (mem_rd38 ys j hly))
            have HTKy := Aside0.mk (take_rd38 ys j hly)
            obtain ⟨⟨p0, p1, p2, p3, p4, p5, p6⟩, hoy⟩ : ∃ o, rd_T38 ys (j : Int) = o := ⟨_, rfl⟩
            have HROy := Aside0.mk hoy
            rw [hoy] at HOKy HTKy
            have hzy : p1.size ≤ maxLen := by have := HOKy.out.size; simp only at this; unfold maxLen; omega
            have hsny : runL s (ys.take (j + 1)) = (doF s2 ⟨p0, p1, p2, p3, p4, p5, p6⟩).2.2 := by rw [HTKy.out, runL_snoc, HE2.out]
            have HSNy := Aside0.mk hsny
            clear hoy hsny
            obtain ⟨adx9, e9, y0, y1, y2, y3, y4, y5, y6⟩ := at_T38 (Kd.R_reads' HX.out).2.2 (j : Int) (by omega) (by omega); obtain rfl := e9; rw [HROx.out] at y0 y1 y2 y3 y4 y5 y6; rw [Int.toNat_natCast] at y0 y1 y2 y3 y4 y5 y6; simp only at y0 y1 y2 y3 y4 y5 y6
            go_wp2_with (first
              | (go_at_call 16; (with_reducible refine (two_do HT0.out HB2.out.size ⟨o0, o1, o2, o3, o4, o5, o6⟩ hzx (by omega) HG1.out.toGood).mono ?_); rintro e wc ⟨⟨_, _, rfl⟩, h1, h2, h3⟩; have HTwc := Aside0.mk h1; have HBwc := Aside0.mk (HB2.out.trans h2); have HXwc := Aside0.mk (h3.row HX.out (by decide)); have HYwc := Aside0.mk (h3.row HY.out (by decide)); clear h1 h2 h3 y0 y1 y2 y3 y4 y5 y6; obtain ⟨adx9, e9, y0, y1, y2, y3, y4, y5, y6⟩ := at_T38 (Kd.R_reads' HXwc.out).2.2 (j : Int) (by omega) (by omega); obtain rfl := Option.some.inj e9; rw [HROx.out] at y0 y1 y2 y3 y4 y5 y6; rw [Int.toNat_natCast] at y0 y1 y2 y3 y4 y5 y6; simp only at y0 y1 y2 y3 y4 y5 y6)
              | (go_at_call 22; (with_reducible refine (two_rdo HTwc.out HBwc.out.size ⟨o0, o1, o2, o3, o4, o5, o6⟩ HOKx.out HG1.out.toGood2).mono ?_); rintro e wd ⟨⟨_, _, rfl⟩, h1, h2, h3⟩; have HTwd := Aside0.mk h1; have HBwd := Aside0.mk (HBwc.out.trans h2); have HXwd := Aside0.mk (h3.row HXwc.out (by decide)); have HYwd := Aside0.mk (h3.row HYwc.out (by decide)); clear h1 h2 h3 y0 y1 y2 y3 y4 y5 y6; obtain ⟨ady9, e9, y0, y1, y2, y3, y4, y5, y6⟩ := at_T38 (Kd.R_reads' HYwd.out).2.2 (j : Int) (by omega) (by omega); obtain rfl := e9; rw [HROy.out] at y0 y1 y2 y3 y4 y5 y6; rw [Int.toNat_natCast] at y0 y1 y2 y3 y4 y5 y6; simp only at y0 y1 y2 y3 y4 y5 y6)
              | (go_at_call 16; (with_reducible refine (two_do HTwd.out.swap HBwd.out.size ⟨p0, p1, p2, p3, p4, p5, p6⟩ hzy (by omega) HG2.out.toGood).mono ?_); rintro e we ⟨⟨_, _, rfl⟩, h1, h2, h3⟩; have HTwe := Aside0.mk h1.swap; have HBwe := Aside0.mk (HBwd.out.trans h2); have HXwe := Aside0.mk (h3.row HXwd.out (by decide)); have HYwe := Aside0.mk (h3.row HYwd.out (by decide)); clear h1 h2 h3 y0 y1 y2 y3 y4 y5 y6; obtain ⟨ady9, e9, y0, y1, y2, y3, y4, y5, y6⟩ := at_T38 (Kd.R_reads' HYwe.out).2.2 (j : Int) (by omega) (by omega); obtain rfl := Option.some.inj e9; rw [HROy.out] at y0 y1 y2 y3 y4 y5 y6; rw [Int.toNat_natCast] at y0 y1 y2 y3 y4 y5 y6; simp only at y0 y1 y2 y3 y4 y5 y6)
              | (go_at_call 22; (with_reducible refine (two_rdo HTwe.out.swap HBwe.out.size ⟨p0, p1, p2, p3, p4, p5, p6⟩ HOKy.out HG2.out.toGood2).mono ?_); rintro e wf ⟨⟨_, _, rfl⟩, h1, h2, h3⟩; have HTwf := Aside0.mk h1.swap; have HBwf := Aside0.mk (HBwe.out.trans h2); have HXwf := Aside0.mk (h3.row HXwe.out (by decide)); have HYwf := Aside0.mk (h3.row HYwe.out (by decide)); clear h1 h2 h3 y0 y1 y2 y3 y4 y5 y6)
              | fail)
            go_roundw
            case rel => exact ⟨j + 1, by simp, ⟨by omega⟩, ⟨n + 1, n2 + 1, by omega, by omega, by rw [HSNx.out, HSNy.out]; exact HTwf.out⟩, HBwf, HXwf, HYwf⟩
            case measure => simp [intOf]; omega
          · skip
            have HOKx := Aside0.mk (HO1.out _ (mem_rd38 xs j hlx))
            have HTKx := Aside0.mk (take_rd38 xs j hlx)
            obtain ⟨⟨o0, o1, o2, o3, o4, o5, o6⟩, hox⟩ : ∃ o, rd_T38 xs (j : Int) = o := ⟨_, rfl⟩
            have HROx := Aside0.mk hox
            rw [hox] at HOKx HTKx
            have hzx : o1.size ≤ maxLen := by have := HOKx.out.size; simp only at this; unfold maxLen; omega
            have hsnx : runL s (xs.take (j + 1)) = (doF s1 ⟨o0, o1, o2, o3, o4, o5, o6⟩).2.2 := by rw [HTKx.out, runL_snoc, HE1.out]
            have HSNx := Aside0.mk hsnx
            clear hox hsnx
            have HSNy := Aside0.mk (show runL s (ys.take (j + 1)) = s2 from by have h := HE2.out; rw [List.take_of_length_le (by omega)] at h; rw [List.take_of_length_le (by omega)]; exact h)
            obtain ⟨adx9, e9, y0, y1, y2, y3, y4, y5, y6⟩ := at_T38 (Kd.R_reads' HX.out).2.2 (j : Int) (by omega) (by omega); obtain rfl := e9; rw [HROx.out] at y0 y1 y2 y3 y4 y5 y6; rw [Int.toNat_natCast] at y0 y1 y2 y3 y4 y5 y6; simp only at y0 y1 y2 y3 y4 y5 y6
            go_wp2_with (first
              | (go_at_call 16; (with_reducible refine (two_do HT0.out HB2.out.size ⟨o0, o1, o2, o3, o4, o5, o6⟩ hzx (by omega) HG1.out.toGood).mono ?_); rintro e wc ⟨⟨_, _, rfl⟩, h1, h2, h3⟩; have HTwc := Aside0.mk h1; have HBwc := Aside0.mk (HB2.out.trans h2); have HXwc := Aside0.mk (h3.row HX.out (by decide)); have HYwc := Aside0.mk (h3.row HY.out (by decide)); clear h1 h2 h3 y0 y1 y2 y3 y4 y5 y6; obtain ⟨adx9, e9, y0, y1, y2, y3, y4, y5, y6⟩ := at_T38 (Kd.R_reads' HXwc.out).2.2 (j : Int) (by omega) (by omega); obtain rfl := Option.some.inj e9; rw [HROx.out] at y0 y1 y2 y3 y4 y5 y6; rw [Int.toNat_natCast] at y0 y1 y2 y3 y4 y5 y6; simp only at y0 y1 y2 y3 y4 y5 y6)
              | (go_at_call 22; (with_reducible refine (two_rdo HTwc.out HBwc.out.size ⟨o0, o1, o2, o3, o4, o5, o6⟩ HOKx.out HG1.out.toGood2).mono ?_); rintro e wd ⟨⟨_, _, rfl⟩, h1, h2, h3⟩; have HTwd := Aside0.mk h1; have HBwd := Aside0.mk (HBwc.out.trans h2); have HXwd := Aside0.mk (h3.row HXwc.out (by decide)); have HYwd := Aside0.mk (h3.row HYwc.out (by decide)); clear h1 h2 h3 y0 y1 y2 y3 y4 y5 y6)
              | fail)
            go_roundw
            case rel => exact ⟨j + 1, by simp, ⟨by omega⟩, ⟨n + 1, n2, by omega, by omega, by rw [HSNx.out, HSNy.out]; exact HTwd.out⟩, HBwd, HXwd, HYwd⟩
            case measure => simp [intOf]; omega
        · by_cases hly : j < ys.length
          · skip
            have HOKy := Aside0.mk (HO2.out _ (mem_rd38 ys j hly))
            have HTKy := Aside0.mk (take_rd38 ys j hly)
            obtain ⟨⟨p0, p1, p2, p3, p4, p5, p6⟩, hoy⟩ : ∃ o, rd_T38 ys (j : Int) = o := ⟨_, rfl⟩
            have HROy := Aside0.mk hoy
            rw [hoy] at HOKy HTKy
            have hzy : p1.size ≤ maxLen := by have := HOKy.out.size; simp only at this; unfold maxLen; omega
            have hsny : runL s (ys.take (j + 1)) = (doF s2 ⟨p0, p1, p2, p3, p4, p5, p6⟩).2.2 := by rw [HTKy.out, runL_snoc, HE2.out]
            have HSNy := Aside0.mk hsny
            clear hoy hsny
            have HSNx := Aside0.mk (show runL s (xs.take (j + 1)) = s1 from by have h := HE1.out; rw [List.take_of_length_le (by omega)] at h; rw [List.take_of_length_le (by omega)]; exact h)
            obtain ⟨ady9, e9, y0, y1, y2, y3, y4, y5, y6⟩ := at_T38 (Kd.R_reads' HY.out).2.2 (j : Int) (by omega) (by omega); obtain rfl := e9; rw [HROy.out] at y0 y1 y2 y3 y4 y5 y6; rw [Int.toNat_natCast] at y0 y1 y2 y3 y4 y5 y6; simp only at y0 y1 y2 y3 y4 y5 y6
            go_wp2_with (first
              | (go_at_call 16; (with_reducible refine (two_do HT0.out.swap HB2.out.size ⟨p0, p1, p2, p3, p4, p5, p6⟩ hzy (by omega) HG2.out.toGood).mono ?_); rintro e we ⟨⟨_, _, rfl⟩, h1, h2, h3⟩; have HTwe := Aside0.mk h1.swap; have HBwe := Aside0.mk (HB2.out.trans h2); have HXwe := Aside0.mk (h3.row HX.out (by decide)); have HYwe := Aside0.mk (h3.row HY.out (by decide)); clear h1 h2 h3 y0 y1 y2 y3 y4 y5 y6; obtain ⟨ady9, e9, y0, y1, y2, y3, y4, y5, y6⟩ := at_T38 (Kd.R_reads' HYwe.out).2.2 (j : Int) (by omega) (by omega); obtain rfl := Option.some.inj e9; rw [HROy.out] at y0 y1 y2 y3 y4 y5 y6; rw [Int.toNat_natCast] at y0 y1 y2 y3 y4 y5 y6; simp only at y0 y1 y2 y3 y4 y5 y6)
              | (go_at_call 22; (with_reducible refine (two_rdo HTwe.out.swap HBwe.out.size ⟨p0, p1, p2, p3, p4, p5, p6⟩ HOKy.out HG2.out.toGood2).mono ?_); rintro e wf ⟨⟨_, _, rfl⟩, h1, h2, h3⟩; have HTwf := Aside0.mk h1.swap; have HBwf := Aside0.mk (HBwe.out.trans h2); have HXwf := Aside0.mk (h3.row HXwe.out (by decide)); have HYwf := Aside0.mk (h3.row HYwe.out (by decide)); clear h1 h2 h3 y0 y1 y2 y3 y4 y5 y6)
              | fail)
            go_roundw
            case rel => exact ⟨j + 1, by simp, ⟨by omega⟩, ⟨n, n2 + 1, by omega, by omega, by rw [HSNx.out, HSNy.out]; exact HTwf.out⟩, HBwf, HXwf, HYwf⟩
            case measure => simp [intOf]; omega
          · skip
            go_wp2_with (first
              | (go_at_call 23; (with_reducible refine (agrees_calls W.heap.size (W.heap.size + 1) W.heap.size n W.heap.size w1.heap.size s1 wb HT0.out.l1 HT0.out.r1 HB2.out.size HG1.out).mono ?_); rintro e wc ⟨rfl, h1⟩; have HTwc := Aside0.mk (HT0.out.below h1); have HBwc := Aside0.mk (below_step HB2.out h1); clear h1)
              | (go_at_call 23; (with_reducible refine (agrees_calls W.heap.size g2 b2 n2 W.heap.size m2 s2 wc HTwc.out.l2 HTwc.out.r2 HBwc.out.size HG2.out).mono ?_); rintro e wd ⟨rfl, h1⟩; have HBwd := Aside0.mk (below_step HBwc.out h1); clear h1)
              | (go_at_call 14; (with_reducible refine (lives_calls wd).mono ?_); rintro e we ⟨rfl, h1⟩; have HBwe := Aside0.mk (below_step HBwd.out h1); clear h1)
              | fail)
            go_returns
            exact ⟨rfl, HBwe.out⟩
end Go.Proofs.Ytcbkcgnigncahaa.P
namespace Go.Proofs.Ytcbkcgnigncahaa.P
open Go.RowKit Go.Proofs.YtcbkcgnigncahaaW.PrintWords
theorem branchCopies_law (l0 : List Int) (h0 : l0.length ≤ 17592186043904) (w0 : ∀ x ∈ l0, (Lit.int .i64 x).wf = true) (A0 : Option Addr) (c0 : Nat) (l1 : List Int) (h1 : l1.length ≤ 17592186043904) (w1 : ∀ x ∈ l1, (Lit.int .i64 x).wf = true) (A1 : Option Addr) (c1 : Nat) (l2 : List Int) (h2 : l2.length ≤ 17592186043904) (w2 : ∀ x ∈ l2, (Lit.int .i64 x).wf = true) (A2 : Option Addr) (c2 : Nat)
    (W : World) (hr0 : Kd.C (Kd.int .i64) W A0 l0.length l0) (hc0 : l0.length ≤ c0) (hr1 : Kd.C (Kd.int .i64) W A1 l1.length l1) (hc1 : l1.length ≤ c1) (hr2 : Kd.C (Kd.int .i64) W A2 l2.length l2) (hc2 : l2.length ≤ c2) :
    Calls Try.prog 7 #[.slice A0 l0.length c0, .slice A1 l1.length c1, .slice A2 l2.length c2] W fun e W' => e = .returned (.bool true) ∧ Below W.heap.size W W' := by
  obtain ⟨k0, ops, s0, o0, n0⟩ := script_some l0 14 (by omega) (by omega) w0 (by omega)
  obtain ⟨k1, xs, s1, o1, n1⟩ := script_some l1 8 (by omega) (by omega) w1 (by omega)
  obtain ⟨k2, ys, s2, o2, n2⟩ := script_some l2 8 (by omega) (by omega) w2 (by omega)
  exact law7 l0 l1 l2 A0 A1 A2 c0 c1 c2 ops xs ys k0 k1 k2 W hr0 hc0 hr1 hc1 hr2 hc2 s0 o0 (by omega) s1 o1 (by omega) s2 o2 (by omega)
end Go.Proofs.Ytcbkcgnigncahaa.P
