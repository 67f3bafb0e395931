import Derived.Test.YtcbkcgnigncahaaEGivenYe
namespace Go.Proofs.Ytcbkcgnigncahaa.P
open Go.RowKit Go.Maps Go.Sort Go.Proofs.YtcbkcgnigncahaaW.PrintWords Go.Proofs.YtcbkcgnigncahaaW.PrintLast Go.Proofs.YtcbkcgnigncahaaW.PrintMore
open Wr (Rd nextF uintF uintL rintF listF rboolF endF badB accN U8s)
attribute [local go_sem] max2_int min2_int max_two min_two max_three min_three max_four min_four
set_option linter.unusedVariables false
set_option linter.unusedSimpArgs false
section
variable {w : World} {b1 hi g1 lg lb bb nb : Nat} {D D' : DataW Unit} {s t : Rd} {W W' : World}
theorem d_int' {p : Int} (h : DF w b1 hi g1 lg lb bb nb D s W) (e : rintF s = (p, t)) : Calls Try.prog 72 #[.pointer (some ⟨g1, 0, none⟩)] W fun e w' => e = .returned (.int .i64 p) ∧ DF w b1 hi g1 lg lb bb nb D t w' ∧ W.grownBy w' (some g1) := by
  have := d_int h
  rwa [e] at this
theorem d_uint' {p : Int} (h : DF w b1 hi g1 lg lb bb nb D s W) (e : uintF s = (p, t)) : Calls Try.prog 74 #[.pointer (some ⟨g1, 0, none⟩)] W fun e w' => e = .returned (.int .u64 p) ∧ DF w b1 hi g1 lg lb bb nb D t w' ∧ W.grownBy w' (some g1) := by
  have := d_uint h
  rwa [e] at this
theorem d_bool' {p : Bool} (h : DF w b1 hi g1 lg lb bb nb D s W) (e : rboolF s = (p, t)) : Calls Try.prog 75 #[.pointer (some ⟨g1, 0, none⟩)] W fun e w' => e = .returned (.bool p) ∧ DF w b1 hi g1 lg lb bb nb D t w' ∧ W.grownBy w' (some g1) := by
  have := d_bool h
  rwa [e] at this
theorem d_text' {p : List Int} (h : DF w b1 hi g1 lg lb bb nb D s W) (hl : s.b.length ≤ 1000000) (e : listF s = (p, t)) : Calls Try.prog 73 #[.pointer (some ⟨g1, 0, none⟩)] W fun e w' => e = .returned (.string (strOfNums p)) ∧ DF w b1 hi g1 lg lb bb nb D t w' ∧ W.grownBy w' (some g1) := by
  have := d_text h hl
  rwa [e] at this
theorem d_end' {E : Int} (h : DF w b1 hi g1 lg lb bb nb D s W) (e : endF s = E) : Calls Try.prog 76 #[.pointer (some ⟨g1, 0, none⟩)] W fun e w' => e = .returned (.int .i64 E) ∧ W = w' := by
  have := d_end h
  rwa [e] at this
end
theorem equal_c (X Y : List Int) (hX : U8s X) (hY : U8s Y) (A1 A2 : Option Addr) (c1 c2 : Nat) (w : World) (h1 : Kd.C (Kd.int .u8) w A1 X.length X) (hc1 : X.length ≤ c1) (h2 : Kd.C (Kd.int .u8) w A2 Y.length Y) (hc2 : Y.length ≤ c2) :
    Calls Try.prog 78 #[.slice A1 X.length c1, .slice A2 Y.length c2] w fun e w' => e = .returned (.bool (decide (X = Y))) ∧ Below w.heap.size w w' := by
  have hr : ((strOfNums X).toList == (strOfNums Y).toList) = decide (X = Y) := by
    by_cases e : X = Y
    · subst e; simp
    · rw [decide_eq_false e, beq_eq_false_iff_ne]
      intro h
      exact e (Wr.u8_inj hX hY (toList_inj h))
  refine (bytes_Equal.calls A1 c1 X A2 c2 Y (decide (X = Y)) w h1 hc1 h2 hc2 (by unfold bytes_Equal.f; rw [hr])).mono ?_
  rintro e w' ⟨rfl, ⟨nd, rfl⟩⟩
  exact ⟨rfl, pw_below_drewN (Below.refl _ _) nd⟩
/-- What Decode answers. -/
def DecPost (bs : List Int) (w : World) (e : Ending) (w' : World) : Prop :=
  Below w.heap.size w w' ∧
  ((e = .returned (.tuple #[.pointer none, .int .i64 2]) ∧ ∀ s0, Comes (decRd bs).1 (decRd bs).2.1 s0 → endF (decRd bs).2.2 = 0 → lineB (rfOf s0) ≠ bs) ∨
   (∃ g b s, e = .returned (.tuple #[.pointer (some ⟨g, 0, none⟩), .int .i64 0]) ∧ LS w.heap.size g b 64 s w' ∧ Good4 s ∧ lineB (rfOf s) = bs ∧ ∀ s0, Comes (decRd bs).1 (decRd bs).2.1 s0 → rfOf s = rfOf s0))
set_option maxHeartbeats 16000000 in
set_option maxRecDepth 100000 in
theorem decode_calls (A : Option Addr) (c : Nat) (bs : List Int) (w : World) (hC : Kd.C (Kd.int .u8) w A bs.length bs) (hc : bs.length ≤ c) (hl : bs.length ≤ 1000000) (hu : U8s bs) :
    Calls Try.prog 37 #[.slice A bs.length c] w (DecPost bs w) := by
  have HC := Aside0.mk hC
  have HU := Aside0.mk hu
  have hmm := @run_makeMap Try.prog
  have hu43 := Try.underlying43
  have HL9 : Aside0 (bs.length ≤ 1000000000) := ⟨by omega⟩
  clear hC hu
  go_enter Try.func37, Try.ntmps37
  go_upto_region 4 with (first
    | (go_at_call 33; (with_reducible refine (Wr.read_calls A c bs _ HC.out hc HL9.out).mono ?_); rintro e w1 ⟨g1, rfl, h1, h2, h3⟩; have HR1 := Aside0.mk h1; have HG1 := Aside0.mk h2; have HB1 := Aside0.mk h3; clear h1 h2 h3)
    | (go_at_call 9; (with_reducible refine (new_calls w1).mono ?_); rintro e w2 ⟨rfl, h1, h2⟩; have HN2 := Aside0.mk h1; have HB2 := Aside0.mk h2; clear h1 h2)
    | fail)
  have hdf : DF w w1.heap.size (w2.heap.size + 1) g1 (w1.heap.size + 1) w1.heap.size w2.heap.size 0 (.map []) ⟨bs, 0⟩ (w2.alloc (.map #[] 0)) := by
    have hb2 := HB2.out
    have ha := below_alloc (Below.refl w2.heap.size w2) (.map #[] 0)
    have hl2 := HN2.out.lt
    have hl3 := HN2.out.ltb
    refine ⟨(((HR1.out.narrow).mono (fun k hk => hk.2)).below hb2).below ha, HR1.out.lt, HG1.out, HN2.out.below ha, World.ownsMap_made w2 Try.prog 9 intR, Beside.new HN2.out ha (by simp), hb2.size, ⟨by omega, by omega, by omega⟩, fun k hk => ?_, below_step (below_step HB1.out hb2) ha⟩
    rw [vown_same (ha.block _ hl2)] at hk
    have := vown_lt HN2.out hk
    omega
  have hb2z := HB2.out.size
  obtain ⟨w3, hw3⟩ : ∃ w3, w2.alloc (.map #[] 0) = w3 := ⟨_, rfl⟩
  rw [hw3] at hdf
  first | rw [hw3] | skip
  have HDF := Aside0.mk hdf
  have HG12 := Aside0.mk HG1.out
  clear hdf hb2z HR1 HG1 HB1 HN2 HB2 hw3
  obtain ⟨⟨r0, s1⟩, hq0⟩ : ∃ q, rintF ⟨bs, 0⟩ = q := ⟨_, rfl⟩
  have E0 := Aside0.mk hq0
  have hs1 : s1.b.length ≤ bs.length := by have := rint_b ⟨bs, 0⟩; rw [hq0] at this; exact this
  obtain ⟨n0, hn0⟩ : ∃ n, (if (bs.length : Int) < r0 then (bs.length : Int) else r0) = n := ⟨_, rfl⟩
  have HN0 := Aside0.mk hn0
  have hn0l : n0 ≤ bs.length := by rw [← hn0]; split <;> omega
  clear hq0 hn0
  go_cut [7] (fun s7 wx => s7 = .int .i64 n0 ∧ Aside0 (DF w w1.heap.size (w2.heap.size + 1) g1 (w1.heap.size + 1) w1.heap.size w2.heap.size 0 (.map []) s1 wx))
  case first =>
    by_cases h : (bs.length : Int) < r0
    · have hq : n0 = (bs.length : Int) := by rw [← HN0.out, if_pos h]
      have HQ := Aside0.mk hq
      clear hq
      go_wp2_with (first
        | (go_at_call 72; (with_reducible refine (d_int' HDF.out E0.out).mono ?_); rintro e w4 ⟨rfl, h1, h2⟩; have HD1 := Aside0.mk h1; clear h1 h2)
        | fail)
      go_meet
      exact ⟨by rw [HQ.out], HD1⟩
    · have hq : n0 = r0 := by rw [← HN0.out, if_neg h]
      have HQ := Aside0.mk hq
      clear hq
      go_wp2_with (first
        | (go_at_call 72; (with_reducible refine (d_int' HDF.out E0.out).mono ?_); rintro e w4 ⟨rfl, h1, h2⟩; have HD1 := Aside0.mk h1; clear h1 h2)
        | fail)
      go_meet
      exact ⟨by rw [HQ.out], HD1⟩
  case rest =>
    obtain ⟨rfl, HD1⟩ := hcut
    obtain ⟨w4, rfl⟩ : ∃ w4 : World, w4 = wc := ⟨_, rfl⟩
    obtain ⟨⟨D0, t0⟩, hB⟩ : ∃ q, basesL n0.toNat (.map []) s1 = q := ⟨_, rfl⟩
    have HBA := Aside0.mk hB
    clear hB
    go_wp2_with fail
    go_loopw [7] (fun v7 wr => ∃ (n : Int) (D : DataW Unit) (s : Rd) (nb : Nat), v7 = .int .i64 n ∧ Aside0 (n ≤ bs.length ∧ nb + n.toNat ≤ bs.length ∧ s.b.length ≤ bs.length ∧ basesL n.toNat D s = (D0, t0)) ∧ Aside0 (DF w w1.heap.size (w2.heap.size + 1) g1 (w1.heap.size + 1) w1.heap.size w2.heap.size nb D s wr)) (fun v _ => (intOf v).toNat)
    case atStart => exact ⟨n0, _, s1, 0, rfl, ⟨hn0l, by omega, hs1, HBA.out⟩, HD1⟩
    case round =>
      obtain ⟨n, D, s, nb, rfl, HI, HD⟩ := hrel
      obtain ⟨y, rfl⟩ : ∃ y : World, y = wr := ⟨_, rfl⟩
      obtain ⟨i1, i2, i3, i4⟩ := HI.out
      by_cases hlt : 0 < n
      · obtain ⟨⟨nl, t1⟩, e1⟩ : ∃ q, listF s = q := ⟨_, rfl⟩
        obtain ⟨⟨z, t2⟩, e2⟩ : ∃ q, rintF t1 = q := ⟨_, rfl⟩
        have hlb := list_b s
        rw [e1] at hlb
        have hrb := rint_b t1
        rw [e2] at hrb
        have E1 := Aside0.mk e1
        have E2 := Aside0.mk e2
        have HSb : Aside0 (s.b.length ≤ 1000000) := ⟨by omega⟩
        have HNL : Aside0 ((strOfNums nl).size ≤ maxLen) := ⟨by rw [strOfNums_size]; unfold maxLen; simp only at hlb; omega⟩
        have HNB : Aside0 (nb < maxLen) := ⟨by unfold maxLen; omega⟩
        have HT2 : Aside0 (t2.b.length ≤ bs.length) := ⟨by simp only at hlb hrb; omega⟩
        have i4' : basesL (n - 1).toNat (D.put (keyB (strOfNums nl)) (intD z)) t2 = (D0, t0) := by
          have hn : n.toNat = (n - 1).toNat + 1 := by omega
          rw [hn] at i4
          simp only [basesL] at i4
          rw [e1] at i4
          simp only at i4
          rw [e2] at i4
          exact i4
        have I4 := Aside0.mk i4'
        clear e1 e2 hlb hrb i4 i4'
        go_wp2_with (first
          | (go_at_call 73; (with_reducible refine (d_text' HD.out HSb.out E1.out).mono ?_); rintro e w5 ⟨rfl, h1, h2⟩; have HD5 := Aside0.mk h1; clear h1 h2)
          | (go_at_call 72; (with_reducible refine (d_int' HD5.out E2.out).mono ?_); rintro e w6 ⟨rfl, h1, h2⟩; have HD6 := Aside0.mk h1; clear h1 h2)
          | (at_mapUpdate; refine update_base _ rfl _ _ _ rfl w2.heap.size nb D (strOfNums nl) z rfl rfl rfl HD6.out.dm HNL.out HNB.out ?_; intro w7 ho hg; have HD7 := Aside0.mk (HD6.out.put ho hg); clear ho hg)
          | fail)
        go_roundw
        case rel => exact ⟨n - 1, _, t2, nb + 1, rfl, ⟨by omega, by omega, HT2.out, I4.out⟩, HD7⟩
        case measure => simp [intOf]; omega
      · have h0 : n.toNat = 0 := by omega
        rw [h0] at i4
        simp only [basesL, Prod.mk.injEq] at i4
        obtain ⟨eD, eS⟩ := i4
        rw [eD, eS] at HD
        rw [eS] at i3
        clear eD eS i2 HI
        have HDl := Aside0.mk HD.out.lift
        obtain ⟨hi, hhi⟩ : ∃ hi, y.heap.size = hi := ⟨_, rfl⟩
        rw [hhi] at HDl
        have HHI := Aside0.mk hhi
        obtain ⟨⟨r1, s2⟩, hq1⟩ : ∃ q, rintF t0 = q := ⟨_, rfl⟩
        have E3 := Aside0.mk hq1
        have hs2 : s2.b.length ≤ bs.length := by have := rint_b t0; rw [hq1] at this; simp only at this; omega
        obtain ⟨n1, hn1⟩ : ∃ n, (if (bs.length : Int) < r1 then (bs.length : Int) else r1) = n := ⟨_, rfl⟩
        have HN1 := Aside0.mk hn1
        have hn1l : n1 ≤ bs.length := by rw [← hn1]; split <;> omega
        clear hq1 hn1 hhi HD
        go_upto_region 9 with fail
        go_cut [9] (fun s9 wx => s9 = .int .i64 n1 ∧ Aside0 (DF w w1.heap.size hi g1 (w1.heap.size + 1) w1.heap.size w2.heap.size nb D0 s2 wx) ∧ Aside0 (hi ≤ wx.heap.size))
        case first =>
          by_cases h : (bs.length : Int) < r1
          · have hq : n1 = (bs.length : Int) := by rw [← HN1.out, if_pos h]
            have HQ := Aside0.mk hq
            clear hq
            go_wp2_with (first
              | (go_at_call 72; (with_reducible refine (d_int' HDl.out E3.out).mono ?_); rintro e w5 ⟨rfl, h1, h2⟩; have HD1 := Aside0.mk h1; have HZ1 := Aside0.mk (show hi ≤ w5.heap.size by rw [← HHI.out]; exact h2.size); clear h1 h2)
              | fail)
            go_meet
            exact ⟨by rw [HQ.out], HD1, HZ1⟩
          · have hq : n1 = r1 := by rw [← HN1.out, if_neg h]
            have HQ := Aside0.mk hq
            clear hq
            go_wp2_with (first
              | (go_at_call 72; (with_reducible refine (d_int' HDl.out E3.out).mono ?_); rintro e w5 ⟨rfl, h1, h2⟩; have HD1 := Aside0.mk h1; have HZ1 := Aside0.mk (show hi ≤ w5.heap.size by rw [← HHI.out]; exact h2.size); clear h1 h2)
              | fail)
            go_meet
            exact ⟨by rw [HQ.out], HD1, HZ1⟩
        case rest =>
          obtain ⟨rfl, HD1, HZ1⟩ := hcut
          obtain ⟨w5, rfl⟩ : ∃ w5 : World, w5 = wc := ⟨_, rfl⟩
          obtain ⟨⟨vs, tt⟩, hV⟩ : ∃ q, verL n1.toNat [] s2 = q := ⟨_, rfl⟩
          have HVA := Aside0.mk hV
          have HDR : Aside0 (decRd bs = (D0, vs, tt)) := ⟨by
            have h1 : capN (rintF ⟨bs, 0⟩).1 bs.length = n0.toNat := by rw [E0.out]; unfold capN; rw [HN0.out]
            have h2 : capN (rintF t0).1 bs.length = n1.toNat := by rw [E3.out]; unfold capN; rw [HN1.out]
            unfold decRd
            simp only
            rw [h1, E0.out]
            simp only
            rw [HBA.out]
            simp only
            rw [h2, E3.out]
            simp only
            rw [HVA.out]⟩
          have HG1L : Aside0 (g1 < hi) := ⟨by have h1 := HD1.out.rl; have h2 := HD1.out.ls.1; have h3 := HD1.out.hl.1; omega⟩
          clear hV
          go_wp2_with fail
          go_loopw [8, 9] (fun v8 v9 wr => ∃ (n : Int) (acc : List S43) (s : Rd) (A8 : Option Addr) (m8 c8 : Nat), v8 = .slice A8 m8 c8 ∧ v9 = .int .i64 n ∧ Aside0 (n ≤ bs.length ∧ acc.length + n.toNat ≤ bs.length ∧ s.b.length ≤ bs.length ∧ verL n.toNat acc s = (vs, tt) ∧ m8 = acc.length ∧ ∀ q ∈ acc, VOk q) ∧
            Aside0 (DF w w1.heap.size hi g1 (w1.heap.size + 1) w1.heap.size w2.heap.size nb D0 s wr) ∧ Aside0 (hi ≤ wr.heap.size) ∧ Aside0 (Kd.R k43 43 wr hi (fun _ => True) (.slice A8 m8 c8) acc)) (fun _ v _ => (intOf v).toNat)
          case atStart => exact ⟨n1, [], s2, none, 0, 0, rfl, rfl, ⟨hn1l, by simp only [List.length_nil]; omega, hs2, HVA.out, rfl, fun q hq => by cases hq⟩, HD1, HZ1, ⟨Kd.R_nil _ _ _ _ _⟩⟩
          case round =>
            obtain ⟨n, acc, s, A8, m8, c8, rfl, rfl, HI, HD, HZ, HV⟩ := hrel
            obtain ⟨y1, rfl⟩ : ∃ y1 : World, y1 = wr := ⟨_, rfl⟩
            obtain ⟨j1, j2, j3, j4, rfl, j6⟩ := HI.out
            by_cases hlt2 : 0 < n
            · obtain ⟨⟨p, t1⟩, e1⟩ : ∃ q, rintF s = q := ⟨_, rfl⟩
              obtain ⟨⟨nl, t2⟩, e2⟩ : ∃ q, listF t1 = q := ⟨_, rfl⟩
              obtain ⟨⟨k1, t3⟩, e3⟩ : ∃ q, rintF t2 = q := ⟨_, rfl⟩
              obtain ⟨⟨k2, t4⟩, e4⟩ : ∃ q, rintF t3 = q := ⟨_, rfl⟩
              obtain ⟨⟨k3, t5⟩, e5⟩ : ∃ q, rintF t4 = q := ⟨_, rfl⟩
              obtain ⟨⟨u, t6⟩, e6⟩ : ∃ q, uintF t5 = q := ⟨_, rfl⟩
              obtain ⟨⟨cl, t7⟩, e7⟩ : ∃ q, rboolF t6 = q := ⟨_, rfl⟩
              have hver : verF s = (⟨0, p, strOfNums nl, k1, k2, k3, u, cl⟩, t7) := by
                unfold verF
                rw [e1]; simp only
                rw [e2]; simp only
                rw [e3]; simp only
                rw [e4]; simp only
                rw [e5]; simp only
                rw [e6]; simp only
                rw [e7]
              have hvb := ver_b s
              have hvo := ver_ok s (by omega)
              have hrb := rint_b s
              rw [hver] at hvb hvo
              rw [e1] at hrb
              have HVO := Aside0.mk hvo
              have HT7 : Aside0 (t7.b.length ≤ bs.length) := ⟨by simp only at hvb; omega⟩
              have HT1 : Aside0 (t1.b.length ≤ 1000000) := ⟨by simp only at hrb; omega⟩
              have J4 : Aside0 (verL (n - 1).toNat (acc ++ [⟨0, p, strOfNums nl, k1, k2, k3, u, cl⟩]) t7 = (vs, tt)) := ⟨by
                have hn : n.toNat = (n - 1).toNat + 1 := by omega
                rw [hn] at j4
                simp only [verL] at j4
                rw [hver] at j4
                exact j4⟩
              have X1 := Aside0.mk e1
              have X2 := Aside0.mk e2
              have X3 := Aside0.mk e3
              have X4 := Aside0.mk e4
              have X5 := Aside0.mk e5
              have X6 := Aside0.mk e6
              have X7 := Aside0.mk e7
              have HJ6 := Aside0.mk j6
              have HAL : Aside0 (acc.length ≤ 1000000) := ⟨by omega⟩
              clear e1 e2 e3 e4 e5 e6 e7 hver hvb hvo hrb j4 j6
              go_wp2_with (first
                | (go_at_call 72; (with_reducible refine (d_int' HD.out X1.out).mono ?_); rintro e x1 ⟨rfl, h1, h2⟩; have Y1 := Aside0.mk h1; have V1 := Aside0.mk (row43_other HV.out h2 HG1L.out); have Z1 := Aside0.mk (Nat.le_trans HZ.out h2.size); clear h1 h2)
                | (go_at_call 73; (with_reducible refine (d_text' Y1.out HT1.out X2.out).mono ?_); rintro e x2 ⟨rfl, h1, h2⟩; have Y2 := Aside0.mk h1; have V2 := Aside0.mk (row43_other V1.out h2 HG1L.out); have Z2 := Aside0.mk (Nat.le_trans Z1.out h2.size); clear h1 h2)
                | (go_at_call 72; (with_reducible refine (d_int' Y2.out X3.out).mono ?_); rintro e x3 ⟨rfl, h1, h2⟩; have Y3 := Aside0.mk h1; have V3 := Aside0.mk (row43_other V2.out h2 HG1L.out); have Z3 := Aside0.mk (Nat.le_trans Z2.out h2.size); clear h1 h2)
                | (go_at_call 72; (with_reducible refine (d_int' Y3.out X4.out).mono ?_); rintro e x4 ⟨rfl, h1, h2⟩; have Y4 := Aside0.mk h1; have V4 := Aside0.mk (row43_other V3.out h2 HG1L.out); have Z4 := Aside0.mk (Nat.le_trans Z3.out h2.size); clear h1 h2)
                | (go_at_call 72; (with_reducible refine (d_int' Y4.out X5.out).mono ?_); rintro e x5 ⟨rfl, h1, h2⟩; have Y5 := Aside0.mk h1; have V5 := Aside0.mk (row43_other V4.out h2 HG1L.out); have Z5 := Aside0.mk (Nat.le_trans Z4.out h2.size); clear h1 h2)
                | (go_at_call 74; (with_reducible refine (d_uint' Y5.out X6.out).mono ?_); rintro e x6 ⟨rfl, h1, h2⟩; have Y6 := Aside0.mk h1; have V6 := Aside0.mk (row43_other V5.out h2 HG1L.out); have Z6 := Aside0.mk (Nat.le_trans Z5.out h2.size); clear h1 h2)
                | (go_at_call 75; (with_reducible refine (d_bool' Y6.out X7.out).mono ?_); rintro e x7 ⟨rfl, h1, h2⟩; have Y7 := Aside0.mk (h1.alloc (.cells #[.int .i64 0, .int .i64 p, .string (strOfNums nl), .int .i64 k1, .int .i64 k2, .int .i64 k3, .int .u64 u, .bool cl] 43)); have V7 := Aside0.mk (Kd.R_alloc (row43_other V6.out h2 HG1L.out) (.cells #[.int .i64 0, .int .i64 p, .string (strOfNums nl), .int .i64 k1, .int .i64 k2, .int .i64 k3, .int .u64 u, .bool cl] 43)); have Z7 := Aside0.mk (show hi ≤ (x7.alloc (.cells #[.int .i64 0, .int .i64 p, .string (strOfNums nl), .int .i64 k1, .int .i64 k2, .int .i64 k3, .int .u64 u, .bool cl] 43)).heap.size from Nat.le_trans (Nat.le_trans Z6.out h2.size) (by simp)); clear h1 h2)
                | (at_builtin; refine app43 (W := x7.alloc (.cells #[.int .i64 0, .int .i64 p, .string (strOfNums nl), .int .i64 k1, .int .i64 k2, .int .i64 k3, .int .u64 u, .bool cl] 43)) hi rfl (.tmp 53) (.tmp 55) rfl (.slice A8 acc.length c8) acc ⟨0, p, strOfNums nl, k1, k2, k3, u, cl⟩ rfl (x7.heap.size + 1) rfl (World.size_alloc _ _).symm V7.out Z7.out HAL.out ?_; intro v8 x8 h1 h2; have V8 := Aside0.mk h1; have Y8 := Aside0.mk (Y7.out.other h2 (fun r hr => by obtain ⟨inner, ho⟩ := Kd.R_own V7.out; exact own_base ho r hr)); have Z8 := Aside0.mk (Nat.le_trans Z7.out h2.size); clear h1 h2; obtain ⟨A9, c9, rfl⟩ := Kd.R_slice V8.out)
                | fail)
              go_roundw
              case rel => exact ⟨n - 1, _, t7, A9, _, c9, rfl, rfl, ⟨by omega, by simp only [List.length_append, List.length_singleton]; omega, HT7.out, J4.out, by simp, fun q hq => by
                rcases List.mem_append.1 hq with hq | hq
                · exact HJ6.out q hq
                · rw [List.mem_singleton.1 hq]; exact HVO.out⟩, Y8, Z8, ⟨by simpa using V8.out⟩⟩
              case measure => simp [intOf]; omega
            · have h0 : n.toNat = 0 := by omega
              rw [h0] at j4
              simp only [verL, Prod.mk.injEq] at j4
              obtain ⟨eD, eS⟩ := j4
              subst eD
              subst eS
              obtain ⟨E, hE⟩ : ∃ E, endF s = E := ⟨_, rfl⟩
              have HEN := Aside0.mk hE
              have HVS : Aside0 (Kd.R k43 43 y1 hi (fun _ => True) (.slice A8 acc.length c8) acc) := ⟨HV.out⟩
              have HJ6 := Aside0.mk j6
              have HVL : Aside0 (acc.length ≤ 1000000) := ⟨by omega⟩
              have hfail : (∀ s0, Comes D0 acc s0 → E = 0 → lineB (rfOf s0) ≠ bs) → ∀ (w' : World), Below w.heap.size w w' → DecPost bs w (.returned (.tuple #[.pointer none, .int .i64 2])) w' := fun h w' hb => ⟨hb, .inl ⟨rfl, by rw [HDR.out]; simp only; rw [HEN.out]; exact h⟩⟩
              have HFA := Aside0.mk hfail
              clear hE j2 j6 hfail HV HI
              by_cases hE0 : E = 0
              · subst hE0
                by_cases hsz : 64 < Maps.size D0
                · have HSZ := Aside0.mk hsz
                  have hsz2 : (64 : Int) < (Maps.size D0 : Int) := by omega
                  have hlen := HD.out.dm.len Try.underlying116 3
                  clear hsz
                  go_wp2_with (first
                    | (go_at_call 76; (with_reducible refine (d_end' HD.out HEN.out).mono ?_); rintro e x1 ⟨rfl, rfl⟩)
                    | fail)
                  go_ret2
                  refine HFA.out (fun s0 cm _ => ?_) _ HD.out.bl
                  have h1 := cm.few
                  have h2 := HSZ.out
                  omega
                · have hsz2 : (Maps.size D0 : Int) ≤ 64 := by omega
                  have hpf : PF w1.heap.size (w1.heap.size + 1) w1.heap.size w2.heap.size nb hi D0 A8 c8 acc y1 Ln0 y1 := by
                    have hd := HD.out
                    refine ⟨LS.tight hd.ls good0, Below.refl _ _, hd.dm, hd.bs, Nat.le_trans hd.ls.2.1 (Nat.le_of_lt hd.ls.ltb), ?_⟩
                    refine Kd.R_mono (Kd.R_bound HVS.out) (fun k hk => ⟨?_, ?_, fun e => ?_, hk.2.2.1⟩)
                    · have h1 := hd.hl.1; have h2 := hk.2.1; omega
                    · have h1 := hd.hl.2.1; have h2 := hk.2.1; omega
                    · have h1 := hd.hv k e.symm; have h2 := hk.2.1; omega
                  have HPF := Aside0.mk hpf
                  have hrg : ∀ i : Int, 0 ≤ i → i < acc.length → ((rd_T43 acc i).f5 ≤ 9223372036854775807 ∧ 0 ≤ (rd_T43 acc i).f6 ∧ (rd_T43 acc i).f6 < 18446744073709551616) ∧ (rd_T43 acc i).f2.size ≤ maxLen := fun i h0 h1 => by
                    have hm : rd_T43 acc i ∈ acc := by
                      unfold rd_T43
                      rw [List.getD_eq_getElem?_getD, List.getElem?_eq_getElem (show i.toNat < acc.length by omega)]
                      exact List.getElem_mem _
                    have hv := HJ6.out _ hm
                    exact ⟨⟨hv.rd, hv.root⟩, Nat.le_trans hv.name (by unfold maxLen; omega)⟩
                  have HRG := Aside0.mk hrg
                  have hlen := HD.out.dm.len Try.underlying116 3
                  clear hsz hpf hrg
                  go_wp2_with (first
                    | (go_at_call 76; (with_reducible refine (d_end' HD.out HEN.out).mono ?_); rintro e x1 ⟨rfl, rfl⟩)
                    | fail)
                  with_reducible refine (play_calls w1.heap.size (w1.heap.size + 1) w1.heap.size w2.heap.size nb hi D0 A8 c8 acc y1 HPF.out HVL.out HRG.out).mono ?_
                  rintro e w6 ⟨r, s6, rfl, h1, h2, h3, h4⟩
                  have HL6 := Aside0.mk h1
                  have HG6 := Aside0.mk h2
                  have HB6 := Aside0.mk (HD.out.bl.trans (h3.mono (Nat.le_trans HD.out.rw_ (Nat.le_of_lt HD.out.rl))))
                  have HP6 := Aside0.mk h4
                  clear h1 h2 h3 h4
                  cases r with
                  | false =>
                    go_wp2_with fail
                    go_ret2
                    exact HFA.out (fun s0 cm _ => by have := (HP6.out s0 cm).1; cases this) _ HB6.out
                  | true =>
                    have HU6 := Aside0.mk (lineB_u8 (rfOf s6))
                    obtain ⟨X, hX⟩ : ∃ X, lineB (rfOf s6) = X := ⟨_, rfl⟩
                    have HX := Aside0.mk hX
                    rw [hX] at HU6
                    have henc := encode_calls w1.heap.size (w1.heap.size + 1) w1.heap.size 64 s6 w6 HL6.out HG6.out
                    rw [hX] at henc
                    have HEC := Aside0.mk henc
                    clear hX henc
                    by_cases hq : X = bs
                    · have HQ := Aside0.mk hq
                      have hdq : decide (X = bs) = true := decide_eq_true hq
                      have HDQ := Aside0.mk hdq
                      clear hq hdq
                      go_wp2_with (first
                        | (go_at_call 31; (with_reducible refine HEC.out.mono ?_); rintro e w7 ⟨v7, rfl, h1, h2⟩; obtain ⟨Ae, ce, rfl⟩ := Kd.R_slice h1; have HE7 := Aside0.mk (Kd.R_reads' h1); have HC7 := Aside0.mk (Kd.C_below HC.out (below_step HB6.out h2)); have HB7 := Aside0.mk h2; clear h1 h2)
                        | (go_at_call 78; (with_reducible refine (equal_c X bs HU6.out HU.out Ae A ce c w7 HE7.out.2.2 HE7.out.2.1 HC7.out hc).mono ?_); rintro e w8 ⟨rfl, h1⟩; rw [HDQ.out]; have HB8 := Aside0.mk h1; clear h1)
                        | fail)
                      go_ret2
                      refine ⟨below_step (below_step HB6.out HB7.out) HB8.out, .inr ⟨w1.heap.size + 1, w1.heap.size, s6, rfl, ((HL6.out.below HB7.out).below HB8.out).lower (Nat.le_trans HD.out.rw_ (Nat.le_of_lt HD.out.rl)), HG6.out, by rw [HX.out, HQ.out], ?_⟩⟩
                      rw [HDR.out]
                      exact fun s0 cm => (HP6.out s0 cm).2
                    · have HQ := Aside0.mk hq
                      have hdq : decide (X = bs) = false := decide_eq_false hq
                      have HDQ := Aside0.mk hdq
                      clear hq hdq
                      go_wp2_with (first
                        | (go_at_call 31; (with_reducible refine HEC.out.mono ?_); rintro e w7 ⟨v7, rfl, h1, h2⟩; obtain ⟨Ae, ce, rfl⟩ := Kd.R_slice h1; have HE7 := Aside0.mk (Kd.R_reads' h1); have HC7 := Aside0.mk (Kd.C_below HC.out (below_step HB6.out h2)); have HB7 := Aside0.mk h2; clear h1 h2)
                        | (go_at_call 78; (with_reducible refine (equal_c X bs HU6.out HU.out Ae A ce c w7 HE7.out.2.2 HE7.out.2.1 HC7.out hc).mono ?_); rintro e w8 ⟨rfl, h1⟩; rw [HDQ.out]; have HB8 := Aside0.mk h1; clear h1)
                        | fail)
                      go_ret2
                      exact HFA.out (fun s0 cm _ e => HQ.out (by rw [← HX.out, (HP6.out s0 cm).2, e])) _ (below_step (below_step HB6.out HB7.out) HB8.out)
              · have hE1 : (E != 0) = true := by rw [bne_iff_ne]; exact hE0
                have HE0 := Aside0.mk hE0
                clear hE0
                go_wp2_with (first
                  | (go_at_call 76; (with_reducible refine (d_end' HD.out HEN.out).mono ?_); rintro e x1 ⟨rfl, rfl⟩)
                  | fail)
                go_ret2
                exact HFA.out (fun s0 _ h => absurd h HE0.out) _ HD.out.bl
end Go.Proofs.Ytcbkcgnigncahaa.P
