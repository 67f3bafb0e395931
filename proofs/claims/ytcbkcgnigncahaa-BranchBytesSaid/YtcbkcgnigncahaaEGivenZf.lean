import Derived.Test.YtcbkcgnigncahaaEGivenZd
import Derived.Test.YtcbkcgnigncahaaEGivenXg
namespace Go.Proofs.Ytcbkcgnigncahaa.P
open Go.RowKit Go.Maps Go.Sort Go.Proofs.YtcbkcgnigncahaaW.PrintWords Go.Proofs.YtcbkcgnigncahaaW.PrintLast Go.Proofs.YtcbkcgnigncahaaW.PrintMore
open Wr (uintB intB boolB uintB_len intB_len isI rint_ends ruint_ends)
attribute [local go_sem] max2_int min2_int max_two min_two max_three min_three max_four min_four
set_option linter.unusedVariables false
set_option linter.unusedSimpArgs false
theorem rint_c (n : Int) (hi : isI n) (w : World) : Calls Try.prog 68 #[.int .i64 n] w fun e w' => ∃ v, e = .returned v ∧ Kd.R (Kd.int .u8) 5 w' w.heap.size (fun _ => True) v (intB n) ∧ Below w.heap.size w w' := by
  obtain ⟨k, hk⟩ := (rint_ends n hi).rounds
  exact skymosaicref02_Int.calls k n _ w hk
theorem runt_c (n : Int) (hi : 0 ≤ n ∧ n < 18446744073709551616) (w : World) : Calls Try.prog 70 #[.int .u64 n] w fun e w' => ∃ v, e = .returned v ∧ Kd.R (Kd.int .u8) 5 w' w.heap.size (fun _ => True) v (uintB 9 n) ∧ Below w.heap.size w w' := by
  obtain ⟨k, hk⟩ := (ruint_ends n hi.1 hi.2).rounds
  exact skymosaicref02_Uint.calls k n _ w hk
theorem rboo_c (b : Bool) (w : World) : Calls Try.prog 71 #[.bool b] w fun e w' => ∃ v, e = .returned v ∧ Kd.R (Kd.int .u8) 5 w' w.heap.size (fun _ => True) v (boolB b) ∧ Below w.heap.size w w' :=
  skymosaicref02_Bool.calls b (boolB b) w (by cases b <;> rfl)
theorem rraw_c (A : Option Addr) (c : Nat) (x : ByteArray) (hx : x.size ≤ 16) (w : World) (hC : Kd.C (Kd.int .u8) w A x.size (bytesOf x)) (hc : x.size ≤ c) : Calls Try.prog 69 #[.slice A x.size c] w fun e w' => ∃ v, e = .returned v ∧ Kd.R (Kd.int .u8) 5 w' w.heap.size (fun _ => True) v (txtB x) ∧ Below w.heap.size w w' := by
  have hl := bytesOf_len x
  obtain ⟨k, hk⟩ := (ruint_ends (x.size : Int) (by omega) (by omega)).rounds
  have := skymosaicref02_Raw.calls k A c (bytesOf x) (txtB x) w (by rw [hl]; exact hC) (by rw [hl]; exact hc) (by
    unfold skymosaicref02_Raw.f
    have hw : IntKind.u64.wrap ((bytesOf x).length : Int) = (x.size : Int) := by
      rw [hl]
      have : IntKind.u64.wrap (x.size : Int) = (x.size : Int) % 18446744073709551616 := by simp [IntKind.wrap, IntKind.signed, IntKind.bits]
      rw [this]; omega
    rw [hw, hk]
    have h2 := uintB_len 9 (x.size : Int)
    simp only [Option.bind_some]
    rw [if_pos (by omega)]
    rfl)
  rw [hl] at this
  exact this
section
variable {ops : Array Oper} {rest : List Oper} {o : Oper} {a : Act} {Q : Exit → Act → World → Prop}
theorem app8 {w0 W : World} (base : Nat) (hgd : o.guard = none) (s x : Operand) (ho : o.op = .call { callee := .builtin .append, args := #[s, x], argTypes := #[63, 63] }) (v : Value) (xs ys : List Int) (vy : Value) (by_ : Nat) (oky : Nat → Prop) (hs : a.eval s = v) (hx : a.eval x = vy)
    (HO : Kd.R (Kd.int .u8) 5 W base (fun _ => True) v xs) (HR : Kd.R (Kd.int .u8) 5 W by_ oky vy ys) (HB : Below base w0 W) (hbase : base ≤ W.heap.size) (hl : xs.length ≤ 1000000 ∧ ys.length ≤ 1000000)
    (h : ∀ v1 w1, Kd.R (Kd.int .u8) 5 w1 base (fun _ => True) v1 (xs ++ ys) → Below base w0 w1 → (∀ (k : Nat) (cs : Array Value) (t : TypeId), W.heap[k]? = some (.cells cs t (0, 0)) → t ≠ 5 → w1.heap[k]? = some (.cells cs t (0, 0))) → wpList Try.prog ops Q rest (a.put o.dst v1) w1) :
    wpList Try.prog ops Q (o :: rest) a W := by
  obtain ⟨A, c, rfl⟩ := Kd.R_slice HR
  exact Kd.R_append_rows (Kd.int .u8) base hgd s x 63 5 (.int .u8 0) 1 ho Try.underlying63 info5 rfl (by decide) (by omega) v xs ys A ys.length c (fun _ => True) (fun _ => False) hs hx HO (Kd.R_reads' HR).2.2 (fun _ _ h => h) (fun _ h => h.elim) (fun _ _ => trivial) HB hbase (by omega)
    (fun v1 w1 h1 h2 hg _ => h v1 w1 h1 h2 (fun k cs t hk ht => blk_grown hk hg (Kd.R_ne HO hk (fun e => ht e.symm))))
end
def cells92 (x : S92) : Array Value := #[.int .i64 x.f0, .int .i64 x.f1, .string x.f2, .int .i64 x.f3, .int .i64 x.f4, .int .i64 x.f5, .int .u64 x.f6, .bool x.f7]
theorem at_B92 {w : World} {k : Nat} {x : S92} (h : w.heap[k]? = some (.cells (cells92 x) 92 (0, 0))) :
    w.cell? ⟨k, 1, none⟩ = some (.int .i64 x.f1) ∧ w.cell? ⟨k, 2, none⟩ = some (.string x.f2) ∧ w.cell? ⟨k, 3, none⟩ = some (.int .i64 x.f3) ∧ w.cell? ⟨k, 4, none⟩ = some (.int .i64 x.f4) ∧ w.cell? ⟨k, 5, none⟩ = some (.int .i64 x.f5) ∧ w.cell? ⟨k, 6, none⟩ = some (.int .u64 x.f6) ∧ w.cell? ⟨k, 7, none⟩ = some (.bool x.f7) := by
  have hc := blk_cell h
  exact ⟨hc 1, hc 2, hc 3, hc 4, hc 5, hc 6, hc 7⟩
theorem conv_bytes2 (w : World) (s : ByteArray) (hs : s.size ≤ maxLen) : ∃ (w1 : World) (cap : Nat), (convert 9 63 (.string s)).run Try.prog w = .ok (.slice (some ⟨w.heap.size, 0, none⟩) s.size cap) w1 ∧ Kd.C (Kd.int .u8) w1 (some ⟨w.heap.size, 0, none⟩) s.size (bytesOf s) ∧ Below w.heap.size w w1 ∧ s.size ≤ cap := by
  obtain ⟨w1, cap, h1, h2, h3⟩ := conv_bytes w s hs
  refine ⟨w1, cap, h1, h2, h3, ?_⟩
  have h4 := Go.Lib.run_convert_string_bytes w 9 63 5 s Try.underlying9 Try.underlying63 Try.underlying5
  rw [h1] at h4
  injection h4 with h4 _
  injection h4 with _ _ h4
  rw [h4]
  exact grownCap_ge _ _ _ _
set_option maxHeartbeats 16000000 in
set_option maxRecDepth 100000 in
theorem renc_calls (base g : Nat) (r : Rf) (w : World) (h : RS base g r w) (hn : Neat r) :
    Calls Try.prog 36 #[.pointer (some ⟨g, 0, none⟩)] w fun e w' => ∃ v, e = .returned v ∧ Kd.R (Kd.int .u8) 5 w' w.heap.size (fun _ => True) v (lineB r) ∧ Below w.heap.size w w' := by
  have HN := Aside0.mk hn
  obtain ⟨B, V⟩ := r
  obtain ⟨A, c, A', c', hG, c0, c1, z0, z1, hc, hc', hB, hV⟩ := h.cells
  simp only at hG c0 c1 hc hc' hB hV
  have HC0 := Aside0.mk (Kd.R_reads' hB).2.2
  have HC1 := Aside0.mk (Kd.R_reads' hV).2.2
  have C0 := Aside0.mk c0
  have C1 := Aside0.mk c1
  have hu92 := Try.underlying92
  have hfew := HN.out.few
  have hmost := HN.out.most
  simp only at hfew hmost
  have HIB : Aside0 (isI (B.length : Int)) := ⟨by unfold Wr.isI; omega⟩
  have HIV : Aside0 (isI (V.length : Int)) := ⟨by unfold Wr.isI; omega⟩
  have hnb : ∀ (i : Nat) (h : i < B.length), (B[i]).f0.size ≤ 16 ∧ isI (B[i]).f1 := fun i h => HN.out.nb _ (List.getElem_mem h)
  have hnv : ∀ (i : Nat) (h : i < V.length), (V[i]).f2.size ≤ 16 ∧ (0 ≤ (V[i]).f6 ∧ (V[i]).f6 < 18446744073709551616) ∧ isI (V[i]).f1 ∧ isI (V[i]).f3 ∧ isI (V[i]).f4 ∧ isI (V[i]).f5 := fun i h => HN.out.nv _ (List.getElem_mem h)
  have HNB := Aside0.mk hnb
  have HNV := Aside0.mk hnv
  have hlB : ∀ i, i ≤ B.length → ((B.take i).flatMap brB).length ≤ 36 * 64 := fun i hi => by
    have h1 := flat_len brB 36 (B.take i) (fun b hb => brB_len (HN.out.nb b (List.mem_of_mem_take hb)).1)
    rw [List.length_take] at h1
    omega
  have hlV : ∀ i, i ≤ V.length → ((V.take i).flatMap verB).length ≤ 86 * 1024 := fun i hi => by
    have h1 := flat_len verB 86 (V.take i) (fun b hb => verB_len (HN.out.nv b (List.mem_of_mem_take hb)).1)
    rw [List.length_take] at h1
    omega
  have HLB := Aside0.mk hlB
  have HLV := Aside0.mk hlV
  have hiB := intB_len (B.length : Int)
  have hiV := intB_len (V.length : Int)
  clear h hG z0 z1 hB hV hn hnb hnv hlB hlV
  go_enter Try.func36, Try.ntmps36
  go_wp2_with (first
    | (go_at_call 68; (with_reducible refine (rint_c (B.length : Int) HIB.out _).mono ?_); rintro e w1 ⟨v1, rfl, h1, h2⟩; have HO1 := Aside0.mk h1; have HB1 := Aside0.mk h2; clear h1 h2)
    | fail)
  go_loopw [3, 4] (fun v3 v4 wr => ∃ i : Nat, v4 = .int .i64 i ∧ Aside0 (i ≤ B.length) ∧ Aside0 (Kd.R (Kd.int .u8) 5 wr w.heap.size (fun _ => True) v3 (intB (B.length : Int) ++ (B.take i).flatMap brB)) ∧ Aside0 (Below w.heap.size w wr)) (fun _ v _ => B.length - (intOf v).toNat)
  case atStart => exact ⟨0, rfl, ⟨Nat.zero_le _⟩, by simpa using HO1, HB1⟩
  case round =>
    obtain ⟨i, rfl, HI, HO0, HB0⟩ := hrel
    obtain ⟨w0, rfl⟩ : ∃ w0 : World, w0 = wr := ⟨_, rfl⟩
    have hi := HI.out
    by_cases hlt : i < B.length
    · obtain ⟨ad, e9, _, _⟩ := at_T97 (Kd.C_below HC0.out HB0.out) (i : Int) (by omega) (by omega)
      obtain rfl := e9
      have hbi := HNB.out i hlt
      have HFT := Aside0.mk (flat_take brB B i hlt)
      have hl0 := HLB.out i (by omega)
      obtain ⟨⟨nm, bs⟩, hq⟩ : ∃ q, B[i] = q := ⟨_, rfl⟩
      have HY : Aside0 (∀ w', Below w.heap.size w w' → w'.cell? ⟨g, 0, none⟩ = some (.slice (some ad) B.length c) ∧ w'.cell? (ad.add (i * 2)) = some (.string nm) ∧ w'.cell? ⟨(ad.add (i * 2)).block, (ad.add (i * 2)).off + 1, none⟩ = some (.int .i64 bs)) := ⟨fun w' hb => by
        obtain ⟨ad', e9, y0, y1⟩ := at_T97 (Kd.C_below HC0.out hb) (i : Int) (by omega) (by omega)
        obtain rfl := Option.some.inj e9
        rw [Int.toNat_natCast, rd97_at i hlt, hq] at y0 y1
        exact ⟨cell_keepB C0.out hb, y0, y1⟩⟩
      rw [hq] at hbi HFT
      simp only at hbi
      have HZ : Aside0 (nm.size ≤ maxLen) := ⟨by unfold maxLen; omega⟩
      have HNM := Aside0.mk hbi.1
      have HIS := Aside0.mk hbi.2
      have htl := txtB_len nm
      have hil := intB_len bs
      have hnl := hbi.1
      have HLn0 : Aside0 ((intB (B.length : Int) ++ (B.take i).flatMap brB).length ≤ 1000000 ∧ (txtB nm).length ≤ 1000000) := ⟨by rw [List.length_append]; omega⟩
      have HLn1 : Aside0 ((intB (B.length : Int) ++ (B.take i).flatMap brB ++ txtB nm).length ≤ 1000000 ∧ (intB bs).length ≤ 1000000) := ⟨by rw [List.length_append, List.length_append]; omega⟩
      obtain ⟨q0, q1, q2⟩ := HY.out _ HB0.out
      obtain ⟨cw0, cp0, hcv0, hcC0, hcB0, hcp0⟩ := conv_bytes2 w0 nm HZ.out
      have HK0 := Aside0.mk hcC0
      have HC0_ := Aside0.mk hcB0
      clear hcC0 hcB0
      clear hq hbi hl0 htl hil hnl hiB hiV
      go_wp2_with (first
          | (go_at_call 69; (with_reducible refine (rraw_c _ _ nm HNM.out _ HK0.out hcp0).mono ?_); rintro e u0 ⟨r0, rfl, h1, h2⟩; have HR0 := Aside0.mk h1; have h4 := below_step HC0_.out h2; have HOu0 := Aside0.mk (Kd.R_below HO0.out h4); have HBu0 := Aside0.mk (below_step HB0.out h4); clear h1 h2 h4)
          | (at_builtin; refine app8 (w0 := w) w.heap.size rfl (.tmp 22) (.tmp 32) rfl _ _ _ r0 _ _ rfl rfl HOu0.out HR0.out HBu0.out HBu0.out.size HLn0.out ?_; intro v1 w1 h1 h2 h3; have HO1 := Aside0.mk h1; have HB1 := Aside0.mk h2; clear h1 h2 h3; obtain ⟨q0, q1, q2⟩ := HY.out _ HB1.out; )
          | (go_at_call 68; (with_reducible refine (rint_c bs HIS.out _).mono ?_); rintro e u1 ⟨r1, rfl, h1, h2⟩; have HR1 := Aside0.mk h1; have h4 := h2; have HOu1 := Aside0.mk (Kd.R_below HO1.out h4); have HBu1 := Aside0.mk (below_step HB1.out h4); clear h1 h2 h4)
          | (at_builtin; refine app8 (w0 := w) w.heap.size rfl (.tmp 34) (.tmp 43) rfl _ _ _ r1 _ _ rfl rfl HOu1.out HR1.out HBu1.out HBu1.out.size HLn1.out ?_; intro v2 w2 h1 h2 h3; have HO2 := Aside0.mk h1; have HB2 := Aside0.mk h2; clear h1 h2 h3; obtain ⟨q0, q1, q2⟩ := HY.out _ HB2.out; )
          | fail)
      go_roundw
      case rel => exact ⟨i + 1, by simp, ⟨by omega⟩, ⟨by rw [HFT.out]; simpa [brB, List.append_assoc] using HO2.out⟩, HB2⟩
      case measure => simp [intOf]; omega
    · obtain rfl : i = B.length := by omega
      rw [List.take_length] at HO0
      have d0 := cell_keepB C0.out HB0.out
      have d1 := cell_keepB C1.out HB0.out
      have hl0 := HLB.out B.length (Nat.le_refl _)
      rw [List.take_length] at hl0
      have HLn0 : Aside0 ((intB (B.length : Int) ++ B.flatMap brB).length ≤ 1000000 ∧ (intB (V.length : Int)).length ≤ 1000000) := ⟨by rw [List.length_append]; omega⟩
      obtain ⟨P0, hP0⟩ : ∃ P0, intB (B.length : Int) ++ B.flatMap brB ++ intB (V.length : Int) = P0 := ⟨_, rfl⟩
      have HP0 := Aside0.mk hP0
      have HPL : Aside0 (P0.length ≤ 3000) := ⟨by rw [← hP0, List.length_append, List.length_append]; omega⟩
      clear hl0 hP0
      go_wp2_with (first
        | (go_at_call 68; (with_reducible refine (rint_c (V.length : Int) HIV.out _).mono ?_); rintro e u0 ⟨r0, rfl, h1, h2⟩; have HR0 := Aside0.mk h1; have HOu0 := Aside0.mk (Kd.R_below HO0.out h2); have HBu0 := Aside0.mk (below_step HB0.out h2); clear h1 h2)
        | (at_builtin; refine app8 (w0 := w) w.heap.size rfl (.tmp 45) (.tmp 51) rfl _ _ _ r0 _ _ rfl rfl HOu0.out HR0.out HBu0.out HBu0.out.size HLn0.out ?_; intro v1 w1 h1 h2 h3; have HO1 := Aside0.mk h1; have HB1 := Aside0.mk h2; clear h1 h2 h3)
        | fail)
      go_loopw [3, 5] (fun v3 v5 wr => ∃ j : Nat, v5 = .int .i64 j ∧ Aside0 (j ≤ V.length) ∧ Aside0 (Kd.R (Kd.int .u8) 5 wr w.heap.size (fun _ => True) v3 (P0 ++ (V.take j).flatMap verB)) ∧ Aside0 (Below w.heap.size w wr)) (fun _ v _ => V.length - (intOf v).toNat)
      case atStart => exact ⟨0, rfl, ⟨Nat.zero_le _⟩, ⟨by simpa [← HP0.out] using HO1.out⟩, HB1⟩
      case round =>
        obtain ⟨j, rfl, HJ, HOa, HBa⟩ := hrel
        obtain ⟨wa, rfl⟩ : ∃ wa : World, wa = wr := ⟨_, rfl⟩
        have hj := HJ.out
        have d2 := cell_keepB C1.out HBa.out
        by_cases hlt2 : j < V.length
        · obtain ⟨ad, e9, y0, y1, y2, y3, y4, y5, y6, y7⟩ := at_T92 (Kd.C_below HC1.out HBa.out) (j : Int) (by omega) (by omega)
          obtain rfl := e9
          have hvj := HNV.out j hlt2
          have hrd : rd_T92 V (j : Int) = V[j] := by
            unfold rd_T92
            rw [List.getD_eq_getElem?_getD, Int.toNat_natCast, List.getElem?_eq_getElem hlt2]
            rfl
          have HFT := Aside0.mk (flat_take verB V j hlt2)
          have hl0 := HLV.out j (by omega)
          obtain ⟨q, hq⟩ : ∃ q, V[j] = q := ⟨_, rfl⟩
          rw [hrd, hq] at y0 y1 y2 y3 y4 y5 y6 y7
          rw [hq] at hvj HFT
          rw [Int.toNat_natCast] at y0 y1 y2 y3 y4 y5 y6 y7
          go_upto_region 11 with fail
          go_cut [6] (fun s6 wx => ∃ k : Nat, s6 = .pointer (some ⟨k, 0, none⟩) ∧ Aside0 (wx.heap[k]? = some (.cells (cells92 q) 92 (0, 0)) ∧ Below wa.heap.size wa wx))
          case first =>
            go_wp2
            go_meet
            exact ⟨_, rfl, ⟨blk_new _ _, below_alloc (Below.refl _ _) _⟩⟩
          case rest =>
            obtain ⟨k, rfl, HX⟩ := hcut
            obtain ⟨w0, rfl⟩ : ∃ w0 : World, w0 = wc := ⟨_, rfl⟩
            have HX0 := Aside0.mk HX.out.1
            have HB0 := Aside0.mk (below_step HBa.out HX.out.2)
            have HO0 := Aside0.mk (Kd.R_below HOa.out HX.out.2)
            clear y0 y1 y2 y3 y4 y5 y6 y7 hrd hq HX HOa d1 d2
            obtain ⟨c1_, c2_, c3_, c4_, c5_, c6_, c7_⟩ := at_B92 HX0.out
            obtain ⟨n1, n2, n3, n4, n5, n6⟩ := hvj
            have I1 := Aside0.mk n3
            have I3 := Aside0.mk n4
            have I4 := Aside0.mk n5
            have I5 := Aside0.mk n6
            have I6 := Aside0.mk n2
            have HNM := Aside0.mk n1
            have HZ : Aside0 (q.f2.size ≤ maxLen) := ⟨by unfold maxLen; omega⟩
            have e1 := intB_len q.f1
            have e2 := txtB_len q.f2
            have e3 := intB_len q.f3
            have e4 := intB_len q.f4
            have e5 := intB_len q.f5
            have e6 := uintB_len 9 q.f6
            have e7 := boolB_len q.f7
            have e8 := HPL.out
            have HLn0 : Aside0 ((P0 ++ (V.take j).flatMap verB).length ≤ 1000000 ∧ (intB q.f1).length ≤ 1000000) := ⟨by simp only [List.length_append]; omega⟩
            have HLn1 : Aside0 ((P0 ++ (V.take j).flatMap verB ++ intB q.f1).length ≤ 1000000 ∧ (txtB q.f2).length ≤ 1000000) := ⟨by simp only [List.length_append]; omega⟩
            have HLn2 : Aside0 ((P0 ++ (V.take j).flatMap verB ++ intB q.f1 ++ txtB q.f2).length ≤ 1000000 ∧ (intB q.f3).length ≤ 1000000) := ⟨by simp only [List.length_append]; omega⟩
            have HLn3 : Aside0 ((P0 ++ (V.take j).flatMap verB ++ intB q.f1 ++ txtB q.f2 ++ intB q.f3).length ≤ 1000000 ∧ (intB q.f4).length ≤ 1000000) := ⟨by simp only [List.length_append]; omega⟩
            have HLn4 : Aside0 ((P0 ++ (V.take j).flatMap verB ++ intB q.f1 ++ txtB q.f2 ++ intB q.f3 ++ intB q.f4).length ≤ 1000000 ∧ (intB q.f5).length ≤ 1000000) := ⟨by simp only [List.length_append]; omega⟩
            have HLn5 : Aside0 ((P0 ++ (V.take j).flatMap verB ++ intB q.f1 ++ txtB q.f2 ++ intB q.f3 ++ intB q.f4 ++ intB q.f5).length ≤ 1000000 ∧ (uintB 9 q.f6).length ≤ 1000000) := ⟨by simp only [List.length_append]; omega⟩
            have HLn6 : Aside0 ((P0 ++ (V.take j).flatMap verB ++ intB q.f1 ++ txtB q.f2 ++ intB q.f3 ++ intB q.f4 ++ intB q.f5 ++ uintB 9 q.f6).length ≤ 1000000 ∧ (boolB q.f7).length ≤ 1000000) := ⟨by simp only [List.length_append]; omega⟩
            clear n2 n3 n4 n5 n6 e1 e2 e3 e4 e5 e6 e7 e8 hl0 n1
            go_wp2_with (first
          | (go_at_call 68; (with_reducible refine (rint_c q.f1 I1.out _).mono ?_); rintro e u0 ⟨r0, rfl, h1, h2⟩; have HR0 := Aside0.mk h1; have h4 := h2; have HOu0 := Aside0.mk (Kd.R_below HO0.out h4); have HBu0 := Aside0.mk (below_step HB0.out h4); have HXu0 := Aside0.mk (blk_below HX0.out h4); clear h1 h2 h4)
          | (at_builtin; refine app8 (w0 := w) w.heap.size rfl (.tmp 69) (.tmp 72) rfl _ _ _ r0 _ _ rfl rfl HOu0.out HR0.out HBu0.out HBu0.out.size HLn0.out ?_; intro v1 w1 h1 h2 h3; have HO1 := Aside0.mk h1; have HB1 := Aside0.mk h2; have HX1 := Aside0.mk (h3 k _ 92 HXu0.out (by decide)); clear h1 h2 h3; obtain ⟨c1_, c2_, c3_, c4_, c5_, c6_, c7_⟩ := at_B92 HX1.out; obtain ⟨cw1, cp1, hcv1, hcC1, hcB1, hcp1⟩ := conv_bytes2 w1 q.f2 HZ.out; have HK1 := Aside0.mk hcC1; have HC1_ := Aside0.mk hcB1; clear hcC1 hcB1; )
          | (go_at_call 69; (with_reducible refine (rraw_c _ _ q.f2 HNM.out _ HK1.out hcp1).mono ?_); rintro e u1 ⟨r1, rfl, h1, h2⟩; have HR1 := Aside0.mk h1; have h4 := below_step HC1_.out h2; have HOu1 := Aside0.mk (Kd.R_below HO1.out h4); have HBu1 := Aside0.mk (below_step HB1.out h4); have HXu1 := Aside0.mk (blk_below HX1.out h4); clear h1 h2 h4)
          | (at_builtin; refine app8 (w0 := w) w.heap.size rfl (.tmp 74) (.tmp 78) rfl _ _ _ r1 _ _ rfl rfl HOu1.out HR1.out HBu1.out HBu1.out.size HLn1.out ?_; intro v2 w2 h1 h2 h3; have HO2 := Aside0.mk h1; have HB2 := Aside0.mk h2; have HX2 := Aside0.mk (h3 k _ 92 HXu1.out (by decide)); clear h1 h2 h3; obtain ⟨c1_, c2_, c3_, c4_, c5_, c6_, c7_⟩ := at_B92 HX2.out; )
          | (go_at_call 68; (with_reducible refine (rint_c q.f3 I3.out _).mono ?_); rintro e u2 ⟨r2, rfl, h1, h2⟩; have HR2 := Aside0.mk h1; have h4 := h2; have HOu2 := Aside0.mk (Kd.R_below HO2.out h4); have HBu2 := Aside0.mk (below_step HB2.out h4); have HXu2 := Aside0.mk (blk_below HX2.out h4); clear h1 h2 h4)
          | (at_builtin; refine app8 (w0 := w) w.heap.size rfl (.tmp 80) (.tmp 83) rfl _ _ _ r2 _ _ rfl rfl HOu2.out HR2.out HBu2.out HBu2.out.size HLn2.out ?_; intro v3 w3 h1 h2 h3; have HO3 := Aside0.mk h1; have HB3 := Aside0.mk h2; have HX3 := Aside0.mk (h3 k _ 92 HXu2.out (by decide)); clear h1 h2 h3; obtain ⟨c1_, c2_, c3_, c4_, c5_, c6_, c7_⟩ := at_B92 HX3.out; )
          | (go_at_call 68; (with_reducible refine (rint_c q.f4 I4.out _).mono ?_); rintro e u3 ⟨r3, rfl, h1, h2⟩; have HR3 := Aside0.mk h1; have h4 := h2; have HOu3 := Aside0.mk (Kd.R_below HO3.out h4); have HBu3 := Aside0.mk (below_step HB3.out h4); have HXu3 := Aside0.mk (blk_below HX3.out h4); clear h1 h2 h4)
          | (at_builtin; refine app8 (w0 := w) w.heap.size rfl (.tmp 85) (.tmp 88) rfl _ _ _ r3 _ _ rfl rfl HOu3.out HR3.out HBu3.out HBu3.out.size HLn3.out ?_; intro v4 w4 h1 h2 h3; have HO4 := Aside0.mk h1; have HB4 := Aside0.mk h2; have HX4 := Aside0.mk (h3 k _ 92 HXu3.out (by decide)); clear h1 h2 h3; obtain ⟨c1_, c2_, c3_, c4_, c5_, c6_, c7_⟩ := at_B92 HX4.out; )
          | (go_at_call 68; (with_reducible refine (rint_c q.f5 I5.out _).mono ?_); rintro e u4 ⟨r4, rfl, h1, h2⟩; have HR4 := Aside0.mk h1; have h4 := h2; have HOu4 := Aside0.mk (Kd.R_below HO4.out h4); have HBu4 := Aside0.mk (below_step HB4.out h4); have HXu4 := Aside0.mk (blk_below HX4.out h4); clear h1 h2 h4)
          | (at_builtin; refine app8 (w0 := w) w.heap.size rfl (.tmp 90) (.tmp 93) rfl _ _ _ r4 _ _ rfl rfl HOu4.out HR4.out HBu4.out HBu4.out.size HLn4.out ?_; intro v5 w5 h1 h2 h3; have HO5 := Aside0.mk h1; have HB5 := Aside0.mk h2; have HX5 := Aside0.mk (h3 k _ 92 HXu4.out (by decide)); clear h1 h2 h3; obtain ⟨c1_, c2_, c3_, c4_, c5_, c6_, c7_⟩ := at_B92 HX5.out; )
          | (go_at_call 70; (with_reducible refine (runt_c q.f6 I6.out _).mono ?_); rintro e u5 ⟨r5, rfl, h1, h2⟩; have HR5 := Aside0.mk h1; have h4 := h2; have HOu5 := Aside0.mk (Kd.R_below HO5.out h4); have HBu5 := Aside0.mk (below_step HB5.out h4); have HXu5 := Aside0.mk (blk_below HX5.out h4); clear h1 h2 h4)
          | (at_builtin; refine app8 (w0 := w) w.heap.size rfl (.tmp 95) (.tmp 98) rfl _ _ _ r5 _ _ rfl rfl HOu5.out HR5.out HBu5.out HBu5.out.size HLn5.out ?_; intro v6 w6 h1 h2 h3; have HO6 := Aside0.mk h1; have HB6 := Aside0.mk h2; have HX6 := Aside0.mk (h3 k _ 92 HXu5.out (by decide)); clear h1 h2 h3; obtain ⟨c1_, c2_, c3_, c4_, c5_, c6_, c7_⟩ := at_B92 HX6.out; )
          | (go_at_call 71; (with_reducible refine (rboo_c q.f7 _).mono ?_); rintro e u6 ⟨r6, rfl, h1, h2⟩; have HR6 := Aside0.mk h1; have h4 := h2; have HOu6 := Aside0.mk (Kd.R_below HO6.out h4); have HBu6 := Aside0.mk (below_step HB6.out h4); have HXu6 := Aside0.mk (blk_below HX6.out h4); clear h1 h2 h4)
          | (at_builtin; refine app8 (w0 := w) w.heap.size rfl (.tmp 100) (.tmp 103) rfl _ _ _ r6 _ _ rfl rfl HOu6.out HR6.out HBu6.out HBu6.out.size HLn6.out ?_; intro v7 w7 h1 h2 h3; have HO7 := Aside0.mk h1; have HB7 := Aside0.mk h2; have HX7 := Aside0.mk (h3 k _ 92 HXu6.out (by decide)); clear h1 h2 h3; obtain ⟨c1_, c2_, c3_, c4_, c5_, c6_, c7_⟩ := at_B92 HX7.out; )
          | fail)
            go_roundw
            case rel => exact ⟨j + 1, by simp, ⟨by omega⟩, ⟨by rw [HFT.out]; simpa [verB, List.append_assoc] using HO7.out⟩, HB7⟩
            case measure => simp [intOf]; omega
        · obtain rfl : j = V.length := by omega
          rw [List.take_length] at HOa
          go_wp2_with fail
          go_ret
          refine ⟨_, rfl, ?_, HBa.out⟩
          have := HOa.out
          rw [← HP0.out] at this
          unfold lineB
          simpa [List.append_assoc] using this
end Go.Proofs.Ytcbkcgnigncahaa.P
