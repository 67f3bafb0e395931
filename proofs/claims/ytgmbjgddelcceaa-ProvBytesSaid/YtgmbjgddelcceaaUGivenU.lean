import Derived.Test.YtgmbjgddelcceaaUGivenR
import Derived.Test.YtgmbjgddelcceaaUGivenX
import Derived.Deep.DeepCutAuto
import Derived.BigRegion
namespace Go.Proofs.Ytgmbjgddelcceaa.P
open Go.RowKit Go.Proofs.YtgmbjgddelcceaaW.PrintWords Go.Proofs.YtgmbjgddelcceaaW.PrintLast Go.Proofs.YtgmbjgddelcceaaW.PrintMore
attribute [local go_sem] max2_int min2_int max_two min_two max_three min_three max_four min_four
attribute [local go_sem] Go.Lib.run_eql_slice_nil
set_option linter.unusedVariables false
set_option linter.unusedSimpArgs false
theorem rowU8 {w : World} {base : Nat} {v : Value} {xs : List Int} (h : w.ownsRow base 5 1 v xs.length (Go.Proofs.YtgmbjgddelcceaaW.PrintWords.nums .u8 xs)) (ok : Nat → Prop) (hok : ∀ k, v.ownBlock = some k → ok k) : Kd.R (Kd.int .u8) 5 w base ok v xs := by
  refine ⟨hok, Go.Proofs.YtgmbjgddelcceaaW.PrintWords.nums .u8 xs, h, ?_⟩
  refine ⟨by simp [Go.Proofs.YtgmbjgddelcceaaW.PrintWords.nums]; exact (Nat.mul_one _).symm, fun j p hj => ?_⟩
  have hjl : j < xs.length := (List.getElem?_eq_some_iff.1 hj).1
  have hp : xs[j] = p := (List.getElem?_eq_some_iff.1 hj).2
  have : ((Go.Proofs.YtgmbjgddelcceaaW.PrintWords.nums .u8 xs).drop (j * 1)).take 1 = [.int .u8 p] := by
    unfold Go.Proofs.YtgmbjgddelcceaaW.PrintWords.nums
    rw [Nat.mul_one, List.drop_eq_getElem_cons (by simpa using hjl)]
    simp [hp]
  show Kd.M _ _ _ _ _ (((Go.Proofs.YtgmbjgddelcceaaW.PrintWords.nums .u8 xs).drop (j * 1)).take 1)
  rw [this]
  exact rfl
theorem rowU8_inv {w : World} {base : Nat} {ok : Nat → Prop} {v : Value} {xs : List Int} (h : Kd.R (Kd.int .u8) 5 w base ok v xs) : w.ownsRow base 5 1 v xs.length (Go.Proofs.YtgmbjgddelcceaaW.PrintWords.nums .u8 xs) := by
  obtain ⟨_, inner, ho, hr⟩ := h
  have e : inner = Go.Proofs.YtgmbjgddelcceaaW.PrintWords.nums .u8 xs := by
    obtain ⟨hlen, hr⟩ := hr
    have hlen : inner.length = xs.length := by rw [hlen]; exact Nat.mul_one _
    refine List.ext_getElem (by rw [hlen]; simp [Go.Proofs.YtgmbjgddelcceaaW.PrintWords.nums]) ?_
    intro j h1 h2
    have := hr j (xs[j]'(by omega)) (List.getElem?_eq_getElem _)
    have h3 : (inner.drop (j * 1)).take 1 = [.int .u8 (xs[j]'(by omega))] := this
    rw [Nat.mul_one, List.drop_eq_getElem_cons h1] at h3
    simp only [List.take_succ_cons, List.take_zero, List.cons.injEq, and_true] at h3
    rw [h3]
    simp [Go.Proofs.YtgmbjgddelcceaaW.PrintWords.nums]
  rw [← e]
  exact ho
set_option maxHeartbeats 2000000 in
set_option maxRecDepth 100000 in
theorem text_calls (base g : Nat) (bs : List Int) (y : ByteArray) (w : World) (hs : WS base g bs w) (hbase : base ≤ w.heap.size) (hl : bs.length ≤ 1000000000 - 10) (hy : y.size ≤ 1000000000) :
    Calls Try.prog 50 #[.pointer (some ⟨g, 0, none⟩), .string y] w fun e w' => e = .returned (.tuple #[]) ∧ WS base g (bs ++ uintB 9 (y.size : Int) ++ bytesOf y) w' ∧ Below base w w' ∧ KeepTy g w w' := by
  have HS := Aside0.mk hs
  clear hs
  have hul := uintB_len 9 (y.size : Int)
  have hwl : IntKind.u64.wrap (y.size : Int) = (y.size : Int) := by
    have : IntKind.u64.wrap (y.size : Int) = (y.size : Int) % 18446744073709551616 := by simp [IntKind.wrap, IntKind.signed, IntKind.bits]
    rw [this]; omega
  go_enter Try.func50, Try.ntmps50
  go_wp2_with fail
  refine (uint_calls base g bs (y.size : Int) (by omega) (by omega) _ HS.out hbase (by omega)).mono ?_
  rintro e w1 ⟨rfl, hW, hB, hK⟩
  have HW := Aside0.mk hW
  have HB := Aside0.mk hB
  have HK := Aside0.mk hK
  obtain ⟨hbg, v, hv, hR⟩ := hW
  have HV := Aside0.mk hv
  have HRR := Aside0.mk hR
  have c0 : w1.cell? ⟨g, 0, none⟩ = some v := blk_cell hv 0
  have hb1 : base ≤ w1.heap.size := Nat.le_trans hbase hB.size
  clear hv hR hB hK
  go_wp2_with (at_builtin; refine print_append_str (w0 := w1) base rfl (.tmp 13) (.tmp 14) 51 9 5 rfl Try.underlying51 Try.underlying9 info5 v (bs ++ uintB 9 (y.size : Int)) y rfl rfl (rowU8_inv HRR.out) (Below.refl _ _) hb1 ?aL ?_; (case aL => rw [List.length_append]; omega); intro v1 w2 ho hb hg; have HO := Aside0.mk ho; have HB4 := Aside0.mk hb; have HK4 := Aside0.mk ((KeepTy.refl g w1).grown HRR.out hg); have HG4 := Aside0.mk (blk_grown HV.out hg (Kd.R_away HRR.out (fun _ hk => hk))); have hsz := Aside0.mk hg.size; clear ho hb hg; have d0 : w2.cell? ⟨g, 0, none⟩ = some v := blk_cell HG4.out 0; have f0 := blk_frozen HG4.out 0; obtain ⟨A1, c1, rfl⟩ : ∃ A1 c1, v1 = .slice A1 (bs ++ uintB 9 (y.size : Int) ++ bytesOf y).length c1 := Kd.R_slice (rowU8 HO.out (fun _ => True) (fun _ _ => trivial)))
  first | go_end0 | ((try simp only [Exit.inBlock, Exit.then]); refine bodyPost_ret (results_none rfl _ _ _) rfl ?_)
  refine ⟨rfl, WS.put hbg HG4.out ?_, (HB.out.trans HB4.out).setCell hbg _, (HK.out.trans HK4.out).set _⟩
  have h1 := rowU8 HO.out (fun k => k ≠ g) (fun k hk e => by
    obtain ⟨cells, hc⟩ := own_typed HO.out k hk
    rw [e, HG4.out] at hc
    injection hc with hc
    injection hc with _ hc
    exact absurd hc (by decide))
  simpa using h1
def U8s (xs : List Int) : Prop := ∀ x ∈ xs, 0 ≤ x ∧ x < 256
theorem bytes_back (xs : List Int) (h : U8s xs) : bytesOf (strOfNums xs) = xs := by
  unfold Go.Proofs.YtgmbjgddelcceaaW.PrintWords.bytesOf
  rw [strOfNums_data, List.map_map]
  refine (List.map_congr_left fun x hx => ?_).trans (List.map_id xs)
  have := h x hx
  show (((UInt8.ofNat x.toNat).toNat : Nat) : Int) = x
  rw [UInt8.toNat_ofNat']
  omega
set_option maxHeartbeats 1000000 in
theorem wraw_calls (base g : Nat) (bs : List Int) (A : Option Addr) (c : Nat) (ys : List Int) (w : World) (hs : WS base g bs w) (hbase : base ≤ w.heap.size) (hl : bs.length ≤ 1000000000 - 10) (hC : Kd.C (Kd.int .u8) w A ys.length ys) (hc : ys.length ≤ c) (hy : ys.length ≤ 1000000000) (hu : U8s ys) :
    Calls Try.prog 27 #[.pointer (some ⟨g, 0, none⟩), .slice A ys.length c] w fun e w' => e = .returned (.tuple #[]) ∧ WS base g (bs ++ uintB 9 (ys.length : Int) ++ ys) w' ∧ Below base w w' ∧ KeepTy g w w' := by
  have HS := Aside0.mk hs
  have hcv := Kd.C_string (P := Try.prog) (c := c) Try.underlying51 Try.underlying5 Try.underlying9 hC
  clear hs
  have hsz : (strOfNums ys).size = ys.length := strOfNums_size ys
  have HSZ := Aside0.mk hsz
  have HB := Aside0.mk (bytes_back ys hu)
  obtain ⟨y, hy2⟩ : ∃ y, y = strOfNums ys := ⟨_, rfl⟩
  rw [← hy2] at hcv HSZ HB
  clear hsz hy2 hC
  have hys : y.size ≤ 1000000000 := by rw [HSZ.out]; exact hy
  go_enter Try.func27, Try.ntmps27
  go_wp2_with (go_at_call 50; (with_reducible refine (text_calls base g bs y _ HS.out hbase hl hys).mono ?_); rintro e w1 ⟨rfl, hW, hB, hK⟩; have HH := Aside0.mk (And.intro hW (And.intro hB hK)); clear hW hB hK)
  first | go_end0 | ((try simp only [Exit.inBlock, Exit.then]); refine bodyPost_ret (results_none rfl _ _ _) rfl ?_)
  obtain ⟨h1, h2, h3⟩ := HH.out
  rw [HSZ.out, HB.out] at h1
  exact ⟨rfl, h1, h2, h3⟩
set_option maxHeartbeats 1000000 in
set_option maxRecDepth 100000 in
theorem few_calls (A : Option Addr) (c : Nat) (bs : List Int) (m : Int) (w : World) (hC : Kd.C (Kd.int .u8) w A bs.length bs) (hc : bs.length ≤ c) (hl : bs.length ≤ 140737488351232) (hm : 0 ≤ m) :
    Calls Try.prog 32 #[.slice A bs.length c, .int .i64 m] w fun e w' => ∃ v, e = .returned v ∧ Kd.R (Kd.int .u8) 5 w' w.heap.size (fun _ => True) v (bs.take m.toNat) ∧ Below w.heap.size w w' := by
  have HC := Aside0.mk hC
  clear hC
  obtain ⟨q0, hq0, _, hqsz, _⟩ := info_parts info5
  by_cases hlt : m < (bs.length : Int)
  · have hcut := cut_to (P := Try.prog) 51 5 .i64 Try.underlying51 hq0 A bs.length c m hm (by omega) hc
    have htl : (bs.take m.toNat).length = m.toNat := by rw [List.length_take]; omega
    have HT := Aside0.mk (Kd.C_take (m := m.toNat) HC.out (by omega))
    rw [htl] at HT
    clear htl hqsz hq0
    go_enter Try.func32, Try.ntmps32
    go_wp2_with (at_builtin; refine Kd.R_append_rows (Kd.int .u8) (w0 := w) w.heap.size rfl (.tmp 6) (.tmp 12) 51 5 (.int .u8 0) 1 rfl Try.underlying51 info5 rfl (by decide) (by omega) (.slice none 0 0) ([] : List Int) (bs.take m.toNat) A m.toNat c (fun _ => True) (fun _ => False) rfl rfl ?aO ?aR (fun _ _ h => h) (fun _ h => h.elim) (fun _ _ => trivial) ?aB ?aS ?aL ?_; (case aO => exact Kd.R_nil _ _ _ _ _); (case aR => exact HT.out); (case aB => exact Below.refl _ _); (case aS => exact Nat.le_refl _); (case aL => simp; omega); intro v1 w2 ho hb hg hat; rw [List.nil_append] at ho; obtain ⟨A1, c1, rfl⟩ := Kd.R_slice ho)
    go_ret
    exact ⟨_, rfl, by simpa using ho, hb⟩
  · have hcut := cut_to (P := Try.prog) 51 5 .i64 Try.underlying51 hq0 A bs.length c (bs.length : Int) (by omega) (by omega) hc
    have HT : Aside0 (bs.take m.toNat = bs) := ⟨List.take_of_length_le (by omega)⟩
    clear hqsz hq0
    go_enter Try.func32, Try.ntmps32
    go_wp2_with (at_builtin; refine Kd.R_append_rows (Kd.int .u8) (w0 := w) w.heap.size rfl (.tmp 6) (.tmp 12) 51 5 (.int .u8 0) 1 rfl Try.underlying51 info5 rfl (by decide) (by omega) (.slice none 0 0) ([] : List Int) bs A bs.length c (fun _ => True) (fun _ => False) rfl rfl ?aO ?aR (fun _ _ h => h) (fun _ h => h.elim) (fun _ _ => trivial) ?aB ?aS ?aL ?_; (case aO => exact Kd.R_nil _ _ _ _ _); (case aR => exact HC.out); (case aB => exact Below.refl _ _); (case aS => exact Nat.le_refl _); (case aL => simp; omega); intro v1 w2 ho hb hg hat; rw [List.nil_append] at ho; obtain ⟨A1, c1, rfl⟩ := Kd.R_slice ho)
    go_ret
    rw [HT.out]
    exact ⟨_, rfl, ho, hb⟩
end Go.Proofs.Ytgmbjgddelcceaa.P
namespace Go.Proofs.Ytgmbjgddelcceaa.P
open Go.RowKit Go.Proofs.YtgmbjgddelcceaaW.PrintWords Go.Proofs.YtgmbjgddelcceaaW.PrintLast Go.Proofs.YtgmbjgddelcceaaW.PrintMore
attribute [local go_sem] max2_int min2_int max_two min_two max_three min_three max_four min_four
set_option linter.unusedVariables false
set_option linter.unusedSimpArgs false
def decPiece (row fr : Int) (s : Rd) : S80 × Rd :=
  if 0 ≤ (rintF (rintF s).2).1 then
    (⟨row, fr, (rintF s).1, ⟨(rintF (rintF s).2).1, (rintF (rintF (rintF s).2).2).1, (rintF (rintF (rintF (rintF s).2).2).2).1, (uintF (rintF (rintF (rintF (rintF (rintF (rintF s).2).2).2).2).2).2).1⟩,
      (rintF (rintF (rintF (rintF (rintF s).2).2).2).2).1, (rintF (rintF (rintF (rintF (rintF (rintF s).2).2).2).2).2).1⟩, (uintF (rintF (rintF (rintF (rintF (rintF (rintF s).2).2).2).2).2).2).2)
  else (⟨row, fr, (rintF s).1, ⟨(rintF (rintF s).2).1, 0, 0, 0⟩, 0, 0⟩, (rintF (rintF s).2).2)
def decLoop : Nat → Int → Int → Int → List S80 → Rd → List S80 × Rd
  | 0, _, _, _, acc, s => (acc, s)
  | k + 1, n, row, fr, acc, s => if (acc.length : Int) < n then
      (if 16 ≤ (decPiece row fr s).1.f2 then decLoop k n (row + 1) 0 (acc ++ [(decPiece row fr s).1]) (decPiece row fr s).2
        else decLoop k n row (decPiece row fr s).1.f2 (acc ++ [(decPiece row fr s).1]) (decPiece row fr s).2)
    else (acc, s)
/-- What the reader gives for the pieces of some bytes. -/
def decRd (bs : List Int) : List S80 × Rd := decLoop 256 (if 256 < (rintF ⟨bs, 0⟩).1 then 256 else (rintF ⟨bs, 0⟩).1) 0 0 [] (rintF ⟨bs, 0⟩).2
def decF (bs : List Int) : List S80 × Int :=
  if endF (decRd bs).2 = 0 ∧ (encF (decRd bs).1).2 = 0 ∧ ((strOfNums (encF (decRd bs).1).1).toList == (strOfNums bs).toList) = true then ((decRd bs).1, 0) else ([], 2)
theorem uintL_lt : ∀ (k : Nat) (i n : Int) (s : Rd), n < 18446744073709551616 → (uintL k i n s).1 < 18446744073709551616
  | 0, _, _, _, _ => by show (0 : Int) < _; decide
  | k + 1, i, n, s, h => by
    have hb : accN n i (nextF s).1 < 18446744073709551616 := by
      have h : (Lit.int .u64 (accN n i (nextF s).1)).wf = true := wf_bits _ _ _ _
      simp [Lit.wf, IntKind.min, IntKind.max, IntKind.signed, IntKind.bits] at h
      omega
    simp only [uintL]
    generalize (if badB i (nextF s).1 then (nextF s).2.fail 2 else (nextF s).2) = s2
    split
    · split
      · exact hb
      · exact uintL_lt k _ _ _ hb
    · show (0 : Int) < _; decide
theorem decPiece_good (row fr : Int) (s : Rd) : goodU (decPiece row fr s).1 = true := by
  unfold decPiece goodU
  split
  · exact Bool.and_eq_true_iff.2 ⟨decide_eq_true (uintL_nn 11 0 0 _ (by omega)), decide_eq_true (uintL_lt 11 0 0 _ (by omega))⟩
  · rfl
theorem decLoop_good : ∀ (k : Nat) (n row fr : Int) (acc : List S80) (s : Rd), acc.all goodU = true → (decLoop k n row fr acc s).1.all goodU = true
  | 0, _, _, _, _, _, h => h
  | k + 1, n, row, fr, acc, s, h => by
    have h2 : (acc ++ [(decPiece row fr s).1]).all goodU = true := by rw [List.all_append, h]; simp [decPiece_good]
    simp only [decLoop]
    split
    · split
      · exact decLoop_good k _ _ _ _ _ h2
      · exact decLoop_good k _ _ _ _ _ h2
    · exact h
set_option maxHeartbeats 4000000 in
set_option maxRecDepth 100000 in
theorem decode_calls (A : Option Addr) (c : Nat) (bs : List Int) (w : World) (hC : Kd.C (Kd.int .u8) w A bs.length bs) (hc : bs.length ≤ c) (hl : bs.length ≤ 1000000000) :
    Calls Try.prog 30 #[.slice A bs.length c] w fun e w' => ∃ v, e = .returned (.tuple #[v, .int .i64 (decF bs).2]) ∧ Kd.R k80 80 w' w.heap.size (fun _ => True) v (decF bs).1 ∧ Below w.heap.size w w' := by
  have hu80 := Try.underlying80
  have hu71 := Try.underlying71
  have HC := Aside0.mk hC
  clear hC
  go_enter Try.func30, Try.ntmps30
  go_wp2_with fail
  refine (read_calls A c bs _ HC.out hc hl).mono ?_
  rintro e w1 ⟨g, rfl, hs, hg, hb⟩
  have HS1 := Aside0.mk hs.narrow
  have hgl := hs.lt
  have HG := Aside0.mk hg
  have HB1 := Aside0.mk hb
  clear hs hg hb
  have HD : Aside0 (decRd bs = decLoop 256 (if 256 < (rintF ⟨bs, 0⟩).1 then 256 else (rintF ⟨bs, 0⟩).1) 0 0 [] (rintF ⟨bs, 0⟩).2) := ⟨rfl⟩
  have hrc := rint_calls g ⟨bs, 0⟩ w1 HS1.out
  generalize rintF ⟨bs, 0⟩ = r at HD hrc
  have HRC := Aside0.mk hrc
  clear hrc
  obtain ⟨m, s1⟩ := r
  simp only at HRC HD
  obtain ⟨n, hn⟩ : ∃ n, n = (if 256 < m then 256 else m) := ⟨_, rfl⟩
  have HN := Aside0.mk hn
  rw [← hn] at HD
  have hn256 : n ≤ 256 := by rw [hn]; split <;> omega
  clear hn
  go_upto_region 4 with fail
  go_cut [8] (fun s8 wx => s8 = .int .i64 n ∧ Aside0 (RS (fun k => k < w1.heap.size) g s1 wx) ∧ Aside0 (w1.grownBy wx (some g)))
  case first =>
    go_wp2_with fail
    refine HRC.out.mono ?_
    rintro e w2 ⟨rfl, hs, hgr⟩
    have HS2 := Aside0.mk (hs.mono (fun k hk => hk.2))
    have HG2 := Aside0.mk hgr
    clear hs hgr
    by_cases h : 256 < m
    · have hq : n = 256 := by rw [HN.out, if_pos h]
      have HQ := Aside0.mk hq
      clear hq
      go_wp2
      go_meet
      exact ⟨by rw [HQ.out], HS2, HG2⟩
    · have hq : n = m := by rw [HN.out, if_neg h]
      have HQ := Aside0.mk hq
      clear hq
      go_wp2
      go_meet
      exact ⟨by rw [HQ.out], HS2, HG2⟩
  case rest =>
    obtain ⟨rfl, HS2, HG2⟩ := hcut
    obtain ⟨w2, rfl⟩ : ∃ w2 : World, w2 = wc := ⟨_, rfl⟩
    go_wp2
    go_loopg [5, 6, 7] 256 (fun kq v5 v6 v7 wr => ∃ (acc : List S80) (row fr : Int) (s : Rd) (A6 : Option Addr) (m6 c6 : Nat), v5 = .slice A6 m6 c6 ∧ v6 = .int .i64 row ∧ v7 = .int .i64 fr ∧
      Aside0 (acc.length + kq = 256 ∧ 0 ≤ row ∧ row + kq ≤ 256 ∧ decLoop kq n row fr acc s = decRd bs ∧ m6 = acc.length) ∧ Aside0 (RS (fun k => k < w1.heap.size) g s wr) ∧ Aside0 (Kd.R k80 80 wr w1.heap.size (fun k => k ≠ g) (.slice A6 m6 c6) acc) ∧ Aside0 (w1.grownBy wr (some g)))
    case atStart => exact ⟨[], 0, 0, s1, none, 0, 0, rfl, rfl, rfl, ⟨rfl, by omega, by omega, HD.out.symm, rfl⟩, HS2, ⟨Kd.R_nil _ _ _ _ _⟩, HG2⟩
    case round =>
      obtain ⟨acc, row, fr, s, A6, m6, c6, rfl, rfl, rfl, HI, HS, HL, HG3⟩ := hrel
      obtain ⟨W, rfl⟩ : ∃ W : World, W = wr := ⟨_, rfl⟩
      obtain rfl := HI.out.2.2.2.2
      by_cases hlt : (acc.length : Int) < n
      · go_upto_region 6 with fail
        have hr1 := Aside0.mk (rint_calls g s W HS.out)
        have HDP : Aside0 (decPiece row fr s = if 0 ≤ (rintF (rintF s).2).1 then
            (⟨row, fr, (rintF s).1, ⟨(rintF (rintF s).2).1, (rintF (rintF (rintF s).2).2).1, (rintF (rintF (rintF (rintF s).2).2).2).1, (uintF (rintF (rintF (rintF (rintF (rintF (rintF s).2).2).2).2).2).2).1⟩,
              (rintF (rintF (rintF (rintF (rintF s).2).2).2).2).1, (rintF (rintF (rintF (rintF (rintF (rintF s).2).2).2).2).2).1⟩, (uintF (rintF (rintF (rintF (rintF (rintF (rintF s).2).2).2).2).2).2).2)
          else (⟨row, fr, (rintF s).1, ⟨(rintF (rintF s).2).1, 0, 0, 0⟩, 0, 0⟩, (rintF (rintF s).2).2)) := ⟨rfl⟩
        generalize rintF s = q1 at hr1 HDP
        obtain ⟨tv, s2⟩ := q1
        simp only at hr1 HDP
        generalize hq2 : rintF s2 = q2 at HDP
        obtain ⟨sc, s3⟩ := q2
        simp only at HDP
        have hr2 : ∀ W' : World, RS (fun k => k < w1.heap.size) g s2 W' → Calls Try.prog 52 #[.pointer (some ⟨g, 0, none⟩)] W' fun e w' => e = .returned (.int .i64 sc) ∧ RS (fun k => k < w1.heap.size) g s3 w' ∧ W'.grownBy w' (some g) := by
          intro W' h
          have := rint_calls g s2 W' h
          rw [hq2] at this
          exact this
        have HR2 := Aside0.mk hr2
        clear hq2 hr2
        go_cut [9] (fun s9 wx => ∃ gp : Nat, s9 = .pointer (some ⟨gp, 0, none⟩) ∧ Aside0 (wx.heap[gp]? = some (.cells (cellsP ⟨row, fr, tv, ⟨sc, 0, 0, 0⟩, 0, 0⟩) 80 (0, 0)) ∧ w1.heap.size ≤ gp) ∧ Aside0 (RS (fun k => k < w1.heap.size) g s3 wx) ∧ Aside0 (Kd.R k80 80 wx w1.heap.size (fun k => k ≠ g ∧ k ≠ gp) (.slice A6 acc.length c6) acc) ∧ Aside0 (w1.grownBy wx (some g)))
        case first =>
          go_wp2_with fail
          refine hr1.out.mono ?_
          rintro e w3 ⟨rfl, hs, hgr⟩
          have HS3 := Aside0.mk hs
          have HG4 := Aside0.mk hgr
          clear hs hgr
          go_wp2_with fail
          refine (HR2.out _ HS3.out).mono ?_
          rintro e w4 ⟨rfl, hs, hgr⟩
          have HS4 := Aside0.mk hs
          have HG5 := Aside0.mk (HG4.out.trans hgr)
          clear hs hgr
          go_wp2
          go_meet
          have hsz := HG5.out.size
          have hsz3 := HG3.out.size
          have hL2 := Kd.R_grown HL.out HG5.out (fun k hk e => hk (Option.some.inj e))
          refine ⟨_, rfl, ⟨blk_new _ _, by omega⟩, ⟨HS4.out.below (below_alloc (Below.refl _ _) _)⟩, ⟨Kd.R_below (Kd.R_mono (Kd.R_bound hL2) (fun k hk => ⟨hk.1, fun e => by have := hk.2.2.1; omega⟩)) (below_alloc (Below.refl _ _) _)⟩, ⟨(HG3.out.trans HG5.out).trans (World.grownBy_alloc _ _ _)⟩⟩
        case rest =>
          obtain ⟨gp, rfl, HP, HS3, HL3, HG4⟩ := hcut
          obtain ⟨w3, rfl⟩ : ∃ w3 : World, w3 = wc := ⟨_, rfl⟩
          have hgne : gp ≠ g := by have := HP.out.2; omega
          have hg1 : w1.heap.size ≤ gp := HP.out.2
          clear hr1 HR2 HS HL
          obtain ⟨p0, hp0⟩ : ∃ p0 : S80, p0 = ⟨row, fr, tv, ⟨sc, 0, 0, 0⟩, 0, 0⟩ := ⟨_, rfl⟩
          have HP0 := Aside0.mk hp0
          rw [← hp0] at HP
          clear hp0
          obtain ⟨c0, c1, c2, c3, c4, c5, c6', c7, c8⟩ := at_PT (p := p0) (t := p0.f2) HP.out.1
          have hsc : p0.f3.f0 = sc := by rw [HP0.out]
          rw [hsc] at c3
          clear c0 c1 c2 c4 c5 c6' c7 c8 hsc
          go_upto_if 32 with fail
          go_cut [] (fun wx => Aside0 (wx.heap[gp]? = some (.cells (cellsP (decPiece row fr s).1) 80 (0, 0))) ∧ Aside0 (RS (fun k => k < w1.heap.size) g (decPiece row fr s).2 wx) ∧ Aside0 (Kd.R k80 80 wx w1.heap.size (fun k => k ≠ g ∧ k ≠ gp) (.slice A6 acc.length c6) acc) ∧ Aside0 (w1.grownBy wx (some g)))
          case first =>
            by_cases h0 : 0 ≤ sc
            · have HQ := Aside0.mk (HDP.out.trans (if_pos h0))
              clear HDP
              have hra := rint_calls g s3 w3 HS3.out
              generalize rintF s3 = qa at hra HQ
              obtain ⟨a, sa⟩ := qa
              simp only at hra HQ
              have HRA := Aside0.mk hra
              clear hra
              generalize hqb : rintF sa = qb at HQ
              obtain ⟨b, sb⟩ := qb
              simp only at HQ
              generalize hqc : rintF sb = qc at HQ
              obtain ⟨cc, sc2⟩ := qc
              simp only at HQ
              generalize hqd : rintF sc2 = qd at HQ
              obtain ⟨dd, sd⟩ := qd
              simp only at HQ
              generalize hqe : uintF sd = qe at HQ
              obtain ⟨uu, se⟩ := qe
              simp only at HQ
              have HRB : Aside0 (∀ W' : World, RS (fun k => k < w1.heap.size) g sa W' → Calls Try.prog 52 #[.pointer (some ⟨g, 0, none⟩)] W' fun e w' => e = .returned (.int .i64 b) ∧ RS (fun k => k < w1.heap.size) g sb w' ∧ W'.grownBy w' (some g)) := ⟨fun W' h => by have := rint_calls g sa W' h; rw [hqb] at this; exact this⟩
              have HRC2 : Aside0 (∀ W' : World, RS (fun k => k < w1.heap.size) g sb W' → Calls Try.prog 52 #[.pointer (some ⟨g, 0, none⟩)] W' fun e w' => e = .returned (.int .i64 cc) ∧ RS (fun k => k < w1.heap.size) g sc2 w' ∧ W'.grownBy w' (some g)) := ⟨fun W' h => by have := rint_calls g sb W' h; rw [hqc] at this; exact this⟩
              have HRD : Aside0 (∀ W' : World, RS (fun k => k < w1.heap.size) g sc2 W' → Calls Try.prog 52 #[.pointer (some ⟨g, 0, none⟩)] W' fun e w' => e = .returned (.int .i64 dd) ∧ RS (fun k => k < w1.heap.size) g sd w' ∧ W'.grownBy w' (some g)) := ⟨fun W' h => by have := rint_calls g sc2 W' h; rw [hqd] at this; exact this⟩
              have HRE : Aside0 (∀ W' : World, RS (fun k => k < w1.heap.size) g sd W' → Calls Try.prog 53 #[.pointer (some ⟨g, 0, none⟩)] W' fun e w' => e = .returned (.int .u64 uu) ∧ RS (fun k => k < w1.heap.size) g se w' ∧ W'.grownBy w' (some g)) := ⟨fun W' h => by have := ruint_calls g sd W' h; rw [hqe] at this; exact this⟩
              clear hqb hqc hqd hqe
              go_wp2_with fail
              refine HRA.out.mono ?_
              rintro e w4 ⟨rfl, hs, hgr⟩
              have HS4 := Aside0.mk hs
              have HX4 := Aside0.mk hgr
              clear hs hgr c3
              go_wp2_with fail
              refine (HRB.out _ HS4.out).mono ?_
              rintro e w5 ⟨rfl, hs, hgr⟩
              have HS5 := Aside0.mk hs
              have HX5 := Aside0.mk (HX4.out.trans hgr)
              clear hs hgr
              go_wp2_with fail
              refine (HRC2.out _ HS5.out).mono ?_
              rintro e w6 ⟨rfl, hs, hgr⟩
              have HS6 := Aside0.mk hs
              have HX6 := Aside0.mk (HX5.out.trans hgr)
              clear hs hgr
              go_wp2_with fail
              refine (HRD.out _ HS6.out).mono ?_
              rintro e w7 ⟨rfl, hs, hgr⟩
              have HS7 := Aside0.mk hs
              have HX7 := Aside0.mk (HX6.out.trans hgr)
              clear hs hgr
              go_wp2_with fail
              refine (HRE.out _ HS7.out).mono ?_
              rintro e w8 ⟨rfl, hs, hgr⟩
              have HS8 := Aside0.mk hs
              have HX8 := Aside0.mk (HX7.out.trans hgr)
              clear hs hgr
              have HP8 := Aside0.mk (blk_grown HP.out.1 HX8.out (fun e => hgne (Option.some.inj e)))
              have HL8 := Aside0.mk (Kd.R_grown HL3.out HX8.out (fun k hk e => hk.1 (Option.some.inj e)))
              clear HS4 HS5 HS6 HS7 HX4 HX5 HX6 HX7 HRA HRB HRC2 HRD HRE
              have d4 : w8.cell? ⟨gp, 4, none⟩ = some (.int .i64 p0.f3.f1) := blk_cell HP8.out 4
              have d5 : w8.cell? ⟨gp, 5, none⟩ = some (.int .i64 p0.f3.f2) := blk_cell HP8.out 5
              have d6 : w8.cell? ⟨gp, 6, none⟩ = some (.int .u64 p0.f3.f3) := blk_cell HP8.out 6
              have d7 : w8.cell? ⟨gp, 7, none⟩ = some (.int .i64 p0.f4) := blk_cell HP8.out 7
              have d8 : w8.cell? ⟨gp, 8, none⟩ = some (.int .i64 p0.f5) := blk_cell HP8.out 8
              have z4 := blk_frozen HP8.out 4
              have z5 := blk_frozen HP8.out 5
              have z6 := blk_frozen HP8.out 6
              have z7 := blk_frozen HP8.out 7
              have z8 := blk_frozen HP8.out 8
              go_wp2
              go_meet
              rw [HQ.out]
              have g0 := HP8.out
              rw [HP0.out] at g0
              have e1 := blk_put (cs' := #[.int .i64 row, .int .i64 fr, .int .i64 tv, .int .i64 sc, .int .i64 a, .int .i64 0, .int .u64 0, .int .i64 0, .int .i64 0]) g0 4 (.int .i64 a) rfl
              have e2 := blk_put (cs' := #[.int .i64 row, .int .i64 fr, .int .i64 tv, .int .i64 sc, .int .i64 a, .int .i64 b, .int .u64 0, .int .i64 0, .int .i64 0]) e1 5 (.int .i64 b) rfl
              have e3 := blk_put (cs' := #[.int .i64 row, .int .i64 fr, .int .i64 tv, .int .i64 sc, .int .i64 a, .int .i64 b, .int .u64 0, .int .i64 cc, .int .i64 0]) e2 7 (.int .i64 cc) rfl
              have e4 := blk_put (cs' := #[.int .i64 row, .int .i64 fr, .int .i64 tv, .int .i64 sc, .int .i64 a, .int .i64 b, .int .u64 0, .int .i64 cc, .int .i64 dd]) e3 8 (.int .i64 dd) rfl
              have e5 := blk_put (cs' := #[.int .i64 row, .int .i64 fr, .int .i64 tv, .int .i64 sc, .int .i64 a, .int .i64 b, .int .u64 uu, .int .i64 cc, .int .i64 dd]) e4 6 (.int .u64 uu) rfl
              have hset : ∀ (W' : World) (j : Nat) (u : Value), RS (fun k => k < w1.heap.size) g se W' → RS (fun k => k < w1.heap.size) g se (W'.setCell ⟨gp, j, none⟩ u) := fun W' j u h => h.grown (grown_set W' gp j u) (fun e => hgne (Option.some.inj e).symm) (fun k hk e => by have := Option.some.inj e; omega)
              have hrow : ∀ (W' : World) (j : Nat) (u : Value), Kd.R k80 80 W' w1.heap.size (fun k => k ≠ g ∧ k ≠ gp) (.slice A6 acc.length c6) acc → Kd.R k80 80 (W'.setCell ⟨gp, j, none⟩ u) w1.heap.size (fun k => k ≠ g ∧ k ≠ gp) (.slice A6 acc.length c6) acc := fun W' j u h => Kd.R_far (p := ⟨gp, j, none⟩) h (fun k hk => hk.2) u
              have hgr : ∀ (W' : World) (j : Nat) (u : Value), w1.grownBy W' (some g) → w1.grownBy (W'.setCell ⟨gp, j, none⟩ u) (some g) := fun W' j u h => h.andThen (grown_set W' gp j u) (fun k hk => .inl (by have := Option.some.inj hk; omega))
              exact ⟨⟨e5⟩, ⟨hset _ _ _ (hset _ _ _ (hset _ _ _ (hset _ _ _ (hset _ _ _ HS8.out))))⟩, ⟨hrow _ _ _ (hrow _ _ _ (hrow _ _ _ (hrow _ _ _ (hrow _ _ _ HL8.out))))⟩, ⟨hgr _ _ _ (hgr _ _ _ (hgr _ _ _ (hgr _ _ _ (hgr _ _ _ (HG4.out.trans HX8.out)))))⟩⟩
            · have HQ := Aside0.mk (HDP.out.trans (if_neg h0))
              clear HDP
              go_wp2
              go_meet
              rw [HQ.out]
              exact ⟨⟨by rw [← HP0.out]; exact HP.out.1⟩, HS3, HL3, HG4⟩
          case rest =>
            obtain ⟨HP5, HS5, HL5, HG5⟩ := hcut
            obtain ⟨w5, rfl⟩ : ∃ w5 : World, w5 = wc := ⟨_, rfl⟩
            have HU := HI.out.2.2.2.1
            have HI' := Aside0.mk (And.intro HI.out.1 HI.out.2.1)
            have hrow0 : 0 ≤ row := HI.out.2.1
            have hrow1 : row ≤ 256 := by have := HI.out.2.2.1; omega
            obtain ⟨k', rfl⟩ : ∃ k', gk = k' + 1 := by
              cases gk with
              | zero => have := HI.out.1; omega
              | succ k' => exact ⟨k', rfl⟩
            simp only [decLoop] at HU
            rw [if_pos hlt] at HU
            have HV := Aside0.mk HU
            have hI1 : acc.length + (k' + 1) = 256 := HI.out.1
            have hI3 : row + ((k' + 1 : Nat) : Int) ≤ 256 := HI.out.2.2.1
            clear HU HI c3 HP HS3 HL3 HG4 HDP
            generalize decPiece row fr s = dp at HP5 HS5 HV
            obtain ⟨p, s9⟩ := dp
            simp only at HP5 HS5 HV
            obtain ⟨c0, c1, c2, c3, c4, c5, c6', c7, c8⟩ := at_PT (p := p) (t := p.f2) HP5.out
            have hsz5 : w1.heap.size ≤ w5.heap.size := HG5.out.size
            have hwr : wrap64 (row + 1) = row + 1 := by unfold wrap64; omega
            by_cases h16 : 16 ≤ p.f2
            all_goals go_wp2_with (at_builtin; refine Kd.R_append k80 (w0 := w5) w1.heap.size rfl (.tmp 51) (.tmp 53) 27 80 (.agg #[(.int .i64 0), (.int .i64 0), (.int .i64 0), (.int .i64 0), (.int .i64 0), (.int .i64 0), (.int .u64 0), (.int .i64 0), (.int .i64 0)]) 72 rfl Try.underlying27 info80 rfl (by decide) (by omega) (.slice A6 acc.length c6) acc p [.int .i64 p.f0, .int .i64 p.f1, .int .i64 p.f2, .int .i64 p.f3.f0, .int .i64 p.f3.f1, .int .i64 p.f3.f2, .int .u64 p.f3.f3, .int .i64 p.f4, .int .i64 p.f5] (fun k => k ≠ g ∧ k ≠ gp) (fun _ => False) rfl rfl ?aP (fun _ hk => hk.elim) ?aF HL5.out ?aB ?aS ?aL ?_; (case aP => exact k80_mkM _ _ _ p); (case aF => exact fun k hk => ⟨by omega, by have := blk_lt HP5.out; omega⟩); (case aB => exact Below.refl _ _); (case aS => exact hsz5); (case aL => omega); intro v1 w6 ho hb hg hat; have HO6 := Aside0.mk ho; have HG6 := Aside0.mk hg; have HNE := Aside0.mk (HL5.out.1); have HB6 := Aside0.mk (Kd.R_own HL5.out); have m2 := (at_PT (p := p) (t := p.f2) (blk_grown HP5.out hg (fun e => (HL5.out.1 gp e.symm).2 rfl))).2.2.1; clear ho hb hg hat; obtain ⟨A7, c7', rfl⟩ := Kd.R_slice HO6.out)
            all_goals
              have hS : RS (fun k => k < w1.heap.size) g s9 w6 := HS5.out.grown HG6.out (fun e => (HL5.out.1 g e.symm).1 rfl) (fun k hk e => by
                obtain ⟨inner, ho⟩ := Kd.R_own HL5.out
                have := own_base ho k e.symm
                omega)
              have hR : Kd.R k80 80 w6 w1.heap.size (fun k => k ≠ g) (.slice A7 (acc ++ [p]).length c7') (acc ++ [p]) := Kd.R_mono HO6.out (fun k hk => hk.1)
              have hG : w1.grownBy w6 (some g) := HG5.out.andThen HG6.out (fun k hk => .inl (by
                obtain ⟨inner, ho⟩ := Kd.R_own HL5.out
                exact own_base ho k hk))
              have HH := Aside0.mk (And.intro hS (And.intro hR hG))
              clear hS hR hG
              go_roundg k'
            case measure => omega
            case rel =>
              have hV := HV.out
              rw [if_pos h16] at hV
              exact ⟨acc ++ [p], row + 1, 0, s9, A7, _, c7', rfl, rfl, rfl, ⟨by simp; omega, by omega, by omega, hV, by simp⟩, ⟨HH.out.1⟩, ⟨by simpa using HH.out.2.1⟩, ⟨HH.out.2.2⟩⟩
            case measure => omega
            case rel =>
              have hV := HV.out
              rw [if_neg (by omega)] at hV
              exact ⟨acc ++ [p], row, p.f2, s9, A7, _, c7', rfl, rfl, rfl, ⟨by simp; omega, by omega, by omega, hV, by simp⟩, ⟨HH.out.1⟩, ⟨by simpa using HH.out.2.1⟩, ⟨HH.out.2.2⟩⟩
      · have HU := HI.out.2.2.2.1
        have hend : decLoop gk n row fr acc s = (acc, s) := by
          cases gk with
          | zero => rfl
          | succ k' => simp only [decLoop]; rw [if_neg hlt]
        rw [hend] at HU
        have HV := Aside0.mk HU
        have hlen : acc.length ≤ 256 := by have := HI.out.1; omega
        clear HU hend HI HD
        have hgood : acc.all goodU = true := by
          have h := decLoop_good 256 (if 256 < (rintF ⟨bs, 0⟩).1 then 256 else (rintF ⟨bs, 0⟩).1) 0 0 [] (rintF ⟨bs, 0⟩).2 rfl
          have h2 : (decRd bs).1.all goodU = true := h
          rw [← HV.out] at h2
          exact h2
        have HGD := Aside0.mk hgood
        obtain ⟨_, hc6, hCl⟩ := Kd.R_reads' HL.out
        have HCl := Aside0.mk hCl
        clear hgood hCl
        have HDF : Aside0 (decF bs = if endF s = 0 ∧ (encF acc).2 = 0 ∧ ((strOfNums (encF acc).1).toList == (strOfNums bs).toList) = true then (acc, 0) else ([], 2)) := ⟨by unfold decF; rw [← HV.out]⟩
        have HBW := Aside0.mk (HB1.out.grown HG3.out HB1.out.size (fun k hk => by have := Option.some.inj hk; have := HG.out; omega))
        go_wp2_with fail
        refine (encode_calls A6 c6 acc HGD.out _ HCl.out hc6).mono ?_
        rintro e w6 ⟨v9, rfl, hR9, hB9⟩
        have HR9 := Aside0.mk hR9
        have HS6 := Aside0.mk (HS.out.below hB9)
        have HL6 := Aside0.mk (Kd.R_below HL.out hB9)
        have HB6 := Aside0.mk (below_step HBW.out hB9)
        clear hR9 hB9
        obtain ⟨A9, c9, rfl⟩ := Kd.R_slice HR9.out
        obtain ⟨_, hc9, hC9⟩ := Kd.R_reads' HR9.out
        have HC9 := Aside0.mk hC9
        clear hC9
        go_wp2_with fail
        refine (end_calls g s _ HS6.out).mono ?_
        rintro e w7 ⟨rfl, rfl⟩
        by_cases h1 : endF s = 0
        · by_cases h2 : (encF acc).2 = 0
          · have hbe : endF s = 0 ∧ (encF acc).2 = 0 := ⟨h1, h2⟩
            have HBE := Aside0.mk hbe
            rw [h1]
            rw [h2]
            clear hbe h1 h2
            cases heq : ((strOfNums (encF acc).1).toList == (strOfNums bs).toList) with
            | true =>
              have HQ : Aside0 (decF bs = (acc, 0)) := ⟨HDF.out.trans (if_pos ⟨HBE.out.1, HBE.out.2, heq⟩)⟩
              have HE := Aside0.mk heq
              clear heq HDF HBE
              go_wp2_with (go_at_call 55; refine (bytes_Equal.calls A9 c9 (encF acc).1 A c bs true _ HC9.out hc9 (Kd.C_below HC.out HB6.out) hc (by unfold bytes_Equal.f; rw [HE.out])).mono ?_; rintro e w8 ⟨rfl, hd⟩; have HD8 := Aside0.mk hd.below; clear hd)
              go_ret2
              rw [HQ.out]
              exact ⟨_, rfl, Kd.R_mono (Kd.R_lower (Kd.R_below HL6.out HD8.out) HB1.out.size) (fun _ _ => trivial), below_step HB6.out HD8.out⟩
            | false =>
              have HQ : Aside0 (decF bs = ([], 2)) := ⟨HDF.out.trans (if_neg (fun h => by rw [heq] at h; exact absurd h.2.2 (by decide)))⟩
              have HE := Aside0.mk heq
              clear heq HDF HBE
              go_wp2_with (go_at_call 55; refine (bytes_Equal.calls A9 c9 (encF acc).1 A c bs false _ HC9.out hc9 (Kd.C_below HC.out HB6.out) hc (by unfold bytes_Equal.f; rw [HE.out])).mono ?_; rintro e w8 ⟨rfl, hd⟩; have HD8 := Aside0.mk hd.below; clear hd)
              go_ret2
              rw [HQ.out]
              exact ⟨_, rfl, Kd.R_nil _ _ _ _ _, below_step HB6.out HD8.out⟩
          · have HQ : Aside0 (decF bs = ([], 2)) := ⟨HDF.out.trans (if_neg (fun h => h2 h.2.1))⟩
            have hb2 : ((encF acc).2 == 0) = false := beq_eq_false_iff_ne.mpr h2
            have hb3 : ((encF acc).2 != 0) = true := by rw [bne, hb2]; rfl
            rw [h1]
            clear h1 h2 HDF
            go_wp2
            go_ret2
            rw [HQ.out]
            exact ⟨_, rfl, Kd.R_nil _ _ _ _ _, HB6.out⟩
        · have HQ : Aside0 (decF bs = ([], 2)) := ⟨HDF.out.trans (if_neg (fun h => h1 h.1))⟩
          have hb2 : (endF s == 0) = false := beq_eq_false_iff_ne.mpr h1
          have hb3 : (endF s != 0) = true := by rw [bne, hb2]; rfl
          clear h1 HDF
          go_wp2
          go_ret2
          rw [HQ.out]
          exact ⟨_, rfl, Kd.R_nil _ _ _ _ _, HB6.out⟩
end Go.Proofs.Ytgmbjgddelcceaa.P
