import Derived.Test.YtgmbjgddelcceaaQGivenF
namespace Go.Proofs.Ytgmbjgddelcceaa.P
open Go.RowKit Go.Proofs.YtgmbjgddelcceaaW.PrintWords Go.Proofs.YtgmbjgddelcceaaW.PrintLast Go.Proofs.YtgmbjgddelcceaaW.PrintMore
attribute [local go_sem] max2_int min2_int max_two min_two max_three min_three max_four min_four
attribute [local go_sem high] eqA71
set_option linter.unusedVariables false
set_option linter.unusedSimpArgs false
def inQ (x n : Int) : Bool := decide (0 ≤ x) && (decide (0 ≤ n) && (decide (x ≤ 16) && decide (n ≤ 16 - x)))
theorem in_calls (x n : Int) (w : World) : Calls Try.prog 45 #[.int .i64 x, .int .i64 n] w fun e w' => e = .returned (.bool (inQ x n)) ∧ w = w' := by
  by_cases h1 : 0 ≤ x
  · by_cases h2 : 0 ≤ n
    · by_cases h3 : x ≤ 16
      · by_cases h4 : n ≤ 16 - x
        · have hf : inQ x n = true := by simp [inQ, h1, h2, h3, h4]
          rw [hf]
          go_enter Try.func45, Try.ntmps45
          go_wp2
          go_ret
          exact ⟨rfl, rfl⟩
        · have hf : inQ x n = false := by simp [inQ, h4]
          rw [hf]
          go_enter Try.func45, Try.ntmps45
          go_wp2
          go_ret
          exact ⟨rfl, rfl⟩
      · have hf : inQ x n = false := by simp [inQ, h3]
        rw [hf]
        go_enter Try.func45, Try.ntmps45
        go_wp2
        go_ret
        exact ⟨rfl, rfl⟩
    · have hf : inQ x n = false := by simp [inQ, h2]
      rw [hf]
      go_enter Try.func45, Try.ntmps45
      go_wp2
      go_ret
      exact ⟨rfl, rfl⟩
  · have hf : inQ x n = false := by simp [inQ, h1]
    rw [hf]
    go_enter Try.func45, Try.ntmps45
    go_wp2
    go_ret
    exact ⟨rfl, rfl⟩
def winOf (all : List S71) (fr wd : Int) : List S71 := (all.take (fr + wd).toNat).drop fr.toNat
def rowsQ (all : List S71) (x y wd : Int) : Nat → Int → List S71
  | 0, _ => []
  | k + 1, r => winOf all ((y + r) * 16 + x) wd ++ rowsQ all x y wd k (r + 1)
def queryF (l : List S80) (x y wd h : Int) : List S71 × Int :=
  if (unpackF l).2 = 0 then
    if inQ x wd && inQ y h then (rowsQ (unpackF l).1 x y wd h.toNat 0, 0) else ([], 5)
  else ([], (unpackF l).2)
theorem unpackF_len (l : List S80) (h : (unpackF l).2 = 0) : (unpackF l).1.length = 256 := by
  unfold unpackF at h ⊢
  cases hg : unpackGo l [] with
  | none => rw [hg] at h; cases h
  | some out =>
    rw [hg] at h
    simp only at h ⊢
    by_cases c1 : (out.length : Int) = 256
    · rw [if_pos c1] at h ⊢
      by_cases c2 : packL out = l
      · rw [if_pos c2]; exact Int.ofNat.inj c1
      · rw [if_neg c2] at h; cases h
    · rw [if_neg c1] at h; cases h
theorem win_cut (A : Option Addr) (c : Nat) (xs : List S71) (hx : xs.length = 256) (hc : 256 ≤ c) (fr wd : Int) (h0 : 0 ≤ fr) (h1 : 0 ≤ wd) (h2 : fr + wd ≤ 256) :
    ∃ (A' : Option Addr) (c' : Nat), (∀ W : World, (Instr.slice 23 (.slice A 256 c) (some (.int .i64 fr)) (some (.int .i64 (fr + wd))) none).run Try.prog W = .ok (.slice A' wd.toNat c') W) ∧ (∀ W : World, Kd.C k71 W A 256 xs → Kd.C k71 W A' wd.toNat (winOf xs fr wd)) ∧ wd.toNat ≤ c' := by
  obtain ⟨i0, hi0, _, hsz, _⟩ := info_parts info71
  have h := cut_mid (P := Try.prog) 23 71 .i64 .i64 Try.underlying23 hi0 4 hsz A 256 c fr (fr + wd) h0 (by omega) (by omega) hc
  refine ⟨if c = fr.toNat then A else A.map (·.add (fr.toNat * 4)), c - fr.toNat, ?_, ?_, by omega⟩
  · intro W
    rw [h W, show (fr + wd).toNat - fr.toNat = wd.toNat from by omega]
  · intro W hC
    have hm := Kd.C_mid (k := k71) (c := c) (lo := fr.toNat) (hi := (fr + wd).toNat) (xs := xs) (by rw [hx]; exact hC) (by omega) (by omega) (by omega)
    have hl : (winOf xs fr wd).length = wd.toNat := by simp [winOf, List.length_drop, List.length_take]; omega
    unfold winOf at hl
    rw [hl] at hm
    exact hm
theorem winOf_len (xs : List S71) (hx : xs.length = 256) (fr wd : Int) (h0 : 0 ≤ fr) (h1 : 0 ≤ wd) (h2 : fr + wd ≤ 256) : (winOf xs fr wd).length = wd.toNat := by
  simp [winOf, List.length_drop, List.length_take]; omega
set_option maxHeartbeats 2000000 in
set_option maxRecDepth 100000 in
theorem query_calls (A0 : Option Addr) (c0 : Nat) (l0 : List S80) (x y wd h : Int) (w : World) (hr0 : Kd.C k80 w A0 l0.length l0) (hc0 : l0.length ≤ c0) :
    Calls Try.prog 19 #[.slice A0 l0.length c0, .agg #[.int .i64 x, .int .i64 y, .int .i64 wd, .int .i64 h]] w fun e w' => ∃ v0_ : Value, e = .returned (.tuple #[v0_, .int .i64 (queryF l0 x y wd h).2]) ∧ Kd.R k71 71 w' w.heap.size (fun _ => True) v0_ (queryF l0 x y wd h).1 ∧ Below w.heap.size w w' := by
  have hu42 := Try.underlying42
  have hu71 := Try.underlying71
  have HR := Aside0.mk hr0
  clear hr0
  by_cases he : (unpackF l0).2 = 0
  · have HE := Aside0.mk he
    by_cases h1 : inQ x wd = true
    · by_cases h2 : inQ y h = true
      · have hq : queryF l0 x y wd h = (rowsQ (unpackF l0).1 x y wd h.toNat 0, 0) := by simp [queryF, he, h1, h2]
        rw [hq]
        obtain ⟨all, hall⟩ : ∃ all, (unpackF l0).1 = all := ⟨_, rfl⟩
        rw [hall]
        have HALL := Aside0.mk hall
        clear hall
        have H1 := Aside0.mk h1
        have H2 := Aside0.mk h2
        have hh1 := h1
        have hh2 := h2
        unfold inQ at hh1 hh2
        simp only [Bool.and_eq_true, decide_eq_true_eq] at hh1 hh2
        obtain ⟨x0, x1, x2, x3⟩ := hh1
        obtain ⟨y0, y1, y2, y3⟩ := hh2
        have HL := Aside0.mk (unpackF_len l0 he)
        go_enter Try.func19, Try.ntmps19
        go_wp2_with (first | (go_at_call 15; refine (unpack_calls A0 c0 l0 _ (Kd.C_alloc HR.out _) hc0).mono ?_; rintro e w1 ⟨v, rfl, ho, hb⟩; have HX := blk_below (blk_new w _) hb; have b0 : w1.cell? ⟨w.heap.size, 0, none⟩ = some (.int .i64 x) := blk_cell HX 0; have b1 : w1.cell? ⟨w.heap.size, 1, none⟩ = some (.int .i64 y) := blk_cell HX 1; have b2 : w1.cell? ⟨w.heap.size, 2, none⟩ = some (.int .i64 wd) := blk_cell HX 2; have b3 : w1.cell? ⟨w.heap.size, 3, none⟩ = some (.int .i64 h) := blk_cell HX 3) | (go_at_call 45; refine (in_calls _ _ _).mono ?_; rintro e w' ⟨rfl, rfl⟩))
        have ho := HALL.out ▸ ho
        have hlen := HL.out
        rw [HALL.out] at hlen
        obtain ⟨Aa, ca, hv⟩ := Kd.R_slice ho
        rw [hlen] at hv
        subst hv
        obtain ⟨-, hca, hC⟩ := Kd.R_reads' ho
        rw [hlen] at hC
        have HC := Aside0.mk hC
        have HLN := Aside0.mk hlen
        have HB1 := Aside0.mk (below_step (below_alloc (Below.refl _ _) _) hb)
        have HXX := Aside0.mk HX
        clear hC hlen ho hb HX b0 b1 b2 b3
        go_loopw [9, 38] (fun v9 v38 wr => ∃ (r : Int) (out : List S71), v38 = .int .i64 r ∧ Aside0 (0 ≤ r ∧ r ≤ h ∧ out ++ rowsQ all x y wd (h - r).toNat r = rowsQ all x y wd h.toNat 0 ∧ (out.length : Int) ≤ r * 16) ∧ Aside0 (Kd.R k71 71 wr w1.heap.size (fun _ => True) v9 out) ∧ Aside0 (Below w1.heap.size w1 wr)) (fun _ v38 _ => h.toNat - (intOf v38).toNat)
        case atStart => exact ⟨0, [], rfl, ⟨by omega, by omega, by simp, by simp⟩, ⟨Kd.R_nil _ _ _ _ _⟩, ⟨Below.refl _ _⟩⟩
        case round =>
          obtain ⟨r, out, rfl, HI, HO, HB⟩ := hrel
          have h0 := HI.out.1
          have hlo := Aside0.mk HI.out.2.2.2
          by_cases hlt : r < h
          · obtain ⟨wo, rfl⟩ : ∃ wo : World, wo = wr := ⟨_, rfl⟩
            obtain ⟨A', c', hcut, hCC, hc'⟩ := win_cut Aa ca all HLN.out hca ((y + r) * 16 + x) wd (by omega) (by omega) (by omega)
            have HCC := Aside0.mk hCC
            clear hCC
            have HX := blk_below HXX.out HB.out
            have b0 : wo.cell? ⟨w.heap.size, 0, none⟩ = some (.int .i64 x) := blk_cell HX 0
            have b1 : wo.cell? ⟨w.heap.size, 1, none⟩ = some (.int .i64 y) := blk_cell HX 1
            have b2 : wo.cell? ⟨w.heap.size, 2, none⟩ = some (.int .i64 wd) := blk_cell HX 2
            have b3 : wo.cell? ⟨w.heap.size, 3, none⟩ = some (.int .i64 h) := blk_cell HX 3
            go_wp2_with (at_builtin; refine Kd.R_append_rows k71 (w0 := w1) w1.heap.size rfl (.tmp 49) (.tmp 56) 23 71 (.agg #[(.int .i64 0), (.int .i64 0), (.int .i64 0), (.int .u64 0)]) 32 rfl Try.underlying23 info71 rfl (by decide) (by omega) _ out (winOf all ((y + r) * 16 + x) wd) A' wd.toNat c' (fun _ => True) (fun _ => False) rfl rfl ?aO ?aR (fun _ _ h => h) (fun _ h => h.elim) (fun _ _ => trivial) ?aB ?aS ?aL ?_; (case aO => exact HO.out); (case aR => exact HCC.out _ (Kd.C_below HC.out HB.out)); (case aB => exact HB.out); (case aS => exact HB.out.size); (case aL => have := hlo.out; omega); intro v1 w2 ho hb hg hat; have HO4 := Aside0.mk ho; have HB4 := Aside0.mk hb; clear ho hb hg hat)
            go_roundw
            case rel =>
              have hl := hlo.out
              have hwl := winOf_len all HLN.out ((y + r) * 16 + x) wd (by omega) (by omega) (by omega)
              refine ⟨r + 1, out ++ winOf all ((y + r) * 16 + x) wd, rfl, ⟨by omega, by omega, ?_, by rw [List.length_append, hwl]; omega⟩, HO4, HB4⟩
              rw [← HI.out.2.2.1, List.append_assoc]
              rw [show (h - r).toNat = (h - (r + 1)).toNat + 1 from by omega]
              rfl
            case measure => simp [intOf]; omega
          · go_wp2
            go_ret2
            have e1 := HI.out.2.2.1
            rw [show (h - r).toNat = 0 from by have := HI.out.2.1; omega] at e1
            simp only [rowsQ, List.append_nil] at e1
            rw [e1] at HO
            exact ⟨_, rfl, Kd.R_lower HO.out HB1.out.size, below_step HB1.out HB.out⟩
      · simp only [Bool.not_eq_true] at h2
        have hq : queryF l0 x y wd h = ([], 5) := by simp [queryF, he, h1, h2]
        rw [hq]
        go_enter Try.func19, Try.ntmps19
        go_wp2_with (first | (go_at_call 15; refine (unpack_calls A0 c0 l0 _ (Kd.C_alloc HR.out _) hc0).mono ?_; rintro e w1 ⟨v, rfl, ho, hb⟩; have HX := blk_below (blk_new w _) hb; have b0 : w1.cell? ⟨w.heap.size, 0, none⟩ = some (.int .i64 x) := blk_cell HX 0; have b1 : w1.cell? ⟨w.heap.size, 1, none⟩ = some (.int .i64 y) := blk_cell HX 1; have b2 : w1.cell? ⟨w.heap.size, 2, none⟩ = some (.int .i64 wd) := blk_cell HX 2; have b3 : w1.cell? ⟨w.heap.size, 3, none⟩ = some (.int .i64 h) := blk_cell HX 3) | (go_at_call 45; refine (in_calls _ _ _).mono ?_; rintro e w' ⟨rfl, rfl⟩))
        go_ret2
        exact ⟨_, rfl, Kd.R_nil _ _ _ _ _, below_step (below_alloc (Below.refl _ _) _) hb⟩
    · simp only [Bool.not_eq_true] at h1
      have hq : queryF l0 x y wd h = ([], 5) := by simp [queryF, he, h1]
      rw [hq]
      go_enter Try.func19, Try.ntmps19
      go_wp2_with (first | (go_at_call 15; refine (unpack_calls A0 c0 l0 _ (Kd.C_alloc HR.out _) hc0).mono ?_; rintro e w1 ⟨v, rfl, ho, hb⟩; have HX := blk_below (blk_new w _) hb; have b0 : w1.cell? ⟨w.heap.size, 0, none⟩ = some (.int .i64 x) := blk_cell HX 0; have b1 : w1.cell? ⟨w.heap.size, 1, none⟩ = some (.int .i64 y) := blk_cell HX 1; have b2 : w1.cell? ⟨w.heap.size, 2, none⟩ = some (.int .i64 wd) := blk_cell HX 2; have b3 : w1.cell? ⟨w.heap.size, 3, none⟩ = some (.int .i64 h) := blk_cell HX 3) | (go_at_call 45; refine (in_calls _ _ _).mono ?_; rintro e w' ⟨rfl, rfl⟩))
      go_ret2
      exact ⟨_, rfl, Kd.R_nil _ _ _ _ _, below_step (below_alloc (Below.refl _ _) _) hb⟩
  · have hq : queryF l0 x y wd h = ([], (unpackF l0).2) := by simp [queryF, he]
    rw [hq]
    have hb : ((unpackF l0).2 != 0) = true := by rw [bne_iff_ne]; exact he
    have hb2 : ((unpackF l0).2 == 0) = false := by rw [beq_eq_false_iff_ne]; exact he
    clear he
    go_enter Try.func19, Try.ntmps19
    go_wp2_with (go_at_call 15; refine (unpack_calls A0 c0 l0 _ (Kd.C_alloc HR.out _) hc0).mono ?_; rintro e w' ⟨v, rfl, ho, hb⟩)
    go_ret2
    exact ⟨_, rfl, Kd.R_nil _ _ _ _ _, below_step (below_alloc (Below.refl _ _) _) hb⟩
end Go.Proofs.Ytgmbjgddelcceaa.P
