import Derived.Test.YtgmbjgddelcceaaUGivenC
namespace Go.Proofs.Ytgmbjgddelcceaa.P
open Go.RowKit Go.Proofs.YtgmbjgddelcceaaW.PrintWords Go.Proofs.YtgmbjgddelcceaaW.PrintLast Go.Proofs.YtgmbjgddelcceaaW.PrintMore
attribute [local go_sem] max2_int min2_int max_two min_two max_three min_three max_four min_four
attribute [local go_sem high] eqA71
set_option linter.unusedVariables false
set_option linter.unusedSimpArgs false
def rowP (row : Int) (l : List S71) : Nat → Int → List S80
  | 0, _ => []
  | k + 1, fr => if fr < 16 then beginF row l fr :: rowP row l k (beginF row l fr).f2 else []
def rowOf (xs : List S71) (r : Int) : List S71 := (xs.take ((r + 1) * 16).toNat).drop (r * 16).toNat
def packRows (xs : List S71) : Nat → Int → List S80
  | 0, _ => []
  | k + 1, r => rowP r (rowOf xs r) 16 0 ++ packRows xs k (r + 1)
def packL (xs : List S71) : List S80 := packRows xs 16 0
theorem extTo_range (xs : List S71) (p : S80) (fr : Int) : ∀ (k : Nat) (t : Int), t ≤ 16 → t ≤ extTo xs p fr k t ∧ extTo xs p fr k t ≤ 16
  | 0, t, h => ⟨Int.le_refl _, h⟩
  | k + 1, t, h => by
    simp only [extTo]
    split
    · split
      · have := extTo_range xs p fr k (t + 1) (by omega)
        omega
      · omega
    · omega
theorem beginF_to (row : Int) (l : List S71) (fr : Int) (h : fr < 16) : fr < (beginF row l fr).f2 ∧ (beginF row l fr).f2 ≤ 16 := by
  have := extTo_range l (begin0 row l fr) fr 16 (fr + 1) (by omega)
  show fr < extTo _ _ _ _ _ ∧ extTo _ _ _ _ _ ≤ 16
  omega
theorem rowOf_length (xs : List S71) (hx : xs.length = 256) (r : Int) (h0 : 0 ≤ r) (h1 : r < 16) : (rowOf xs r).length = 16 := by
  simp [rowOf, List.length_drop, List.length_take]; omega
theorem row_cut (A : Option Addr) (c : Nat) (xs : List S71) (hx : xs.length = 256) (hc : 256 ≤ c) (r : Int) (h0 : 0 ≤ r) (h1 : r < 16) :
    ∃ (A' : Option Addr) (c' : Nat), (∀ W : World, (Instr.slice 23 (.slice A 256 c) (some (.int .i64 (r * 16))) (some (.int .i64 ((r + 1) * 16))) none).run Try.prog W = .ok (.slice A' 16 c') W) ∧ (∀ W : World, Kd.C k71 W A 256 xs → Kd.C k71 W A' 16 (rowOf xs r)) ∧ 16 ≤ c' := by
  obtain ⟨i0, hi0, _, hsz, _⟩ := info_parts info71
  have h := cut_mid (P := Try.prog) 23 71 .i64 .i64 Try.underlying23 hi0 4 hsz A 256 c (r * 16) ((r + 1) * 16) (by omega) (by omega) (by omega) hc
  refine ⟨if c = (r * 16).toNat then A else A.map (·.add ((r * 16).toNat * 4)), c - (r * 16).toNat, ?_, ?_, by omega⟩
  · intro W
    rw [h W, show ((r + 1) * 16).toNat - (r * 16).toNat = 16 from by omega]
  · intro W hC
    have hm := Kd.C_mid (k := k71) (c := c) (lo := (r * 16).toNat) (hi := ((r + 1) * 16).toNat) (xs := xs) (by rw [hx]; exact hC) (by omega) (by omega) (by omega)
    have hl := rowOf_length xs hx r h0 h1
    unfold rowOf at hl
    rw [hl] at hm
    exact hm
theorem begin_calls2 (row : Int) (A : Option Addr) (c : Nat) (xs : List S71) (fr : Int) (p : S80) (hp : beginF row xs fr = p) (w : World) (hr : Kd.C k71 w A 16 xs) (hc : 16 ≤ c) (hf0 : 0 ≤ fr) (hf1 : fr < 16) :
    Calls Try.prog 62 #[.int .i64 row, .slice A 16 c, .int .i64 fr] w fun e w' => e = .returned (.agg #[.int .i64 p.f0, .int .i64 p.f1, .int .i64 p.f2, .int .i64 p.f3.f0, .int .i64 p.f3.f1, .int .i64 p.f3.f2, .int .u64 p.f3.f3, .int .i64 p.f4, .int .i64 p.f5]) ∧ Below w.heap.size w w' := by
  subst hp
  exact begin_calls row A c xs fr w hr hc hf0 hf1
set_option maxHeartbeats 2000000 in
set_option maxRecDepth 100000 in
theorem pack_calls (A : Option Addr) (c : Nat) (xs : List S71) (w : World) (hx : xs.length = 256) (hr : Kd.C k71 w A 256 xs) (hc : 256 ≤ c) :
    Calls Try.prog 41 #[.slice A 256 c] w fun e w' => ∃ v0_, e = .returned v0_ ∧ Kd.R k80 80 w' w.heap.size (fun _ => True) v0_ (packL xs) ∧ Below w.heap.size w w' := by
  have hu80 := Try.underlying80
  have HR := Aside0.mk hr
  have HX := Aside0.mk hx
  clear hr hx
  go_enter Try.func41, Try.ntmps41
  go_wp2
  go_loopw [3, 7] (fun v3 v7 wr => ∃ (r : Int) (out : List S80), v7 = .int .i64 r ∧ Aside0 (0 ≤ r ∧ r ≤ 16 ∧ out ++ packRows xs (16 - r).toNat r = packL xs ∧ (out.length : Int) ≤ r * 16) ∧ Aside0 (Kd.R k80 80 wr w.heap.size (fun _ => True) v3 out) ∧ Aside0 (Below w.heap.size w wr)) (fun _ v7 _ => 16 - (intOf v7).toNat)
  case atStart => exact ⟨0, [], rfl, ⟨by omega, by omega, rfl, by simp⟩, ⟨Kd.R_nil _ _ _ _ _⟩, ⟨Below.refl _ _⟩⟩
  case round =>
    obtain ⟨r, out, rfl, HI, HO, HB⟩ := hrel
    have h0 := HI.out.1
    by_cases hlt : r < 16
    · obtain ⟨wo, rfl⟩ : ∃ wo : World, wo = wr := ⟨_, rfl⟩
      obtain ⟨A', c', hcut, hCC, hc'⟩ := row_cut A c xs HX.out hc r h0 hlt
      have HCC := Aside0.mk hCC
      clear hCC
      go_wp2
      go_loopw [3, 5] (fun v3 v5 wr => ∃ (fr : Int) (o2 : List S80), v5 = .int .i64 fr ∧ Aside0 (0 ≤ fr ∧ fr ≤ 16 ∧ (∃ k : Nat, 16 - fr ≤ k ∧ o2 ++ rowP r (rowOf xs r) k fr = out ++ rowP r (rowOf xs r) 16 0) ∧ (o2.length : Int) ≤ r * 16 + fr) ∧ Aside0 (Kd.R k80 80 wr w.heap.size (fun _ => True) v3 o2) ∧ Aside0 (Below w.heap.size w wr)) (fun _ v5 _ => 16 - (intOf v5).toNat)
      case atStart => exact ⟨0, out, rfl, ⟨by omega, by omega, ⟨16, by omega, rfl⟩, by have := HI.out; omega⟩, HO, HB⟩
      case round =>
        obtain ⟨fr, o2, rfl, HJ, HO2, HB2⟩ := hrel
        have hf0 := HJ.out.1
        by_cases hfl : fr < 16
        · obtain ⟨p, hp⟩ : ∃ p, beginF r (rowOf xs r) fr = p := ⟨_, rfl⟩
          have HP := Aside0.mk hp
          clear hp
          obtain ⟨wi, rfl⟩ : ∃ wi : World, wi = wr := ⟨_, rfl⟩
          go_upto_region 7 with fail
          go_cut [6] (fun s6 wx => ∃ g : Nat, s6 = .pointer (some ⟨g, 0, none⟩) ∧ Aside0 (wx.heap[g]? = some (.cells (cellsP p) 80 (0, 0)) ∧ wi.heap.size ≤ g ∧ Below wi.heap.size wi wx))
          case first =>
            go_wp2_with (go_at_call 62; refine (begin_calls2 r A' c' (rowOf xs r) fr p HP.out _ (HCC.out _ (Kd.C_below HR.out HB2.out)) hc' hf0 hfl).mono ?_; rintro e w' ⟨rfl, hb⟩)
            go_meet
            exact ⟨_, rfl, ⟨blk_new _ _, hb.size, below_alloc hb _⟩⟩
          case rest =>
            obtain ⟨g, rfl, HG⟩ := hcut
            obtain ⟨w1, rfl⟩ : ∃ w1 : World, w1 = wc := ⟨_, rfl⟩
            obtain ⟨c0, c1, c2, c3, c4, c5, c6, c7, c8⟩ := at_PT (p := p) (t := p.f2) HG.out.1
            have HB3 := Aside0.mk (below_step HB2.out HG.out.2.2)
            have HO3 := Aside0.mk (Kd.R_below HO2.out HG.out.2.2)
            have HL := Aside0.mk HJ.out.2.2.2
            go_wp2_with (at_builtin; refine Kd.R_append k80 (w0 := w) w.heap.size rfl (.tmp 22) (.tmp 24) 27 80 (.agg #[(.int .i64 0), (.int .i64 0), (.int .i64 0), (.int .i64 0), (.int .i64 0), (.int .i64 0), (.int .u64 0), (.int .i64 0), (.int .i64 0)]) 72 rfl Try.underlying27 info80 rfl (by decide) (by omega) u3 o2 p [.int .i64 p.f0, .int .i64 p.f1, .int .i64 p.f2, .int .i64 p.f3.f0, .int .i64 p.f3.f1, .int .i64 p.f3.f2, .int .u64 p.f3.f3, .int .i64 p.f4, .int .i64 p.f5] (fun _ => True) (fun _ => False) rfl rfl ?aP (fun _ hk => hk.elim) (fun _ _ => trivial) HO3.out HB3.out ?aS ?aL ?_; (case aP => exact k80_mkM _ _ _ p); (case aS => exact HB3.out.size); (case aL => have := HL.out; omega); intro v1 w2 ho hb hg hat; have HO4 := Aside0.mk ho; have HB4 := Aside0.mk hb; have m2 := (at_PT (p := p) (t := p.f2) (blk_grown HG.out.1 hg (fun e => by have := Kd.R_lt HO2.out g e.symm; have := HG.out.2.1; omega))).2.2.1; clear ho hb hg hat)
            go_roundw
            case rel =>
              have hto := beginF_to r (rowOf xs r) fr hfl
              rw [HP.out] at hto
              obtain ⟨k, hk, hrow⟩ := HJ.out.2.2.1
              obtain ⟨k, rfl⟩ : ∃ k', k = k' + 1 := ⟨k - 1, by omega⟩
              have hl := HL.out
              refine ⟨p.f2, o2 ++ [p], rfl, ⟨by omega, by omega, ⟨k, by omega, ?_⟩, by simp; omega⟩, HO4, HB4⟩
              rw [← hrow]
              simp only [rowP]
              rw [if_pos hfl, HP.out, List.append_assoc]
              rfl
            case measure =>
              have hto := beginF_to r (rowOf xs r) fr hfl
              rw [HP.out] at hto
              simp [intOf]; omega
        · go_wp2
          go_roundw
          case rel =>
            obtain ⟨k, hk, hrow⟩ := HJ.out.2.2.1
            have hl := HJ.out.2.2.2
            have hl2 := HJ.out.2.1
            have he : rowP r (rowOf xs r) k fr = [] := by
              cases k with
              | zero => rfl
              | succ k => simp only [rowP]; rw [if_neg (by omega)]
            rw [he, List.append_nil] at hrow
            refine ⟨r + 1, o2, rfl, ⟨by omega, by omega, ?_, by omega⟩, HO2, HB2⟩
            rw [hrow, ← HI.out.2.2.1]
            rw [show (16 - r).toNat = (16 - (r + 1)).toNat + 1 from by omega]
            simp only [packRows, List.append_assoc]
          case measure => simp [intOf]; omega
    · go_wp2
      go_ret
      have h1 := HI.out.2.2.1
      rw [show (16 - r).toNat = 0 from by omega] at h1
      simp only [packRows, List.append_nil] at h1
      rw [h1] at HO
      exact ⟨_, rfl, HO.out, HB.out⟩
def prov_Pack.f (l0 : List S71) : Option ((List S80) × Int) := some (if l0.length = 256 then if l0.any badS then ([], 1) else (packL l0, 0) else ([], 1))
theorem prov_Pack.calls (A0 : Option Addr) (c0 : Nat) (l0 : List S71) (r1 : List S80) (r2 : Int) (w : World) (hr0 : Kd.C k71 w A0 l0.length l0) (hc0 : l0.length ≤ c0) (h : prov_Pack.f l0 = some (r1, r2)) :
    Calls Try.prog 11 #[.slice A0 l0.length c0] w fun e w' => ∃ v0_ : Value, e = .returned (.tuple #[v0_, .int .i64 r2]) ∧ Kd.R k80 80 w' w.heap.size (fun _ => True) v0_ r1 ∧ Below w.heap.size w w' := by
  have H := Aside0.mk (Option.some.inj h)
  clear h
  by_cases hl : l0.length = 256
  · have HR := Aside0.mk hr0
    have H2 := H.out
    rw [if_pos hl] at H2
    clear hr0 H
    have HL := Aside0.mk hl
    rw [hl] at HR hc0 ⊢
    clear hl
    cases hb : l0.any badS with
    | true =>
      rw [hb] at H2
      injection H2 with e1 e2
      subst e1; subst e2
      have HB := Aside0.mk hb
      clear hb
      go_enter Try.func11, Try.ntmps11
      go_wp2_with fail
      rw [← HL.out]
      refine (contains_calls A0 c0 l0 _ (by rw [HL.out]; exact HR.out) (by rw [HL.out]; exact hc0)).mono ?_
      rintro e w1 ⟨rfl, hb1⟩
      rw [HB.out, HL.out]
      go_wp2
      go_ret2
      exact ⟨_, rfl, Kd.R_nil _ _ _ _ _, hb1⟩
    | false =>
      rw [hb] at H2
      injection H2 with e1 e2
      subst e1; subst e2
      have HB := Aside0.mk hb
      clear hb
      go_enter Try.func11, Try.ntmps11
      go_wp2_with fail
      rw [← HL.out]
      refine (contains_calls A0 c0 l0 _ (by rw [HL.out]; exact HR.out) (by rw [HL.out]; exact hc0)).mono ?_
      rintro e w1 ⟨rfl, hb1⟩
      rw [HB.out, HL.out]
      go_wp2_with (go_at_call 41; refine (pack_calls A0 c0 l0 _ HL.out (Kd.C_below HR.out hb1) hc0).mono ?_; rintro e w2 ⟨v, rfl, ho, hb2⟩)
      go_ret2
      exact ⟨_, rfl, Kd.R_lower ho hb1.size, below_step hb1 hb2⟩
  · have H2 := H.out
    rw [if_neg hl] at H2
    injection H2 with e1 e2
    subst e1; subst e2
    clear H
    have hn : ((l0.length : Int) != 256) = true := by rw [bne_iff_ne]; omega
    have hn2 : ((l0.length : Int) == 256) = false := by rw [beq_eq_false_iff_ne]; omega
    go_enter Try.func11, Try.ntmps11
    go_wp2
    go_ret2
    exact ⟨_, rfl, Kd.R_nil _ _ _ _ _, Below.refl _ _⟩
end Go.Proofs.Ytgmbjgddelcceaa.P
