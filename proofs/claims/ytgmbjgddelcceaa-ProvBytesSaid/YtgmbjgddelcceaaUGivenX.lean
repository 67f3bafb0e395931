import Derived.Test.YtgmbjgddelcceaaUGivenW
import Derived.Test.YtgmbjgddelcceaaUGivenF
import Derived.OpenShut
namespace Go.Proofs.Ytgmbjgddelcceaa.P
open Go.RowKit Go.Proofs.YtgmbjgddelcceaaW.PrintWords Go.Proofs.YtgmbjgddelcceaaW.PrintLast Go.Proofs.YtgmbjgddelcceaaW.PrintMore
attribute [local go_sem] max2_int min2_int max_two min_two max_three min_three max_four min_four
set_option linter.unusedVariables false
set_option linter.unusedSimpArgs false
theorem zig_range (n : Int) : 0 ≤ zigF n ∧ zigF n < 18446744073709551616 := by
  have h : (Lit.int .u64 (zigF n)).wf = true := wf_bits _ _ _ _
  simp [Lit.wf, IntKind.min, IntKind.max, IntKind.signed, IntKind.bits] at h
  omega
theorem uintB_len : ∀ (k : Nat) (n : Int), (uintB k n).length ≤ k + 1
  | 0, n => by simp [uintB]
  | k + 1, n => by
    simp only [uintB]
    split
    · have := uintB_len k (n / 128); simp; omega
    · simp
theorem intB_len (n : Int) : (intB n).length ≤ 10 := uintB_len 9 _
def nums (p : S80) : List Int := [p.f3.f1, p.f3.f2, p.f4, p.f5]
def tailB (p : S80) : List Int := (nums p).flatMap intB ++ uintB 9 p.f3.f3
def pieceB (p : S80) : List Int := intB p.f2 ++ (intB p.f3.f0 ++ if p.f3.f0 < 0 then [] else tailB p)
def encB (l : List S80) : List Int := intB (l.length : Int) ++ l.flatMap pieceB
def goodU (p : S80) : Bool := decide (0 ≤ p.f3.f3) && decide (p.f3.f3 < 18446744073709551616)
def encF (l : List S80) : List Int × Int := if (unpackF l).2 = 0 then (encB l, 0) else ([], (unpackF l).2)
theorem pieceB_len (p : S80) : (pieceB p).length ≤ 70 := by
  have h1 := intB_len p.f2
  have h2 := intB_len p.f3.f0
  have h3 := intB_len p.f3.f1
  have h4 := intB_len p.f3.f2
  have h5 := intB_len p.f4
  have h6 := intB_len p.f5
  have h7 := uintB_len 9 p.f3.f3
  unfold pieceB tailB nums
  split <;> simp <;> omega
theorem pieces_len : ∀ (l : List S80), (l.flatMap pieceB).length ≤ 70 * l.length
  | [] => by simp
  | p :: l => by
    have h1 := pieceB_len p
    have h2 := pieces_len l
    simp only [List.flatMap_cons, List.length_append, List.length_cons]
    omega
theorem unpack_short (l : List S80) (h : (unpackF l).2 = 0) : l.length ≤ 256 := by
  unfold unpackF at h
  cases hg : unpackGo l [] with
  | none => rw [hg] at h; cases h
  | some out =>
    rw [hg] at h
    simp only at h
    by_cases c1 : (out.length : Int) = 256
    · rw [if_pos c1] at h
      by_cases c2 : packL out = l
      · rw [← c2]
        have hr : ∀ (r : Int) (x : List S71) (k : Nat) (fr : Int), (rowP r x k fr).length ≤ k := by
          intro r x k
          induction k with
          | zero => intro fr; simp [rowP]
          | succ k ih => intro fr; simp only [rowP]; split <;> simp; exact ih _
        have hp : ∀ (k : Nat) (r : Int), (packRows out k r).length ≤ 16 * k := by
          intro k
          induction k with
          | zero => intro r; simp [packRows]
          | succ k ih =>
            intro r
            simp only [packRows, List.length_append]
            have := hr r (rowOf out r) 16 0
            have := ih (r + 1)
            omega
        exact hp 16 0
      · rw [if_neg c2] at h; cases h
    · rw [if_neg c1] at h; cases h
theorem initWS (w1 : World) : WS w1.heap.size w1.heap.size [] (w1.alloc (.cells #[.slice none 0 0] 58)) := ⟨Nat.le_refl _, _, blk_new _ _, Kd.R_nil _ _ _ _ _⟩
set_option maxHeartbeats 4000000 in
set_option maxRecDepth 100000 in
theorem encode_calls (A0 : Option Addr) (c0 : Nat) (l0 : List S80) (hg : l0.all goodU = true) (w : World) (hr0 : Kd.C k80 w A0 l0.length l0) (hc0 : l0.length ≤ c0) :
    Calls Try.prog 24 #[.slice A0 l0.length c0] w fun e w' => ∃ v0_ : Value, e = .returned (.tuple #[v0_, .int .i64 (encF l0).2]) ∧ Kd.R (Kd.int .u8) 5 w' w.heap.size (fun _ => True) v0_ (encF l0).1 ∧ Below w.heap.size w w' := by
  have hu80 := Try.underlying80
  have hu71 := Try.underlying71
  have hu58 := Try.underlying58
  have HR := Aside0.mk hr0
  have HGD := Aside0.mk hg
  clear hr0 hg
  by_cases he : (unpackF l0).2 = 0
  · have hq : encF l0 = (encB l0, 0) := by simp [encF, he]
    rw [hq]
    have hshort := unpack_short l0 he
    have HE := Aside0.mk he
    go_enter Try.func24, Try.ntmps24
    go_upto_region 6 with (first | (go_at_call 15; refine (unpack_calls A0 c0 l0 _ HR.out hc0).mono ?_; rintro e w1 ⟨v, rfl, ho, hb⟩) | (go_at_call 46; refine (wint_calls w1.heap.size w1.heap.size [] (l0.length : Int) (zig_range _) _ (initWS w1) (by simp) (by simp)).mono ?_; rintro e w2 ⟨rfl, hW, hB, hK⟩))
    have HBW := Aside0.mk hb
    have HR1 := Aside0.mk (Kd.C_below HR.out hb)
    have HW2 := Aside0.mk hW
    have HB2 := Aside0.mk ((below_alloc (Below.refl _ _) _).trans hB)
    obtain ⟨G, hG⟩ : ∃ G : Nat, G = w1.heap.size := ⟨_, rfl⟩
    clear ho hb hW hB hK
    go_wp2
    go_loopw [24] (fun v24 wr => ∃ (i : Int) (bs : List Int), v24 = .int .i64 i ∧ Aside0 (0 ≤ i ∧ i ≤ l0.length ∧ bs ++ (l0.drop i.toNat).flatMap pieceB = encB l0 ∧ (bs.length : Int) ≤ 10 + 70 * i) ∧ Aside0 (WS w1.heap.size w1.heap.size bs wr) ∧ Aside0 (Below w1.heap.size w1 wr)) (fun v _ => l0.length - (intOf v).toNat)
    case atStart => exact ⟨0, intB (l0.length : Int), rfl, ⟨by omega, by omega, by simp [encB], by have := intB_len (l0.length : Int); omega⟩, by simpa using HW2, HB2⟩
    case round =>
      obtain ⟨i, bs, rfl, HI, HW, HB⟩ := hrel
      obtain ⟨W, rfl⟩ : ∃ W : World, W = wr := ⟨_, rfl⟩
      have h0 := HI.out.1
      have hsh : (l0.length : Int) ≤ 256 := by omega
      by_cases hlt : i < (l0.length : Int)
      · obtain ⟨ad, e, z0, z1, z2, z3, z4, z5, z6, z7, z8⟩ := at_T80 (Kd.C_below HR1.out HB.out) i h0 hlt
        cases e
        obtain ⟨p, hp⟩ : ∃ p, rd_T80 l0 i = p := ⟨_, rfl⟩
        rw [hp] at z0 z1 z2 z3 z4 z5 z6 z7 z8
        have HP := Aside0.mk hp
        clear hp
        go_upto_region 8 with fail
        go_cut [8] (fun s8 wx => ∃ b : Nat, s8 = .pointer (some ⟨b, 0, none⟩) ∧ Aside0 (wx.heap[b]? = some (.cells (cellsP p) 80 (0, 0)) ∧ W.heap.size ≤ b ∧ Below W.heap.size W wx))
        case first =>
          go_wp2
          go_meet
          exact ⟨_, rfl, ⟨blk_new _ _, Nat.le_refl _, below_alloc (Below.refl _ _) _⟩⟩
        case rest =>
          obtain ⟨b, rfl, HX⟩ := hcut
          obtain ⟨x1, rfl⟩ : ∃ x1 : World, x1 = wc := ⟨_, rfl⟩
          clear z0 z1 z2 z3 z4 z5 z6 z7 z8
          have hbl : W.heap.size ≤ x1.heap.size := HX.out.2.2.size
          have hbase : w1.heap.size ≤ W.heap.size := HB.out.size
          have hgb : b ≠ w1.heap.size := by have h1 := HX.out.2.1; obtain ⟨_, _, h2, _⟩ := HW.out; have := blk_lt h2; omega
          have HW1 := Aside0.mk (HW.out.below HX.out.2.2)
          have HX1 := Aside0.mk HX.out.1
          have HB1 := Aside0.mk (below_step HB.out HX.out.2.2)
          obtain ⟨c0', c1, c2, c3, c4, c5, c6, c7, c8⟩ := at_PT (p := p) (t := p.f2) HX1.out
          have hl1 : bs.length ≤ 1000000000 := by have := HI.out; omega
          go_upto_region 9 with fail
          go_cut [] (fun wx => Aside0 (WS w1.heap.size w1.heap.size (bs ++ intB p.f2) wx ∧ Below w1.heap.size w1 wx ∧ wx.heap[b]? = some (.cells (cellsP p) 80 (0, 0))))
          case first =>
            go_wp2_with (go_at_call 46; refine (wint_calls w1.heap.size w1.heap.size bs p.f2 (zig_range _) _ HW1.out (by omega) hl1).mono ?_; rintro e w3 ⟨rfl, hW, hB, hK⟩)
            go_meet
            exact ⟨hW, HB1.out.trans hB, hK b _ 80 HX1.out (by decide) hgb⟩
          case rest =>
            obtain ⟨x2, rfl⟩ : ∃ x2 : World, x2 = wc := ⟨_, rfl⟩
            have H2 := hcut
            clear c0' c1 c2 c3 c4 c5 c6 c7 c8
            obtain ⟨c0', c1, c2, c3, c4, c5, c6, c7, c8⟩ := at_PT (p := p) (t := p.f2) H2.out.2.2
            have hl2 : (bs ++ intB p.f2).length ≤ 1000000000 := by have := HI.out; have := intB_len p.f2; rw [List.length_append]; omega
            go_upto_region 10 with fail
            go_cut [] (fun wx => Aside0 (WS w1.heap.size w1.heap.size (bs ++ intB p.f2 ++ intB p.f3.f0) wx ∧ Below w1.heap.size w1 wx ∧ wx.heap[b]? = some (.cells (cellsP p) 80 (0, 0))))
            case first =>
              go_wp2_with (go_at_call 46; refine (wint_calls w1.heap.size w1.heap.size (bs ++ intB p.f2) p.f3.f0 (zig_range _) _ H2.out.1 H2.out.2.1.size hl2).mono ?_; rintro e w3 ⟨rfl, hW, hB, hK⟩)
              go_meet
              exact ⟨hW, H2.out.2.1.trans hB, hK b _ 80 H2.out.2.2 (by decide) hgb⟩
            case rest =>
              obtain ⟨x3, rfl⟩ : ∃ x3 : World, x3 = wc := ⟨_, rfl⟩
              have H3 := hcut
              clear c0' c1 c2 c3 c4 c5 c6 c7 c8
              obtain ⟨c0', c1, c2, c3, c4, c5, c6, c7, c8⟩ := at_PT (p := p) (t := p.f2) H3.out.2.2
              have hdrop : (l0.drop i.toNat).flatMap pieceB = pieceB p ++ (l0.drop (i + 1).toNat).flatMap pieceB := by rw [drop_rd80 l0 i h0 hlt, HP.out]; rfl
              have HDROP := Aside0.mk hdrop
              clear hdrop
              by_cases hneg : p.f3.f0 < 0
              · go_wp2
                go_roundw
                case rel =>
                  obtain ⟨i0, i1, i2, i3⟩ := HI.out
                  have hpb : pieceB p = intB p.f2 ++ (intB p.f3.f0 ++ []) := by unfold pieceB; rw [if_pos hneg]
                  refine ⟨i + 1, bs ++ intB p.f2 ++ intB p.f3.f0, rfl, ⟨by omega, by omega, ?_, ?_⟩, ⟨H3.out.1⟩, ⟨H3.out.2.1⟩⟩
                  · rw [← i2, HDROP.out, hpb]; simp
                  · have h1 := intB_len p.f2
                    have h2 := intB_len p.f3.f0
                    rw [List.length_append, List.length_append]; omega
                case measure => simp [intOf]; omega
              · go_upto_region 12 with fail
                go_cut [49, 50, 51] (fun s49 s50 s51 wx => ∃ d : Nat, s49 = .slice (some ⟨d, 0, none⟩) 4 4 ∧ s50 = .int .i64 4 ∧ s51 = .int .i64 0 ∧ Aside0 (wx.heap[d]? = some (.cells #[.int .i64 p.f3.f1, .int .i64 p.f3.f2, .int .i64 p.f4, .int .i64 p.f5] 3 (0, 0)) ∧ x3.heap.size ≤ d ∧ Below x3.heap.size x3 wx))
                case first =>
                  go_wp2
                  go_meet
                  exact ⟨_, rfl, rfl, rfl, ⟨blk_new _ _, Nat.le_refl _, below_alloc (Below.refl _ _) _⟩⟩
                case rest =>
                  obtain ⟨d, rfl, rfl, rfl, HD⟩ := hcut
                  obtain ⟨x4, rfl⟩ : ∃ x4 : World, x4 = wc := ⟨_, rfl⟩
                  clear c0' c1 c2 c3 c4 c5 c6 c7 c8
                  have hgd : d ≠ w1.heap.size := by have h1 := HD.out.2.1; obtain ⟨_, _, h2, _⟩ := H3.out.1; have := blk_lt h2; omega
                  have HW4 := Aside0.mk (H3.out.1.below HD.out.2.2)
                  have HX4 := Aside0.mk (blk_below H3.out.2.2 HD.out.2.2)
                  have HB4 := Aside0.mk (below_step H3.out.2.1 HD.out.2.2)
                  have HD4 := Aside0.mk HD.out.1
                  go_wp2
                  go_loopw [51] (fun v51 wr => ∃ (j : Int) (cs : List Int), v51 = .int .i64 j ∧ Aside0 (0 ≤ j ∧ j ≤ 4 ∧ cs ++ ((nums p).drop j.toNat).flatMap intB = bs ++ intB p.f2 ++ intB p.f3.f0 ++ (nums p).flatMap intB ∧ (cs.length : Int) ≤ bs.length + 20 + 10 * j) ∧ Aside0 (WS w1.heap.size w1.heap.size cs wr) ∧ Aside0 (Below w1.heap.size w1 wr) ∧ Aside0 (wr.heap[b]? = some (.cells (cellsP p) 80 (0, 0)) ∧ wr.heap[d]? = some (.cells #[.int .i64 p.f3.f1, .int .i64 p.f3.f2, .int .i64 p.f4, .int .i64 p.f5] 3 (0, 0)))) (fun v _ => 4 - (intOf v).toNat)
                  case atStart => exact ⟨0, _, rfl, ⟨by omega, by omega, rfl, by have h1 := intB_len p.f2; have h2 := intB_len p.f3.f0; rw [List.length_append, List.length_append]; omega⟩, HW4, HB4, ⟨HX4.out, HD4.out⟩⟩
                  case round =>
                    obtain ⟨j, cs, rfl, HJ, HWj, HBj, HXj⟩ := hrel
                    obtain ⟨y, rfl⟩ : ∃ y : World, y = wr := ⟨_, rfl⟩
                    have j0 := HJ.out.1
                    by_cases hj : j < 4
                    · obtain ⟨m, hm, hmd⟩ : ∃ m : Int, y.cell? ⟨d, j.toNat, none⟩ = some (.int .i64 m) ∧ (nums p).drop j.toNat = m :: (nums p).drop (j + 1).toNat := by
                        have hc : ∀ t, y.cell? ⟨d, t, none⟩ = _ := blk_cell HXj.out.2
                        have hj4 : j = 0 ∨ j = 1 ∨ j = 2 ∨ j = 3 := by omega
                        rcases hj4 with rfl | rfl | rfl | rfl
                        · exact ⟨_, hc 0, rfl⟩
                        · exact ⟨_, hc 1, rfl⟩
                        · exact ⟨_, hc 2, rfl⟩
                        · exact ⟨_, hc 3, rfl⟩
                      have hlj : cs.length ≤ 1000000000 := by have := HJ.out; have := HI.out; omega
                      have HMD := Aside0.mk hmd
                      clear hmd
                      go_wp2_with (go_at_call 46; refine (wint_calls w1.heap.size w1.heap.size cs m (zig_range _) _ HWj.out HBj.out.size hlj).mono ?_; rintro e w3 ⟨rfl, hW, hB, hK⟩)
                      go_roundw
                      case rel =>
                        obtain ⟨k0, k1, k2, k3⟩ := HJ.out
                        refine ⟨j + 1, cs ++ intB m, rfl, ⟨by omega, by omega, ?_, ?_⟩, ⟨hW⟩, ⟨HBj.out.trans hB⟩, ⟨hK b _ 80 HXj.out.1 (by decide) hgb, hK d _ 3 HXj.out.2 (by decide) hgd⟩⟩
                        · rw [← k2, HMD.out, List.flatMap_cons, List.append_assoc]
                        · have h1 := intB_len m
                          rw [List.length_append]; omega
                      case measure => simp [intOf]; omega
                    · obtain ⟨c0', c1, c2, c3, c4, c5, c6, c7, c8⟩ := at_PT (p := p) (t := p.f2) HXj.out.1
                      have hgu : goodU p = true := by
                        have hm : p ∈ l0 := by
                          have h1 := drop_rd80 l0 i h0 hlt
                          rw [HP.out] at h1
                          exact List.mem_of_mem_drop (by rw [h1]; exact List.mem_cons_self)
                        exact List.all_eq_true.1 HGD.out p hm
                      unfold goodU at hgu
                      simp only [Bool.and_eq_true, decide_eq_true_eq] at hgu
                      have hlj : cs.length ≤ 1000000000 := by have := HJ.out; have := HI.out; omega
                      have HGU := Aside0.mk hgu
                      clear hgu
                      go_wp2_with (go_at_call 47; refine (uint_calls w1.heap.size w1.heap.size cs p.f3.f3 HGU.out.1 HGU.out.2 _ HWj.out HBj.out.size hlj).mono ?_; rintro e w3 ⟨rfl, hW, hB, hK⟩)
                      go_roundw
                      case rel =>
                        obtain ⟨i0, i1, i2, i3⟩ := HI.out
                        obtain ⟨k0, k1, k2, k3⟩ := HJ.out
                        have hj4 : j = 4 := by omega
                        rw [hj4] at k2
                        have k4 : cs = bs ++ intB p.f2 ++ intB p.f3.f0 ++ (nums p).flatMap intB := by rw [← k2]; simp [nums]
                        have hpb : pieceB p = intB p.f2 ++ (intB p.f3.f0 ++ ((nums p).flatMap intB ++ uintB 9 p.f3.f3)) := by unfold pieceB tailB; rw [if_neg (by omega)]
                        refine ⟨i + 1, cs ++ uintB 9 p.f3.f3, rfl, ⟨by omega, by omega, ?_, ?_⟩, ⟨hW⟩, ⟨HBj.out.trans hB⟩⟩
                        · rw [← i2, HDROP.out, hpb, k4]; simp
                        · have h1 := uintB_len 9 p.f3.f3
                          rw [List.length_append]; omega
                      case measure => simp [intOf]; omega
      · have hlb : bs.length ≤ 1000000000 := by have := HI.out; omega
        go_wp2_with (go_at_call 29; refine (done_calls w1.heap.size w1.heap.size bs _ HW.out hlb).mono ?_; rintro e w9 ⟨v9, rfl, hR9, hB9⟩)
        go_ret2
        have e1 := HI.out.2.2.1
        rw [List.drop_eq_nil_of_le (by omega)] at e1
        simp only [List.flatMap_nil, List.append_nil] at e1
        rw [e1] at hR9
        exact ⟨_, rfl, Kd.R_lower hR9 (Nat.le_trans HBW.out.size HB.out.size), below_step (below_step HBW.out HB.out) hB9⟩
  · have hq : encF l0 = ([], (unpackF l0).2) := by simp [encF, he]
    rw [hq]
    have hb : ((unpackF l0).2 != 0) = true := by rw [bne_iff_ne]; exact he
    have hb2 : ((unpackF l0).2 == 0) = false := by rw [beq_eq_false_iff_ne]; exact he
    clear he
    go_enter Try.func24, Try.ntmps24
    go_wp2_with (go_at_call 15; refine (unpack_calls A0 c0 l0 _ HR.out hc0).mono ?_; rintro e w' ⟨v, rfl, ho, hb⟩)
    go_ret2
    exact ⟨_, rfl, Kd.R_nil _ _ _ _ _, hb⟩
end Go.Proofs.Ytgmbjgddelcceaa.P
