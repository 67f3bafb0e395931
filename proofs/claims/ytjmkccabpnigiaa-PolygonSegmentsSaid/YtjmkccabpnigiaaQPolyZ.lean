import Derived.Test.YtjmkccabpnigiaaQPolyY0
import Derived.Test.YtjmkccabpnigiaaQPolyV
namespace Go.Proofs.Ytjmkccabpnigiaa.P
open Go.RowKit Go.Proofs.YtjmkccabpnigiaaW.PrintWords Go.Proofs.YtjmkccabpnigiaaW.PrintLast Go.Proofs.YtjmkccabpnigiaaW.PrintMore
attribute [local go_sem] max2_int min2_int max_two min_two max_three min_three max_four min_four
set_option linter.unusedVariables false
set_option linter.unusedSimpArgs false
theorem mod8 (i : Nat) (h : i < 8) (n : Int) (h0 : 0 ≤ n) (h1 : n < 4) : 0 ≤ Int.tmod (wrap64 ((i : Int) + n)) 8 ∧ Int.tmod (wrap64 ((i : Int) + n)) 8 < 8 := by
 rw [Go.IntWalk.wrap64_in _ (by omega)]
 exact ⟨Int.tmod_nonneg _ (by omega), Int.tmod_lt_of_pos _ (by omega)⟩
set_option maxRecDepth 100000 in
set_option maxHeartbeats 16000000 in
theorem segments_calls (A : Option Addr) (c : Nat) (l : List Int) (x y : Int) (w : World) (hC : Kd.C (Kd.int .i64) w A l.length l) (hc : l.length ≤ c) :
    Calls Try.prog 3 #[.slice A l.length c, .int .i64 x, .int .i64 y] w fun e w' => e = .returned (.bool true) ∧ Below w.heap.size w w' := by
 have hu23 := Try.underlying23
 have hu26 := Try.underlying26
 have HC := Aside0.mk hC
 clear hC
 go_enter Try.func3, Try.ntmps3
 go_wp2
 go_loopw [7, 8] (fun v7 v8 w' => ∃ (i : Nat) (xs : List S26), v8 = .int .i64 (i : Int) ∧ i ≤ 4 ∧ Aside0 (xs.length = i) ∧ Aside0 (Kd.R k26 26 w' w.heap.size (fun _ => True) v7 xs) ∧ Aside0 (Below w.heap.size w w')) (fun _ v8 _ => 4 - (intOf v8).toNat)
 case atStart => exact ⟨0, [], rfl, by omega, ⟨rfl⟩, ⟨Kd.R_nil _ _ _ _ _⟩, ⟨Below.refl _ _⟩⟩
 case round =>
  obtain ⟨i, xs, rfl, hi, HL, HO, HB⟩ := hrel
  by_cases h : i < 4
  ·obtain ⟨r1, hr1⟩ := pick_total l (2 * (i : Int))
   obtain ⟨r2, hr2⟩ := pick_total l (2 * (i : Int) + 1)
   have HP := Aside0.mk (And.intro hr1 hr2)
   clear hr1 hr2
   obtain ⟨w0, rfl⟩ : ∃ w0 : World, w0 = wr := ⟨_, rfl⟩
   go_wp2_with (first
    | (go_at_call 5; (with_reducible refine (skymosaicref01_Pick.calls _ _ l _ 7 r1 w0 (Kd.C_below HC.out HB.out) hc HP.out.1).mono ?_); rintro e w2 ⟨rfl, hd⟩; have hb2 := hd.below; clear hd; have HO2 := Aside0.mk (Kd.R_below HO.out hb2); have HB2 := Aside0.mk (below_step HB.out hb2); clear hb2)
    | (go_at_call 5; (with_reducible refine (skymosaicref01_Pick.calls _ _ l _ 7 r2 _ (Kd.C_below HC.out HB2.out) hc HP.out.2).mono ?_); rintro e w3 ⟨rfl, hd⟩; have hb2 := hd.below; clear hd; have HO3 := Aside0.mk (Kd.R_below HO2.out hb2); have HB3 := Aside0.mk (below_step HB2.out hb2); clear hb2)
    | (at_builtin; refine Kd.R_append k26 (w0 := w) w.heap.size rfl (.tmp 20) (.tmp 33) 23 26 (.agg #[(.int .i64 0), (.int .i64 0)]) 16 rfl Try.underlying23 info26 rfl (by decide) (by omega) _ xs (⟨wrap64 (r1 - 3), wrap64 (r2 - 3)⟩ : S26) [.int .i64 (wrap64 (r1 - 3)), .int .i64 (wrap64 (r2 - 3))] (fun _ => True) (fun _ => False) rfl rfl (k26_mkM _ _ _ _) (fun _ hk => hk.elim) (fun _ _ => trivial) HO3.out HB3.out HB3.out.size (by have := HL.out; omega) ?_; intro v1 w4 ho hb _ _; have HO4 := Aside0.mk ho; have HB4 := Aside0.mk hb; clear ho hb)
    | fail)
   go_roundw
   case rel => exact ⟨i + 1, _, by push_cast; rfl, by omega, ⟨by rw [List.length_append, HL.out]; rfl⟩, HO4, HB4⟩
   case measure => simp only [intOf]; omega
  ·have hi4 : i = 4 := by omega
   subst hi4
   rw [show ((4 : Nat) : Int) = 4 from rfl]
   obtain ⟨w0, rfl⟩ : ∃ w0 : World, w0 = wr := ⟨_, rfl⟩
   go_wp2
   have kod := blk_new w0 (.cells #[.int .i64 x, .int .i64 y, .int .i64 1048576, .int .i64 (-1048576), .int .i64 (-1048576), .int .i64 1048576, .int .i64 1048577, .int .i64 0] 26)
   have HB1 := Aside0.mk (below_alloc HB.out (.cells #[.int .i64 x, .int .i64 y, .int .i64 1048576, .int .i64 (-1048576), .int .i64 (-1048576), .int .i64 1048576, .int .i64 1048577, .int .i64 0] 26))
   have HO1 : Aside0 (Kd.R k26 26 (w0.alloc (.cells #[.int .i64 x, .int .i64 y, .int .i64 1048576, .int .i64 (-1048576), .int .i64 (-1048576), .int .i64 1048576, .int .i64 1048577, .int .i64 0] 26)) w.heap.size (fun k => k ≠ w0.heap.size) u7 xs) := ⟨Kd.R_below (Kd.R_mono (Kd.R_bound HO.out) (fun k hk => Nat.ne_of_lt hk.2.2.1)) (below_alloc (Below.refl _ _) _)⟩
   have hgo : w.heap.size ≤ w0.heap.size := HB.out.size
   obtain ⟨gd, hgd⟩ : ∃ g, w0.heap.size = g := ⟨_, rfl⟩
   obtain ⟨W1, hW1⟩ : ∃ W1, w0.alloc (.cells #[.int .i64 x, .int .i64 y, .int .i64 1048576, .int .i64 (-1048576), .int .i64 (-1048576), .int .i64 1048576, .int .i64 1048577, .int .i64 0] 26) = W1 := ⟨_, rfl⟩
   rw [hgd] at kod HO1 hgo ⊢
   rw [hW1] at kod HO1 HB1 ⊢
   have HD1 := Aside0.mk kod
   clear kod HB HO hW1 hgd
   go_loopw [7, 10] (fun v7 v10 w' => ∃ (i : Nat) (xs : List S26), v10 = .int .i64 (i : Int) ∧ i ≤ 4 ∧ Aside0 (xs.length = i + 4) ∧ Aside0 (Kd.R k26 26 w' w.heap.size (fun k => k ≠ gd) v7 xs) ∧ Aside0 (Below w.heap.size w w') ∧ Aside0 (w'.heap[gd]? = some (.cells #[.int .i64 x, .int .i64 y, .int .i64 1048576, .int .i64 (-1048576), .int .i64 (-1048576), .int .i64 1048576, .int .i64 1048577, .int .i64 0] 26 (0, 0)))) (fun _ v10 _ => 4 - (intOf v10).toNat)
   case atStart => exact ⟨0, xs, rfl, by omega, ⟨by rw [HL.out]⟩, HO1, HB1, HD1⟩
   case round =>
    clear HO1 HB1 HD1 HL hi
    clear xs
    obtain ⟨i, xs, rfl, hi, HL, HO, HB, HD⟩ := hrel
    obtain ⟨w0, rfl⟩ : ∃ w0 : World, w0 = wr := ⟨_, rfl⟩
    by_cases h : i < 4
    ·have hod := c26_four (a := ⟨x, y⟩) (b := ⟨1048576, -1048576⟩) (c := ⟨-1048576, 1048576⟩) (d := ⟨1048577, 0⟩) HD.out
     obtain ⟨ad, had, h0, h1⟩ := at_T26 hod (i : Int) (by omega) (by simp only [List.length_cons, List.length_nil]; omega)
     obtain rfl := Option.some.inj had
     obtain ⟨p, hp⟩ : ∃ p, rd_T26 ([⟨x, y⟩, ⟨1048576, -1048576⟩, ⟨-1048576, 1048576⟩, ⟨1048577, 0⟩] : List S26) (i : Int) = p := ⟨_, rfl⟩
     have ha : (⟨gd, 0, none⟩ : Addr).add ((i : Int).toNat * 2) = ⟨gd, i * 2, none⟩ := by
      rw [Int.toNat_natCast]
      simp [Addr.add]
      exact fun h => h.symm
     rw [hp, ha] at h0 h1
     simp only at h1
     have hlt : gd < w0.heap.size := (Array.getElem?_eq_some_iff.1 HD.out).1
     clear hp hod had ha
     go_wp2_with (first
      | (at_builtin; refine Kd.R_append k26 (w0 := w) w.heap.size rfl (.tmp 46) (.tmp 51) 23 26 (.agg #[(.int .i64 0), (.int .i64 0)]) 16 rfl Try.underlying23 info26 rfl (by decide) (by omega) _ xs p [.int .i64 p.f0, .int .i64 p.f1] (fun k => k ≠ gd) (fun _ => False) rfl rfl (k26_mkM _ _ _ _) (fun _ hk => hk.elim) (fun k hk => by omega) HO.out HB.out HB.out.size (by have := HL.out; omega) ?_; intro v1 w4 ho hb hg _; have HO4 := Aside0.mk ho; have HB4 := Aside0.mk hb; have HD4 := Aside0.mk ((hg.block gd hlt (fun hh => HO.out.1 gd hh.symm rfl)).trans HD.out); clear ho hb hg)
      | fail)
     go_roundw
     case rel => exact ⟨i + 1, _, by push_cast; rfl, by omega, ⟨by rw [List.length_append, HL.out]; simp only [List.length_cons, List.length_nil]; try omega⟩, HO4, HB4, HD4⟩
     case measure => simp only [intOf]; omega
    ·have hi4 : i = 4 := by omega
     subst hi4
     rw [show ((4 : Nat) : Int) = 4 from rfl]
     obtain ⟨A7, c7, rfl⟩ := Kd.R_slice HO.out
     have hC7 := Kd.R_reads' HO.out
     clear HO HD
     obtain ⟨ad, hA7, -, -⟩ := at_T26 hC7.2.2 0 (by omega) (by have := HL.out; omega)
     subst hA7
     have hL8' : xs.length = 8 := HL.out
     rw [hL8'] at hC7 ⊢
     have HC7 := Aside0.mk hC7.2.2
     obtain ⟨p8, hp8⟩ : ∃ p8, xs = p8 := ⟨_, rfl⟩
     have HL8 := Aside0.mk hL8'
     rw [hp8] at HC7 HL8
     clear hC7 HL hp8 hL8' hi
     clear xs
     go_wp2
     go_loopw [11] (fun v11 w' => ∃ i : Nat, v11 = .int .i64 (i : Int) ∧ i ≤ 8 ∧ Aside0 (Kd.C k26 w' (some ad) 8 p8) ∧ Aside0 (Below w.heap.size w w')) (fun v11 _ => 8 - (intOf v11).toNat)
     case atStart => exact ⟨0, rfl, by omega, HC7, HB⟩
     case round =>
      clear HC7 HB
      obtain ⟨i, rfl, hi, HC7, HB⟩ := hrel
      obtain ⟨w0, rfl⟩ : ∃ w0 : World, w0 = wr := ⟨_, rfl⟩
      by_cases h : i < 8
      ·have hC8 := HC7.out
       rw [← HL8.out] at hC8
       have lj := mod8 i h
       obtain ⟨j1, hj1⟩ : ∃ j, j = Int.tmod (wrap64 ((i : Int) + 1)) 8 := ⟨_, rfl⟩
       obtain ⟨j2, hj2⟩ : ∃ j, j = Int.tmod (wrap64 ((i : Int) + 2)) 8 := ⟨_, rfl⟩
       obtain ⟨j3, hj3⟩ : ∃ j, j = Int.tmod (wrap64 ((i : Int) + 3)) 8 := ⟨_, rfl⟩
       have l1 := lj 1 (by omega) (by omega)
       have l2 := lj 2 (by omega) (by omega)
       have l3 := lj 3 (by omega) (by omega)
       rw [← hj1] at l1
       rw [← hj2] at l2
       rw [← hj3] at l3
       have l0 : (0 : Int) ≤ (i : Int) ∧ (i : Int) < 8 := by omega
       have h8 := HL8.out
       obtain ⟨ad', e', ka0, ka1⟩ := at_T26 hC8 (i : Int) l0.1 (by rw [h8]; exact l0.2)
       obtain rfl := Option.some.inj e'
       obtain ⟨ad', e1, kb0, kb1⟩ := at_T26 hC8 j1 l1.1 (by rw [h8]; exact l1.2)
       obtain rfl := Option.some.inj e1
       obtain ⟨ad', e2, kc0, kc1⟩ := at_T26 hC8 j2 l2.1 (by rw [h8]; exact l2.2)
       obtain rfl := Option.some.inj e2
       obtain ⟨ad', e3, kd0, kd1⟩ := at_T26 hC8 j3 l3.1 (by rw [h8]; exact l3.2)
       obtain rfl := Option.some.inj e3
       obtain ⟨a, ha⟩ : ∃ p, rd_T26 p8 (i : Int) = p := ⟨_, rfl⟩
       obtain ⟨b, hb⟩ : ∃ p, rd_T26 p8 j1 = p := ⟨_, rfl⟩
       obtain ⟨cc, hcc⟩ : ∃ p, rd_T26 p8 j2 = p := ⟨_, rfl⟩
       obtain ⟨d, hd⟩ : ∃ p, rd_T26 p8 j3 = p := ⟨_, rfl⟩
       rw [ha] at ka0 ka1
       rw [hb] at kb0 kb1
       rw [hcc] at kc0 kc1
       rw [hd] at kd0 kd1
       clear lj hC8 h8 e' e1 e2 e3 ha hb hcc hd
       have H1 := Aside0.mk hj1
       have H2 := Aside0.mk hj2
       have H3 := Aside0.mk hj3
       clear hj1 hj2 hj3
       go_upto_region 14 with fail
       refine (wpIn_wide (n := 5)).1 ?_
       refine regionIn_box2 (r := none) (n := 5) (by kernel_rfl) (by kernel_rfl) (by kernel_rfl) anyR (fun _ _ _ => trivial) (fun base => base[7]? = some (.slice (some ad) 8 c7) ∧ base[11]? = some (.int .i64 (i : Int))) [.sure 57 (fun _ v => v = .slice (some ad) 8 c7), .sure 58 (fun _ v => v = .int .i64 (i : Int)), .sure 59 (fun _ v => v = .pointer (some (ad.add ((i : Int).toNat * 2)))), .sure 60 (fun _ v => v = .agg #[.int .i64 a.f0, .int .i64 a.f1]), .sure 61 (fun _ v => v = .slice (some ad) 8 c7), .sure 62 (fun _ v => v = .int .i64 (i : Int)), .sure 63 (fun _ v => v = .int .i64 (wrap64 ((i : Int) + 1))), .sure 64 (fun _ v => v = .int .i64 j1), .sure 65 (fun _ v => v = .pointer (some (ad.add (j1.toNat * 2)))), .sure 66 (fun _ v => v = .agg #[.int .i64 b.f0, .int .i64 b.f1]), .sure 67 (fun _ v => v = .slice (some ad) 8 c7), .sure 68 (fun _ v => v = .int .i64 (i : Int)), .sure 69 (fun _ v => v = .int .i64 (wrap64 ((i : Int) + 2))), .sure 70 (fun _ v => v = .int .i64 j2), .sure 71 (fun _ v => v = .pointer (some (ad.add (j2.toNat * 2)))), .sure 72 (fun _ v => v = .agg #[.int .i64 cc.f0, .int .i64 cc.f1]), .sure 73 (fun _ v => v = .slice (some ad) 8 c7), .sure 74 (fun _ v => v = .int .i64 (i : Int)), .sure 75 (fun _ v => v = .int .i64 (wrap64 ((i : Int) + 3))), .sure 76 (fun _ v => v = .int .i64 j3), .sure 77 (fun _ v => v = .pointer (some (ad.add (j3.toNat * 2)))), .sure 78 (fun _ v => v = .agg #[.int .i64 d.f0, .int .i64 d.f1]), .box 12 26 zo26 (fun _ cs => cs = #[.int .i64 a.f0, .int .i64 a.f1]), .box 13 26 zo26 (fun _ cs => cs = #[.int .i64 b.f0, .int .i64 b.f1]), .box 14 26 zo26 (fun _ cs => cs = #[.int .i64 cc.f0, .int .i64 cc.f1]), .box 15 26 zo26 (fun _ cs => cs = #[.int .i64 d.f0, .int .i64 d.f1]), .put 22 12 26 zo26 (fun _ cs => cs = #[.int .i64 a.f0, .int .i64 a.f1]), .put 23 13 26 zo26 (fun _ cs => cs = #[.int .i64 b.f0, .int .i64 b.f1]), .put 24 14 26 zo26 (fun _ cs => cs = #[.int .i64 cc.f0, .int .i64 cc.f1]), .put 25 15 26 zo26 (fun _ cs => cs = #[.int .i64 d.f0, .int .i64 d.f1])] [57, 58, 59, 60, 61, 62, 63, 64, 65, 66, 67, 68, 69, 70, 71, 72, 73, 74, 75, 76, 77, 78, 12, 13, 14, 15] rfl ?hB (by kernel_rfl) (by kernel_rfl) (by decide) (by kernel_rfl) ?hks ?hdone
       case hks =>
        refine ⟨⟨(fun _ _ _ _ h => h), ps14_s0 rfl rfl rfl (nin (by rfl)) (fun _ h => h.1)⟩, ?_⟩
        refine ⟨⟨(fun _ _ _ _ h => h), ps14_s1 rfl rfl rfl (nin (by rfl)) (fun _ h => h.2)⟩, ?_⟩
        refine ⟨⟨(fun _ _ _ _ h => h), ps14_s2 rfl rfl rfl (by decide) rfl rfl (by decide) rfl rfl l0.1 l0.2⟩, ?_⟩
        refine ⟨⟨(fun _ _ _ _ h => h), ps14_s3 rfl rfl rfl (by decide) rfl rfl ka0 ka1⟩, ?_⟩
        refine ⟨⟨(fun _ _ _ _ h => h), ps14_s4 rfl rfl rfl (nin (by rfl)) (fun _ h => h.1)⟩, ?_⟩
        refine ⟨⟨(fun _ _ _ _ h => h), ps14_s5 rfl rfl rfl (nin (by rfl)) (fun _ h => h.2)⟩, ?_⟩
        refine ⟨⟨(fun _ _ _ _ h => h), ps14_s6 rfl rfl rfl (by decide) rfl rfl⟩, ?_⟩
        refine ⟨⟨(fun _ _ _ _ h => h), ps14_s7 rfl rfl rfl (by decide) rfl rfl H1.out⟩, ?_⟩
        refine ⟨⟨(fun _ _ _ _ h => h), ps14_s8 rfl rfl rfl (by decide) rfl rfl (by decide) rfl rfl l1.1 l1.2⟩, ?_⟩
        refine ⟨⟨(fun _ _ _ _ h => h), ps14_s9 rfl rfl rfl (by decide) rfl rfl kb0 kb1⟩, ?_⟩
        refine ⟨⟨(fun _ _ _ _ h => h), ps14_s10 rfl rfl rfl (nin (by rfl)) (fun _ h => h.1)⟩, ?_⟩
        refine ⟨⟨(fun _ _ _ _ h => h), ps14_s11 rfl rfl rfl (nin (by rfl)) (fun _ h => h.2)⟩, ?_⟩
        refine ⟨⟨(fun _ _ _ _ h => h), ps14_s12 rfl rfl rfl (by decide) rfl rfl⟩, ?_⟩
        refine ⟨⟨(fun _ _ _ _ h => h), ps14_s13 rfl rfl rfl (by decide) rfl rfl H2.out⟩, ?_⟩
        refine ⟨⟨(fun _ _ _ _ h => h), ps14_s14 rfl rfl rfl (by decide) rfl rfl (by decide) rfl rfl l2.1 l2.2⟩, ?_⟩
        refine ⟨⟨(fun _ _ _ _ h => h), ps14_s15 rfl rfl rfl (by decide) rfl rfl kc0 kc1⟩, ?_⟩
        refine ⟨⟨(fun _ _ _ _ h => h), ps14_s16 rfl rfl rfl (nin (by rfl)) (fun _ h => h.1)⟩, ?_⟩
        refine ⟨⟨(fun _ _ _ _ h => h), ps14_s17 rfl rfl rfl (nin (by rfl)) (fun _ h => h.2)⟩, ?_⟩
        refine ⟨⟨(fun _ _ _ _ h => h), ps14_s18 rfl rfl rfl (by decide) rfl rfl⟩, ?_⟩
        refine ⟨⟨(fun _ _ _ _ h => h), ps14_s19 rfl rfl rfl (by decide) rfl rfl H3.out⟩, ?_⟩
        refine ⟨⟨(fun _ _ _ _ h => h), ps14_s20 rfl rfl rfl (by decide) rfl rfl (by decide) rfl rfl l3.1 l3.2⟩, ?_⟩
        refine ⟨⟨(fun _ _ _ _ h => h), ps14_s21 rfl rfl rfl (by decide) rfl rfl kd0 kd1⟩, ?_⟩
        refine ⟨⟨fun _ _ _ _ h => h, rfl, rfl, box26 rfl rfl⟩, ?_⟩
        refine ⟨⟨fun _ _ _ _ h => h, rfl, rfl, box26 rfl rfl⟩, ?_⟩
        refine ⟨⟨fun _ _ _ _ h => h, rfl, rfl, box26 rfl rfl⟩, ?_⟩
        refine ⟨⟨fun _ _ _ _ h => h, rfl, rfl, box26 rfl rfl⟩, ?_⟩
        refine ⟨⟨rfl, rfl, by decide, put_26 rfl rfl (j := 3) (by decide) rfl rfl (by decide) (fun w v h => ⟨_, _, h, fun _ => rfl⟩)⟩, ?_⟩
        refine ⟨⟨rfl, rfl, by decide, put_26 rfl rfl (j := 9) (by decide) rfl rfl (by decide) (fun w v h => ⟨_, _, h, fun _ => rfl⟩)⟩, ?_⟩
        refine ⟨⟨rfl, rfl, by decide, put_26 rfl rfl (j := 15) (by decide) rfl rfl (by decide) (fun w v h => ⟨_, _, h, fun _ => rfl⟩)⟩, ?_⟩
        refine ⟨⟨rfl, rfl, by decide, put_26 rfl rfl (j := 21) (by decide) rfl rfl (by decide) (fun w v h => ⟨_, _, h, fun _ => rfl⟩)⟩, ?_⟩
        exact trivial
       case hB => exact ⟨rfl, rfl⟩
       case hdone =>
        intro G vs w2 hnd hv hb2
        obtain ⟨v0, vs1, rfl, rfl, hv1⟩ := hv.sure_
        obtain ⟨v1, vs2, rfl, rfl, hv2⟩ := hv1.sure_
        obtain ⟨v2, vs3, rfl, rfl, hv3⟩ := hv2.sure_
        obtain ⟨v3, vs4, rfl, rfl, hv4⟩ := hv3.sure_
        obtain ⟨v4, vs5, rfl, rfl, hv5⟩ := hv4.sure_
        obtain ⟨v5, vs6, rfl, rfl, hv6⟩ := hv5.sure_
        obtain ⟨v6, vs7, rfl, rfl, hv7⟩ := hv6.sure_
        obtain ⟨v7, vs8, rfl, rfl, hv8⟩ := hv7.sure_
        obtain ⟨v8, vs9, rfl, rfl, hv9⟩ := hv8.sure_
        obtain ⟨v9, vs10, rfl, rfl, hv10⟩ := hv9.sure_
        obtain ⟨v10, vs11, rfl, rfl, hv11⟩ := hv10.sure_
        obtain ⟨v11, vs12, rfl, rfl, hv12⟩ := hv11.sure_
        obtain ⟨v12, vs13, rfl, rfl, hv13⟩ := hv12.sure_
        obtain ⟨v13, vs14, rfl, rfl, hv14⟩ := hv13.sure_
        obtain ⟨v14, vs15, rfl, rfl, hv15⟩ := hv14.sure_
        obtain ⟨v15, vs16, rfl, rfl, hv16⟩ := hv15.sure_
        obtain ⟨v16, vs17, rfl, rfl, hv17⟩ := hv16.sure_
        obtain ⟨v17, vs18, rfl, rfl, hv18⟩ := hv17.sure_
        obtain ⟨v18, vs19, rfl, rfl, hv19⟩ := hv18.sure_
        obtain ⟨v19, vs20, rfl, rfl, hv20⟩ := hv19.sure_
        obtain ⟨v20, vs21, rfl, rfl, hv21⟩ := hv20.sure_
        obtain ⟨v21, vs22, rfl, rfl, hv22⟩ := hv21.sure_
        obtain ⟨vs23, rfl, ge12, ⟨cs12, cb12, cc12⟩, hv23⟩ := hv22.box_
        obtain ⟨vs24, rfl, ge13, ⟨cs13, cb13, cc13⟩, hv24⟩ := hv23.box_
        obtain ⟨vs25, rfl, ge14, ⟨cs14, cb14, cc14⟩, hv25⟩ := hv24.box_
        obtain ⟨vs26, rfl, ge15, ⟨cs15, cb15, cc15⟩, hv26⟩ := hv25.box_
        have hv27 := hv26.put_
        have hv28 := hv27.put_
        have hv29 := hv28.put_
        have hv30 := hv29.put_
        obtain rfl := hv30.nil_
        clear hv hv1 hv2 hv3 hv4 hv5 hv6 hv7 hv8 hv9 hv10 hv11 hv12 hv13 hv14 hv15 hv16 hv17 hv18 hv19 hv20 hv21 hv22 hv23 hv24 hv25 hv26 hv27 hv28 hv29 hv30
        obtain ⟨ga, hga⟩ : ∃ g, G 12 = g := ⟨_, rfl⟩
        obtain ⟨gb, hgb⟩ : ∃ g, G 13 = g := ⟨_, rfl⟩
        obtain ⟨gc, hgc⟩ : ∃ g, G 14 = g := ⟨_, rfl⟩
        obtain ⟨gd', hgd⟩ : ∃ g, G 15 = g := ⟨_, rfl⟩
        rw [hga] at cb12
        rw [hgb] at cb13
        rw [hgc] at cb14
        rw [hgd] at cb15
        subst cc12 cc13 cc14 cc15
        have HB3 := Aside0.mk (below_step HB.out hb2)
        have HC3 := Aside0.mk (Kd.C_below HC7.out hb2)
        simp only [laid, overlay, List.zipWith_cons_cons, List.zipWith_nil_left, List.zipWith_nil_right, List.foldl_cons, List.foldl_nil, List.setIfInBounds_toArray, List.set_cons_zero, List.set_cons_succ, hga, hgb, hgc, hgd]
        clear ka0 ka1 kb0 kb1 kc0 kc1 kd0 kd1 hb2 hnd ge12 ge13 ge14 ge15 hga hgb hgc hgd
        have ka0 : w2.cell? ⟨ga, 0, none⟩ = some (.int .i64 a.f0) := blk_cell cb12 0
        have ka1 : w2.cell? ⟨ga, 1, none⟩ = some (.int .i64 a.f1) := blk_cell cb12 1
        have kb0 : w2.cell? ⟨gb, 0, none⟩ = some (.int .i64 b.f0) := blk_cell cb13 0
        have kb1 : w2.cell? ⟨gb, 1, none⟩ = some (.int .i64 b.f1) := blk_cell cb13 1
        have kc0 : w2.cell? ⟨gc, 0, none⟩ = some (.int .i64 cc.f0) := blk_cell cb14 0
        have kc1 : w2.cell? ⟨gc, 1, none⟩ = some (.int .i64 cc.f1) := blk_cell cb14 1
        have kd0 : w2.cell? ⟨gd', 0, none⟩ = some (.int .i64 d.f0) := blk_cell cb15 0
        have kd1 : w2.cell? ⟨gd', 1, none⟩ = some (.int .i64 d.f1) := blk_cell cb15 1
        clear cb12 cb13 cb14 cb15
        go_upto_region 15 with fail
        refine region_sure (by kernel_rfl) (by kernel_rfl) (fun base => base[12]? = some (.pointer (some ⟨ga, 0, none⟩)) ∧ base[13]? = some (.pointer (some ⟨gb, 0, none⟩)) ∧ base[14]? = some (.pointer (some ⟨gc, 0, none⟩)) ∧ base[15]? = some (.pointer (some ⟨gd', 0, none⟩))) [79, 80, 81, 82, 83, 84, 85, 86, 87, 88, 89, 90, 91, 92, 93, 94, 95, 96, 97, 98, 99, 100, 101, 102, 103, 104, 105, 106, 107, 108, 109, 110, 111, 112, 113] [(fun _ v => v = .agg #[.int .i64 a.f0, .int .i64 a.f1]), (fun _ v => v = .agg #[.int .i64 b.f0, .int .i64 b.f1]), (fun _ v => v = .agg #[.int .i64 cc.f0, .int .i64 cc.f1]), (fun _ v => v = .int .i64 (turnP a b cc)), (fun _ v => v = .agg #[.int .i64 a.f0, .int .i64 a.f1]), (fun _ v => v = .agg #[.int .i64 b.f0, .int .i64 b.f1]), (fun _ v => v = .agg #[.int .i64 cc.f0, .int .i64 cc.f1]), (fun _ v => v = .int .i64 (turnP a b cc)), (fun _ v => v = .bool false), (fun _ v => v = .bool false), (fun _ v => v = .agg #[.int .i64 a.f0, .int .i64 a.f1]), (fun _ v => v = .agg #[.int .i64 b.f0, .int .i64 b.f1]), (fun _ v => v = .agg #[.int .i64 cc.f0, .int .i64 cc.f1]), (fun _ v => v = .agg #[.int .i64 d.f0, .int .i64 d.f1]), (fun _ v => v = .bool (crossP a b cc d)), (fun _ v => v = .agg #[.int .i64 a.f0, .int .i64 a.f1]), (fun _ v => v = .agg #[.int .i64 b.f0, .int .i64 b.f1]), (fun _ v => v = .agg #[.int .i64 cc.f0, .int .i64 cc.f1]), (fun _ v => v = .agg #[.int .i64 d.f0, .int .i64 d.f1]), (fun _ v => v = .bool (crossP a b cc d)), (fun _ v => v = .bool false), (fun _ v => v = .bool false), (fun _ v => v = .bool false), (fun _ v => v = .agg #[.int .i64 a.f0, .int .i64 a.f1]), (fun _ v => v = .agg #[.int .i64 cc.f0, .int .i64 cc.f1]), (fun _ v => v = .agg #[.int .i64 d.f0, .int .i64 d.f1]), (fun _ v => v = .agg #[.int .i64 d.f0, .int .i64 d.f1]), (fun _ v => v = .bool (crossP a cc d d)), (fun _ v => v = .agg #[.int .i64 a.f0, .int .i64 a.f1]), (fun _ v => v = .agg #[.int .i64 cc.f0, .int .i64 cc.f1]), (fun _ v => v = .agg #[.int .i64 d.f0, .int .i64 d.f1]), (fun _ v => v = .agg #[.int .i64 d.f0, .int .i64 d.f1]), (fun _ v => v = .bool (crossP a cc d d)), (fun _ v => v = .bool false), (fun _ v => v = .bool false)] ?hB rfl (by decide) (by kernel_rfl) ?hstep ?hdone
        case hstep =>
         refine ⟨⟨mono_eq _, ps15_s0 rfl rfl rfl (by decide) (fun _ h => h.1) ka0 ka1⟩, ?_⟩
         refine ⟨⟨mono_eq _, ps15_s1 rfl rfl rfl (by decide) (fun _ h => h.2.1) kb0 kb1⟩, ?_⟩
         refine ⟨⟨mono_eq _, ps15_s2 rfl rfl rfl (by decide) (fun _ h => h.2.2.1) kc0 kc1⟩, ?_⟩
         refine ⟨⟨mono_eq _, ps15_s3 rfl rfl rfl (by decide) rfl rfl (by decide) rfl rfl (by decide) rfl rfl⟩, ?_⟩
         refine ⟨⟨mono_eq _, ps15_s4 rfl rfl rfl (by decide) (fun _ h => h.1) ka0 ka1⟩, ?_⟩
         refine ⟨⟨mono_eq _, ps15_s5 rfl rfl rfl (by decide) (fun _ h => h.2.1) kb0 kb1⟩, ?_⟩
         refine ⟨⟨mono_eq _, ps15_s6 rfl rfl rfl (by decide) (fun _ h => h.2.2.1) kc0 kc1⟩, ?_⟩
         refine ⟨⟨mono_eq _, ps15_s7 rfl rfl rfl (by decide) rfl rfl (by decide) rfl rfl (by decide) rfl rfl⟩, ?_⟩
         refine ⟨⟨mono_eq _, ps15_s8 rfl rfl rfl (by decide) rfl rfl (by decide) rfl rfl⟩, ?_⟩
         refine ⟨⟨mono_eq _, ps15_s9 rfl rfl rfl (by decide) rfl rfl⟩, ?_⟩
         refine ⟨⟨mono_eq _, ps15_s10 rfl rfl rfl ⟨_, rfl, rfl⟩ (by decide) rfl rfl (by decide) (fun _ h => h.1) ka0 ka1⟩, ?_⟩
         refine ⟨⟨mono_eq _, ps15_s11 rfl rfl rfl ⟨_, rfl, rfl⟩ (by decide) rfl rfl (by decide) (fun _ h => h.2.1) kb0 kb1⟩, ?_⟩
         refine ⟨⟨mono_eq _, ps15_s12 rfl rfl rfl ⟨_, rfl, rfl⟩ (by decide) rfl rfl (by decide) (fun _ h => h.2.2.1) kc0 kc1⟩, ?_⟩
         refine ⟨⟨mono_eq _, ps15_s13 rfl rfl rfl ⟨_, rfl, rfl⟩ (by decide) rfl rfl (by decide) (fun _ h => h.2.2.2) kd0 kd1⟩, ?_⟩
         refine ⟨⟨mono_eq _, ps15_s14 rfl rfl rfl ⟨_, rfl, rfl⟩ (by decide) rfl rfl (by decide) rfl rfl (by decide) rfl rfl (by decide) rfl rfl (by decide) rfl rfl⟩, ?_⟩
         refine ⟨⟨mono_eq _, ps15_s15 rfl rfl rfl ⟨_, rfl, rfl⟩ (by decide) rfl rfl (by decide) (fun _ h => h.1) ka0 ka1⟩, ?_⟩
         refine ⟨⟨mono_eq _, ps15_s16 rfl rfl rfl ⟨_, rfl, rfl⟩ (by decide) rfl rfl (by decide) (fun _ h => h.2.1) kb0 kb1⟩, ?_⟩
         refine ⟨⟨mono_eq _, ps15_s17 rfl rfl rfl ⟨_, rfl, rfl⟩ (by decide) rfl rfl (by decide) (fun _ h => h.2.2.1) kc0 kc1⟩, ?_⟩
         refine ⟨⟨mono_eq _, ps15_s18 rfl rfl rfl ⟨_, rfl, rfl⟩ (by decide) rfl rfl (by decide) (fun _ h => h.2.2.2) kd0 kd1⟩, ?_⟩
         refine ⟨⟨mono_eq _, ps15_s19 rfl rfl rfl ⟨_, rfl, rfl⟩ (by decide) rfl rfl (by decide) rfl rfl (by decide) rfl rfl (by decide) rfl rfl (by decide) rfl rfl⟩, ?_⟩
         refine ⟨⟨mono_eq _, ps15_s20 rfl rfl rfl ⟨_, rfl, rfl⟩ (by decide) rfl rfl (by decide) rfl rfl (by decide) rfl rfl⟩, ?_⟩
         refine ⟨⟨mono_eq _, ps15_s21 rfl rfl rfl (by decide) rfl rfl (by decide) rfl rfl⟩, ?_⟩
         refine ⟨⟨mono_eq _, ps15_s22 rfl rfl rfl (by decide) rfl rfl⟩, ?_⟩
         refine ⟨⟨mono_eq _, ps15_s23 rfl rfl rfl ⟨_, rfl, rfl⟩ (by decide) rfl rfl (by decide) (fun _ h => h.1) ka0 ka1⟩, ?_⟩
         refine ⟨⟨mono_eq _, ps15_s24 rfl rfl rfl ⟨_, rfl, rfl⟩ (by decide) rfl rfl (by decide) (fun _ h => h.2.2.1) kc0 kc1⟩, ?_⟩
         refine ⟨⟨mono_eq _, ps15_s25 rfl rfl rfl ⟨_, rfl, rfl⟩ (by decide) rfl rfl (by decide) (fun _ h => h.2.2.2) kd0 kd1⟩, ?_⟩
         refine ⟨⟨mono_eq _, ps15_s26 rfl rfl rfl ⟨_, rfl, rfl⟩ (by decide) rfl rfl (by decide) (fun _ h => h.2.2.2) kd0 kd1⟩, ?_⟩
         refine ⟨⟨mono_eq _, ps15_s27 rfl rfl rfl ⟨_, rfl, rfl⟩ (by decide) rfl rfl (by decide) rfl rfl (by decide) rfl rfl (by decide) rfl rfl (by decide) rfl rfl⟩, ?_⟩
         refine ⟨⟨mono_eq _, ps15_s28 rfl rfl rfl ⟨_, rfl, rfl⟩ (by decide) rfl rfl (by decide) (fun _ h => h.1) ka0 ka1⟩, ?_⟩
         refine ⟨⟨mono_eq _, ps15_s29 rfl rfl rfl ⟨_, rfl, rfl⟩ (by decide) rfl rfl (by decide) (fun _ h => h.2.2.1) kc0 kc1⟩, ?_⟩
         refine ⟨⟨mono_eq _, ps15_s30 rfl rfl rfl ⟨_, rfl, rfl⟩ (by decide) rfl rfl (by decide) (fun _ h => h.2.2.2) kd0 kd1⟩, ?_⟩
         refine ⟨⟨mono_eq _, ps15_s31 rfl rfl rfl ⟨_, rfl, rfl⟩ (by decide) rfl rfl (by decide) (fun _ h => h.2.2.2) kd0 kd1⟩, ?_⟩
         refine ⟨⟨mono_eq _, ps15_s32 rfl rfl rfl ⟨_, rfl, rfl⟩ (by decide) rfl rfl (by decide) rfl rfl (by decide) rfl rfl (by decide) rfl rfl (by decide) rfl rfl⟩, ?_⟩
         refine ⟨⟨mono_eq _, ps15_s33 rfl rfl rfl ⟨_, rfl, rfl⟩ (by decide) rfl rfl (by decide) rfl rfl (by decide) rfl rfl⟩, ?_⟩
         refine ⟨⟨mono_eq _, ps15_s34 rfl rfl rfl (by decide) rfl rfl (by decide) rfl rfl⟩, ?_⟩
         exact trivial
        case hB => exact ⟨rfl, rfl, rfl, rfl⟩
        case hdone =>
         intro vs w3 hv hb3
         obtain ⟨v0, vs1, rfl, rfl, hv1⟩ := hv.cons
         obtain ⟨v1, vs2, rfl, rfl, hv2⟩ := hv1.cons
         obtain ⟨v2, vs3, rfl, rfl, hv3⟩ := hv2.cons
         obtain ⟨v3, vs4, rfl, rfl, hv4⟩ := hv3.cons
         obtain ⟨v4, vs5, rfl, rfl, hv5⟩ := hv4.cons
         obtain ⟨v5, vs6, rfl, rfl, hv6⟩ := hv5.cons
         obtain ⟨v6, vs7, rfl, rfl, hv7⟩ := hv6.cons
         obtain ⟨v7, vs8, rfl, rfl, hv8⟩ := hv7.cons
         obtain ⟨v8, vs9, rfl, rfl, hv9⟩ := hv8.cons
         obtain ⟨v9, vs10, rfl, rfl, hv10⟩ := hv9.cons
         obtain ⟨v10, vs11, rfl, -, hv11⟩ := hv10.cons
         obtain ⟨v11, vs12, rfl, -, hv12⟩ := hv11.cons
         obtain ⟨v12, vs13, rfl, -, hv13⟩ := hv12.cons
         obtain ⟨v13, vs14, rfl, -, hv14⟩ := hv13.cons
         obtain ⟨v14, vs15, rfl, -, hv15⟩ := hv14.cons
         obtain ⟨v15, vs16, rfl, -, hv16⟩ := hv15.cons
         obtain ⟨v16, vs17, rfl, -, hv17⟩ := hv16.cons
         obtain ⟨v17, vs18, rfl, -, hv18⟩ := hv17.cons
         obtain ⟨v18, vs19, rfl, -, hv19⟩ := hv18.cons
         obtain ⟨v19, vs20, rfl, -, hv20⟩ := hv19.cons
         obtain ⟨v20, vs21, rfl, -, hv21⟩ := hv20.cons
         obtain ⟨v21, vs22, rfl, rfl, hv22⟩ := hv21.cons
         obtain ⟨v22, vs23, rfl, rfl, hv23⟩ := hv22.cons
         obtain ⟨v23, vs24, rfl, -, hv24⟩ := hv23.cons
         obtain ⟨v24, vs25, rfl, -, hv25⟩ := hv24.cons
         obtain ⟨v25, vs26, rfl, -, hv26⟩ := hv25.cons
         obtain ⟨v26, vs27, rfl, -, hv27⟩ := hv26.cons
         obtain ⟨v27, vs28, rfl, -, hv28⟩ := hv27.cons
         obtain ⟨v28, vs29, rfl, -, hv29⟩ := hv28.cons
         obtain ⟨v29, vs30, rfl, -, hv30⟩ := hv29.cons
         obtain ⟨v30, vs31, rfl, -, hv31⟩ := hv30.cons
         obtain ⟨v31, vs32, rfl, -, hv32⟩ := hv31.cons
         obtain ⟨v32, vs33, rfl, -, hv33⟩ := hv32.cons
         obtain ⟨v33, vs34, rfl, -, hv34⟩ := hv33.cons
         obtain ⟨v34, vs35, rfl, rfl, hv35⟩ := hv34.cons
         obtain rfl := hv35.nil
         have HB4 := Aside0.mk (below_step HB3.out hb3)
         have HC4 := Aside0.mk (Kd.C_below HC3.out hb3)
         simp only [laid, overlay, List.zipWith_cons_cons, List.zipWith_nil_left, List.zipWith_nil_right, List.foldl_cons, List.foldl_nil, List.setIfInBounds_toArray, List.set_cons_zero, List.set_cons_succ]
         clear ka0 ka1 kb0 kb1 kc0 kc1 kd0 kd1 hb3
         go_wp2
         go_roundw
         case rel => exact ⟨i + 1, by push_cast; rfl, by omega, HC4, HB4⟩
         case measure => simp only [intOf]; omega
      ·have hi8 : i = 8 := by omega
       subst hi8
       go_wp2_with (first
        | (go_at_call 10; (with_reducible refine (lives_calls _).mono ?_); rintro e w2 ⟨rfl, hb2⟩; have HB2 := Aside0.mk (below_step HB.out hb2); clear hb2)
        | fail)
       go_ret
       exact ⟨rfl, HB2.out⟩
end Go.Proofs.Ytjmkccabpnigiaa.P
