import Derived.Test.YtjmkccabpnigiaaQGivenR
namespace Go.Proofs.Ytjmkccabpnigiaa.P
open Go.RowKit Go.Proofs.YtjmkccabpnigiaaW.PrintWords Go.Proofs.YtjmkccabpnigiaaW.PrintLast Go.Proofs.YtjmkccabpnigiaaW.PrintMore
attribute [local go_sem] max2_int min2_int max_two min_two max_three min_three max_four min_four
set_option linter.unusedVariables false
set_option linter.unusedSimpArgs false
set_option maxHeartbeats 4000000 in
set_option maxRecDepth 100000 in
theorem make_calls (u v : Value) (x : Int) (w : World) (hu : WI w u x) (hv : WI w v 1) (hfx : Fit x) :
    Calls Try.prog 47 #[u, v] w fun e w' => ∃ r, e = .returned (.tuple #[r, .int .i64 0]) ∧ FI w' r x ∧ Below w.heap.size w w' := by
 have hu45 := Try.underlying45
 have hu43 := Try.underlying43
 have HU := Aside0.mk hu
 have HV := Aside0.mk hv
 obtain ⟨A, n, c, ds, rfl, hM, hN, hV⟩ := hu
 obtain ⟨A', n', c', ds', rfl, hM', hN', hV'⟩ := hv
 have HM := Aside0.mk (show MgC w A n c ds ∧ Nz ds ∧ val ds = magn x from ⟨hM, hN, hV⟩)
 have HM' := Aside0.mk (show MgC w A' n' c' ds' ∧ Nz ds' ∧ val ds' = magn (1 : Int) from ⟨hM', hN', hV'⟩)
 obtain ⟨s, hs⟩ : ∃ s, decide (x < 0) = s := ⟨_, rfl⟩
 obtain ⟨s', hs'⟩ : ∃ s, decide ((1 : Int) < 0) = s := ⟨_, rfl⟩
 rw [hs] at HU
 rw [hs'] at HV
 rw [hs, hs']
 clear hM hN hV hM' hN' hV'
 clear hs hs' HM HM'
 have hb3 := below_alloc (below_alloc (below_alloc (Below.refl w.heap.size w) (.cells #[.bool s, .slice A n c] 43)) (.cells #[.bool s', .slice A' n' c'] 43)) (.cells #[.bool false, .slice none 0 0, .bool false, .slice none 0 0] 45)
 have b2 := blk_alloc (blk_alloc (blk_new w (.cells #[.bool s, .slice A n c] 43)) (.cells #[.bool s', .slice A' n' c'] 43)) (.cells #[.bool false, .slice none 0 0, .bool false, .slice none 0 0] 45)
 have b3 := blk_alloc (blk_new (w.alloc (.cells #[.bool s, .slice A n c] 43)) (.cells #[.bool s', .slice A' n' c'] 43)) (.cells #[.bool false, .slice none 0 0, .bool false, .slice none 0 0] 45)
 have b4 := blk_new ((w.alloc (.cells #[.bool s, .slice A n c] 43)).alloc (.cells #[.bool s', .slice A' n' c'] 43)) (.cells #[.bool false, .slice none 0 0, .bool false, .slice none 0 0] 45)
 simp only [World.size_alloc] at b3 b4
 have hq0 : w.heap.size ≠ w.heap.size + 1 + 1 := by omega
 have hq1 : w.heap.size + 1 ≠ w.heap.size + 1 + 1 := by omega
 have HF := Aside0.mk (show Fit x ∧ Fit 1 from ⟨hfx, Fit.small (by decide) (by decide)⟩)
 have HC := Aside0.mk (show cmp3 1 0 = 1 from rfl)
 clear hfx
 go_enter Try.func47, Try.ntmps47
 go_upto_region 1 with fail
 obtain ⟨W, hW⟩ : ∃ W, ((w.alloc (.cells #[.bool s, .slice A n c] 43)).alloc (.cells #[.bool s', .slice A' n' c'] 43)).alloc (.cells #[.bool false, .slice none 0 0, .bool false, .slice none 0 0] 45) = W := ⟨_, rfl⟩
 rw [hW] at hb3 b2 b3 b4 ⊢
 have HB := Aside0.mk hb3
 have B4 := Aside0.mk b4
 have B2 := Aside0.mk b2
 have B3 := Aside0.mk b3
 clear hW hb3
 have c0 : W.cell? ⟨w.heap.size, 0, none⟩ = some (.bool s) := blk_cell b2 0
 have c1 : W.cell? ⟨w.heap.size, 1, none⟩ = some (.slice A n c) := blk_cell b2 1
 have c2 : W.cell? ⟨w.heap.size + 1, 0, none⟩ = some (.bool s') := blk_cell b3 0
 have c3 : W.cell? ⟨w.heap.size + 1, 1, none⟩ = some (.slice A' n' c') := blk_cell b3 1
 clear b2 b3 b4
 clear hq0 hq1
 go_upto_region 6 with (first
  | (go_at_call 54; (with_reducible refine (Sign_calls _ 1 W (HV.out.below HB.out) HF.out.2).mono ?_); rintro e w1 ⟨rfl, hb1⟩; rw [HC.out]; have HB1 := Aside0.mk hb1; have k2 := pw_cell_below hb1 c2; have k3 := pw_cell_below hb1 c3; clear hb1)
  | (go_at_call 54; (with_reducible refine (Sign_calls _ 1 w1 ((HV.out.below HB.out).below HB1.out) HF.out.2).mono ?_); rintro e w2 ⟨rfl, hb2⟩; rw [HC.out]; have HB2 := Aside0.mk (below_step HB1.out hb2); have l0 := pw_cell_below HB2.out c0; have l1 := pw_cell_below HB2.out c1; have l2 := pw_cell_below HB2.out c2; have l3 := pw_cell_below HB2.out c3; clear hb2 k2 k3)
  | (go_at_call 60; (with_reducible refine (gcd_calls _ _ x w2 ((HU.out.below HB.out).below HB2.out) ((HV.out.below HB.out).below HB2.out) HF.out.1).mono ?_); rintro e w3 ⟨v3, rfl, hW3, hb3⟩; obtain ⟨s3, A3, n3, c3', rfl, HW3⟩ := hW3.parts; have HB3 := Aside0.mk (below_step HB2.out hb3); clear hW3 hb3 l0 l1 l2 l3)
  | fail)
 clear c0 c1 c2 c3
 have hb4 := Aside0.mk (below_alloc HB3.out (.cells #[.bool s3, .slice A3 n3 c3'] 43))
 have B24 := Aside0.mk (blk_below B2.out hb4.out)
 have B34 := Aside0.mk (blk_below B3.out hb4.out)
 have B44 := Aside0.mk (blk_below B4.out hb4.out)
 have b6 := blk_new w3 (.cells #[.bool s3, .slice A3 n3 c3'] 43)
 have HU4 := Aside0.mk ((HU.out.below HB.out).below hb4.out)
 have HV4 := Aside0.mk ((HV.out.below HB.out).below hb4.out)
 have HG4 := Aside0.mk (HW3.out.below (below_alloc (Below.refl w3.heap.size w3) (.cells #[.bool s3, .slice A3 n3 c3'] 43)))
 have HB4 := Aside0.mk (below_step HB.out hb4.out)
 obtain ⟨W4, hW4⟩ : ∃ W4, w3.alloc (.cells #[.bool s3, .slice A3 n3 c3'] 43) = W4 := ⟨_, rfl⟩
 rw [hW4] at B24 B34 B44 b6 HU4 HV4 HG4 HB4 ⊢
 have hlt := blk_lt B44.out
 have hlt3 : w.heap.size + 1 + 1 < w3.heap.size := by have := HB3.out.size; have := blk_lt B4.out; omega
 obtain ⟨g6, hg6⟩ : ∃ g, w3.heap.size = g := ⟨_, rfl⟩
 rw [hg6] at b6 hlt3 ⊢
 have hq0 : w.heap.size ≠ w.heap.size + 1 + 1 := by omega
 have hq1 : w.heap.size + 1 ≠ w.heap.size + 1 + 1 := by omega
 have hq2 : g6 ≠ w.heap.size + 1 + 1 := by omega
 have c0 : W4.cell? ⟨w.heap.size, 0, none⟩ = some (.bool s) := blk_cell B24.out 0
 have c1 : W4.cell? ⟨w.heap.size, 1, none⟩ = some (.slice A n c) := blk_cell B24.out 1
 have c2 : W4.cell? ⟨w.heap.size + 1, 0, none⟩ = some (.bool s') := blk_cell B34.out 0
 have c3 : W4.cell? ⟨w.heap.size + 1, 1, none⟩ = some (.slice A' n' c') := blk_cell B34.out 1
 have c4 : W4.cell? ⟨g6, 0, none⟩ = some (.bool s3) := blk_cell b6 0
 have c5 : W4.cell? ⟨g6, 1, none⟩ = some (.slice A3 n3 c3') := blk_cell b6 1
 clear hW4 hg6 b6 hlt hlt3 HB1 HB2 HB3 hb4 HW3 HB B2 B3 B4 B24 B34
 go_region_held3 (fun w' => w'.cell? ⟨w.heap.size, 0, none⟩ = some (.bool s) ∧ w'.cell? ⟨w.heap.size, 1, none⟩ = some (.slice A n c) ∧ w'.cell? ⟨w.heap.size + 1, 0, none⟩ = some (.bool s') ∧ w'.cell? ⟨w.heap.size + 1, 1, none⟩ = some (.slice A' n' c') ∧ w'.cell? ⟨g6, 0, none⟩ = some (.bool s3) ∧ w'.cell? ⟨g6, 1, none⟩ = some (.slice A3 n3 c3'))
  (first | (with_reducible exact ⟨c0, c1, c2, c3, c4, c5⟩) | (with_reducible exact ⟨k0, k1, k2, k3, k4, k5⟩) | (with_reducible exact ⟨l0, l1, l2, l3, l4, l5⟩) | (with_reducible exact ⟨j0, j1, j2, j3, j4, j5⟩) | (with_reducible exact ⟨i0, i1, i2, i3, i4, i5⟩) | exact ⟨c0, c1, c2, c3, c4, c5⟩ | fail)
  (first
   | (go_at_call 62; (with_reducible refine (over_calls _ _ x 1 _ (HU4.out.below ?_) (HG4.out.below ?_) HF.out.1 (by decide) (by decide)).mono ?_); (iterate 2 exact below_drew1 (Below.refl _ _)); rintro e w5 ⟨v5, rfl, hW5, hb5⟩; rw [Int.ediv_one] at hW5; obtain ⟨s5, A5, n5, c5', rfl, HW5⟩ := hW5.parts; have HB5 := Aside0.mk (below_step (below_drew1 (Below.refl W4.heap.size W4)) hb5); have B45 := Aside0.mk (blk_below B44.out HB5.out); have k0 := pw_cell_below HB5.out c0; have k1 := pw_cell_below HB5.out c1; have k2 := pw_cell_below HB5.out c2; have k3 := pw_cell_below HB5.out c3; have k4 := pw_cell_below HB5.out c4; have k5 := pw_cell_below HB5.out c5; clear hW5 hb5)
   | (go_at_call 62; (with_reducible refine (over_calls _ _ 1 1 _ (HV4.out.below ?_) (HG4.out.below ?_) HF.out.2 (by decide) (by decide)).mono ?_); (iterate 2 exact HB5.out); rintro e w6 ⟨v6, rfl, hW6, hb6⟩; rw [Int.ediv_one] at hW6; obtain ⟨s6, A6, n6, c6', rfl, HW6⟩ := hW6.parts; have HB6 := Aside0.mk (below_step HB5.out hb6); have B46 := Aside0.mk (blk_below B45.out hb6); have HW56 := Aside0.mk (HW5.out.below hb6); have l0 := pw_cell_below hb6 k0; have l1 := pw_cell_below hb6 k1; have l2 := pw_cell_below hb6 k2; have l3 := pw_cell_below hb6 k3; have l4 := pw_cell_below hb6 k4; have l5 := pw_cell_below hb6 k5; clear hW6 hb6)
   | (go_at_call 61; (with_reducible refine (lowest_calls _ _ x _ HW56.out HW6.out).mono ?_); rintro e w7 ⟨v7, rfl, hW7, hb7⟩; obtain ⟨s7, A7, n7, c7, s8, A8, n8, c8, rfl, hX7, hX8⟩ := hW7; have HW7 := Aside0.mk hX7; have HW8 := Aside0.mk hX8; have HB7 := Aside0.mk (below_step HB6.out hb7); have B47 := Aside0.mk (blk_below B46.out hb7); have j0 := pw_cell_below hb7 l0; have j1 := pw_cell_below hb7 l1; have j2 := pw_cell_below hb7 l2; have j3 := pw_cell_below hb7 l3; have j4 := pw_cell_below hb7 l4; have j5 := pw_cell_below hb7 l5; have f0 := blk_frozen B47.out 0; have f1 := blk_frozen B47.out 1; have f2 := blk_frozen B47.out 2; have f3 := blk_frozen B47.out 3; have m0 : w7.cell? ⟨w.heap.size + 1 + 1, 0, none⟩ = some (.bool false) := blk_cell B47.out 0; have m1 : w7.cell? ⟨w.heap.size + 1 + 1, 1, none⟩ = some (.slice none 0 0) := blk_cell B47.out 1; have m2 : w7.cell? ⟨w.heap.size + 1 + 1, 2, none⟩ = some (.bool false) := blk_cell B47.out 2; have m3 : w7.cell? ⟨w.heap.size + 1 + 1, 3, none⟩ = some (.slice none 0 0) := blk_cell B47.out 3; have i0 := cell_set4 (g := w.heap.size + 1 + 1) (x := .bool s7) (y := .slice A7 n7 c7) (x' := .bool s8) (y' := .slice A8 n8 c8) j0 hq0; have i1 := cell_set4 (g := w.heap.size + 1 + 1) (x := .bool s7) (y := .slice A7 n7 c7) (x' := .bool s8) (y' := .slice A8 n8 c8) j1 hq0; have i2 := cell_set4 (g := w.heap.size + 1 + 1) (x := .bool s7) (y := .slice A7 n7 c7) (x' := .bool s8) (y' := .slice A8 n8 c8) j2 hq1; have i3 := cell_set4 (g := w.heap.size + 1 + 1) (x := .bool s7) (y := .slice A7 n7 c7) (x' := .bool s8) (y' := .slice A8 n8 c8) j3 hq1; have i4 := cell_set4 (g := w.heap.size + 1 + 1) (x := .bool s7) (y := .slice A7 n7 c7) (x' := .bool s8) (y' := .slice A8 n8 c8) j4 hq2; have i5 := cell_set4 (g := w.heap.size + 1 + 1) (x := .bool s7) (y := .slice A7 n7 c7) (x' := .bool s8) (y' := .slice A8 n8 c8) j5 hq2; clear hX7 hX8 hb7)
   | fail)
 all_goals go_wp2
 have hend := fi_put B47.out (below_step HB4.out HB7.out) (by omega) HW7.out HW8.out
 refine bodyPost_ret (results_ct5 rfl _ _ (w.heap.size + 1 + 1) _ _ _ _ _ rfl rfl hend.2.2) rfl ?_
 exact ⟨_, rfl, hend.1, hend.2.1⟩
end Go.Proofs.Ytjmkccabpnigiaa.P
namespace Go.Proofs.Ytjmkccabpnigiaa.P
open Go.RowKit Go.Proofs.YtjmkccabpnigiaaW.PrintWords Go.Proofs.YtjmkccabpnigiaaW.PrintLast Go.Proofs.YtjmkccabpnigiaaW.PrintMore
attribute [local go_sem] max2_int min2_int max_two min_two max_three min_three max_four min_four
set_option linter.unusedVariables false
set_option linter.unusedSimpArgs false
set_option maxHeartbeats 2000000
set_option maxRecDepth 100000
theorem FI.parts {w : World} {v : Value} {z : Int} (h : FI w v z) : ∃ (s : Bool) (A : Option Addr) (n c : Nat) (s' : Bool) (A' : Option Addr) (n' c' : Nat), v = .agg #[.bool s, .slice A n c, .bool s', .slice A' n' c'] ∧ Aside0 (WI w (.agg #[.bool s, .slice A n c]) z ∧ WI w (.agg #[.bool s', .slice A' n' c']) 0) := by
 obtain ⟨s, A, n, c, s', A', n', c', rfl, h1, h2⟩ := h
 exact ⟨s, A, n, c, s', A', n', c', rfl, ⟨h1, h2⟩⟩
theorem fit_i64 {n : Int} (h0 : -9223372036854775808 ≤ n) (h1 : n ≤ 9223372036854775807) : Fit n := Fit.small (by omega) (by omega)
theorem of_calls (n : Int) (h0 : -9223372036854775808 ≤ n) (h1 : n ≤ 9223372036854775807) (w : World) :
    Calls Try.prog 30 #[.int .i64 n, .int .i64 1] w fun e w' => ∃ r, e = .returned (.tuple #[r, .int .i64 0]) ∧ FI w' r n ∧ Below w.heap.size w w' := by
 have hu45 := Try.underlying45
 have HN := Aside0.mk (show -9223372036854775808 ≤ n ∧ n ≤ 9223372036854775807 ∧ Fit n from ⟨h0, h1, fit_i64 h0 h1⟩)
 have B0 := Aside0.mk (blk_new w (.cells #[.bool false, .slice none 0 0, .bool false, .slice none 0 0] 45))
 have HB0 := Aside0.mk (below_alloc (Below.refl w.heap.size w) (.cells #[.bool false, .slice none 0 0, .bool false, .slice none 0 0] 45))
 clear h0 h1
 go_enter Try.func30, Try.ntmps30
 go_wp2_with (first
  | (go_at_call 48; (with_reducible refine (from_calls n HN.out.1 HN.out.2.1 _).mono ?_); rintro e w1 ⟨v1, rfl, hW1, hb1⟩; obtain ⟨s1, A1, n1, c1, rfl, HW1⟩ := hW1.parts; have HB1 := Aside0.mk (below_step HB0.out hb1); have B1 := Aside0.mk (blk_below B0.out hb1); clear hW1 hb1)
  | (go_at_call 48; (with_reducible refine (from_calls 1 (by decide) (by decide) _).mono ?_); rintro e w2 ⟨v2, rfl, hW2, hb2⟩; obtain ⟨s2, A2, n2, c2, rfl, HW2⟩ := hW2.parts; have HB2 := Aside0.mk (below_step HB1.out hb2); have B2 := Aside0.mk (blk_below B1.out hb2); have HW12 := Aside0.mk (HW1.out.below hb2); clear hW2 hb2)
  | (go_at_call 47; (with_reducible refine (make_calls _ _ n _ HW12.out HW2.out HN.out.2.2).mono ?_); rintro e w3 ⟨v3, rfl, hW3, hb3⟩; obtain ⟨s3, A3, n3, c3, s4, A4, n4, c4, rfl, HW3⟩ := hW3.parts; have HB3 := Aside0.mk (below_step HB2.out hb3); have B3 := Aside0.mk (blk_below B2.out hb3); have f0 := blk_frozen B3.out 0; have f1 := blk_frozen B3.out 1; have f2 := blk_frozen B3.out 2; have f3 := blk_frozen B3.out 3; have m0 : w3.cell? ⟨w.heap.size, 0, none⟩ = some (.bool false) := blk_cell B3.out 0; have m1 : w3.cell? ⟨w.heap.size, 1, none⟩ = some (.slice none 0 0) := blk_cell B3.out 1; have m2 : w3.cell? ⟨w.heap.size, 2, none⟩ = some (.bool false) := blk_cell B3.out 2; have m3 : w3.cell? ⟨w.heap.size, 3, none⟩ = some (.slice none 0 0) := blk_cell B3.out 3; clear hW3 hb3)
  | fail)
 have hend := fi_put B3.out HB3.out (Nat.le_refl _) HW3.out.1 HW3.out.2
 refine bodyPost_ret (results_ct5 rfl _ _ w.heap.size _ _ _ _ _ rfl rfl hend.2.2) rfl ?_
 exact ⟨_, rfl, hend.1, hend.2.1⟩
theorem whole_calls (n : Int) (h0 : -9223372036854775808 ≤ n) (h1 : n ≤ 9223372036854775807) (w : World) :
    Calls Try.prog 39 #[.int .i64 n] w fun e w' => ∃ r, e = .returned r ∧ FI w' r n ∧ Below w.heap.size w w' := by
 have hu45 := Try.underlying45
 have HN := Aside0.mk (show -9223372036854775808 ≤ n ∧ n ≤ 9223372036854775807 from ⟨h0, h1⟩)
 have B0 := Aside0.mk (blk_new w (.cells #[.bool false, .slice none 0 0, .bool false, .slice none 0 0] 45))
 have HB0 := Aside0.mk (below_alloc (Below.refl w.heap.size w) (.cells #[.bool false, .slice none 0 0, .bool false, .slice none 0 0] 45))
 clear h0 h1
 go_enter Try.func39, Try.ntmps39
 go_wp2_with (first
  | (go_at_call 30; (with_reducible refine (of_calls n HN.out.1 HN.out.2 _).mono ?_); rintro e w3 ⟨v3, rfl, hW3, hb3⟩; obtain ⟨s3, A3, n3, c3, s4, A4, n4, c4, rfl, HW3⟩ := hW3.parts; have HB3 := Aside0.mk (below_step HB0.out hb3); have B3 := Aside0.mk (blk_below B0.out hb3); have f0 := blk_frozen B3.out 0; have f1 := blk_frozen B3.out 1; have f2 := blk_frozen B3.out 2; have f3 := blk_frozen B3.out 3; have m0 : w3.cell? ⟨w.heap.size, 0, none⟩ = some (.bool false) := blk_cell B3.out 0; have m1 : w3.cell? ⟨w.heap.size, 1, none⟩ = some (.slice none 0 0) := blk_cell B3.out 1; have m2 : w3.cell? ⟨w.heap.size, 2, none⟩ = some (.bool false) := blk_cell B3.out 2; have m3 : w3.cell? ⟨w.heap.size, 3, none⟩ = some (.slice none 0 0) := blk_cell B3.out 3; have hlt : w.heap.size < w3.heap.size := blk_lt B3.out; clear hW3 hb3)
  | fail)
 have hend := fi_put B3.out HB3.out (Nat.le_refl _) HW3.out.1 HW3.out.2
 refine bodyPost_ret (results_cell_row rfl _ _ w.heap.size 45 #[.bool s3, .slice A3 n3 c3, .bool s4, .slice A4 n4 c4] (0, 0) _ rfl (blk_alloc hend.2.2 _) Try.underlying45 rfl (by kernel_rfl)) rfl ?_
 exact ⟨_, rfl, hend.1.below (below_alloc (Below.refl _ _) _), below_alloc hend.2.1 _⟩
theorem lwhole_calls (n : Int) (h0 : -9223372036854775808 ≤ n) (h1 : n ≤ 9223372036854775807) (w : World) :
    Calls Try.prog 15 #[.int .i64 n] w fun e w' => ∃ r, e = .returned r ∧ FI w' r n ∧ Below w.heap.size w w' := by
 have hu45 := Try.underlying45
 have HN := Aside0.mk (show -9223372036854775808 ≤ n ∧ n ≤ 9223372036854775807 from ⟨h0, h1⟩)
 have B0 := Aside0.mk (blk_new w (.cells #[.bool false, .slice none 0 0, .bool false, .slice none 0 0] 45))
 have HB0 := Aside0.mk (below_alloc (Below.refl w.heap.size w) (.cells #[.bool false, .slice none 0 0, .bool false, .slice none 0 0] 45))
 clear h0 h1
 go_enter Try.func15, Try.ntmps15
 go_wp2_with (first
  | (go_at_call 30; (with_reducible refine (of_calls n HN.out.1 HN.out.2 _).mono ?_); rintro e w3 ⟨v3, rfl, hW3, hb3⟩; obtain ⟨s3, A3, n3, c3, s4, A4, n4, c4, rfl, HW3⟩ := hW3.parts; have HB3 := Aside0.mk (below_step HB0.out hb3); have B3 := Aside0.mk (blk_below B0.out hb3); have f0 := blk_frozen B3.out 0; have f1 := blk_frozen B3.out 1; have f2 := blk_frozen B3.out 2; have f3 := blk_frozen B3.out 3; have m0 : w3.cell? ⟨w.heap.size, 0, none⟩ = some (.bool false) := blk_cell B3.out 0; have m1 : w3.cell? ⟨w.heap.size, 1, none⟩ = some (.slice none 0 0) := blk_cell B3.out 1; have m2 : w3.cell? ⟨w.heap.size, 2, none⟩ = some (.bool false) := blk_cell B3.out 2; have m3 : w3.cell? ⟨w.heap.size, 3, none⟩ = some (.slice none 0 0) := blk_cell B3.out 3; have hlt : w.heap.size < w3.heap.size := blk_lt B3.out; clear hW3 hb3)
  | fail)
 have hend := fi_put B3.out HB3.out (Nat.le_refl _) HW3.out.1 HW3.out.2
 refine bodyPost_ret (results_cell_row rfl _ _ w.heap.size 45 #[.bool s3, .slice A3 n3 c3, .bool s4, .slice A4 n4 c4] (0, 0) _ rfl (blk_alloc hend.2.2 _) Try.underlying45 rfl (by kernel_rfl)) rfl ?_
 exact ⟨_, rfl, hend.1.below (below_alloc (Below.refl _ _) _), below_alloc hend.2.1 _⟩
end Go.Proofs.Ytjmkccabpnigiaa.P
namespace Go.Proofs.Ytjmkccabpnigiaa.P
open Go.RowKit Go.Proofs.YtjmkccabpnigiaaW.PrintWords Go.Proofs.YtjmkccabpnigiaaW.PrintLast Go.Proofs.YtjmkccabpnigiaaW.PrintMore
attribute [local go_sem] max2_int min2_int max_two min_two max_three min_three max_four min_four
set_option linter.unusedVariables false
set_option linter.unusedSimpArgs false
set_option maxHeartbeats 8000000 in
set_option maxRecDepth 100000 in
theorem ftimes_calls (g : Nat) (s : Bool) (A : Option Addr) (n c : Nat) (s' : Bool) (A' : Option Addr) (n' c' : Nat) (x y : Int) (w : World) (hg : w.heap[g]? = some (.cells #[.bool s, .slice A n c, .bool s', .slice A' n' c'] 43 (0, 0))) (hx : WI w (.agg #[.bool s, .slice A n c]) x) (hy : WI w (.agg #[.bool s', .slice A' n' c']) y) (hfx : Fit x) (hfy : Fit y) (hf : Fit (x * y)) :
    Calls Try.prog 75 #[.slice (some ⟨g, 0, none⟩) 2 2] w fun e w' => ∃ r, e = .returned (.tuple #[r, .int .i64 0]) ∧ WI w' r (x * y) ∧ Below w.heap.size w w' := by
 have hu43 := Try.underlying43
 have HXY := Aside0.mk (And.intro hx hy)
 have HF := Aside0.mk (show Fit x ∧ Fit y ∧ Fit (x * y) from ⟨hfx, hfy, hf⟩)
 have HG0 := Aside0.mk hg
 have hgl := blk_lt hg
 have B0 := Aside0.mk (blk_new w (.cells #[.bool false, .slice none 0 0] 43))
 have HB0 := Aside0.mk (below_alloc (Below.refl w.heap.size w) (.cells #[.bool false, .slice none 0 0] 43))
 clear hx hy hfx hfy hf hg
 go_enter Try.func75, Try.ntmps75
 go_wp2_with (first
  | (go_at_call 48; (with_reducible refine (from_calls 1 (by decide) (by decide) _).mono ?_); rintro e w1 ⟨v1, rfl, hW1, hb1⟩; obtain ⟨s1, A1, n1, c1, rfl, HW1⟩ := hW1.parts; have HB1 := Aside0.mk (below_step HB0.out hb1); have B1 := Aside0.mk (blk_below B0.out hb1); have hl1 : w.heap.size < w1.heap.size := blk_lt B1.out; clear hW1 hb1)
  | fail)
 have b4 := blk_new w1 (.cells #[.bool s1, .slice A1 n1 c1] 43)
 have HB2 := Aside0.mk (below_alloc HB1.out (.cells #[.bool s1, .slice A1 n1 c1] 43))
 have B2 := Aside0.mk (blk_alloc B1.out (.cells #[.bool s1, .slice A1 n1 c1] 43))
 have HW2 := Aside0.mk (HW1.out.below (below_alloc (Below.refl w1.heap.size w1) (.cells #[.bool s1, .slice A1 n1 c1] 43)))
 obtain ⟨W2, hW2⟩ : ∃ W2, w1.alloc (.cells #[.bool s1, .slice A1 n1 c1] 43) = W2 := ⟨_, rfl⟩
 rw [hW2] at b4 HB2 B2 HW2 ⊢
 obtain ⟨g4, hg4⟩ : ∃ g, w1.heap.size = g := ⟨_, rfl⟩
 rw [hg4] at b4 hl1 ⊢
 have HB4 := Aside0.mk b4
 have HG := Aside0.mk (show w.heap.size ≤ g4 ∧ g ≠ g4 from by omega)
 have HNE := Aside0.mk (show w.heap.size ≠ g4 from by omega)
 clear b4 hW2 hg4 hl1 hgl HB0 HB1 B0 B1 HW1
 go_loopg [12] 2 (fun kq v12 w' => ∃ (i z : Int), v12 = .int .i64 i ∧ ((i = 0 ∧ z = 1 ∧ kq = 2) ∨ (i = 1 ∧ z = x ∧ kq = 1) ∨ (i = 2 ∧ z = x * y ∧ kq = 0)) ∧ (∃ so Ao no co, Aside0 (w'.heap[g4]? = some (.cells #[.bool so, .slice Ao no co] 43 (0, 0)) ∧ WI w' (.agg #[.bool so, .slice Ao no co]) z)) ∧ Aside0 (Below w.heap.size w w' ∧ w'.heap[g]? = some (.cells #[.bool s, .slice A n c, .bool s', .slice A' n' c'] 43 (0, 0)) ∧ w'.heap[w.heap.size]? = some (.cells #[.bool false, .slice none 0 0] 43 (0, 0))))
 case atStart => exact ⟨0, 1, rfl, .inl ⟨rfl, rfl, rfl⟩, ⟨s1, A1, n1, c1, ⟨HB4.out, HW2.out⟩⟩, ⟨HB2.out, blk_below HG0.out HB2.out, B2.out⟩⟩
 case round =>
  obtain ⟨i, z, rfl, hi, HO, HW⟩ := hrel
  obtain ⟨W, rfl⟩ : ∃ W : World, W = wr := ⟨_, rfl⟩
  clear HB4 HB2 B2 HW2
  rcases hi with ⟨rfl, hz, hgk⟩ | ⟨rfl, hz, hgk⟩ | ⟨rfl, hz, hgk⟩
  ·obtain ⟨so, Ao, no, co, HO⟩ := HO
   have HZ := Aside0.mk (show z = 1 ∧ gk = 2 from ⟨hz, hgk⟩)
   have e0 : W.cell? ⟨g, 0, none⟩ = some (.bool s) := blk_cell HW.out.2.1 0
   have e1 : W.cell? ⟨g, 1, none⟩ = some (.slice A n c) := blk_cell HW.out.2.1 1
   have k0 : W.cell? ⟨g4, 0, none⟩ = some (.bool so) := blk_cell HO.out.1 0
   have k1 : W.cell? ⟨g4, 1, none⟩ = some (.slice Ao no co) := blk_cell HO.out.1 1
   have hlg : g4 < W.heap.size := blk_lt HO.out.1
   have HM := Aside0.mk (show WI W (.agg #[.bool so, .slice Ao no co]) 1 ∧ WI W (.agg #[.bool s, .slice A n c]) x from ⟨hz ▸ HO.out.2, (HXY.out.1.below HW.out.1)⟩)
   have HFF := Aside0.mk (show Fit 1 ∧ Fit x ∧ Fit (1 * x) from ⟨Fit.small (by decide) (by decide), HF.out.1, by rw [Int.one_mul]; exact HF.out.1⟩)
   clear hz hgk
   have hlg2 : g4 < W.heap.size + 1 := by omega
   go_wp2_with (first
    | (go_at_call 84; (with_reducible refine (mul_calls _ _ 1 x _ (HM.out.1.below ?_) (HM.out.2.below ?_) HFF.out.1 HFF.out.2.1 HFF.out.2.2).mono ?_); (iterate 2 exact below_alloc (Below.refl _ _) _); rintro e w5 ⟨v5, rfl, hW5, hb5⟩; obtain ⟨s5, A5, n5, c5, rfl, HW5⟩ := hW5.parts; have hb6 := below_step (below_alloc (Below.refl W.heap.size W) (.cells #[.bool s, .slice A n c] 43)) hb5; have HB5 := Aside0.mk hb6; have B5 := Aside0.mk (blk_below HO.out.1 hb6); have f0 := blk_frozen B5.out 0; have f1 := blk_frozen B5.out 1; have m0 : w5.cell? ⟨g4, 0, none⟩ = some (.bool so) := blk_cell B5.out 0; have m1 : w5.cell? ⟨g4, 1, none⟩ = some (.slice Ao no co) := blk_cell B5.out 1; have hl5 : g4 < w5.heap.size := blk_lt B5.out; clear hW5 hb5 hb6 k0 k1 e0 e1)
    | fail)
   go_roundg 1
   case measure => have := HZ.out.2; omega
   case rel =>
    have hb7 := HG.out.1
    have e3 := IntKeep.set2 B5.out s5 A5 n5 c5
    have hg5 := blk_below HW.out.2.1 HB5.out
    have hne : g ≠ g4 := HG.out.2
    refine ⟨1, x, rfl, .inr (.inl ⟨rfl, rfl, rfl⟩), ⟨s5, A5, n5, c5, ⟨⟨blk_alloc (blk_put (blk_put B5.out 0 _ rfl) 1 _ rfl) _, ?_⟩⟩⟩, ⟨?_, ?_, ?_⟩⟩
    ·have h8 := (HW5.out.keep e3).below (below_alloc (Below.refl _ _) (.cells #[.bool s5, .slice A5 n5 c5] 43))
     rw [Int.one_mul] at h8
     exact h8
    ·exact below_alloc (((below_step HW.out.1 HB5.out).setCell (p := ⟨g4, 0, none⟩) hb7 _).setCell (p := ⟨g4, 1, none⟩) hb7 _) _
    ·exact blk_alloc (blk_far (blk_far hg5 (p := ⟨g4, 0, none⟩) hne _) (p := ⟨g4, 1, none⟩) hne _) _
    ·exact blk_alloc (blk_far (blk_far (blk_below HW.out.2.2 HB5.out) (p := ⟨g4, 0, none⟩) HNE.out _) (p := ⟨g4, 1, none⟩) HNE.out _) _
  ·obtain ⟨so, Ao, no, co, HO⟩ := HO
   have HZ := Aside0.mk (show z = x ∧ gk = 1 from ⟨hz, hgk⟩)
   have e0 : W.cell? ⟨g, 2, none⟩ = some (.bool s') := blk_cell HW.out.2.1 2
   have e1 : W.cell? ⟨g, 3, none⟩ = some (.slice A' n' c') := blk_cell HW.out.2.1 3
   have k0 : W.cell? ⟨g4, 0, none⟩ = some (.bool so) := blk_cell HO.out.1 0
   have k1 : W.cell? ⟨g4, 1, none⟩ = some (.slice Ao no co) := blk_cell HO.out.1 1
   have hlg : g4 < W.heap.size := blk_lt HO.out.1
   have HM := Aside0.mk (show WI W (.agg #[.bool so, .slice Ao no co]) x ∧ WI W (.agg #[.bool s', .slice A' n' c']) y from ⟨hz ▸ HO.out.2, (HXY.out.2.below HW.out.1)⟩)
   have HFF := Aside0.mk (show Fit x ∧ Fit y ∧ Fit (x * y) from ⟨HF.out.1, HF.out.2.1, HF.out.2.2⟩)
   clear hz hgk
   have hlg2 : g4 < W.heap.size + 1 := by omega
   go_wp2_with (first
    | (go_at_call 84; (with_reducible refine (mul_calls _ _ x y _ (HM.out.1.below ?_) (HM.out.2.below ?_) HFF.out.1 HFF.out.2.1 HFF.out.2.2).mono ?_); (iterate 2 exact below_alloc (Below.refl _ _) _); rintro e w5 ⟨v5, rfl, hW5, hb5⟩; obtain ⟨s5, A5, n5, c5, rfl, HW5⟩ := hW5.parts; have hb6 := below_step (below_alloc (Below.refl W.heap.size W) (.cells #[.bool s', .slice A' n' c'] 43)) hb5; have HB5 := Aside0.mk hb6; have B5 := Aside0.mk (blk_below HO.out.1 hb6); have f0 := blk_frozen B5.out 0; have f1 := blk_frozen B5.out 1; have m0 : w5.cell? ⟨g4, 0, none⟩ = some (.bool so) := blk_cell B5.out 0; have m1 : w5.cell? ⟨g4, 1, none⟩ = some (.slice Ao no co) := blk_cell B5.out 1; have hl5 : g4 < w5.heap.size := blk_lt B5.out; clear hW5 hb5 hb6 k0 k1 e0 e1)
    | fail)
   go_roundg 0
   case measure => have := HZ.out.2; omega
   case rel =>
    have hb7 := HG.out.1
    have e3 := IntKeep.set2 B5.out s5 A5 n5 c5
    have hg5 := blk_below HW.out.2.1 HB5.out
    have hne : g ≠ g4 := HG.out.2
    refine ⟨2, x * y, rfl, .inr (.inr ⟨rfl, rfl, rfl⟩), ⟨s5, A5, n5, c5, ⟨⟨blk_alloc (blk_put (blk_put B5.out 0 _ rfl) 1 _ rfl) _, ?_⟩⟩⟩, ⟨?_, ?_, ?_⟩⟩
    ·have h8 := (HW5.out.keep e3).below (below_alloc (Below.refl _ _) (.cells #[.bool s5, .slice A5 n5 c5] 43))
     skip
     exact h8
    ·exact below_alloc (((below_step HW.out.1 HB5.out).setCell (p := ⟨g4, 0, none⟩) hb7 _).setCell (p := ⟨g4, 1, none⟩) hb7 _) _
    ·exact blk_alloc (blk_far (blk_far hg5 (p := ⟨g4, 0, none⟩) hne _) (p := ⟨g4, 1, none⟩) hne _) _
    ·exact blk_alloc (blk_far (blk_far (blk_below HW.out.2.2 HB5.out) (p := ⟨g4, 0, none⟩) HNE.out _) (p := ⟨g4, 1, none⟩) HNE.out _) _
  ·obtain ⟨so, Ao, no, co, HO⟩ := HO
   subst hz
   clear hgk
   have k0 : W.cell? ⟨g4, 0, none⟩ = some (.bool so) := blk_cell HO.out.1 0
   have k1 : W.cell? ⟨g4, 1, none⟩ = some (.slice Ao no co) := blk_cell HO.out.1 1
   have f0 := blk_frozen HW.out.2.2 0
   have f1 := blk_frozen HW.out.2.2 1
   have m0 : W.cell? ⟨w.heap.size, 0, none⟩ = some (.bool false) := blk_cell HW.out.2.2 0
   have m1 : W.cell? ⟨w.heap.size, 1, none⟩ = some (.slice none 0 0) := blk_cell HW.out.2.2 1
   go_wp2
   refine bodyPost_ret (results_ct rfl _ _ w.heap.size _ _ _ rfl rfl (blk_put (blk_put HW.out.2.2 0 _ rfl) 1 _ rfl)) rfl ?_
   have hend := wi_put HW.out.2.2 HW.out.1 (Nat.le_refl _) HO.out.2
   exact ⟨_, rfl, hend.1, hend.2⟩
end Go.Proofs.Ytjmkccabpnigiaa.P
