import Derived.Test.YtjmkccabpnigiaaQGivenZ
namespace Go.Proofs.Ytjmkccabpnigiaa.P
open Go.RowKit Go.Proofs.YtjmkccabpnigiaaW.PrintWords Go.Proofs.YtjmkccabpnigiaaW.PrintLast Go.Proofs.YtjmkccabpnigiaaW.PrintMore
attribute [local go_sem] max2_int min2_int max_two min_two max_three min_three max_four min_four
set_option linter.unusedVariables false
set_option linter.unusedSimpArgs false
set_option maxHeartbeats 8000000 in
set_option maxRecDepth 100000 in
theorem fsub_calls (u v : Value) (x y : Int) (w0 : World) (hu : FI w0 u x) (hv : FI w0 v y) (hfx : Fit x) (hfy : Fit y) (hf : Fit (x - y)) :
    Calls Try.prog 65 #[u, v] w0 fun e w' => ∃ r, e = .returned (.tuple #[r, .int .i64 0]) ∧ FI w' r (x - y) ∧ Below w0.heap.size w0 w' := by
 have hu43 := Try.underlying43
 have hu45 := Try.underlying45
 obtain ⟨s, A, n, c, s', A', n', c', rfl, HU⟩ := hu.parts
 obtain ⟨t, B, m, d, t', B', m', d', rfl, HV⟩ := hv.parts
 have HFA := Aside0.mk (fi_mk HU.out)
 have HFB := Aside0.mk (fi_mk HV.out)
 have HF1 := Aside0.mk (show Fit 1 from Fit.small (by decide) (by decide))
 clear hu hv
 have HF := Aside0.mk (show Fit x ∧ Fit (-y) ∧ Fit (x + -y) from ⟨hfx, fit_neg hfy, by rwa [show x + -y = x - y from by omega]⟩)
 clear hfx hfy hf
 go_enter Try.func65, Try.ntmps65
 go_upto_region 1 with fail
 have hfr := frb_new w0 #[.bool s, .slice A n c, .bool s', .slice A' n' c'] #[.bool t, .slice B m d, .bool t', .slice B' m' d']
 obtain ⟨W, hW⟩ : ∃ W, ((w0.alloc (.cells #[.bool s, .slice A n c, .bool s', .slice A' n' c'] 45)).alloc (.cells #[.bool t, .slice B m d, .bool t', .slice B' m' d'] 45)).alloc (.cells #[.bool false, .slice none 0 0, .bool false, .slice none 0 0] 45) = W := ⟨_, rfl⟩
 rw [hW] at hfr ⊢
 have HB := Aside0.mk hfr
 clear hfr hW
 have c0 : W.cell? ⟨w0.heap.size, 0, none⟩ = some (.bool s) := blk_cell HB.out.1 0
 have c1 : W.cell? ⟨w0.heap.size, 1, none⟩ = some (.slice A n c) := blk_cell HB.out.1 1
 have c2 : W.cell? ⟨w0.heap.size, 2, none⟩ = some (.bool s') := blk_cell HB.out.1 2
 have c3 : W.cell? ⟨w0.heap.size, 3, none⟩ = some (.slice A' n' c') := blk_cell HB.out.1 3
 have c4 : W.cell? ⟨w0.heap.size + 1, 0, none⟩ = some (.bool t) := blk_cell HB.out.2.1 0
 have c5 : W.cell? ⟨w0.heap.size + 1, 1, none⟩ = some (.slice B m d) := blk_cell HB.out.2.1 1
 have c6 : W.cell? ⟨w0.heap.size + 1, 2, none⟩ = some (.bool t') := blk_cell HB.out.2.1 2
 have c7 : W.cell? ⟨w0.heap.size + 1, 3, none⟩ = some (.slice B' m' d') := blk_cell HB.out.2.1 3
 have hq0 : w0.heap.size ≠ w0.heap.size + 1 + 1 := by omega
 have hq1 : w0.heap.size + 1 ≠ w0.heap.size + 1 + 1 := by omega
 go_region_held3 (fun w' => w'.cell? ⟨w0.heap.size, 0, none⟩ = some (.bool s) ∧ w'.cell? ⟨w0.heap.size, 1, none⟩ = some (.slice A n c) ∧ w'.cell? ⟨w0.heap.size, 2, none⟩ = some (.bool s') ∧ w'.cell? ⟨w0.heap.size, 3, none⟩ = some (.slice A' n' c') ∧ w'.cell? ⟨w0.heap.size + 1, 0, none⟩ = some (.bool t) ∧ w'.cell? ⟨w0.heap.size + 1, 1, none⟩ = some (.slice B m d) ∧ w'.cell? ⟨w0.heap.size + 1, 2, none⟩ = some (.bool t') ∧ w'.cell? ⟨w0.heap.size + 1, 3, none⟩ = some (.slice B' m' d'))
  (first | (with_reducible exact ⟨j0, j1, j2, j3, j4, j5, j6, j7⟩) | (with_reducible exact ⟨i0, i1, i2, i3, i4, i5, i6, i7⟩) | (with_reducible exact ⟨k0, k1, k2, k3, k4, k5, k6, k7⟩) | exact ⟨c0, c1, c2, c3, c4, c5, c6, c7⟩ | fail)
  (first
   | (go_at_call 55; (with_reducible refine (neg_calls _ y _ (HV.out.1.below ?_)).mono ?_); (exact below_drew1 HB.out.2.2.2); rintro e w1 ⟨v1, rfl, hX, hb⟩; obtain ⟨s1, A1, n1, q1, rfl, HX⟩ := hX.parts; have HB1 := Aside0.mk (below_step (below_drew1 (Below.refl W.heap.size W)) hb); have HF1b := Aside0.mk (HFA.out.below (below_step HB.out.2.2.2 HB1.out)); have HF2b := Aside0.mk (show FI w1 (.agg #[.bool s1, .slice A1 n1 q1, .bool t', .slice B' m' d']) (-y) from fi_mk ⟨HX.out, HV.out.2.below (below_step HB.out.2.2.2 HB1.out)⟩); have k0 := pw_cell_below hb c0; have k1 := pw_cell_below hb c1; have k2 := pw_cell_below hb c2; have k3 := pw_cell_below hb c3; have k4 := pw_cell_below hb c4; have k5 := pw_cell_below hb c5; have k6 := pw_cell_below hb c6; have k7 := pw_cell_below hb c7; clear hX hb)
   | (go_at_call 74; (with_reducible refine (fadd_calls _ _ x (-y) _ HF1b.out HF2b.out HF.out.1 HF.out.2.1 HF.out.2.2).mono ?_); rintro e w3 ⟨v3, rfl, hW3, hb3⟩; rw [show x + -y = x - y from Int.sub_eq_add_neg.symm] at hW3; obtain ⟨s3, A3, n3, q3, s4, A4, n4, q4, rfl, HW3⟩ := hW3.parts; have HB3 := Aside0.mk (below_step HB1.out hb3); have B3 := Aside0.mk (blk_below HB.out.2.2.1 HB3.out); have i0 := pw_cell_below hb3 k0; have i1 := pw_cell_below hb3 k1; have i2 := pw_cell_below hb3 k2; have i3 := pw_cell_below hb3 k3; have i4 := pw_cell_below hb3 k4; have i5 := pw_cell_below hb3 k5; have i6 := pw_cell_below hb3 k6; have i7 := pw_cell_below hb3 k7; have f0 := blk_frozen B3.out 0; have f1 := blk_frozen B3.out 1; have f2 := blk_frozen B3.out 2; have f3 := blk_frozen B3.out 3; have m0 : w3.cell? ⟨w0.heap.size + 1 + 1, 0, none⟩ = some (.bool false) := blk_cell B3.out 0; have m1 : w3.cell? ⟨w0.heap.size + 1 + 1, 1, none⟩ = some (.slice none 0 0) := blk_cell B3.out 1; have m2 : w3.cell? ⟨w0.heap.size + 1 + 1, 2, none⟩ = some (.bool false) := blk_cell B3.out 2; have m3 : w3.cell? ⟨w0.heap.size + 1 + 1, 3, none⟩ = some (.slice none 0 0) := blk_cell B3.out 3; have j0 := cell_set4 (g := w0.heap.size + 1 + 1) (x := .bool s3) (y := .slice A3 n3 q3) (x' := .bool s4) (y' := .slice A4 n4 q4) i0 hq0; have j1 := cell_set4 (g := w0.heap.size + 1 + 1) (x := .bool s3) (y := .slice A3 n3 q3) (x' := .bool s4) (y' := .slice A4 n4 q4) i1 hq0; have j2 := cell_set4 (g := w0.heap.size + 1 + 1) (x := .bool s3) (y := .slice A3 n3 q3) (x' := .bool s4) (y' := .slice A4 n4 q4) i2 hq0; have j3 := cell_set4 (g := w0.heap.size + 1 + 1) (x := .bool s3) (y := .slice A3 n3 q3) (x' := .bool s4) (y' := .slice A4 n4 q4) i3 hq0; have j4 := cell_set4 (g := w0.heap.size + 1 + 1) (x := .bool s3) (y := .slice A3 n3 q3) (x' := .bool s4) (y' := .slice A4 n4 q4) i4 hq1; have j5 := cell_set4 (g := w0.heap.size + 1 + 1) (x := .bool s3) (y := .slice A3 n3 q3) (x' := .bool s4) (y' := .slice A4 n4 q4) i5 hq1; have j6 := cell_set4 (g := w0.heap.size + 1 + 1) (x := .bool s3) (y := .slice A3 n3 q3) (x' := .bool s4) (y' := .slice A4 n4 q4) i6 hq1; have j7 := cell_set4 (g := w0.heap.size + 1 + 1) (x := .bool s3) (y := .slice A3 n3 q3) (x' := .bool s4) (y' := .slice A4 n4 q4) i7 hq1; clear hW3 hb3)
   | fail)
 all_goals go_wp2
 have hend := fi_put B3.out (below_step HB.out.2.2.2 HB3.out) (by omega) HW3.out.1 HW3.out.2
 refine bodyPost_ret (results_ct5 rfl _ _ (w0.heap.size + 1 + 1) _ _ _ _ _ rfl rfl hend.2.2) rfl ?_
 exact ⟨_, rfl, hend.1, hend.2.1⟩
end Go.Proofs.Ytjmkccabpnigiaa.P
