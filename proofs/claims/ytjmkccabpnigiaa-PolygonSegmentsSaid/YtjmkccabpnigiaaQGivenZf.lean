import Derived.Test.YtjmkccabpnigiaaQGivenZe
namespace Go.Proofs.Ytjmkccabpnigiaa.P
open Go.RowKit Go.Proofs.YtjmkccabpnigiaaW.PrintWords Go.Proofs.YtjmkccabpnigiaaW.PrintLast Go.Proofs.YtjmkccabpnigiaaW.PrintMore
attribute [local go_sem] max2_int min2_int max_two min_two max_three min_three max_four min_four
set_option linter.unusedVariables false
set_option linter.unusedSimpArgs false
set_option maxHeartbeats 4000000
set_option maxRecDepth 100000
theorem power_big (u : Value) (w : World) (hu : WI w u 2) : Calls Try.prog 67 #[u, .int .i64 1024] w fun e w' => ∃ r, e = .returned (.tuple #[r, .int .i64 0]) ∧ WI w' r (2 ^ 1024) ∧ Below w.heap.size w w' := power_two u 1024 (Nat.le_refl _) w hu
theorem pow_calls (v : Value) (w : World) (hv : FI w v 2) :
    Calls Try.prog 56 #[v, .int .i64 1024] w fun e w' => ∃ r, e = .returned (.tuple #[r, .int .i64 0]) ∧ FI w' r (2 ^ 1024) ∧ Below w.heap.size w w' := by
 have hu43 := Try.underlying43
 have hu45 := Try.underlying45
 obtain ⟨s, A, n, c, s', A', n', c', rfl, HV⟩ := hv.parts
 have HFV := Aside0.mk (fi_mk HV.out)
 clear hv
 have B2 := Aside0.mk (blk_alloc (blk_new w (.cells #[.bool s, .slice A n c, .bool s', .slice A' n' c'] 45)) (.cells #[.bool false, .slice none 0 0, .bool false, .slice none 0 0] 45))
 have B4 := blk_new (w.alloc (.cells #[.bool s, .slice A n c, .bool s', .slice A' n' c'] 45)) (.cells #[.bool false, .slice none 0 0, .bool false, .slice none 0 0] 45)
 rw [World.size_alloc] at B4
 have HB4 := Aside0.mk B4
 clear B4
 have hb2 := Aside0.mk (below_alloc (below_alloc (Below.refl w.heap.size w) (.cells #[.bool s, .slice A n c, .bool s', .slice A' n' c'] 45)) (.cells #[.bool false, .slice none 0 0, .bool false, .slice none 0 0] 45))
 go_enter Try.func56, Try.ntmps56
 go_upto_region 6 with (first
  | (go_at_call 67; (with_reducible refine (power_big _ _ (HV.out.1.below ?_)).mono ?_); (exact hb2.out); rintro e w1 ⟨v1, rfl, hX, hb1⟩; obtain ⟨s1, A1, n1, c1, rfl, HX⟩ := hX.parts; have HB1 := Aside0.mk (below_step hb2.out hb1); have HB41 := Aside0.mk (blk_below HB4.out hb1); have HB21 := Aside0.mk (blk_below B2.out hb1); clear hX hb1)
  | fail)
 have hba := below_alloc (Below.refl w1.heap.size w1) (.cells #[.bool s1, .slice A1 n1 c1] 43)
 have e6 := blk_new w1 (.cells #[.bool s1, .slice A1 n1 c1] 43)
 have h6 := HX.out.below hba
 have HB2 := Aside0.mk (below_step HB1.out hba)
 have HB42 := Aside0.mk (blk_below HB41.out hba)
 have HB22 := Aside0.mk (blk_below HB21.out hba)
 obtain ⟨W, hW⟩ : ∃ W, w1.alloc (.cells #[.bool s1, .slice A1 n1 c1] 43) = W := ⟨_, rfl⟩
 rw [hW] at e6 h6 HB2 HB42 HB22 ⊢
 obtain ⟨g6, hg6⟩ : ∃ g, w1.heap.size = g := ⟨_, rfl⟩
 rw [hg6] at e6 ⊢
 have HE6 := Aside0.mk (And.intro e6 h6)
 clear e6 h6 hba hW hg6 HX HB1 HB41 HB21 B2 HB4 hb2
 have k0 : W.cell? ⟨w.heap.size, 0, none⟩ = some (.bool s) := blk_cell HB22.out 0
 have k1 : W.cell? ⟨w.heap.size, 1, none⟩ = some (.slice A n c) := blk_cell HB22.out 1
 have k2 : W.cell? ⟨w.heap.size, 2, none⟩ = some (.bool s') := blk_cell HB22.out 2
 have k3 : W.cell? ⟨w.heap.size, 3, none⟩ = some (.slice A' n' c') := blk_cell HB22.out 3
 go_upto_region 7 with (first
  | (go_at_call 46; (with_reducible refine (Den_calls _ 2 _ (HFV.out.below ?_)).mono ?_); (exact HB2.out); rintro e w2 ⟨v2, rfl, hX, hb2⟩; obtain ⟨s2, A2, n2, c2, rfl, HX2⟩ := hX.parts; have HB3 := Aside0.mk hb2; clear hX hb2 k0 k1 k2 k3)
  | (go_at_call 67; (with_reducible refine (power_one _ 1024 _ HX2.out).mono ?_); rintro e w3 ⟨v3, rfl, hX, hb3⟩; obtain ⟨s3, A3, n3, c3, rfl, HX3⟩ := hX.parts; have HB5 := Aside0.mk (below_step HB3.out hb3); clear hX hb3)
  | fail)
 have hba := below_alloc HB5.out (.cells #[.bool s3, .slice A3 n3 c3] 43)
 have e8 := blk_new w3 (.cells #[.bool s3, .slice A3 n3 c3] 43)
 have h8 := HX3.out.below (below_alloc (Below.refl w3.heap.size w3) (.cells #[.bool s3, .slice A3 n3 c3] 43))
 have HB6 := Aside0.mk (below_step HB2.out hba)
 have HB46 := Aside0.mk (blk_below HB42.out hba)
 have HE66 := Aside0.mk (And.intro (blk_below HE6.out.1 hba) (HE6.out.2.below hba))
 obtain ⟨W4, hW4⟩ : ∃ W4, w3.alloc (.cells #[.bool s3, .slice A3 n3 c3] 43) = W4 := ⟨_, rfl⟩
 rw [hW4] at e8 h8 HB6 HB46 HE66 ⊢
 obtain ⟨g8, hg8⟩ : ∃ g, w3.heap.size = g := ⟨_, rfl⟩
 rw [hg8] at e8 ⊢
 have HE8 := Aside0.mk (And.intro e8 h8)
 clear e8 h8 hba hW4 hg8 HX3 HX2 HB3 HB5 HE6 HB2 HB42 HB22
 have k0 : W4.cell? ⟨g6, 0, none⟩ = some (.bool s1) := blk_cell HE66.out.1 0
 have k1 : W4.cell? ⟨g6, 1, none⟩ = some (.slice A1 n1 c1) := blk_cell HE66.out.1 1
 have k2 : W4.cell? ⟨g8, 0, none⟩ = some (.bool s3) := blk_cell HE8.out.1 0
 have k3 : W4.cell? ⟨g8, 1, none⟩ = some (.slice A3 n3 c3) := blk_cell HE8.out.1 1
 go_wp2_with (first
  | (go_at_call 61; (with_reducible refine (lowest_calls _ _ (2 ^ 1024) _ HE66.out.2 HE8.out.2).mono ?_); rintro e w5 ⟨v5, rfl, hW5, hb5⟩; obtain ⟨s5, A5, n5, c5, s7, A7, n7, c7, rfl, HW5⟩ := hW5.parts; have HB7 := Aside0.mk (below_step HB6.out hb5); have B3 := Aside0.mk (blk_below HB46.out hb5); have f0 := blk_frozen B3.out 0; have f1 := blk_frozen B3.out 1; have f2 := blk_frozen B3.out 2; have f3 := blk_frozen B3.out 3; have m0 : w5.cell? ⟨w.heap.size + 1, 0, none⟩ = some (.bool false) := blk_cell B3.out 0; have m1 : w5.cell? ⟨w.heap.size + 1, 1, none⟩ = some (.slice none 0 0) := blk_cell B3.out 1; have m2 : w5.cell? ⟨w.heap.size + 1, 2, none⟩ = some (.bool false) := blk_cell B3.out 2; have m3 : w5.cell? ⟨w.heap.size + 1, 3, none⟩ = some (.slice none 0 0) := blk_cell B3.out 3; clear hW5 hb5)
  | fail)
 have hend := fi_put B3.out HB7.out (by omega) HW5.out.1 HW5.out.2
 refine bodyPost_ret (results_ct5 rfl _ _ (w.heap.size + 1) _ _ _ _ _ rfl rfl hend.2.2) rfl ?_
 exact ⟨_, rfl, hend.1, hend.2.1⟩
theorem fi_put_any {w w2 : World} {g base : Nat} {b0 : Bool} {B0 : Option Addr} {m0 d0 : Nat} {b1 : Bool} {B1 : Option Addr} {m1 d1 : Nat} (hg : w2.heap[g]? = some (.cells #[.bool b0, .slice B0 m0 d0, .bool b1, .slice B1 m1 d1] 45 (0, 0))) (hB : Below base w w2) (hb : base ≤ g)
    {s : Bool} {A : Option Addr} {n c : Nat} {s' : Bool} {A' : Option Addr} {n' c' : Nat} {z : Int} (h : WI w2 (.agg #[.bool s, .slice A n c]) z) (h' : WI w2 (.agg #[.bool s', .slice A' n' c']) 0) :
    FI ((((w2.setCell ⟨g, 0, none⟩ (.bool s)).setCell ⟨g, 1, none⟩ (.slice A n c)).setCell ⟨g, 2, none⟩ (.bool s')).setCell ⟨g, 3, none⟩ (.slice A' n' c')) (.agg #[.bool s, .slice A n c, .bool s', .slice A' n' c']) z ∧ Below base w ((((w2.setCell ⟨g, 0, none⟩ (.bool s)).setCell ⟨g, 1, none⟩ (.slice A n c)).setCell ⟨g, 2, none⟩ (.bool s')).setCell ⟨g, 3, none⟩ (.slice A' n' c')) ∧
    ((((w2.setCell ⟨g, 0, none⟩ (.bool s)).setCell ⟨g, 1, none⟩ (.slice A n c)).setCell ⟨g, 2, none⟩ (.bool s')).setCell ⟨g, 3, none⟩ (.slice A' n' c')).heap[g]? = some (.cells #[.bool s, .slice A n c, .bool s', .slice A' n' c'] 45 (0, 0)) := by
 have g1 := blk_put hg 0 (.bool s) rfl
 have g2 := blk_put g1 1 (.slice A n c) rfl
 have g3 := blk_put g2 2 (.bool s') rfl
 have g4 := blk_put g3 3 (.slice A' n' c') rfl
 have k := (((IntKeep.set (j := 0) hg (fun k x => by simp) (.bool s)).trans (IntKeep.set (j := 1) g1 (fun k x => by simp) (.slice A n c))).trans (IntKeep.set (j := 2) g2 (fun k x => by simp) (.bool s'))).trans (IntKeep.set (j := 3) g3 (fun k x => by simp) (.slice A' n' c'))
 exact ⟨⟨s, A, n, c, s', A', n', c', rfl, h.keep k, h'.keep k⟩, (((hB.setCell (p := ⟨g, 0, none⟩) hb _).setCell (p := ⟨g, 1, none⟩) hb _).setCell (p := ⟨g, 2, none⟩) hb _).setCell (p := ⟨g, 3, none⟩) hb _, g4⟩
def two1024 : Int := 2 ^ 1024
theorem two1024_fit : Fit two1024 := fit_pow (by omega)
theorem pow_callsP (v : Value) (w : World) (hv : FI w v 2) :
    Calls Try.prog 56 #[v, .int .i64 1024] w fun e w' => ∃ r, e = .returned (.tuple #[r, .int .i64 0]) ∧ FI w' r two1024 ∧ Below w.heap.size w w' := pow_calls v w hv
theorem cmp3_nn (a b : Int) : decide (0 ≤ cmp3 a b) = decide (b ≤ a) := by
 unfold cmp3
 by_cases h : a < b
 ·rw [if_pos h, decide_eq_false (by omega), decide_eq_false (by omega)]
 ·rw [if_neg h]
  split
  ·rw [decide_eq_true (by omega), decide_eq_true (by omega)]
  ·rw [decide_eq_true (by omega), decide_eq_true (by omega)]
theorem magn_of_neg {z : Int} (h : z < 0) : magn z = -z := by unfold magn; rw [if_pos h]
theorem magn_of_nn {z : Int} (h : ¬ z < 0) : magn z = z := by unfold magn; rw [if_neg h]
theorem long_calls (u : Value) (x : Int) (w : World) (hu : WI w u x) (hf : Fit x) :
    Calls Try.prog 44 #[u] w fun e w' => e = .returned (.bool (decide (two1024 ≤ magn x))) ∧ Below w.heap.size w w' := by
 have hu43 := Try.underlying43
 have hu45 := Try.underlying45
 obtain ⟨s, A, n, c, rfl, HU⟩ := hu.parts
 have HF := Aside0.mk (show Fit x ∧ Fit (magn x) ∧ Fit two1024 from ⟨hf, hf.magn, two1024_fit⟩)
 clear hu hf
 have B1 := Aside0.mk (blk_new w (.cells #[.bool s, .slice A n c] 43))
 have HB0 := Aside0.mk (below_alloc (Below.refl w.heap.size w) (.cells #[.bool s, .slice A n c] 43))
 go_enter Try.func44, Try.ntmps44
 go_upto_region 1 with fail
 obtain ⟨W0, hW0⟩ : ∃ W, w.alloc (.cells #[.bool s, .slice A n c] 43) = W := ⟨_, rfl⟩
 rw [hW0] at B1 HB0 ⊢
 clear hW0
 have c0 : W0.cell? ⟨w.heap.size, 0, none⟩ = some (.bool s) := blk_cell B1.out 0
 have c1 : W0.cell? ⟨w.heap.size, 1, none⟩ = some (.slice A n c) := blk_cell B1.out 1
 go_cut [6] (fun s6 wx => s6 = .bool (decide (x < 0)) ∧ Aside0 (Below W0.heap.size W0 wx))
 case first =>
  go_wp2_with (first | (go_at_call 54; (with_reducible refine (Sign_calls _ x _ (HU.out.below HB0.out) HF.out.1).mono ?_); rintro e w1 ⟨rfl, hb1⟩) | fail)
  go_meet
  refine ⟨?_, ⟨hb1⟩⟩
  congr 1
  unfold cmp3
  by_cases h : x < 0
  ·rw [if_pos h, decide_eq_true h]; rfl
  ·rw [if_neg h, decide_eq_false h]; split <;> rfl
 case rest =>
  obtain ⟨rfl, HB1⟩ := hcut
  obtain ⟨W1, rfl⟩ : ∃ W : World, W = wc := ⟨_, rfl⟩
  have B11 := Aside0.mk (blk_below B1.out HB1.out)
  have HB2 := Aside0.mk (below_step HB0.out HB1.out)
  have d0 := pw_cell_below HB1.out c0
  have d1 := pw_cell_below HB1.out c1
  clear c0 c1 B1 HB0 HB1
  go_upto_if 6 with fail
  go_cut [] (fun wx => Aside0 (Bx wx w.heap.size (magn x) ∧ Below w.heap.size w wx))
  case first =>
   by_cases hx : x < 0
   ·have h1 : decide (x < 0) = true := decide_eq_true hx
    have HM := Aside0.mk (magn_of_neg hx)
    go_wp2_with (first | (go_at_call 55; (with_reducible refine (neg_calls _ x _ (HU.out.below HB2.out)).mono ?_); rintro e w2 ⟨v2, rfl, hX, hb2⟩; obtain ⟨s2, A2, n2, c2, rfl, HX⟩ := hX.parts; have B12 := Aside0.mk (blk_below B11.out hb2); have HB3 := Aside0.mk (below_step HB2.out hb2); have f0 := blk_frozen B12.out 0; have f1 := blk_frozen B12.out 1; have m0 : w2.cell? ⟨w.heap.size, 0, none⟩ = some (.bool s) := blk_cell B12.out 0; have m1 : w2.cell? ⟨w.heap.size, 1, none⟩ = some (.slice A n c) := blk_cell B12.out 1; clear hX hb2 d0 d1) | fail)
    go_meet
    have hend := wi_put B12.out HB3.out (Nat.le_refl _) HX.out
    rw [← HM.out] at hend
    exact ⟨⟨s2, A2, n2, c2, blk_put (blk_put B12.out 0 _ rfl) 1 _ rfl, hend.1⟩, hend.2⟩
   ·have h1 : decide (x < 0) = false := decide_eq_false hx
    have HM := Aside0.mk (magn_of_nn hx)
    go_wp2
    go_meet
    exact ⟨⟨s, A, n, c, B11.out, by rw [HM.out]; exact HU.out.below HB2.out⟩, HB2.out⟩
  case rest =>
   clear d0 d1 B11 HB2
   obtain ⟨W, rfl⟩ : ∃ W : World, W = wc := ⟨_, rfl⟩
   have HC := hcut
   clear hcut
   go_upto_region 4 with (first
    | (go_at_call 39; (with_reducible refine (whole_calls 2 (by decide) (by decide) _).mono ?_); rintro e w2 ⟨v2, rfl, hX, hb2⟩; obtain ⟨s2, A2, n2, c2, s3, A3, n3, c3, rfl, HX⟩ := hX.parts; have HC2 := Aside0.mk (And.intro (HC.out.1.below hb2) (below_step HC.out.2 hb2)); clear hX hb2)
    | fail)
   have hba := below_alloc (Below.refl w2.heap.size w2) (.cells #[.bool s2, .slice A2 n2 c2, .bool s3, .slice A3 n3 c3] 45)
   have e3 := blk_new w2 (.cells #[.bool s2, .slice A2 n2 c2, .bool s3, .slice A3 n3 c3] 45)
   have HC3 := Aside0.mk (And.intro (HC2.out.1.below hba) (below_step HC2.out.2 hba))
   have HX3 := Aside0.mk (And.intro (HX.out.1.below hba) (HX.out.2.below hba))
   have hlt : w.heap.size < w2.heap.size := by obtain ⟨_, _, _, _, h, _⟩ := HC2.out.1; exact blk_lt h
   obtain ⟨W3, hW3⟩ : ∃ W3, w2.alloc (.cells #[.bool s2, .slice A2 n2 c2, .bool s3, .slice A3 n3 c3] 45) = W3 := ⟨_, rfl⟩
   rw [hW3] at e3 HC3 HX3 ⊢
   obtain ⟨g3, hg3⟩ : ∃ g, w2.heap.size = g := ⟨_, rfl⟩
   rw [hg3] at e3 hlt ⊢
   have HE3 := Aside0.mk e3
   have HFX := Aside0.mk (fi_mk HX3.out)
   have k0 : W3.cell? ⟨g3, 0, none⟩ = some (.bool s2) := blk_cell e3 0
   have k1 : W3.cell? ⟨g3, 1, none⟩ = some (.slice A2 n2 c2) := blk_cell e3 1
   have k2 : W3.cell? ⟨g3, 2, none⟩ = some (.bool s3) := blk_cell e3 2
   have k3 : W3.cell? ⟨g3, 3, none⟩ = some (.slice A3 n3 c3) := blk_cell e3 3
   have HLT := Aside0.mk hlt
   clear e3 hba hlt hW3 hg3 HX HC2 HC HX3
   go_upto_region 5 with (first
    | (go_at_call 56; (with_reducible refine (pow_callsP _ _ HFX.out).mono ?_); rintro e w4 ⟨v4, rfl, hX, hb4⟩; obtain ⟨s4, A4, n4, c4, s5, A5, n5, c5, rfl, HX⟩ := hX.parts; have HC4 := Aside0.mk (And.intro (HC3.out.1.below hb4) (below_step HC3.out.2 hb4)); have HE4 := Aside0.mk (blk_below HE3.out hb4); have f0 := blk_frozen HE4.out 0; have f1 := blk_frozen HE4.out 1; have f2 := blk_frozen HE4.out 2; have f3 := blk_frozen HE4.out 3; have m0 : w4.cell? ⟨g3, 0, none⟩ = some (.bool s2) := blk_cell HE4.out 0; have m1 : w4.cell? ⟨g3, 1, none⟩ = some (.slice A2 n2 c2) := blk_cell HE4.out 1; have m2 : w4.cell? ⟨g3, 2, none⟩ = some (.bool s3) := blk_cell HE4.out 2; have m3 : w4.cell? ⟨g3, 3, none⟩ = some (.slice A3 n3 c3) := blk_cell HE4.out 3; clear hX hb4 k0 k1 k2 k3)
    | fail)
   have HK := Aside0.mk (fi_put_any HE4.out HC4.out.2 (Nat.le_of_lt HLT.out) HX.out.1 HX.out.2)
   have HKeep := Aside0.mk (show Bx ((((w4.setCell ⟨g3, 0, none⟩ (.bool s4)).setCell ⟨g3, 1, none⟩ (.slice A4 n4 c4)).setCell ⟨g3, 2, none⟩ (.bool s5)).setCell ⟨g3, 3, none⟩ (.slice A5 n5 c5)) w.heap.size (magn x) from by
    obtain ⟨a, b, c', d, h1, h2⟩ := HC4.out.1
    have g1 := blk_put HE4.out 0 (.bool s4) rfl
    have g2 := blk_put g1 1 (.slice A4 n4 c4) rfl
    have g4 := blk_put g2 2 (.bool s5) rfl
    have k := (((IntKeep.set (j := 0) HE4.out (fun k x => by simp) (.bool s4)).trans (IntKeep.set (j := 1) g1 (fun k x => by simp) (.slice A4 n4 c4))).trans (IntKeep.set (j := 2) g2 (fun k x => by simp) (.bool s5))).trans (IntKeep.set (j := 3) g4 (fun k x => by simp) (.slice A5 n5 c5))
    have hne : w.heap.size ≠ g3 := Nat.ne_of_lt HLT.out
    exact ⟨a, b, c', d, blk_far (blk_far (blk_far (blk_far h1 (p := ⟨g3, 0, none⟩) hne _) (p := ⟨g3, 1, none⟩) hne _) (p := ⟨g3, 2, none⟩) hne _) (p := ⟨g3, 3, none⟩) hne _, h2.keep k⟩)
   obtain ⟨W5, hW5⟩ : ∃ W5, (((w4.setCell ⟨g3, 0, none⟩ (.bool s4)).setCell ⟨g3, 1, none⟩ (.slice A4 n4 c4)).setCell ⟨g3, 2, none⟩ (.bool s5)).setCell ⟨g3, 3, none⟩ (.slice A5 n5 c5) = W5 := ⟨_, rfl⟩
   rw [hW5] at HK HKeep ⊢
   clear f0 f1 f2 f3 m0 m1 m2 m3 hW5 HX HC4 HE4 HC3 HE3 HFX
   obtain ⟨s6, A6, n6, c6, HX6⟩ := HKeep.out.parts
   have k0 : W5.cell? ⟨g3, 0, none⟩ = some (.bool s4) := blk_cell HK.out.2.2 0
   have k1 : W5.cell? ⟨g3, 1, none⟩ = some (.slice A4 n4 c4) := blk_cell HK.out.2.2 1
   have k2 : W5.cell? ⟨g3, 2, none⟩ = some (.bool s5) := blk_cell HK.out.2.2 2
   have k3 : W5.cell? ⟨g3, 3, none⟩ = some (.slice A5 n5 c5) := blk_cell HK.out.2.2 3
   have k4 : W5.cell? ⟨w.heap.size, 0, none⟩ = some (.bool s6) := blk_cell HX6.out.1 0
   have k5 : W5.cell? ⟨w.heap.size, 1, none⟩ = some (.slice A6 n6 c6) := blk_cell HX6.out.1 1
   go_region_held3 (fun w' => w'.cell? ⟨g3, 0, none⟩ = some (.bool s4) ∧ w'.cell? ⟨g3, 1, none⟩ = some (.slice A4 n4 c4) ∧ w'.cell? ⟨g3, 2, none⟩ = some (.bool s5) ∧ w'.cell? ⟨g3, 3, none⟩ = some (.slice A5 n5 c5) ∧ w'.cell? ⟨w.heap.size, 0, none⟩ = some (.bool s6) ∧ w'.cell? ⟨w.heap.size, 1, none⟩ = some (.slice A6 n6 c6))
    (first | (with_reducible exact ⟨j0, j1, j2, j3, j4, j5⟩) | (with_reducible exact ⟨l0, l1, l2, l3, l4, l5⟩) | exact ⟨k0, k1, k2, k3, k4, k5⟩ | fail)
    (first
     | (go_at_call 45; (with_reducible refine (Num_calls _ two1024 _ (HK.out.1.below ?_)).mono ?_); (exact below_drew1 (Below.refl _ _)); rintro e w6 ⟨v6, rfl, hX, hb6⟩; obtain ⟨s7, A7, n7, c7, rfl, HX7⟩ := hX.parts; have HB6 := Aside0.mk (below_step (below_drew1 (Below.refl W5.heap.size W5)) hb6); have j0 := pw_cell_below hb6 k0; have j1 := pw_cell_below hb6 k1; have j2 := pw_cell_below hb6 k2; have j3 := pw_cell_below hb6 k3; have j4 := pw_cell_below hb6 k4; have j5 := pw_cell_below hb6 k5; clear hX hb6)
     | (go_at_call 57; (with_reducible refine (Compare_calls _ _ (magn x) two1024 _ (HX6.out.2.below HB6.out) HX7.out HF.out.2.1 HF.out.2.2).mono ?_); rintro e w7 ⟨rfl, hb7⟩; have HB7 := Aside0.mk (below_step HB6.out hb7); have l0 := pw_cell_below hb7 j0; have l1 := pw_cell_below hb7 j1; have l2 := pw_cell_below hb7 j2; have l3 := pw_cell_below hb7 j3; have l4 := pw_cell_below hb7 j4; have l5 := pw_cell_below hb7 j5; clear hb7)
     | fail)
   all_goals go_wp2
   go_ret
   refine ⟨?_, below_step HK.out.2.1 HB7.out⟩
   rw [cmp3_nn]
   rfl
end Go.Proofs.Ytjmkccabpnigiaa.P
