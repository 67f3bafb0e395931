import Derived.Test.YtjmkccabpnigiaaQGivenJ
namespace Go.Proofs.Ytjmkccabpnigiaa.P
open Go.RowKit Go.Proofs.YtjmkccabpnigiaaW.PrintWords Go.Proofs.YtjmkccabpnigiaaW.PrintLast Go.Proofs.YtjmkccabpnigiaaW.PrintMore
attribute [local go_sem] max2_int min2_int max_two min_two max_three min_three max_four min_four
set_option linter.unusedVariables false
set_option linter.unusedSimpArgs false
theorem add_sign (x y : Int) : (decide (x < 0) = decide (y < 0) → (if decide (x < 0) then -(magn x + magn y) else magn x + magn y) = x + y) ∧
    (decide (x < 0) ≠ decide (y < 0) → ¬ magn x < magn y → (if decide (x < 0) then -(magn x - magn y) else magn x - magn y) = x + y) ∧
    (decide (x < 0) ≠ decide (y < 0) → magn x < magn y → (if decide (y < 0) then -(magn y - magn x) else magn y - magn x) = x + y) := by
 unfold magn
 by_cases hx : x < 0 <;> by_cases hy : y < 0 <;> simp [hx, hy] <;> omega
theorem magn_ite (s : Bool) {m : Int} (h : 0 ≤ m) : magn (if s then -m else m) = m := by
 unfold magn
 cases s with
 | true =>
  rw [if_pos rfl]
  by_cases h0 : -m < 0
  ·rw [if_pos h0]; omega
  ·rw [if_neg h0]; omega
 | false =>
  simp only [Bool.false_eq_true, if_false]
  rw [if_neg (by omega)]
theorem Fit.of_ite {s : Bool} {m z : Int} (h : 0 ≤ m) (e : (if s then -m else m) = z) (hf : Fit z) : Fit m := by
 have h1 := hf.magn
 rwa [← e, magn_ite s h] at h1
/-- What Add has behind its exchange. -/
def AddM (w W : World) (z : Int) : Prop := ∃ (sa : Bool) (Aa : Option Addr) (na ca : Nat) (da : List Int) (sb : Bool) (Ab : Option Addr) (nb cb : Nat) (db : List Int),
 W.heap[w.heap.size]? = some (.cells #[.bool sa, .slice Aa na ca] 43 (0, 0)) ∧ W.heap[w.heap.size + 1]? = some (.cells #[.bool sb, .slice Ab nb cb] 43 (0, 0)) ∧ W.heap[w.heap.size + 1 + 1]? = some (.cells #[.bool false, .slice none 0 0] 43 (0, 0)) ∧
  Below w.heap.size w W ∧ MgC W Aa na ca da ∧ MgC W Ab nb cb db ∧ val db ≤ val da ∧ 0 < da.length ∧ da.length ≤ 100000 ∧ db.length ≤ da.length ∧ (if sa then -(val da - val db) else val da - val db) = z
theorem len_of_val {a b : List Int} (ha : Dg a) (hb : Dg b) (nb : Nz b) (h : val b ≤ val a) : b.length ≤ a.length := by
 apply Classical.byContradiction
 intro h1
 have := val_short ha hb nb (by omega)
 omega
theorem pos_of_val {a : List Int} (h : 0 < val a) : 0 < a.length := by
 cases a with
 | nil => simp [val] at h
 | cons d ds => simp
set_option maxHeartbeats 8000000 in
set_option maxRecDepth 100000 in
theorem add_calls (u v : Value) (x y : Int) (w : World) (hu : WI w u x) (hv : WI w v y) (hfx : Fit x) (hfy : Fit y) (hf : Fit (x + y)) :
    Calls Try.prog 59 #[u, v] w fun e w' => ∃ r, e = .returned (.tuple #[r, .int .i64 0]) ∧ WI w' r (x + y) ∧ Below w.heap.size w w' := by
 have hu43 := Try.underlying43
 obtain ⟨A, n, c, ds, rfl, hM, hN, hV⟩ := hu
 obtain ⟨A', n', c', ds', rfl, hM', hN', hV'⟩ := hv
 have hl := hfx.len hM.2.2.2 hN hV
 have hl' := hfy.len hM'.2.2.2 hN' hV'
 have HM := Aside0.mk (show MgC w A n c ds ∧ Nz ds ∧ val ds = magn x ∧ ds.length ≤ 100000 from ⟨hM, hN, hV, by omega⟩)
 have HM' := Aside0.mk (show MgC w A' n' c' ds' ∧ Nz ds' ∧ val ds' = magn y ∧ ds'.length ≤ 100000 from ⟨hM', hN', hV', by omega⟩)
 obtain ⟨s, hs⟩ : ∃ s, decide (x < 0) = s := ⟨_, rfl⟩
 obtain ⟨s', hs'⟩ : ∃ s, decide (y < 0) = s := ⟨_, rfl⟩
 have HS := Aside0.mk (add_sign x y)
 have HSS := Aside0.mk (show decide (x < 0) = s ∧ decide (y < 0) = s' from ⟨hs, hs'⟩)
 have HF := Aside0.mk hf
 rw [hs, hs'] at HS
 rw [hs, hs']
 clear hM hN hV hM' hN' hV' hl hl' hs hs' hf hfx hfy
 have hb3 := below_alloc (below_alloc (below_alloc (Below.refl w.heap.size w) (.cells #[.bool s, .slice A n c] 43)) (.cells #[.bool s', .slice A' n' c'] 43)) (.cells #[.bool false, .slice none 0 0] 43)
 have b2 := blk_alloc (blk_alloc (blk_new w (.cells #[.bool s, .slice A n c] 43)) (.cells #[.bool s', .slice A' n' c'] 43)) (.cells #[.bool false, .slice none 0 0] 43)
 have b3 := blk_alloc (blk_new (w.alloc (.cells #[.bool s, .slice A n c] 43)) (.cells #[.bool s', .slice A' n' c'] 43)) (.cells #[.bool false, .slice none 0 0] 43)
 have b4 := blk_new ((w.alloc (.cells #[.bool s, .slice A n c] 43)).alloc (.cells #[.bool s', .slice A' n' c'] 43)) (.cells #[.bool false, .slice none 0 0] 43)
 simp only [World.size_alloc] at b3 b4
 have hq0 : w.heap.size ≠ w.heap.size + 1 + 1 := by omega
 have hq1 : w.heap.size + 1 ≠ w.heap.size + 1 + 1 := by omega
 go_enter Try.func59, Try.ntmps59
 go_upto_region 1 with fail
 obtain ⟨W, hW⟩ : ∃ W, ((w.alloc (.cells #[.bool s, .slice A n c] 43)).alloc (.cells #[.bool s', .slice A' n' c'] 43)).alloc (.cells #[.bool false, .slice none 0 0] 43) = W := ⟨_, rfl⟩
 rw [hW] at hb3 b2 b3 b4 ⊢
 have HB := Aside0.mk hb3
 have B4 := Aside0.mk b4
 have B2 := Aside0.mk b2
 have B3 := Aside0.mk b3
 clear hW hb3
 have c0 : W.cell? ⟨w.heap.size, 0, none⟩ = some (.bool s) := blk_cell b2 0
 have c1 : W.cell? ⟨w.heap.size, 1, none⟩ = some (.slice A n c) := blk_cell b2 1
 have c2 : W.cell? ⟨w.heap.size + 1, 0, none⟩ = some (.bool s') := blk_cell b3 0
 have c3 : W.cell? ⟨w.heap.size + 1, 1, none⟩ = some (.slice A' n' c') := blk_cell b3 1
 clear b2 b3 b4
 by_cases he : s = s'
 ·subst he
  have hz := Aside0.mk (HS.out.1 rfl)
  have hsum := Aside0.mk (show Fit (magn x + magn y) from Fit.of_ite (by have := magn_nonneg x; have := magn_nonneg y; omega) hz.out HF.out)
  clear HS
  go_upto_region 2 with fail
  go_region_held3 (fun w' => w'.cell? ⟨w.heap.size, 0, none⟩ = some (.bool s) ∧ w'.cell? ⟨w.heap.size, 1, none⟩ = some (.slice A n c) ∧ w'.cell? ⟨w.heap.size + 1, 1, none⟩ = some (.slice A' n' c'))
   (first | exact ⟨c0, c1, c3⟩ | exact ⟨k0, k1, k3⟩ | exact ⟨l0, l1, l3⟩ | exact ⟨cell_set2 l0 hq0, cell_set2 l1 hq0, cell_set2 l3 hq1⟩ | fail)
   (first
    | (go_at_call 69; (with_reducible refine (sum_calls _ _ _ ds _ _ _ ds' _ (HM.out.1.below ?_) (HM'.out.1.below ?_) HM.out.2.2.2 HM'.out.2.2.2).mono ?_); (iterate 2 exact below_drew1 HB.out); rintro e w1 ⟨v1, r, rfl, hR, hdr, hval2, hlr, hb1⟩; obtain ⟨A1, c1', rfl, hcc, hC⟩ := Kd.R_reads hR; have HR1 := Aside0.mk (show MgC w1 A1 r.length c1' r ∧ val r = magn x + magn y ∧ r.length ≤ 1000000 from ⟨⟨hC, rfl, hcc, hdr⟩, by rw [hval2, HM.out.2.2.1, HM'.out.2.2.1], by omega⟩); have HB1 := Aside0.mk (below_step (below_drew1 HB.out) hb1); have B41 := Aside0.mk (blk_below (blk_drew B4.out) hb1); have k0 := pw_cell_below hb1 c0; have k1 := pw_cell_below hb1 c1; have k3 := pw_cell_below hb1 c3; clear hR hval2 hlr hb1 hdr hcc hC)
    | (go_at_call 63; (with_reducible refine (signed_calls s _ _ _ r _ HR1.out.1 HR1.out.2.2 (magn x + magn y) HR1.out.2.1 hsum.out).mono ?_); rintro e w2 ⟨v2, rfl, hW2, hb2⟩; rw [hz.out] at hW2; obtain ⟨A2, n2, c2', d2, rfl, hM2, hN2, hV2⟩ := hW2; have HW2 := Aside0.mk (show MgC w2 A2 n2 c2' d2 ∧ Nz d2 ∧ val d2 = magn (x + y) from ⟨hM2, hN2, hV2⟩); have HB2 := Aside0.mk (below_step HB1.out hb2); have B42 := Aside0.mk (blk_below B41.out hb2); have l0 := pw_cell_below hb2 k0; have l1 := pw_cell_below hb2 k1; have l3 := pw_cell_below hb2 k3; have f0 := blk_frozen B42.out 0; have f1 := blk_frozen B42.out 1; have m0 : w2.cell? ⟨w.heap.size + 1 + 1, 0, none⟩ = some (.bool false) := blk_cell B42.out 0; have m1 : w2.cell? ⟨w.heap.size + 1 + 1, 1, none⟩ = some (.slice none 0 0) := blk_cell B42.out 1; clear hM2 hN2 hV2 hb2)
    | fail)
  go_wp2
  refine bodyPost_ret (results_ct rfl _ _ (w.heap.size + 1 + 1) _ _ _ rfl rfl (blk_put (blk_put B42.out 0 _ rfl) 1 _ rfl)) rfl ?_
  have hend := wi_set B42.out HB2.out (by omega) HW2.out
  exact ⟨_, rfl, hend.1, hend.2⟩
 ·have hne := Aside0.mk (show ¬ (magn x = 0 ∧ magn y = 0) from fun h => he (by
    have h1 := magn_zero.1 h.1
    have h2 := magn_zero.1 h.2
    rw [← HSS.out.1, ← HSS.out.2, h1, h2]))
  have HS2 := Aside0.mk (And.intro (HS.out.2.1 he) (HS.out.2.2 he))
  have heq : (s == s') = false := by simpa using he
  clear HS he
  have hcmp := Aside0.mk (show decide (cmp3 (val ds) (val ds') < 0) = decide (magn x < magn y) from by
   rw [HM.out.2.2.1, HM'.out.2.2.1]
   unfold cmp3
   by_cases h : magn x < magn y
   ·rw [if_pos h, decide_eq_true h]; rfl
   ·rw [if_neg h, decide_eq_false h]
    split <;> rfl)
  go_upto_region 3 with fail
  go_cut [26] (fun s26 wx => s26 = .bool (decide (magn x < magn y)) ∧ Drawn0 W wx)
  case first =>
   go_wp2_with (first | (go_at_call 68; (with_reducible refine (compare_calls _ _ _ ds _ _ _ ds' _ (HM.out.1.below ?_) (HM'.out.1.below ?_) HM.out.2.1 HM'.out.2.1 HM.out.2.2.2).mono ?_); (iterate 2 exact HB.out); rintro e w1 ⟨rfl, hd⟩) | fail)
   go_meet
   exact ⟨by rw [hcmp.out], hd⟩
  case rest =>
   obtain ⟨rfl, hd⟩ := hcut
   obtain ⟨w1, rfl⟩ : ∃ w1 : World, w1 = wc := ⟨_, rfl⟩
   have hb1 := hd.below
   have HB1 := Aside0.mk (below_step HB.out hb1)
   have B21 := Aside0.mk (blk_below B2.out hb1)
   have B31 := Aside0.mk (blk_below B3.out hb1)
   have B41 := Aside0.mk (blk_below B4.out hb1)
   clear hd hb1 c0 c1 c2 c3 hcmp
   go_upto_if 26 with fail
   go_cut [] (fun wx => Aside0 (AddM w wx (x + y)))
   case first =>
    by_cases hlt : magn x < magn y
    ·have h1 : decide (magn x < magn y) = true := decide_eq_true hlt
     have f0 := blk_frozen B21.out 0
     have f1 := blk_frozen B21.out 1
     have f2 := blk_frozen B31.out 0
     have f3 := blk_frozen B31.out 1
     have c0 : w1.cell? ⟨w.heap.size, 0, none⟩ = some (.bool s) := blk_cell B21.out 0
     have c1 : w1.cell? ⟨w.heap.size, 1, none⟩ = some (.slice A n c) := blk_cell B21.out 1
     have c2 : w1.cell? ⟨w.heap.size + 1, 0, none⟩ = some (.bool s') := blk_cell B31.out 0
     have c3 : w1.cell? ⟨w.heap.size + 1, 1, none⟩ = some (.slice A' n' c') := blk_cell B31.out 1
     have hq2 : w.heap.size ≠ w.heap.size + 1 := by omega
     go_wp2
     go_meet
     have g0 := blk_far (blk_far (blk_put (blk_put B21.out 0 (.bool s') rfl) 1 (.slice A' n' c') rfl) (p := ⟨w.heap.size + 1, 0, none⟩) hq2 (.bool s)) (p := ⟨w.heap.size + 1, 1, none⟩) hq2 (.slice A n c)
     have g1 := blk_put (blk_put (blk_far (blk_far B31.out (p := ⟨w.heap.size, 0, none⟩) (Ne.symm hq2) (.bool s')) (p := ⟨w.heap.size, 1, none⟩) (Ne.symm hq2) (.slice A' n' c')) 0 (.bool s) rfl) 1 (.slice A n c) rfl
     have g2 := blk_far (blk_far (blk_far (blk_far B41.out (p := ⟨w.heap.size, 0, none⟩) (Ne.symm hq0) (.bool s')) (p := ⟨w.heap.size, 1, none⟩) (Ne.symm hq0) (.slice A' n' c')) (p := ⟨w.heap.size + 1, 0, none⟩) (Ne.symm hq1) (.bool s)) (p := ⟨w.heap.size + 1, 1, none⟩) (Ne.symm hq1) (.slice A n c)
     have e1 := IntKeep.set2 B21.out s' A' n' c'
     have e2 := e1.trans (IntKeep.set2 (blk_far (blk_far B31.out (p := ⟨w.heap.size, 0, none⟩) (Ne.symm hq2) (.bool s')) (p := ⟨w.heap.size, 1, none⟩) (Ne.symm hq2) (.slice A' n' c')) s A n c)
     refine ⟨s', A', n', c', ds', s, A, n, c, ds, g0, g1, g2, (((HB1.out.setCell (p := ⟨w.heap.size, 0, none⟩) (Nat.le_refl _) _).setCell (p := ⟨w.heap.size, 1, none⟩) (Nat.le_refl _) _).setCell (p := ⟨w.heap.size + 1, 0, none⟩) (Nat.le_succ _) _).setCell (p := ⟨w.heap.size + 1, 1, none⟩) (Nat.le_succ _) _, (HM'.out.1.below HB1.out).keep e2, (HM.out.1.below HB1.out).keep e2, ?_, ?_, HM'.out.2.2.2, ?_, ?_⟩
     ·rw [HM.out.2.2.1, HM'.out.2.2.1]; omega
     ·exact pos_of_val (by rw [HM'.out.2.2.1]; have := magn_nonneg x; omega)
     ·exact len_of_val HM'.out.1.2.2.2 HM.out.1.2.2.2 HM.out.2.1 (by rw [HM.out.2.2.1, HM'.out.2.2.1]; omega)
     ·rw [HM.out.2.2.1, HM'.out.2.2.1]; exact HS2.out.2 hlt
    ·have h1 : decide (magn x < magn y) = false := decide_eq_false hlt
     go_wp2
     go_meet
     refine ⟨s, A, n, c, ds, s', A', n', c', ds', B21.out, B31.out, B41.out, HB1.out, HM.out.1.below HB1.out, HM'.out.1.below HB1.out, ?_, ?_, HM.out.2.2.2, ?_, ?_⟩
     ·rw [HM.out.2.2.1, HM'.out.2.2.1]; omega
     ·refine pos_of_val ?_
      rw [HM.out.2.2.1]
      have h3 := magn_nonneg x
      have h4 := magn_nonneg y
      have h5 := hne.out
      omega
     ·exact len_of_val HM.out.1.2.2.2 HM'.out.1.2.2.2 HM'.out.2.1 (by rw [HM.out.2.2.1, HM'.out.2.2.1]; omega)
     ·rw [HM.out.2.2.1, HM'.out.2.2.1]; exact HS2.out.1 hlt
   case rest =>
    obtain ⟨sa, Aa, na, ca, da, sb, Ab, nb, cb, db, g0, g1, g2, hB, hMa, hMb, q1, q2, q3, q4, q5⟩ := hcut.out
    clear hcut B2 B3 B4 B21 B31 B41 HB HB1 HM HM' HS2 hne
    obtain ⟨W, rfl⟩ : ∃ W : World, W = wc := ⟨_, rfl⟩
    have HB := Aside0.mk hB
    have B4 := Aside0.mk g2
    have HMa := Aside0.mk hMa
    have HMb := Aside0.mk hMb
    have HQ := Aside0.mk (show val db ≤ val da ∧ 0 < da.length ∧ da.length ≤ 100000 ∧ db.length ≤ da.length from ⟨q1, q2, q3, q4⟩)
    have hz := Aside0.mk q5
    have hsum := Aside0.mk (show Fit (val da - val db) from Fit.of_ite (by omega) q5 HF.out)
    have c0 : W.cell? ⟨w.heap.size, 0, none⟩ = some (.bool sa) := blk_cell g0 0
    have c1 : W.cell? ⟨w.heap.size, 1, none⟩ = some (.slice Aa na ca) := blk_cell g0 1
    have c3 : W.cell? ⟨w.heap.size + 1, 1, none⟩ = some (.slice Ab nb cb) := blk_cell g1 1
    clear g0 g1 g2 hB hMa hMb q1 q2 q3 q4 q5
    go_upto_region 5 with fail
    go_region_held3 (fun w' => w'.cell? ⟨w.heap.size, 0, none⟩ = some (.bool sa) ∧ w'.cell? ⟨w.heap.size, 1, none⟩ = some (.slice Aa na ca) ∧ w'.cell? ⟨w.heap.size + 1, 1, none⟩ = some (.slice Ab nb cb))
     (first | exact ⟨c0, c1, c3⟩ | exact ⟨k0, k1, k3⟩ | exact ⟨l0, l1, l3⟩ | exact ⟨cell_set2 l0 hq0, cell_set2 l1 hq0, cell_set2 l3 hq1⟩ | fail)
     (first
      | (go_at_call 70; (with_reducible refine (difference_calls _ _ _ da _ _ _ db _ (HMa.out.below ?_) (HMb.out.below ?_) HQ.out.2.1 HQ.out.2.2.1 HQ.out.2.2.2 HQ.out.1).mono ?_); (iterate 2 exact below_drew1 (Below.refl _ _)); rintro e w1 ⟨A1, c1', r, rfl, hR, hval2, hlr, hb1⟩; have HR1 := Aside0.mk (show MgC w1 A1 r.length c1' r ∧ val r = val da - val db ∧ r.length ≤ 1000000 from ⟨hR, hval2, by omega⟩); have HB1 := Aside0.mk (below_step (below_drew1 HB.out) hb1); have B41 := Aside0.mk (blk_below (blk_drew B4.out) hb1); have k0 := pw_cell_below hb1 c0; have k1 := pw_cell_below hb1 c1; have k3 := pw_cell_below hb1 c3; clear hR hval2 hlr hb1)
      | (go_at_call 63; (with_reducible refine (signed_calls sa _ _ _ r _ HR1.out.1 HR1.out.2.2 (val da - val db) HR1.out.2.1 hsum.out).mono ?_); rintro e w2 ⟨v2, rfl, hW2, hb2⟩; rw [hz.out] at hW2; obtain ⟨A2, n2, c2', d2, rfl, hM2, hN2, hV2⟩ := hW2; have HW2 := Aside0.mk (show MgC w2 A2 n2 c2' d2 ∧ Nz d2 ∧ val d2 = magn (x + y) from ⟨hM2, hN2, hV2⟩); have HB2 := Aside0.mk (below_step HB1.out hb2); have B42 := Aside0.mk (blk_below B41.out hb2); have l0 := pw_cell_below hb2 k0; have l1 := pw_cell_below hb2 k1; have l3 := pw_cell_below hb2 k3; have f0 := blk_frozen B42.out 0; have f1 := blk_frozen B42.out 1; have m0 : w2.cell? ⟨w.heap.size + 1 + 1, 0, none⟩ = some (.bool false) := blk_cell B42.out 0; have m1 : w2.cell? ⟨w.heap.size + 1 + 1, 1, none⟩ = some (.slice none 0 0) := blk_cell B42.out 1; clear hM2 hN2 hV2 hb2)
      | fail)
    go_wp2
    refine bodyPost_ret (results_ct rfl _ _ (w.heap.size + 1 + 1) _ _ _ rfl rfl (blk_put (blk_put B42.out 0 _ rfl) 1 _ rfl)) rfl ?_
    have hend := wi_set B42.out HB2.out (by omega) HW2.out
    exact ⟨_, rfl, hend.1, hend.2⟩
end Go.Proofs.Ytjmkccabpnigiaa.P
namespace Go.Proofs.Ytjmkccabpnigiaa.P
open Go.RowKit Go.Proofs.YtjmkccabpnigiaaW.PrintWords Go.Proofs.YtjmkccabpnigiaaW.PrintLast Go.Proofs.YtjmkccabpnigiaaW.PrintMore
attribute [local go_sem] max2_int min2_int max_two min_two max_three min_three max_four min_four
set_option linter.unusedVariables false
set_option linter.unusedSimpArgs false
theorem cmp_magn (x y : Int) : (x < 0 → y < 0 → cmp3 (magn y) (magn x) = cmp3 x y) ∧ (x < 0 → ¬ y < 0 → -1 = cmp3 x y) ∧ (¬ x < 0 → y < 0 → 1 = cmp3 x y) ∧ (¬ x < 0 → ¬ y < 0 → cmp3 (magn x) (magn y) = cmp3 x y) := by
 unfold cmp3 magn
 refine ⟨fun h1 h2 => ?_, fun h1 h2 => ?_, fun h1 h2 => ?_, fun h1 h2 => ?_⟩
 ·rw [if_pos h1, if_pos h2]
  by_cases h : x < y
  ·rw [if_pos h, if_pos (by omega)]
  ·by_cases h' : y < x
   ·rw [if_neg h, if_pos h', if_neg (by omega), if_pos (by omega)]
   ·rw [if_neg h, if_neg h', if_neg (by omega), if_neg (by omega)]
 ·rw [if_pos (by omega)]
 ·rw [if_neg (by omega), if_pos (by omega)]
 ·rw [if_neg h1, if_neg h2]
theorem Compare_f {ds ds' : List Int} {x y : Int} (ha : Dg ds) (hb : Dg ds') (na : Nz ds) (nb : Nz ds') (hx : val ds = magn x) (hy : val ds' = magn y) (hm : ds.length ≤ 100000) (hm' : ds'.length ≤ 100000) :
    wide_Compare.f 100002 (decide (x < 0)) ds (decide (y < 0)) ds' = some (cmp3 x y) := by
 have h1 := compare_f ha hb na nb hm 100001 (by omega)
 have h2 := compare_f hb ha nb na hm' 100001 (by omega)
 have h := cmp_magn x y
 rw [hx, hy] at h1 h2
 unfold wide_Compare.f
 by_cases c1 : x < 0 <;> by_cases c2 : y < 0
 ·rw [← h.1 c1 c2]
  simp [c1, c2, wide_Compare.j0, h2]
 ·rw [← h.2.1 c1 c2]
  simp [c1, c2, wide_Compare.j0]
 ·rw [← h.2.2.1 c1 c2]
  simp [c1, c2, wide_Compare.j0]
 ·rw [← h.2.2.2 c1 c2]
  simp [c1, c2, wide_Compare.j0, h1]
theorem Compare_calls (u v : Value) (x y : Int) (w : World) (hu : WI w u x) (hv : WI w v y) (hfx : Fit x) (hfy : Fit y) :
    Calls Try.prog 57 #[u, v] w fun e w' => e = .returned (.int .i64 (cmp3 x y)) ∧ Below w.heap.size w w' := by
 obtain ⟨A, n, c, ds, rfl, ⟨hM, rfl, hc, hd⟩, hN, hV⟩ := hu
 obtain ⟨A', n', c', ds', rfl, ⟨hM', rfl, hc', hd'⟩, hN', hV'⟩ := hv
 have hl := hfx.len hd hN hV
 have hl' := hfy.len hd' hN' hV'
 exact wide_Compare.calls 100002 (decide (x < 0)) A c ds (decide (y < 0)) A' c' ds' _ w hM hc hM' hc' (Compare_f hd hd' hN hN' hV hV' (by omega) (by omega))
theorem Sign_calls (u : Value) (x : Int) (w : World) (hu : WI w u x) (hfx : Fit x) :
    Calls Try.prog 54 #[u] w fun e w' => e = .returned (.int .i64 (cmp3 x 0)) ∧ Below w.heap.size w w' := by
 obtain ⟨A, n, c, ds, rfl, ⟨hM, rfl, hc, hd⟩, hN, hV⟩ := hu
 have hl := hfx.len hd hN hV
 refine wide_Sign.calls 100002 (decide (x < 0)) A c ds _ w hM hc ?_
 unfold wide_Sign.f
 have := Compare_f (y := 0) hd Dg.nil hN (fun h => absurd rfl h) hV (show val [] = magn 0 from rfl) (by omega) (by simp)
 rw [show decide ((0 : Int) < 0) = false from rfl] at this
 rw [this]
 rfl
end Go.Proofs.Ytjmkccabpnigiaa.P
namespace Go.Proofs.Ytjmkccabpnigiaa.P
open Go.RowKit Go.Proofs.YtjmkccabpnigiaaW.PrintWords Go.Proofs.YtjmkccabpnigiaaW.PrintLast Go.Proofs.YtjmkccabpnigiaaW.PrintMore
attribute [local go_sem] max2_int min2_int max_two min_two max_three min_three max_four min_four
set_option linter.unusedVariables false
set_option linter.unusedSimpArgs false
set_option maxHeartbeats 4000000
set_option maxRecDepth 100000
theorem fit_neg {z : Int} (h : Fit z) : Fit (-z) := by
 have e : magn (-z) = magn z := by
  unfold magn
  by_cases h0 : z < 0
  ·rw [if_neg (by omega), if_pos h0]
  ·by_cases h1 : -z < 0
   ·rw [if_pos h1, if_neg h0, Int.neg_neg]
   ·rw [if_neg h1, if_neg h0]; omega
 unfold Fit at *
 rw [e]
 exact h
theorem WI.parts {w : World} {v : Value} {z : Int} (h : WI w v z) : ∃ (s : Bool) (A : Option Addr) (n c : Nat), v = .agg #[.bool s, .slice A n c] ∧ Aside0 (WI w (.agg #[.bool s, .slice A n c]) z) := by
 obtain ⟨A, n, c, ds, rfl, h1, h2⟩ := h
 exact ⟨_, A, n, c, rfl, ⟨⟨A, n, c, ds, rfl, h1, h2⟩⟩⟩
theorem wi_put {w w2 : World} {g base : Nat} {b0 : Bool} {A0 : Option Addr} {n0 c0 : Nat} {t : TypeId} (hg : w2.heap[g]? = some (.cells #[.bool b0, .slice A0 n0 c0] t (0, 0))) (hB : Below base w w2) (hb : base ≤ g)
    {s : Bool} {A : Option Addr} {n c : Nat} {z : Int} (h : WI w2 (.agg #[.bool s, .slice A n c]) z) :
    WI ((w2.setCell ⟨g, 0, none⟩ (.bool s)).setCell ⟨g, 1, none⟩ (.slice A n c)) (.agg #[.bool s, .slice A n c]) z ∧ Below base w ((w2.setCell ⟨g, 0, none⟩ (.bool s)).setCell ⟨g, 1, none⟩ (.slice A n c)) :=
 ⟨h.keep (IntKeep.set2 hg _ _ _ _), (hB.setCell (p := ⟨g, 0, none⟩) hb _).setCell (p := ⟨g, 1, none⟩) hb _⟩
theorem sub_calls (u v : Value) (x y : Int) (w : World) (hu : WI w u x) (hv : WI w v y) (hfx : Fit x) (hfy : Fit y) (hf : Fit (x - y)) :
    Calls Try.prog 72 #[u, v] w fun e w' => ∃ r, e = .returned (.tuple #[r, .int .i64 0]) ∧ WI w' r (x - y) ∧ Below w.heap.size w w' := by
 have hu43 := Try.underlying43
 have HU := Aside0.mk hu
 have HV := Aside0.mk hv
 obtain ⟨A, n, c, ds, rfl, hM, hN, hV⟩ := hu
 obtain ⟨A', n', c', ds', rfl, hM', hN', hV'⟩ := hv
 have HM := Aside0.mk (show MgC w A n c ds ∧ Nz ds ∧ val ds = magn x from ⟨hM, hN, hV⟩)
 have HM' := Aside0.mk (show MgC w A' n' c' ds' ∧ Nz ds' ∧ val ds' = magn y from ⟨hM', hN', hV'⟩)
 obtain ⟨s, hs⟩ : ∃ s, decide (x < 0) = s := ⟨_, rfl⟩
 obtain ⟨s', hs'⟩ : ∃ s, decide (y < 0) = s := ⟨_, rfl⟩
 rw [hs] at HU
 rw [hs'] at HV
 rw [hs, hs']
 clear hM hN hV hM' hN' hV'
 have HF := Aside0.mk (show Fit x ∧ Fit (-y) ∧ Fit (x + -y) from ⟨hfx, fit_neg hfy, by rwa [show x + -y = x - y from by omega]⟩)
 clear hfx hfy hf hs hs'
 have hb3 := below_alloc (below_alloc (below_alloc (Below.refl w.heap.size w) (.cells #[.bool s, .slice A n c] 43)) (.cells #[.bool s', .slice A' n' c'] 43)) (.cells #[.bool false, .slice none 0 0] 43)
 have b2 := blk_alloc (blk_alloc (blk_new w (.cells #[.bool s, .slice A n c] 43)) (.cells #[.bool s', .slice A' n' c'] 43)) (.cells #[.bool false, .slice none 0 0] 43)
 have b3 := blk_alloc (blk_new (w.alloc (.cells #[.bool s, .slice A n c] 43)) (.cells #[.bool s', .slice A' n' c'] 43)) (.cells #[.bool false, .slice none 0 0] 43)
 have b4 := blk_new ((w.alloc (.cells #[.bool s, .slice A n c] 43)).alloc (.cells #[.bool s', .slice A' n' c'] 43)) (.cells #[.bool false, .slice none 0 0] 43)
 simp only [World.size_alloc] at b3 b4
 have hq0 : w.heap.size ≠ w.heap.size + 1 + 1 := by omega
 have hq1 : w.heap.size + 1 ≠ w.heap.size + 1 + 1 := by omega
 go_enter Try.func72, Try.ntmps72
 go_upto_region 1 with fail
 obtain ⟨W, hW⟩ : ∃ W, ((w.alloc (.cells #[.bool s, .slice A n c] 43)).alloc (.cells #[.bool s', .slice A' n' c'] 43)).alloc (.cells #[.bool false, .slice none 0 0] 43) = W := ⟨_, rfl⟩
 rw [hW] at hb3 b2 b3 b4 ⊢
 have HB := Aside0.mk hb3
 have B4 := Aside0.mk b4
 have B2 := Aside0.mk b2
 have B3 := Aside0.mk b3
 clear hW hb3
 have c0 : W.cell? ⟨w.heap.size, 0, none⟩ = some (.bool s) := blk_cell b2 0
 have c1 : W.cell? ⟨w.heap.size, 1, none⟩ = some (.slice A n c) := blk_cell b2 1
 have c2 : W.cell? ⟨w.heap.size + 1, 0, none⟩ = some (.bool s') := blk_cell b3 0
 have c3 : W.cell? ⟨w.heap.size + 1, 1, none⟩ = some (.slice A' n' c') := blk_cell b3 1
 clear b2 b3 b4
 go_region_held3 (fun w' => w'.cell? ⟨w.heap.size, 0, none⟩ = some (.bool s) ∧ w'.cell? ⟨w.heap.size, 1, none⟩ = some (.slice A n c) ∧ w'.cell? ⟨w.heap.size + 1, 0, none⟩ = some (.bool s') ∧ w'.cell? ⟨w.heap.size + 1, 1, none⟩ = some (.slice A' n' c'))
  (first | exact ⟨c0, c1, c2, c3⟩ | exact ⟨k0, k1, k2, k3⟩ | exact ⟨l0, l1, l2, l3⟩ | exact ⟨cell_set2 l0 hq0, cell_set2 l1 hq0, cell_set2 l2 hq1, cell_set2 l3 hq1⟩ | fail)
  (first
   | (go_at_call 55; (with_reducible refine (neg_calls _ y _ (HV.out.below ?_)).mono ?_); (exact below_drew1 HB.out); rintro e w1 ⟨v1, rfl, hW1, hb1⟩; obtain ⟨s1, A1, n1, c1', rfl, HW1⟩ := hW1.parts; have HB1 := Aside0.mk (below_step (below_drew1 HB.out) hb1); have B41 := Aside0.mk (blk_below (blk_drew B4.out) hb1); have k0 := pw_cell_below hb1 c0; have k1 := pw_cell_below hb1 c1; have k2 := pw_cell_below hb1 c2; have k3 := pw_cell_below hb1 c3; clear hW1 hb1)
   | (go_at_call 59; (with_reducible refine (add_calls _ _ x (-y) _ (HU.out.below ?_) HW1.out HF.out.1 HF.out.2.1 HF.out.2.2).mono ?_); (exact HB1.out); rintro e w2 ⟨v2, rfl, hW2, hb2⟩; rw [show x + -y = x - y from Int.sub_eq_add_neg.symm] at hW2; obtain ⟨s2, A2, n2, c2', rfl, HW2⟩ := hW2.parts; have HB2 := Aside0.mk (below_step HB1.out hb2); have B42 := Aside0.mk (blk_below B41.out hb2); have l0 := pw_cell_below hb2 k0; have l1 := pw_cell_below hb2 k1; have l2 := pw_cell_below hb2 k2; have l3 := pw_cell_below hb2 k3; have f0 := blk_frozen B42.out 0; have f1 := blk_frozen B42.out 1; have m0 : w2.cell? ⟨w.heap.size + 1 + 1, 0, none⟩ = some (.bool false) := blk_cell B42.out 0; have m1 : w2.cell? ⟨w.heap.size + 1 + 1, 1, none⟩ = some (.slice none 0 0) := blk_cell B42.out 1; clear hW2 hb2)
   | fail)
 go_wp2
 refine bodyPost_ret (results_ct rfl _ _ (w.heap.size + 1 + 1) _ _ _ rfl rfl (blk_put (blk_put B42.out 0 _ rfl) 1 _ rfl)) rfl ?_
 have hend := wi_put B42.out HB2.out (by omega) HW2.out
 exact ⟨_, rfl, hend.1, hend.2⟩
/-- A value copied through two boxes. -/
theorem wi_two (w : World) (s : Bool) (A : Option Addr) (n c : Nat) (z : Int) (h : WI w (.agg #[.bool s, .slice A n c]) z) (o1 o2 : Obj) : WI ((w.alloc o1).alloc o2) (.agg #[.bool s, .slice A n c]) z ∧ Below w.heap.size w ((w.alloc o1).alloc o2) :=
 have hb : Below w.heap.size w ((w.alloc o1).alloc o2) := below_alloc (below_alloc (Below.refl _ _) _) _
 ⟨h.below hb, hb⟩
theorem must_calls (u : Value) (x e : Int) (w : World) (hu : WI w u x) :
    Calls Try.prog 58 #[u, .int .i64 e] w fun e w' => ∃ r, e = .returned r ∧ WI w' r x ∧ Below w.heap.size w w' := by
 have hu43 := Try.underlying43
 have HU := Aside0.mk hu
 obtain ⟨A, n, c, ds, rfl, -, -, -⟩ := hu
 obtain ⟨s, hs⟩ : ∃ s, decide (x < 0) = s := ⟨_, rfl⟩
 rw [hs] at HU ⊢
 clear hs
 go_enter Try.func58, Try.ntmps58
 go_wp2
 have hg := blk_new (w.alloc (.cells #[.bool s, .slice A n c] 43)) (.cells #[.bool s, .slice A n c] 43)
 rw [World.size_alloc] at hg
 refine bodyPost_ret (results_cell_row rfl _ _ (w.heap.size + 1) 43 #[.bool s, .slice A n c] (0, 0) _ rfl hg Try.underlying43 rfl (by kernel_rfl)) rfl ?_
 have h := wi_two w s A n c x HU.out (.cells #[.bool s, .slice A n c] 43) (.cells #[.bool s, .slice A n c] 43)
 exact ⟨_, rfl, h.1, h.2⟩
/-- A fraction that is an integer. -/
def FI (w : World) (v : Value) (z : Int) : Prop := ∃ (s : Bool) (A : Option Addr) (n c : Nat) (s' : Bool) (A' : Option Addr) (n' c' : Nat), v = .agg #[.bool s, .slice A n c, .bool s', .slice A' n' c'] ∧ WI w (.agg #[.bool s, .slice A n c]) z ∧ WI w (.agg #[.bool s', .slice A' n' c']) 0
theorem FI.below {w w1 : World} {v : Value} {z : Int} (h : FI w v z) (hb : Below w.heap.size w w1) : FI w1 v z := by
 obtain ⟨s, A, n, c, s', A', n', c', rfl, h1, h2⟩ := h
 exact ⟨s, A, n, c, s', A', n', c', rfl, h1.below hb, h2.below hb⟩
theorem Num_calls (v : Value) (z : Int) (w : World) (hv : FI w v z) :
    Calls Try.prog 45 #[v] w fun e w' => ∃ r, e = .returned r ∧ WI w' r z ∧ Below w.heap.size w w' := by
 have hu43 := Try.underlying43
 have hu45 := Try.underlying45
 obtain ⟨s, A, n, c, s', A', n', c', rfl, h1, h2⟩ := hv
 have H1 := Aside0.mk h1
 clear h1 h2
 go_enter Try.func45, Try.ntmps45
 go_wp2
 have hg := blk_new (w.alloc (.cells #[.bool s, .slice A n c, .bool s', .slice A' n' c'] 45)) (.cells #[.bool s, .slice A n c] 43)
 rw [World.size_alloc] at hg
 refine bodyPost_ret (results_cell_row rfl _ _ (w.heap.size + 1) 43 #[.bool s, .slice A n c] (0, 0) _ rfl hg Try.underlying43 rfl (by kernel_rfl)) rfl ?_
 have h := wi_two w s A n c z H1.out (.cells #[.bool s, .slice A n c, .bool s', .slice A' n' c'] 45) (.cells #[.bool s, .slice A n c] 43)
 exact ⟨_, rfl, h.1, h.2⟩
end Go.Proofs.Ytjmkccabpnigiaa.P
namespace Go.Proofs.Ytjmkccabpnigiaa.P
open Go.RowKit Go.Proofs.YtjmkccabpnigiaaW.PrintWords Go.Proofs.YtjmkccabpnigiaaW.PrintLast Go.Proofs.YtjmkccabpnigiaaW.PrintMore
attribute [local go_sem] max2_int min2_int max_two min_two max_three min_three max_four min_four
set_option linter.unusedVariables false
set_option linter.unusedSimpArgs false
theorem lit1 (w : World) (x : Int) : (Kd.int .u32).C (w.alloc (.cells #[.int .u32 x] 100)) (some ⟨w.heap.size, 0, none⟩) 1 [x] := by
 have hb := blk_new w (.cells #[.int .u32 x] 100)
 refine ⟨rfl, by omega, fun _ => ⟨_, rfl, fun j p hj => ⟨[.int .u32 p], rfl, rfl, fun i u hu => ?_⟩⟩⟩
 cases i with
 | succ i => simp at hu
 | zero =>
  have hu : Value.int .u32 p = u := by simpa using hu
  subst hu
  match j with
  | 0 => have : x = p := by simpa using hj
         subst this
         exact blk_cell hb 0
  | j + 1 => simp at hj
theorem lit1M (w : World) (x : Int) (h : 0 ≤ x ∧ x < 4294967296) : MgC (w.alloc (.cells #[.int .u32 x] 100)) (some ⟨w.heap.size, 0, none⟩) 1 1 [x] := ⟨lit1 w x, rfl, Nat.le_refl _, Dg.cons h.1 h.2 Dg.nil⟩
theorem one_digit {b : List Int} {d : Int} (hd : Dg b) (hn : Nz b) (hv : val b = d) (h0 : 0 < d) (h1 : d < 4294967296) : b = [d] := by
 have hl := length_le (k := 1) hd hn (by rw [hv]; simpa using h1)
 match b with
 | [] => simp [val] at hv; omega
 | [x] => simp [val] at hv; rw [hv]
 | x :: y :: l => simp at hl
set_option maxHeartbeats 4000000 in
set_option maxRecDepth 100000 in
theorem divide_calls (A0 : Option Addr) (n0 c0 : Nat) (a : List Int) (A1 : Option Addr) (n1 c1 : Nat) (b : List Int) (d : Int) (w : World) (ha : MgC w A0 n0 c0 a) (hb : MgC w A1 n1 c1 b) (na : Nz a) (nb : Nz b) (hla : a.length ≤ 100000) (hd : val b = d) (h0 : 0 < d) (h1 : d < 4294967296) :
    Calls Try.prog 71 #[.slice A0 n0 c0, .slice A1 n1 c1] w fun e w' => ∃ (Aq : Option Addr) (cq : Nat) (q : List Int) (Ar : Option Addr) (cr : Nat) (r : List Int), e = .returned (.tuple #[.slice Aq q.length cq, .slice Ar r.length cr]) ∧ MgC w' Aq q.length cq q ∧ MgC w' Ar r.length cr r ∧ Nz q ∧ Nz r ∧ val q = val a / d ∧ val r = val a % d ∧ q.length ≤ a.length ∧ Below w.heap.size w w' := by
 obtain rfl := one_digit hb.2.2.2 nb hd h0 h1
 have HA := Aside0.mk ha
 obtain ⟨_, rfl, _, hda⟩ := ha
 obtain ⟨hb1, rfl, hb2, hb3⟩ := hb
 have HB := Aside0.mk (show MgC w A1 1 c1 [d] from ⟨hb1, rfl, hb2, hb3⟩)
 clear hb1 hb2 hb3
 have hva := val_nonneg hda
 have HN := Aside0.mk (show Nz a ∧ Nz [d] ∧ a.length ≤ 100000 ∧ 0 < d ∧ d < 4294967296 ∧ 0 ≤ val a ∧ Dg a from ⟨na, nb, hla, h0, h1, hva, hda⟩)
 clear na nb hla h0 h1 hd
 go_enter Try.func71, Try.ntmps71
 go_wp2
 go_step3
 by_cases hlt : val a < d
 ·have q1 : decide (cmp3 (val a) (val [d]) < 0) = true := decide_eq_true (by rw [show val [d] = d from by simp [val], cmp3_lt hlt]; decide)
  have HLT := Aside0.mk hlt
  clear hlt hva
  go_wp2_with (first | (go_at_call 68; (with_reducible refine (compare_calls _ _ _ a _ _ _ [d] _ HA.out HB.out HN.out.1 HN.out.2.1 HN.out.2.2.1).mono ?_); rintro e w1 ⟨rfl, hd⟩; have HB1 := Aside0.mk hd.below; clear hd) | fail)
  try rw [Exit.noGoto_ret]
  go_ret2
  refine ⟨none, 0, [], A0, c0, a, rfl, ⟨Kd.C_nil _ _, rfl, Nat.le_refl _, Dg.nil⟩, HA.out.below HB1.out, fun h => absurd rfl h, HN.out.1, ?_, ?_, Nat.zero_le _, HB1.out⟩
  ·rw [Int.ediv_eq_zero_of_lt HN.out.2.2.2.2.2.1 HLT.out]; rfl
  ·rw [Int.emod_eq_of_lt HN.out.2.2.2.2.2.1 HLT.out]
 ·have q1 : decide (cmp3 (val a) (val [d]) < 0) = false := decide_eq_false (by rw [show val [d] = d from by simp [val]]; unfold cmp3; rw [if_neg hlt]; split <;> omega)
  have HLT := Aside0.mk hlt
  clear hlt hva
  obtain ⟨ad, e, hc⟩ := Kd.at_int HB.out.1 0 (by omega) (by simp)
  cases e
  have hc' : w.cell? ad = some (.int .u32 d) := hc
  have HDD := Aside0.mk (show 0 < d ∧ d < 4294967296 from ⟨HN.out.2.2.2.1, HN.out.2.2.2.2.1⟩)
  have HLA := Aside0.mk (show a.length ≤ 1000000 from by have := HN.out.2.2.1; omega)
  clear hc
  go_wp2_with (first
   | (go_at_call 68; (with_reducible refine (compare_calls _ _ _ a _ _ _ [d] _ HA.out HB.out HN.out.1 HN.out.2.1 HN.out.2.2.1).mono ?_); rintro e w1 ⟨rfl, hd⟩; have HB1 := Aside0.mk hd.below; have hc1 := pw_cell_below HB1.out hc'; clear hd)
   | (go_at_call 80; (with_reducible refine (short_calls A0 _ c0 a d _ (HA.out.below ?_) HLA.out HDD.out).mono ?_); (exact HB1.out); rintro e w2 ⟨Aq, cq, q, r, rfl, hq, hv, hr0, hr1, hlq, hb2⟩; have HQ := Aside0.mk (show MgC w2 Aq q.length cq q ∧ val a = d * val q + r ∧ 0 ≤ r ∧ r < d ∧ q.length = a.length from ⟨hq, hv, hr0, hr1, hlq⟩); have HB2 := Aside0.mk (below_step HB1.out hb2); have HLQ := Aside0.mk (show q.length ≤ 1000000 from by have := HLA.out; omega); have HRR := Aside0.mk (show 0 ≤ r ∧ r < 4294967296 from by have := HDD.out; omega); clear hq hv hr0 hr1 hlq hb2)
   | (go_at_call 73; (with_reducible refine (normal_calls Aq q.length cq q _ HQ.out.1 HLQ.out).mono ?_); rintro e w3 ⟨Aq2, cq2, q2, rfl, hM, hN, hv, hl, hb3⟩; have HQ2 := Aside0.mk (show MgC w3 Aq2 q2.length cq2 q2 ∧ Nz q2 ∧ val q2 = val q ∧ q2.length ≤ q.length from ⟨hM, hN, hv, hl⟩); have HB3 := Aside0.mk (below_step HB2.out hb3); clear hM hN hv hl hb3)
   | (go_at_call 73; (with_reducible refine (normal_calls _ _ _ [r] _ (lit1M _ r HRR.out) (by simp)).mono ?_); rintro e w4 ⟨Ar, cr, r2, rfl, hM, hN, hv, hl, hb4⟩)
   | fail)
  try rw [Exit.noGoto_ret]
  go_ret2
  obtain ⟨e1, e2⟩ := (Int.ediv_emod_unique (a := val a) (b := d) (r := r) (q := val q) HDD.out.1).2 ⟨by have := HQ.out.2.1; omega, HQ.out.2.2.1, HQ.out.2.2.2.1⟩
  have hb5 := below_step (below_alloc (Below.refl w3.heap.size w3) (.cells #[.int .u32 r] 100)) hb4
  refine ⟨Aq2, cq2, q2, Ar, cr, r2, rfl, HQ2.out.1.below hb5, hM, HQ2.out.2.1, hN, ?_, ?_, ?_, below_step HB3.out hb5⟩
  ·rw [HQ2.out.2.2.1, e1]
  ·rw [hv, e2]; simp [val]
  ·have := HQ2.out.2.2.2; have := HQ.out.2.2.2.2; omega
end Go.Proofs.Ytjmkccabpnigiaa.P
