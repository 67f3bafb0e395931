import Derived.Test.YtjmkccabpnigiaaQGivenZd
namespace Go.Proofs.Ytjmkccabpnigiaa.P
open Go.RowKit Go.Proofs.YtjmkccabpnigiaaW.PrintWords Go.Proofs.YtjmkccabpnigiaaW.PrintLast Go.Proofs.YtjmkccabpnigiaaW.PrintMore
attribute [local go_sem] max2_int min2_int max_two min_two max_three min_three max_four min_four
set_option linter.unusedVariables false
set_option linter.unusedSimpArgs false
set_option maxHeartbeats 8000000
set_option maxRecDepth 100000
theorem small_one : wide_Int_Small.f 10 false [1] = some (1, true) := by decide +kernel
theorem small_two : wide_Int_Small.f 10 false [2] = some (2, true) := by decide +kernel
theorem small_calls (u : Value) (d : Int) (h0 : 0 < d) (h1 : d < 4294967296) (hs : wide_Int_Small.f 10 false [d] = some (d, true)) (w : World) (hu : WI w u d) :
    Calls Try.prog 76 #[u] w fun e w' => e = .returned (.tuple #[.int .i64 d, .bool true]) ∧ Below w.heap.size w w' := by
 obtain ⟨A, n, c, ds, rfl, hM, hN, hV⟩ := hu
 rw [show magn d = d from by unfold magn; rw [if_neg (by omega)]] at hV
 obtain rfl := one_digit hM.2.2.2 hN hV h0 h1
 obtain ⟨hC, rfl, hc, _⟩ := hM
 rw [decide_eq_false (show ¬ d < 0 by omega)]
 exact wide_Int_Small.calls 10 false A c [d] d true w hC hc hs
theorem two_pos (i : Nat) : (0 : Int) < 2 ^ i := Int.pow_pos (by decide)
theorem pow_mono {a b : Nat} (h : a ≤ b) : (2 : Int) ^ a ≤ 2 ^ b := by
 obtain ⟨k, rfl⟩ := Nat.exists_eq_add_of_le h
 rw [Int.pow_add]
 have h1 := two_pos a
 have h2 := two_pos k
 have := Int.mul_le_mul_of_nonneg_left (show 1 ≤ (2 : Int) ^ k by omega) (show 0 ≤ (2 : Int) ^ a by omega)
 omega
theorem pow2000 : (2 : Int) ^ 2000 < 4294967296 ^ 512 := by decide +kernel
theorem fit_pow {i : Nat} (h : i ≤ 2000) : Fit ((2 : Int) ^ i) := by
 have h1 := two_pos i
 have h2 := pow_mono h
 have h3 := pow2000
 unfold Fit magn
 rw [if_neg (by omega)]
 omega
theorem power_one (u : Value) (n : Int) (w : World) (hu : WI w u 1) :
    Calls Try.prog 67 #[u, .int .i64 n] w fun e w' => ∃ r, e = .returned (.tuple #[r, .int .i64 0]) ∧ WI w' r 1 ∧ Below w.heap.size w w' := by
 have hu43 := Try.underlying43
 obtain ⟨s, A, n', c, rfl, HU⟩ := hu.parts
 clear hu
 have B4 := blk_new (w.alloc (.cells #[.bool s, .slice A n' c] 43)) (.cells #[.bool false, .slice none 0 0] 43)
 rw [World.size_alloc] at B4
 have HB4 := Aside0.mk B4
 clear B4
 have hb2 := Aside0.mk (below_alloc (below_alloc (Below.refl w.heap.size w) (.cells #[.bool s, .slice A n' c] 43)) (.cells #[.bool false, .slice none 0 0] 43))
 go_enter Try.func67, Try.ntmps67
 go_wp2_with (first
  | (go_at_call 76; (with_reducible refine (small_calls _ 1 (by decide) (by decide) small_one _ (HU.out.below ?_)).mono ?_); (exact hb2.out); rintro e w1 ⟨rfl, hb1⟩; have HB1 := Aside0.mk (below_step hb2.out hb1); have HB41 := Aside0.mk (blk_below HB4.out hb1); clear hb1)
  | (go_at_call 48; (with_reducible refine (from_calls 1 (by decide) (by decide) _).mono ?_); rintro e w2 ⟨v2, rfl, hX, hb2'⟩; obtain ⟨s2, A2, n2, c2, rfl, HX⟩ := hX.parts; have HB2 := Aside0.mk (below_step HB1.out hb2'); have B42 := Aside0.mk (blk_below HB41.out hb2'); have f0 := blk_frozen B42.out 0; have f1 := blk_frozen B42.out 1; have m0 : w2.cell? ⟨w.heap.size + 1, 0, none⟩ = some (.bool false) := blk_cell B42.out 0; have m1 : w2.cell? ⟨w.heap.size + 1, 1, none⟩ = some (.slice none 0 0) := blk_cell B42.out 1; clear hX hb2')
  | fail)
 refine bodyPost_ret (results_ct rfl _ _ (w.heap.size + 1) _ _ _ rfl rfl (blk_put (blk_put B42.out 0 _ rfl) 1 _ rfl)) rfl ?_
 have hend := wi_put B42.out HB2.out (by omega) HX.out
 exact ⟨_, rfl, hend.1, hend.2⟩
theorem power_two (u : Value) (n : Nat) (hn : n ≤ 1024) (w : World) (hu : WI w u 2) :
    Calls Try.prog 67 #[u, .int .i64 n] w fun e w' => ∃ r, e = .returned (.tuple #[r, .int .i64 0]) ∧ WI w' r (2 ^ n) ∧ Below w.heap.size w w' := by
 have hu43 := Try.underlying43
 obtain ⟨s, A, n', c, rfl, HU⟩ := hu.parts
 clear hu
 have HN := Aside0.mk hn
 clear hn
 have B2 := Aside0.mk (blk_alloc (blk_new w (.cells #[.bool s, .slice A n' c] 43)) (.cells #[.bool false, .slice none 0 0] 43))
 have B4 := blk_new (w.alloc (.cells #[.bool s, .slice A n' c] 43)) (.cells #[.bool false, .slice none 0 0] 43)
 rw [World.size_alloc] at B4
 have HB4 := Aside0.mk B4
 clear B4
 have hb2 := Aside0.mk (below_alloc (below_alloc (Below.refl w.heap.size w) (.cells #[.bool s, .slice A n' c] 43)) (.cells #[.bool false, .slice none 0 0] 43))
 go_enter Try.func67, Try.ntmps67
 go_wp2_with (first
  | (go_at_call 76; (with_reducible refine (small_calls _ 2 (by decide) (by decide) small_two _ (HU.out.below ?_)).mono ?_); (exact hb2.out); rintro e w1 ⟨rfl, hb1⟩; have HB1 := Aside0.mk (below_step hb2.out hb1); have HB41 := Aside0.mk (blk_below HB4.out hb1); have HB21 := Aside0.mk (blk_below B2.out hb1); clear hb1)
  | (go_at_call 48; (with_reducible refine (from_calls 1 (by decide) (by decide) _).mono ?_); rintro e w2 ⟨v2, rfl, hX, hb2'⟩; obtain ⟨s2, A2, n2, c2, rfl, HX⟩ := hX.parts; have HB2 := Aside0.mk (below_step HB1.out hb2'); have B42 := Aside0.mk (blk_below HB41.out hb2'); have B22 := Aside0.mk (blk_below HB21.out hb2'); clear hX hb2')
  | fail)
 have e8 := blk_new w2 (.cells #[.bool s2, .slice A2 n2 c2] 43)
 have HX3 := HX.out.below (below_alloc (Below.refl w2.heap.size w2) (.cells #[.bool s2, .slice A2 n2 c2] 43))
 have HB3 := Aside0.mk (below_alloc HB2.out (.cells #[.bool s2, .slice A2 n2 c2] 43))
 have B43 := Aside0.mk (blk_alloc B42.out (.cells #[.bool s2, .slice A2 n2 c2] 43))
 have B23 := Aside0.mk (blk_alloc B22.out (.cells #[.bool s2, .slice A2 n2 c2] 43))
 have hl8 := blk_lt B42.out
 obtain ⟨W3, hW3⟩ : ∃ W3, w2.alloc (.cells #[.bool s2, .slice A2 n2 c2] 43) = W3 := ⟨_, rfl⟩
 rw [hW3] at e8 HX3 HB3 B43 B23 ⊢
 obtain ⟨g8, hg8⟩ : ∃ g, w2.heap.size = g := ⟨_, rfl⟩
 rw [hg8] at e8 hl8 ⊢
 have HE8 := Aside0.mk (And.intro e8 HX3)
 have HG := Aside0.mk (show w.heap.size ≤ g8 ∧ w.heap.size ≠ g8 ∧ w.heap.size + 1 ≠ g8 from by omega)
 clear e8 HX3 hW3 hg8 hl8 HX HB1 HB2 B42 B22 HB41 HB21
 go_loopg [36] n (fun kq v36 w' => ∃ i : Nat, v36 = .int .i64 i ∧ Aside0 (i + kq = n) ∧ Aside0 (Bx w' g8 (2 ^ i) ∧ Below w.heap.size w w' ∧ w'.heap[w.heap.size]? = some (.cells #[.bool s, .slice A n' c] 43 (0, 0)) ∧ w'.heap[w.heap.size + 1]? = some (.cells #[.bool false, .slice none 0 0] 43 (0, 0))))
 case atStart => exact ⟨0, rfl, ⟨by omega⟩, ⟨⟨s2, A2, n2, c2, HE8.out.1, HE8.out.2⟩, HB3.out, B23.out, B43.out⟩⟩
 case round =>
  obtain ⟨i, rfl, HI, HW⟩ := hrel
  obtain ⟨W, rfl⟩ : ∃ W : World, W = wr := ⟨_, rfl⟩
  clear HE8 HB3 B23 B43
  obtain ⟨so, Ao, no, co, HO⟩ := HW.out.1.parts
  by_cases hi : i < n
  ·have q1 : decide ((i : Int) < (n : Int)) = true := decide_eq_true (by omega)
   have q2 : decide (i < n) = true := decide_eq_true hi
   have hw2 : wrap64 ((i : Int) + 1) = ((i + 1 : Nat) : Int) := by have := HN.out; unfold wrap64; omega
   have HFF := Aside0.mk (show Fit ((2 : Int) ^ i) ∧ Fit 2 ∧ Fit ((2 : Int) ^ i * 2) from ⟨fit_pow (by have := HN.out; omega), Fit.small (by decide) (by decide), by rw [← Int.pow_succ]; exact fit_pow (by have := HN.out; omega)⟩)
   have HIN := Aside0.mk hi
   clear hi
   have k0 : W.cell? ⟨g8, 0, none⟩ = some (.bool so) := blk_cell HO.out.1 0
   have k1 : W.cell? ⟨g8, 1, none⟩ = some (.slice Ao no co) := blk_cell HO.out.1 1
   have k2 : W.cell? ⟨w.heap.size, 0, none⟩ = some (.bool s) := blk_cell HW.out.2.2.1 0
   have k3 : W.cell? ⟨w.heap.size, 1, none⟩ = some (.slice A n' c) := blk_cell HW.out.2.2.1 1
   go_wp2_with (first
    | (go_at_call 75; (with_reducible refine (ftimes_calls W.heap.size so Ao no co s A n' c ((2 : Int) ^ i) 2 _ (blk_new W _) (HO.out.2.below ?_) ((HU.out.below HW.out.2.1).below ?_) HFF.out.1 HFF.out.2.1 HFF.out.2.2).mono ?_); (iterate 2 exact below_alloc (Below.refl _ _) _); rintro e w5 ⟨v5, rfl, hX, hb5⟩; rw [← Int.pow_succ] at hX; obtain ⟨s5, A5, n5, c5, rfl, HX⟩ := hX.parts; have HB5 := Aside0.mk (below_step (below_alloc (Below.refl W.heap.size W) (.cells #[.bool so, .slice Ao no co, .bool s, .slice A n' c] 43)) hb5); have B85 := Aside0.mk (blk_below HO.out.1 HB5.out); have f0 := blk_frozen B85.out 0; have f1 := blk_frozen B85.out 1; have m0 : w5.cell? ⟨g8, 0, none⟩ = some (.bool so) := blk_cell B85.out 0; have m1 : w5.cell? ⟨g8, 1, none⟩ = some (.slice Ao no co) := blk_cell B85.out 1; have hl5 : g8 < w5.heap.size := blk_lt B85.out; clear hX hb5 k0 k1 k2 k3)
    | fail)
   go_roundg (gk - 1)
   case measure => have := HI.out; have := HIN.out; omega
   case rel =>
    have e3 := IntKeep.set2 B85.out s5 A5 n5 c5
    have h1 := HG.out
    refine ⟨i + 1, by first | rw [hw2] | simp, ⟨by have := HI.out; have := HIN.out; omega⟩, ⟨⟨s5, A5, n5, c5, blk_alloc (blk_put (blk_put B85.out 0 _ rfl) 1 _ rfl) _, (HX.out.keep e3).below (below_alloc (Below.refl _ _) _)⟩, ?_, ?_, ?_⟩⟩
    ·exact below_alloc (((below_step HW.out.2.1 HB5.out).setCell (p := ⟨g8, 0, none⟩) h1.1 _).setCell (p := ⟨g8, 1, none⟩) h1.1 _) _
    ·exact blk_alloc (blk_far (blk_far (blk_below HW.out.2.2.1 HB5.out) (p := ⟨g8, 0, none⟩) h1.2.1 _) (p := ⟨g8, 1, none⟩) h1.2.1 _) _
    ·exact blk_alloc (blk_far (blk_far (blk_below HW.out.2.2.2 HB5.out) (p := ⟨g8, 0, none⟩) h1.2.2 _) (p := ⟨g8, 1, none⟩) h1.2.2 _) _
  ·have q1 : decide ((i : Int) < (n : Int)) = false := decide_eq_false (by omega)
   have q2 : decide (i < n) = false := decide_eq_false hi
   have HIN := Aside0.mk (show i = n from by have := HI.out; omega)
   clear hi
   have k0 : W.cell? ⟨g8, 0, none⟩ = some (.bool so) := blk_cell HO.out.1 0
   have k1 : W.cell? ⟨g8, 1, none⟩ = some (.slice Ao no co) := blk_cell HO.out.1 1
   have f0 := blk_frozen HW.out.2.2.2 0
   have f1 := blk_frozen HW.out.2.2.2 1
   have m0 : W.cell? ⟨w.heap.size + 1, 0, none⟩ = some (.bool false) := blk_cell HW.out.2.2.2 0
   have m1 : W.cell? ⟨w.heap.size + 1, 1, none⟩ = some (.slice none 0 0) := blk_cell HW.out.2.2.2 1
   go_wp2
   refine bodyPost_ret (results_ct rfl _ _ (w.heap.size + 1) _ _ _ rfl rfl (blk_put (blk_put HW.out.2.2.2 0 _ rfl) 1 _ rfl)) rfl ?_
   have hend := wi_put HW.out.2.2.2 HW.out.2.1 (by omega) HO.out.2
   rw [HIN.out] at hend
   exact ⟨_, rfl, hend.1, hend.2⟩
end Go.Proofs.Ytjmkccabpnigiaa.P
