import Derived.Test.YtjmkccabpnigiaaQPolyF
import Derived.Test.YtjmkccabpnigiaaQPx1
namespace Go.Proofs.Ytjmkccabpnigiaa.P
open Go.RowKit Go.Proofs.YtjmkccabpnigiaaW.PrintWords Go.Proofs.YtjmkccabpnigiaaW.PrintLast Go.Proofs.YtjmkccabpnigiaaW.PrintMore
attribute [local go_sem] max2_int min2_int max_two min_two max_three min_three max_four min_four
set_option linter.unusedVariables false
set_option linter.unusedSimpArgs false
set_option maxHeartbeats 16000000
set_option maxRecDepth 100000
theorem rfar_f (p : S26) : skymosaicref13_far.f p.f0 p.f1 = some (farP p) := by
 unfold skymosaicref13_far.f farP
 by_cases h1 : p.f0 < -1048576
 ·rw [if_pos h1, decide_eq_true (.inl h1)]
 ·rw [if_neg h1]
  by_cases h2 : p.f0 > 1048576
  ·rw [if_pos h2, decide_eq_true (.inr (.inr (.inl h2)))]
  ·rw [if_neg h2]
   by_cases h3 : p.f1 < -1048576
   ·rw [if_pos h3, decide_eq_true (.inr (.inl h3))]
   ·rw [if_neg h3]
    congr 1
    rw [decide_eq_decide]
    omega
theorem rsign_f (x y : Int) : skymosaicref13_sign.f (x - y) = some (cmp3 x y) := by
 unfold skymosaicref13_sign.f cmp3
 by_cases h1 : x < y
 ·rw [if_pos (by omega), if_pos h1]
 ·rw [if_neg (by omega), if_neg h1]
  by_cases h2 : y < x
  ·rw [if_pos (by omega)]
   first | rw [if_pos h2] | rw [if_neg (by omega)]
  ·rw [if_neg (by omega)]
   first | rw [if_neg h2] | rw [if_pos (by omega)]
theorem rfar_c (p : S26) (u : Bool) (h : farP p = u) (w : World) : Calls Try.prog 19 #[.agg #[.int .i64 p.f0, .int .i64 p.f1]] w fun e w' => e = .returned (.bool u) ∧ Below w.heap.size w w' := by
 subst h
 exact skymosaicref13_far.calls _ _ _ w (rfar_f p)
theorem rbet_calls (a b p : S26) (w : World) : Calls Try.prog 22 #[.agg #[.int .i64 a.f0, .int .i64 a.f1], .agg #[.int .i64 b.f0, .int .i64 b.f1], .agg #[.int .i64 p.f0, .int .i64 p.f1]] w fun e w' => e = .returned (.bool (inBox a b p)) ∧ Below w.heap.size w w' := by
 have hu26 := Try.underlying26
 have h := inBox_form a b p
 unfold mn mx at h
 obtain ⟨m0, h0⟩ : ∃ m, (if b.f0 < a.f0 then b.f0 else a.f0) = m := ⟨_, rfl⟩
 obtain ⟨m1, h1⟩ : ∃ m, (if a.f0 < b.f0 then b.f0 else a.f0) = m := ⟨_, rfl⟩
 obtain ⟨m2, h2⟩ : ∃ m, (if b.f1 < a.f1 then b.f1 else a.f1) = m := ⟨_, rfl⟩
 obtain ⟨m3, h3⟩ : ∃ m, (if a.f1 < b.f1 then b.f1 else a.f1) = m := ⟨_, rfl⟩
 rw [h0, h1, h2, h3] at h
 obtain ⟨d0, e0⟩ : ∃ d, decide (m0 ≤ p.f0) = d := ⟨_, rfl⟩
 obtain ⟨d1, e1⟩ : ∃ d, decide (p.f0 ≤ m1) = d := ⟨_, rfl⟩
 obtain ⟨d2, e2⟩ : ∃ d, decide (m2 ≤ p.f1) = d := ⟨_, rfl⟩
 rw [e0, e1, e2] at h
 have HH := Aside0.mk h
 clear h
 cases d0 <;> cases d1 <;> cases d2 <;>
  (go_enter Try.func22, Try.ntmps22; go_wp2; go_ret; exact ⟨by rw [HH.out]; first | rfl | simp, below_alloc (below_alloc (below_alloc (Below.refl _ _) _) _) _⟩)
theorem rbet_c (a b p : S26) (u : Bool) (h : inBox a b p = u) (w : World) : Calls Try.prog 22 #[.agg #[.int .i64 a.f0, .int .i64 a.f1], .agg #[.int .i64 b.f0, .int .i64 b.f1], .agg #[.int .i64 p.f0, .int .i64 p.f1]] w fun e w' => e = .returned (.bool u) ∧ Below w.heap.size w w' := by
 subst h
 exact rbet_calls a b p w
theorem far3 : ∀ p q r : Bool, p = true ∨ (p = false ∧ q = true) ∨ (p = false ∧ q = false ∧ r = true) ∨ (p = false ∧ q = false ∧ r = false) := by decide
theorem turn_sign {a b c : S26} (h : (farP a || farP b || farP c) = false) : skymosaicref13_sign.f (wrap64 (wrap64 (wrap64 (b.f0 - a.f0) * wrap64 (c.f1 - a.f1)) - wrap64 (wrap64 (b.f1 - a.f1) * wrap64 (c.f0 - a.f0)))) = some (turnP a b c) := by
 rw [turn_form h]
 obtain ⟨⟨ha, hb⟩, hc⟩ : (farP a = false ∧ farP b = false) ∧ farP c = false := by simpa [Bool.or_eq_false_iff] using h
 obtain ⟨a1, a2, a3, a4⟩ := near_pt ha
 obtain ⟨b1, b2, b3, b4⟩ := near_pt hb
 obtain ⟨c1, c2, c3, c4⟩ := near_pt hc
 rw [Go.IntWalk.wrap64_in (b.f0 - a.f0) (by omega), Go.IntWalk.wrap64_in (c.f1 - a.f1) (by omega), Go.IntWalk.wrap64_in (b.f1 - a.f1) (by omega), Go.IntWalk.wrap64_in (c.f0 - a.f0) (by omega)]
 have p1 := prod_small (x := b.f0 - a.f0) (y := c.f1 - a.f1) (by omega) (by omega) (by omega) (by omega)
 have p2 := prod_small (x := b.f1 - a.f1) (y := c.f0 - a.f0) (by omega) (by omega) (by omega) (by omega)
 rw [Go.IntWalk.wrap64_in ((b.f0 - a.f0) * (c.f1 - a.f1)) (by omega), Go.IntWalk.wrap64_in ((b.f1 - a.f1) * (c.f0 - a.f0)) (by omega), Go.IntWalk.wrap64_in _ (by omega), rsign_f]
theorem rturn_calls (a b c : S26) (w : World) : Calls Try.prog 7 #[.agg #[.int .i64 a.f0, .int .i64 a.f1], .agg #[.int .i64 b.f0, .int .i64 b.f1], .agg #[.int .i64 c.f0, .int .i64 c.f1]] w fun e w' => e = .returned (.int .i64 (turnP a b c)) ∧ Below w.heap.size w w' := by
 have hu26 := Try.underlying26
 have HK := Aside0.mk (X3.start a b c w)
 obtain ⟨ua, ha⟩ : ∃ u, farP a = u := ⟨_, rfl⟩
 obtain ⟨ub, hb⟩ : ∃ u, farP b = u := ⟨_, rfl⟩
 obtain ⟨uc, hc⟩ : ∃ u, farP c = u := ⟨_, rfl⟩
 have HS := Aside0.mk (turn_sign (a := a) (b := b) (c := c))
 have HT : Aside0 ((ua || ub || uc) = true → turnP a b c = 0) := ⟨fun h => by unfold turnP; rw [ha, hb, hc, if_pos h]⟩
 rw [ha, hb, hc] at HS
 have HA := Aside0.mk ha
 have HBb := Aside0.mk hb
 have HCc := Aside0.mk hc
 clear ha hb hc
 go_enter Try.func7, Try.ntmps7
 go_upto_region 1 with fail
 obtain ⟨g4, hg4⟩ : ∃ g, w.heap.size = g := ⟨_, rfl⟩
 obtain ⟨g5, hg5⟩ : ∃ g, w.heap.size + 1 = g := ⟨_, rfl⟩
 obtain ⟨g6, hg6⟩ : ∃ g, w.heap.size + 1 + 1 = g := ⟨_, rfl⟩
 obtain ⟨W, hW⟩ : ∃ W, (((w.alloc (.cells #[.int .i64 a.f0, .int .i64 a.f1] 26)).alloc (.cells #[.int .i64 b.f0, .int .i64 b.f1] 26)).alloc (.cells #[.int .i64 c.f0, .int .i64 c.f1] 26)) = W := ⟨_, rfl⟩
 rw [hW, hg6, hg5, hg4] at HK ⊢
 clear hg4 hg5 hg6 hW
 obtain ⟨⟨⟨k40, k41⟩, ⟨k50, k51⟩, ⟨k60, k61⟩⟩, -⟩ := HK.out
 rcases far3 ua ub uc with rfl | ⟨rfl, rfl⟩ | ⟨rfl, rfl, rfl⟩ | ⟨rfl, rfl, rfl⟩
 iterate 3
  go_wp2_with (first
   | (go_at_call 19; (with_reducible first | refine (rfar_c a _ HA.out _).mono ?_ | refine (rfar_c b _ HBb.out _).mono ?_ | refine (rfar_c c _ HCc.out _).mono ?_); rintro e w2 ⟨rfl, hb⟩; replace HK := Aside0.mk (HK.out.step hb); clear hb k40 k41 k50 k51 k60 k61; obtain ⟨⟨⟨k40, k41⟩, ⟨k50, k51⟩, ⟨k60, k61⟩⟩, -⟩ := HK.out)
   | fail)
  go_ret
  exact ⟨by rw [HT.out (by simp)]; rfl, HK.out.2⟩
 go_wp2_with (first
  | (go_at_call 19; (with_reducible first | refine (rfar_c a _ HA.out _).mono ?_ | refine (rfar_c b _ HBb.out _).mono ?_ | refine (rfar_c c _ HCc.out _).mono ?_); rintro e w2 ⟨rfl, hb⟩; replace HK := Aside0.mk (HK.out.step hb); clear hb k40 k41 k50 k51 k60 k61; obtain ⟨⟨⟨k40, k41⟩, ⟨k50, k51⟩, ⟨k60, k61⟩⟩, -⟩ := HK.out)
  | (go_at_call 20; (with_reducible refine (skymosaicref13_sign.calls _ _ _ (HS.out rfl)).mono ?_); rintro e w2 ⟨rfl, hb⟩)
  | fail)
 go_ret
 exact ⟨rfl, below_step HK.out.2 hb.below⟩
theorem mul_wrap (x y : Int) (hx : -1 ≤ x ∧ x ≤ 1) (hy : -1 ≤ y ∧ y ≤ 1) : wrap64 (x * y) = x * y := by
 have p := prod_small (x := x) (y := y) (by omega) (by omega) (by omega) (by omega)
 exact Go.IntWalk.wrap64_in _ (by omega)
def X4 (a b c d : S26) (g4 g5 g6 g7 : Nat) (w0 w : World) : Prop := (Pt w g4 a ∧ Pt w g5 b ∧ Pt w g6 c ∧ Pt w g7 d) ∧ Below w0.heap.size w0 w
theorem X4.step {a b c d : S26} {g4 g5 g6 g7 : Nat} {w0 w w' : World} (h : X4 a b c d g4 g5 g6 g7 w0 w) (hb : Below w.heap.size w w') : X4 a b c d g4 g5 g6 g7 w0 w' :=
 ⟨⟨h.1.1.step hb, h.1.2.1.step hb, h.1.2.2.1.step hb, h.1.2.2.2.step hb⟩, below_step h.2 hb⟩
theorem X4.start (a b c d : S26) (w : World) : X4 a b c d w.heap.size (w.heap.size + 1) (w.heap.size + 1 + 1) (w.heap.size + 1 + 1 + 1) w ((((w.alloc (.cells #[.int .i64 a.f0, .int .i64 a.f1] 26)).alloc (.cells #[.int .i64 b.f0, .int .i64 b.f1] 26)).alloc (.cells #[.int .i64 c.f0, .int .i64 c.f1] 26)).alloc (.cells #[.int .i64 d.f0, .int .i64 d.f1] 26)) :=
 have h := four_boxes w (.cells #[.int .i64 a.f0, .int .i64 a.f1] 26) (.cells #[.int .i64 b.f0, .int .i64 b.f1] 26) (.cells #[.int .i64 c.f0, .int .i64 c.f1] 26) (.cells #[.int .i64 d.f0, .int .i64 d.f1] 26)
 ⟨⟨.of h.1, .of h.2.1, .of h.2.2.1, .of h.2.2.2.1⟩, h.2.2.2.2⟩
theorem far4 : ∀ p q r s : Bool, p = true ∨ (p = false ∧ q = true) ∨ (p = false ∧ q = false ∧ r = true) ∨ (p = false ∧ q = false ∧ r = false ∧ s = true) ∨ (p = false ∧ q = false ∧ r = false ∧ s = false) := by decide
theorem cross_form (a b c d : S26) : crossP a b c d = if (farP a || farP b || farP c || farP d) = true then false else
    ((decide (wrap64 (turnP a b c * turnP a b d) < 0) && decide (wrap64 (turnP c d a * turnP c d b) < 0)) || ((turnP a b c == 0) && inBox a b c) || ((turnP a b d == 0) && inBox a b d) || ((turnP c d a == 0) && inBox c d a) || ((turnP c d b == 0) && inBox c d b)) := by
 have e (x : Int) : decide (x = 0) = (x == 0) := by rw [Bool.eq_iff_iff]; simp
 rw [mul_wrap _ _ (turnP_bound a b c) (turnP_bound a b d), mul_wrap _ _ (turnP_bound c d a) (turnP_bound c d b)]
 unfold crossP hasP
 simp only [Bool.and_comm, e]
theorem rcross_calls (a b c d : S26) (w : World) : Calls Try.prog 9 #[.agg #[.int .i64 a.f0, .int .i64 a.f1], .agg #[.int .i64 b.f0, .int .i64 b.f1], .agg #[.int .i64 c.f0, .int .i64 c.f1], .agg #[.int .i64 d.f0, .int .i64 d.f1]] w fun e w' => e = .returned (.bool (crossP a b c d)) ∧ Below w.heap.size w w' := by
 have hu26 := Try.underlying26
 have hcr := cross_form a b c d
 obtain ⟨ua, ha⟩ : ∃ u, farP a = u := ⟨_, rfl⟩
 obtain ⟨ub, hb⟩ : ∃ u, farP b = u := ⟨_, rfl⟩
 obtain ⟨uc, hc⟩ : ∃ u, farP c = u := ⟨_, rfl⟩
 obtain ⟨ud, hd⟩ : ∃ u, farP d = u := ⟨_, rfl⟩
 rw [ha, hb, hc, hd] at hcr
 have HA := Aside0.mk ha
 have HBb := Aside0.mk hb
 have HCc := Aside0.mk hc
 have HD := Aside0.mk hd
 have HCR := Aside0.mk hcr
 clear ha hb hc hd hcr
 have HK := Aside0.mk (X4.start a b c d w)
 go_enter Try.func9, Try.ntmps9
 go_upto_region 1 with fail
 obtain ⟨g4, hg4⟩ : ∃ g, w.heap.size = g := ⟨_, rfl⟩
 obtain ⟨g5, hg5⟩ : ∃ g, w.heap.size + 1 = g := ⟨_, rfl⟩
 obtain ⟨g6, hg6⟩ : ∃ g, w.heap.size + 1 + 1 = g := ⟨_, rfl⟩
 obtain ⟨g7, hg7⟩ : ∃ g, w.heap.size + 1 + 1 + 1 = g := ⟨_, rfl⟩
 obtain ⟨W, hW⟩ : ∃ W, ((((w.alloc (.cells #[.int .i64 a.f0, .int .i64 a.f1] 26)).alloc (.cells #[.int .i64 b.f0, .int .i64 b.f1] 26)).alloc (.cells #[.int .i64 c.f0, .int .i64 c.f1] 26)).alloc (.cells #[.int .i64 d.f0, .int .i64 d.f1] 26)) = W := ⟨_, rfl⟩
 rw [hW, hg7, hg6, hg5, hg4] at HK ⊢
 clear hg4 hg5 hg6 hg7 hW
 obtain ⟨⟨⟨k40, k41⟩, ⟨k50, k51⟩, ⟨k60, k61⟩, ⟨k70, k71⟩⟩, -⟩ := HK.out
 rcases far4 ua ub uc ud with rfl | ⟨rfl, rfl⟩ | ⟨rfl, rfl, rfl⟩ | ⟨rfl, rfl, rfl, rfl⟩ | ⟨rfl, rfl, rfl, rfl⟩
 iterate 4
  go_wp2_with (first
   | (go_at_call 19; (with_reducible first | refine (rfar_c a _ HA.out _).mono ?_ | refine (rfar_c b _ HBb.out _).mono ?_ | refine (rfar_c c _ HCc.out _).mono ?_ | refine (rfar_c d _ HD.out _).mono ?_); rintro e w2 ⟨rfl, hb⟩; replace HK := Aside0.mk (HK.out.step hb); clear hb k40 k41 k50 k51 k60 k61 k70 k71; obtain ⟨⟨⟨k40, k41⟩, ⟨k50, k51⟩, ⟨k60, k61⟩, ⟨k70, k71⟩⟩, -⟩ := HK.out)
   | fail)
  go_ret
  exact ⟨by rw [HCR.out]; first | rfl | simp, HK.out.2⟩
 go_upto_region 7 with (first
  | (go_at_call 19; (with_reducible first | refine (rfar_c a _ HA.out _).mono ?_ | refine (rfar_c b _ HBb.out _).mono ?_ | refine (rfar_c c _ HCc.out _).mono ?_ | refine (rfar_c d _ HD.out _).mono ?_); rintro e w2 ⟨rfl, hb⟩; replace HK := Aside0.mk (HK.out.step hb); clear hb k40 k41 k50 k51 k60 k61 k70 k71; obtain ⟨⟨⟨k40, k41⟩, ⟨k50, k51⟩, ⟨k60, k61⟩, ⟨k70, k71⟩⟩, -⟩ := HK.out)
  | (go_at_call 7; (with_reducible refine (rturn_calls _ _ _ _).mono ?_); rintro e w2 ⟨rfl, hb⟩; replace HK := Aside0.mk (HK.out.step hb); clear hb k40 k41 k50 k51 k60 k61 k70 k71; obtain ⟨⟨⟨k40, k41⟩, ⟨k50, k51⟩, ⟨k60, k61⟩, ⟨k70, k71⟩⟩, -⟩ := HK.out)
  | fail)
 have hcr := HCR.out
 rw [if_neg (by decide)] at hcr
 clear HCR
 obtain ⟨e, he⟩ : ∃ x, turnP a b c = x := ⟨_, rfl⟩
 obtain ⟨f, hf⟩ : ∃ x, turnP a b d = x := ⟨_, rfl⟩
 obtain ⟨g, hg⟩ : ∃ x, turnP c d a = x := ⟨_, rfl⟩
 obtain ⟨h, hh⟩ : ∃ x, turnP c d b = x := ⟨_, rfl⟩
 rw [he, hf, hg, hh] at hcr ⊢
 clear he hf hg hh HA HBb HCc HD
 obtain ⟨W2, rfl⟩ : ∃ W2 : World, W2 = w2 := ⟨_, rfl⟩
 obtain ⟨m1, hm1⟩ : ∃ x, decide (wrap64 (e * f) < 0) = x := ⟨_, rfl⟩
 obtain ⟨m2, hm2⟩ : ∃ x, decide (wrap64 (g * h) < 0) = x := ⟨_, rfl⟩
 obtain ⟨q, hq⟩ : ∃ x, (m1 && m2) = x := ⟨_, rfl⟩
 obtain ⟨b1, hb1⟩ : ∃ x, inBox a b c = x := ⟨_, rfl⟩
 obtain ⟨b2, hb2⟩ : ∃ x, inBox a b d = x := ⟨_, rfl⟩
 obtain ⟨b3, hb3⟩ : ∃ x, inBox c d a = x := ⟨_, rfl⟩
 obtain ⟨b4, hb4⟩ : ∃ x, inBox c d b = x := ⟨_, rfl⟩
 rw [hm1, hm2, hq, hb1, hb2, hb3, hb4] at hcr
 have HCR := Aside0.mk hcr
 have B1 := Aside0.mk hb1
 have B2 := Aside0.mk hb2
 have B3 := Aside0.mk hb3
 have B4 := Aside0.mk hb4
 clear hcr hb1 hb2 hb3 hb4
 go_cut [52] (fun s52 w' => s52 = .bool q ∧ w' = W2)
 case first =>
  subst hq
  clear HCR B1 B2 B3 B4 k40 k41 k50 k51 k60 k61 k70 k71
  cases m1 <;> cases m2 <;> (go_wp2; go_meet; exact ⟨rfl, rfl⟩)
 case rest =>
  obtain ⟨rfl, hw⟩ := hcut
  subst hw
  clear hm1 hm2 hq m1 m2
  cases q with
  | true =>
   go_wp2
   go_ret
   exact ⟨by rw [HCR.out]; simp, HK.out.2⟩
  | false =>
   go_wp2_with (first
    | (go_at_call 22; (with_reducible first | refine (rbet_c a b c _ B1.out _).mono ?_ | refine (rbet_c a b d _ B2.out _).mono ?_ | refine (rbet_c c d a _ B3.out _).mono ?_ | refine (rbet_c c d b _ B4.out _).mono ?_); rintro e w2 ⟨rfl, hb⟩; replace HK := Aside0.mk (HK.out.step hb); clear hb k40 k41 k50 k51 k60 k61 k70 k71; obtain ⟨⟨⟨k40, k41⟩, ⟨k50, k51⟩, ⟨k60, k61⟩, ⟨k70, k71⟩⟩, -⟩ := HK.out)
    | fail)
   all_goals (go_ret; exact ⟨by rw [HCR.out]; simp_all, HK.out.2⟩)
theorem pick_total (l : List Int) (i : Int) : ∃ r, skymosaicref01_Pick.f l i 7 = some r := by
 unfold skymosaicref01_Pick.f
 by_cases h1 : i < 0
 ·exact ⟨0, by rw [if_pos h1]⟩
 ·rw [if_neg h1]
  by_cases h2 : i ≥ (l.length : Int)
  ·exact ⟨0, by rw [if_pos h2]⟩
  ·rw [if_neg h2, if_pos (by omega), if_pos (by omega)]
   unfold skymosaicref01_Around.f
   by_cases h3 : rd l i < 0
   ·rw [if_pos h3, if_neg (by decide)]
    exact ⟨_, rfl⟩
   ·rw [if_neg h3, if_neg (by decide)]
    exact ⟨_, rfl⟩
end Go.Proofs.Ytjmkccabpnigiaa.P
