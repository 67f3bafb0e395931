import Derived.Test.YtgmbjgddelcceaaUPx0
import Derived.Test.YtgmbjgddelcceaaUPx9
namespace Go.Proofs.Ytgmbjgddelcceaa.P
open Go.RowKit Go.Proofs.YtgmbjgddelcceaaW.PrintWords Go.Proofs.YtgmbjgddelcceaaW.PrintLast Go.Proofs.YtgmbjgddelcceaaW.PrintMore
attribute [local go_sem] max2_int min2_int max_two min_two max_three min_three max_four min_four   -- for this text's walks alone
set_option linter.unusedVariables false
set_option linter.unusedSimpArgs false
def skymosaicref02_Zigzag.f (a0 : Int) : Option (Int) := if a0 < 0 then (some (IntKind.u64.wrap ((IntKind.u64.wrap (2 * (IntKind.u64.wrap (wrap64 (-(wrap64 (a0 + 1))))))) + 1))) else (some (IntKind.u64.wrap (2 * (IntKind.u64.wrap (a0)))))
set_option maxHeartbeats 8000000 in
set_option maxRecDepth 100000 in
theorem skymosaicref02_Zigzag.calls (a0 : Int) (r : Int) (w : World) (h : skymosaicref02_Zigzag.f a0 = some r) :
    Calls Try.prog 66 #[.int .i64 a0] w fun e w' => e = .returned (.int .u64 r) ∧ Drawn0 w w' := by
  have H : (if a0 < 0 then (some (IntKind.u64.wrap ((IntKind.u64.wrap (2 * (IntKind.u64.wrap (wrap64 (-(wrap64 (a0 + 1))))))) + 1))) else (some (IntKind.u64.wrap (2 * (IntKind.u64.wrap (a0)))))) = some r := h
  clear h
  by_cases c2 : a0 < 0
  · rw [if_pos c2] at H
    have c2b0 : decide (a0 < 0) = true := decide_eq_true c2
    clear c2
    obtain rfl := Option.some.inj H
    go_enter Try.func66, Try.ntmps66
    go_wp2
    go_ret
    exact ⟨by first | rfl | (simp; done) | (simp [*]; done), by repeat (first | exact Drawn0.refl _ | apply Drawn0.step)⟩
  · rw [if_neg c2] at H
    have c2b0 : decide (a0 < 0) = false := decide_eq_false c2
    clear c2
    obtain rfl := Option.some.inj H
    go_enter Try.func66, Try.ntmps66
    go_wp2
    go_ret
    exact ⟨by first | rfl | (simp; done) | (simp [*]; done), by repeat (first | exact Drawn0.refl _ | apply Drawn0.step)⟩
def skymosaicref02_Int.f (k : Nat) (a0 : Int) : Option (List Int) := (skymosaicref02_Zigzag.f a0).bind fun t357 => ((skymosaicref02_Uint.f k t357).bind fun t358 => (some t358))
set_option maxHeartbeats 8000000 in
set_option maxRecDepth 100000 in
theorem skymosaicref02_Int.calls (k : Nat) (a0 : Int) (r : List Int) (w : World) (h : skymosaicref02_Int.f k a0 = some r) :
    Calls Try.prog 48 #[.int .i64 a0] w fun e w' => ∃ v0_ : Value, e = .returned (v0_) ∧ Kd.R (Kd.int .u8) 5 w' w.heap.size (fun _ => True) v0_ r ∧ Below w.heap.size w w' := by
  have HB := Aside0.mk (Below.refl w.heap.size w)
  have H : ((skymosaicref02_Zigzag.f a0).bind fun t357 => ((skymosaicref02_Uint.f k t357).bind fun t358 => (some t358))) = some r := h
  clear h
  replace H := Option.bind_eq_some_iff.mp H
  obtain ⟨t357, A20, H⟩ := H
  replace H : ((skymosaicref02_Uint.f k t357).bind fun t358 => (some t358)) = some r := H
  have A2 := Aside0.mk A20
  clear A20
  replace H := Option.bind_eq_some_iff.mp H
  obtain ⟨t358, A30, H⟩ := H
  replace H : (some t358) = some r := H
  have A3 := Aside0.mk A30
  clear A30
  obtain rfl := Option.some.inj H
  go_enter Try.func48, Try.ntmps48
  go_wp2_with (first | ((with_reducible refine gate_callee (f := 66) rfl ?_); refine goesL_ (some 4) rfl rfl Try.func66 (by kernel_rfl) rfl #[.int .i64 a0] rfl (by (try simp only [List.map_toArray, List.map_cons, List.map_nil]); first | done | rfl | (simp only [List.length_drop, List.length_take]; rfl)) ?_; (with_reducible refine (skymosaicref02_Zigzag.calls a0 t357 _ A2.out).mono ?_); rintro e w' ⟨rfl, ⟨nd, rfl⟩⟩; refine ⟨_, rfl, ?_⟩) | ((with_reducible refine gate_callee (f := 49) rfl ?_); refine goesL_ (some 5) rfl rfl Try.func49 (by kernel_rfl) rfl #[.int .u64 t357] rfl (by (try simp only [List.map_toArray, List.map_cons, List.map_nil]); first | done | rfl | (simp only [List.length_drop, List.length_take]; rfl)) ?_; (with_reducible refine (skymosaicref02_Uint.calls k t357 t358 _ A3.out).mono ?_); rintro e w4 ⟨v359, rfl, ho0, hb⟩; refine ⟨_, rfl, ?_⟩; have n0_ := Aside0.mk (Kd.R_lower ho0 (below_size (by repeat (first | (with_reducible first | exact HB.out | apply below_alloc | apply pw_below_drewN | apply below_drew1) | exact HB.out)))); have n1_ := Aside0.mk (below_step (by repeat (first | (with_reducible first | exact HB.out | apply below_alloc | apply pw_below_drewN | apply below_drew1) | exact HB.out)) hb); clear HB; have HO360 := n0_; have HB := n1_; clear n0_ n1_; (try clear hb); (try clear hb2); (try clear hk); (try clear hi); (try clear ho0)))
  go_ret
  exact ⟨_, by first | rfl | (simp [errW_none, errW_some] <;> rfl) | (simp [*, errW_none, errW_some] <;> rfl), by (with_reducible repeat (first | apply Kd.R_alloc | apply Kd.R_drewN | apply Kd.R_drew)); exact HO360.out, by repeat (first | (with_reducible first | exact HB.out | apply below_alloc | apply pw_below_drewN | apply below_drew1) | exact HB.out)⟩
mutual
def skymosaicref36_Encode.l0 : Nat → List (S74) → List Int → Int → Option (List Int)
  | 0, _, _, _ => none
  | k + 1, x0, x3, x4 => if x4 < (x0.length : Int) then (if 0 ≤ x4 then ((skymosaicref02_Int.f k ((rd_T74 x0 x4).f2)).bind fun t366 => (if x3.length + t366.length < 140737488355328 then ((some (x3 ++ t366 : List Int)).bind fun y369 => ((skymosaicref02_Int.f k ((rd_T74 x0 x4).f3.f0)).bind fun t372 => (if y369.length + t372.length < 140737488355328 then ((some (y369 ++ t372 : List Int)).bind fun y375 => (if ((rd_T74 x0 x4).f3.f0) = (-1) then (skymosaicref36_Encode.l0 k x0 y375 (wrap64 (x4 + 1))) else (skymosaicref36_Encode.l1 k x0 y375 x4 (([(rd_T74 x0 x4).f3.f1, (rd_T74 x0 x4).f3.f2, (rd_T74 x0 x4).f4, (rd_T74 x0 x4).f5] : List Int)) 0 ((rd_T74 x0 x4).f0) ((rd_T74 x0 x4).f1) ((rd_T74 x0 x4).f2) ((rd_T74 x0 x4).f3.f0) ((rd_T74 x0 x4).f3.f1) ((rd_T74 x0 x4).f3.f2) ((rd_T74 x0 x4).f3.f3) ((rd_T74 x0 x4).f4) ((rd_T74 x0 x4).f5)))) else (none)))) else (none))) else (none)) else (some x3)
def skymosaicref36_Encode.l1 : Nat → List (S74) → List Int → Int → List Int → Int → Int → Int → Int → Int → Int → Int → Int → Int → Int → Option (List Int)
  | 0, _, _, _, _, _, _, _, _, _, _, _, _, _, _ => none
  | k + 1, x0, x3, x4, x6, x7, x366000, x366001, x366002, x366003, x366004, x366005, x366006, x366007, x366008 => if x7 < 4 then (if 0 ≤ x7 then (if x7 < (x6.length : Int) then ((skymosaicref02_Int.f k (rd x6 x7)).bind fun t382 => (if x3.length + t382.length < 140737488355328 then (skymosaicref36_Encode.l1 k x0 (x3 ++ t382) x4 x6 (wrap64 (x7 + 1)) x366000 x366001 x366002 x366003 x366004 x366005 x366006 x366007 x366008) else (none))) else (none)) else (none)) else ((skymosaicref02_Uint.f k x366006).bind fun t388 => (if x3.length + t388.length < 140737488355328 then (skymosaicref36_Encode.l0 k x0 (x3 ++ t388) (wrap64 (x4 + 1))) else (none)))
end
def skymosaicref36_Encode.f (k : Nat) (l0 : List (S74)) : Option (List Int) := (skymosaicref02_Int.f k (l0.length : Int)).bind fun t361 => (skymosaicref36_Encode.l0 k l0 t361 0)
set_option maxHeartbeats 8000000 in
set_option maxRecDepth 100000 in
theorem skymosaicref36_Encode.calls (k : Nat) (A0 : Option Addr) (c0 : Nat) (l0 : List (S74)) (r : List Int) (w : World) (hr0 : Kd.C k74 w A0 l0.length l0) (hc0 : l0.length ≤ c0) (h : skymosaicref36_Encode.f k l0 = some r) :
    Calls Try.prog 26 #[.slice A0 l0.length c0] w fun e w' => ∃ v0_ : Value, e = .returned (v0_) ∧ Kd.R (Kd.int .u8) 5 w' w.heap.size (fun _ => True) v0_ r ∧ Below w.heap.size w w' := by
  have hu74 := Try.underlying74
  have HR0 := Aside0.mk hr0
  have HC0 := Aside0.mk hc0
  clear hr0 hc0
  have HB := Aside0.mk (Below.refl w.heap.size w)
  have H : ((skymosaicref02_Int.f k (l0.length : Int)).bind fun t361 => (skymosaicref36_Encode.l0 k l0 t361 0)) = some r := h
  clear h
  replace H := Option.bind_eq_some_iff.mp H
  obtain ⟨t361, A20, H⟩ := H
  replace H : (skymosaicref36_Encode.l0 k l0 t361 0) = some r := H
  have A2 := Aside0.mk A20
  clear A20
  have H' := Aside0.mk H
  clear H
  go_enter Try.func26, Try.ntmps26
  go_wp2_with (first | ((with_reducible refine gate_callee (f := 48) rfl ?_); refine goesL_ (some 10) rfl rfl Try.func48 (by kernel_rfl) rfl #[.int .i64 (l0.length : Int)] rfl (by (try simp only [List.map_toArray, List.map_cons, List.map_nil]); first | done | rfl | (simp only [List.length_drop, List.length_take]; rfl)) ?_; (with_reducible refine (skymosaicref02_Int.calls k (l0.length : Int) t361 _ A2.out).mono ?_); rintro e w3 ⟨v362, rfl, ho0, hb⟩; refine ⟨_, rfl, ?_⟩; have n0_ := Aside0.mk (Kd.R_lower ho0 (below_size (by repeat (first | (with_reducible first | exact HB.out | apply below_alloc | apply pw_below_drewN | apply below_drew1) | exact HB.out)))); have n1_ := Aside0.mk (below_step (by repeat (first | (with_reducible first | exact HB.out | apply below_alloc | apply pw_below_drewN | apply below_drew1) | exact HB.out)) hb); clear HB; have HO363 := n0_; have HB := n1_; clear n0_ n1_; (try clear hb); (try clear hb2); (try clear hk); (try clear hi); (try clear ho0)))
  go_loopg [3, 4] k (fun kq v3 v4 w' => ∃ (x3_1 : List Int) (x4_1 : Int), v4 = .int .i64 x4_1 ∧ Aside0 (skymosaicref36_Encode.l0 kq l0 x3_1 x4_1 = some r) ∧ Aside0 (kq ≤ k) ∧ Aside0 (Kd.R (Kd.int .u8) 5 w' w.heap.size (fun _ => True) v3 x3_1) ∧ Aside0 (Below w.heap.size w w'))
  case atStart => exact ⟨(t361), (0), (by first | rfl | (simp; done) | (simp [*]; done)), H', ⟨Nat.le_refl _⟩, ⟨by (with_reducible repeat (first | apply Kd.R_alloc | apply Kd.R_drewN | apply Kd.R_drew)); exact HO363.out⟩, ⟨by repeat (first | (with_reducible first | exact HB.out | apply below_alloc | apply pw_below_drewN | apply below_drew1) | exact HB.out)⟩⟩
  case round =>
    clear H'
    try clear c2
    try clear p2
    obtain ⟨x3_1, x4_1, rfl, HA, HK1, HO_3, HB⟩ := hrel
    cases gk with
    | zero => exact absurd HA.out (by simp [skymosaicref36_Encode.l0])
    | succ k1 =>
      have H := HA.out
      clear HA
      simp only [skymosaicref36_Encode.l0] at H
      by_cases c4 : x4_1 < (l0.length : Int)
      · rw [if_pos c4] at H
        have c4b0 : decide (x4_1 < (l0.length : Int)) = true := decide_eq_true c4
        clear c4
        by_cases c5 : 0 ≤ x4_1
        · rw [if_pos c5] at H
          have c5b0 : decide (0 ≤ x4_1) = true := decide_eq_true c5
          clear c5
          replace H := Option.bind_eq_some_iff.mp H
          obtain ⟨t366, A60, H⟩ := H
          replace H : (if x3_1.length + t366.length < 140737488355328 then ((some (x3_1 ++ t366 : List Int)).bind fun y369 => ((skymosaicref02_Int.f k1 ((rd_T74 l0 x4_1).f3.f0)).bind fun t372 => (if y369.length + t372.length < 140737488355328 then ((some (y369 ++ t372 : List Int)).bind fun y375 => (if ((rd_T74 l0 x4_1).f3.f0) = (-1) then (skymosaicref36_Encode.l0 k1 l0 y375 (wrap64 (x4_1 + 1))) else (skymosaicref36_Encode.l1 k1 l0 y375 x4_1 (([(rd_T74 l0 x4_1).f3.f1, (rd_T74 l0 x4_1).f3.f2, (rd_T74 l0 x4_1).f4, (rd_T74 l0 x4_1).f5] : List Int)) 0 ((rd_T74 l0 x4_1).f0) ((rd_T74 l0 x4_1).f1) ((rd_T74 l0 x4_1).f2) ((rd_T74 l0 x4_1).f3.f0) ((rd_T74 l0 x4_1).f3.f1) ((rd_T74 l0 x4_1).f3.f2) ((rd_T74 l0 x4_1).f3.f3) ((rd_T74 l0 x4_1).f4) ((rd_T74 l0 x4_1).f5)))) else (none)))) else (none)) = some r := H
          have A6 := Aside0.mk A60
          clear A60
          by_cases c7 : x3_1.length + t366.length < 140737488355328
          · rw [if_pos c7] at H
            have LMc7 := Aside0.mk c7
            clear c7
            obtain ⟨y369, hy369⟩ : ∃ y_ : List Int, y_ = (x3_1 ++ t366) := ⟨_, rfl⟩
            replace H : ((skymosaicref02_Int.f k1 ((rd_T74 l0 x4_1).f3.f0)).bind fun t372 => (if y369.length + t372.length < 140737488355328 then ((some (y369 ++ t372 : List Int)).bind fun y375 => (if ((rd_T74 l0 x4_1).f3.f0) = (-1) then (skymosaicref36_Encode.l0 k1 l0 y375 (wrap64 (x4_1 + 1))) else (skymosaicref36_Encode.l1 k1 l0 y375 x4_1 (([(rd_T74 l0 x4_1).f3.f1, (rd_T74 l0 x4_1).f3.f2, (rd_T74 l0 x4_1).f4, (rd_T74 l0 x4_1).f5] : List Int)) 0 ((rd_T74 l0 x4_1).f0) ((rd_T74 l0 x4_1).f1) ((rd_T74 l0 x4_1).f2) ((rd_T74 l0 x4_1).f3.f0) ((rd_T74 l0 x4_1).f3.f1) ((rd_T74 l0 x4_1).f3.f2) ((rd_T74 l0 x4_1).f3.f3) ((rd_T74 l0 x4_1).f4) ((rd_T74 l0 x4_1).f5)))) else (none))) = some r := by first | (rw [hy369]; with_reducible exact H) | (have H2_ := (Option.bind_some _ _).symm.trans H; rw [hy369]; with_reducible exact H2_) | (have H2_ := (Option.bind_some _ _).symm.trans H; with_reducible exact H2_) | with_reducible exact H | (rw [hy369]; exact H) | exact H
            have Ny369 := Aside0.mk hy369
            clear hy369
            replace H := Option.bind_eq_some_iff.mp H
            obtain ⟨t372, A80, H⟩ := H
            replace H : (if y369.length + t372.length < 140737488355328 then ((some (y369 ++ t372 : List Int)).bind fun y375 => (if ((rd_T74 l0 x4_1).f3.f0) = (-1) then (skymosaicref36_Encode.l0 k1 l0 y375 (wrap64 (x4_1 + 1))) else (skymosaicref36_Encode.l1 k1 l0 y375 x4_1 (([(rd_T74 l0 x4_1).f3.f1, (rd_T74 l0 x4_1).f3.f2, (rd_T74 l0 x4_1).f4, (rd_T74 l0 x4_1).f5] : List Int)) 0 ((rd_T74 l0 x4_1).f0) ((rd_T74 l0 x4_1).f1) ((rd_T74 l0 x4_1).f2) ((rd_T74 l0 x4_1).f3.f0) ((rd_T74 l0 x4_1).f3.f1) ((rd_T74 l0 x4_1).f3.f2) ((rd_T74 l0 x4_1).f3.f3) ((rd_T74 l0 x4_1).f4) ((rd_T74 l0 x4_1).f5)))) else (none)) = some r := H
            have A8 := Aside0.mk A80
            clear A80
            by_cases c9 : y369.length + t372.length < 140737488355328
            · rw [if_pos c9] at H
              have LMc9 := Aside0.mk c9
              clear c9
              obtain ⟨y375, hy375⟩ : ∃ y_ : List Int, y_ = (y369 ++ t372) := ⟨_, rfl⟩
              replace H : (if ((rd_T74 l0 x4_1).f3.f0) = (-1) then (skymosaicref36_Encode.l0 k1 l0 y375 (wrap64 (x4_1 + 1))) else (skymosaicref36_Encode.l1 k1 l0 y375 x4_1 (([(rd_T74 l0 x4_1).f3.f1, (rd_T74 l0 x4_1).f3.f2, (rd_T74 l0 x4_1).f4, (rd_T74 l0 x4_1).f5] : List Int)) 0 ((rd_T74 l0 x4_1).f0) ((rd_T74 l0 x4_1).f1) ((rd_T74 l0 x4_1).f2) ((rd_T74 l0 x4_1).f3.f0) ((rd_T74 l0 x4_1).f3.f1) ((rd_T74 l0 x4_1).f3.f2) ((rd_T74 l0 x4_1).f3.f3) ((rd_T74 l0 x4_1).f4) ((rd_T74 l0 x4_1).f5))) = some r := by first | (rw [hy375]; with_reducible exact H) | (have H2_ := (Option.bind_some _ _).symm.trans H; rw [hy375]; with_reducible exact H2_) | (have H2_ := (Option.bind_some _ _).symm.trans H; with_reducible exact H2_) | with_reducible exact H | (rw [hy375]; exact H) | exact H
              have Ny375 := Aside0.mk hy375
              clear hy375
              by_cases c10 : ((rd_T74 l0 x4_1).f3.f0) = (-1)
              · rw [if_pos c10] at H
                have c10b0 : (((rd_T74 l0 x4_1).f3.f0) == (-1)) = true := beq_iff_eq.mpr c10
                have c10b1 : (((rd_T74 l0 x4_1).f3.f0) != (-1)) = false := bne_eq_false_iff_eq.mpr c10
                clear c10
                have H' := Aside0.mk H
                clear H
                have p364 : 0 ≤ (x4_1 : Int) := of_decide_eq_true (by first | (with_reducible assumption) | assumption)
                have q364 : x4_1 < (l0.length : Int) := of_decide_eq_true (by first | (with_reducible assumption) | assumption)
                obtain ⟨ad364, e364, hx364_0, hx364_1, hx364_2, hx364_3, hx364_4, hx364_5, hx364_6, hx364_7, hx364_8⟩ := at_T74 HR0.out x4_1 p364 q364
                cases e364
                replace hx364_0 := (HB.out.cell (World.block_lt_of_cell? w _ hx364_0)).trans hx364_0
                replace hx364_1 := (HB.out.cell (World.block_lt_of_cell? w _ hx364_1)).trans hx364_1
                replace hx364_2 := (HB.out.cell (World.block_lt_of_cell? w _ hx364_2)).trans hx364_2
                replace hx364_3 := (HB.out.cell (World.block_lt_of_cell? w _ hx364_3)).trans hx364_3
                replace hx364_4 := (HB.out.cell (World.block_lt_of_cell? w _ hx364_4)).trans hx364_4
                replace hx364_5 := (HB.out.cell (World.block_lt_of_cell? w _ hx364_5)).trans hx364_5
                replace hx364_6 := (HB.out.cell (World.block_lt_of_cell? w _ hx364_6)).trans hx364_6
                replace hx364_7 := (HB.out.cell (World.block_lt_of_cell? w _ hx364_7)).trans hx364_7
                replace hx364_8 := (HB.out.cell (World.block_lt_of_cell? w _ hx364_8)).trans hx364_8
                replace p364 := eq_true p364
                replace q364 := eq_true q364
                go_wp2_with (first | ((with_reducible refine gate_dst (N := 5) rfl ?_); refine box_event ?hg (N := 5) ?hd (cs := #[.int .i64 0, .int .i64 0, .int .i64 0, .int .i64 0, .int .i64 0, .int .i64 0, .int .u64 0, .int .i64 0, .int .i64 0]) (t := 74) ?hr ?_; (case hd => rfl); (case hg => rfl); (case hr => first | (go_simp; done) | (go_simp; rfl)); intro gb365 hg w11 hbox hb; have n0_ := Aside0.mk (Kd.R_below (by (with_reducible repeat (first | apply Kd.R_alloc | apply Kd.R_drewN | apply Kd.R_drew)); exact HO_3.out) hb); have n1_ := Aside0.mk (below_step (by repeat (first | (with_reducible first | exact HB.out | apply below_alloc | apply pw_below_drewN | apply below_drew1) | exact HB.out)) hb); have n2_ := Aside0.mk (hbox); have n3_ := Aside0.mk ((by rw [hg]; exact (below_size (by repeat (first | (with_reducible first | exact HB.out | apply below_alloc | apply pw_below_drewN | apply below_drew1) | exact HB.out))) : w.heap.size ≤ gb365)); have n4_ := Aside0.mk ((by rw [hg]; exact (below_size (by repeat (first | (with_reducible first | exact HB.out | apply below_alloc | apply pw_below_drewN | apply below_drew1) | exact HB.out))) : w.heap.size ≤ gb365)); clear HO_3; clear HB; have HO_3 := n0_; have HB := n1_; have BK365 := n2_; have GW365 := n3_; have GE365 := n4_; clear n0_ n1_ n2_ n3_ n4_; clear hb hbox hg; have hcz12_0 : w11.cell? ⟨gb365, 0, none⟩ = some (.int .i64 0) := (blk_cell BK365.out 0).trans rfl; have hcz12_1 : w11.cell? ⟨gb365, 1, none⟩ = some (.int .i64 0) := (blk_cell BK365.out 1).trans rfl; have hcz12_2 : w11.cell? ⟨gb365, 2, none⟩ = some (.int .i64 0) := (blk_cell BK365.out 2).trans rfl; have hcz12_3 : w11.cell? ⟨gb365, 3, none⟩ = some (.int .i64 0) := (blk_cell BK365.out 3).trans rfl; have hcz12_4 : w11.cell? ⟨gb365, 4, none⟩ = some (.int .i64 0) := (blk_cell BK365.out 4).trans rfl; have hcz12_5 : w11.cell? ⟨gb365, 5, none⟩ = some (.int .i64 0) := (blk_cell BK365.out 5).trans rfl; have hcz12_6 : w11.cell? ⟨gb365, 6, none⟩ = some (.int .u64 0) := (blk_cell BK365.out 6).trans rfl; have hcz12_7 : w11.cell? ⟨gb365, 7, none⟩ = some (.int .i64 0) := (blk_cell BK365.out 7).trans rfl; have hcz12_8 : w11.cell? ⟨gb365, 8, none⟩ = some (.int .i64 0) := (blk_cell BK365.out 8).trans rfl; have hfz12_0 := blk_frozen BK365.out 0; have hfz12_1 := blk_frozen BK365.out 1; have hfz12_2 := blk_frozen BK365.out 2; have hfz12_3 := blk_frozen BK365.out 3; have hfz12_4 := blk_frozen BK365.out 4; have hfz12_5 := blk_frozen BK365.out 5; have hfz12_6 := blk_frozen BK365.out 6; have hfz12_7 := blk_frozen BK365.out 7; have hfz12_8 := blk_frozen BK365.out 8) | ((with_reducible refine gate_callee (f := 48) rfl ?_); refine goesL_ (some 24) rfl rfl Try.func48 (by kernel_rfl) rfl #[.int .i64 ((rd_T74 l0 x4_1).f2)] rfl (by (try simp only [List.map_toArray, List.map_cons, List.map_nil]); first | done | rfl | (simp only [List.length_drop, List.length_take]; rfl)) ?_; (with_reducible refine (skymosaicref02_Int.calls k1 ((rd_T74 l0 x4_1).f2) t366 _ A6.out).mono ?_); rintro e w13 ⟨v367, rfl, ho0, hb⟩; refine ⟨_, rfl, ?_⟩; have n0_ := Aside0.mk (Kd.R_elder' (by (with_reducible repeat (first | apply Kd.R_alloc | apply Kd.R_drewN | apply Kd.R_drew)); exact (Kd.R_mono (Kd.R_far (p := ⟨gb365, 8, none⟩) (Kd.R_far (p := ⟨gb365, 7, none⟩) (Kd.R_far (p := ⟨gb365, 6, none⟩) (Kd.R_far (p := ⟨gb365, 5, none⟩) (Kd.R_far (p := ⟨gb365, 4, none⟩) (Kd.R_far (p := ⟨gb365, 3, none⟩) (Kd.R_far (p := ⟨gb365, 2, none⟩) (Kd.R_far (p := ⟨gb365, 1, none⟩) (Kd.R_far (p := ⟨gb365, 0, none⟩) (Kd.R_types HO_3.out BK365.out (by decide)) (fun _ hk => hk.2) (.int .i64 ((rd_T74 l0 x4_1).f0))) (fun _ hk => hk.2) (.int .i64 ((rd_T74 l0 x4_1).f1))) (fun _ hk => hk.2) (.int .i64 ((rd_T74 l0 x4_1).f2))) (fun _ hk => hk.2) (.int .i64 ((rd_T74 l0 x4_1).f3.f0))) (fun _ hk => hk.2) (.int .i64 ((rd_T74 l0 x4_1).f3.f1))) (fun _ hk => hk.2) (.int .i64 ((rd_T74 l0 x4_1).f3.f2))) (fun _ hk => hk.2) (.int .u64 ((rd_T74 l0 x4_1).f3.f3))) (fun _ hk => hk.2) (.int .i64 ((rd_T74 l0 x4_1).f4))) (fun _ hk => hk.2) (.int .i64 ((rd_T74 l0 x4_1).f5))) (fun _ h_ => h_.1))) (Kd.R_base ho0) hb); have n1_ := Aside0.mk (Kd.R_lower (Kd.R_new' ho0 (Kd.R_lt (by (with_reducible repeat (first | apply Kd.R_alloc | apply Kd.R_drewN | apply Kd.R_drew)); exact (Kd.R_mono (Kd.R_far (p := ⟨gb365, 8, none⟩) (Kd.R_far (p := ⟨gb365, 7, none⟩) (Kd.R_far (p := ⟨gb365, 6, none⟩) (Kd.R_far (p := ⟨gb365, 5, none⟩) (Kd.R_far (p := ⟨gb365, 4, none⟩) (Kd.R_far (p := ⟨gb365, 3, none⟩) (Kd.R_far (p := ⟨gb365, 2, none⟩) (Kd.R_far (p := ⟨gb365, 1, none⟩) (Kd.R_far (p := ⟨gb365, 0, none⟩) (Kd.R_types HO_3.out BK365.out (by decide)) (fun _ hk => hk.2) (.int .i64 ((rd_T74 l0 x4_1).f0))) (fun _ hk => hk.2) (.int .i64 ((rd_T74 l0 x4_1).f1))) (fun _ hk => hk.2) (.int .i64 ((rd_T74 l0 x4_1).f2))) (fun _ hk => hk.2) (.int .i64 ((rd_T74 l0 x4_1).f3.f0))) (fun _ hk => hk.2) (.int .i64 ((rd_T74 l0 x4_1).f3.f1))) (fun _ hk => hk.2) (.int .i64 ((rd_T74 l0 x4_1).f3.f2))) (fun _ hk => hk.2) (.int .u64 ((rd_T74 l0 x4_1).f3.f3))) (fun _ hk => hk.2) (.int .i64 ((rd_T74 l0 x4_1).f4))) (fun _ hk => hk.2) (.int .i64 ((rd_T74 l0 x4_1).f5))) (fun _ h_ => h_.1))))) (below_size (by repeat (first | (with_reducible first | exact HB.out | apply below_alloc | apply pw_below_drewN | apply below_drew1 | refine below_set ?_ GE365.out) | exact HB.out)))); have n2_ := Aside0.mk (blk_below (g := gb365) (o := .cells #[.int .i64 ((rd_T74 l0 x4_1).f0), .int .i64 ((rd_T74 l0 x4_1).f1), .int .i64 ((rd_T74 l0 x4_1).f2), .int .i64 ((rd_T74 l0 x4_1).f3.f0), .int .i64 ((rd_T74 l0 x4_1).f3.f1), .int .i64 ((rd_T74 l0 x4_1).f3.f2), .int .u64 ((rd_T74 l0 x4_1).f3.f3), .int .i64 ((rd_T74 l0 x4_1).f4), .int .i64 ((rd_T74 l0 x4_1).f5)] 74 (0, 0)) (by (with_reducible repeat (first | refine blk_drewN ?_ _ | refine blk_drew ?_ | refine blk_alloc ?_ _)); refine blk_put (cs := #[.int .i64 ((rd_T74 l0 x4_1).f0), .int .i64 ((rd_T74 l0 x4_1).f1), .int .i64 ((rd_T74 l0 x4_1).f2), .int .i64 ((rd_T74 l0 x4_1).f3.f0), .int .i64 ((rd_T74 l0 x4_1).f3.f1), .int .i64 ((rd_T74 l0 x4_1).f3.f2), .int .u64 ((rd_T74 l0 x4_1).f3.f3), .int .i64 ((rd_T74 l0 x4_1).f4), .int .i64 0]) ?_ 8 _ rfl; (with_reducible repeat (first | refine blk_drewN ?_ _ | refine blk_drew ?_ | refine blk_alloc ?_ _)); refine blk_put (cs := #[.int .i64 ((rd_T74 l0 x4_1).f0), .int .i64 ((rd_T74 l0 x4_1).f1), .int .i64 ((rd_T74 l0 x4_1).f2), .int .i64 ((rd_T74 l0 x4_1).f3.f0), .int .i64 ((rd_T74 l0 x4_1).f3.f1), .int .i64 ((rd_T74 l0 x4_1).f3.f2), .int .u64 ((rd_T74 l0 x4_1).f3.f3), .int .i64 0, .int .i64 0]) ?_ 7 _ rfl; (with_reducible repeat (first | refine blk_drewN ?_ _ | refine blk_drew ?_ | refine blk_alloc ?_ _)); refine blk_put (cs := #[.int .i64 ((rd_T74 l0 x4_1).f0), .int .i64 ((rd_T74 l0 x4_1).f1), .int .i64 ((rd_T74 l0 x4_1).f2), .int .i64 ((rd_T74 l0 x4_1).f3.f0), .int .i64 ((rd_T74 l0 x4_1).f3.f1), .int .i64 ((rd_T74 l0 x4_1).f3.f2), .int .u64 0, .int .i64 0, .int .i64 0]) ?_ 6 _ rfl; (with_reducible repeat (first | refine blk_drewN ?_ _ | refine blk_drew ?_ | refine blk_alloc ?_ _)); refine blk_put (cs := #[.int .i64 ((rd_T74 l0 x4_1).f0), .int .i64 ((rd_T74 l0 x4_1).f1), .int .i64 ((rd_T74 l0 x4_1).f2), .int .i64 ((rd_T74 l0 x4_1).f3.f0), .int .i64 ((rd_T74 l0 x4_1).f3.f1), .int .i64 0, .int .u64 0, .int .i64 0, .int .i64 0]) ?_ 5 _ rfl; (with_reducible repeat (first | refine blk_drewN ?_ _ | refine blk_drew ?_ | refine blk_alloc ?_ _)); refine blk_put (cs := #[.int .i64 ((rd_T74 l0 x4_1).f0), .int .i64 ((rd_T74 l0 x4_1).f1), .int .i64 ((rd_T74 l0 x4_1).f2), .int .i64 ((rd_T74 l0 x4_1).f3.f0), .int .i64 0, .int .i64 0, .int .u64 0, .int .i64 0, .int .i64 0]) ?_ 4 _ rfl; (with_reducible repeat (first | refine blk_drewN ?_ _ | refine blk_drew ?_ | refine blk_alloc ?_ _)); refine blk_put (cs := #[.int .i64 ((rd_T74 l0 x4_1).f0), .int .i64 ((rd_T74 l0 x4_1).f1), .int .i64 ((rd_T74 l0 x4_1).f2), .int .i64 0, .int .i64 0, .int .i64 0, .int .u64 0, .int .i64 0, .int .i64 0]) ?_ 3 _ rfl; (with_reducible repeat (first | refine blk_drewN ?_ _ | refine blk_drew ?_ | refine blk_alloc ?_ _)); refine blk_put (cs := #[.int .i64 ((rd_T74 l0 x4_1).f0), .int .i64 ((rd_T74 l0 x4_1).f1), .int .i64 0, .int .i64 0, .int .i64 0, .int .i64 0, .int .u64 0, .int .i64 0, .int .i64 0]) ?_ 2 _ rfl; (with_reducible repeat (first | refine blk_drewN ?_ _ | refine blk_drew ?_ | refine blk_alloc ?_ _)); refine blk_put (cs := #[.int .i64 ((rd_T74 l0 x4_1).f0), .int .i64 0, .int .i64 0, .int .i64 0, .int .i64 0, .int .i64 0, .int .u64 0, .int .i64 0, .int .i64 0]) ?_ 1 _ rfl; (with_reducible repeat (first | refine blk_drewN ?_ _ | refine blk_drew ?_ | refine blk_alloc ?_ _)); refine blk_put (cs := #[.int .i64 0, .int .i64 0, .int .i64 0, .int .i64 0, .int .i64 0, .int .i64 0, .int .u64 0, .int .i64 0, .int .i64 0]) ?_ 0 _ rfl; (with_reducible repeat (first | refine blk_drewN ?_ _ | refine blk_drew ?_ | refine blk_alloc ?_ _)); exact BK365.out) hb); have n3_ := Aside0.mk (below_step (by repeat (first | (with_reducible first | exact HB.out | apply below_alloc | apply pw_below_drewN | apply below_drew1 | refine below_set ?_ GE365.out) | exact HB.out)) hb); clear HO_3; clear BK365; clear HB; have HO_3 := n0_; have HO368 := n1_; have BK365 := n2_; have HB := n3_; clear n0_ n1_ n2_ n3_; (try clear hb); (try clear hb2); (try clear hk); (try clear hi); (try clear ho0); obtain ⟨Ao15, co15, eo15⟩ := Kd.R_slice HO368.out; subst eo15) | ((with_reducible refine gate_builtin (b := .append) (xs := #[.tmp 21, .tmp 24]) rfl ?_); at_builtin; refine Kd.R_append_rows (Kd.int .u8) (w0 := w) w.heap.size rfl (.tmp 21) (.tmp 24) 51 5 (.int .u8 0) 1 rfl Try.underlying51 info5 rfl (by decide) (by omega) u3 x3_1 t366 _ _ _ (fun k_ => some k_ ≠ (.slice Ao15 t366.length co15 : Value).ownBlock) (fun _ => False) rfl rfl ?aO ?aR (fun _ _ h => h) (fun _ h => h.elim) ?aF ?aB ?aS ?aL ?_; (case aR => repeat (first | exact (Kd.R_reads' HO368.out).2.2 | (with_reducible refine Kd.C_alloc ?_ _) | (with_reducible refine Kd.C_drewN ?_ _) | (with_reducible refine Kd.C_drew ?_))); (case aB => exact (by repeat (first | (with_reducible first | exact HB.out | apply below_alloc | apply pw_below_drewN | apply below_drew1 | refine below_set ?_ GE365.out) | exact HB.out))); (case aF => exact (fun k_ hk => Kd.fresh' (Kd.R_lt (by (with_reducible repeat (first | apply Kd.R_alloc | apply Kd.R_drewN | apply Kd.R_drew)); exact HO368.out)) k_ hk)); (case aO => exact (by (with_reducible repeat (first | apply Kd.R_alloc | apply Kd.R_drewN | apply Kd.R_drew)); exact Kd.R_mono HO_3.out (fun _ hk => hk.2))); (case aS => exact (below_size (by repeat (first | (with_reducible first | exact HB.out | apply below_alloc | apply pw_below_drewN | apply below_drew1 | refine below_set ?_ GE365.out) | exact HB.out)))); (case aL => have := LMc7.out; omega); intro v370 w14 ho hb hg hat; rw [← Ny369.out] at ho; have n0_ := Aside0.mk (blk_grown (g := gb365) (o := .cells #[.int .i64 ((rd_T74 l0 x4_1).f0), .int .i64 ((rd_T74 l0 x4_1).f1), .int .i64 ((rd_T74 l0 x4_1).f2), .int .i64 ((rd_T74 l0 x4_1).f3.f0), .int .i64 ((rd_T74 l0 x4_1).f3.f1), .int .i64 ((rd_T74 l0 x4_1).f3.f2), .int .u64 ((rd_T74 l0 x4_1).f3.f3), .int .i64 ((rd_T74 l0 x4_1).f4), .int .i64 ((rd_T74 l0 x4_1).f5)] 74 (0, 0)) (by (with_reducible repeat (first | refine blk_drewN ?_ _ | refine blk_drew ?_ | refine blk_alloc ?_ _)); exact BK365.out) hg (Kd.R_ne HO_3.out BK365.out (by decide))); have n1_ := Aside0.mk (Kd.R_after (ok := (fun _ => True)) (by (with_reducible repeat (first | apply Kd.R_alloc | apply Kd.R_drewN | apply Kd.R_drew)); exact HO368.out) hg hat); have n2_ := Aside0.mk (hb); have n3_ := Aside0.mk (ho); clear BK365; clear HO368; clear HB; clear HO_3; have BK365 := n0_; have HO368 := n1_; have HB := n2_; have HO371 := n3_; clear n0_ n1_ n2_ n3_; clear ho hb hg hat; have hcz16_0 : w14.cell? ⟨gb365, 0, none⟩ = some (.int .i64 ((rd_T74 l0 x4_1).f0)) := (blk_cell BK365.out 0).trans rfl; have hcz16_1 : w14.cell? ⟨gb365, 1, none⟩ = some (.int .i64 ((rd_T74 l0 x4_1).f1)) := (blk_cell BK365.out 1).trans rfl; have hcz16_2 : w14.cell? ⟨gb365, 2, none⟩ = some (.int .i64 ((rd_T74 l0 x4_1).f2)) := (blk_cell BK365.out 2).trans rfl; have hcz16_3 : w14.cell? ⟨gb365, 3, none⟩ = some (.int .i64 ((rd_T74 l0 x4_1).f3.f0)) := (blk_cell BK365.out 3).trans rfl; have hcz16_4 : w14.cell? ⟨gb365, 4, none⟩ = some (.int .i64 ((rd_T74 l0 x4_1).f3.f1)) := (blk_cell BK365.out 4).trans rfl; have hcz16_5 : w14.cell? ⟨gb365, 5, none⟩ = some (.int .i64 ((rd_T74 l0 x4_1).f3.f2)) := (blk_cell BK365.out 5).trans rfl; have hcz16_6 : w14.cell? ⟨gb365, 6, none⟩ = some (.int .u64 ((rd_T74 l0 x4_1).f3.f3)) := (blk_cell BK365.out 6).trans rfl; have hcz16_7 : w14.cell? ⟨gb365, 7, none⟩ = some (.int .i64 ((rd_T74 l0 x4_1).f4)) := (blk_cell BK365.out 7).trans rfl; have hcz16_8 : w14.cell? ⟨gb365, 8, none⟩ = some (.int .i64 ((rd_T74 l0 x4_1).f5)) := (blk_cell BK365.out 8).trans rfl; have hfz16_0 := blk_frozen BK365.out 0; have hfz16_1 := blk_frozen BK365.out 1; have hfz16_2 := blk_frozen BK365.out 2; have hfz16_3 := blk_frozen BK365.out 3; have hfz16_4 := blk_frozen BK365.out 4; have hfz16_5 := blk_frozen BK365.out 5; have hfz16_6 := blk_frozen BK365.out 6; have hfz16_7 := blk_frozen BK365.out 7; have hfz16_8 := blk_frozen BK365.out 8) | ((with_reducible refine gate_callee (f := 48) rfl ?_); refine goesL_ (some 30) rfl rfl Try.func48 (by kernel_rfl) rfl #[.int .i64 ((rd_T74 l0 x4_1).f3.f0)] rfl (by (try simp only [List.map_toArray, List.map_cons, List.map_nil]); first | done | rfl | (simp only [List.length_drop, List.length_take]; rfl)) ?_; (with_reducible refine (skymosaicref02_Int.calls k1 ((rd_T74 l0 x4_1).f3.f0) t372 _ A8.out).mono ?_); rintro e w17 ⟨v373, rfl, ho0, hb⟩; refine ⟨_, rfl, ?_⟩; have n0_ := Aside0.mk (Kd.R_elder' (by (with_reducible repeat (first | apply Kd.R_alloc | apply Kd.R_drewN | apply Kd.R_drew)); exact HO368.out) (Kd.R_base ho0) hb); have n1_ := Aside0.mk (Kd.R_elder' (by (with_reducible repeat (first | apply Kd.R_alloc | apply Kd.R_drewN | apply Kd.R_drew)); exact HO371.out) (Kd.R_base ho0) hb); have n2_ := Aside0.mk (Kd.R_lower (Kd.R_new' (Kd.R_new' ho0 (Kd.R_lt (by (with_reducible repeat (first | apply Kd.R_alloc | apply Kd.R_drewN | apply Kd.R_drew)); exact HO368.out))) (Kd.R_lt (by (with_reducible repeat (first | apply Kd.R_alloc | apply Kd.R_drewN | apply Kd.R_drew)); exact HO371.out))) (below_size (by repeat (first | (with_reducible first | exact HB.out | apply below_alloc | apply pw_below_drewN | apply below_drew1 | refine below_set ?_ GE365.out) | exact HB.out)))); have n3_ := Aside0.mk (blk_below (g := gb365) (o := .cells #[.int .i64 ((rd_T74 l0 x4_1).f0), .int .i64 ((rd_T74 l0 x4_1).f1), .int .i64 ((rd_T74 l0 x4_1).f2), .int .i64 ((rd_T74 l0 x4_1).f3.f0), .int .i64 ((rd_T74 l0 x4_1).f3.f1), .int .i64 ((rd_T74 l0 x4_1).f3.f2), .int .u64 ((rd_T74 l0 x4_1).f3.f3), .int .i64 ((rd_T74 l0 x4_1).f4), .int .i64 ((rd_T74 l0 x4_1).f5)] 74 (0, 0)) (by (with_reducible repeat (first | refine blk_drewN ?_ _ | refine blk_drew ?_ | refine blk_alloc ?_ _)); exact BK365.out) hb); have n4_ := Aside0.mk (below_step (by repeat (first | (with_reducible first | exact HB.out | apply below_alloc | apply pw_below_drewN | apply below_drew1 | refine below_set ?_ GE365.out) | exact HB.out)) hb); clear HO368; clear HO371; clear BK365; clear HB; have HO368 := n0_; have HO371 := n1_; have HO374 := n2_; have BK365 := n3_; have HB := n4_; clear n0_ n1_ n2_ n3_ n4_; (try clear hb); (try clear hb2); (try clear hk); (try clear hi); (try clear ho0); obtain ⟨Ao19, co19, eo19⟩ := Kd.R_slice HO374.out; subst eo19) | ((with_reducible refine gate_builtin (b := .append) (xs := #[.tmp 26, .tmp 30]) rfl ?_); at_builtin; refine Kd.R_append_rows (Kd.int .u8) (w0 := w) w.heap.size rfl (.tmp 26) (.tmp 30) 51 5 (.int .u8 0) 1 rfl Try.underlying51 info5 rfl (by decide) (by omega) v370 y369 t372 _ _ _ (fun k_ => some k_ ≠ (.slice Ao15 t366.length co15 : Value).ownBlock ∧ some k_ ≠ (.slice Ao19 t372.length co19 : Value).ownBlock) (fun _ => False) rfl rfl ?aO ?aR (fun _ _ h => h) (fun _ h => h.elim) ?aF ?aB ?aS ?aL ?_; (case aR => repeat (first | exact (Kd.R_reads' HO374.out).2.2 | (with_reducible refine Kd.C_alloc ?_ _) | (with_reducible refine Kd.C_drewN ?_ _) | (with_reducible refine Kd.C_drew ?_))); (case aB => exact (by repeat (first | (with_reducible first | exact HB.out | apply below_alloc | apply pw_below_drewN | apply below_drew1 | refine below_set ?_ GE365.out) | exact HB.out))); (case aF => exact (fun k_ hk => ⟨Kd.fresh' (Kd.R_lt (by (with_reducible repeat (first | apply Kd.R_alloc | apply Kd.R_drewN | apply Kd.R_drew)); exact HO368.out)) k_ hk, Kd.fresh' (Kd.R_lt (by (with_reducible repeat (first | apply Kd.R_alloc | apply Kd.R_drewN | apply Kd.R_drew)); exact HO374.out)) k_ hk⟩)); (case aO => exact (by (with_reducible repeat (first | apply Kd.R_alloc | apply Kd.R_drewN | apply Kd.R_drew)); exact HO371.out)); (case aS => exact (below_size (by repeat (first | (with_reducible first | exact HB.out | apply below_alloc | apply pw_below_drewN | apply below_drew1 | refine below_set ?_ GE365.out) | exact HB.out)))); (case aL => have := LMc9.out; omega); intro v376 w18 ho hb hg hat; rw [← Ny375.out] at ho; have n0_ := Aside0.mk (blk_grown (g := gb365) (o := .cells #[.int .i64 ((rd_T74 l0 x4_1).f0), .int .i64 ((rd_T74 l0 x4_1).f1), .int .i64 ((rd_T74 l0 x4_1).f2), .int .i64 ((rd_T74 l0 x4_1).f3.f0), .int .i64 ((rd_T74 l0 x4_1).f3.f1), .int .i64 ((rd_T74 l0 x4_1).f3.f2), .int .u64 ((rd_T74 l0 x4_1).f3.f3), .int .i64 ((rd_T74 l0 x4_1).f4), .int .i64 ((rd_T74 l0 x4_1).f5)] 74 (0, 0)) (by (with_reducible repeat (first | refine blk_drewN ?_ _ | refine blk_drew ?_ | refine blk_alloc ?_ _)); exact BK365.out) hg (Kd.R_ne HO371.out BK365.out (by decide))); have n1_ := Aside0.mk (Kd.R_after (ok := (fun k_ => some k_ ≠ (.slice Ao19 t372.length co19 : Value).ownBlock)) (by (with_reducible repeat (first | apply Kd.R_alloc | apply Kd.R_drewN | apply Kd.R_drew)); exact Kd.R_mono HO368.out (fun _ hk => ⟨hk.2, hk.1.2⟩)) hg hat); have n2_ := Aside0.mk (Kd.R_after (ok := (fun k_ => some k_ ≠ (.slice Ao15 t366.length co15 : Value).ownBlock)) (by (with_reducible repeat (first | apply Kd.R_alloc | apply Kd.R_drewN | apply Kd.R_drew)); exact Kd.R_mono HO374.out (fun _ hk => ⟨hk.1.2, hk.2⟩)) hg hat); have n3_ := Aside0.mk (hb); have n4_ := Aside0.mk (ho); clear BK365; clear HO368; clear HO374; clear HB; clear HO371; have BK365 := n0_; have HO368 := n1_; have HO374 := n2_; have HB := n3_; have HO377 := n4_; clear n0_ n1_ n2_ n3_ n4_; clear ho hb hg hat; have hcz20_0 : w18.cell? ⟨gb365, 0, none⟩ = some (.int .i64 ((rd_T74 l0 x4_1).f0)) := (blk_cell BK365.out 0).trans rfl; have hcz20_1 : w18.cell? ⟨gb365, 1, none⟩ = some (.int .i64 ((rd_T74 l0 x4_1).f1)) := (blk_cell BK365.out 1).trans rfl; have hcz20_2 : w18.cell? ⟨gb365, 2, none⟩ = some (.int .i64 ((rd_T74 l0 x4_1).f2)) := (blk_cell BK365.out 2).trans rfl; have hcz20_3 : w18.cell? ⟨gb365, 3, none⟩ = some (.int .i64 ((rd_T74 l0 x4_1).f3.f0)) := (blk_cell BK365.out 3).trans rfl; have hcz20_4 : w18.cell? ⟨gb365, 4, none⟩ = some (.int .i64 ((rd_T74 l0 x4_1).f3.f1)) := (blk_cell BK365.out 4).trans rfl; have hcz20_5 : w18.cell? ⟨gb365, 5, none⟩ = some (.int .i64 ((rd_T74 l0 x4_1).f3.f2)) := (blk_cell BK365.out 5).trans rfl; have hcz20_6 : w18.cell? ⟨gb365, 6, none⟩ = some (.int .u64 ((rd_T74 l0 x4_1).f3.f3)) := (blk_cell BK365.out 6).trans rfl; have hcz20_7 : w18.cell? ⟨gb365, 7, none⟩ = some (.int .i64 ((rd_T74 l0 x4_1).f4)) := (blk_cell BK365.out 7).trans rfl; have hcz20_8 : w18.cell? ⟨gb365, 8, none⟩ = some (.int .i64 ((rd_T74 l0 x4_1).f5)) := (blk_cell BK365.out 8).trans rfl; have hfz20_0 := blk_frozen BK365.out 0; have hfz20_1 := blk_frozen BK365.out 1; have hfz20_2 := blk_frozen BK365.out 2; have hfz20_3 := blk_frozen BK365.out 3; have hfz20_4 := blk_frozen BK365.out 4; have hfz20_5 := blk_frozen BK365.out 5; have hfz20_6 := blk_frozen BK365.out 6; have hfz20_7 := blk_frozen BK365.out 7; have hfz20_8 := blk_frozen BK365.out 8))
                go_roundg k1
                case measure => have := HK1.out; omega
                case rel => exact ⟨(y375), (wrap64 (x4_1 + 1)), (by first | rfl | (simp; done) | (simp [*]; done)), H', ⟨by have := HK1.out; omega⟩, ⟨by (with_reducible repeat (first | apply Kd.R_alloc | apply Kd.R_drewN | apply Kd.R_drew)); exact Kd.R_mono HO377.out (fun _ hk => trivial)⟩, ⟨by repeat (first | (with_reducible first | exact HB.out | apply below_alloc | apply pw_below_drewN | apply below_drew1 | refine below_set ?_ GE365.out) | exact HB.out)⟩⟩
              · rw [if_neg c10] at H
                have c10b0 : (((rd_T74 l0 x4_1).f3.f0) == (-1)) = false := beq_eq_false_iff_ne.mpr c10
                have c10b1 : (((rd_T74 l0 x4_1).f3.f0) != (-1)) = true := bne_iff_ne.mpr c10
                obtain ⟨y378, hy378⟩ : ∃ y_ : List Int, y_ = (([(rd_T74 l0 x4_1).f3.f1, (rd_T74 l0 x4_1).f3.f2, (rd_T74 l0 x4_1).f4, (rd_T74 l0 x4_1).f5] : List Int)) := ⟨_, rfl⟩
                replace H : (skymosaicref36_Encode.l1 k1 l0 y375 x4_1 y378 0 ((rd_T74 l0 x4_1).f0) ((rd_T74 l0 x4_1).f1) ((rd_T74 l0 x4_1).f2) ((rd_T74 l0 x4_1).f3.f0) ((rd_T74 l0 x4_1).f3.f1) ((rd_T74 l0 x4_1).f3.f2) ((rd_T74 l0 x4_1).f3.f3) ((rd_T74 l0 x4_1).f4) ((rd_T74 l0 x4_1).f5)) = some r := by first | (rw [hy378]; with_reducible exact H) | (have H2_ := (Option.bind_some _ _).symm.trans H; rw [hy378]; with_reducible exact H2_) | (have H2_ := (Option.bind_some _ _).symm.trans H; with_reducible exact H2_) | with_reducible exact H | (rw [hy378]; exact H) | exact H
                have Ny378 := Aside0.mk hy378
                clear hy378
                have H' := Aside0.mk H
                clear H
                have p364 : 0 ≤ (x4_1 : Int) := of_decide_eq_true (by first | (with_reducible assumption) | assumption)
                have q364 : x4_1 < (l0.length : Int) := of_decide_eq_true (by first | (with_reducible assumption) | assumption)
                obtain ⟨ad364, e364, hx364_0, hx364_1, hx364_2, hx364_3, hx364_4, hx364_5, hx364_6, hx364_7, hx364_8⟩ := at_T74 HR0.out x4_1 p364 q364
                cases e364
                replace hx364_0 := (HB.out.cell (World.block_lt_of_cell? w _ hx364_0)).trans hx364_0
                replace hx364_1 := (HB.out.cell (World.block_lt_of_cell? w _ hx364_1)).trans hx364_1
                replace hx364_2 := (HB.out.cell (World.block_lt_of_cell? w _ hx364_2)).trans hx364_2
                replace hx364_3 := (HB.out.cell (World.block_lt_of_cell? w _ hx364_3)).trans hx364_3
                replace hx364_4 := (HB.out.cell (World.block_lt_of_cell? w _ hx364_4)).trans hx364_4
                replace hx364_5 := (HB.out.cell (World.block_lt_of_cell? w _ hx364_5)).trans hx364_5
                replace hx364_6 := (HB.out.cell (World.block_lt_of_cell? w _ hx364_6)).trans hx364_6
                replace hx364_7 := (HB.out.cell (World.block_lt_of_cell? w _ hx364_7)).trans hx364_7
                replace hx364_8 := (HB.out.cell (World.block_lt_of_cell? w _ hx364_8)).trans hx364_8
                replace p364 := eq_true p364
                replace q364 := eq_true q364
                go_wp2_with (first | ((with_reducible refine gate_dst (N := 5) rfl ?_); refine box_event ?hg (N := 5) ?hd (cs := #[.int .i64 0, .int .i64 0, .int .i64 0, .int .i64 0, .int .i64 0, .int .i64 0, .int .u64 0, .int .i64 0, .int .i64 0]) (t := 74) ?hr ?_; (case hd => rfl); (case hg => rfl); (case hr => first | (go_simp; done) | (go_simp; rfl)); intro gb365 hg w21 hbox hb; have n0_ := Aside0.mk (Kd.R_below (by (with_reducible repeat (first | apply Kd.R_alloc | apply Kd.R_drewN | apply Kd.R_drew)); exact HO_3.out) hb); have n1_ := Aside0.mk (below_step (by repeat (first | (with_reducible first | exact HB.out | apply below_alloc | apply pw_below_drewN | apply below_drew1) | exact HB.out)) hb); have n2_ := Aside0.mk (hbox); have n3_ := Aside0.mk ((by rw [hg]; exact (below_size (by repeat (first | (with_reducible first | exact HB.out | apply below_alloc | apply pw_below_drewN | apply below_drew1) | exact HB.out))) : w.heap.size ≤ gb365)); have n4_ := Aside0.mk ((by rw [hg]; exact (below_size (by repeat (first | (with_reducible first | exact HB.out | apply below_alloc | apply pw_below_drewN | apply below_drew1) | exact HB.out))) : w.heap.size ≤ gb365)); clear HO_3; clear HB; have HO_3 := n0_; have HB := n1_; have BK365 := n2_; have GW365 := n3_; have GE365 := n4_; clear n0_ n1_ n2_ n3_ n4_; clear hb hbox hg; have hcz22_0 : w21.cell? ⟨gb365, 0, none⟩ = some (.int .i64 0) := (blk_cell BK365.out 0).trans rfl; have hcz22_1 : w21.cell? ⟨gb365, 1, none⟩ = some (.int .i64 0) := (blk_cell BK365.out 1).trans rfl; have hcz22_2 : w21.cell? ⟨gb365, 2, none⟩ = some (.int .i64 0) := (blk_cell BK365.out 2).trans rfl; have hcz22_3 : w21.cell? ⟨gb365, 3, none⟩ = some (.int .i64 0) := (blk_cell BK365.out 3).trans rfl; have hcz22_4 : w21.cell? ⟨gb365, 4, none⟩ = some (.int .i64 0) := (blk_cell BK365.out 4).trans rfl; have hcz22_5 : w21.cell? ⟨gb365, 5, none⟩ = some (.int .i64 0) := (blk_cell BK365.out 5).trans rfl; have hcz22_6 : w21.cell? ⟨gb365, 6, none⟩ = some (.int .u64 0) := (blk_cell BK365.out 6).trans rfl; have hcz22_7 : w21.cell? ⟨gb365, 7, none⟩ = some (.int .i64 0) := (blk_cell BK365.out 7).trans rfl; have hcz22_8 : w21.cell? ⟨gb365, 8, none⟩ = some (.int .i64 0) := (blk_cell BK365.out 8).trans rfl; have hfz22_0 := blk_frozen BK365.out 0; have hfz22_1 := blk_frozen BK365.out 1; have hfz22_2 := blk_frozen BK365.out 2; have hfz22_3 := blk_frozen BK365.out 3; have hfz22_4 := blk_frozen BK365.out 4; have hfz22_5 := blk_frozen BK365.out 5; have hfz22_6 := blk_frozen BK365.out 6; have hfz22_7 := blk_frozen BK365.out 7; have hfz22_8 := blk_frozen BK365.out 8) | ((with_reducible refine gate_callee (f := 48) rfl ?_); refine goesL_ (some 24) rfl rfl Try.func48 (by kernel_rfl) rfl #[.int .i64 ((rd_T74 l0 x4_1).f2)] rfl (by (try simp only [List.map_toArray, List.map_cons, List.map_nil]); first | done | rfl | (simp only [List.length_drop, List.length_take]; rfl)) ?_; (with_reducible refine (skymosaicref02_Int.calls k1 ((rd_T74 l0 x4_1).f2) t366 _ A6.out).mono ?_); rintro e w23 ⟨v367, rfl, ho0, hb⟩; refine ⟨_, rfl, ?_⟩; have n0_ := Aside0.mk (Kd.R_elder' (by (with_reducible repeat (first | apply Kd.R_alloc | apply Kd.R_drewN | apply Kd.R_drew)); exact (Kd.R_mono (Kd.R_far (p := ⟨gb365, 8, none⟩) (Kd.R_far (p := ⟨gb365, 7, none⟩) (Kd.R_far (p := ⟨gb365, 6, none⟩) (Kd.R_far (p := ⟨gb365, 5, none⟩) (Kd.R_far (p := ⟨gb365, 4, none⟩) (Kd.R_far (p := ⟨gb365, 3, none⟩) (Kd.R_far (p := ⟨gb365, 2, none⟩) (Kd.R_far (p := ⟨gb365, 1, none⟩) (Kd.R_far (p := ⟨gb365, 0, none⟩) (Kd.R_types HO_3.out BK365.out (by decide)) (fun _ hk => hk.2) (.int .i64 ((rd_T74 l0 x4_1).f0))) (fun _ hk => hk.2) (.int .i64 ((rd_T74 l0 x4_1).f1))) (fun _ hk => hk.2) (.int .i64 ((rd_T74 l0 x4_1).f2))) (fun _ hk => hk.2) (.int .i64 ((rd_T74 l0 x4_1).f3.f0))) (fun _ hk => hk.2) (.int .i64 ((rd_T74 l0 x4_1).f3.f1))) (fun _ hk => hk.2) (.int .i64 ((rd_T74 l0 x4_1).f3.f2))) (fun _ hk => hk.2) (.int .u64 ((rd_T74 l0 x4_1).f3.f3))) (fun _ hk => hk.2) (.int .i64 ((rd_T74 l0 x4_1).f4))) (fun _ hk => hk.2) (.int .i64 ((rd_T74 l0 x4_1).f5))) (fun _ h_ => h_.1))) (Kd.R_base ho0) hb); have n1_ := Aside0.mk (Kd.R_lower (Kd.R_new' ho0 (Kd.R_lt (by (with_reducible repeat (first | apply Kd.R_alloc | apply Kd.R_drewN | apply Kd.R_drew)); exact (Kd.R_mono (Kd.R_far (p := ⟨gb365, 8, none⟩) (Kd.R_far (p := ⟨gb365, 7, none⟩) (Kd.R_far (p := ⟨gb365, 6, none⟩) (Kd.R_far (p := ⟨gb365, 5, none⟩) (Kd.R_far (p := ⟨gb365, 4, none⟩) (Kd.R_far (p := ⟨gb365, 3, none⟩) (Kd.R_far (p := ⟨gb365, 2, none⟩) (Kd.R_far (p := ⟨gb365, 1, none⟩) (Kd.R_far (p := ⟨gb365, 0, none⟩) (Kd.R_types HO_3.out BK365.out (by decide)) (fun _ hk => hk.2) (.int .i64 ((rd_T74 l0 x4_1).f0))) (fun _ hk => hk.2) (.int .i64 ((rd_T74 l0 x4_1).f1))) (fun _ hk => hk.2) (.int .i64 ((rd_T74 l0 x4_1).f2))) (fun _ hk => hk.2) (.int .i64 ((rd_T74 l0 x4_1).f3.f0))) (fun _ hk => hk.2) (.int .i64 ((rd_T74 l0 x4_1).f3.f1))) (fun _ hk => hk.2) (.int .i64 ((rd_T74 l0 x4_1).f3.f2))) (fun _ hk => hk.2) (.int .u64 ((rd_T74 l0 x4_1).f3.f3))) (fun _ hk => hk.2) (.int .i64 ((rd_T74 l0 x4_1).f4))) (fun _ hk => hk.2) (.int .i64 ((rd_T74 l0 x4_1).f5))) (fun _ h_ => h_.1))))) (below_size (by repeat (first | (with_reducible first | exact HB.out | apply below_alloc | apply pw_below_drewN | apply below_drew1 | refine below_set ?_ GE365.out) | exact HB.out)))); have n2_ := Aside0.mk (blk_below (g := gb365) (o := .cells #[.int .i64 ((rd_T74 l0 x4_1).f0), .int .i64 ((rd_T74 l0 x4_1).f1), .int .i64 ((rd_T74 l0 x4_1).f2), .int .i64 ((rd_T74 l0 x4_1).f3.f0), .int .i64 ((rd_T74 l0 x4_1).f3.f1), .int .i64 ((rd_T74 l0 x4_1).f3.f2), .int .u64 ((rd_T74 l0 x4_1).f3.f3), .int .i64 ((rd_T74 l0 x4_1).f4), .int .i64 ((rd_T74 l0 x4_1).f5)] 74 (0, 0)) (by (with_reducible repeat (first | refine blk_drewN ?_ _ | refine blk_drew ?_ | refine blk_alloc ?_ _)); refine blk_put (cs := #[.int .i64 ((rd_T74 l0 x4_1).f0), .int .i64 ((rd_T74 l0 x4_1).f1), .int .i64 ((rd_T74 l0 x4_1).f2), .int .i64 ((rd_T74 l0 x4_1).f3.f0), .int .i64 ((rd_T74 l0 x4_1).f3.f1), .int .i64 ((rd_T74 l0 x4_1).f3.f2), .int .u64 ((rd_T74 l0 x4_1).f3.f3), .int .i64 ((rd_T74 l0 x4_1).f4), .int .i64 0]) ?_ 8 _ rfl; (with_reducible repeat (first | refine blk_drewN ?_ _ | refine blk_drew ?_ | refine blk_alloc ?_ _)); refine blk_put (cs := #[.int .i64 ((rd_T74 l0 x4_1).f0), .int .i64 ((rd_T74 l0 x4_1).f1), .int .i64 ((rd_T74 l0 x4_1).f2), .int .i64 ((rd_T74 l0 x4_1).f3.f0), .int .i64 ((rd_T74 l0 x4_1).f3.f1), .int .i64 ((rd_T74 l0 x4_1).f3.f2), .int .u64 ((rd_T74 l0 x4_1).f3.f3), .int .i64 0, .int .i64 0]) ?_ 7 _ rfl; (with_reducible repeat (first | refine blk_drewN ?_ _ | refine blk_drew ?_ | refine blk_alloc ?_ _)); refine blk_put (cs := #[.int .i64 ((rd_T74 l0 x4_1).f0), .int .i64 ((rd_T74 l0 x4_1).f1), .int .i64 ((rd_T74 l0 x4_1).f2), .int .i64 ((rd_T74 l0 x4_1).f3.f0), .int .i64 ((rd_T74 l0 x4_1).f3.f1), .int .i64 ((rd_T74 l0 x4_1).f3.f2), .int .u64 0, .int .i64 0, .int .i64 0]) ?_ 6 _ rfl; (with_reducible repeat (first | refine blk_drewN ?_ _ | refine blk_drew ?_ | refine blk_alloc ?_ _)); refine blk_put (cs := #[.int .i64 ((rd_T74 l0 x4_1).f0), .int .i64 ((rd_T74 l0 x4_1).f1), .int .i64 ((rd_T74 l0 x4_1).f2), .int .i64 ((rd_T74 l0 x4_1).f3.f0), .int .i64 ((rd_T74 l0 x4_1).f3.f1), .int .i64 0, .int .u64 0, .int .i64 0, .int .i64 0]) ?_ 5 _ rfl; (with_reducible repeat (first | refine blk_drewN ?_ _ | refine blk_drew ?_ | refine blk_alloc ?_ _)); refine blk_put (cs := #[.int .i64 ((rd_T74 l0 x4_1).f0), .int .i64 ((rd_T74 l0 x4_1).f1), .int .i64 ((rd_T74 l0 x4_1).f2), .int .i64 ((rd_T74 l0 x4_1).f3.f0), .int .i64 0, .int .i64 0, .int .u64 0, .int .i64 0, .int .i64 0]) ?_ 4 _ rfl; (with_reducible repeat (first | refine blk_drewN ?_ _ | refine blk_drew ?_ | refine blk_alloc ?_ _)); refine blk_put (cs := #[.int .i64 ((rd_T74 l0 x4_1).f0), .int .i64 ((rd_T74 l0 x4_1).f1), .int .i64 ((rd_T74 l0 x4_1).f2), .int .i64 0, .int .i64 0, .int .i64 0, .int .u64 0, .int .i64 0, .int .i64 0]) ?_ 3 _ rfl; (with_reducible repeat (first | refine blk_drewN ?_ _ | refine blk_drew ?_ | refine blk_alloc ?_ _)); refine blk_put (cs := #[.int .i64 ((rd_T74 l0 x4_1).f0), .int .i64 ((rd_T74 l0 x4_1).f1), .int .i64 0, .int .i64 0, .int .i64 0, .int .i64 0, .int .u64 0, .int .i64 0, .int .i64 0]) ?_ 2 _ rfl; (with_reducible repeat (first | refine blk_drewN ?_ _ | refine blk_drew ?_ | refine blk_alloc ?_ _)); refine blk_put (cs := #[.int .i64 ((rd_T74 l0 x4_1).f0), .int .i64 0, .int .i64 0, .int .i64 0, .int .i64 0, .int .i64 0, .int .u64 0, .int .i64 0, .int .i64 0]) ?_ 1 _ rfl; (with_reducible repeat (first | refine blk_drewN ?_ _ | refine blk_drew ?_ | refine blk_alloc ?_ _)); refine blk_put (cs := #[.int .i64 0, .int .i64 0, .int .i64 0, .int .i64 0, .int .i64 0, .int .i64 0, .int .u64 0, .int .i64 0, .int .i64 0]) ?_ 0 _ rfl; (with_reducible repeat (first | refine blk_drewN ?_ _ | refine blk_drew ?_ | refine blk_alloc ?_ _)); exact BK365.out) hb); have n3_ := Aside0.mk (below_step (by repeat (first | (with_reducible first | exact HB.out | apply below_alloc | apply pw_below_drewN | apply below_drew1 | refine below_set ?_ GE365.out) | exact HB.out)) hb); clear HO_3; clear BK365; clear HB; have HO_3 := n0_; have HO368 := n1_; have BK365 := n2_; have HB := n3_; clear n0_ n1_ n2_ n3_; (try clear hb); (try clear hb2); (try clear hk); (try clear hi); (try clear ho0); obtain ⟨Ao25, co25, eo25⟩ := Kd.R_slice HO368.out; subst eo25) | ((with_reducible refine gate_builtin (b := .append) (xs := #[.tmp 21, .tmp 24]) rfl ?_); at_builtin; refine Kd.R_append_rows (Kd.int .u8) (w0 := w) w.heap.size rfl (.tmp 21) (.tmp 24) 51 5 (.int .u8 0) 1 rfl Try.underlying51 info5 rfl (by decide) (by omega) u3 x3_1 t366 _ _ _ (fun k_ => some k_ ≠ (.slice Ao25 t366.length co25 : Value).ownBlock) (fun _ => False) rfl rfl ?aO ?aR (fun _ _ h => h) (fun _ h => h.elim) ?aF ?aB ?aS ?aL ?_; (case aR => repeat (first | exact (Kd.R_reads' HO368.out).2.2 | (with_reducible refine Kd.C_alloc ?_ _) | (with_reducible refine Kd.C_drewN ?_ _) | (with_reducible refine Kd.C_drew ?_))); (case aB => exact (by repeat (first | (with_reducible first | exact HB.out | apply below_alloc | apply pw_below_drewN | apply below_drew1 | refine below_set ?_ GE365.out) | exact HB.out))); (case aF => exact (fun k_ hk => Kd.fresh' (Kd.R_lt (by (with_reducible repeat (first | apply Kd.R_alloc | apply Kd.R_drewN | apply Kd.R_drew)); exact HO368.out)) k_ hk)); (case aO => exact (by (with_reducible repeat (first | apply Kd.R_alloc | apply Kd.R_drewN | apply Kd.R_drew)); exact Kd.R_mono HO_3.out (fun _ hk => hk.2))); (case aS => exact (below_size (by repeat (first | (with_reducible first | exact HB.out | apply below_alloc | apply pw_below_drewN | apply below_drew1 | refine below_set ?_ GE365.out) | exact HB.out)))); (case aL => have := LMc7.out; omega); intro v370 w24 ho hb hg hat; rw [← Ny369.out] at ho; have n0_ := Aside0.mk (blk_grown (g := gb365) (o := .cells #[.int .i64 ((rd_T74 l0 x4_1).f0), .int .i64 ((rd_T74 l0 x4_1).f1), .int .i64 ((rd_T74 l0 x4_1).f2), .int .i64 ((rd_T74 l0 x4_1).f3.f0), .int .i64 ((rd_T74 l0 x4_1).f3.f1), .int .i64 ((rd_T74 l0 x4_1).f3.f2), .int .u64 ((rd_T74 l0 x4_1).f3.f3), .int .i64 ((rd_T74 l0 x4_1).f4), .int .i64 ((rd_T74 l0 x4_1).f5)] 74 (0, 0)) (by (with_reducible repeat (first | refine blk_drewN ?_ _ | refine blk_drew ?_ | refine blk_alloc ?_ _)); exact BK365.out) hg (Kd.R_ne HO_3.out BK365.out (by decide))); have n1_ := Aside0.mk (Kd.R_after (ok := (fun _ => True)) (by (with_reducible repeat (first | apply Kd.R_alloc | apply Kd.R_drewN | apply Kd.R_drew)); exact HO368.out) hg hat); have n2_ := Aside0.mk (hb); have n3_ := Aside0.mk (ho); clear BK365; clear HO368; clear HB; clear HO_3; have BK365 := n0_; have HO368 := n1_; have HB := n2_; have HO371 := n3_; clear n0_ n1_ n2_ n3_; clear ho hb hg hat; have hcz26_0 : w24.cell? ⟨gb365, 0, none⟩ = some (.int .i64 ((rd_T74 l0 x4_1).f0)) := (blk_cell BK365.out 0).trans rfl; have hcz26_1 : w24.cell? ⟨gb365, 1, none⟩ = some (.int .i64 ((rd_T74 l0 x4_1).f1)) := (blk_cell BK365.out 1).trans rfl; have hcz26_2 : w24.cell? ⟨gb365, 2, none⟩ = some (.int .i64 ((rd_T74 l0 x4_1).f2)) := (blk_cell BK365.out 2).trans rfl; have hcz26_3 : w24.cell? ⟨gb365, 3, none⟩ = some (.int .i64 ((rd_T74 l0 x4_1).f3.f0)) := (blk_cell BK365.out 3).trans rfl; have hcz26_4 : w24.cell? ⟨gb365, 4, none⟩ = some (.int .i64 ((rd_T74 l0 x4_1).f3.f1)) := (blk_cell BK365.out 4).trans rfl; have hcz26_5 : w24.cell? ⟨gb365, 5, none⟩ = some (.int .i64 ((rd_T74 l0 x4_1).f3.f2)) := (blk_cell BK365.out 5).trans rfl; have hcz26_6 : w24.cell? ⟨gb365, 6, none⟩ = some (.int .u64 ((rd_T74 l0 x4_1).f3.f3)) := (blk_cell BK365.out 6).trans rfl; have hcz26_7 : w24.cell? ⟨gb365, 7, none⟩ = some (.int .i64 ((rd_T74 l0 x4_1).f4)) := (blk_cell BK365.out 7).trans rfl; have hcz26_8 : w24.cell? ⟨gb365, 8, none⟩ = some (.int .i64 ((rd_T74 l0 x4_1).f5)) := (blk_cell BK365.out 8).trans rfl; have hfz26_0 := blk_frozen BK365.out 0; have hfz26_1 := blk_frozen BK365.out 1; have hfz26_2 := blk_frozen BK365.out 2; have hfz26_3 := blk_frozen BK365.out 3; have hfz26_4 := blk_frozen BK365.out 4; have hfz26_5 := blk_frozen BK365.out 5; have hfz26_6 := blk_frozen BK365.out 6; have hfz26_7 := blk_frozen BK365.out 7; have hfz26_8 := blk_frozen BK365.out 8) | ((with_reducible refine gate_callee (f := 48) rfl ?_); refine goesL_ (some 30) rfl rfl Try.func48 (by kernel_rfl) rfl #[.int .i64 ((rd_T74 l0 x4_1).f3.f0)] rfl (by (try simp only [List.map_toArray, List.map_cons, List.map_nil]); first | done | rfl | (simp only [List.length_drop, List.length_take]; rfl)) ?_; (with_reducible refine (skymosaicref02_Int.calls k1 ((rd_T74 l0 x4_1).f3.f0) t372 _ A8.out).mono ?_); rintro e w27 ⟨v373, rfl, ho0, hb⟩; refine ⟨_, rfl, ?_⟩; have n0_ := Aside0.mk (Kd.R_elder' (by (with_reducible repeat (first | apply Kd.R_alloc | apply Kd.R_drewN | apply Kd.R_drew)); exact HO368.out) (Kd.R_base ho0) hb); have n1_ := Aside0.mk (Kd.R_elder' (by (with_reducible repeat (first | apply Kd.R_alloc | apply Kd.R_drewN | apply Kd.R_drew)); exact HO371.out) (Kd.R_base ho0) hb); have n2_ := Aside0.mk (Kd.R_lower (Kd.R_new' (Kd.R_new' ho0 (Kd.R_lt (by (with_reducible repeat (first | apply Kd.R_alloc | apply Kd.R_drewN | apply Kd.R_drew)); exact HO368.out))) (Kd.R_lt (by (with_reducible repeat (first | apply Kd.R_alloc | apply Kd.R_drewN | apply Kd.R_drew)); exact HO371.out))) (below_size (by repeat (first | (with_reducible first | exact HB.out | apply below_alloc | apply pw_below_drewN | apply below_drew1 | refine below_set ?_ GE365.out) | exact HB.out)))); have n3_ := Aside0.mk (blk_below (g := gb365) (o := .cells #[.int .i64 ((rd_T74 l0 x4_1).f0), .int .i64 ((rd_T74 l0 x4_1).f1), .int .i64 ((rd_T74 l0 x4_1).f2), .int .i64 ((rd_T74 l0 x4_1).f3.f0), .int .i64 ((rd_T74 l0 x4_1).f3.f1), .int .i64 ((rd_T74 l0 x4_1).f3.f2), .int .u64 ((rd_T74 l0 x4_1).f3.f3), .int .i64 ((rd_T74 l0 x4_1).f4), .int .i64 ((rd_T74 l0 x4_1).f5)] 74 (0, 0)) (by (with_reducible repeat (first | refine blk_drewN ?_ _ | refine blk_drew ?_ | refine blk_alloc ?_ _)); exact BK365.out) hb); have n4_ := Aside0.mk (below_step (by repeat (first | (with_reducible first | exact HB.out | apply below_alloc | apply pw_below_drewN | apply below_drew1 | refine below_set ?_ GE365.out) | exact HB.out)) hb); clear HO368; clear HO371; clear BK365; clear HB; have HO368 := n0_; have HO371 := n1_; have HO374 := n2_; have BK365 := n3_; have HB := n4_; clear n0_ n1_ n2_ n3_ n4_; (try clear hb); (try clear hb2); (try clear hk); (try clear hi); (try clear ho0); obtain ⟨Ao29, co29, eo29⟩ := Kd.R_slice HO374.out; subst eo29) | ((with_reducible refine gate_builtin (b := .append) (xs := #[.tmp 26, .tmp 30]) rfl ?_); at_builtin; refine Kd.R_append_rows (Kd.int .u8) (w0 := w) w.heap.size rfl (.tmp 26) (.tmp 30) 51 5 (.int .u8 0) 1 rfl Try.underlying51 info5 rfl (by decide) (by omega) v370 y369 t372 _ _ _ (fun k_ => some k_ ≠ (.slice Ao25 t366.length co25 : Value).ownBlock ∧ some k_ ≠ (.slice Ao29 t372.length co29 : Value).ownBlock) (fun _ => False) rfl rfl ?aO ?aR (fun _ _ h => h) (fun _ h => h.elim) ?aF ?aB ?aS ?aL ?_; (case aR => repeat (first | exact (Kd.R_reads' HO374.out).2.2 | (with_reducible refine Kd.C_alloc ?_ _) | (with_reducible refine Kd.C_drewN ?_ _) | (with_reducible refine Kd.C_drew ?_))); (case aB => exact (by repeat (first | (with_reducible first | exact HB.out | apply below_alloc | apply pw_below_drewN | apply below_drew1 | refine below_set ?_ GE365.out) | exact HB.out))); (case aF => exact (fun k_ hk => ⟨Kd.fresh' (Kd.R_lt (by (with_reducible repeat (first | apply Kd.R_alloc | apply Kd.R_drewN | apply Kd.R_drew)); exact HO368.out)) k_ hk, Kd.fresh' (Kd.R_lt (by (with_reducible repeat (first | apply Kd.R_alloc | apply Kd.R_drewN | apply Kd.R_drew)); exact HO374.out)) k_ hk⟩)); (case aO => exact (by (with_reducible repeat (first | apply Kd.R_alloc | apply Kd.R_drewN | apply Kd.R_drew)); exact HO371.out)); (case aS => exact (below_size (by repeat (first | (with_reducible first | exact HB.out | apply below_alloc | apply pw_below_drewN | apply below_drew1 | refine below_set ?_ GE365.out) | exact HB.out)))); (case aL => have := LMc9.out; omega); intro v376 w28 ho hb hg hat; rw [← Ny375.out] at ho; have n0_ := Aside0.mk (blk_grown (g := gb365) (o := .cells #[.int .i64 ((rd_T74 l0 x4_1).f0), .int .i64 ((rd_T74 l0 x4_1).f1), .int .i64 ((rd_T74 l0 x4_1).f2), .int .i64 ((rd_T74 l0 x4_1).f3.f0), .int .i64 ((rd_T74 l0 x4_1).f3.f1), .int .i64 ((rd_T74 l0 x4_1).f3.f2), .int .u64 ((rd_T74 l0 x4_1).f3.f3), .int .i64 ((rd_T74 l0 x4_1).f4), .int .i64 ((rd_T74 l0 x4_1).f5)] 74 (0, 0)) (by (with_reducible repeat (first | refine blk_drewN ?_ _ | refine blk_drew ?_ | refine blk_alloc ?_ _)); exact BK365.out) hg (Kd.R_ne HO371.out BK365.out (by decide))); have n1_ := Aside0.mk (Kd.R_after (ok := (fun k_ => some k_ ≠ (.slice Ao29 t372.length co29 : Value).ownBlock)) (by (with_reducible repeat (first | apply Kd.R_alloc | apply Kd.R_drewN | apply Kd.R_drew)); exact Kd.R_mono HO368.out (fun _ hk => ⟨hk.2, hk.1.2⟩)) hg hat); have n2_ := Aside0.mk (Kd.R_after (ok := (fun k_ => some k_ ≠ (.slice Ao25 t366.length co25 : Value).ownBlock)) (by (with_reducible repeat (first | apply Kd.R_alloc | apply Kd.R_drewN | apply Kd.R_drew)); exact Kd.R_mono HO374.out (fun _ hk => ⟨hk.1.2, hk.2⟩)) hg hat); have n3_ := Aside0.mk (hb); have n4_ := Aside0.mk (ho); clear BK365; clear HO368; clear HO374; clear HB; clear HO371; have BK365 := n0_; have HO368 := n1_; have HO374 := n2_; have HB := n3_; have HO377 := n4_; clear n0_ n1_ n2_ n3_ n4_; clear ho hb hg hat; have hcz30_0 : w28.cell? ⟨gb365, 0, none⟩ = some (.int .i64 ((rd_T74 l0 x4_1).f0)) := (blk_cell BK365.out 0).trans rfl; have hcz30_1 : w28.cell? ⟨gb365, 1, none⟩ = some (.int .i64 ((rd_T74 l0 x4_1).f1)) := (blk_cell BK365.out 1).trans rfl; have hcz30_2 : w28.cell? ⟨gb365, 2, none⟩ = some (.int .i64 ((rd_T74 l0 x4_1).f2)) := (blk_cell BK365.out 2).trans rfl; have hcz30_3 : w28.cell? ⟨gb365, 3, none⟩ = some (.int .i64 ((rd_T74 l0 x4_1).f3.f0)) := (blk_cell BK365.out 3).trans rfl; have hcz30_4 : w28.cell? ⟨gb365, 4, none⟩ = some (.int .i64 ((rd_T74 l0 x4_1).f3.f1)) := (blk_cell BK365.out 4).trans rfl; have hcz30_5 : w28.cell? ⟨gb365, 5, none⟩ = some (.int .i64 ((rd_T74 l0 x4_1).f3.f2)) := (blk_cell BK365.out 5).trans rfl; have hcz30_6 : w28.cell? ⟨gb365, 6, none⟩ = some (.int .u64 ((rd_T74 l0 x4_1).f3.f3)) := (blk_cell BK365.out 6).trans rfl; have hcz30_7 : w28.cell? ⟨gb365, 7, none⟩ = some (.int .i64 ((rd_T74 l0 x4_1).f4)) := (blk_cell BK365.out 7).trans rfl; have hcz30_8 : w28.cell? ⟨gb365, 8, none⟩ = some (.int .i64 ((rd_T74 l0 x4_1).f5)) := (blk_cell BK365.out 8).trans rfl; have hfz30_0 := blk_frozen BK365.out 0; have hfz30_1 := blk_frozen BK365.out 1; have hfz30_2 := blk_frozen BK365.out 2; have hfz30_3 := blk_frozen BK365.out 3; have hfz30_4 := blk_frozen BK365.out 4; have hfz30_5 := blk_frozen BK365.out 5; have hfz30_6 := blk_frozen BK365.out 6; have hfz30_7 := blk_frozen BK365.out 7; have hfz30_8 := blk_frozen BK365.out 8) | ((with_reducible refine gate_dst (N := 46) rfl ?_); refine Kd.R_lit (Kd.int .i64) _ 3 ?hg (N := 46) ?hd (xs := ([(rd_T74 l0 x4_1).f3.f1, (rd_T74 l0 x4_1).f3.f2, (rd_T74 l0 x4_1).f4, (rd_T74 l0 x4_1).f5] : List Int)) (inner := [.int .i64 ((rd_T74 l0 x4_1).f3.f1), .int .i64 ((rd_T74 l0 x4_1).f3.f2), .int .i64 ((rd_T74 l0 x4_1).f4), .int .i64 ((rd_T74 l0 x4_1).f5)]) (ok := fun _ => True) (okp := fun _ => True) ?hr ?hp (fun _ hk => hk) trivial (Below.refl _ _) (Nat.le_refl _) (by simp) ?_; (case hd => rfl); (case hg => rfl); (case hr => first | (go_simp; done) | (go_simp; rfl)); (case hp => exact (Reps.one (show Kd.M (Kd.int .i64) _ _ _ ((rd_T74 l0 x4_1).f3.f1) [.int .i64 ((rd_T74 l0 x4_1).f3.f1)] from rfl) (Reps.one (show Kd.M (Kd.int .i64) _ _ _ ((rd_T74 l0 x4_1).f3.f2) [.int .i64 ((rd_T74 l0 x4_1).f3.f2)] from rfl) (Reps.one (show Kd.M (Kd.int .i64) _ _ _ ((rd_T74 l0 x4_1).f4) [.int .i64 ((rd_T74 l0 x4_1).f4)] from rfl) (Reps.one (show Kd.M (Kd.int .i64) _ _ _ ((rd_T74 l0 x4_1).f5) [.int .i64 ((rd_T74 l0 x4_1).f5)] from rfl) (Reps.none _ _)))))); intro v379 w31 ho32 hb hg_ hnew_; clear hg_ hnew_; (first | rw [← Ny378.out] at ho32 | (simp only [Int.reduceToNat] at ho32; rw [← Ny378.out] at ho32)); have n0_ := Aside0.mk (Kd.R_below (by (with_reducible repeat (first | apply Kd.R_alloc | apply Kd.R_drewN | apply Kd.R_drew)); exact HO368.out) hb); have n1_ := Aside0.mk (Kd.R_below (by (with_reducible repeat (first | apply Kd.R_alloc | apply Kd.R_drewN | apply Kd.R_drew)); exact HO374.out) hb); have n2_ := Aside0.mk (Kd.R_below (by (with_reducible repeat (first | apply Kd.R_alloc | apply Kd.R_drewN | apply Kd.R_drew)); exact HO377.out) hb); have n3_ := Aside0.mk (Kd.R_lower ho32 (below_size (by repeat (first | (with_reducible first | exact HB.out | apply below_alloc | apply pw_below_drewN | apply below_drew1 | refine below_set ?_ GE365.out) | exact HB.out)))); have n4_ := Aside0.mk (blk_below (g := gb365) (o := .cells #[.int .i64 ((rd_T74 l0 x4_1).f0), .int .i64 ((rd_T74 l0 x4_1).f1), .int .i64 ((rd_T74 l0 x4_1).f2), .int .i64 ((rd_T74 l0 x4_1).f3.f0), .int .i64 ((rd_T74 l0 x4_1).f3.f1), .int .i64 ((rd_T74 l0 x4_1).f3.f2), .int .u64 ((rd_T74 l0 x4_1).f3.f3), .int .i64 ((rd_T74 l0 x4_1).f4), .int .i64 ((rd_T74 l0 x4_1).f5)] 74 (0, 0)) (by (with_reducible repeat (first | refine blk_drewN ?_ _ | refine blk_drew ?_ | refine blk_alloc ?_ _)); exact BK365.out) hb); have n5_ := Aside0.mk (below_step (by repeat (first | (with_reducible first | exact HB.out | apply below_alloc | apply pw_below_drewN | apply below_drew1 | refine below_set ?_ GE365.out) | exact HB.out)) hb); clear HO368; clear HO374; clear HO377; clear BK365; clear HB; have HO368 := n0_; have HO374 := n1_; have HO377 := n2_; have HO380 := n3_; have BK365 := n4_; have HB := n5_; clear n0_ n1_ n2_ n3_ n4_ n5_; clear hb ho32))
                go_loopg [3, 7] k1 (fun kq v3 v7 w' => ∃ (x3_2 : List Int) (x7_2 : Int), v7 = .int .i64 x7_2 ∧ Aside0 (skymosaicref36_Encode.l1 kq l0 x3_2 x4_1 y378 x7_2 ((rd_T74 l0 x4_1).f0) ((rd_T74 l0 x4_1).f1) ((rd_T74 l0 x4_1).f2) ((rd_T74 l0 x4_1).f3.f0) ((rd_T74 l0 x4_1).f3.f1) ((rd_T74 l0 x4_1).f3.f2) ((rd_T74 l0 x4_1).f3.f3) ((rd_T74 l0 x4_1).f4) ((rd_T74 l0 x4_1).f5) = some r) ∧ Aside0 (kq ≤ k1) ∧ Aside0 (Kd.R (Kd.int .u8) 5 w' w.heap.size (fun _ => True) v3 x3_2) ∧ Aside0 (Kd.R (Kd.int .i64) 3 w' w.heap.size (fun _ => True) v379 y378) ∧ Aside0 (w'.heap[gb365]? = some (.cells #[.int .i64 ((rd_T74 l0 x4_1).f0), .int .i64 ((rd_T74 l0 x4_1).f1), .int .i64 ((rd_T74 l0 x4_1).f2), .int .i64 ((rd_T74 l0 x4_1).f3.f0), .int .i64 ((rd_T74 l0 x4_1).f3.f1), .int .i64 ((rd_T74 l0 x4_1).f3.f2), .int .u64 ((rd_T74 l0 x4_1).f3.f3), .int .i64 ((rd_T74 l0 x4_1).f4), .int .i64 ((rd_T74 l0 x4_1).f5)] 74 (0, 0))) ∧ Aside0 (Below w.heap.size w w'))
                case atStart => exact ⟨(y375), (0), (by first | rfl | (simp; done) | (simp [*]; done)), H', ⟨Nat.le_refl _⟩, ⟨by (with_reducible repeat (first | apply Kd.R_alloc | apply Kd.R_drewN | apply Kd.R_drew)); exact Kd.R_mono HO377.out (fun _ hk => trivial)⟩, ⟨by (with_reducible repeat (first | apply Kd.R_alloc | apply Kd.R_drewN | apply Kd.R_drew)); exact HO380.out⟩, ⟨by (with_reducible repeat (first | refine blk_drewN ?_ _ | refine blk_drew ?_ | refine blk_alloc ?_ _)); exact BK365.out⟩, ⟨by repeat (first | (with_reducible first | exact HB.out | apply below_alloc | apply pw_below_drewN | apply below_drew1 | refine below_set ?_ GE365.out) | exact HB.out)⟩⟩
                case round =>
                  clear H'
                  try clear c1
                  try clear c2
                  try clear p2
                  try clear p3
                  try clear q3
                  try clear hx3
                  try clear c4
                  try clear c4b0
                  try clear c5
                  try clear c5b0
                  try clear p6
                  try clear c7
                  try clear c9
                  try clear c10
                  try clear c10b0
                  try clear c10b1
                  try clear c26
                  try clear hcz12_0
                  try clear hcz12_1
                  try clear hcz12_2
                  try clear hcz12_3
                  try clear hcz12_4
                  try clear hcz12_5
                  try clear hcz12_6
                  try clear hcz12_7
                  try clear hcz12_8
                  try clear hcz16_0
                  try clear hcz16_1
                  try clear hcz16_2
                  try clear hcz16_3
                  try clear hcz16_4
                  try clear hcz16_5
                  try clear hcz16_6
                  try clear hcz16_7
                  try clear hcz16_8
                  try clear hcz20_0
                  try clear hcz20_1
                  try clear hcz20_2
                  try clear hcz20_3
                  try clear hcz20_4
                  try clear hcz20_5
                  try clear hcz20_6
                  try clear hcz20_7
                  try clear hcz20_8
                  try clear hcz22_0
                  try clear hcz22_1
                  try clear hcz22_2
                  try clear hcz22_3
                  try clear hcz22_4
                  try clear hcz22_5
                  try clear hcz22_6
                  try clear hcz22_7
                  try clear hcz22_8
                  try clear hcz26_0
                  try clear hcz26_1
                  try clear hcz26_2
                  try clear hcz26_3
                  try clear hcz26_4
                  try clear hcz26_5
                  try clear hcz26_6
                  try clear hcz26_7
                  try clear hcz26_8
                  try clear hcz30_0
                  try clear hcz30_1
                  try clear hcz30_2
                  try clear hcz30_3
                  try clear hcz30_4
                  try clear hcz30_5
                  try clear hcz30_6
                  try clear hcz30_7
                  try clear hcz30_8
                  try clear hfz12_0
                  try clear hfz12_1
                  try clear hfz12_2
                  try clear hfz12_3
                  try clear hfz12_4
                  try clear hfz12_5
                  try clear hfz12_6
                  try clear hfz12_7
                  try clear hfz12_8
                  try clear hfz16_0
                  try clear hfz16_1
                  try clear hfz16_2
                  try clear hfz16_3
                  try clear hfz16_4
                  try clear hfz16_5
                  try clear hfz16_6
                  try clear hfz16_7
                  try clear hfz16_8
                  try clear hfz20_0
                  try clear hfz20_1
                  try clear hfz20_2
                  try clear hfz20_3
                  try clear hfz20_4
                  try clear hfz20_5
                  try clear hfz20_6
                  try clear hfz20_7
                  try clear hfz20_8
                  try clear hfz22_0
                  try clear hfz22_1
                  try clear hfz22_2
                  try clear hfz22_3
                  try clear hfz22_4
                  try clear hfz22_5
                  try clear hfz22_6
                  try clear hfz22_7
                  try clear hfz22_8
                  try clear hfz26_0
                  try clear hfz26_1
                  try clear hfz26_2
                  try clear hfz26_3
                  try clear hfz26_4
                  try clear hfz26_5
                  try clear hfz26_6
                  try clear hfz26_7
                  try clear hfz26_8
                  try clear hfz30_0
                  try clear hfz30_1
                  try clear hfz30_2
                  try clear hfz30_3
                  try clear hfz30_4
                  try clear hfz30_5
                  try clear hfz30_6
                  try clear hfz30_7
                  try clear hfz30_8
                  try clear hx364_0
                  try clear hx364_1
                  try clear hx364_2
                  try clear hx364_3
                  try clear hx364_4
                  try clear hx364_5
                  try clear hx364_6
                  try clear hx364_7
                  try clear hx364_8
                  try clear p2
                  try clear p364
                  try clear q364
                  obtain ⟨x3_2, x7_2, rfl, HA, HK2, HO_3, HO_6, BK365, HB⟩ := hrel
                  cases gk with
                  | zero => exact absurd HA.out (by simp [skymosaicref36_Encode.l1])
                  | succ k2 =>
                    have H := HA.out
                    clear HA
                    simp only [skymosaicref36_Encode.l1] at H
                    by_cases c33 : x7_2 < 4
                    · rw [if_pos c33] at H
                      have c33b0 : decide (x7_2 < 4) = true := decide_eq_true c33
                      clear c33
                      by_cases c34 : 0 ≤ x7_2
                      · rw [if_pos c34] at H
                        have c34b0 : decide (0 ≤ x7_2) = true := decide_eq_true c34
                        clear c34
                        by_cases c35 : x7_2 < (y378.length : Int)
                        · rw [if_pos c35] at H
                          have c35b0 : decide (x7_2 < (y378.length : Int)) = true := decide_eq_true c35
                          clear c35
                          replace H := Option.bind_eq_some_iff.mp H
                          obtain ⟨t382, A360, H⟩ := H
                          replace H : (if x3_2.length + t382.length < 140737488355328 then (skymosaicref36_Encode.l1 k2 l0 (x3_2 ++ t382) x4_1 y378 (wrap64 (x7_2 + 1)) ((rd_T74 l0 x4_1).f0) ((rd_T74 l0 x4_1).f1) ((rd_T74 l0 x4_1).f2) ((rd_T74 l0 x4_1).f3.f0) ((rd_T74 l0 x4_1).f3.f1) ((rd_T74 l0 x4_1).f3.f2) ((rd_T74 l0 x4_1).f3.f3) ((rd_T74 l0 x4_1).f4) ((rd_T74 l0 x4_1).f5)) else (none)) = some r := H
                          have A36 := Aside0.mk A360
                          clear A360
                          by_cases c37 : x3_2.length + t382.length < 140737488355328
                          · rw [if_pos c37] at H
                            have LMc37 := Aside0.mk c37
                            clear c37
                            obtain ⟨y385, hy385⟩ : ∃ y_ : List Int, y_ = (x3_2 ++ t382) := ⟨_, rfl⟩
                            replace H : (skymosaicref36_Encode.l1 k2 l0 y385 x4_1 y378 (wrap64 (x7_2 + 1)) ((rd_T74 l0 x4_1).f0) ((rd_T74 l0 x4_1).f1) ((rd_T74 l0 x4_1).f2) ((rd_T74 l0 x4_1).f3.f0) ((rd_T74 l0 x4_1).f3.f1) ((rd_T74 l0 x4_1).f3.f2) ((rd_T74 l0 x4_1).f3.f3) ((rd_T74 l0 x4_1).f4) ((rd_T74 l0 x4_1).f5)) = some r := by first | (rw [hy385]; with_reducible exact H) | (have H2_ := (Option.bind_some _ _).symm.trans H; rw [hy385]; with_reducible exact H2_) | (have H2_ := (Option.bind_some _ _).symm.trans H; with_reducible exact H2_) | with_reducible exact H | (rw [hy385]; exact H) | exact H
                            have Ny385 := Aside0.mk hy385
                            clear hy385
                            have H' := Aside0.mk H
                            clear H
                            obtain ⟨Ao38, co38, eo38⟩ := Kd.R_slice HO_6.out
                            subst eo38
                            have p381 : 0 ≤ (x7_2 : Int) := of_decide_eq_true (by first | (with_reducible assumption) | assumption)
                            have q381 : x7_2 < (y378.length : Int) := of_decide_eq_true (by first | (with_reducible assumption) | assumption)
                            obtain ⟨ad381, e381, hx381_0⟩ := Kd.at_int (Kd.R_reads' HO_6.out).2.2 x7_2 p381 q381
                            cases e381
                            replace p381 := eq_true p381
                            replace q381 := eq_true q381
                            go_wp2_with (first | ((with_reducible refine gate_callee (f := 48) rfl ?_); refine goesL_ (some 56) rfl rfl Try.func48 (by kernel_rfl) rfl #[.int .i64 (rd y378 x7_2)] rfl (by (try simp only [List.map_toArray, List.map_cons, List.map_nil]); first | done | rfl | (simp only [List.length_drop, List.length_take]; rfl)) ?_; (with_reducible refine (skymosaicref02_Int.calls k2 (rd y378 x7_2) t382 _ A36.out).mono ?_); rintro e w39 ⟨v383, rfl, ho0, hb⟩; refine ⟨_, rfl, ?_⟩; have n0_ := Aside0.mk (Kd.R_elder' (by (with_reducible repeat (first | apply Kd.R_alloc | apply Kd.R_drewN | apply Kd.R_drew)); exact HO_3.out) (Kd.R_base ho0) hb); have n1_ := Aside0.mk (Kd.R_below (by (with_reducible repeat (first | apply Kd.R_alloc | apply Kd.R_drewN | apply Kd.R_drew)); exact HO_6.out) hb); have n2_ := Aside0.mk (Kd.R_lower (Kd.R_new' ho0 (Kd.R_lt (by (with_reducible repeat (first | apply Kd.R_alloc | apply Kd.R_drewN | apply Kd.R_drew)); exact HO_3.out))) (below_size (by repeat (first | (with_reducible first | exact HB.out | apply below_alloc | apply pw_below_drewN | apply below_drew1 | refine below_set ?_ GE365.out) | exact HB.out)))); have n3_ := Aside0.mk (blk_below (g := gb365) (o := .cells #[.int .i64 ((rd_T74 l0 x4_1).f0), .int .i64 ((rd_T74 l0 x4_1).f1), .int .i64 ((rd_T74 l0 x4_1).f2), .int .i64 ((rd_T74 l0 x4_1).f3.f0), .int .i64 ((rd_T74 l0 x4_1).f3.f1), .int .i64 ((rd_T74 l0 x4_1).f3.f2), .int .u64 ((rd_T74 l0 x4_1).f3.f3), .int .i64 ((rd_T74 l0 x4_1).f4), .int .i64 ((rd_T74 l0 x4_1).f5)] 74 (0, 0)) (by (with_reducible repeat (first | refine blk_drewN ?_ _ | refine blk_drew ?_ | refine blk_alloc ?_ _)); exact BK365.out) hb); have n4_ := Aside0.mk (below_step (by repeat (first | (with_reducible first | exact HB.out | apply below_alloc | apply pw_below_drewN | apply below_drew1 | refine below_set ?_ GE365.out) | exact HB.out)) hb); clear HO_3; clear HO_6; clear BK365; clear HB; have HO_3 := n0_; have HO_6 := n1_; have HO384 := n2_; have BK365 := n3_; have HB := n4_; clear n0_ n1_ n2_ n3_ n4_; (try clear hb); (try clear hb2); (try clear hk); (try clear hi); (try clear ho0); obtain ⟨Ao41, co41, eo41⟩ := Kd.R_slice HO384.out; subst eo41) | ((with_reducible refine gate_builtin (b := .append) (xs := #[.tmp 51, .tmp 56]) rfl ?_); at_builtin; refine Kd.R_append_rows (Kd.int .u8) (w0 := w) w.heap.size rfl (.tmp 51) (.tmp 56) 51 5 (.int .u8 0) 1 rfl Try.underlying51 info5 rfl (by decide) (by omega) u3 x3_2 t382 _ _ _ (fun k_ => some k_ ≠ (.slice Ao41 t382.length co41 : Value).ownBlock) (fun _ => False) rfl rfl ?aO ?aR (fun _ _ h => h) (fun _ h => h.elim) ?aF ?aB ?aS ?aL ?_; (case aR => repeat (first | exact (Kd.R_reads' HO384.out).2.2 | (with_reducible refine Kd.C_alloc ?_ _) | (with_reducible refine Kd.C_drewN ?_ _) | (with_reducible refine Kd.C_drew ?_))); (case aB => exact (by repeat (first | (with_reducible first | exact HB.out | apply below_alloc | apply pw_below_drewN | apply below_drew1 | refine below_set ?_ GE365.out) | exact HB.out))); (case aF => exact (fun k_ hk => Kd.fresh' (Kd.R_lt (by (with_reducible repeat (first | apply Kd.R_alloc | apply Kd.R_drewN | apply Kd.R_drew)); exact HO384.out)) k_ hk)); (case aO => exact (by (with_reducible repeat (first | apply Kd.R_alloc | apply Kd.R_drewN | apply Kd.R_drew)); exact Kd.R_mono HO_3.out (fun _ hk => hk.2))); (case aS => exact (below_size (by repeat (first | (with_reducible first | exact HB.out | apply below_alloc | apply pw_below_drewN | apply below_drew1 | refine below_set ?_ GE365.out) | exact HB.out)))); (case aL => have := LMc37.out; omega); intro v386 w40 ho hb hg hat; rw [← Ny385.out] at ho; have n0_ := Aside0.mk (Kd.R_over' (by (with_reducible repeat (first | apply Kd.R_alloc | apply Kd.R_drewN | apply Kd.R_drew)); exact HO_6.out) (Kd.R_typed (by (with_reducible repeat (first | apply Kd.R_alloc | apply Kd.R_drewN | apply Kd.R_drew)); exact HO_3.out)) (by decide) hg); have n1_ := Aside0.mk (blk_grown (g := gb365) (o := .cells #[.int .i64 ((rd_T74 l0 x4_1).f0), .int .i64 ((rd_T74 l0 x4_1).f1), .int .i64 ((rd_T74 l0 x4_1).f2), .int .i64 ((rd_T74 l0 x4_1).f3.f0), .int .i64 ((rd_T74 l0 x4_1).f3.f1), .int .i64 ((rd_T74 l0 x4_1).f3.f2), .int .u64 ((rd_T74 l0 x4_1).f3.f3), .int .i64 ((rd_T74 l0 x4_1).f4), .int .i64 ((rd_T74 l0 x4_1).f5)] 74 (0, 0)) (by (with_reducible repeat (first | refine blk_drewN ?_ _ | refine blk_drew ?_ | refine blk_alloc ?_ _)); exact BK365.out) hg (Kd.R_ne HO_3.out BK365.out (by decide))); have n2_ := Aside0.mk (Kd.R_after (ok := (fun _ => True)) (by (with_reducible repeat (first | apply Kd.R_alloc | apply Kd.R_drewN | apply Kd.R_drew)); exact HO384.out) hg hat); have n3_ := Aside0.mk (hb); have n4_ := Aside0.mk (ho); clear HO_6; clear BK365; clear HO384; clear HB; clear HO_3; have HO_6 := n0_; have BK365 := n1_; have HO384 := n2_; have HB := n3_; have HO387 := n4_; clear n0_ n1_ n2_ n3_ n4_; clear ho hb hg hat))
                            go_roundg k2
                            case measure => have := HK1.out; have := HK2.out; omega
                            case rel => exact ⟨(y385), (wrap64 (x7_2 + 1)), (by first | rfl | (simp; done) | (simp [*]; done)), H', ⟨by have := HK1.out; have := HK2.out; omega⟩, ⟨by (with_reducible repeat (first | apply Kd.R_alloc | apply Kd.R_drewN | apply Kd.R_drew)); exact Kd.R_mono HO387.out (fun _ hk => trivial)⟩, ⟨by (with_reducible repeat (first | apply Kd.R_alloc | apply Kd.R_drewN | apply Kd.R_drew)); exact HO_6.out⟩, ⟨by (with_reducible repeat (first | refine blk_drewN ?_ _ | refine blk_drew ?_ | refine blk_alloc ?_ _)); exact BK365.out⟩, ⟨by repeat (first | (with_reducible first | exact HB.out | apply below_alloc | apply pw_below_drewN | apply below_drew1 | refine below_set ?_ GE365.out) | exact HB.out)⟩⟩
                          · rw [if_neg c37] at H
                            exact absurd H (by simp)
                        · rw [if_neg c35] at H
                          exact absurd H (by simp)
                      · rw [if_neg c34] at H
                        exact absurd H (by simp)
                    · rw [if_neg c33] at H
                      have c33b0 : decide (x7_2 < 4) = false := decide_eq_false c33
                      clear c33
                      replace H := Option.bind_eq_some_iff.mp H
                      obtain ⟨t388, A420, H⟩ := H
                      replace H : (if x3_2.length + t388.length < 140737488355328 then (skymosaicref36_Encode.l0 k2 l0 (x3_2 ++ t388) (wrap64 (x4_1 + 1))) else (none)) = some r := H
                      have A42 := Aside0.mk A420
                      clear A420
                      by_cases c43 : x3_2.length + t388.length < 140737488355328
                      · rw [if_pos c43] at H
                        have LMc43 := Aside0.mk c43
                        clear c43
                        obtain ⟨y391, hy391⟩ : ∃ y_ : List Int, y_ = (x3_2 ++ t388) := ⟨_, rfl⟩
                        replace H : (skymosaicref36_Encode.l0 k2 l0 y391 (wrap64 (x4_1 + 1))) = some r := by first | (rw [hy391]; with_reducible exact H) | (have H2_ := (Option.bind_some _ _).symm.trans H; rw [hy391]; with_reducible exact H2_) | (have H2_ := (Option.bind_some _ _).symm.trans H; with_reducible exact H2_) | with_reducible exact H | (rw [hy391]; exact H) | exact H
                        have Ny391 := Aside0.mk hy391
                        clear hy391
                        have H' := Aside0.mk H
                        clear H
                        have hcz44_0 : wr.cell? ⟨gb365, 0, none⟩ = some (.int .i64 ((rd_T74 l0 x4_1).f0)) := (blk_cell BK365.out 0).trans rfl
                        have hcz44_1 : wr.cell? ⟨gb365, 1, none⟩ = some (.int .i64 ((rd_T74 l0 x4_1).f1)) := (blk_cell BK365.out 1).trans rfl
                        have hcz44_2 : wr.cell? ⟨gb365, 2, none⟩ = some (.int .i64 ((rd_T74 l0 x4_1).f2)) := (blk_cell BK365.out 2).trans rfl
                        have hcz44_3 : wr.cell? ⟨gb365, 3, none⟩ = some (.int .i64 ((rd_T74 l0 x4_1).f3.f0)) := (blk_cell BK365.out 3).trans rfl
                        have hcz44_4 : wr.cell? ⟨gb365, 4, none⟩ = some (.int .i64 ((rd_T74 l0 x4_1).f3.f1)) := (blk_cell BK365.out 4).trans rfl
                        have hcz44_5 : wr.cell? ⟨gb365, 5, none⟩ = some (.int .i64 ((rd_T74 l0 x4_1).f3.f2)) := (blk_cell BK365.out 5).trans rfl
                        have hcz44_6 : wr.cell? ⟨gb365, 6, none⟩ = some (.int .u64 ((rd_T74 l0 x4_1).f3.f3)) := (blk_cell BK365.out 6).trans rfl
                        have hcz44_7 : wr.cell? ⟨gb365, 7, none⟩ = some (.int .i64 ((rd_T74 l0 x4_1).f4)) := (blk_cell BK365.out 7).trans rfl
                        have hcz44_8 : wr.cell? ⟨gb365, 8, none⟩ = some (.int .i64 ((rd_T74 l0 x4_1).f5)) := (blk_cell BK365.out 8).trans rfl
                        have hfz44_0 := blk_frozen BK365.out 0
                        have hfz44_1 := blk_frozen BK365.out 1
                        have hfz44_2 := blk_frozen BK365.out 2
                        have hfz44_3 := blk_frozen BK365.out 3
                        have hfz44_4 := blk_frozen BK365.out 4
                        have hfz44_5 := blk_frozen BK365.out 5
                        have hfz44_6 := blk_frozen BK365.out 6
                        have hfz44_7 := blk_frozen BK365.out 7
                        have hfz44_8 := blk_frozen BK365.out 8
                        go_wp2_with (first | ((with_reducible refine gate_callee (f := 49) rfl ?_); refine goesL_ (some 62) rfl rfl Try.func49 (by kernel_rfl) rfl #[.int .u64 ((rd_T74 l0 x4_1).f3.f3)] rfl (by (try simp only [List.map_toArray, List.map_cons, List.map_nil]); first | done | rfl | (simp only [List.length_drop, List.length_take]; rfl)) ?_; (with_reducible refine (skymosaicref02_Uint.calls k2 ((rd_T74 l0 x4_1).f3.f3) t388 _ A42.out).mono ?_); rintro e w45 ⟨v389, rfl, ho0, hb⟩; refine ⟨_, rfl, ?_⟩; have n0_ := Aside0.mk (Kd.R_elder' (by (with_reducible repeat (first | apply Kd.R_alloc | apply Kd.R_drewN | apply Kd.R_drew)); exact HO_3.out) (Kd.R_base ho0) hb); have n1_ := Aside0.mk (Kd.R_below (by (with_reducible repeat (first | apply Kd.R_alloc | apply Kd.R_drewN | apply Kd.R_drew)); exact HO_6.out) hb); have n2_ := Aside0.mk (Kd.R_lower (Kd.R_new' ho0 (Kd.R_lt (by (with_reducible repeat (first | apply Kd.R_alloc | apply Kd.R_drewN | apply Kd.R_drew)); exact HO_3.out))) (below_size (by repeat (first | (with_reducible first | exact HB.out | apply below_alloc | apply pw_below_drewN | apply below_drew1 | refine below_set ?_ GE365.out) | exact HB.out)))); have n3_ := Aside0.mk (blk_below (g := gb365) (o := .cells #[.int .i64 ((rd_T74 l0 x4_1).f0), .int .i64 ((rd_T74 l0 x4_1).f1), .int .i64 ((rd_T74 l0 x4_1).f2), .int .i64 ((rd_T74 l0 x4_1).f3.f0), .int .i64 ((rd_T74 l0 x4_1).f3.f1), .int .i64 ((rd_T74 l0 x4_1).f3.f2), .int .u64 ((rd_T74 l0 x4_1).f3.f3), .int .i64 ((rd_T74 l0 x4_1).f4), .int .i64 ((rd_T74 l0 x4_1).f5)] 74 (0, 0)) (by (with_reducible repeat (first | refine blk_drewN ?_ _ | refine blk_drew ?_ | refine blk_alloc ?_ _)); exact BK365.out) hb); have n4_ := Aside0.mk (below_step (by repeat (first | (with_reducible first | exact HB.out | apply below_alloc | apply pw_below_drewN | apply below_drew1 | refine below_set ?_ GE365.out) | exact HB.out)) hb); clear HO_3; clear HO_6; clear BK365; clear HB; have HO_3 := n0_; have HO_6 := n1_; have HO390 := n2_; have BK365 := n3_; have HB := n4_; clear n0_ n1_ n2_ n3_ n4_; (try clear hb); (try clear hb2); (try clear hk); (try clear hi); (try clear ho0); obtain ⟨Ao47, co47, eo47⟩ := Kd.R_slice HO390.out; subst eo47) | ((with_reducible refine gate_builtin (b := .append) (xs := #[.tmp 58, .tmp 62]) rfl ?_); at_builtin; refine Kd.R_append_rows (Kd.int .u8) (w0 := w) w.heap.size rfl (.tmp 58) (.tmp 62) 51 5 (.int .u8 0) 1 rfl Try.underlying51 info5 rfl (by decide) (by omega) u3 x3_2 t388 _ _ _ (fun k_ => some k_ ≠ (.slice Ao47 t388.length co47 : Value).ownBlock) (fun _ => False) rfl rfl ?aO ?aR (fun _ _ h => h) (fun _ h => h.elim) ?aF ?aB ?aS ?aL ?_; (case aR => repeat (first | exact (Kd.R_reads' HO390.out).2.2 | (with_reducible refine Kd.C_alloc ?_ _) | (with_reducible refine Kd.C_drewN ?_ _) | (with_reducible refine Kd.C_drew ?_))); (case aB => exact (by repeat (first | (with_reducible first | exact HB.out | apply below_alloc | apply pw_below_drewN | apply below_drew1 | refine below_set ?_ GE365.out) | exact HB.out))); (case aF => exact (fun k_ hk => Kd.fresh' (Kd.R_lt (by (with_reducible repeat (first | apply Kd.R_alloc | apply Kd.R_drewN | apply Kd.R_drew)); exact HO390.out)) k_ hk)); (case aO => exact (by (with_reducible repeat (first | apply Kd.R_alloc | apply Kd.R_drewN | apply Kd.R_drew)); exact Kd.R_mono HO_3.out (fun _ hk => hk.2))); (case aS => exact (below_size (by repeat (first | (with_reducible first | exact HB.out | apply below_alloc | apply pw_below_drewN | apply below_drew1 | refine below_set ?_ GE365.out) | exact HB.out)))); (case aL => have := LMc43.out; omega); intro v392 w46 ho hb hg hat; rw [← Ny391.out] at ho; have n0_ := Aside0.mk (Kd.R_over' (by (with_reducible repeat (first | apply Kd.R_alloc | apply Kd.R_drewN | apply Kd.R_drew)); exact HO_6.out) (Kd.R_typed (by (with_reducible repeat (first | apply Kd.R_alloc | apply Kd.R_drewN | apply Kd.R_drew)); exact HO_3.out)) (by decide) hg); have n1_ := Aside0.mk (blk_grown (g := gb365) (o := .cells #[.int .i64 ((rd_T74 l0 x4_1).f0), .int .i64 ((rd_T74 l0 x4_1).f1), .int .i64 ((rd_T74 l0 x4_1).f2), .int .i64 ((rd_T74 l0 x4_1).f3.f0), .int .i64 ((rd_T74 l0 x4_1).f3.f1), .int .i64 ((rd_T74 l0 x4_1).f3.f2), .int .u64 ((rd_T74 l0 x4_1).f3.f3), .int .i64 ((rd_T74 l0 x4_1).f4), .int .i64 ((rd_T74 l0 x4_1).f5)] 74 (0, 0)) (by (with_reducible repeat (first | refine blk_drewN ?_ _ | refine blk_drew ?_ | refine blk_alloc ?_ _)); exact BK365.out) hg (Kd.R_ne HO_3.out BK365.out (by decide))); have n2_ := Aside0.mk (Kd.R_after (ok := (fun _ => True)) (by (with_reducible repeat (first | apply Kd.R_alloc | apply Kd.R_drewN | apply Kd.R_drew)); exact HO390.out) hg hat); have n3_ := Aside0.mk (hb); have n4_ := Aside0.mk (ho); clear HO_6; clear BK365; clear HO390; clear HB; clear HO_3; have HO_6 := n0_; have BK365 := n1_; have HO390 := n2_; have HB := n3_; have HO393 := n4_; clear n0_ n1_ n2_ n3_ n4_; clear ho hb hg hat))
                        go_roundg k2
                        case measure => have := HK1.out; have := HK2.out; omega
                        case rel => exact ⟨(y391), (wrap64 (x4_1 + 1)), (by first | rfl | (simp; done) | (simp [*]; done)), H', ⟨by have := HK1.out; have := HK2.out; omega⟩, ⟨by (with_reducible repeat (first | apply Kd.R_alloc | apply Kd.R_drewN | apply Kd.R_drew)); exact Kd.R_mono HO393.out (fun _ hk => trivial)⟩, ⟨by repeat (first | (with_reducible first | exact HB.out | apply below_alloc | apply pw_below_drewN | apply below_drew1 | refine below_set ?_ GE365.out) | exact HB.out)⟩⟩
                      · rw [if_neg c43] at H
                        exact absurd H (by simp)
            · rw [if_neg c9] at H
              exact absurd H (by simp)
          · rw [if_neg c7] at H
            exact absurd H (by simp)
        · rw [if_neg c5] at H
          exact absurd H (by simp)
      · rw [if_neg c4] at H
        have c4b0 : decide (x4_1 < (l0.length : Int)) = false := decide_eq_false c4
        clear c4
        obtain rfl := Option.some.inj H
        go_wp2
        go_ret
        exact ⟨_, by first | rfl | (simp [errW_none, errW_some] <;> rfl) | (simp [*, errW_none, errW_some] <;> rfl), by (with_reducible repeat (first | apply Kd.R_alloc | apply Kd.R_drewN | apply Kd.R_drew)); exact HO_3.out, by repeat (first | (with_reducible first | exact HB.out | apply below_alloc | apply pw_below_drewN | apply below_drew1) | exact HB.out)⟩
/-- A state of type 94 at block g of W; what its slices lead to came in by w0. -/
def IsS94 (w0 W : World) (g : Nat) (f0 : List Int) (f1 : Int) : Prop := ∃ A0 c0, W.heap[g]? = some (.cells #[.slice A0 f0.length c0, .int .i64 f1] 94 (0, 0)) ∧ w0.heap.size ≤ g ∧ Kd.C (Kd.int .u8) w0 A0 f0.length f0
theorem IsS94.grown {w0 W : World} {g : Nat} {f0 : List Int} {f1 : Int} {W1 : World} {row : Option Nat} (h : IsS94 w0 W g f0 f1) (hw : W.grownBy W1 row) (hne : some g ≠ row) : IsS94 w0 W1 g f0 f1 := by
  obtain ⟨A0, c0, hb, hg, hr0⟩ := h
  exact ⟨A0, c0, blk_grown hb hw hne, hg, hr0⟩
theorem IsS94.kept {w0 W : World} {g : Nat} {f0 : List Int} {f1 : Int} {W1 : World} {S : Nat → Prop} (h : IsS94 w0 W g f0 f1) (hk : Kept W W1 S) (hne : ¬ S g) : IsS94 w0 W1 g f0 f1 := by
  obtain ⟨A0, c0, hb, hg, hr0⟩ := h
  exact ⟨A0, c0, blk_kept hb hk hne, hg, hr0⟩
theorem IsS94.below {w0 W : World} {g : Nat} {f0 : List Int} {f1 : Int} {W1 : World} (h : IsS94 w0 W g f0 f1) (hw : Below W.heap.size W W1) : IsS94 w0 W1 g f0 f1 := h.grown (grown_of_below hw none) (by simp)
theorem IsS94.alloc {w0 W : World} {g : Nat} {f0 : List Int} {f1 : Int} (h : IsS94 w0 W g f0 f1) (o : Obj) : IsS94 w0 (W.alloc o) g f0 f1 := h.below (below_alloc (Below.refl _ _) o)
theorem IsS94.drewN {w0 W : World} {g : Nat} {f0 : List Int} {f1 : Int} (h : IsS94 w0 W g f0 f1) (m : Nat) : IsS94 w0 (W.drewN m) g f0 f1 := h
theorem IsS94.drew {w0 W : World} {g : Nat} {f0 : List Int} {f1 : Int} (h : IsS94 w0 W g f0 f1) : IsS94 w0 W.drew g f0 f1 := h
theorem IsS94.at_ {w0 W : World} {g : Nat} {f0 : List Int} {f1 : Int} {w' : World} {m : Nat} (hq : W.drewN m = w') (h : IsS94 w0 W g f0 f1) : IsS94 w0 w' g f0 f1 := by subst hq; exact IsS94.drewN h m
theorem IsS94.apart {w0 W : World} {g : Nat} {f0 : List Int} {f1 : Int} {α : Type} {d : Kd α} {e : Nat} {base : Nat} {ok : Nat → Prop} {v : Value} {xs : List α} (h : IsS94 w0 W g f0 f1) (ho : d.R e W base ok v xs) (ht : ∀ q, q ∈ e :: d.E → q ≠ 94) : d.R e W base (fun k => ok k ∧ k ≠ g) v xs := by
  obtain ⟨A0, c0, hb, hg, hr0⟩ := h
  exact Kd.R_types ho hb ht
theorem IsS94.own_ne {w0 W : World} {g : Nat} {f0 : List Int} {f1 : Int} {α : Type} {d : Kd α} {e : Nat} {base : Nat} {ok : Nat → Prop} {v : Value} {xs : List α} (h : IsS94 w0 W g f0 f1) (ho : d.R e W base ok v xs) (ht : e ≠ 94) : some g ≠ v.ownBlock := by
  obtain ⟨A0, c0, hb, hg, hr0⟩ := h
  exact Kd.R_ne ho hb ht
theorem IsS94.lt {w0 W : World} {g : Nat} {f0 : List Int} {f1 : Int} (h : IsS94 w0 W g f0 f1) : g < W.heap.size := by
  obtain ⟨A0, c0, hb, hg, hr0⟩ := h
  exact blk_lt hb
def wire_unzigzag.f (a0 : Int) : Option (Int) := some (Go.bits .xor .i64 (wrap64 (a0 / 2)) (wrap64 (-(wrap64 (Go.bits .and .u64 a0 1)))))
set_option maxHeartbeats 8000000 in
set_option maxRecDepth 100000 in
theorem wire_unzigzag.calls (a0 : Int) (r : Int) (w : World) (h : wire_unzigzag.f a0 = some r) :
    Calls Try.prog 67 #[.int .u64 a0] w fun e w' => e = .returned (.int .i64 r) ∧ Drawn0 w w' := by
  have H : (some (Go.bits .xor .i64 (wrap64 (a0 / 2)) (wrap64 (-(wrap64 (Go.bits .and .u64 a0 1)))))) = some r := h
  clear h
  obtain rfl := Option.some.inj H
  go_enter Try.func67, Try.ntmps67
  go_wp2
  go_ret
  exact ⟨by first | rfl | (simp; done) | (simp [*]; done), by repeat (first | exact Drawn0.refl _ | apply Drawn0.step)⟩
def bytes_Equal.f (l0 : List Int) (l1 : List Int) : Option (Bool) := some ((strOfNums l0).toList == (strOfNums l1).toList)
set_option maxHeartbeats 8000000 in
set_option maxRecDepth 100000 in
theorem bytes_Equal.calls (A0 : Option Addr) (c0 : Nat) (l0 : List Int) (A1 : Option Addr) (c1 : Nat) (l1 : List Int) (r : Bool) (w : World) (hr0 : Kd.C (Kd.int .u8) w A0 l0.length l0) (hc0 : l0.length ≤ c0) (hr1 : Kd.C (Kd.int .u8) w A1 l1.length l1) (hc1 : l1.length ≤ c1) (h : bytes_Equal.f l0 l1 = some r) :
    Calls Try.prog 55 #[.slice A0 l0.length c0, .slice A1 l1.length c1] w fun e w' => e = .returned (.bool r) ∧ Drawn0 w w' := by
  have HR0 := Aside0.mk hr0
  have HC0 := Aside0.mk hc0
  clear hr0 hc0
  have HR1 := Aside0.mk hr1
  have HC1 := Aside0.mk hc1
  clear hr1 hc1
  have H : (some ((strOfNums l0).toList == (strOfNums l1).toList)) = some r := h
  clear h
  obtain rfl := Option.some.inj H
  have hcv3 := Kd.C_string (P := Try.prog) (A := A0) (c := c0) Try.underlying51 Try.underlying5 Try.underlying9 HR0.out
  have hcv4 := Kd.C_string (P := Try.prog) (A := A1) (c := c1) Try.underlying51 Try.underlying5 Try.underlying9 HR1.out
  go_enter Try.func55, Try.ntmps55
  go_wp2
  go_ret
  exact ⟨by first | rfl | (simp; done) | (simp [*]; done), by repeat (first | exact Drawn0.refl _ | apply Drawn0.step)⟩
end Go.Proofs.Ytgmbjgddelcceaa.P
