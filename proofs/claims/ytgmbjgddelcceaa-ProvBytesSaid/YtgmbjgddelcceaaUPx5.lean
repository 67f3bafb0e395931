import Derived.Test.YtgmbjgddelcceaaUPx0
import Derived.Test.YtgmbjgddelcceaaUPx1
import Derived.Test.YtgmbjgddelcceaaUPx4
namespace Go.Proofs.Ytgmbjgddelcceaa.P
open Go.RowKit Go.Proofs.YtgmbjgddelcceaaW.PrintWords Go.Proofs.YtgmbjgddelcceaaW.PrintLast Go.Proofs.YtgmbjgddelcceaaW.PrintMore
attribute [local go_sem] max2_int min2_int max_two min_two max_three min_three max_four min_four   -- for this text's walks alone
set_option linter.unusedVariables false
set_option linter.unusedSimpArgs false
attribute [local go_sem high] eqA71
mutual
def skymosaicref36_Pack.l0 : Nat → List (S71) → Int → Option ((List (S74)) × Int)
  | 0, _, _ => none
  | k + 1, x0, x4 => if x4 < 256 then (if 0 ≤ x4 then (if x4 < (x0.length : Int) then ((skymosaicref36_Valid.f ((rd_T71 x0 x4).f0) ((rd_T71 x0 x4).f1) ((rd_T71 x0 x4).f2) ((rd_T71 x0 x4).f3)).bind fun t148 => (if t148 = true then (skymosaicref36_Pack.l0 k x0 (wrap64 (x4 + 1))) else (some (([] : List (S74)), 1)))) else (none)) else (none)) else (skymosaicref36_Pack.l1 k x0 ([] : List (S74)) 0)
def skymosaicref36_Pack.l1 : Nat → List (S71) → List (S74) → Int → Option ((List (S74)) × Int)
  | 0, _, _, _ => none
  | k + 1, x0, x6, x7 => if x7 < 256 then (if 0 ≤ x7 then (if x7 < (x0.length : Int) then (if (wrap64 (x7 + 1)) < (wrap64 ((wrap64 (x7 - (Int.tmod x7 16))) + 16)) then (if 0 ≤ (wrap64 (x7 + 1)) then (if (wrap64 (x7 + 1)) < (x0.length : Int) then (if ((rd_T71 x0 (wrap64 (x7 + 1))).f0) = ((rd_T71 x0 x7).f0) then (skymosaicref36_Pack.j2 k x0 x6 x7 (wrap64 ((wrap64 (x7 - (Int.tmod x7 16))) + 16)) (wrap64 (x7 + 1)) (((rd_T71 x0 (wrap64 (x7 + 1))).f3) == ((rd_T71 x0 x7).f3)) (wrap64 (Int.tdiv x7 16)) (Int.tmod x7 16) 0 ((rd_T71 x0 x7).f0) ((rd_T71 x0 x7).f1) ((rd_T71 x0 x7).f2) ((rd_T71 x0 x7).f3) 0 0) else (skymosaicref36_Pack.j2 k x0 x6 x7 (wrap64 ((wrap64 (x7 - (Int.tmod x7 16))) + 16)) (wrap64 (x7 + 1)) false (wrap64 (Int.tdiv x7 16)) (Int.tmod x7 16) 0 ((rd_T71 x0 x7).f0) ((rd_T71 x0 x7).f1) ((rd_T71 x0 x7).f2) ((rd_T71 x0 x7).f3) 0 0)) else (none)) else (none)) else (skymosaicref36_Pack.j2 k x0 x6 x7 (wrap64 ((wrap64 (x7 - (Int.tmod x7 16))) + 16)) (wrap64 (x7 + 1)) false (wrap64 (Int.tdiv x7 16)) (Int.tmod x7 16) 0 ((rd_T71 x0 x7).f0) ((rd_T71 x0 x7).f1) ((rd_T71 x0 x7).f2) ((rd_T71 x0 x7).f3) 0 0)) else (none)) else (none)) else (some (x6, 0))
def skymosaicref36_Pack.j2 : Nat → List (S71) → List (S74) → Int → Int → Int → Bool → Int → Int → Int → Int → Int → Int → Int → Int → Int → Option ((List (S74)) × Int)
  | 0, _, _, _, _, _, _, _, _, _, _, _, _, _, _, _ => none
  | k + 1, x0, x6, x7, x8, x10, x71, x151000, x151001, x151002, x151003, x151004, x151005, x151006, x151007, x151008 => if x71 = true then (if 0 ≤ x10 then (if x10 < (x0.length : Int) then (if 0 ≤ x7 then (if x7 < (x0.length : Int) then (skymosaicref36_Pack.l2 k x0 x6 x7 x8 x10 x151000 x151001 x151002 x151003 x151004 x151005 x151006 (wrap64 (((rd_T71 x0 x10).f1) - ((rd_T71 x0 x7).f1))) (wrap64 (((rd_T71 x0 x10).f2) - ((rd_T71 x0 x7).f2)))) else (none)) else (none)) else (none)) else (none)) else (if x6.length < 1954687338268 then (skymosaicref36_Pack.l1 k x0 (x6 ++ [(⟨x151000, x151001, wrap64 ((wrap64 (x151001 + x10)) - x7), (⟨x151003, x151004, x151005, x151006⟩ : S71), x151007, x151008⟩ : S74)]) x10) else (none))
def skymosaicref36_Pack.l2 : Nat → List (S71) → List (S74) → Int → Int → Int → Int → Int → Int → Int → Int → Int → Int → Int → Int → Option ((List (S74)) × Int)
  | 0, _, _, _, _, _, _, _, _, _, _, _, _, _, _ => none
  | k + 1, x0, x6, x7, x8, x10, x151000, x151001, x151002, x151003, x151004, x151005, x151006, x151007, x151008 => if x10 < x8 then (if 0 ≤ x10 then (if x10 < (x0.length : Int) then (if 0 ≤ (wrap64 (x10 - 1)) then (if (wrap64 (x10 - 1)) < (x0.length : Int) then ((skymosaicref36_next.f ((rd_T71 x0 (wrap64 (x10 - 1))).f0) ((rd_T71 x0 (wrap64 (x10 - 1))).f1) ((rd_T71 x0 (wrap64 (x10 - 1))).f2) ((rd_T71 x0 (wrap64 (x10 - 1))).f3) x151007 x151008).bind fun bt161 => (if (((rd_T71 x0 x10).f0) == bt161.1 && (((rd_T71 x0 x10).f1) == bt161.2.1 && (((rd_T71 x0 x10).f2) == bt161.2.2.1 && (((rd_T71 x0 x10).f3) == bt161.2.2.2)))) = true then (skymosaicref36_Pack.l2 k x0 x6 x7 x8 (wrap64 (x10 + 1)) x151000 x151001 x151002 x151003 x151004 x151005 x151006 x151007 x151008) else (if x6.length < 1954687338268 then (skymosaicref36_Pack.l1 k x0 (x6 ++ [(⟨x151000, x151001, wrap64 ((wrap64 (x151001 + x10)) - x7), (⟨x151003, x151004, x151005, x151006⟩ : S71), x151007, x151008⟩ : S74)]) x10) else (none)))) else (none)) else (none)) else (none)) else (none)) else (if x6.length < 1954687338268 then (skymosaicref36_Pack.l1 k x0 (x6 ++ [(⟨x151000, x151001, wrap64 ((wrap64 (x151001 + x10)) - x7), (⟨x151003, x151004, x151005, x151006⟩ : S71), x151007, x151008⟩ : S74)]) x10) else (none))
end
def skymosaicref36_Pack.f (k : Nat) (l0 : List (S71)) : Option ((List (S74)) × Int) := if (l0.length : Int) = 256 then (skymosaicref36_Pack.l0 k l0 0) else (some (([] : List (S74)), 1))
def skymosaicref36_Pack.T15 : Bool × List (List Nat × List Nat) := (true, [([], []), ([], []), ([0, 1], [0, 1]), ([2], [2]), ([3], [3]), ([3], [3]), ([4, 5, 3], [3, 4, 5]), ([6, 3], [3, 6]), ([7, 3], [3, 7]), ([3], [3]), ([3], [3]), ([9, 10, 3], [3, 9, 10]), ([11, 3], [3, 11]), ([12, 3], [3, 12]), ([8, 13, 3], [3, 8, 13]), ([3, 14], [3, 14]), ([15, 3], [15]), ([16], [16]), ([16], [16]), ([17, 18, 16], [16, 17, 18]), ([19, 16], [16, 19]), ([20, 16], [16, 20]), ([16], [16]), ([16], [16]), ([22, 23, 16], [16, 22, 23]), ([24, 16], [16, 24]), ([25, 16], [16, 25]), ([21, 26, 16], [16, 21, 26]), ([16, 27], [16, 27])])
def skymosaicref36_Pack.B15 : List Nat := [0, 0, 3, 7, 15, 15, 63, 127, 255, 15, 15, 1551, 3599, 7695, 16383, 32767, 65535, 131071, 131071, 524287, 1048575, 2097151, 131071, 131071, 12713983, 29491199, 63045631, 134217727, 268435455]
theorem skymosaicref36_Pack.tab15 : rtab .any (opsOf Try.f12 15) = skymosaicref36_Pack.T15 := by kernel_rfl
theorem skymosaicref36_Pack.bits15 : waitsOk skymosaicref36_Pack.T15.2 skymosaicref36_Pack.B15 = true := by kernel_rfl
def skymosaicref36_Pack.T16 : Bool × List (List Nat × List Nat) := (true, [([], []), ([], []), ([0, 1], [0, 1]), ([2], [2]), ([3], [3]), ([], []), ([], []), ([5, 6], [5, 6]), ([7], [7]), ([8], [8]), ([4, 9], [4, 9]), ([0, 1, 2, 3, 4, 5, 6, 7, 8, 9, 10], []), ([11, 10, 0, 1, 2, 3, 4, 5, 6, 7, 8, 9, 10], [10, 11])])
def skymosaicref36_Pack.B16 : List Nat := [0, 0, 3, 7, 15, 0, 0, 96, 224, 480, 1023, 2047, 4095]
theorem skymosaicref36_Pack.tab16 : rtab .any (opsOf Try.f12 16) = skymosaicref36_Pack.T16 := by kernel_rfl
theorem skymosaicref36_Pack.bits16 : waitsOk skymosaicref36_Pack.T16.2 skymosaicref36_Pack.B16 = true := by kernel_rfl
def skymosaicref36_Pack.T17 : Bool × List (List Nat × List Nat) := (true, [([], []), ([], []), ([0, 1], [0, 1]), ([2], [2]), ([3], [3]), ([], []), ([], []), ([5, 6], [5, 6]), ([7], [7]), ([8], [8]), ([4, 9], [4, 9]), ([0, 1, 2, 3, 4, 5, 6, 7, 8, 9, 10], []), ([11, 10, 0, 1, 2, 3, 4, 5, 6, 7, 8, 9, 10], [10, 11])])
def skymosaicref36_Pack.B17 : List Nat := [0, 0, 3, 7, 15, 0, 0, 96, 224, 480, 1023, 2047, 4095]
theorem skymosaicref36_Pack.tab17 : rtab .any (opsOf Try.f12 17) = skymosaicref36_Pack.T17 := by kernel_rfl
theorem skymosaicref36_Pack.bits17 : waitsOk skymosaicref36_Pack.T17.2 skymosaicref36_Pack.B17 = true := by kernel_rfl
def skymosaicref36_Pack.T18 : Bool × List (List Nat × List Nat) := (true, [([], []), ([], []), ([0, 1], [0, 1]), ([2], [2]), ([3], [3]), ([3], [3]), ([4, 5, 3], [3, 4, 5]), ([6, 3], [3, 6]), ([3], [3]), ([3], [3]), ([9, 3], [3, 9]), ([8, 10, 3], [3, 8, 10]), ([11, 3], [3, 11]), ([3], [3]), ([13, 3], [3, 13]), ([3], [3]), ([15, 3], [3, 15]), ([12, 14, 16, 3, 3], [3, 12, 14, 16]), ([7, 17, 3], [3, 7, 17]), ([3, 18], [3, 18])])
def skymosaicref36_Pack.B18 : List Nat := [0, 0, 3, 7, 15, 15, 63, 127, 15, 15, 527, 1807, 3855, 15, 8207, 15, 32783, 130831, 262143, 524287]
theorem skymosaicref36_Pack.tab18 : rtab .any (opsOf Try.f12 18) = skymosaicref36_Pack.T18 := by kernel_rfl
theorem skymosaicref36_Pack.bits18 : waitsOk skymosaicref36_Pack.T18.2 skymosaicref36_Pack.B18 = true := by kernel_rfl
set_option maxHeartbeats 8000000 in
set_option maxRecDepth 100000 in
theorem skymosaicref36_Pack.calls (k : Nat) (A0 : Option Addr) (c0 : Nat) (l0 : List (S71)) (r1 : List (S74)) (r2 : Int) (w : World) (hr0 : Kd.C k71 w A0 l0.length l0) (hc0 : l0.length ≤ c0) (h : skymosaicref36_Pack.f k l0 = some (r1, r2)) :
    Calls Try.prog 12 #[.slice A0 l0.length c0] w fun e w' => ∃ v0_ : Value, e = .returned (.tuple #[v0_, .int .i64 r2]) ∧ Kd.R k74 74 w' w.heap.size (fun _ => True) v0_ r1 ∧ Below w.heap.size w w' := by
  have hu71 := Try.underlying71
  have hu74 := Try.underlying74
  have HR0 := Aside0.mk hr0
  have HC0 := Aside0.mk hc0
  clear hr0 hc0
  have HB := Aside0.mk (Below.refl w.heap.size w)
  have H : (if (l0.length : Int) = 256 then (skymosaicref36_Pack.l0 k l0 0) else (some (([] : List (S74)), 1))) = some (r1, r2) := h
  clear h
  by_cases c2 : (l0.length : Int) = 256
  · rw [if_pos c2] at H
    have c2b0 : ((l0.length : Int) == 256) = true := beq_iff_eq.mpr c2
    have c2b1 : ((l0.length : Int) != 256) = false := bne_eq_false_iff_eq.mpr c2
    clear c2
    have H' := Aside0.mk H
    clear H
    go_enter Try.func12, Try.ntmps12
    go_wp2
    go_loopg [4] k (fun kq v4 w' => ∃ (x4_1 : Int), v4 = .int .i64 x4_1 ∧ Aside0 (skymosaicref36_Pack.l0 kq l0 x4_1 = some (r1, r2)) ∧ Aside0 (kq ≤ k) ∧ Aside0 (Below w.heap.size w w'))
    case atStart => exact ⟨(0), (by first | rfl | (simp; done) | (simp [*]; done)), H', ⟨Nat.le_refl _⟩, ⟨by repeat (first | (with_reducible first | exact HB.out | apply below_alloc | apply pw_below_drewN | apply below_drew1) | exact HB.out)⟩⟩
    case round =>
      clear H'
      try clear c1
      try clear c2
      try clear c2b0
      try clear c2b1
      try clear p2
      obtain ⟨x4_1, rfl, HA, HK1, HB⟩ := hrel
      cases gk with
      | zero => exact absurd HA.out (by simp [skymosaicref36_Pack.l0])
      | succ k1 =>
        have H := HA.out
        clear HA
        simp only [skymosaicref36_Pack.l0] at H
        by_cases c3 : x4_1 < 256
        · rw [if_pos c3] at H
          have c3b0 : decide (x4_1 < 256) = true := decide_eq_true c3
          clear c3
          by_cases c4 : 0 ≤ x4_1
          · rw [if_pos c4] at H
            have c4b0 : decide (0 ≤ x4_1) = true := decide_eq_true c4
            clear c4
            by_cases c5 : x4_1 < (l0.length : Int)
            · rw [if_pos c5] at H
              have c5b0 : decide (x4_1 < (l0.length : Int)) = true := decide_eq_true c5
              clear c5
              replace H := Option.bind_eq_some_iff.mp H
              obtain ⟨t148, A60, H⟩ := H
              replace H : (if t148 = true then (skymosaicref36_Pack.l0 k1 l0 (wrap64 (x4_1 + 1))) else (some (([] : List (S74)), 1))) = some (r1, r2) := H
              have A6 := Aside0.mk A60
              clear A60
              by_cases c7 : t148 = true
              · subst c7
                have H1 : (skymosaicref36_Pack.l0 k1 l0 (wrap64 (x4_1 + 1))) = some (r1, r2) := by rw [if_pos rfl] at H; exact H
                clear H
                have H := H1
                clear H1
                have H' := Aside0.mk H
                clear H
                have p147 : 0 ≤ (x4_1 : Int) := of_decide_eq_true (by first | (with_reducible assumption) | assumption)
                have q147 : x4_1 < (l0.length : Int) := of_decide_eq_true (by first | (with_reducible assumption) | assumption)
                obtain ⟨ad147, e147, hx147_0, hx147_1, hx147_2, hx147_3⟩ := at_T71 HR0.out x4_1 p147 q147
                cases e147
                replace hx147_0 := (HB.out.cell (World.block_lt_of_cell? w _ hx147_0)).trans hx147_0
                replace hx147_1 := (HB.out.cell (World.block_lt_of_cell? w _ hx147_1)).trans hx147_1
                replace hx147_2 := (HB.out.cell (World.block_lt_of_cell? w _ hx147_2)).trans hx147_2
                replace hx147_3 := (HB.out.cell (World.block_lt_of_cell? w _ hx147_3)).trans hx147_3
                replace p147 := eq_true p147
                replace q147 := eq_true q147
                go_wp2_with (first | ((with_reducible refine gate_callee (f := 42) rfl ?_); refine goesL_ (some 22) rfl rfl Try.func42 (by kernel_rfl) rfl #[.agg #[.int .i64 ((rd_T71 l0 x4_1).f0), .int .i64 ((rd_T71 l0 x4_1).f1), .int .i64 ((rd_T71 l0 x4_1).f2), .int .u64 ((rd_T71 l0 x4_1).f3)]] rfl (by (try simp only [List.map_toArray, List.map_cons, List.map_nil]); first | done | rfl | (simp only [List.length_drop, List.length_take]; rfl)) ?_; (with_reducible refine (skymosaicref36_Valid.calls ((rd_T71 l0 x4_1).f0) ((rd_T71 l0 x4_1).f1) ((rd_T71 l0 x4_1).f2) ((rd_T71 l0 x4_1).f3) true _ A6.out).mono ?_); rintro e w8 ⟨rfl, hb⟩; refine ⟨_, rfl, ?_⟩; have n0_ := Aside0.mk (below_step (by repeat (first | (with_reducible first | exact HB.out | apply below_alloc | apply pw_below_drewN | apply below_drew1) | exact HB.out)) hb); clear HB; have HB := n0_; clear n0_; (try clear hb); (try clear hb2); (try clear hk); (try clear hi)))
                go_roundg k1
                case measure => have := HK1.out; omega
                case rel => exact ⟨(wrap64 (x4_1 + 1)), (by first | rfl | (simp; done) | (simp [*]; done)), (by first | exact H' | (rw [hji17]; exact H')), ⟨by have := HK1.out; omega⟩, ⟨by repeat (first | (with_reducible first | exact HB.out | apply below_alloc | apply pw_below_drewN | apply below_drew1) | exact HB.out)⟩⟩
              · replace c7 := Bool.eq_false_iff.mpr c7
                subst c7
                have H1 : (some (([] : List (S74)), 1)) = some (r1, r2) := by rw [if_neg (show ¬ (false = true) by decide)] at H; exact H
                clear H
                have H := H1
                clear H1
                simp only [Option.some.injEq, Prod.mk.injEq] at H
                obtain ⟨rfl, rfl⟩ := H
                have p147 : 0 ≤ (x4_1 : Int) := of_decide_eq_true (by first | (with_reducible assumption) | assumption)
                have q147 : x4_1 < (l0.length : Int) := of_decide_eq_true (by first | (with_reducible assumption) | assumption)
                obtain ⟨ad147, e147, hx147_0, hx147_1, hx147_2, hx147_3⟩ := at_T71 HR0.out x4_1 p147 q147
                cases e147
                replace hx147_0 := (HB.out.cell (World.block_lt_of_cell? w _ hx147_0)).trans hx147_0
                replace hx147_1 := (HB.out.cell (World.block_lt_of_cell? w _ hx147_1)).trans hx147_1
                replace hx147_2 := (HB.out.cell (World.block_lt_of_cell? w _ hx147_2)).trans hx147_2
                replace hx147_3 := (HB.out.cell (World.block_lt_of_cell? w _ hx147_3)).trans hx147_3
                replace p147 := eq_true p147
                replace q147 := eq_true q147
                go_wp2_with (first | ((with_reducible refine gate_callee (f := 42) rfl ?_); refine goesL_ (some 22) rfl rfl Try.func42 (by kernel_rfl) rfl #[.agg #[.int .i64 ((rd_T71 l0 x4_1).f0), .int .i64 ((rd_T71 l0 x4_1).f1), .int .i64 ((rd_T71 l0 x4_1).f2), .int .u64 ((rd_T71 l0 x4_1).f3)]] rfl (by (try simp only [List.map_toArray, List.map_cons, List.map_nil]); first | done | rfl | (simp only [List.length_drop, List.length_take]; rfl)) ?_; (with_reducible refine (skymosaicref36_Valid.calls ((rd_T71 l0 x4_1).f0) ((rd_T71 l0 x4_1).f1) ((rd_T71 l0 x4_1).f2) ((rd_T71 l0 x4_1).f3) false _ A6.out).mono ?_); rintro e w9 ⟨rfl, hb⟩; refine ⟨_, rfl, ?_⟩; have n0_ := Aside0.mk (below_step (by repeat (first | (with_reducible first | exact HB.out | apply below_alloc | apply pw_below_drewN | apply below_drew1) | exact HB.out)) hb); clear HB; have HB := n0_; clear n0_; (try clear hb); (try clear hb2); (try clear hk); (try clear hi)))
                go_ret2
                exact ⟨_, by first | rfl | (simp [errW_none, errW_some] <;> rfl) | (simp [*, errW_none, errW_some] <;> rfl), by first | exact Kd.R_nil _ _ _ _ _ | exact Kd.N_nil _ _ _ _ _ | exact Kd.V_nil _ _ _ _ _ | exact Kd.Q_nil _ _ _ _ _ | exact Kd.S_nil _ _ _ _ _, by repeat (first | (with_reducible first | exact HB.out | apply below_alloc | apply pw_below_drewN | apply below_drew1) | exact HB.out)⟩
            · rw [if_neg c5] at H
              exact absurd H (by simp)
          · rw [if_neg c4] at H
            exact absurd H (by simp)
        · rw [if_neg c3] at H
          have c3b0 : decide (x4_1 < 256) = false := decide_eq_false c3
          clear c3
          have H' := Aside0.mk H
          clear H
          go_wp2
          go_loopg [6, 7] k1 (fun kq v6 v7 w' => ∃ (x6_2 : List (S74)) (x7_2 : Int), v7 = .int .i64 x7_2 ∧ Aside0 (skymosaicref36_Pack.l1 kq l0 x6_2 x7_2 = some (r1, r2)) ∧ Aside0 (kq ≤ k1) ∧ Aside0 (Kd.R k74 74 w' w.heap.size (fun _ => True) v6 x6_2) ∧ Aside0 (Below w.heap.size w w'))
          case atStart => exact ⟨(([] : List (S74))), (0), (by first | rfl | (simp; done) | (simp [*]; done)), H', ⟨Nat.le_refl _⟩, ⟨by first | exact Kd.R_nil _ _ _ _ _ | exact Kd.N_nil _ _ _ _ _ | exact Kd.V_nil _ _ _ _ _ | exact Kd.Q_nil _ _ _ _ _ | exact Kd.S_nil _ _ _ _ _⟩, ⟨by repeat (first | (with_reducible first | exact HB.out | apply below_alloc | apply pw_below_drewN | apply below_drew1) | exact HB.out)⟩⟩
          case round =>
            clear H'
            try clear c1
            try clear p1
            try clear q1
            try clear hx1
            try clear c2
            try clear c2b0
            try clear c2b1
            try clear p2
            try clear c3
            try clear c3b0
            try clear c4
            try clear c4b0
            try clear c5
            try clear c5b0
            try clear p6
            try clear c7
            try clear hx147_0
            try clear hx147_1
            try clear hx147_2
            try clear hx147_3
            try clear p147
            try clear p2
            try clear q147
            obtain ⟨x6_2, x7_2, rfl, HA, HK2, HO_6, HB⟩ := hrel
            cases gk with
            | zero => exact absurd HA.out (by simp [skymosaicref36_Pack.l1])
            | succ k2 =>
              have H := HA.out
              clear HA
              simp only [skymosaicref36_Pack.l1] at H
              by_cases c10 : x7_2 < 256
              · rw [if_pos c10] at H
                have c10b0 : decide (x7_2 < 256) = true := decide_eq_true c10
                clear c10
                by_cases c11 : 0 ≤ x7_2
                · rw [if_pos c11] at H
                  have c11b0 : decide (0 ≤ x7_2) = true := decide_eq_true c11
                  clear c11
                  by_cases c12 : x7_2 < (l0.length : Int)
                  · rw [if_pos c12] at H
                    have c12b0 : decide (x7_2 < (l0.length : Int)) = true := decide_eq_true c12
                    clear c12
                    have HC13 := Aside0.mk H
                    clear H
                    have p149 : 0 ≤ (x7_2 : Int) := of_decide_eq_true (by first | (with_reducible assumption) | assumption)
                    have q149 : x7_2 < (l0.length : Int) := of_decide_eq_true (by first | (with_reducible assumption) | assumption)
                    obtain ⟨ad149, e149, hx149_0, hx149_1, hx149_2, hx149_3⟩ := at_T71 HR0.out x7_2 p149 q149
                    cases e149
                    replace hx149_0 := (HB.out.cell (World.block_lt_of_cell? w _ hx149_0)).trans hx149_0
                    replace hx149_1 := (HB.out.cell (World.block_lt_of_cell? w _ hx149_1)).trans hx149_1
                    replace hx149_2 := (HB.out.cell (World.block_lt_of_cell? w _ hx149_2)).trans hx149_2
                    replace hx149_3 := (HB.out.cell (World.block_lt_of_cell? w _ hx149_3)).trans hx149_3
                    replace p149 := eq_true p149
                    replace q149 := eq_true q149
                    go_upto_region 15 with (first | ((with_reducible refine gate_dst (N := 9) rfl ?_); refine box_event ?hg (N := 9) ?hd (cs := #[.int .i64 0, .int .i64 0, .int .i64 0, .int .i64 0, .int .i64 0, .int .i64 0, .int .u64 0, .int .i64 0, .int .i64 0]) (t := 74) ?hr ?_; (case hd => rfl); (case hg => rfl); (case hr => first | (go_simp; done) | (go_simp; rfl)); intro gb150 hg w14 hbox hb; have n0_ := Aside0.mk (Kd.R_below (Kd.R_elderB (by (with_reducible repeat (first | apply Kd.R_alloc | apply Kd.R_drewN | apply Kd.R_drew)); exact HO_6.out) gb150 (Nat.le_of_eq hg.symm)) hb); have n1_ := Aside0.mk (below_step (by repeat (first | (with_reducible first | exact HB.out | apply below_alloc | apply pw_below_drewN | apply below_drew1) | exact HB.out)) hb); have n2_ := Aside0.mk (hbox); have n3_ := Aside0.mk ((by rw [hg]; exact (below_size (by repeat (first | (with_reducible first | exact HB.out | apply below_alloc | apply pw_below_drewN | apply below_drew1) | exact HB.out))) : w.heap.size ≤ gb150)); have n4_ := Aside0.mk ((by rw [hg]; exact (below_size (by repeat (first | (with_reducible first | exact HB.out | apply below_alloc | apply pw_below_drewN | apply below_drew1) | exact HB.out))) : w.heap.size ≤ gb150)); clear HO_6; clear HB; have HO_6 := n0_; have HB := n1_; have BK150 := n2_; have GW150 := n3_; have GE150 := n4_; clear n0_ n1_ n2_ n3_ n4_; clear hb hbox hg; have hcz15_0 : w14.cell? ⟨gb150, 0, none⟩ = some (.int .i64 0) := (blk_cell BK150.out 0).trans rfl; have hcz15_1 : w14.cell? ⟨gb150, 1, none⟩ = some (.int .i64 0) := (blk_cell BK150.out 1).trans rfl; have hcz15_2 : w14.cell? ⟨gb150, 2, none⟩ = some (.int .i64 0) := (blk_cell BK150.out 2).trans rfl; have hcz15_3 : w14.cell? ⟨gb150, 3, none⟩ = some (.int .i64 0) := (blk_cell BK150.out 3).trans rfl; have hcz15_4 : w14.cell? ⟨gb150, 4, none⟩ = some (.int .i64 0) := (blk_cell BK150.out 4).trans rfl; have hcz15_5 : w14.cell? ⟨gb150, 5, none⟩ = some (.int .i64 0) := (blk_cell BK150.out 5).trans rfl; have hcz15_6 : w14.cell? ⟨gb150, 6, none⟩ = some (.int .u64 0) := (blk_cell BK150.out 6).trans rfl; have hcz15_7 : w14.cell? ⟨gb150, 7, none⟩ = some (.int .i64 0) := (blk_cell BK150.out 7).trans rfl; have hcz15_8 : w14.cell? ⟨gb150, 8, none⟩ = some (.int .i64 0) := (blk_cell BK150.out 8).trans rfl; have hfz15_0 := blk_frozen BK150.out 0; have hfz15_1 := blk_frozen BK150.out 1; have hfz15_2 := blk_frozen BK150.out 2; have hfz15_3 := blk_frozen BK150.out 3; have hfz15_4 := blk_frozen BK150.out 4; have hfz15_5 := blk_frozen BK150.out 5; have hfz15_6 := blk_frozen BK150.out 6; have hfz15_7 := blk_frozen BK150.out 7; have hfz15_8 := blk_frozen BK150.out 8))
                    (try simp only [Act.put, List.setIfInBounds_toArray, List.set_cons_zero, List.set_cons_succ])
                    go_cut [71] (fun v71 wc => ∃ (kq : Nat) (x71_12 : Bool), v71 = .bool x71_12 ∧ Aside0 (skymosaicref36_Pack.j2 kq l0 x6_2 x7_2 (wrap64 ((wrap64 (x7_2 - (Int.tmod x7_2 16))) + 16)) (wrap64 (x7_2 + 1)) x71_12 (wrap64 (Int.tdiv x7_2 16)) (Int.tmod x7_2 16) 0 ((rd_T71 l0 x7_2).f0) ((rd_T71 l0 x7_2).f1) ((rd_T71 l0 x7_2).f2) ((rd_T71 l0 x7_2).f3) 0 0 = some (r1, r2)) ∧ Aside0 (kq ≤ k2) ∧ Aside0 (Kd.R k74 74 wc w.heap.size (fun k_ => k_ ≠ gb150) u6 x6_2) ∧ Aside0 (wc.heap[gb150]? = some (.cells #[.int .i64 (wrap64 (Int.tdiv x7_2 16)), .int .i64 (Int.tmod x7_2 16), .int .i64 0, .int .i64 ((rd_T71 l0 x7_2).f0), .int .i64 ((rd_T71 l0 x7_2).f1), .int .i64 ((rd_T71 l0 x7_2).f2), .int .u64 ((rd_T71 l0 x7_2).f3), .int .i64 0, .int .i64 0] 74 (0, 0))) ∧ Aside0 (Below w.heap.size w wc))
                    case first =>
                      have H := HC13.out
                      clear HC13
                      by_cases c16 : (wrap64 (x7_2 + 1)) < (wrap64 ((wrap64 (x7_2 - (Int.tmod x7_2 16))) + 16))
                      · rw [if_pos c16] at H
                        have c16b0 : decide ((wrap64 (x7_2 + 1)) < (wrap64 ((wrap64 (x7_2 - (Int.tmod x7_2 16))) + 16))) = true := decide_eq_true c16
                        clear c16
                        (first | rw [c16b0] | (simp only [i64_w, i32_w]; rw [c16b0]) | skip)
                        obtain ⟨ji17, hji17⟩ : ∃ j_ : Int, (wrap64 (x7_2 + 1)) = j_ := ⟨_, rfl⟩
                        replace H : (if 0 ≤ (ji17) then (if (ji17) < (l0.length : Int) then (if ((rd_T71 l0 (ji17)).f0) = ((rd_T71 l0 x7_2).f0) then (skymosaicref36_Pack.j2 k2 l0 x6_2 x7_2 (wrap64 ((wrap64 (x7_2 - (Int.tmod x7_2 16))) + 16)) ji17 (((rd_T71 l0 (ji17)).f3) == ((rd_T71 l0 x7_2).f3)) (wrap64 (Int.tdiv x7_2 16)) (Int.tmod x7_2 16) 0 ((rd_T71 l0 x7_2).f0) ((rd_T71 l0 x7_2).f1) ((rd_T71 l0 x7_2).f2) ((rd_T71 l0 x7_2).f3) 0 0) else (skymosaicref36_Pack.j2 k2 l0 x6_2 x7_2 (wrap64 ((wrap64 (x7_2 - (Int.tmod x7_2 16))) + 16)) ji17 false (wrap64 (Int.tdiv x7_2 16)) (Int.tmod x7_2 16) 0 ((rd_T71 l0 x7_2).f0) ((rd_T71 l0 x7_2).f1) ((rd_T71 l0 x7_2).f2) ((rd_T71 l0 x7_2).f3) 0 0)) else (none)) else (none)) = some (r1, r2) := by first | (rw [hji17] at H; exact H) | (simp only [hji17] at H ⊢; exact H)
                        (try rw [hji17] at c16b0)
                        have hji17w : (IntKind.i64.wrap (x7_2 + 1)) = ji17 := (i64_w _).trans hji17
                        by_cases c18 : 0 ≤ (ji17)
                        · rw [if_pos c18] at H
                          have c18b0 : decide (0 ≤ (ji17)) = true := decide_eq_true c18
                          clear c18
                          by_cases c19 : (ji17) < (l0.length : Int)
                          · rw [if_pos c19] at H
                            have c19b0 : decide ((ji17) < (l0.length : Int)) = true := decide_eq_true c19
                            clear c19
                            by_cases c20 : ((rd_T71 l0 (ji17)).f0) = ((rd_T71 l0 x7_2).f0)
                            · rw [if_pos c20] at H
                              have c20b0 : (((rd_T71 l0 (ji17)).f0) == ((rd_T71 l0 x7_2).f0)) = true := beq_iff_eq.mpr c20
                              have c20b1 : (((rd_T71 l0 (ji17)).f0) != ((rd_T71 l0 x7_2).f0)) = false := bne_eq_false_iff_eq.mpr c20
                              clear c20
                              have H' := Aside0.mk H
                              clear H
                              try go_wp2
                              have n0_ : Aside0 (Kd.R k74 74 (((((((((w14.setCell ⟨gb150, 0, none⟩ (.int .i64 (wrap64 (Int.tdiv x7_2 16)))).setCell ⟨gb150, 1, none⟩ (.int .i64 (Int.tmod x7_2 16))).setCell ⟨gb150, 2, none⟩ (.int .i64 0)).setCell ⟨gb150, 3, none⟩ (.int .i64 ((rd_T71 l0 x7_2).f0))).setCell ⟨gb150, 4, none⟩ (.int .i64 ((rd_T71 l0 x7_2).f1))).setCell ⟨gb150, 5, none⟩ (.int .i64 ((rd_T71 l0 x7_2).f2))).setCell ⟨gb150, 6, none⟩ (.int .u64 ((rd_T71 l0 x7_2).f3))).setCell ⟨gb150, 7, none⟩ (.int .i64 0)).setCell ⟨gb150, 8, none⟩ (.int .i64 0)) w.heap.size (fun k_ => k_ ≠ gb150) u6 x6_2) := ⟨by (with_reducible repeat (first | apply Kd.R_alloc | apply Kd.R_drewN | apply Kd.R_drew)); exact Kd.R_mono (Kd.R_far (p := ⟨gb150, 8, none⟩) (Kd.R_far (p := ⟨gb150, 7, none⟩) (Kd.R_far (p := ⟨gb150, 6, none⟩) (Kd.R_far (p := ⟨gb150, 5, none⟩) (Kd.R_far (p := ⟨gb150, 4, none⟩) (Kd.R_far (p := ⟨gb150, 3, none⟩) (Kd.R_far (p := ⟨gb150, 2, none⟩) (Kd.R_far (p := ⟨gb150, 1, none⟩) (Kd.R_far (p := ⟨gb150, 0, none⟩) (Kd.R_mono HO_6.out (fun k_ hk => (⟨hk, hk.2⟩ : _ ∧ k_ ≠ gb150))) (fun _ hk => hk.2) (.int .i64 (wrap64 (Int.tdiv x7_2 16)))) (fun _ hk => hk.2) (.int .i64 (Int.tmod x7_2 16))) (fun _ hk => hk.2) (.int .i64 0)) (fun _ hk => hk.2) (.int .i64 ((rd_T71 l0 x7_2).f0))) (fun _ hk => hk.2) (.int .i64 ((rd_T71 l0 x7_2).f1))) (fun _ hk => hk.2) (.int .i64 ((rd_T71 l0 x7_2).f2))) (fun _ hk => hk.2) (.int .u64 ((rd_T71 l0 x7_2).f3))) (fun _ hk => hk.2) (.int .i64 0)) (fun _ hk => hk.2) (.int .i64 0)) (fun _ hk => hk.1.2)⟩
                              have n1_ : Aside0 ((((((((((w14.setCell ⟨gb150, 0, none⟩ (.int .i64 (wrap64 (Int.tdiv x7_2 16)))).setCell ⟨gb150, 1, none⟩ (.int .i64 (Int.tmod x7_2 16))).setCell ⟨gb150, 2, none⟩ (.int .i64 0)).setCell ⟨gb150, 3, none⟩ (.int .i64 ((rd_T71 l0 x7_2).f0))).setCell ⟨gb150, 4, none⟩ (.int .i64 ((rd_T71 l0 x7_2).f1))).setCell ⟨gb150, 5, none⟩ (.int .i64 ((rd_T71 l0 x7_2).f2))).setCell ⟨gb150, 6, none⟩ (.int .u64 ((rd_T71 l0 x7_2).f3))).setCell ⟨gb150, 7, none⟩ (.int .i64 0)).setCell ⟨gb150, 8, none⟩ (.int .i64 0)).heap[gb150]? = some (.cells #[.int .i64 (wrap64 (Int.tdiv x7_2 16)), .int .i64 (Int.tmod x7_2 16), .int .i64 0, .int .i64 ((rd_T71 l0 x7_2).f0), .int .i64 ((rd_T71 l0 x7_2).f1), .int .i64 ((rd_T71 l0 x7_2).f2), .int .u64 ((rd_T71 l0 x7_2).f3), .int .i64 0, .int .i64 0] 74 (0, 0))) := ⟨by (with_reducible repeat (first | refine blk_drewN ?_ _ | refine blk_drew ?_ | refine blk_alloc ?_ _)); refine blk_put (cs := #[.int .i64 (wrap64 (Int.tdiv x7_2 16)), .int .i64 (Int.tmod x7_2 16), .int .i64 0, .int .i64 ((rd_T71 l0 x7_2).f0), .int .i64 ((rd_T71 l0 x7_2).f1), .int .i64 ((rd_T71 l0 x7_2).f2), .int .u64 ((rd_T71 l0 x7_2).f3), .int .i64 0, .int .i64 0]) ?_ 8 _ rfl; (with_reducible repeat (first | refine blk_drewN ?_ _ | refine blk_drew ?_ | refine blk_alloc ?_ _)); refine blk_put (cs := #[.int .i64 (wrap64 (Int.tdiv x7_2 16)), .int .i64 (Int.tmod x7_2 16), .int .i64 0, .int .i64 ((rd_T71 l0 x7_2).f0), .int .i64 ((rd_T71 l0 x7_2).f1), .int .i64 ((rd_T71 l0 x7_2).f2), .int .u64 ((rd_T71 l0 x7_2).f3), .int .i64 0, .int .i64 0]) ?_ 7 _ rfl; (with_reducible repeat (first | refine blk_drewN ?_ _ | refine blk_drew ?_ | refine blk_alloc ?_ _)); refine blk_put (cs := #[.int .i64 (wrap64 (Int.tdiv x7_2 16)), .int .i64 (Int.tmod x7_2 16), .int .i64 0, .int .i64 ((rd_T71 l0 x7_2).f0), .int .i64 ((rd_T71 l0 x7_2).f1), .int .i64 ((rd_T71 l0 x7_2).f2), .int .u64 0, .int .i64 0, .int .i64 0]) ?_ 6 _ rfl; (with_reducible repeat (first | refine blk_drewN ?_ _ | refine blk_drew ?_ | refine blk_alloc ?_ _)); refine blk_put (cs := #[.int .i64 (wrap64 (Int.tdiv x7_2 16)), .int .i64 (Int.tmod x7_2 16), .int .i64 0, .int .i64 ((rd_T71 l0 x7_2).f0), .int .i64 ((rd_T71 l0 x7_2).f1), .int .i64 0, .int .u64 0, .int .i64 0, .int .i64 0]) ?_ 5 _ rfl; (with_reducible repeat (first | refine blk_drewN ?_ _ | refine blk_drew ?_ | refine blk_alloc ?_ _)); refine blk_put (cs := #[.int .i64 (wrap64 (Int.tdiv x7_2 16)), .int .i64 (Int.tmod x7_2 16), .int .i64 0, .int .i64 ((rd_T71 l0 x7_2).f0), .int .i64 0, .int .i64 0, .int .u64 0, .int .i64 0, .int .i64 0]) ?_ 4 _ rfl; (with_reducible repeat (first | refine blk_drewN ?_ _ | refine blk_drew ?_ | refine blk_alloc ?_ _)); refine blk_put (cs := #[.int .i64 (wrap64 (Int.tdiv x7_2 16)), .int .i64 (Int.tmod x7_2 16), .int .i64 0, .int .i64 0, .int .i64 0, .int .i64 0, .int .u64 0, .int .i64 0, .int .i64 0]) ?_ 3 _ rfl; (with_reducible repeat (first | refine blk_drewN ?_ _ | refine blk_drew ?_ | refine blk_alloc ?_ _)); refine blk_put (cs := #[.int .i64 (wrap64 (Int.tdiv x7_2 16)), .int .i64 (Int.tmod x7_2 16), .int .i64 0, .int .i64 0, .int .i64 0, .int .i64 0, .int .u64 0, .int .i64 0, .int .i64 0]) ?_ 2 _ rfl; (with_reducible repeat (first | refine blk_drewN ?_ _ | refine blk_drew ?_ | refine blk_alloc ?_ _)); refine blk_put (cs := #[.int .i64 (wrap64 (Int.tdiv x7_2 16)), .int .i64 0, .int .i64 0, .int .i64 0, .int .i64 0, .int .i64 0, .int .u64 0, .int .i64 0, .int .i64 0]) ?_ 1 _ rfl; (with_reducible repeat (first | refine blk_drewN ?_ _ | refine blk_drew ?_ | refine blk_alloc ?_ _)); refine blk_put (cs := #[.int .i64 0, .int .i64 0, .int .i64 0, .int .i64 0, .int .i64 0, .int .i64 0, .int .u64 0, .int .i64 0, .int .i64 0]) ?_ 0 _ rfl; (with_reducible repeat (first | refine blk_drewN ?_ _ | refine blk_drew ?_ | refine blk_alloc ?_ _)); exact BK150.out⟩
                              have n2_ : Aside0 (Below w.heap.size w (((((((((w14.setCell ⟨gb150, 0, none⟩ (.int .i64 (wrap64 (Int.tdiv x7_2 16)))).setCell ⟨gb150, 1, none⟩ (.int .i64 (Int.tmod x7_2 16))).setCell ⟨gb150, 2, none⟩ (.int .i64 0)).setCell ⟨gb150, 3, none⟩ (.int .i64 ((rd_T71 l0 x7_2).f0))).setCell ⟨gb150, 4, none⟩ (.int .i64 ((rd_T71 l0 x7_2).f1))).setCell ⟨gb150, 5, none⟩ (.int .i64 ((rd_T71 l0 x7_2).f2))).setCell ⟨gb150, 6, none⟩ (.int .u64 ((rd_T71 l0 x7_2).f3))).setCell ⟨gb150, 7, none⟩ (.int .i64 0)).setCell ⟨gb150, 8, none⟩ (.int .i64 0))) := ⟨by repeat (first | (with_reducible first | exact HB.out | apply below_alloc | apply pw_below_drewN | apply below_drew1 | refine below_set ?_ GE150.out) | exact HB.out)⟩
                              (try clear HO_6)
                              (try clear BK150)
                              (try clear HB)
                              generalize (((((((((w14.setCell ⟨gb150, 0, none⟩ (.int .i64 (wrap64 (Int.tdiv x7_2 16)))).setCell ⟨gb150, 1, none⟩ (.int .i64 (Int.tmod x7_2 16))).setCell ⟨gb150, 2, none⟩ (.int .i64 0)).setCell ⟨gb150, 3, none⟩ (.int .i64 ((rd_T71 l0 x7_2).f0))).setCell ⟨gb150, 4, none⟩ (.int .i64 ((rd_T71 l0 x7_2).f1))).setCell ⟨gb150, 5, none⟩ (.int .i64 ((rd_T71 l0 x7_2).f2))).setCell ⟨gb150, 6, none⟩ (.int .u64 ((rd_T71 l0 x7_2).f3))).setCell ⟨gb150, 7, none⟩ (.int .i64 0)).setCell ⟨gb150, 8, none⟩ (.int .i64 0)) = w21 at n0_ n1_ n2_ ⊢
                              have HO_6 := n0_
                              have BK150 := n1_
                              have HB := n2_
                              clear n0_ n1_ n2_
                              have n0_ := Aside0.mk (Kd.R_drew HO_6.out)
                              have n1_ := Aside0.mk (blk_drew BK150.out)
                              have n2_ := Aside0.mk (below_drew1 HB.out)
                              clear HO_6
                              clear BK150
                              clear HB
                              have HO_6 := n0_
                              have BK150 := n1_
                              have HB := n2_
                              clear n0_ n1_ n2_
                              have p151 : 0 ≤ ((ji17) : Int) := of_decide_eq_true (by first | (with_reducible assumption) | assumption)
                              have q151 : (ji17) < (l0.length : Int) := of_decide_eq_true (by first | (with_reducible assumption) | assumption)
                              obtain ⟨ad151, e151, hx151_0, hx151_1, hx151_2, hx151_3⟩ := at_T71 HR0.out (ji17) p151 q151
                              have hw151_3 := hx151_3
                              have hw151_2 := hx151_2
                              have hw151_1 := hx151_1
                              have hw151_0 := hx151_0
                              obtain rfl : ad149 = ad151 := (by injection e151)
                              replace hx151_0 := (HB.out.cell (World.block_lt_of_cell? w _ hx151_0)).trans hx151_0
                              replace hx151_1 := (HB.out.cell (World.block_lt_of_cell? w _ hx151_1)).trans hx151_1
                              replace hx151_2 := (HB.out.cell (World.block_lt_of_cell? w _ hx151_2)).trans hx151_2
                              replace hx151_3 := (HB.out.cell (World.block_lt_of_cell? w _ hx151_3)).trans hx151_3
                              replace p151 := eq_true p151
                              replace q151 := eq_true q151
                              have p152 : 0 ≤ (x7_2 : Int) := of_decide_eq_true (by first | (with_reducible assumption) | assumption)
                              have q152 : x7_2 < (l0.length : Int) := of_decide_eq_true (by first | (with_reducible assumption) | assumption)
                              obtain ⟨ad152, e152, hx152_0, hx152_1, hx152_2, hx152_3⟩ := at_T71 HR0.out x7_2 p152 q152
                              have hw152_3 := hx152_3
                              have hw152_2 := hx152_2
                              have hw152_1 := hx152_1
                              have hw152_0 := hx152_0
                              obtain rfl : ad149 = ad152 := (by injection e152)
                              replace hx152_0 := (HB.out.cell (World.block_lt_of_cell? w _ hx152_0)).trans hx152_0
                              replace hx152_1 := (HB.out.cell (World.block_lt_of_cell? w _ hx152_1)).trans hx152_1
                              replace hx152_2 := (HB.out.cell (World.block_lt_of_cell? w _ hx152_2)).trans hx152_2
                              replace hx152_3 := (HB.out.cell (World.block_lt_of_cell? w _ hx152_3)).trans hx152_3
                              replace p152 := eq_true p152
                              replace q152 := eq_true q152
                              have p153 : 0 ≤ ((ji17) : Int) := of_decide_eq_true (by first | (with_reducible assumption) | assumption)
                              have q153 : (ji17) < (l0.length : Int) := of_decide_eq_true (by first | (with_reducible assumption) | assumption)
                              obtain ⟨ad153, e153, hx153_0, hx153_1, hx153_2, hx153_3⟩ := at_T71 HR0.out (ji17) p153 q153
                              have hw153_3 := hx153_3
                              have hw153_2 := hx153_2
                              have hw153_1 := hx153_1
                              have hw153_0 := hx153_0
                              obtain rfl : ad149 = ad153 := (by injection e153)
                              replace hx153_0 := (HB.out.cell (World.block_lt_of_cell? w _ hx153_0)).trans hx153_0
                              replace hx153_1 := (HB.out.cell (World.block_lt_of_cell? w _ hx153_1)).trans hx153_1
                              replace hx153_2 := (HB.out.cell (World.block_lt_of_cell? w _ hx153_2)).trans hx153_2
                              replace hx153_3 := (HB.out.cell (World.block_lt_of_cell? w _ hx153_3)).trans hx153_3
                              replace p153 := eq_true p153
                              replace q153 := eq_true q153
                              have p154 : 0 ≤ (x7_2 : Int) := of_decide_eq_true (by first | (with_reducible assumption) | assumption)
                              have q154 : x7_2 < (l0.length : Int) := of_decide_eq_true (by first | (with_reducible assumption) | assumption)
                              obtain ⟨ad154, e154, hx154_0, hx154_1, hx154_2, hx154_3⟩ := at_T71 HR0.out x7_2 p154 q154
                              have hw154_3 := hx154_3
                              have hw154_2 := hx154_2
                              have hw154_1 := hx154_1
                              have hw154_0 := hx154_0
                              obtain rfl : ad149 = ad154 := (by injection e154)
                              replace hx154_0 := (HB.out.cell (World.block_lt_of_cell? w _ hx154_0)).trans hx154_0
                              replace hx154_1 := (HB.out.cell (World.block_lt_of_cell? w _ hx154_1)).trans hx154_1
                              replace hx154_2 := (HB.out.cell (World.block_lt_of_cell? w _ hx154_2)).trans hx154_2
                              replace hx154_3 := (HB.out.cell (World.block_lt_of_cell? w _ hx154_3)).trans hx154_3
                              replace p154 := eq_true p154
                              replace q154 := eq_true q154
                              refine start_ (n := 29) (S := fun w' => w'.cell? (ad149.add (((ji17)).toNat * 4)) = some (.int .i64 ((rd_T71 l0 (ji17)).f0)) ∧ w'.cell? ⟨(ad149.add (((ji17)).toNat * 4)).block, (ad149.add (((ji17)).toNat * 4)).off + 1, none⟩ = some (.int .i64 ((rd_T71 l0 (ji17)).f1)) ∧ w'.cell? ⟨(ad149.add (((ji17)).toNat * 4)).block, (ad149.add (((ji17)).toNat * 4)).off + 2, none⟩ = some (.int .i64 ((rd_T71 l0 (ji17)).f2)) ∧ w'.cell? ⟨(ad149.add (((ji17)).toNat * 4)).block, (ad149.add (((ji17)).toNat * 4)).off + 3, none⟩ = some (.int .u64 ((rd_T71 l0 (ji17)).f3)) ∧ w'.cell? (ad149.add ((x7_2).toNat * 4)) = some (.int .i64 ((rd_T71 l0 x7_2).f0)) ∧ w'.cell? ⟨(ad149.add ((x7_2).toNat * 4)).block, (ad149.add ((x7_2).toNat * 4)).off + 1, none⟩ = some (.int .i64 ((rd_T71 l0 x7_2).f1)) ∧ w'.cell? ⟨(ad149.add ((x7_2).toNat * 4)).block, (ad149.add ((x7_2).toNat * 4)).off + 2, none⟩ = some (.int .i64 ((rd_T71 l0 x7_2).f2)) ∧ w'.cell? ⟨(ad149.add ((x7_2).toNat * 4)).block, (ad149.add ((x7_2).toNat * 4)).off + 3, none⟩ = some (.int .u64 ((rd_T71 l0 x7_2).f3)) ∧ w'.cell? (ad149.add (((ji17)).toNat * 4)) = some (.int .i64 ((rd_T71 l0 (ji17)).f0)) ∧ w'.cell? ⟨(ad149.add (((ji17)).toNat * 4)).block, (ad149.add (((ji17)).toNat * 4)).off + 1, none⟩ = some (.int .i64 ((rd_T71 l0 (ji17)).f1)) ∧ w'.cell? ⟨(ad149.add (((ji17)).toNat * 4)).block, (ad149.add (((ji17)).toNat * 4)).off + 2, none⟩ = some (.int .i64 ((rd_T71 l0 (ji17)).f2)) ∧ w'.cell? ⟨(ad149.add (((ji17)).toNat * 4)).block, (ad149.add (((ji17)).toNat * 4)).off + 3, none⟩ = some (.int .u64 ((rd_T71 l0 (ji17)).f3)) ∧ w'.cell? (ad149.add ((x7_2).toNat * 4)) = some (.int .i64 ((rd_T71 l0 x7_2).f0)) ∧ w'.cell? ⟨(ad149.add ((x7_2).toNat * 4)).block, (ad149.add ((x7_2).toNat * 4)).off + 1, none⟩ = some (.int .i64 ((rd_T71 l0 x7_2).f1)) ∧ w'.cell? ⟨(ad149.add ((x7_2).toNat * 4)).block, (ad149.add ((x7_2).toNat * 4)).off + 2, none⟩ = some (.int .i64 ((rd_T71 l0 x7_2).f2)) ∧ w'.cell? ⟨(ad149.add ((x7_2).toNat * 4)).block, (ad149.add ((x7_2).toNat * 4)).off + 3, none⟩ = some (.int .u64 ((rd_T71 l0 x7_2).f3))) (ds := []) #[false, false, false, false, false, false, false, false, false, false, false, false, false, false, false, false, false, false, false, false, false, false, false, false, false, false, false, false, false] (by kernel_rfl) rfl rfl ⟨((HB.out.cell (World.block_lt_of_cell? w _ hw151_0)).trans hw151_0), ((HB.out.cell (World.block_lt_of_cell? w _ hw151_1)).trans hw151_1), ((HB.out.cell (World.block_lt_of_cell? w _ hw151_2)).trans hw151_2), ((HB.out.cell (World.block_lt_of_cell? w _ hw151_3)).trans hw151_3), ((HB.out.cell (World.block_lt_of_cell? w _ hw152_0)).trans hw152_0), ((HB.out.cell (World.block_lt_of_cell? w _ hw152_1)).trans hw152_1), ((HB.out.cell (World.block_lt_of_cell? w _ hw152_2)).trans hw152_2), ((HB.out.cell (World.block_lt_of_cell? w _ hw152_3)).trans hw152_3), ((HB.out.cell (World.block_lt_of_cell? w _ hw153_0)).trans hw153_0), ((HB.out.cell (World.block_lt_of_cell? w _ hw153_1)).trans hw153_1), ((HB.out.cell (World.block_lt_of_cell? w _ hw153_2)).trans hw153_2), ((HB.out.cell (World.block_lt_of_cell? w _ hw153_3)).trans hw153_3), ((HB.out.cell (World.block_lt_of_cell? w _ hw154_0)).trans hw154_0), ((HB.out.cell (World.block_lt_of_cell? w _ hw154_1)).trans hw154_1), ((HB.out.cell (World.block_lt_of_cell? w _ hw154_2)).trans hw154_2), ((HB.out.cell (World.block_lt_of_cell? w _ hw154_3)).trans hw154_3)⟩ (fun hHeld => ?_); refine with_tabW skymosaicref36_Pack.tab15 skymosaicref36_Pack.bits15 (fun HT_ HW_ => ?_)
                              generalize w21.drew = w22 at HO_6 BK150 HB hx151_0 hx151_1 hx151_2 hx151_3 hx152_0 hx152_1 hx152_2 hx152_3 hx153_0 hx153_1 hx153_2 hx153_3 hx154_0 hx154_1 hx154_2 hx154_3 hHeld ⊢
                              refine pure_ (i := 0) (N := some 43) (v := ?_) (a' := ?_) #[true, false, false, false, false, false, false, false, false, false, false, false, false, false, false, false, false, false, false, false, false, false, false, false, false, false, false, false, false] rfl rfl (any_of HT_.out (by kernel_rfl)) (fun _ _ _ h => h) (Or.inl ⟨by rfl, ?_⟩) ?_ ?_
                              rotate_left
                              · intro w'
                                go_simp
                                with_reducible rfl
                              rotate_left
                              · simp only [Act.put, List.setIfInBounds_toArray, List.set_cons_zero, List.set_cons_succ, i64_w, i32_w]
                                rfl
                              refine pure_ (i := 1) (N := some 44) (v := ?_) (a' := ?_) #[true, true, false, false, false, false, false, false, false, false, false, false, false, false, false, false, false, false, false, false, false, false, false, false, false, false, false, false, false] rfl rfl (any_of HT_.out (by kernel_rfl)) (fun _ _ _ h => h) (Or.inl ⟨by rfl, ?_⟩) ?_ ?_
                              rotate_left
                              · intro w'
                                go_simp
                                with_reducible rfl
                              rotate_left
                              · simp only [Act.put, List.setIfInBounds_toArray, List.set_cons_zero, List.set_cons_succ, i64_w, i32_w]
                                rfl
                              refine pure_ (i := 2) (N := some 45) (v := ?_) (a' := ?_) #[true, true, true, false, false, false, false, false, false, false, false, false, false, false, false, false, false, false, false, false, false, false, false, false, false, false, false, false, false] rfl rfl (any_of HT_.out (by kernel_rfl)) (fun _ _ _ h => h) (Or.inl ⟨by rfl, ?_⟩) ?_ ?_
                              rotate_left
                              · intro w'
                                go_simp
                                with_reducible rfl
                              rotate_left
                              · simp only [Act.put, List.setIfInBounds_toArray, List.set_cons_zero, List.set_cons_succ, i64_w, i32_w]
                                rfl
                              refine pure_ (i := 3) (N := some 46) (v := ?_) (a' := ?_) #[true, true, true, true, false, false, false, false, false, false, false, false, false, false, false, false, false, false, false, false, false, false, false, false, false, false, false, false, false] rfl rfl (any_of HT_.out (by kernel_rfl)) (fun _ _ _ h => h) (Or.inl ⟨by rfl, ?_⟩) ?_ ?_
                              rotate_left
                              · intro w'
                                go_simp
                                with_reducible rfl
                              rotate_left
                              · simp only [Act.put, List.setIfInBounds_toArray, List.set_cons_zero, List.set_cons_succ, i64_w, i32_w]
                                rfl
                              refine pure_ (i := 4) (N := some 47) (v := ?_) (a' := ?_) #[true, true, true, true, true, false, false, false, false, false, false, false, false, false, false, false, false, false, false, false, false, false, false, false, false, false, false, false, false] rfl rfl (any_of HT_.out (by kernel_rfl)) (fun _ _ _ h => h) (Or.inl ⟨by rfl, ?_⟩) ?_ ?_
                              rotate_left
                              · intro w'
                                go_simp
                                with_reducible rfl
                              rotate_left
                              · simp only [Act.put, List.setIfInBounds_toArray, List.set_cons_zero, List.set_cons_succ, i64_w, i32_w]
                                rfl
                              refine pure_ (i := 5) (N := some 48) (v := ?_) (a' := ?_) #[true, true, true, true, true, true, false, false, false, false, false, false, false, false, false, false, false, false, false, false, false, false, false, false, false, false, false, false, false] rfl rfl (any_of HT_.out (by kernel_rfl)) (fun _ _ _ h => h) (Or.inl ⟨by rfl, ?_⟩) ?_ ?_
                              rotate_left
                              · intro w'
                                go_simp
                                with_reducible rfl
                              rotate_left
                              · simp only [Act.put, List.setIfInBounds_toArray, List.set_cons_zero, List.set_cons_succ, i64_w, i32_w]
                                rfl
                              refine pure_ (i := 6) (N := some 49) (v := ?_) (a' := ?_) #[true, true, true, true, true, true, true, false, false, false, false, false, false, false, false, false, false, false, false, false, false, false, false, false, false, false, false, false, false] rfl rfl (any_of HT_.out (by kernel_rfl)) (fun _ _ _ h => h) (Or.inl ⟨by rfl, ?_⟩) ?_ ?_
                              rotate_left
                              · intro w'
                                go_simp
                                with_reducible rfl
                              rotate_left
                              · simp only [Act.put, List.setIfInBounds_toArray, List.set_cons_zero, List.set_cons_succ, i64_w, i32_w]
                                rfl
                              refine pure_ (i := 7) (N := some 50) (v := ?_) (a' := ?_) #[true, true, true, true, true, true, true, true, false, false, false, false, false, false, false, false, false, false, false, false, false, false, false, false, false, false, false, false, false] rfl rfl (any_of HT_.out (by kernel_rfl)) (fun _ _ _ h => h) (Or.inl ⟨by rfl, ?_⟩) ?_ ?_
                              rotate_left
                              · intro w'
                                go_simp
                                with_reducible rfl
                              rotate_left
                              · simp only [Act.put, List.setIfInBounds_toArray, List.set_cons_zero, List.set_cons_succ, i64_w, i32_w]
                                rfl
                              refine pure_ (i := 9) (N := some 52) (v := ?_) (a' := ?_) #[true, true, true, true, true, true, true, true, false, true, false, false, false, false, false, false, false, false, false, false, false, false, false, false, false, false, false, false, false] rfl rfl (any_of HT_.out (by kernel_rfl)) (fun _ _ _ h => h) (Or.inl ⟨by rfl, ?_⟩) ?_ ?_
                              rotate_left
                              · intro w'
                                go_simp
                                with_reducible rfl
                              rotate_left
                              · simp only [Act.put, List.setIfInBounds_toArray, List.set_cons_zero, List.set_cons_succ, i64_w, i32_w]
                                rfl
                              refine pure_ (i := 10) (N := some 53) (v := ?_) (a' := ?_) #[true, true, true, true, true, true, true, true, false, true, true, false, false, false, false, false, false, false, false, false, false, false, false, false, false, false, false, false, false] rfl rfl (any_of HT_.out (by kernel_rfl)) (fun _ _ _ h => h) (Or.inl ⟨by rfl, ?_⟩) ?_ ?_
                              rotate_left
                              · intro w'
                                go_simp
                                with_reducible rfl
                              rotate_left
                              · simp only [Act.put, List.setIfInBounds_toArray, List.set_cons_zero, List.set_cons_succ, i64_w, i32_w]
                                rfl
                              refine pure_ (i := 11) (N := some 54) (v := ?_) (a' := ?_) #[true, true, true, true, true, true, true, true, false, true, true, true, false, false, false, false, false, false, false, false, false, false, false, false, false, false, false, false, false] rfl rfl (any_of HT_.out (by kernel_rfl)) (fun _ _ _ h => h) (Or.inl ⟨by rfl, ?_⟩) ?_ ?_
                              rotate_left
                              · intro w'
                                go_simp
                                with_reducible rfl
                              rotate_left
                              · simp only [Act.put, List.setIfInBounds_toArray, List.set_cons_zero, List.set_cons_succ, i64_w, i32_w]
                                rfl
                              refine pure_ (i := 12) (N := some 55) (v := ?_) (a' := ?_) #[true, true, true, true, true, true, true, true, false, true, true, true, true, false, false, false, false, false, false, false, false, false, false, false, false, false, false, false, false] rfl rfl (any_of HT_.out (by kernel_rfl)) (fun _ _ _ h => h) (Or.inl ⟨by rfl, ?_⟩) ?_ ?_
                              rotate_left
                              · intro w'
                                go_simp
                                with_reducible rfl
                              rotate_left
                              · simp only [Act.put, List.setIfInBounds_toArray, List.set_cons_zero, List.set_cons_succ, i64_w, i32_w]
                                rfl
                              refine take_ (i := 8) (N := some 51) (v := ?_) (a' := ?_) #[true, true, true, true, true, true, true, true, true, true, true, true, true, false, false, false, false, false, false, false, false, false, false, false, false, false, false, false, false] rfl rfl (take_ofW HT_.out HW_.out (by kernel_rfl)) (fun _ _ _ h => h) (Or.inl ⟨by rfl, ?_⟩) hHeld ?_ ?_
                              rotate_left
                              · rintro w' ⟨s0, s1, s2, s3, s4, s5, s6, s7, s8, s9, s10, s11, s12, s13, s14, s15⟩
                                go_simp
                                with_reducible rfl
                              rotate_left
                              · simp only [Act.put, List.setIfInBounds_toArray, List.set_cons_zero, List.set_cons_succ, i64_w, i32_w]
                                rfl
                              refine take_ (i := 13) (N := some 56) (v := ?_) (a' := ?_) #[true, true, true, true, true, true, true, true, true, true, true, true, true, true, false, false, false, false, false, false, false, false, false, false, false, false, false, false, false] rfl rfl (take_ofW HT_.out HW_.out (by kernel_rfl)) (fun _ _ _ h => h) (Or.inl ⟨by rfl, ?_⟩) hHeld ?_ ?_
                              rotate_left
                              · rintro w' ⟨s0, s1, s2, s3, s4, s5, s6, s7, s8, s9, s10, s11, s12, s13, s14, s15⟩
                                go_simp
                                with_reducible rfl
                              rotate_left
                              · simp only [Act.put, List.setIfInBounds_toArray, List.set_cons_zero, List.set_cons_succ, i64_w, i32_w]
                                rfl
                              refine pure_ (i := 14) (N := some 57) (v := ?_) (a' := ?_) #[true, true, true, true, true, true, true, true, true, true, true, true, true, true, true, false, false, false, false, false, false, false, false, false, false, false, false, false, false] rfl rfl (any_of HT_.out (by kernel_rfl)) (fun _ _ _ h => h) (Or.inl ⟨by rfl, ?_⟩) ?_ ?_
                              rotate_left
                              · intro w'
                                go_simp
                                with_reducible rfl
                              rotate_left
                              · simp only [Act.put, List.setIfInBounds_toArray, List.set_cons_zero, List.set_cons_succ, i64_w, i32_w]
                                rfl
                              refine pure_ (i := 15) (N := some 58) (v := ?_) (a' := ?_) #[true, true, true, true, true, true, true, true, true, true, true, true, true, true, true, true, false, false, false, false, false, false, false, false, false, false, false, false, false] rfl rfl (any_of HT_.out (by kernel_rfl)) (fun _ _ _ h => h) (Or.inl ⟨by rfl, ?_⟩) ?_ ?_
                              rotate_left
                              · intro w'
                                go_simp
                                with_reducible rfl
                              rotate_left
                              · simp only [Act.put, List.setIfInBounds_toArray, List.set_cons_zero, List.set_cons_succ, i64_w, i32_w]
                                rfl
                              refine pure_ (i := 16) (N := some 59) (v := ?_) (a' := ?_) #[true, true, true, true, true, true, true, true, true, true, true, true, true, true, true, true, true, false, false, false, false, false, false, false, false, false, false, false, false] rfl rfl (any_of HT_.out (by kernel_rfl)) (fun _ _ _ h => h) (Or.inl ⟨by rfl, ?_⟩) ?_ ?_
                              rotate_left
                              · intro w'
                                go_simp
                                with_reducible rfl
                              rotate_left
                              · simp only [Act.put, List.setIfInBounds_toArray, List.set_cons_zero, List.set_cons_succ, i64_w, i32_w]
                                rfl
                              refine pure_ (i := 17) (N := some 60) (v := ?_) (a' := ?_) #[true, true, true, true, true, true, true, true, true, true, true, true, true, true, true, true, true, true, false, false, false, false, false, false, false, false, false, false, false] rfl rfl (any_of HT_.out (by kernel_rfl)) (fun _ _ _ h => h) (Or.inl ⟨by rfl, ?_⟩) ?_ ?_
                              rotate_left
                              · intro w'
                                go_simp
                                with_reducible rfl
                              rotate_left
                              · simp only [Act.put, List.setIfInBounds_toArray, List.set_cons_zero, List.set_cons_succ, i64_w, i32_w]
                                rfl
                              refine pure_ (i := 18) (N := some 61) (v := ?_) (a' := ?_) #[true, true, true, true, true, true, true, true, true, true, true, true, true, true, true, true, true, true, true, false, false, false, false, false, false, false, false, false, false] rfl rfl (any_of HT_.out (by kernel_rfl)) (fun _ _ _ h => h) (Or.inl ⟨by rfl, ?_⟩) ?_ ?_
                              rotate_left
                              · intro w'
                                go_simp
                                with_reducible rfl
                              rotate_left
                              · simp only [Act.put, List.setIfInBounds_toArray, List.set_cons_zero, List.set_cons_succ, i64_w, i32_w]
                                rfl
                              refine pure_ (i := 19) (N := some 62) (v := ?_) (a' := ?_) #[true, true, true, true, true, true, true, true, true, true, true, true, true, true, true, true, true, true, true, true, false, false, false, false, false, false, false, false, false] rfl rfl (any_of HT_.out (by kernel_rfl)) (fun _ _ _ h => h) (Or.inl ⟨by rfl, ?_⟩) ?_ ?_
                              rotate_left
                              · intro w'
                                go_simp
                                with_reducible rfl
                              rotate_left
                              · simp only [Act.put, List.setIfInBounds_toArray, List.set_cons_zero, List.set_cons_succ, i64_w, i32_w]
                                rfl
                              refine pure_ (i := 20) (N := some 63) (v := ?_) (a' := ?_) #[true, true, true, true, true, true, true, true, true, true, true, true, true, true, true, true, true, true, true, true, true, false, false, false, false, false, false, false, false] rfl rfl (any_of HT_.out (by kernel_rfl)) (fun _ _ _ h => h) (Or.inl ⟨by rfl, ?_⟩) ?_ ?_
                              rotate_left
                              · intro w'
                                go_simp
                                with_reducible rfl
                              rotate_left
                              · simp only [Act.put, List.setIfInBounds_toArray, List.set_cons_zero, List.set_cons_succ, i64_w, i32_w]
                                rfl
                              refine pure_ (i := 22) (N := some 65) (v := ?_) (a' := ?_) #[true, true, true, true, true, true, true, true, true, true, true, true, true, true, true, true, true, true, true, true, true, false, true, false, false, false, false, false, false] rfl rfl (any_of HT_.out (by kernel_rfl)) (fun _ _ _ h => h) (Or.inl ⟨by rfl, ?_⟩) ?_ ?_
                              rotate_left
                              · intro w'
                                go_simp
                                with_reducible rfl
                              rotate_left
                              · simp only [Act.put, List.setIfInBounds_toArray, List.set_cons_zero, List.set_cons_succ, i64_w, i32_w]
                                rfl
                              refine pure_ (i := 23) (N := some 66) (v := ?_) (a' := ?_) #[true, true, true, true, true, true, true, true, true, true, true, true, true, true, true, true, true, true, true, true, true, false, true, true, false, false, false, false, false] rfl rfl (any_of HT_.out (by kernel_rfl)) (fun _ _ _ h => h) (Or.inl ⟨by rfl, ?_⟩) ?_ ?_
                              rotate_left
                              · intro w'
                                go_simp
                                with_reducible rfl
                              rotate_left
                              · simp only [Act.put, List.setIfInBounds_toArray, List.set_cons_zero, List.set_cons_succ, i64_w, i32_w]
                                rfl
                              refine pure_ (i := 24) (N := some 67) (v := ?_) (a' := ?_) #[true, true, true, true, true, true, true, true, true, true, true, true, true, true, true, true, true, true, true, true, true, false, true, true, true, false, false, false, false] rfl rfl (any_of HT_.out (by kernel_rfl)) (fun _ _ _ h => h) (Or.inl ⟨by rfl, ?_⟩) ?_ ?_
                              rotate_left
                              · intro w'
                                go_simp
                                with_reducible rfl
                              rotate_left
                              · simp only [Act.put, List.setIfInBounds_toArray, List.set_cons_zero, List.set_cons_succ, i64_w, i32_w]
                                rfl
                              refine pure_ (i := 25) (N := some 68) (v := ?_) (a' := ?_) #[true, true, true, true, true, true, true, true, true, true, true, true, true, true, true, true, true, true, true, true, true, false, true, true, true, true, false, false, false] rfl rfl (any_of HT_.out (by kernel_rfl)) (fun _ _ _ h => h) (Or.inl ⟨by rfl, ?_⟩) ?_ ?_
                              rotate_left
                              · intro w'
                                go_simp
                                with_reducible rfl
                              rotate_left
                              · simp only [Act.put, List.setIfInBounds_toArray, List.set_cons_zero, List.set_cons_succ, i64_w, i32_w]
                                rfl
                              refine take_ (i := 21) (N := some 64) (v := ?_) (a' := ?_) #[true, true, true, true, true, true, true, true, true, true, true, true, true, true, true, true, true, true, true, true, true, true, true, true, true, true, false, false, false] rfl rfl (take_ofW HT_.out HW_.out (by kernel_rfl)) (fun _ _ _ h => h) (Or.inl ⟨by rfl, ?_⟩) hHeld ?_ ?_
                              rotate_left
                              · rintro w' ⟨s0, s1, s2, s3, s4, s5, s6, s7, s8, s9, s10, s11, s12, s13, s14, s15⟩
                                go_simp
                                with_reducible rfl
                              rotate_left
                              · simp only [Act.put, List.setIfInBounds_toArray, List.set_cons_zero, List.set_cons_succ, i64_w, i32_w]
                                rfl
                              refine take_ (i := 26) (N := some 69) (v := ?_) (a' := ?_) #[true, true, true, true, true, true, true, true, true, true, true, true, true, true, true, true, true, true, true, true, true, true, true, true, true, true, true, false, false] rfl rfl (take_ofW HT_.out HW_.out (by kernel_rfl)) (fun _ _ _ h => h) (Or.inl ⟨by rfl, ?_⟩) hHeld ?_ ?_
                              rotate_left
                              · rintro w' ⟨s0, s1, s2, s3, s4, s5, s6, s7, s8, s9, s10, s11, s12, s13, s14, s15⟩
                                go_simp
                                with_reducible rfl
                              rotate_left
                              · simp only [Act.put, List.setIfInBounds_toArray, List.set_cons_zero, List.set_cons_succ, i64_w, i32_w]
                                rfl
                              refine pure_ (i := 27) (N := some 70) (v := ?_) (a' := ?_) #[true, true, true, true, true, true, true, true, true, true, true, true, true, true, true, true, true, true, true, true, true, true, true, true, true, true, true, true, false] rfl rfl (any_of HT_.out (by kernel_rfl)) (fun _ _ _ h => h) (Or.inl ⟨by rfl, ?_⟩) ?_ ?_
                              rotate_left
                              · intro w'
                                go_simp
                                with_reducible rfl
                              rotate_left
                              · simp only [Act.put, List.setIfInBounds_toArray, List.set_cons_zero, List.set_cons_succ, i64_w, i32_w]
                                rfl
                              refine pure_ (i := 28) (N := some 71) (v := ?_) (a' := ?_) #[true, true, true, true, true, true, true, true, true, true, true, true, true, true, true, true, true, true, true, true, true, true, true, true, true, true, true, true, true] rfl rfl (any_of HT_.out (by kernel_rfl)) (fun _ _ _ h => h) (Or.inl ⟨by rfl, ?_⟩) ?_ ?_
                              rotate_left
                              · intro w'
                                go_simp
                                with_reducible rfl
                              rotate_left
                              · simp only [Act.put, List.setIfInBounds_toArray, List.set_cons_zero, List.set_cons_succ, i64_w, i32_w]
                                rfl
                              refine done_ (done_of HT_.out (by kernel_rfl)) ?_
                              try go_wp2
                              (first | go_meet | (simp only [← hji17]; go_meet))
                              case rel => exact ⟨_, ((((rd_T71 l0 (ji17)).f3) == ((rd_T71 l0 x7_2).f3))), (by first | rfl | (simp; done) | (simp only [← hji17] <;> (first | rfl | simp)) | (simp [*]; done)), (by first | exact H' | (rw [hji17]; exact H')), ⟨by have := HK1.out; have := HK2.out; first | omega | exact Nat.le_refl _⟩, ⟨by (with_reducible repeat (first | apply Kd.R_alloc | apply Kd.R_drewN | apply Kd.R_drew)); exact HO_6.out⟩, ⟨by (with_reducible repeat (first | refine blk_drewN ?_ _ | refine blk_drew ?_ | refine blk_alloc ?_ _)); exact BK150.out⟩, ⟨by repeat (first | (with_reducible first | exact HB.out | apply below_alloc | apply pw_below_drewN | apply below_drew1 | refine below_set ?_ GE150.out) | exact HB.out)⟩⟩
                            · rw [if_neg c20] at H
                              have c20b0 : (((rd_T71 l0 (ji17)).f0) == ((rd_T71 l0 x7_2).f0)) = false := beq_eq_false_iff_ne.mpr c20
                              have c20b1 : (((rd_T71 l0 (ji17)).f0) != ((rd_T71 l0 x7_2).f0)) = true := bne_iff_ne.mpr c20
                              have H' := Aside0.mk H
                              clear H
                              try go_wp2
                              have n0_ : Aside0 (Kd.R k74 74 (((((((((w14.setCell ⟨gb150, 0, none⟩ (.int .i64 (wrap64 (Int.tdiv x7_2 16)))).setCell ⟨gb150, 1, none⟩ (.int .i64 (Int.tmod x7_2 16))).setCell ⟨gb150, 2, none⟩ (.int .i64 0)).setCell ⟨gb150, 3, none⟩ (.int .i64 ((rd_T71 l0 x7_2).f0))).setCell ⟨gb150, 4, none⟩ (.int .i64 ((rd_T71 l0 x7_2).f1))).setCell ⟨gb150, 5, none⟩ (.int .i64 ((rd_T71 l0 x7_2).f2))).setCell ⟨gb150, 6, none⟩ (.int .u64 ((rd_T71 l0 x7_2).f3))).setCell ⟨gb150, 7, none⟩ (.int .i64 0)).setCell ⟨gb150, 8, none⟩ (.int .i64 0)) w.heap.size (fun k_ => k_ ≠ gb150) u6 x6_2) := ⟨by (with_reducible repeat (first | apply Kd.R_alloc | apply Kd.R_drewN | apply Kd.R_drew)); exact Kd.R_mono (Kd.R_far (p := ⟨gb150, 8, none⟩) (Kd.R_far (p := ⟨gb150, 7, none⟩) (Kd.R_far (p := ⟨gb150, 6, none⟩) (Kd.R_far (p := ⟨gb150, 5, none⟩) (Kd.R_far (p := ⟨gb150, 4, none⟩) (Kd.R_far (p := ⟨gb150, 3, none⟩) (Kd.R_far (p := ⟨gb150, 2, none⟩) (Kd.R_far (p := ⟨gb150, 1, none⟩) (Kd.R_far (p := ⟨gb150, 0, none⟩) (Kd.R_mono HO_6.out (fun k_ hk => (⟨hk, hk.2⟩ : _ ∧ k_ ≠ gb150))) (fun _ hk => hk.2) (.int .i64 (wrap64 (Int.tdiv x7_2 16)))) (fun _ hk => hk.2) (.int .i64 (Int.tmod x7_2 16))) (fun _ hk => hk.2) (.int .i64 0)) (fun _ hk => hk.2) (.int .i64 ((rd_T71 l0 x7_2).f0))) (fun _ hk => hk.2) (.int .i64 ((rd_T71 l0 x7_2).f1))) (fun _ hk => hk.2) (.int .i64 ((rd_T71 l0 x7_2).f2))) (fun _ hk => hk.2) (.int .u64 ((rd_T71 l0 x7_2).f3))) (fun _ hk => hk.2) (.int .i64 0)) (fun _ hk => hk.2) (.int .i64 0)) (fun _ hk => hk.1.2)⟩
                              have n1_ : Aside0 ((((((((((w14.setCell ⟨gb150, 0, none⟩ (.int .i64 (wrap64 (Int.tdiv x7_2 16)))).setCell ⟨gb150, 1, none⟩ (.int .i64 (Int.tmod x7_2 16))).setCell ⟨gb150, 2, none⟩ (.int .i64 0)).setCell ⟨gb150, 3, none⟩ (.int .i64 ((rd_T71 l0 x7_2).f0))).setCell ⟨gb150, 4, none⟩ (.int .i64 ((rd_T71 l0 x7_2).f1))).setCell ⟨gb150, 5, none⟩ (.int .i64 ((rd_T71 l0 x7_2).f2))).setCell ⟨gb150, 6, none⟩ (.int .u64 ((rd_T71 l0 x7_2).f3))).setCell ⟨gb150, 7, none⟩ (.int .i64 0)).setCell ⟨gb150, 8, none⟩ (.int .i64 0)).heap[gb150]? = some (.cells #[.int .i64 (wrap64 (Int.tdiv x7_2 16)), .int .i64 (Int.tmod x7_2 16), .int .i64 0, .int .i64 ((rd_T71 l0 x7_2).f0), .int .i64 ((rd_T71 l0 x7_2).f1), .int .i64 ((rd_T71 l0 x7_2).f2), .int .u64 ((rd_T71 l0 x7_2).f3), .int .i64 0, .int .i64 0] 74 (0, 0))) := ⟨by (with_reducible repeat (first | refine blk_drewN ?_ _ | refine blk_drew ?_ | refine blk_alloc ?_ _)); refine blk_put (cs := #[.int .i64 (wrap64 (Int.tdiv x7_2 16)), .int .i64 (Int.tmod x7_2 16), .int .i64 0, .int .i64 ((rd_T71 l0 x7_2).f0), .int .i64 ((rd_T71 l0 x7_2).f1), .int .i64 ((rd_T71 l0 x7_2).f2), .int .u64 ((rd_T71 l0 x7_2).f3), .int .i64 0, .int .i64 0]) ?_ 8 _ rfl; (with_reducible repeat (first | refine blk_drewN ?_ _ | refine blk_drew ?_ | refine blk_alloc ?_ _)); refine blk_put (cs := #[.int .i64 (wrap64 (Int.tdiv x7_2 16)), .int .i64 (Int.tmod x7_2 16), .int .i64 0, .int .i64 ((rd_T71 l0 x7_2).f0), .int .i64 ((rd_T71 l0 x7_2).f1), .int .i64 ((rd_T71 l0 x7_2).f2), .int .u64 ((rd_T71 l0 x7_2).f3), .int .i64 0, .int .i64 0]) ?_ 7 _ rfl; (with_reducible repeat (first | refine blk_drewN ?_ _ | refine blk_drew ?_ | refine blk_alloc ?_ _)); refine blk_put (cs := #[.int .i64 (wrap64 (Int.tdiv x7_2 16)), .int .i64 (Int.tmod x7_2 16), .int .i64 0, .int .i64 ((rd_T71 l0 x7_2).f0), .int .i64 ((rd_T71 l0 x7_2).f1), .int .i64 ((rd_T71 l0 x7_2).f2), .int .u64 0, .int .i64 0, .int .i64 0]) ?_ 6 _ rfl; (with_reducible repeat (first | refine blk_drewN ?_ _ | refine blk_drew ?_ | refine blk_alloc ?_ _)); refine blk_put (cs := #[.int .i64 (wrap64 (Int.tdiv x7_2 16)), .int .i64 (Int.tmod x7_2 16), .int .i64 0, .int .i64 ((rd_T71 l0 x7_2).f0), .int .i64 ((rd_T71 l0 x7_2).f1), .int .i64 0, .int .u64 0, .int .i64 0, .int .i64 0]) ?_ 5 _ rfl; (with_reducible repeat (first | refine blk_drewN ?_ _ | refine blk_drew ?_ | refine blk_alloc ?_ _)); refine blk_put (cs := #[.int .i64 (wrap64 (Int.tdiv x7_2 16)), .int .i64 (Int.tmod x7_2 16), .int .i64 0, .int .i64 ((rd_T71 l0 x7_2).f0), .int .i64 0, .int .i64 0, .int .u64 0, .int .i64 0, .int .i64 0]) ?_ 4 _ rfl; (with_reducible repeat (first | refine blk_drewN ?_ _ | refine blk_drew ?_ | refine blk_alloc ?_ _)); refine blk_put (cs := #[.int .i64 (wrap64 (Int.tdiv x7_2 16)), .int .i64 (Int.tmod x7_2 16), .int .i64 0, .int .i64 0, .int .i64 0, .int .i64 0, .int .u64 0, .int .i64 0, .int .i64 0]) ?_ 3 _ rfl; (with_reducible repeat (first | refine blk_drewN ?_ _ | refine blk_drew ?_ | refine blk_alloc ?_ _)); refine blk_put (cs := #[.int .i64 (wrap64 (Int.tdiv x7_2 16)), .int .i64 (Int.tmod x7_2 16), .int .i64 0, .int .i64 0, .int .i64 0, .int .i64 0, .int .u64 0, .int .i64 0, .int .i64 0]) ?_ 2 _ rfl; (with_reducible repeat (first | refine blk_drewN ?_ _ | refine blk_drew ?_ | refine blk_alloc ?_ _)); refine blk_put (cs := #[.int .i64 (wrap64 (Int.tdiv x7_2 16)), .int .i64 0, .int .i64 0, .int .i64 0, .int .i64 0, .int .i64 0, .int .u64 0, .int .i64 0, .int .i64 0]) ?_ 1 _ rfl; (with_reducible repeat (first | refine blk_drewN ?_ _ | refine blk_drew ?_ | refine blk_alloc ?_ _)); refine blk_put (cs := #[.int .i64 0, .int .i64 0, .int .i64 0, .int .i64 0, .int .i64 0, .int .i64 0, .int .u64 0, .int .i64 0, .int .i64 0]) ?_ 0 _ rfl; (with_reducible repeat (first | refine blk_drewN ?_ _ | refine blk_drew ?_ | refine blk_alloc ?_ _)); exact BK150.out⟩
                              have n2_ : Aside0 (Below w.heap.size w (((((((((w14.setCell ⟨gb150, 0, none⟩ (.int .i64 (wrap64 (Int.tdiv x7_2 16)))).setCell ⟨gb150, 1, none⟩ (.int .i64 (Int.tmod x7_2 16))).setCell ⟨gb150, 2, none⟩ (.int .i64 0)).setCell ⟨gb150, 3, none⟩ (.int .i64 ((rd_T71 l0 x7_2).f0))).setCell ⟨gb150, 4, none⟩ (.int .i64 ((rd_T71 l0 x7_2).f1))).setCell ⟨gb150, 5, none⟩ (.int .i64 ((rd_T71 l0 x7_2).f2))).setCell ⟨gb150, 6, none⟩ (.int .u64 ((rd_T71 l0 x7_2).f3))).setCell ⟨gb150, 7, none⟩ (.int .i64 0)).setCell ⟨gb150, 8, none⟩ (.int .i64 0))) := ⟨by repeat (first | (with_reducible first | exact HB.out | apply below_alloc | apply pw_below_drewN | apply below_drew1 | refine below_set ?_ GE150.out) | exact HB.out)⟩
                              (try clear HO_6)
                              (try clear BK150)
                              (try clear HB)
                              generalize (((((((((w14.setCell ⟨gb150, 0, none⟩ (.int .i64 (wrap64 (Int.tdiv x7_2 16)))).setCell ⟨gb150, 1, none⟩ (.int .i64 (Int.tmod x7_2 16))).setCell ⟨gb150, 2, none⟩ (.int .i64 0)).setCell ⟨gb150, 3, none⟩ (.int .i64 ((rd_T71 l0 x7_2).f0))).setCell ⟨gb150, 4, none⟩ (.int .i64 ((rd_T71 l0 x7_2).f1))).setCell ⟨gb150, 5, none⟩ (.int .i64 ((rd_T71 l0 x7_2).f2))).setCell ⟨gb150, 6, none⟩ (.int .u64 ((rd_T71 l0 x7_2).f3))).setCell ⟨gb150, 7, none⟩ (.int .i64 0)).setCell ⟨gb150, 8, none⟩ (.int .i64 0)) = w23 at n0_ n1_ n2_ ⊢
                              have HO_6 := n0_
                              have BK150 := n1_
                              have HB := n2_
                              clear n0_ n1_ n2_
                              have n0_ := Aside0.mk (Kd.R_drew HO_6.out)
                              have n1_ := Aside0.mk (blk_drew BK150.out)
                              have n2_ := Aside0.mk (below_drew1 HB.out)
                              clear HO_6
                              clear BK150
                              clear HB
                              have HO_6 := n0_
                              have BK150 := n1_
                              have HB := n2_
                              clear n0_ n1_ n2_
                              have p151 : 0 ≤ ((ji17) : Int) := of_decide_eq_true (by first | (with_reducible assumption) | assumption)
                              have q151 : (ji17) < (l0.length : Int) := of_decide_eq_true (by first | (with_reducible assumption) | assumption)
                              obtain ⟨ad151, e151, hx151_0, hx151_1, hx151_2, hx151_3⟩ := at_T71 HR0.out (ji17) p151 q151
                              have hw151_3 := hx151_3
                              have hw151_2 := hx151_2
                              have hw151_1 := hx151_1
                              have hw151_0 := hx151_0
                              obtain rfl : ad149 = ad151 := (by injection e151)
                              replace hx151_0 := (HB.out.cell (World.block_lt_of_cell? w _ hx151_0)).trans hx151_0
                              replace hx151_1 := (HB.out.cell (World.block_lt_of_cell? w _ hx151_1)).trans hx151_1
                              replace hx151_2 := (HB.out.cell (World.block_lt_of_cell? w _ hx151_2)).trans hx151_2
                              replace hx151_3 := (HB.out.cell (World.block_lt_of_cell? w _ hx151_3)).trans hx151_3
                              replace p151 := eq_true p151
                              replace q151 := eq_true q151
                              have p152 : 0 ≤ (x7_2 : Int) := of_decide_eq_true (by first | (with_reducible assumption) | assumption)
                              have q152 : x7_2 < (l0.length : Int) := of_decide_eq_true (by first | (with_reducible assumption) | assumption)
                              obtain ⟨ad152, e152, hx152_0, hx152_1, hx152_2, hx152_3⟩ := at_T71 HR0.out x7_2 p152 q152
                              have hw152_3 := hx152_3
                              have hw152_2 := hx152_2
                              have hw152_1 := hx152_1
                              have hw152_0 := hx152_0
                              obtain rfl : ad149 = ad152 := (by injection e152)
                              replace hx152_0 := (HB.out.cell (World.block_lt_of_cell? w _ hx152_0)).trans hx152_0
                              replace hx152_1 := (HB.out.cell (World.block_lt_of_cell? w _ hx152_1)).trans hx152_1
                              replace hx152_2 := (HB.out.cell (World.block_lt_of_cell? w _ hx152_2)).trans hx152_2
                              replace hx152_3 := (HB.out.cell (World.block_lt_of_cell? w _ hx152_3)).trans hx152_3
                              replace p152 := eq_true p152
                              replace q152 := eq_true q152
                              refine start_ (n := 29) (S := fun w' => w'.cell? (ad149.add (((ji17)).toNat * 4)) = some (.int .i64 ((rd_T71 l0 (ji17)).f0)) ∧ w'.cell? ⟨(ad149.add (((ji17)).toNat * 4)).block, (ad149.add (((ji17)).toNat * 4)).off + 1, none⟩ = some (.int .i64 ((rd_T71 l0 (ji17)).f1)) ∧ w'.cell? ⟨(ad149.add (((ji17)).toNat * 4)).block, (ad149.add (((ji17)).toNat * 4)).off + 2, none⟩ = some (.int .i64 ((rd_T71 l0 (ji17)).f2)) ∧ w'.cell? ⟨(ad149.add (((ji17)).toNat * 4)).block, (ad149.add (((ji17)).toNat * 4)).off + 3, none⟩ = some (.int .u64 ((rd_T71 l0 (ji17)).f3)) ∧ w'.cell? (ad149.add ((x7_2).toNat * 4)) = some (.int .i64 ((rd_T71 l0 x7_2).f0)) ∧ w'.cell? ⟨(ad149.add ((x7_2).toNat * 4)).block, (ad149.add ((x7_2).toNat * 4)).off + 1, none⟩ = some (.int .i64 ((rd_T71 l0 x7_2).f1)) ∧ w'.cell? ⟨(ad149.add ((x7_2).toNat * 4)).block, (ad149.add ((x7_2).toNat * 4)).off + 2, none⟩ = some (.int .i64 ((rd_T71 l0 x7_2).f2)) ∧ w'.cell? ⟨(ad149.add ((x7_2).toNat * 4)).block, (ad149.add ((x7_2).toNat * 4)).off + 3, none⟩ = some (.int .u64 ((rd_T71 l0 x7_2).f3))) (ds := []) #[false, false, false, false, false, false, false, false, false, false, false, false, false, false, false, false, false, false, false, false, false, false, false, false, false, false, false, false, false] (by kernel_rfl) rfl rfl ⟨((HB.out.cell (World.block_lt_of_cell? w _ hw151_0)).trans hw151_0), ((HB.out.cell (World.block_lt_of_cell? w _ hw151_1)).trans hw151_1), ((HB.out.cell (World.block_lt_of_cell? w _ hw151_2)).trans hw151_2), ((HB.out.cell (World.block_lt_of_cell? w _ hw151_3)).trans hw151_3), ((HB.out.cell (World.block_lt_of_cell? w _ hw152_0)).trans hw152_0), ((HB.out.cell (World.block_lt_of_cell? w _ hw152_1)).trans hw152_1), ((HB.out.cell (World.block_lt_of_cell? w _ hw152_2)).trans hw152_2), ((HB.out.cell (World.block_lt_of_cell? w _ hw152_3)).trans hw152_3)⟩ (fun hHeld => ?_); refine with_tabW skymosaicref36_Pack.tab15 skymosaicref36_Pack.bits15 (fun HT_ HW_ => ?_)
                              generalize w23.drew = w24 at HO_6 BK150 HB hx151_0 hx151_1 hx151_2 hx151_3 hx152_0 hx152_1 hx152_2 hx152_3 hHeld ⊢
                              refine pure_ (i := 0) (N := some 43) (v := ?_) (a' := ?_) #[true, false, false, false, false, false, false, false, false, false, false, false, false, false, false, false, false, false, false, false, false, false, false, false, false, false, false, false, false] rfl rfl (any_of HT_.out (by kernel_rfl)) (fun _ _ _ h => h) (Or.inl ⟨by rfl, ?_⟩) ?_ ?_
                              rotate_left
                              · intro w'
                                go_simp
                                with_reducible rfl
                              rotate_left
                              · simp only [Act.put, List.setIfInBounds_toArray, List.set_cons_zero, List.set_cons_succ, i64_w, i32_w]
                                rfl
                              refine pure_ (i := 1) (N := some 44) (v := ?_) (a' := ?_) #[true, true, false, false, false, false, false, false, false, false, false, false, false, false, false, false, false, false, false, false, false, false, false, false, false, false, false, false, false] rfl rfl (any_of HT_.out (by kernel_rfl)) (fun _ _ _ h => h) (Or.inl ⟨by rfl, ?_⟩) ?_ ?_
                              rotate_left
                              · intro w'
                                go_simp
                                with_reducible rfl
                              rotate_left
                              · simp only [Act.put, List.setIfInBounds_toArray, List.set_cons_zero, List.set_cons_succ, i64_w, i32_w]
                                rfl
                              refine pure_ (i := 2) (N := some 45) (v := ?_) (a' := ?_) #[true, true, true, false, false, false, false, false, false, false, false, false, false, false, false, false, false, false, false, false, false, false, false, false, false, false, false, false, false] rfl rfl (any_of HT_.out (by kernel_rfl)) (fun _ _ _ h => h) (Or.inl ⟨by rfl, ?_⟩) ?_ ?_
                              rotate_left
                              · intro w'
                                go_simp
                                with_reducible rfl
                              rotate_left
                              · simp only [Act.put, List.setIfInBounds_toArray, List.set_cons_zero, List.set_cons_succ, i64_w, i32_w]
                                rfl
                              refine pure_ (i := 3) (N := some 46) (v := ?_) (a' := ?_) #[true, true, true, true, false, false, false, false, false, false, false, false, false, false, false, false, false, false, false, false, false, false, false, false, false, false, false, false, false] rfl rfl (any_of HT_.out (by kernel_rfl)) (fun _ _ _ h => h) (Or.inl ⟨by rfl, ?_⟩) ?_ ?_
                              rotate_left
                              · intro w'
                                go_simp
                                with_reducible rfl
                              rotate_left
                              · simp only [Act.put, List.setIfInBounds_toArray, List.set_cons_zero, List.set_cons_succ, i64_w, i32_w]
                                rfl
                              refine pure_ (i := 4) (N := some 47) (v := ?_) (a' := ?_) #[true, true, true, true, true, false, false, false, false, false, false, false, false, false, false, false, false, false, false, false, false, false, false, false, false, false, false, false, false] rfl rfl (any_of HT_.out (by kernel_rfl)) (fun _ _ _ h => h) (Or.inl ⟨by rfl, ?_⟩) ?_ ?_
                              rotate_left
                              · intro w'
                                go_simp
                                with_reducible rfl
                              rotate_left
                              · simp only [Act.put, List.setIfInBounds_toArray, List.set_cons_zero, List.set_cons_succ, i64_w, i32_w]
                                rfl
                              refine pure_ (i := 5) (N := some 48) (v := ?_) (a' := ?_) #[true, true, true, true, true, true, false, false, false, false, false, false, false, false, false, false, false, false, false, false, false, false, false, false, false, false, false, false, false] rfl rfl (any_of HT_.out (by kernel_rfl)) (fun _ _ _ h => h) (Or.inl ⟨by rfl, ?_⟩) ?_ ?_
                              rotate_left
                              · intro w'
                                go_simp
                                with_reducible rfl
                              rotate_left
                              · simp only [Act.put, List.setIfInBounds_toArray, List.set_cons_zero, List.set_cons_succ, i64_w, i32_w]
                                rfl
                              refine pure_ (i := 6) (N := some 49) (v := ?_) (a' := ?_) #[true, true, true, true, true, true, true, false, false, false, false, false, false, false, false, false, false, false, false, false, false, false, false, false, false, false, false, false, false] rfl rfl (any_of HT_.out (by kernel_rfl)) (fun _ _ _ h => h) (Or.inl ⟨by rfl, ?_⟩) ?_ ?_
                              rotate_left
                              · intro w'
                                go_simp
                                with_reducible rfl
                              rotate_left
                              · simp only [Act.put, List.setIfInBounds_toArray, List.set_cons_zero, List.set_cons_succ, i64_w, i32_w]
                                rfl
                              refine pure_ (i := 7) (N := some 50) (v := ?_) (a' := ?_) #[true, true, true, true, true, true, true, true, false, false, false, false, false, false, false, false, false, false, false, false, false, false, false, false, false, false, false, false, false] rfl rfl (any_of HT_.out (by kernel_rfl)) (fun _ _ _ h => h) (Or.inl ⟨by rfl, ?_⟩) ?_ ?_
                              rotate_left
                              · intro w'
                                go_simp
                                with_reducible rfl
                              rotate_left
                              · simp only [Act.put, List.setIfInBounds_toArray, List.set_cons_zero, List.set_cons_succ, i64_w, i32_w]
                                rfl
                              refine pure_ (i := 9) (N := some 52) (v := ?_) (a' := ?_) #[true, true, true, true, true, true, true, true, false, true, false, false, false, false, false, false, false, false, false, false, false, false, false, false, false, false, false, false, false] rfl rfl (any_of HT_.out (by kernel_rfl)) (fun _ _ _ h => h) (Or.inl ⟨by rfl, ?_⟩) ?_ ?_
                              rotate_left
                              · intro w'
                                go_simp
                                with_reducible rfl
                              rotate_left
                              · simp only [Act.put, List.setIfInBounds_toArray, List.set_cons_zero, List.set_cons_succ, i64_w, i32_w]
                                rfl
                              refine pure_ (i := 10) (N := some 53) (v := ?_) (a' := ?_) #[true, true, true, true, true, true, true, true, false, true, true, false, false, false, false, false, false, false, false, false, false, false, false, false, false, false, false, false, false] rfl rfl (any_of HT_.out (by kernel_rfl)) (fun _ _ _ h => h) (Or.inl ⟨by rfl, ?_⟩) ?_ ?_
                              rotate_left
                              · intro w'
                                go_simp
                                with_reducible rfl
                              rotate_left
                              · simp only [Act.put, List.setIfInBounds_toArray, List.set_cons_zero, List.set_cons_succ, i64_w, i32_w]
                                rfl
                              refine pure_ (i := 11) (N := some 54) (v := ?_) (a' := ?_) #[true, true, true, true, true, true, true, true, false, true, true, true, false, false, false, false, false, false, false, false, false, false, false, false, false, false, false, false, false] rfl rfl (any_of HT_.out (by kernel_rfl)) (fun _ _ _ h => h) (Or.inl ⟨by rfl, ?_⟩) ?_ ?_
                              rotate_left
                              · intro w'
                                go_simp
                                with_reducible rfl
                              rotate_left
                              · simp only [Act.put, List.setIfInBounds_toArray, List.set_cons_zero, List.set_cons_succ, i64_w, i32_w]
                                rfl
                              refine pure_ (i := 12) (N := some 55) (v := ?_) (a' := ?_) #[true, true, true, true, true, true, true, true, false, true, true, true, true, false, false, false, false, false, false, false, false, false, false, false, false, false, false, false, false] rfl rfl (any_of HT_.out (by kernel_rfl)) (fun _ _ _ h => h) (Or.inl ⟨by rfl, ?_⟩) ?_ ?_
                              rotate_left
                              · intro w'
                                go_simp
                                with_reducible rfl
                              rotate_left
                              · simp only [Act.put, List.setIfInBounds_toArray, List.set_cons_zero, List.set_cons_succ, i64_w, i32_w]
                                rfl
                              refine take_ (i := 8) (N := some 51) (v := ?_) (a' := ?_) #[true, true, true, true, true, true, true, true, true, true, true, true, true, false, false, false, false, false, false, false, false, false, false, false, false, false, false, false, false] rfl rfl (take_ofW HT_.out HW_.out (by kernel_rfl)) (fun _ _ _ h => h) (Or.inl ⟨by rfl, ?_⟩) hHeld ?_ ?_
                              rotate_left
                              · rintro w' ⟨s0, s1, s2, s3, s4, s5, s6, s7⟩
                                go_simp
                                with_reducible rfl
                              rotate_left
                              · simp only [Act.put, List.setIfInBounds_toArray, List.set_cons_zero, List.set_cons_succ, i64_w, i32_w]
                                rfl
                              refine take_ (i := 13) (N := some 56) (v := ?_) (a' := ?_) #[true, true, true, true, true, true, true, true, true, true, true, true, true, true, false, false, false, false, false, false, false, false, false, false, false, false, false, false, false] rfl rfl (take_ofW HT_.out HW_.out (by kernel_rfl)) (fun _ _ _ h => h) (Or.inl ⟨by rfl, ?_⟩) hHeld ?_ ?_
                              rotate_left
                              · rintro w' ⟨s0, s1, s2, s3, s4, s5, s6, s7⟩
                                go_simp
                                with_reducible rfl
                              rotate_left
                              · simp only [Act.put, List.setIfInBounds_toArray, List.set_cons_zero, List.set_cons_succ, i64_w, i32_w]
                                rfl
                              refine pure_ (i := 14) (N := some 57) (v := ?_) (a' := ?_) #[true, true, true, true, true, true, true, true, true, true, true, true, true, true, true, false, false, false, false, false, false, false, false, false, false, false, false, false, false] rfl rfl (any_of HT_.out (by kernel_rfl)) (fun _ _ _ h => h) (Or.inl ⟨by rfl, ?_⟩) ?_ ?_
                              rotate_left
                              · intro w'
                                go_simp
                                with_reducible rfl
                              rotate_left
                              · simp only [Act.put, List.setIfInBounds_toArray, List.set_cons_zero, List.set_cons_succ, i64_w, i32_w]
                                rfl
                              refine pure_ (i := 15) (N := some 58) (v := ?_) (a' := ?_) #[true, true, true, true, true, true, true, true, true, true, true, true, true, true, true, true, false, false, false, false, false, false, false, false, false, false, false, false, false] rfl rfl (any_of HT_.out (by kernel_rfl)) (fun _ _ _ h => h) (Or.inl ⟨by rfl, ?_⟩) ?_ ?_
                              rotate_left
                              · intro w'
                                go_simp
                                with_reducible rfl
                              rotate_left
                              · simp only [Act.put, List.setIfInBounds_toArray, List.set_cons_zero, List.set_cons_succ, i64_w, i32_w]
                                rfl
                              refine pure_ (i := 16) (N := some 59) (v := ?_) (a' := ?_) #[true, true, true, true, true, true, true, true, true, true, true, true, true, true, true, true, true, false, false, false, false, false, false, false, false, false, false, false, false] rfl rfl (any_of HT_.out (by kernel_rfl)) (fun _ _ _ h => h) (Or.inl ⟨by rfl, ?_⟩) ?_ ?_
                              rotate_left
                              · intro w'
                                go_simp
                                with_reducible rfl
                              rotate_left
                              · simp only [Act.put, List.setIfInBounds_toArray, List.set_cons_zero, List.set_cons_succ, i64_w, i32_w]
                                rfl
                              refine pure_ (i := 17) (N := some 60) (v := undef) (a' := ?_) #[true, true, true, true, true, true, true, true, true, true, true, true, true, true, true, true, true, true, false, false, false, false, false, false, false, false, false, false, false] rfl rfl (any_of HT_.out (by kernel_rfl)) (fun _ _ _ h => h) (Or.inr ⟨by rfl, rfl⟩) ?_ ?_
                              rotate_left
                              · simp only [Act.put, List.setIfInBounds_toArray, List.set_cons_zero, List.set_cons_succ, i64_w, i32_w]
                                rfl
                              refine pure_ (i := 18) (N := some 61) (v := undef) (a' := ?_) #[true, true, true, true, true, true, true, true, true, true, true, true, true, true, true, true, true, true, true, false, false, false, false, false, false, false, false, false, false] rfl rfl (any_of HT_.out (by kernel_rfl)) (fun _ _ _ h => h) (Or.inr ⟨by rfl, rfl⟩) ?_ ?_
                              rotate_left
                              · simp only [Act.put, List.setIfInBounds_toArray, List.set_cons_zero, List.set_cons_succ, i64_w, i32_w]
                                rfl
                              refine pure_ (i := 19) (N := some 62) (v := undef) (a' := ?_) #[true, true, true, true, true, true, true, true, true, true, true, true, true, true, true, true, true, true, true, true, false, false, false, false, false, false, false, false, false] rfl rfl (any_of HT_.out (by kernel_rfl)) (fun _ _ _ h => h) (Or.inr ⟨by rfl, rfl⟩) ?_ ?_
                              rotate_left
                              · simp only [Act.put, List.setIfInBounds_toArray, List.set_cons_zero, List.set_cons_succ, i64_w, i32_w]
                                rfl
                              refine pure_ (i := 20) (N := some 63) (v := undef) (a' := ?_) #[true, true, true, true, true, true, true, true, true, true, true, true, true, true, true, true, true, true, true, true, true, false, false, false, false, false, false, false, false] rfl rfl (any_of HT_.out (by kernel_rfl)) (fun _ _ _ h => h) (Or.inr ⟨by rfl, rfl⟩) ?_ ?_
                              rotate_left
                              · simp only [Act.put, List.setIfInBounds_toArray, List.set_cons_zero, List.set_cons_succ, i64_w, i32_w]
                                rfl
                              refine pure_ (i := 21) (N := some 64) (v := undef) (a' := ?_) #[true, true, true, true, true, true, true, true, true, true, true, true, true, true, true, true, true, true, true, true, true, true, false, false, false, false, false, false, false] rfl rfl (any_of HT_.out (by kernel_rfl)) (fun _ _ _ h => h) (Or.inr ⟨by rfl, rfl⟩) ?_ ?_
                              rotate_left
                              · simp only [Act.put, List.setIfInBounds_toArray, List.set_cons_zero, List.set_cons_succ, i64_w, i32_w]
                                rfl
                              refine pure_ (i := 22) (N := some 65) (v := undef) (a' := ?_) #[true, true, true, true, true, true, true, true, true, true, true, true, true, true, true, true, true, true, true, true, true, true, true, false, false, false, false, false, false] rfl rfl (any_of HT_.out (by kernel_rfl)) (fun _ _ _ h => h) (Or.inr ⟨by rfl, rfl⟩) ?_ ?_
                              rotate_left
                              · simp only [Act.put, List.setIfInBounds_toArray, List.set_cons_zero, List.set_cons_succ, i64_w, i32_w]
                                rfl
                              refine pure_ (i := 23) (N := some 66) (v := undef) (a' := ?_) #[true, true, true, true, true, true, true, true, true, true, true, true, true, true, true, true, true, true, true, true, true, true, true, true, false, false, false, false, false] rfl rfl (any_of HT_.out (by kernel_rfl)) (fun _ _ _ h => h) (Or.inr ⟨by rfl, rfl⟩) ?_ ?_
                              rotate_left
                              · simp only [Act.put, List.setIfInBounds_toArray, List.set_cons_zero, List.set_cons_succ, i64_w, i32_w]
                                rfl
                              refine pure_ (i := 24) (N := some 67) (v := undef) (a' := ?_) #[true, true, true, true, true, true, true, true, true, true, true, true, true, true, true, true, true, true, true, true, true, true, true, true, true, false, false, false, false] rfl rfl (any_of HT_.out (by kernel_rfl)) (fun _ _ _ h => h) (Or.inr ⟨by rfl, rfl⟩) ?_ ?_
                              rotate_left
                              · simp only [Act.put, List.setIfInBounds_toArray, List.set_cons_zero, List.set_cons_succ, i64_w, i32_w]
                                rfl
                              refine pure_ (i := 25) (N := some 68) (v := undef) (a' := ?_) #[true, true, true, true, true, true, true, true, true, true, true, true, true, true, true, true, true, true, true, true, true, true, true, true, true, true, false, false, false] rfl rfl (any_of HT_.out (by kernel_rfl)) (fun _ _ _ h => h) (Or.inr ⟨by rfl, rfl⟩) ?_ ?_
                              rotate_left
                              · simp only [Act.put, List.setIfInBounds_toArray, List.set_cons_zero, List.set_cons_succ, i64_w, i32_w]
                                rfl
                              refine pure_ (i := 26) (N := some 69) (v := undef) (a' := ?_) #[true, true, true, true, true, true, true, true, true, true, true, true, true, true, true, true, true, true, true, true, true, true, true, true, true, true, true, false, false] rfl rfl (any_of HT_.out (by kernel_rfl)) (fun _ _ _ h => h) (Or.inr ⟨by rfl, rfl⟩) ?_ ?_
                              rotate_left
                              · simp only [Act.put, List.setIfInBounds_toArray, List.set_cons_zero, List.set_cons_succ, i64_w, i32_w]
                                rfl
                              refine pure_ (i := 27) (N := some 70) (v := undef) (a' := ?_) #[true, true, true, true, true, true, true, true, true, true, true, true, true, true, true, true, true, true, true, true, true, true, true, true, true, true, true, true, false] rfl rfl (any_of HT_.out (by kernel_rfl)) (fun _ _ _ h => h) (Or.inr ⟨by rfl, rfl⟩) ?_ ?_
                              rotate_left
                              · simp only [Act.put, List.setIfInBounds_toArray, List.set_cons_zero, List.set_cons_succ, i64_w, i32_w]
                                rfl
                              refine pure_ (i := 28) (N := some 71) (v := ?_) (a' := ?_) #[true, true, true, true, true, true, true, true, true, true, true, true, true, true, true, true, true, true, true, true, true, true, true, true, true, true, true, true, true] rfl rfl (any_of HT_.out (by kernel_rfl)) (fun _ _ _ h => h) (Or.inl ⟨by rfl, ?_⟩) ?_ ?_
                              rotate_left
                              · intro w'
                                go_simp
                                with_reducible rfl
                              rotate_left
                              · simp only [Act.put, List.setIfInBounds_toArray, List.set_cons_zero, List.set_cons_succ, i64_w, i32_w]
                                rfl
                              refine done_ (done_of HT_.out (by kernel_rfl)) ?_
                              try go_wp2
                              (first | go_meet | (simp only [← hji17]; go_meet))
                              case rel => exact ⟨_, (false), (by first | rfl | (simp; done) | (simp [*]; done)), (by first | exact H' | (rw [hji17]; exact H')), ⟨by have := HK1.out; have := HK2.out; first | omega | exact Nat.le_refl _⟩, ⟨by (with_reducible repeat (first | apply Kd.R_alloc | apply Kd.R_drewN | apply Kd.R_drew)); exact HO_6.out⟩, ⟨by (with_reducible repeat (first | refine blk_drewN ?_ _ | refine blk_drew ?_ | refine blk_alloc ?_ _)); exact BK150.out⟩, ⟨by repeat (first | (with_reducible first | exact HB.out | apply below_alloc | apply pw_below_drewN | apply below_drew1 | refine below_set ?_ GE150.out) | exact HB.out)⟩⟩
                          · rw [if_neg c19] at H
                            exact absurd H (by simp)
                        · rw [if_neg c18] at H
                          exact absurd H (by simp)
                      · rw [if_neg c16] at H
                        have c16b0 : decide ((wrap64 (x7_2 + 1)) < (wrap64 ((wrap64 (x7_2 - (Int.tmod x7_2 16))) + 16))) = false := decide_eq_false c16
                        clear c16
                        (first | rw [c16b0] | (simp only [i64_w, i32_w]; rw [c16b0]) | skip)
                        have H' := Aside0.mk H
                        clear H
                        try go_wp2
                        have n0_ : Aside0 (Kd.R k74 74 (((((((((w14.setCell ⟨gb150, 0, none⟩ (.int .i64 (wrap64 (Int.tdiv x7_2 16)))).setCell ⟨gb150, 1, none⟩ (.int .i64 (Int.tmod x7_2 16))).setCell ⟨gb150, 2, none⟩ (.int .i64 0)).setCell ⟨gb150, 3, none⟩ (.int .i64 ((rd_T71 l0 x7_2).f0))).setCell ⟨gb150, 4, none⟩ (.int .i64 ((rd_T71 l0 x7_2).f1))).setCell ⟨gb150, 5, none⟩ (.int .i64 ((rd_T71 l0 x7_2).f2))).setCell ⟨gb150, 6, none⟩ (.int .u64 ((rd_T71 l0 x7_2).f3))).setCell ⟨gb150, 7, none⟩ (.int .i64 0)).setCell ⟨gb150, 8, none⟩ (.int .i64 0)) w.heap.size (fun k_ => k_ ≠ gb150) u6 x6_2) := ⟨by (with_reducible repeat (first | apply Kd.R_alloc | apply Kd.R_drewN | apply Kd.R_drew)); exact Kd.R_mono (Kd.R_far (p := ⟨gb150, 8, none⟩) (Kd.R_far (p := ⟨gb150, 7, none⟩) (Kd.R_far (p := ⟨gb150, 6, none⟩) (Kd.R_far (p := ⟨gb150, 5, none⟩) (Kd.R_far (p := ⟨gb150, 4, none⟩) (Kd.R_far (p := ⟨gb150, 3, none⟩) (Kd.R_far (p := ⟨gb150, 2, none⟩) (Kd.R_far (p := ⟨gb150, 1, none⟩) (Kd.R_far (p := ⟨gb150, 0, none⟩) (Kd.R_mono HO_6.out (fun k_ hk => (⟨hk, hk.2⟩ : _ ∧ k_ ≠ gb150))) (fun _ hk => hk.2) (.int .i64 (wrap64 (Int.tdiv x7_2 16)))) (fun _ hk => hk.2) (.int .i64 (Int.tmod x7_2 16))) (fun _ hk => hk.2) (.int .i64 0)) (fun _ hk => hk.2) (.int .i64 ((rd_T71 l0 x7_2).f0))) (fun _ hk => hk.2) (.int .i64 ((rd_T71 l0 x7_2).f1))) (fun _ hk => hk.2) (.int .i64 ((rd_T71 l0 x7_2).f2))) (fun _ hk => hk.2) (.int .u64 ((rd_T71 l0 x7_2).f3))) (fun _ hk => hk.2) (.int .i64 0)) (fun _ hk => hk.2) (.int .i64 0)) (fun _ hk => hk.1.2)⟩
                        have n1_ : Aside0 ((((((((((w14.setCell ⟨gb150, 0, none⟩ (.int .i64 (wrap64 (Int.tdiv x7_2 16)))).setCell ⟨gb150, 1, none⟩ (.int .i64 (Int.tmod x7_2 16))).setCell ⟨gb150, 2, none⟩ (.int .i64 0)).setCell ⟨gb150, 3, none⟩ (.int .i64 ((rd_T71 l0 x7_2).f0))).setCell ⟨gb150, 4, none⟩ (.int .i64 ((rd_T71 l0 x7_2).f1))).setCell ⟨gb150, 5, none⟩ (.int .i64 ((rd_T71 l0 x7_2).f2))).setCell ⟨gb150, 6, none⟩ (.int .u64 ((rd_T71 l0 x7_2).f3))).setCell ⟨gb150, 7, none⟩ (.int .i64 0)).setCell ⟨gb150, 8, none⟩ (.int .i64 0)).heap[gb150]? = some (.cells #[.int .i64 (wrap64 (Int.tdiv x7_2 16)), .int .i64 (Int.tmod x7_2 16), .int .i64 0, .int .i64 ((rd_T71 l0 x7_2).f0), .int .i64 ((rd_T71 l0 x7_2).f1), .int .i64 ((rd_T71 l0 x7_2).f2), .int .u64 ((rd_T71 l0 x7_2).f3), .int .i64 0, .int .i64 0] 74 (0, 0))) := ⟨by (with_reducible repeat (first | refine blk_drewN ?_ _ | refine blk_drew ?_ | refine blk_alloc ?_ _)); refine blk_put (cs := #[.int .i64 (wrap64 (Int.tdiv x7_2 16)), .int .i64 (Int.tmod x7_2 16), .int .i64 0, .int .i64 ((rd_T71 l0 x7_2).f0), .int .i64 ((rd_T71 l0 x7_2).f1), .int .i64 ((rd_T71 l0 x7_2).f2), .int .u64 ((rd_T71 l0 x7_2).f3), .int .i64 0, .int .i64 0]) ?_ 8 _ rfl; (with_reducible repeat (first | refine blk_drewN ?_ _ | refine blk_drew ?_ | refine blk_alloc ?_ _)); refine blk_put (cs := #[.int .i64 (wrap64 (Int.tdiv x7_2 16)), .int .i64 (Int.tmod x7_2 16), .int .i64 0, .int .i64 ((rd_T71 l0 x7_2).f0), .int .i64 ((rd_T71 l0 x7_2).f1), .int .i64 ((rd_T71 l0 x7_2).f2), .int .u64 ((rd_T71 l0 x7_2).f3), .int .i64 0, .int .i64 0]) ?_ 7 _ rfl; (with_reducible repeat (first | refine blk_drewN ?_ _ | refine blk_drew ?_ | refine blk_alloc ?_ _)); refine blk_put (cs := #[.int .i64 (wrap64 (Int.tdiv x7_2 16)), .int .i64 (Int.tmod x7_2 16), .int .i64 0, .int .i64 ((rd_T71 l0 x7_2).f0), .int .i64 ((rd_T71 l0 x7_2).f1), .int .i64 ((rd_T71 l0 x7_2).f2), .int .u64 0, .int .i64 0, .int .i64 0]) ?_ 6 _ rfl; (with_reducible repeat (first | refine blk_drewN ?_ _ | refine blk_drew ?_ | refine blk_alloc ?_ _)); refine blk_put (cs := #[.int .i64 (wrap64 (Int.tdiv x7_2 16)), .int .i64 (Int.tmod x7_2 16), .int .i64 0, .int .i64 ((rd_T71 l0 x7_2).f0), .int .i64 ((rd_T71 l0 x7_2).f1), .int .i64 0, .int .u64 0, .int .i64 0, .int .i64 0]) ?_ 5 _ rfl; (with_reducible repeat (first | refine blk_drewN ?_ _ | refine blk_drew ?_ | refine blk_alloc ?_ _)); refine blk_put (cs := #[.int .i64 (wrap64 (Int.tdiv x7_2 16)), .int .i64 (Int.tmod x7_2 16), .int .i64 0, .int .i64 ((rd_T71 l0 x7_2).f0), .int .i64 0, .int .i64 0, .int .u64 0, .int .i64 0, .int .i64 0]) ?_ 4 _ rfl; (with_reducible repeat (first | refine blk_drewN ?_ _ | refine blk_drew ?_ | refine blk_alloc ?_ _)); refine blk_put (cs := #[.int .i64 (wrap64 (Int.tdiv x7_2 16)), .int .i64 (Int.tmod x7_2 16), .int .i64 0, .int .i64 0, .int .i64 0, .int .i64 0, .int .u64 0, .int .i64 0, .int .i64 0]) ?_ 3 _ rfl; (with_reducible repeat (first | refine blk_drewN ?_ _ | refine blk_drew ?_ | refine blk_alloc ?_ _)); refine blk_put (cs := #[.int .i64 (wrap64 (Int.tdiv x7_2 16)), .int .i64 (Int.tmod x7_2 16), .int .i64 0, .int .i64 0, .int .i64 0, .int .i64 0, .int .u64 0, .int .i64 0, .int .i64 0]) ?_ 2 _ rfl; (with_reducible repeat (first | refine blk_drewN ?_ _ | refine blk_drew ?_ | refine blk_alloc ?_ _)); refine blk_put (cs := #[.int .i64 (wrap64 (Int.tdiv x7_2 16)), .int .i64 0, .int .i64 0, .int .i64 0, .int .i64 0, .int .i64 0, .int .u64 0, .int .i64 0, .int .i64 0]) ?_ 1 _ rfl; (with_reducible repeat (first | refine blk_drewN ?_ _ | refine blk_drew ?_ | refine blk_alloc ?_ _)); refine blk_put (cs := #[.int .i64 0, .int .i64 0, .int .i64 0, .int .i64 0, .int .i64 0, .int .i64 0, .int .u64 0, .int .i64 0, .int .i64 0]) ?_ 0 _ rfl; (with_reducible repeat (first | refine blk_drewN ?_ _ | refine blk_drew ?_ | refine blk_alloc ?_ _)); exact BK150.out⟩
                        have n2_ : Aside0 (Below w.heap.size w (((((((((w14.setCell ⟨gb150, 0, none⟩ (.int .i64 (wrap64 (Int.tdiv x7_2 16)))).setCell ⟨gb150, 1, none⟩ (.int .i64 (Int.tmod x7_2 16))).setCell ⟨gb150, 2, none⟩ (.int .i64 0)).setCell ⟨gb150, 3, none⟩ (.int .i64 ((rd_T71 l0 x7_2).f0))).setCell ⟨gb150, 4, none⟩ (.int .i64 ((rd_T71 l0 x7_2).f1))).setCell ⟨gb150, 5, none⟩ (.int .i64 ((rd_T71 l0 x7_2).f2))).setCell ⟨gb150, 6, none⟩ (.int .u64 ((rd_T71 l0 x7_2).f3))).setCell ⟨gb150, 7, none⟩ (.int .i64 0)).setCell ⟨gb150, 8, none⟩ (.int .i64 0))) := ⟨by repeat (first | (with_reducible first | exact HB.out | apply below_alloc | apply pw_below_drewN | apply below_drew1 | refine below_set ?_ GE150.out) | exact HB.out)⟩
                        (try clear HO_6)
                        (try clear BK150)
                        (try clear HB)
                        generalize (((((((((w14.setCell ⟨gb150, 0, none⟩ (.int .i64 (wrap64 (Int.tdiv x7_2 16)))).setCell ⟨gb150, 1, none⟩ (.int .i64 (Int.tmod x7_2 16))).setCell ⟨gb150, 2, none⟩ (.int .i64 0)).setCell ⟨gb150, 3, none⟩ (.int .i64 ((rd_T71 l0 x7_2).f0))).setCell ⟨gb150, 4, none⟩ (.int .i64 ((rd_T71 l0 x7_2).f1))).setCell ⟨gb150, 5, none⟩ (.int .i64 ((rd_T71 l0 x7_2).f2))).setCell ⟨gb150, 6, none⟩ (.int .u64 ((rd_T71 l0 x7_2).f3))).setCell ⟨gb150, 7, none⟩ (.int .i64 0)).setCell ⟨gb150, 8, none⟩ (.int .i64 0)) = w25 at n0_ n1_ n2_ ⊢
                        have HO_6 := n0_
                        have BK150 := n1_
                        have HB := n2_
                        clear n0_ n1_ n2_
                        have n0_ := Aside0.mk (Kd.R_drew HO_6.out)
                        have n1_ := Aside0.mk (blk_drew BK150.out)
                        have n2_ := Aside0.mk (below_drew1 HB.out)
                        clear HO_6
                        clear BK150
                        clear HB
                        have HO_6 := n0_
                        have BK150 := n1_
                        have HB := n2_
                        clear n0_ n1_ n2_
                        refine start_ (n := 29) (S := fun w' => True) (ds := []) #[false, false, false, false, false, false, false, false, false, false, false, false, false, false, false, false, false, false, false, false, false, false, false, false, false, false, false, false, false] (by kernel_rfl) rfl rfl trivial (fun hHeld => ?_); refine with_tabW skymosaicref36_Pack.tab15 skymosaicref36_Pack.bits15 (fun HT_ HW_ => ?_)
                        generalize w25.drew = w26 at HO_6 BK150 HB hHeld ⊢
                        refine pure_ (i := 0) (N := some 43) (v := ?_) (a' := ?_) #[true, false, false, false, false, false, false, false, false, false, false, false, false, false, false, false, false, false, false, false, false, false, false, false, false, false, false, false, false] rfl rfl (any_of HT_.out (by kernel_rfl)) (fun _ _ _ h => h) (Or.inl ⟨by rfl, ?_⟩) ?_ ?_
                        rotate_left
                        · intro w'
                          go_simp
                          with_reducible rfl
                        rotate_left
                        · simp only [Act.put, List.setIfInBounds_toArray, List.set_cons_zero, List.set_cons_succ, i64_w, i32_w]
                          rfl
                        refine pure_ (i := 1) (N := some 44) (v := ?_) (a' := ?_) #[true, true, false, false, false, false, false, false, false, false, false, false, false, false, false, false, false, false, false, false, false, false, false, false, false, false, false, false, false] rfl rfl (any_of HT_.out (by kernel_rfl)) (fun _ _ _ h => h) (Or.inl ⟨by rfl, ?_⟩) ?_ ?_
                        rotate_left
                        · intro w'
                          go_simp
                          with_reducible rfl
                        rotate_left
                        · simp only [Act.put, List.setIfInBounds_toArray, List.set_cons_zero, List.set_cons_succ, i64_w, i32_w]
                          rfl
                        refine pure_ (i := 2) (N := some 45) (v := ?_) (a' := ?_) #[true, true, true, false, false, false, false, false, false, false, false, false, false, false, false, false, false, false, false, false, false, false, false, false, false, false, false, false, false] rfl rfl (any_of HT_.out (by kernel_rfl)) (fun _ _ _ h => h) (Or.inl ⟨by rfl, ?_⟩) ?_ ?_
                        rotate_left
                        · intro w'
                          go_simp
                          with_reducible rfl
                        rotate_left
                        · simp only [Act.put, List.setIfInBounds_toArray, List.set_cons_zero, List.set_cons_succ, i64_w, i32_w]
                          rfl
                        refine pure_ (i := 3) (N := some 46) (v := ?_) (a' := ?_) #[true, true, true, true, false, false, false, false, false, false, false, false, false, false, false, false, false, false, false, false, false, false, false, false, false, false, false, false, false] rfl rfl (any_of HT_.out (by kernel_rfl)) (fun _ _ _ h => h) (Or.inl ⟨by rfl, ?_⟩) ?_ ?_
                        rotate_left
                        · intro w'
                          go_simp
                          with_reducible rfl
                        rotate_left
                        · simp only [Act.put, List.setIfInBounds_toArray, List.set_cons_zero, List.set_cons_succ, i64_w, i32_w]
                          rfl
                        refine pure_ (i := 4) (N := some 47) (v := undef) (a' := ?_) #[true, true, true, true, true, false, false, false, false, false, false, false, false, false, false, false, false, false, false, false, false, false, false, false, false, false, false, false, false] rfl rfl (any_of HT_.out (by kernel_rfl)) (fun _ _ _ h => h) (Or.inr ⟨by rfl, rfl⟩) ?_ ?_
                        rotate_left
                        · simp only [Act.put, List.setIfInBounds_toArray, List.set_cons_zero, List.set_cons_succ, i64_w, i32_w]
                          rfl
                        refine pure_ (i := 5) (N := some 48) (v := undef) (a' := ?_) #[true, true, true, true, true, true, false, false, false, false, false, false, false, false, false, false, false, false, false, false, false, false, false, false, false, false, false, false, false] rfl rfl (any_of HT_.out (by kernel_rfl)) (fun _ _ _ h => h) (Or.inr ⟨by rfl, rfl⟩) ?_ ?_
                        rotate_left
                        · simp only [Act.put, List.setIfInBounds_toArray, List.set_cons_zero, List.set_cons_succ, i64_w, i32_w]
                          rfl
                        refine pure_ (i := 6) (N := some 49) (v := undef) (a' := ?_) #[true, true, true, true, true, true, true, false, false, false, false, false, false, false, false, false, false, false, false, false, false, false, false, false, false, false, false, false, false] rfl rfl (any_of HT_.out (by kernel_rfl)) (fun _ _ _ h => h) (Or.inr ⟨by rfl, rfl⟩) ?_ ?_
                        rotate_left
                        · simp only [Act.put, List.setIfInBounds_toArray, List.set_cons_zero, List.set_cons_succ, i64_w, i32_w]
                          rfl
                        refine pure_ (i := 7) (N := some 50) (v := undef) (a' := ?_) #[true, true, true, true, true, true, true, true, false, false, false, false, false, false, false, false, false, false, false, false, false, false, false, false, false, false, false, false, false] rfl rfl (any_of HT_.out (by kernel_rfl)) (fun _ _ _ h => h) (Or.inr ⟨by rfl, rfl⟩) ?_ ?_
                        rotate_left
                        · simp only [Act.put, List.setIfInBounds_toArray, List.set_cons_zero, List.set_cons_succ, i64_w, i32_w]
                          rfl
                        refine pure_ (i := 8) (N := some 51) (v := undef) (a' := ?_) #[true, true, true, true, true, true, true, true, true, false, false, false, false, false, false, false, false, false, false, false, false, false, false, false, false, false, false, false, false] rfl rfl (any_of HT_.out (by kernel_rfl)) (fun _ _ _ h => h) (Or.inr ⟨by rfl, rfl⟩) ?_ ?_
                        rotate_left
                        · simp only [Act.put, List.setIfInBounds_toArray, List.set_cons_zero, List.set_cons_succ, i64_w, i32_w]
                          rfl
                        refine pure_ (i := 9) (N := some 52) (v := undef) (a' := ?_) #[true, true, true, true, true, true, true, true, true, true, false, false, false, false, false, false, false, false, false, false, false, false, false, false, false, false, false, false, false] rfl rfl (any_of HT_.out (by kernel_rfl)) (fun _ _ _ h => h) (Or.inr ⟨by rfl, rfl⟩) ?_ ?_
                        rotate_left
                        · simp only [Act.put, List.setIfInBounds_toArray, List.set_cons_zero, List.set_cons_succ, i64_w, i32_w]
                          rfl
                        refine pure_ (i := 10) (N := some 53) (v := undef) (a' := ?_) #[true, true, true, true, true, true, true, true, true, true, true, false, false, false, false, false, false, false, false, false, false, false, false, false, false, false, false, false, false] rfl rfl (any_of HT_.out (by kernel_rfl)) (fun _ _ _ h => h) (Or.inr ⟨by rfl, rfl⟩) ?_ ?_
                        rotate_left
                        · simp only [Act.put, List.setIfInBounds_toArray, List.set_cons_zero, List.set_cons_succ, i64_w, i32_w]
                          rfl
                        refine pure_ (i := 11) (N := some 54) (v := undef) (a' := ?_) #[true, true, true, true, true, true, true, true, true, true, true, true, false, false, false, false, false, false, false, false, false, false, false, false, false, false, false, false, false] rfl rfl (any_of HT_.out (by kernel_rfl)) (fun _ _ _ h => h) (Or.inr ⟨by rfl, rfl⟩) ?_ ?_
                        rotate_left
                        · simp only [Act.put, List.setIfInBounds_toArray, List.set_cons_zero, List.set_cons_succ, i64_w, i32_w]
                          rfl
                        refine pure_ (i := 12) (N := some 55) (v := undef) (a' := ?_) #[true, true, true, true, true, true, true, true, true, true, true, true, true, false, false, false, false, false, false, false, false, false, false, false, false, false, false, false, false] rfl rfl (any_of HT_.out (by kernel_rfl)) (fun _ _ _ h => h) (Or.inr ⟨by rfl, rfl⟩) ?_ ?_
                        rotate_left
                        · simp only [Act.put, List.setIfInBounds_toArray, List.set_cons_zero, List.set_cons_succ, i64_w, i32_w]
                          rfl
                        refine pure_ (i := 13) (N := some 56) (v := undef) (a' := ?_) #[true, true, true, true, true, true, true, true, true, true, true, true, true, true, false, false, false, false, false, false, false, false, false, false, false, false, false, false, false] rfl rfl (any_of HT_.out (by kernel_rfl)) (fun _ _ _ h => h) (Or.inr ⟨by rfl, rfl⟩) ?_ ?_
                        rotate_left
                        · simp only [Act.put, List.setIfInBounds_toArray, List.set_cons_zero, List.set_cons_succ, i64_w, i32_w]
                          rfl
                        refine pure_ (i := 14) (N := some 57) (v := undef) (a' := ?_) #[true, true, true, true, true, true, true, true, true, true, true, true, true, true, true, false, false, false, false, false, false, false, false, false, false, false, false, false, false] rfl rfl (any_of HT_.out (by kernel_rfl)) (fun _ _ _ h => h) (Or.inr ⟨by rfl, rfl⟩) ?_ ?_
                        rotate_left
                        · simp only [Act.put, List.setIfInBounds_toArray, List.set_cons_zero, List.set_cons_succ, i64_w, i32_w]
                          rfl
                        refine pure_ (i := 15) (N := some 58) (v := ?_) (a' := ?_) #[true, true, true, true, true, true, true, true, true, true, true, true, true, true, true, true, false, false, false, false, false, false, false, false, false, false, false, false, false] rfl rfl (any_of HT_.out (by kernel_rfl)) (fun _ _ _ h => h) (Or.inl ⟨by rfl, ?_⟩) ?_ ?_
                        rotate_left
                        · intro w'
                          go_simp
                          with_reducible rfl
                        rotate_left
                        · simp only [Act.put, List.setIfInBounds_toArray, List.set_cons_zero, List.set_cons_succ, i64_w, i32_w]
                          rfl
                        refine pure_ (i := 16) (N := some 59) (v := ?_) (a' := ?_) #[true, true, true, true, true, true, true, true, true, true, true, true, true, true, true, true, true, false, false, false, false, false, false, false, false, false, false, false, false] rfl rfl (any_of HT_.out (by kernel_rfl)) (fun _ _ _ h => h) (Or.inl ⟨by rfl, ?_⟩) ?_ ?_
                        rotate_left
                        · intro w'
                          go_simp
                          with_reducible rfl
                        rotate_left
                        · simp only [Act.put, List.setIfInBounds_toArray, List.set_cons_zero, List.set_cons_succ, i64_w, i32_w]
                          rfl
                        refine pure_ (i := 17) (N := some 60) (v := undef) (a' := ?_) #[true, true, true, true, true, true, true, true, true, true, true, true, true, true, true, true, true, true, false, false, false, false, false, false, false, false, false, false, false] rfl rfl (any_of HT_.out (by kernel_rfl)) (fun _ _ _ h => h) (Or.inr ⟨by rfl, rfl⟩) ?_ ?_
                        rotate_left
                        · simp only [Act.put, List.setIfInBounds_toArray, List.set_cons_zero, List.set_cons_succ, i64_w, i32_w]
                          rfl
                        refine pure_ (i := 18) (N := some 61) (v := undef) (a' := ?_) #[true, true, true, true, true, true, true, true, true, true, true, true, true, true, true, true, true, true, true, false, false, false, false, false, false, false, false, false, false] rfl rfl (any_of HT_.out (by kernel_rfl)) (fun _ _ _ h => h) (Or.inr ⟨by rfl, rfl⟩) ?_ ?_
                        rotate_left
                        · simp only [Act.put, List.setIfInBounds_toArray, List.set_cons_zero, List.set_cons_succ, i64_w, i32_w]
                          rfl
                        refine pure_ (i := 19) (N := some 62) (v := undef) (a' := ?_) #[true, true, true, true, true, true, true, true, true, true, true, true, true, true, true, true, true, true, true, true, false, false, false, false, false, false, false, false, false] rfl rfl (any_of HT_.out (by kernel_rfl)) (fun _ _ _ h => h) (Or.inr ⟨by rfl, rfl⟩) ?_ ?_
                        rotate_left
                        · simp only [Act.put, List.setIfInBounds_toArray, List.set_cons_zero, List.set_cons_succ, i64_w, i32_w]
                          rfl
                        refine pure_ (i := 20) (N := some 63) (v := undef) (a' := ?_) #[true, true, true, true, true, true, true, true, true, true, true, true, true, true, true, true, true, true, true, true, true, false, false, false, false, false, false, false, false] rfl rfl (any_of HT_.out (by kernel_rfl)) (fun _ _ _ h => h) (Or.inr ⟨by rfl, rfl⟩) ?_ ?_
                        rotate_left
                        · simp only [Act.put, List.setIfInBounds_toArray, List.set_cons_zero, List.set_cons_succ, i64_w, i32_w]
                          rfl
                        refine pure_ (i := 21) (N := some 64) (v := undef) (a' := ?_) #[true, true, true, true, true, true, true, true, true, true, true, true, true, true, true, true, true, true, true, true, true, true, false, false, false, false, false, false, false] rfl rfl (any_of HT_.out (by kernel_rfl)) (fun _ _ _ h => h) (Or.inr ⟨by rfl, rfl⟩) ?_ ?_
                        rotate_left
                        · simp only [Act.put, List.setIfInBounds_toArray, List.set_cons_zero, List.set_cons_succ, i64_w, i32_w]
                          rfl
                        refine pure_ (i := 22) (N := some 65) (v := undef) (a' := ?_) #[true, true, true, true, true, true, true, true, true, true, true, true, true, true, true, true, true, true, true, true, true, true, true, false, false, false, false, false, false] rfl rfl (any_of HT_.out (by kernel_rfl)) (fun _ _ _ h => h) (Or.inr ⟨by rfl, rfl⟩) ?_ ?_
                        rotate_left
                        · simp only [Act.put, List.setIfInBounds_toArray, List.set_cons_zero, List.set_cons_succ, i64_w, i32_w]
                          rfl
                        refine pure_ (i := 23) (N := some 66) (v := undef) (a' := ?_) #[true, true, true, true, true, true, true, true, true, true, true, true, true, true, true, true, true, true, true, true, true, true, true, true, false, false, false, false, false] rfl rfl (any_of HT_.out (by kernel_rfl)) (fun _ _ _ h => h) (Or.inr ⟨by rfl, rfl⟩) ?_ ?_
                        rotate_left
                        · simp only [Act.put, List.setIfInBounds_toArray, List.set_cons_zero, List.set_cons_succ, i64_w, i32_w]
                          rfl
                        refine pure_ (i := 24) (N := some 67) (v := undef) (a' := ?_) #[true, true, true, true, true, true, true, true, true, true, true, true, true, true, true, true, true, true, true, true, true, true, true, true, true, false, false, false, false] rfl rfl (any_of HT_.out (by kernel_rfl)) (fun _ _ _ h => h) (Or.inr ⟨by rfl, rfl⟩) ?_ ?_
                        rotate_left
                        · simp only [Act.put, List.setIfInBounds_toArray, List.set_cons_zero, List.set_cons_succ, i64_w, i32_w]
                          rfl
                        refine pure_ (i := 25) (N := some 68) (v := undef) (a' := ?_) #[true, true, true, true, true, true, true, true, true, true, true, true, true, true, true, true, true, true, true, true, true, true, true, true, true, true, false, false, false] rfl rfl (any_of HT_.out (by kernel_rfl)) (fun _ _ _ h => h) (Or.inr ⟨by rfl, rfl⟩) ?_ ?_
                        rotate_left
                        · simp only [Act.put, List.setIfInBounds_toArray, List.set_cons_zero, List.set_cons_succ, i64_w, i32_w]
                          rfl
                        refine pure_ (i := 26) (N := some 69) (v := undef) (a' := ?_) #[true, true, true, true, true, true, true, true, true, true, true, true, true, true, true, true, true, true, true, true, true, true, true, true, true, true, true, false, false] rfl rfl (any_of HT_.out (by kernel_rfl)) (fun _ _ _ h => h) (Or.inr ⟨by rfl, rfl⟩) ?_ ?_
                        rotate_left
                        · simp only [Act.put, List.setIfInBounds_toArray, List.set_cons_zero, List.set_cons_succ, i64_w, i32_w]
                          rfl
                        refine pure_ (i := 27) (N := some 70) (v := undef) (a' := ?_) #[true, true, true, true, true, true, true, true, true, true, true, true, true, true, true, true, true, true, true, true, true, true, true, true, true, true, true, true, false] rfl rfl (any_of HT_.out (by kernel_rfl)) (fun _ _ _ h => h) (Or.inr ⟨by rfl, rfl⟩) ?_ ?_
                        rotate_left
                        · simp only [Act.put, List.setIfInBounds_toArray, List.set_cons_zero, List.set_cons_succ, i64_w, i32_w]
                          rfl
                        refine pure_ (i := 28) (N := some 71) (v := ?_) (a' := ?_) #[true, true, true, true, true, true, true, true, true, true, true, true, true, true, true, true, true, true, true, true, true, true, true, true, true, true, true, true, true] rfl rfl (any_of HT_.out (by kernel_rfl)) (fun _ _ _ h => h) (Or.inl ⟨by rfl, ?_⟩) ?_ ?_
                        rotate_left
                        · intro w'
                          go_simp
                          with_reducible rfl
                        rotate_left
                        · simp only [Act.put, List.setIfInBounds_toArray, List.set_cons_zero, List.set_cons_succ, i64_w, i32_w]
                          rfl
                        refine done_ (done_of HT_.out (by kernel_rfl)) ?_
                        try go_wp2
                        (first | go_meet | (simp only [← hji17]; go_meet))
                        case rel => exact ⟨_, (false), (by first | rfl | (simp; done) | (simp [*]; done)), (by first | exact H' | (rw [hji17]; exact H')), ⟨by have := HK1.out; have := HK2.out; first | omega | exact Nat.le_refl _⟩, ⟨by (with_reducible repeat (first | apply Kd.R_alloc | apply Kd.R_drewN | apply Kd.R_drew)); exact HO_6.out⟩, ⟨by (with_reducible repeat (first | refine blk_drewN ?_ _ | refine blk_drew ?_ | refine blk_alloc ?_ _)); exact BK150.out⟩, ⟨by repeat (first | (with_reducible first | exact HB.out | apply below_alloc | apply pw_below_drewN | apply below_drew1 | refine below_set ?_ GE150.out) | exact HB.out)⟩⟩
                    case rest =>
                      clear HC13
                      try clear c1
                      try clear p1
                      try clear q1
                      try clear hx1
                      try clear c2
                      try clear p2
                      try clear p6
                      try clear p15
                      try clear q15
                      try clear hx15
                      try clear c16
                      try clear c16b0
                      try clear c18
                      try clear c19
                      try clear c20
                      try clear c20b0
                      try clear c20b1
                      try clear hx151_0
                      try clear hx151_1
                      try clear hx151_2
                      try clear hx151_3
                      try clear hx152_0
                      try clear hx152_1
                      try clear hx152_2
                      try clear hx152_3
                      try clear p151
                      try clear p152
                      try clear q151
                      try clear q152
                      obtain ⟨kq, x71_12, rfl, HA, HJ12, HO_6, BK150, HB⟩ := hcut
                      cases kq with
                      | zero => exact absurd HA.out (by simp [skymosaicref36_Pack.j2])
                      | succ kj12 =>
                        have H := HA.out
                        clear HA
                        simp only [skymosaicref36_Pack.j2] at H
                        by_cases c27 : x71_12 = true
                        · subst c27
                          have H1 : (if 0 ≤ (wrap64 (x7_2 + 1)) then (if (wrap64 (x7_2 + 1)) < (l0.length : Int) then (if 0 ≤ x7_2 then (if x7_2 < (l0.length : Int) then (skymosaicref36_Pack.l2 kj12 l0 x6_2 x7_2 (wrap64 ((wrap64 (x7_2 - (Int.tmod x7_2 16))) + 16)) (wrap64 (x7_2 + 1)) (wrap64 (Int.tdiv x7_2 16)) (Int.tmod x7_2 16) 0 ((rd_T71 l0 x7_2).f0) ((rd_T71 l0 x7_2).f1) ((rd_T71 l0 x7_2).f2) ((rd_T71 l0 x7_2).f3) (wrap64 (((rd_T71 l0 (wrap64 (x7_2 + 1))).f1) - ((rd_T71 l0 x7_2).f1))) (wrap64 (((rd_T71 l0 (wrap64 (x7_2 + 1))).f2) - ((rd_T71 l0 x7_2).f2)))) else (none)) else (none)) else (none)) else (none)) = some (r1, r2) := by rw [if_pos rfl] at H; exact H
                          clear H
                          have H := H1
                          clear H1
                          obtain ⟨ji28, hji28⟩ : ∃ j_ : Int, (wrap64 (x7_2 + 1)) = j_ := ⟨_, rfl⟩
                          replace H : (if 0 ≤ (ji28) then (if (ji28) < (l0.length : Int) then (if 0 ≤ x7_2 then (if x7_2 < (l0.length : Int) then (skymosaicref36_Pack.l2 kj12 l0 x6_2 x7_2 (wrap64 ((wrap64 (x7_2 - (Int.tmod x7_2 16))) + 16)) (ji28) (wrap64 (Int.tdiv x7_2 16)) (Int.tmod x7_2 16) 0 ((rd_T71 l0 x7_2).f0) ((rd_T71 l0 x7_2).f1) ((rd_T71 l0 x7_2).f2) ((rd_T71 l0 x7_2).f3) (wrap64 (((rd_T71 l0 (ji28)).f1) - ((rd_T71 l0 x7_2).f1))) (wrap64 (((rd_T71 l0 (ji28)).f2) - ((rd_T71 l0 x7_2).f2)))) else (none)) else (none)) else (none)) else (none)) = some (r1, r2) := by first | (rw [hji28] at H; exact H) | (simp only [hji28] at H ⊢; exact H)
                          have hji28w : (IntKind.i64.wrap (x7_2 + 1)) = ji28 := (i64_w _).trans hji28
                          by_cases c29 : 0 ≤ (ji28)
                          · rw [if_pos c29] at H
                            have c29b0 : decide (0 ≤ (ji28)) = true := decide_eq_true c29
                            clear c29
                            by_cases c30 : (ji28) < (l0.length : Int)
                            · rw [if_pos c30] at H
                              have c30b0 : decide ((ji28) < (l0.length : Int)) = true := decide_eq_true c30
                              clear c30
                              by_cases c31 : 0 ≤ x7_2
                              · rw [if_pos c31] at H
                                have c31b0 : decide (0 ≤ x7_2) = true := decide_eq_true c31
                                clear c31
                                by_cases c32 : x7_2 < (l0.length : Int)
                                · rw [if_pos c32] at H
                                  have c32b0 : decide (x7_2 < (l0.length : Int)) = true := decide_eq_true c32
                                  clear c32
                                  have H' := Aside0.mk H
                                  clear H
                                  try go_wp2
                                  have n0_ := Aside0.mk (Kd.R_drew HO_6.out)
                                  have n1_ := Aside0.mk (blk_drew BK150.out)
                                  have n2_ := Aside0.mk (below_drew1 HB.out)
                                  clear HO_6
                                  clear BK150
                                  clear HB
                                  have HO_6 := n0_
                                  have BK150 := n1_
                                  have HB := n2_
                                  clear n0_ n1_ n2_
                                  have p155 : 0 ≤ ((ji28) : Int) := of_decide_eq_true (by first | (with_reducible assumption) | assumption)
                                  have q155 : (ji28) < (l0.length : Int) := of_decide_eq_true (by first | (with_reducible assumption) | assumption)
                                  obtain ⟨ad155, e155, hx155_0, hx155_1, hx155_2, hx155_3⟩ := at_T71 HR0.out (ji28) p155 q155
                                  have hw155_3 := hx155_3
                                  have hw155_2 := hx155_2
                                  have hw155_1 := hx155_1
                                  have hw155_0 := hx155_0
                                  obtain rfl : ad149 = ad155 := (by injection e155)
                                  replace hx155_0 := (HB.out.cell (World.block_lt_of_cell? w _ hx155_0)).trans hx155_0
                                  replace hx155_1 := (HB.out.cell (World.block_lt_of_cell? w _ hx155_1)).trans hx155_1
                                  replace hx155_2 := (HB.out.cell (World.block_lt_of_cell? w _ hx155_2)).trans hx155_2
                                  replace hx155_3 := (HB.out.cell (World.block_lt_of_cell? w _ hx155_3)).trans hx155_3
                                  replace p155 := eq_true p155
                                  replace q155 := eq_true q155
                                  have p156 : 0 ≤ (x7_2 : Int) := of_decide_eq_true (by first | (with_reducible assumption) | assumption)
                                  have q156 : x7_2 < (l0.length : Int) := of_decide_eq_true (by first | (with_reducible assumption) | assumption)
                                  obtain ⟨ad156, e156, hx156_0, hx156_1, hx156_2, hx156_3⟩ := at_T71 HR0.out x7_2 p156 q156
                                  have hw156_3 := hx156_3
                                  have hw156_2 := hx156_2
                                  have hw156_1 := hx156_1
                                  have hw156_0 := hx156_0
                                  obtain rfl : ad149 = ad156 := (by injection e156)
                                  replace hx156_0 := (HB.out.cell (World.block_lt_of_cell? w _ hx156_0)).trans hx156_0
                                  replace hx156_1 := (HB.out.cell (World.block_lt_of_cell? w _ hx156_1)).trans hx156_1
                                  replace hx156_2 := (HB.out.cell (World.block_lt_of_cell? w _ hx156_2)).trans hx156_2
                                  replace hx156_3 := (HB.out.cell (World.block_lt_of_cell? w _ hx156_3)).trans hx156_3
                                  replace p156 := eq_true p156
                                  replace q156 := eq_true q156
                                  refine start_ (n := 13) (S := fun w' => w'.cell? (ad149.add (((ji28)).toNat * 4)) = some (.int .i64 ((rd_T71 l0 (ji28)).f0)) ∧ w'.cell? ⟨(ad149.add (((ji28)).toNat * 4)).block, (ad149.add (((ji28)).toNat * 4)).off + 1, none⟩ = some (.int .i64 ((rd_T71 l0 (ji28)).f1)) ∧ w'.cell? ⟨(ad149.add (((ji28)).toNat * 4)).block, (ad149.add (((ji28)).toNat * 4)).off + 2, none⟩ = some (.int .i64 ((rd_T71 l0 (ji28)).f2)) ∧ w'.cell? ⟨(ad149.add (((ji28)).toNat * 4)).block, (ad149.add (((ji28)).toNat * 4)).off + 3, none⟩ = some (.int .u64 ((rd_T71 l0 (ji28)).f3)) ∧ w'.cell? (ad149.add ((x7_2).toNat * 4)) = some (.int .i64 ((rd_T71 l0 x7_2).f0)) ∧ w'.cell? ⟨(ad149.add ((x7_2).toNat * 4)).block, (ad149.add ((x7_2).toNat * 4)).off + 1, none⟩ = some (.int .i64 ((rd_T71 l0 x7_2).f1)) ∧ w'.cell? ⟨(ad149.add ((x7_2).toNat * 4)).block, (ad149.add ((x7_2).toNat * 4)).off + 2, none⟩ = some (.int .i64 ((rd_T71 l0 x7_2).f2)) ∧ w'.cell? ⟨(ad149.add ((x7_2).toNat * 4)).block, (ad149.add ((x7_2).toNat * 4)).off + 3, none⟩ = some (.int .u64 ((rd_T71 l0 x7_2).f3))) (ds := []) #[false, false, false, false, false, false, false, false, false, false, false, false, false] (by kernel_rfl) rfl rfl ⟨((HB.out.cell (World.block_lt_of_cell? w _ hw155_0)).trans hw155_0), ((HB.out.cell (World.block_lt_of_cell? w _ hw155_1)).trans hw155_1), ((HB.out.cell (World.block_lt_of_cell? w _ hw155_2)).trans hw155_2), ((HB.out.cell (World.block_lt_of_cell? w _ hw155_3)).trans hw155_3), ((HB.out.cell (World.block_lt_of_cell? w _ hw156_0)).trans hw156_0), ((HB.out.cell (World.block_lt_of_cell? w _ hw156_1)).trans hw156_1), ((HB.out.cell (World.block_lt_of_cell? w _ hw156_2)).trans hw156_2), ((HB.out.cell (World.block_lt_of_cell? w _ hw156_3)).trans hw156_3)⟩ (fun hHeld => ?_); refine with_tabW skymosaicref36_Pack.tab16 skymosaicref36_Pack.bits16 (fun HT_ HW_ => ?_)
                                  generalize wc.drew = w33 at HO_6 BK150 HB hx155_0 hx155_1 hx155_2 hx155_3 hx156_0 hx156_1 hx156_2 hx156_3 hHeld ⊢
                                  refine pure_ (i := 0) (N := some 72) (v := ?_) (a' := ?_) #[true, false, false, false, false, false, false, false, false, false, false, false, false] rfl rfl (any_of HT_.out (by kernel_rfl)) (fun _ _ _ h => h) (Or.inl ⟨by rfl, ?_⟩) ?_ ?_
                                  rotate_left
                                  · intro w'
                                    go_simp
                                    with_reducible rfl
                                  rotate_left
                                  · simp only [Act.put, List.setIfInBounds_toArray, List.set_cons_zero, List.set_cons_succ, i64_w, i32_w]
                                    rfl
                                  refine pure_ (i := 1) (N := some 73) (v := ?_) (a' := ?_) #[true, true, false, false, false, false, false, false, false, false, false, false, false] rfl rfl (any_of HT_.out (by kernel_rfl)) (fun _ _ _ h => h) (Or.inl ⟨by rfl, ?_⟩) ?_ ?_
                                  rotate_left
                                  · intro w'
                                    go_simp
                                    with_reducible rfl
                                  rotate_left
                                  · simp only [Act.put, List.setIfInBounds_toArray, List.set_cons_zero, List.set_cons_succ, i64_w, i32_w]
                                    rfl
                                  refine pure_ (i := 2) (N := some 74) (v := ?_) (a' := ?_) #[true, true, true, false, false, false, false, false, false, false, false, false, false] rfl rfl (any_of HT_.out (by kernel_rfl)) (fun _ _ _ h => h) (Or.inl ⟨by rfl, ?_⟩) ?_ ?_
                                  rotate_left
                                  · intro w'
                                    go_simp
                                    with_reducible rfl
                                  rotate_left
                                  · simp only [Act.put, List.setIfInBounds_toArray, List.set_cons_zero, List.set_cons_succ, i64_w, i32_w]
                                    rfl
                                  refine pure_ (i := 3) (N := some 75) (v := ?_) (a' := ?_) #[true, true, true, true, false, false, false, false, false, false, false, false, false] rfl rfl (any_of HT_.out (by kernel_rfl)) (fun _ _ _ h => h) (Or.inl ⟨by rfl, ?_⟩) ?_ ?_
                                  rotate_left
                                  · intro w'
                                    go_simp
                                    with_reducible rfl
                                  rotate_left
                                  · simp only [Act.put, List.setIfInBounds_toArray, List.set_cons_zero, List.set_cons_succ, i64_w, i32_w]
                                    rfl
                                  refine pure_ (i := 5) (N := some 77) (v := ?_) (a' := ?_) #[true, true, true, true, false, true, false, false, false, false, false, false, false] rfl rfl (any_of HT_.out (by kernel_rfl)) (fun _ _ _ h => h) (Or.inl ⟨by rfl, ?_⟩) ?_ ?_
                                  rotate_left
                                  · intro w'
                                    go_simp
                                    with_reducible rfl
                                  rotate_left
                                  · simp only [Act.put, List.setIfInBounds_toArray, List.set_cons_zero, List.set_cons_succ, i64_w, i32_w]
                                    rfl
                                  refine pure_ (i := 6) (N := some 78) (v := ?_) (a' := ?_) #[true, true, true, true, false, true, true, false, false, false, false, false, false] rfl rfl (any_of HT_.out (by kernel_rfl)) (fun _ _ _ h => h) (Or.inl ⟨by rfl, ?_⟩) ?_ ?_
                                  rotate_left
                                  · intro w'
                                    go_simp
                                    with_reducible rfl
                                  rotate_left
                                  · simp only [Act.put, List.setIfInBounds_toArray, List.set_cons_zero, List.set_cons_succ, i64_w, i32_w]
                                    rfl
                                  refine pure_ (i := 7) (N := some 79) (v := ?_) (a' := ?_) #[true, true, true, true, false, true, true, true, false, false, false, false, false] rfl rfl (any_of HT_.out (by kernel_rfl)) (fun _ _ _ h => h) (Or.inl ⟨by rfl, ?_⟩) ?_ ?_
                                  rotate_left
                                  · intro w'
                                    go_simp
                                    with_reducible rfl
                                  rotate_left
                                  · simp only [Act.put, List.setIfInBounds_toArray, List.set_cons_zero, List.set_cons_succ, i64_w, i32_w]
                                    rfl
                                  refine pure_ (i := 8) (N := some 80) (v := ?_) (a' := ?_) #[true, true, true, true, false, true, true, true, true, false, false, false, false] rfl rfl (any_of HT_.out (by kernel_rfl)) (fun _ _ _ h => h) (Or.inl ⟨by rfl, ?_⟩) ?_ ?_
                                  rotate_left
                                  · intro w'
                                    go_simp
                                    with_reducible rfl
                                  rotate_left
                                  · simp only [Act.put, List.setIfInBounds_toArray, List.set_cons_zero, List.set_cons_succ, i64_w, i32_w]
                                    rfl
                                  refine take_ (i := 4) (N := some 76) (v := ?_) (a' := ?_) #[true, true, true, true, true, true, true, true, true, false, false, false, false] rfl rfl (take_ofW HT_.out HW_.out (by kernel_rfl)) (fun _ _ _ h => h) (Or.inl ⟨by rfl, ?_⟩) hHeld ?_ ?_
                                  rotate_left
                                  · rintro w' ⟨s0, s1, s2, s3, s4, s5, s6, s7⟩
                                    go_simp
                                    with_reducible rfl
                                  rotate_left
                                  · simp only [Act.put, List.setIfInBounds_toArray, List.set_cons_zero, List.set_cons_succ, i64_w, i32_w]
                                    rfl
                                  refine take_ (i := 9) (N := some 81) (v := ?_) (a' := ?_) #[true, true, true, true, true, true, true, true, true, true, false, false, false] rfl rfl (take_ofW HT_.out HW_.out (by kernel_rfl)) (fun _ _ _ h => h) (Or.inl ⟨by rfl, ?_⟩) hHeld ?_ ?_
                                  rotate_left
                                  · rintro w' ⟨s0, s1, s2, s3, s4, s5, s6, s7⟩
                                    go_simp
                                    with_reducible rfl
                                  rotate_left
                                  · simp only [Act.put, List.setIfInBounds_toArray, List.set_cons_zero, List.set_cons_succ, i64_w, i32_w]
                                    rfl
                                  refine pure_ (i := 10) (N := some 82) (v := ?_) (a' := ?_) #[true, true, true, true, true, true, true, true, true, true, true, false, false] rfl rfl (any_of HT_.out (by kernel_rfl)) (fun _ _ _ h => h) (Or.inl ⟨by rfl, ?_⟩) ?_ ?_
                                  rotate_left
                                  · intro w'
                                    go_simp
                                    with_reducible rfl
                                  rotate_left
                                  · simp only [Act.put, List.setIfInBounds_toArray, List.set_cons_zero, List.set_cons_succ, i64_w, i32_w]
                                    rfl
                                  refine pure_ (i := 11) (N := some 83) (v := ?_) (a' := ?_) #[true, true, true, true, true, true, true, true, true, true, true, true, false] rfl rfl (any_of HT_.out (by kernel_rfl)) (fun _ _ _ h => h) (Or.inl ⟨by rfl, ?_⟩) ?_ ?_
                                  rotate_left
                                  · intro w'
                                    go_simp
                                    with_reducible rfl
                                  rotate_left
                                  · simp only [Act.put, List.setIfInBounds_toArray, List.set_cons_zero, List.set_cons_succ, i64_w, i32_w]
                                    rfl
                                  refine one_ (i := 12) (N := none) #[true, true, true, true, true, true, true, true, true, true, true, true, true] rfl rfl (one_of HT_.out (by kernel_rfl)) (by decide) (fun K hK => ?_)
                                  have hs34 : w33.cell? ⟨gb150, 7, none⟩ = some (.int .i64 0) := (blk_cell BK150.out 7).trans rfl
                                  have hfs34 := blk_frozen BK150.out 7
                                  refine skip_ (w1 := ?_) (by rfl) rfl ?_ ?_
                                  rotate_left
                                  · go_simp
                                    rfl
                                  refine hK.out _ _ ⟨((cell_far (p := ⟨gb150, _, none⟩) (by first | exact Nat.ne_of_lt (Nat.lt_of_lt_of_le (by have := World.block_lt_of_cell? _ _ hw155_0; first | rwa [add_block] at this | exact this) GW150.out) | (rw [add_block]; exact Nat.ne_of_lt (Nat.lt_of_lt_of_le (by have := World.block_lt_of_cell? _ _ hw155_0; first | rwa [add_block] at this | exact this) GW150.out)) | (show (Addr.add _ _).block ≠ _; rw [add_block]; exact Nat.ne_of_lt (Nat.lt_of_lt_of_le (by have := World.block_lt_of_cell? _ _ hw155_0; first | rwa [add_block] at this | exact this) GW150.out)) | (dsimp only; exact Nat.ne_of_lt (Nat.lt_of_lt_of_le (by have := World.block_lt_of_cell? _ _ hw155_0; first | rwa [add_block] at this | exact this) GW150.out))) _).trans (hHeld.1)), ((cell_far (p := ⟨gb150, _, none⟩) (by first | exact Nat.ne_of_lt (Nat.lt_of_lt_of_le (by have := World.block_lt_of_cell? _ _ hw155_1; first | rwa [add_block] at this | exact this) GW150.out) | (rw [add_block]; exact Nat.ne_of_lt (Nat.lt_of_lt_of_le (by have := World.block_lt_of_cell? _ _ hw155_1; first | rwa [add_block] at this | exact this) GW150.out)) | (show (Addr.add _ _).block ≠ _; rw [add_block]; exact Nat.ne_of_lt (Nat.lt_of_lt_of_le (by have := World.block_lt_of_cell? _ _ hw155_1; first | rwa [add_block] at this | exact this) GW150.out)) | (dsimp only; exact Nat.ne_of_lt (Nat.lt_of_lt_of_le (by have := World.block_lt_of_cell? _ _ hw155_1; first | rwa [add_block] at this | exact this) GW150.out))) _).trans (hHeld.2.1)), ((cell_far (p := ⟨gb150, _, none⟩) (by first | exact Nat.ne_of_lt (Nat.lt_of_lt_of_le (by have := World.block_lt_of_cell? _ _ hw155_2; first | rwa [add_block] at this | exact this) GW150.out) | (rw [add_block]; exact Nat.ne_of_lt (Nat.lt_of_lt_of_le (by have := World.block_lt_of_cell? _ _ hw155_2; first | rwa [add_block] at this | exact this) GW150.out)) | (show (Addr.add _ _).block ≠ _; rw [add_block]; exact Nat.ne_of_lt (Nat.lt_of_lt_of_le (by have := World.block_lt_of_cell? _ _ hw155_2; first | rwa [add_block] at this | exact this) GW150.out)) | (dsimp only; exact Nat.ne_of_lt (Nat.lt_of_lt_of_le (by have := World.block_lt_of_cell? _ _ hw155_2; first | rwa [add_block] at this | exact this) GW150.out))) _).trans (hHeld.2.2.1)), ((cell_far (p := ⟨gb150, _, none⟩) (by first | exact Nat.ne_of_lt (Nat.lt_of_lt_of_le (by have := World.block_lt_of_cell? _ _ hw155_3; first | rwa [add_block] at this | exact this) GW150.out) | (rw [add_block]; exact Nat.ne_of_lt (Nat.lt_of_lt_of_le (by have := World.block_lt_of_cell? _ _ hw155_3; first | rwa [add_block] at this | exact this) GW150.out)) | (show (Addr.add _ _).block ≠ _; rw [add_block]; exact Nat.ne_of_lt (Nat.lt_of_lt_of_le (by have := World.block_lt_of_cell? _ _ hw155_3; first | rwa [add_block] at this | exact this) GW150.out)) | (dsimp only; exact Nat.ne_of_lt (Nat.lt_of_lt_of_le (by have := World.block_lt_of_cell? _ _ hw155_3; first | rwa [add_block] at this | exact this) GW150.out))) _).trans (hHeld.2.2.2.1)), ((cell_far (p := ⟨gb150, _, none⟩) (by first | exact Nat.ne_of_lt (Nat.lt_of_lt_of_le (by have := World.block_lt_of_cell? _ _ hw156_0; first | rwa [add_block] at this | exact this) GW150.out) | (rw [add_block]; exact Nat.ne_of_lt (Nat.lt_of_lt_of_le (by have := World.block_lt_of_cell? _ _ hw156_0; first | rwa [add_block] at this | exact this) GW150.out)) | (show (Addr.add _ _).block ≠ _; rw [add_block]; exact Nat.ne_of_lt (Nat.lt_of_lt_of_le (by have := World.block_lt_of_cell? _ _ hw156_0; first | rwa [add_block] at this | exact this) GW150.out)) | (dsimp only; exact Nat.ne_of_lt (Nat.lt_of_lt_of_le (by have := World.block_lt_of_cell? _ _ hw156_0; first | rwa [add_block] at this | exact this) GW150.out))) _).trans (hHeld.2.2.2.2.1)), ((cell_far (p := ⟨gb150, _, none⟩) (by first | exact Nat.ne_of_lt (Nat.lt_of_lt_of_le (by have := World.block_lt_of_cell? _ _ hw156_1; first | rwa [add_block] at this | exact this) GW150.out) | (rw [add_block]; exact Nat.ne_of_lt (Nat.lt_of_lt_of_le (by have := World.block_lt_of_cell? _ _ hw156_1; first | rwa [add_block] at this | exact this) GW150.out)) | (show (Addr.add _ _).block ≠ _; rw [add_block]; exact Nat.ne_of_lt (Nat.lt_of_lt_of_le (by have := World.block_lt_of_cell? _ _ hw156_1; first | rwa [add_block] at this | exact this) GW150.out)) | (dsimp only; exact Nat.ne_of_lt (Nat.lt_of_lt_of_le (by have := World.block_lt_of_cell? _ _ hw156_1; first | rwa [add_block] at this | exact this) GW150.out))) _).trans (hHeld.2.2.2.2.2.1)), ((cell_far (p := ⟨gb150, _, none⟩) (by first | exact Nat.ne_of_lt (Nat.lt_of_lt_of_le (by have := World.block_lt_of_cell? _ _ hw156_2; first | rwa [add_block] at this | exact this) GW150.out) | (rw [add_block]; exact Nat.ne_of_lt (Nat.lt_of_lt_of_le (by have := World.block_lt_of_cell? _ _ hw156_2; first | rwa [add_block] at this | exact this) GW150.out)) | (show (Addr.add _ _).block ≠ _; rw [add_block]; exact Nat.ne_of_lt (Nat.lt_of_lt_of_le (by have := World.block_lt_of_cell? _ _ hw156_2; first | rwa [add_block] at this | exact this) GW150.out)) | (dsimp only; exact Nat.ne_of_lt (Nat.lt_of_lt_of_le (by have := World.block_lt_of_cell? _ _ hw156_2; first | rwa [add_block] at this | exact this) GW150.out))) _).trans (hHeld.2.2.2.2.2.2.1)), ((cell_far (p := ⟨gb150, _, none⟩) (by first | exact Nat.ne_of_lt (Nat.lt_of_lt_of_le (by have := World.block_lt_of_cell? _ _ hw156_3; first | rwa [add_block] at this | exact this) GW150.out) | (rw [add_block]; exact Nat.ne_of_lt (Nat.lt_of_lt_of_le (by have := World.block_lt_of_cell? _ _ hw156_3; first | rwa [add_block] at this | exact this) GW150.out)) | (show (Addr.add _ _).block ≠ _; rw [add_block]; exact Nat.ne_of_lt (Nat.lt_of_lt_of_le (by have := World.block_lt_of_cell? _ _ hw156_3; first | rwa [add_block] at this | exact this) GW150.out)) | (dsimp only; exact Nat.ne_of_lt (Nat.lt_of_lt_of_le (by have := World.block_lt_of_cell? _ _ hw156_3; first | rwa [add_block] at this | exact this) GW150.out))) _).trans (hHeld.2.2.2.2.2.2.2))⟩ (fun hHeld => ?_)
                                  clear hK K
                                  refine done_ (done_of HT_.out (by kernel_rfl)) ?_
                                  try go_wp2
                                  have n0_ : Aside0 (Kd.R k74 74 (w33.setCell ⟨gb150, 7, none⟩ (.int .i64 (wrap64 (((rd_T71 l0 (ji28)).f1) - ((rd_T71 l0 x7_2).f1))))) w.heap.size (fun k_ => k_ ≠ gb150) u6 x6_2) := ⟨by (with_reducible repeat (first | apply Kd.R_alloc | apply Kd.R_drewN | apply Kd.R_drew)); exact Kd.R_mono (Kd.R_far (p := ⟨gb150, 7, none⟩) (Kd.R_mono HO_6.out (fun k_ hk => (⟨hk, hk⟩ : _ ∧ k_ ≠ gb150))) (fun _ hk => hk.2) (.int .i64 (wrap64 (((rd_T71 l0 (ji28)).f1) - ((rd_T71 l0 x7_2).f1))))) (fun _ hk => hk.1)⟩
                                  have n1_ : Aside0 ((w33.setCell ⟨gb150, 7, none⟩ (.int .i64 (wrap64 (((rd_T71 l0 (ji28)).f1) - ((rd_T71 l0 x7_2).f1))))).heap[gb150]? = some (.cells #[.int .i64 (wrap64 (Int.tdiv x7_2 16)), .int .i64 (Int.tmod x7_2 16), .int .i64 0, .int .i64 ((rd_T71 l0 x7_2).f0), .int .i64 ((rd_T71 l0 x7_2).f1), .int .i64 ((rd_T71 l0 x7_2).f2), .int .u64 ((rd_T71 l0 x7_2).f3), .int .i64 (wrap64 (((rd_T71 l0 (ji28)).f1) - ((rd_T71 l0 x7_2).f1))), .int .i64 0] 74 (0, 0))) := ⟨by (with_reducible repeat (first | refine blk_drewN ?_ _ | refine blk_drew ?_ | refine blk_alloc ?_ _)); refine blk_put (cs := #[.int .i64 (wrap64 (Int.tdiv x7_2 16)), .int .i64 (Int.tmod x7_2 16), .int .i64 0, .int .i64 ((rd_T71 l0 x7_2).f0), .int .i64 ((rd_T71 l0 x7_2).f1), .int .i64 ((rd_T71 l0 x7_2).f2), .int .u64 ((rd_T71 l0 x7_2).f3), .int .i64 0, .int .i64 0]) ?_ 7 _ rfl; (with_reducible repeat (first | refine blk_drewN ?_ _ | refine blk_drew ?_ | refine blk_alloc ?_ _)); exact BK150.out⟩
                                  have n2_ : Aside0 (Below w.heap.size w (w33.setCell ⟨gb150, 7, none⟩ (.int .i64 (wrap64 (((rd_T71 l0 (ji28)).f1) - ((rd_T71 l0 x7_2).f1)))))) := ⟨by repeat (first | (with_reducible first | exact HB.out | apply below_alloc | apply pw_below_drewN | apply below_drew1 | refine below_set ?_ GE150.out) | exact HB.out)⟩
                                  (try clear HO_6)
                                  (try clear BK150)
                                  (try clear HB)
                                  generalize (w33.setCell ⟨gb150, 7, none⟩ (.int .i64 (wrap64 (((rd_T71 l0 (ji28)).f1) - ((rd_T71 l0 x7_2).f1))))) = w35 at n0_ n1_ n2_ ⊢
                                  have HO_6 := n0_
                                  have BK150 := n1_
                                  have HB := n2_
                                  clear n0_ n1_ n2_
                                  have n0_ := Aside0.mk (Kd.R_drew HO_6.out)
                                  have n1_ := Aside0.mk (blk_drew BK150.out)
                                  have n2_ := Aside0.mk (below_drew1 HB.out)
                                  clear HO_6
                                  clear BK150
                                  clear HB
                                  have HO_6 := n0_
                                  have BK150 := n1_
                                  have HB := n2_
                                  clear n0_ n1_ n2_
                                  have p157 : 0 ≤ ((ji28) : Int) := of_decide_eq_true (by first | (with_reducible assumption) | assumption)
                                  have q157 : (ji28) < (l0.length : Int) := of_decide_eq_true (by first | (with_reducible assumption) | assumption)
                                  obtain ⟨ad157, e157, hx157_0, hx157_1, hx157_2, hx157_3⟩ := at_T71 HR0.out (ji28) p157 q157
                                  have hw157_3 := hx157_3
                                  have hw157_2 := hx157_2
                                  have hw157_1 := hx157_1
                                  have hw157_0 := hx157_0
                                  obtain rfl : ad149 = ad157 := (by injection e157)
                                  replace hx157_0 := (HB.out.cell (World.block_lt_of_cell? w _ hx157_0)).trans hx157_0
                                  replace hx157_1 := (HB.out.cell (World.block_lt_of_cell? w _ hx157_1)).trans hx157_1
                                  replace hx157_2 := (HB.out.cell (World.block_lt_of_cell? w _ hx157_2)).trans hx157_2
                                  replace hx157_3 := (HB.out.cell (World.block_lt_of_cell? w _ hx157_3)).trans hx157_3
                                  replace p157 := eq_true p157
                                  replace q157 := eq_true q157
                                  have p158 : 0 ≤ (x7_2 : Int) := of_decide_eq_true (by first | (with_reducible assumption) | assumption)
                                  have q158 : x7_2 < (l0.length : Int) := of_decide_eq_true (by first | (with_reducible assumption) | assumption)
                                  obtain ⟨ad158, e158, hx158_0, hx158_1, hx158_2, hx158_3⟩ := at_T71 HR0.out x7_2 p158 q158
                                  have hw158_3 := hx158_3
                                  have hw158_2 := hx158_2
                                  have hw158_1 := hx158_1
                                  have hw158_0 := hx158_0
                                  obtain rfl : ad149 = ad158 := (by injection e158)
                                  replace hx158_0 := (HB.out.cell (World.block_lt_of_cell? w _ hx158_0)).trans hx158_0
                                  replace hx158_1 := (HB.out.cell (World.block_lt_of_cell? w _ hx158_1)).trans hx158_1
                                  replace hx158_2 := (HB.out.cell (World.block_lt_of_cell? w _ hx158_2)).trans hx158_2
                                  replace hx158_3 := (HB.out.cell (World.block_lt_of_cell? w _ hx158_3)).trans hx158_3
                                  replace p158 := eq_true p158
                                  replace q158 := eq_true q158
                                  refine start_ (n := 13) (S := fun w' => w'.cell? (ad149.add (((ji28)).toNat * 4)) = some (.int .i64 ((rd_T71 l0 (ji28)).f0)) ∧ w'.cell? ⟨(ad149.add (((ji28)).toNat * 4)).block, (ad149.add (((ji28)).toNat * 4)).off + 1, none⟩ = some (.int .i64 ((rd_T71 l0 (ji28)).f1)) ∧ w'.cell? ⟨(ad149.add (((ji28)).toNat * 4)).block, (ad149.add (((ji28)).toNat * 4)).off + 2, none⟩ = some (.int .i64 ((rd_T71 l0 (ji28)).f2)) ∧ w'.cell? ⟨(ad149.add (((ji28)).toNat * 4)).block, (ad149.add (((ji28)).toNat * 4)).off + 3, none⟩ = some (.int .u64 ((rd_T71 l0 (ji28)).f3)) ∧ w'.cell? (ad149.add ((x7_2).toNat * 4)) = some (.int .i64 ((rd_T71 l0 x7_2).f0)) ∧ w'.cell? ⟨(ad149.add ((x7_2).toNat * 4)).block, (ad149.add ((x7_2).toNat * 4)).off + 1, none⟩ = some (.int .i64 ((rd_T71 l0 x7_2).f1)) ∧ w'.cell? ⟨(ad149.add ((x7_2).toNat * 4)).block, (ad149.add ((x7_2).toNat * 4)).off + 2, none⟩ = some (.int .i64 ((rd_T71 l0 x7_2).f2)) ∧ w'.cell? ⟨(ad149.add ((x7_2).toNat * 4)).block, (ad149.add ((x7_2).toNat * 4)).off + 3, none⟩ = some (.int .u64 ((rd_T71 l0 x7_2).f3))) (ds := []) #[false, false, false, false, false, false, false, false, false, false, false, false, false] (by kernel_rfl) rfl rfl ⟨((HB.out.cell (World.block_lt_of_cell? w _ hw157_0)).trans hw157_0), ((HB.out.cell (World.block_lt_of_cell? w _ hw157_1)).trans hw157_1), ((HB.out.cell (World.block_lt_of_cell? w _ hw157_2)).trans hw157_2), ((HB.out.cell (World.block_lt_of_cell? w _ hw157_3)).trans hw157_3), ((HB.out.cell (World.block_lt_of_cell? w _ hw158_0)).trans hw158_0), ((HB.out.cell (World.block_lt_of_cell? w _ hw158_1)).trans hw158_1), ((HB.out.cell (World.block_lt_of_cell? w _ hw158_2)).trans hw158_2), ((HB.out.cell (World.block_lt_of_cell? w _ hw158_3)).trans hw158_3)⟩ (fun hHeld => ?_); refine with_tabW skymosaicref36_Pack.tab17 skymosaicref36_Pack.bits17 (fun HT_ HW_ => ?_)
                                  generalize w35.drew = w36 at HO_6 BK150 HB hx157_0 hx157_1 hx157_2 hx157_3 hx158_0 hx158_1 hx158_2 hx158_3 hHeld ⊢
                                  refine pure_ (i := 0) (N := some 84) (v := ?_) (a' := ?_) #[true, false, false, false, false, false, false, false, false, false, false, false, false] rfl rfl (any_of HT_.out (by kernel_rfl)) (fun _ _ _ h => h) (Or.inl ⟨by rfl, ?_⟩) ?_ ?_
                                  rotate_left
                                  · intro w'
                                    go_simp
                                    with_reducible rfl
                                  rotate_left
                                  · simp only [Act.put, List.setIfInBounds_toArray, List.set_cons_zero, List.set_cons_succ, i64_w, i32_w]
                                    rfl
                                  refine pure_ (i := 1) (N := some 85) (v := ?_) (a' := ?_) #[true, true, false, false, false, false, false, false, false, false, false, false, false] rfl rfl (any_of HT_.out (by kernel_rfl)) (fun _ _ _ h => h) (Or.inl ⟨by rfl, ?_⟩) ?_ ?_
                                  rotate_left
                                  · intro w'
                                    go_simp
                                    with_reducible rfl
                                  rotate_left
                                  · simp only [Act.put, List.setIfInBounds_toArray, List.set_cons_zero, List.set_cons_succ, i64_w, i32_w]
                                    rfl
                                  refine pure_ (i := 2) (N := some 86) (v := ?_) (a' := ?_) #[true, true, true, false, false, false, false, false, false, false, false, false, false] rfl rfl (any_of HT_.out (by kernel_rfl)) (fun _ _ _ h => h) (Or.inl ⟨by rfl, ?_⟩) ?_ ?_
                                  rotate_left
                                  · intro w'
                                    go_simp
                                    with_reducible rfl
                                  rotate_left
                                  · simp only [Act.put, List.setIfInBounds_toArray, List.set_cons_zero, List.set_cons_succ, i64_w, i32_w]
                                    rfl
                                  refine pure_ (i := 3) (N := some 87) (v := ?_) (a' := ?_) #[true, true, true, true, false, false, false, false, false, false, false, false, false] rfl rfl (any_of HT_.out (by kernel_rfl)) (fun _ _ _ h => h) (Or.inl ⟨by rfl, ?_⟩) ?_ ?_
                                  rotate_left
                                  · intro w'
                                    go_simp
                                    with_reducible rfl
                                  rotate_left
                                  · simp only [Act.put, List.setIfInBounds_toArray, List.set_cons_zero, List.set_cons_succ, i64_w, i32_w]
                                    rfl
                                  refine pure_ (i := 5) (N := some 89) (v := ?_) (a' := ?_) #[true, true, true, true, false, true, false, false, false, false, false, false, false] rfl rfl (any_of HT_.out (by kernel_rfl)) (fun _ _ _ h => h) (Or.inl ⟨by rfl, ?_⟩) ?_ ?_
                                  rotate_left
                                  · intro w'
                                    go_simp
                                    with_reducible rfl
                                  rotate_left
                                  · simp only [Act.put, List.setIfInBounds_toArray, List.set_cons_zero, List.set_cons_succ, i64_w, i32_w]
                                    rfl
                                  refine pure_ (i := 6) (N := some 90) (v := ?_) (a' := ?_) #[true, true, true, true, false, true, true, false, false, false, false, false, false] rfl rfl (any_of HT_.out (by kernel_rfl)) (fun _ _ _ h => h) (Or.inl ⟨by rfl, ?_⟩) ?_ ?_
                                  rotate_left
                                  · intro w'
                                    go_simp
                                    with_reducible rfl
                                  rotate_left
                                  · simp only [Act.put, List.setIfInBounds_toArray, List.set_cons_zero, List.set_cons_succ, i64_w, i32_w]
                                    rfl
                                  refine pure_ (i := 7) (N := some 91) (v := ?_) (a' := ?_) #[true, true, true, true, false, true, true, true, false, false, false, false, false] rfl rfl (any_of HT_.out (by kernel_rfl)) (fun _ _ _ h => h) (Or.inl ⟨by rfl, ?_⟩) ?_ ?_
                                  rotate_left
                                  · intro w'
                                    go_simp
                                    with_reducible rfl
                                  rotate_left
                                  · simp only [Act.put, List.setIfInBounds_toArray, List.set_cons_zero, List.set_cons_succ, i64_w, i32_w]
                                    rfl
                                  refine pure_ (i := 8) (N := some 92) (v := ?_) (a' := ?_) #[true, true, true, true, false, true, true, true, true, false, false, false, false] rfl rfl (any_of HT_.out (by kernel_rfl)) (fun _ _ _ h => h) (Or.inl ⟨by rfl, ?_⟩) ?_ ?_
                                  rotate_left
                                  · intro w'
                                    go_simp
                                    with_reducible rfl
                                  rotate_left
                                  · simp only [Act.put, List.setIfInBounds_toArray, List.set_cons_zero, List.set_cons_succ, i64_w, i32_w]
                                    rfl
                                  refine take_ (i := 4) (N := some 88) (v := ?_) (a' := ?_) #[true, true, true, true, true, true, true, true, true, false, false, false, false] rfl rfl (take_ofW HT_.out HW_.out (by kernel_rfl)) (fun _ _ _ h => h) (Or.inl ⟨by rfl, ?_⟩) hHeld ?_ ?_
                                  rotate_left
                                  · rintro w' ⟨s0, s1, s2, s3, s4, s5, s6, s7⟩
                                    go_simp
                                    with_reducible rfl
                                  rotate_left
                                  · simp only [Act.put, List.setIfInBounds_toArray, List.set_cons_zero, List.set_cons_succ, i64_w, i32_w]
                                    rfl
                                  refine take_ (i := 9) (N := some 93) (v := ?_) (a' := ?_) #[true, true, true, true, true, true, true, true, true, true, false, false, false] rfl rfl (take_ofW HT_.out HW_.out (by kernel_rfl)) (fun _ _ _ h => h) (Or.inl ⟨by rfl, ?_⟩) hHeld ?_ ?_
                                  rotate_left
                                  · rintro w' ⟨s0, s1, s2, s3, s4, s5, s6, s7⟩
                                    go_simp
                                    with_reducible rfl
                                  rotate_left
                                  · simp only [Act.put, List.setIfInBounds_toArray, List.set_cons_zero, List.set_cons_succ, i64_w, i32_w]
                                    rfl
                                  refine pure_ (i := 10) (N := some 94) (v := ?_) (a' := ?_) #[true, true, true, true, true, true, true, true, true, true, true, false, false] rfl rfl (any_of HT_.out (by kernel_rfl)) (fun _ _ _ h => h) (Or.inl ⟨by rfl, ?_⟩) ?_ ?_
                                  rotate_left
                                  · intro w'
                                    go_simp
                                    with_reducible rfl
                                  rotate_left
                                  · simp only [Act.put, List.setIfInBounds_toArray, List.set_cons_zero, List.set_cons_succ, i64_w, i32_w]
                                    rfl
                                  refine pure_ (i := 11) (N := some 95) (v := ?_) (a' := ?_) #[true, true, true, true, true, true, true, true, true, true, true, true, false] rfl rfl (any_of HT_.out (by kernel_rfl)) (fun _ _ _ h => h) (Or.inl ⟨by rfl, ?_⟩) ?_ ?_
                                  rotate_left
                                  · intro w'
                                    go_simp
                                    with_reducible rfl
                                  rotate_left
                                  · simp only [Act.put, List.setIfInBounds_toArray, List.set_cons_zero, List.set_cons_succ, i64_w, i32_w]
                                    rfl
                                  refine one_ (i := 12) (N := none) #[true, true, true, true, true, true, true, true, true, true, true, true, true] rfl rfl (one_of HT_.out (by kernel_rfl)) (by decide) (fun K hK => ?_)
                                  have hs37 : w36.cell? ⟨gb150, 8, none⟩ = some (.int .i64 0) := (blk_cell BK150.out 8).trans rfl
                                  have hfs37 := blk_frozen BK150.out 8
                                  refine skip_ (w1 := ?_) (by rfl) rfl ?_ ?_
                                  rotate_left
                                  · go_simp
                                    rfl
                                  refine hK.out _ _ ⟨((cell_far (p := ⟨gb150, _, none⟩) (by first | exact Nat.ne_of_lt (Nat.lt_of_lt_of_le (by have := World.block_lt_of_cell? _ _ hw157_0; first | rwa [add_block] at this | exact this) GW150.out) | (rw [add_block]; exact Nat.ne_of_lt (Nat.lt_of_lt_of_le (by have := World.block_lt_of_cell? _ _ hw157_0; first | rwa [add_block] at this | exact this) GW150.out)) | (show (Addr.add _ _).block ≠ _; rw [add_block]; exact Nat.ne_of_lt (Nat.lt_of_lt_of_le (by have := World.block_lt_of_cell? _ _ hw157_0; first | rwa [add_block] at this | exact this) GW150.out)) | (dsimp only; exact Nat.ne_of_lt (Nat.lt_of_lt_of_le (by have := World.block_lt_of_cell? _ _ hw157_0; first | rwa [add_block] at this | exact this) GW150.out))) _).trans (hHeld.1)), ((cell_far (p := ⟨gb150, _, none⟩) (by first | exact Nat.ne_of_lt (Nat.lt_of_lt_of_le (by have := World.block_lt_of_cell? _ _ hw157_1; first | rwa [add_block] at this | exact this) GW150.out) | (rw [add_block]; exact Nat.ne_of_lt (Nat.lt_of_lt_of_le (by have := World.block_lt_of_cell? _ _ hw157_1; first | rwa [add_block] at this | exact this) GW150.out)) | (show (Addr.add _ _).block ≠ _; rw [add_block]; exact Nat.ne_of_lt (Nat.lt_of_lt_of_le (by have := World.block_lt_of_cell? _ _ hw157_1; first | rwa [add_block] at this | exact this) GW150.out)) | (dsimp only; exact Nat.ne_of_lt (Nat.lt_of_lt_of_le (by have := World.block_lt_of_cell? _ _ hw157_1; first | rwa [add_block] at this | exact this) GW150.out))) _).trans (hHeld.2.1)), ((cell_far (p := ⟨gb150, _, none⟩) (by first | exact Nat.ne_of_lt (Nat.lt_of_lt_of_le (by have := World.block_lt_of_cell? _ _ hw157_2; first | rwa [add_block] at this | exact this) GW150.out) | (rw [add_block]; exact Nat.ne_of_lt (Nat.lt_of_lt_of_le (by have := World.block_lt_of_cell? _ _ hw157_2; first | rwa [add_block] at this | exact this) GW150.out)) | (show (Addr.add _ _).block ≠ _; rw [add_block]; exact Nat.ne_of_lt (Nat.lt_of_lt_of_le (by have := World.block_lt_of_cell? _ _ hw157_2; first | rwa [add_block] at this | exact this) GW150.out)) | (dsimp only; exact Nat.ne_of_lt (Nat.lt_of_lt_of_le (by have := World.block_lt_of_cell? _ _ hw157_2; first | rwa [add_block] at this | exact this) GW150.out))) _).trans (hHeld.2.2.1)), ((cell_far (p := ⟨gb150, _, none⟩) (by first | exact Nat.ne_of_lt (Nat.lt_of_lt_of_le (by have := World.block_lt_of_cell? _ _ hw157_3; first | rwa [add_block] at this | exact this) GW150.out) | (rw [add_block]; exact Nat.ne_of_lt (Nat.lt_of_lt_of_le (by have := World.block_lt_of_cell? _ _ hw157_3; first | rwa [add_block] at this | exact this) GW150.out)) | (show (Addr.add _ _).block ≠ _; rw [add_block]; exact Nat.ne_of_lt (Nat.lt_of_lt_of_le (by have := World.block_lt_of_cell? _ _ hw157_3; first | rwa [add_block] at this | exact this) GW150.out)) | (dsimp only; exact Nat.ne_of_lt (Nat.lt_of_lt_of_le (by have := World.block_lt_of_cell? _ _ hw157_3; first | rwa [add_block] at this | exact this) GW150.out))) _).trans (hHeld.2.2.2.1)), ((cell_far (p := ⟨gb150, _, none⟩) (by first | exact Nat.ne_of_lt (Nat.lt_of_lt_of_le (by have := World.block_lt_of_cell? _ _ hw158_0; first | rwa [add_block] at this | exact this) GW150.out) | (rw [add_block]; exact Nat.ne_of_lt (Nat.lt_of_lt_of_le (by have := World.block_lt_of_cell? _ _ hw158_0; first | rwa [add_block] at this | exact this) GW150.out)) | (show (Addr.add _ _).block ≠ _; rw [add_block]; exact Nat.ne_of_lt (Nat.lt_of_lt_of_le (by have := World.block_lt_of_cell? _ _ hw158_0; first | rwa [add_block] at this | exact this) GW150.out)) | (dsimp only; exact Nat.ne_of_lt (Nat.lt_of_lt_of_le (by have := World.block_lt_of_cell? _ _ hw158_0; first | rwa [add_block] at this | exact this) GW150.out))) _).trans (hHeld.2.2.2.2.1)), ((cell_far (p := ⟨gb150, _, none⟩) (by first | exact Nat.ne_of_lt (Nat.lt_of_lt_of_le (by have := World.block_lt_of_cell? _ _ hw158_1; first | rwa [add_block] at this | exact this) GW150.out) | (rw [add_block]; exact Nat.ne_of_lt (Nat.lt_of_lt_of_le (by have := World.block_lt_of_cell? _ _ hw158_1; first | rwa [add_block] at this | exact this) GW150.out)) | (show (Addr.add _ _).block ≠ _; rw [add_block]; exact Nat.ne_of_lt (Nat.lt_of_lt_of_le (by have := World.block_lt_of_cell? _ _ hw158_1; first | rwa [add_block] at this | exact this) GW150.out)) | (dsimp only; exact Nat.ne_of_lt (Nat.lt_of_lt_of_le (by have := World.block_lt_of_cell? _ _ hw158_1; first | rwa [add_block] at this | exact this) GW150.out))) _).trans (hHeld.2.2.2.2.2.1)), ((cell_far (p := ⟨gb150, _, none⟩) (by first | exact Nat.ne_of_lt (Nat.lt_of_lt_of_le (by have := World.block_lt_of_cell? _ _ hw158_2; first | rwa [add_block] at this | exact this) GW150.out) | (rw [add_block]; exact Nat.ne_of_lt (Nat.lt_of_lt_of_le (by have := World.block_lt_of_cell? _ _ hw158_2; first | rwa [add_block] at this | exact this) GW150.out)) | (show (Addr.add _ _).block ≠ _; rw [add_block]; exact Nat.ne_of_lt (Nat.lt_of_lt_of_le (by have := World.block_lt_of_cell? _ _ hw158_2; first | rwa [add_block] at this | exact this) GW150.out)) | (dsimp only; exact Nat.ne_of_lt (Nat.lt_of_lt_of_le (by have := World.block_lt_of_cell? _ _ hw158_2; first | rwa [add_block] at this | exact this) GW150.out))) _).trans (hHeld.2.2.2.2.2.2.1)), ((cell_far (p := ⟨gb150, _, none⟩) (by first | exact Nat.ne_of_lt (Nat.lt_of_lt_of_le (by have := World.block_lt_of_cell? _ _ hw158_3; first | rwa [add_block] at this | exact this) GW150.out) | (rw [add_block]; exact Nat.ne_of_lt (Nat.lt_of_lt_of_le (by have := World.block_lt_of_cell? _ _ hw158_3; first | rwa [add_block] at this | exact this) GW150.out)) | (show (Addr.add _ _).block ≠ _; rw [add_block]; exact Nat.ne_of_lt (Nat.lt_of_lt_of_le (by have := World.block_lt_of_cell? _ _ hw158_3; first | rwa [add_block] at this | exact this) GW150.out)) | (dsimp only; exact Nat.ne_of_lt (Nat.lt_of_lt_of_le (by have := World.block_lt_of_cell? _ _ hw158_3; first | rwa [add_block] at this | exact this) GW150.out))) _).trans (hHeld.2.2.2.2.2.2.2))⟩ (fun hHeld => ?_)
                                  clear hK K
                                  refine done_ (done_of HT_.out (by kernel_rfl)) ?_
                                  try go_wp2
                                  go_loopg [10] kj12 (fun kq v10 w' => ∃ (x10_4 : Int), v10 = .int .i64 x10_4 ∧ Aside0 (skymosaicref36_Pack.l2 kq l0 x6_2 x7_2 (wrap64 ((wrap64 (x7_2 - (Int.tmod x7_2 16))) + 16)) x10_4 (wrap64 (Int.tdiv x7_2 16)) (Int.tmod x7_2 16) 0 ((rd_T71 l0 x7_2).f0) ((rd_T71 l0 x7_2).f1) ((rd_T71 l0 x7_2).f2) ((rd_T71 l0 x7_2).f3) (wrap64 (((rd_T71 l0 (ji28)).f1) - ((rd_T71 l0 x7_2).f1))) (wrap64 (((rd_T71 l0 (ji28)).f2) - ((rd_T71 l0 x7_2).f2))) = some (r1, r2)) ∧ Aside0 (kq ≤ kj12) ∧ Aside0 (Kd.R k74 74 w' w.heap.size (fun k_ => k_ ≠ gb150) u6 x6_2) ∧ Aside0 (w'.heap[gb150]? = some (.cells #[.int .i64 (wrap64 (Int.tdiv x7_2 16)), .int .i64 (Int.tmod x7_2 16), .int .i64 0, .int .i64 ((rd_T71 l0 x7_2).f0), .int .i64 ((rd_T71 l0 x7_2).f1), .int .i64 ((rd_T71 l0 x7_2).f2), .int .u64 ((rd_T71 l0 x7_2).f3), .int .i64 (wrap64 (((rd_T71 l0 (ji28)).f1) - ((rd_T71 l0 x7_2).f1))), .int .i64 (wrap64 (((rd_T71 l0 (ji28)).f2) - ((rd_T71 l0 x7_2).f2)))] 74 (0, 0))) ∧ Aside0 (Below w.heap.size w w'))
                                  case atStart => exact ⟨((ji28)), (by first | rfl | (simp; done) | (simp only [← hji28] <;> (first | rfl | simp)) | (simp [*]; done)), H', ⟨Nat.le_refl _⟩, ⟨by (with_reducible repeat (first | apply Kd.R_alloc | apply Kd.R_drewN | apply Kd.R_drew)); exact Kd.R_mono (Kd.R_far (p := ⟨gb150, 8, none⟩) (Kd.R_mono HO_6.out (fun k_ hk => (⟨hk, hk⟩ : _ ∧ k_ ≠ gb150))) (fun _ hk => hk.2) (.int .i64 (wrap64 (((rd_T71 l0 (ji28)).f2) - ((rd_T71 l0 x7_2).f2))))) (fun _ hk => hk.1)⟩, ⟨by (with_reducible repeat (first | refine blk_drewN ?_ _ | refine blk_drew ?_ | refine blk_alloc ?_ _)); refine blk_put (cs := #[.int .i64 (wrap64 (Int.tdiv x7_2 16)), .int .i64 (Int.tmod x7_2 16), .int .i64 0, .int .i64 ((rd_T71 l0 x7_2).f0), .int .i64 ((rd_T71 l0 x7_2).f1), .int .i64 ((rd_T71 l0 x7_2).f2), .int .u64 ((rd_T71 l0 x7_2).f3), .int .i64 (wrap64 (((rd_T71 l0 (ji28)).f1) - ((rd_T71 l0 x7_2).f1))), .int .i64 0]) ?_ 8 _ rfl; (with_reducible repeat (first | refine blk_drewN ?_ _ | refine blk_drew ?_ | refine blk_alloc ?_ _)); exact BK150.out⟩, ⟨by repeat (first | (with_reducible first | exact HB.out | apply below_alloc | apply pw_below_drewN | apply below_drew1 | refine below_set ?_ GE150.out) | exact HB.out)⟩⟩
                                  case round =>
                                    clear H'
                                    try clear c1
                                    try clear p1
                                    try clear q1
                                    try clear hx1
                                    try clear c2
                                    try clear p2
                                    try clear c3
                                    try clear p6
                                    try clear p15
                                    try clear q15
                                    try clear hx15
                                    try clear c16
                                    try clear c16b0
                                    try clear c18
                                    try clear c19
                                    try clear c20
                                    try clear c20b0
                                    try clear c20b1
                                    try clear c27
                                    try clear c29
                                    try clear c29b0
                                    try clear c30
                                    try clear c30b0
                                    try clear c31
                                    try clear c31b0
                                    try clear c32
                                    try clear c32b0
                                    try clear hx151_0
                                    try clear hx151_1
                                    try clear hx151_2
                                    try clear hx151_3
                                    try clear hx152_0
                                    try clear hx152_1
                                    try clear hx152_2
                                    try clear hx152_3
                                    try clear hx155_0
                                    try clear hx155_1
                                    try clear hx155_2
                                    try clear hx155_3
                                    try clear hx156_0
                                    try clear hx156_1
                                    try clear hx156_2
                                    try clear hx156_3
                                    try clear hx157_0
                                    try clear hx157_1
                                    try clear hx157_2
                                    try clear hx157_3
                                    try clear hx158_0
                                    try clear hx158_1
                                    try clear hx158_2
                                    try clear hx158_3
                                    try clear p1
                                    try clear p15
                                    try clear p151
                                    try clear p152
                                    try clear p155
                                    try clear p156
                                    try clear p157
                                    try clear p158
                                    try clear p2
                                    try clear p6
                                    try clear q1
                                    try clear q15
                                    try clear q151
                                    try clear q152
                                    try clear q155
                                    try clear q156
                                    try clear q157
                                    try clear q158
                                    obtain ⟨x10_4, rfl, HA, HK4, HO_6, BK150, HB⟩ := hrel
                                    cases gk with
                                    | zero => exact absurd HA.out (by simp [skymosaicref36_Pack.l2])
                                    | succ k4 =>
                                      have H := HA.out
                                      clear HA
                                      simp only [skymosaicref36_Pack.l2] at H
                                      by_cases c38 : x10_4 < (wrap64 ((wrap64 (x7_2 - (Int.tmod x7_2 16))) + 16))
                                      · rw [if_pos c38] at H
                                        have c38b0 : decide (x10_4 < (wrap64 ((wrap64 (x7_2 - (Int.tmod x7_2 16))) + 16))) = true := decide_eq_true c38
                                        clear c38
                                        by_cases c39 : 0 ≤ x10_4
                                        · rw [if_pos c39] at H
                                          have c39b0 : decide (0 ≤ x10_4) = true := decide_eq_true c39
                                          clear c39
                                          by_cases c40 : x10_4 < (l0.length : Int)
                                          · rw [if_pos c40] at H
                                            have c40b0 : decide (x10_4 < (l0.length : Int)) = true := decide_eq_true c40
                                            clear c40
                                            obtain ⟨ji41, hji41⟩ : ∃ j_ : Int, (wrap64 (x10_4 - 1)) = j_ := ⟨_, rfl⟩
                                            replace H : (if 0 ≤ (ji41) then (if (ji41) < (l0.length : Int) then ((skymosaicref36_next.f ((rd_T71 l0 (ji41)).f0) ((rd_T71 l0 (ji41)).f1) ((rd_T71 l0 (ji41)).f2) ((rd_T71 l0 (ji41)).f3) (wrap64 (((rd_T71 l0 (ji28)).f1) - ((rd_T71 l0 x7_2).f1))) (wrap64 (((rd_T71 l0 (ji28)).f2) - ((rd_T71 l0 x7_2).f2)))).bind fun bt161 => (if (((rd_T71 l0 x10_4).f0) == bt161.1 && (((rd_T71 l0 x10_4).f1) == bt161.2.1 && (((rd_T71 l0 x10_4).f2) == bt161.2.2.1 && (((rd_T71 l0 x10_4).f3) == bt161.2.2.2)))) = true then (skymosaicref36_Pack.l2 k4 l0 x6_2 x7_2 (wrap64 ((wrap64 (x7_2 - (Int.tmod x7_2 16))) + 16)) (wrap64 (x10_4 + 1)) (wrap64 (Int.tdiv x7_2 16)) (Int.tmod x7_2 16) 0 ((rd_T71 l0 x7_2).f0) ((rd_T71 l0 x7_2).f1) ((rd_T71 l0 x7_2).f2) ((rd_T71 l0 x7_2).f3) (wrap64 (((rd_T71 l0 (ji28)).f1) - ((rd_T71 l0 x7_2).f1))) (wrap64 (((rd_T71 l0 (ji28)).f2) - ((rd_T71 l0 x7_2).f2)))) else (if x6_2.length < 1954687338268 then (skymosaicref36_Pack.l1 k4 l0 (x6_2 ++ [(⟨(wrap64 (Int.tdiv x7_2 16)), (Int.tmod x7_2 16), wrap64 ((wrap64 ((Int.tmod x7_2 16) + x10_4)) - x7_2), (⟨((rd_T71 l0 x7_2).f0), ((rd_T71 l0 x7_2).f1), ((rd_T71 l0 x7_2).f2), ((rd_T71 l0 x7_2).f3)⟩ : S71), (wrap64 (((rd_T71 l0 (ji28)).f1) - ((rd_T71 l0 x7_2).f1))), (wrap64 (((rd_T71 l0 (ji28)).f2) - ((rd_T71 l0 x7_2).f2)))⟩ : S74)]) x10_4) else (none)))) else (none)) else (none)) = some (r1, r2) := by first | (rw [hji41] at H; exact H) | (simp only [hji41] at H ⊢; exact H)
                                            have hji41w : (IntKind.i64.wrap (x10_4 - 1)) = ji41 := (i64_w _).trans hji41
                                            by_cases c42 : 0 ≤ (ji41)
                                            · rw [if_pos c42] at H
                                              have c42b0 : decide (0 ≤ (ji41)) = true := decide_eq_true c42
                                              clear c42
                                              by_cases c43 : (ji41) < (l0.length : Int)
                                              · rw [if_pos c43] at H
                                                have c43b0 : decide ((ji41) < (l0.length : Int)) = true := decide_eq_true c43
                                                clear c43
                                                replace H := Option.bind_eq_some_iff.mp H
                                                obtain ⟨⟨t161, t162, t163, t164⟩, A440, H⟩ := H
                                                replace H : (if (((rd_T71 l0 x10_4).f0) == t161 && (((rd_T71 l0 x10_4).f1) == t162 && (((rd_T71 l0 x10_4).f2) == t163 && (((rd_T71 l0 x10_4).f3) == t164)))) = true then (skymosaicref36_Pack.l2 k4 l0 x6_2 x7_2 (wrap64 ((wrap64 (x7_2 - (Int.tmod x7_2 16))) + 16)) (wrap64 (x10_4 + 1)) (wrap64 (Int.tdiv x7_2 16)) (Int.tmod x7_2 16) 0 ((rd_T71 l0 x7_2).f0) ((rd_T71 l0 x7_2).f1) ((rd_T71 l0 x7_2).f2) ((rd_T71 l0 x7_2).f3) (wrap64 (((rd_T71 l0 (ji28)).f1) - ((rd_T71 l0 x7_2).f1))) (wrap64 (((rd_T71 l0 (ji28)).f2) - ((rd_T71 l0 x7_2).f2)))) else (if x6_2.length < 1954687338268 then (skymosaicref36_Pack.l1 k4 l0 (x6_2 ++ [(⟨(wrap64 (Int.tdiv x7_2 16)), (Int.tmod x7_2 16), wrap64 ((wrap64 ((Int.tmod x7_2 16) + x10_4)) - x7_2), (⟨((rd_T71 l0 x7_2).f0), ((rd_T71 l0 x7_2).f1), ((rd_T71 l0 x7_2).f2), ((rd_T71 l0 x7_2).f3)⟩ : S71), (wrap64 (((rd_T71 l0 (ji28)).f1) - ((rd_T71 l0 x7_2).f1))), (wrap64 (((rd_T71 l0 (ji28)).f2) - ((rd_T71 l0 x7_2).f2)))⟩ : S74)]) x10_4) else (none))) = some (r1, r2) := H
                                                have A44 := Aside0.mk A440
                                                clear A440
                                                by_cases c45 : (((rd_T71 l0 x10_4).f0) == t161 && (((rd_T71 l0 x10_4).f1) == t162 && (((rd_T71 l0 x10_4).f2) == t163 && (((rd_T71 l0 x10_4).f3) == t164)))) = true
                                                · rw [if_pos c45] at H
                                                  have c45b0 : (((rd_T71 l0 x10_4).f0) == t161 && (((rd_T71 l0 x10_4).f1) == t162 && (((rd_T71 l0 x10_4).f2) == t163 && (((rd_T71 l0 x10_4).f3) == t164)))) = true := c45
                                                  (try (have c45b1 : decide (((rd_T71 l0 x10_4).f0) = t161 && (((rd_T71 l0 x10_4).f1) == t162 && (((rd_T71 l0 x10_4).f2) == t163 && (((rd_T71 l0 x10_4).f3) == t164)))) = true := by simpa using c45))
                                                  (try (have c45b2 : (((rd_T71 l0 x10_4).f0) == t161 && (((rd_T71 l0 x10_4).f1) == t162 && (((rd_T71 l0 x10_4).f2) == t163 && (((rd_T71 l0 x10_4).f3) == t164)))) = true := by simpa using c45))
                                                  clear c45
                                                  have H' := Aside0.mk H
                                                  clear H
                                                  try go_wp2
                                                  have n0_ := Aside0.mk (Kd.R_drew HO_6.out)
                                                  have n1_ := Aside0.mk (blk_drew BK150.out)
                                                  have n2_ := Aside0.mk (below_drew1 HB.out)
                                                  clear HO_6
                                                  clear BK150
                                                  clear HB
                                                  have HO_6 := n0_
                                                  have BK150 := n1_
                                                  have HB := n2_
                                                  clear n0_ n1_ n2_
                                                  have p159 : 0 ≤ (x10_4 : Int) := of_decide_eq_true (by first | (with_reducible assumption) | assumption)
                                                  have q159 : x10_4 < (l0.length : Int) := of_decide_eq_true (by first | (with_reducible assumption) | assumption)
                                                  obtain ⟨ad159, e159, hx159_0, hx159_1, hx159_2, hx159_3⟩ := at_T71 HR0.out x10_4 p159 q159
                                                  have hw159_3 := hx159_3
                                                  have hw159_2 := hx159_2
                                                  have hw159_1 := hx159_1
                                                  have hw159_0 := hx159_0
                                                  obtain rfl : ad149 = ad159 := (by injection e159)
                                                  replace hx159_0 := (HB.out.cell (World.block_lt_of_cell? w _ hx159_0)).trans hx159_0
                                                  replace hx159_1 := (HB.out.cell (World.block_lt_of_cell? w _ hx159_1)).trans hx159_1
                                                  replace hx159_2 := (HB.out.cell (World.block_lt_of_cell? w _ hx159_2)).trans hx159_2
                                                  replace hx159_3 := (HB.out.cell (World.block_lt_of_cell? w _ hx159_3)).trans hx159_3
                                                  replace p159 := eq_true p159
                                                  replace q159 := eq_true q159
                                                  have p160 : 0 ≤ ((ji41) : Int) := of_decide_eq_true (by first | (with_reducible assumption) | assumption)
                                                  have q160 : (ji41) < (l0.length : Int) := of_decide_eq_true (by first | (with_reducible assumption) | assumption)
                                                  obtain ⟨ad160, e160, hx160_0, hx160_1, hx160_2, hx160_3⟩ := at_T71 HR0.out (ji41) p160 q160
                                                  have hw160_3 := hx160_3
                                                  have hw160_2 := hx160_2
                                                  have hw160_1 := hx160_1
                                                  have hw160_0 := hx160_0
                                                  obtain rfl : ad149 = ad160 := (by injection e160)
                                                  replace hx160_0 := (HB.out.cell (World.block_lt_of_cell? w _ hx160_0)).trans hx160_0
                                                  replace hx160_1 := (HB.out.cell (World.block_lt_of_cell? w _ hx160_1)).trans hx160_1
                                                  replace hx160_2 := (HB.out.cell (World.block_lt_of_cell? w _ hx160_2)).trans hx160_2
                                                  replace hx160_3 := (HB.out.cell (World.block_lt_of_cell? w _ hx160_3)).trans hx160_3
                                                  replace p160 := eq_true p160
                                                  replace q160 := eq_true q160
                                                  refine start_ (n := 20) (S := fun w' => w'.cell? ⟨gb150, 0, none⟩ = some (.int .i64 (wrap64 (Int.tdiv x7_2 16))) ∧ w'.cell? ⟨gb150, 1, none⟩ = some (.int .i64 (Int.tmod x7_2 16)) ∧ w'.cell? ⟨gb150, 2, none⟩ = some (.int .i64 0) ∧ w'.cell? ⟨gb150, 3, none⟩ = some (.int .i64 ((rd_T71 l0 x7_2).f0)) ∧ w'.cell? ⟨gb150, 4, none⟩ = some (.int .i64 ((rd_T71 l0 x7_2).f1)) ∧ w'.cell? ⟨gb150, 5, none⟩ = some (.int .i64 ((rd_T71 l0 x7_2).f2)) ∧ w'.cell? ⟨gb150, 6, none⟩ = some (.int .u64 ((rd_T71 l0 x7_2).f3)) ∧ w'.cell? ⟨gb150, 7, none⟩ = some (.int .i64 (wrap64 (((rd_T71 l0 (ji28)).f1) - ((rd_T71 l0 x7_2).f1)))) ∧ w'.cell? ⟨gb150, 8, none⟩ = some (.int .i64 (wrap64 (((rd_T71 l0 (ji28)).f2) - ((rd_T71 l0 x7_2).f2)))) ∧ w'.cell? (ad149.add ((x10_4).toNat * 4)) = some (.int .i64 ((rd_T71 l0 x10_4).f0)) ∧ w'.cell? ⟨(ad149.add ((x10_4).toNat * 4)).block, (ad149.add ((x10_4).toNat * 4)).off + 1, none⟩ = some (.int .i64 ((rd_T71 l0 x10_4).f1)) ∧ w'.cell? ⟨(ad149.add ((x10_4).toNat * 4)).block, (ad149.add ((x10_4).toNat * 4)).off + 2, none⟩ = some (.int .i64 ((rd_T71 l0 x10_4).f2)) ∧ w'.cell? ⟨(ad149.add ((x10_4).toNat * 4)).block, (ad149.add ((x10_4).toNat * 4)).off + 3, none⟩ = some (.int .u64 ((rd_T71 l0 x10_4).f3)) ∧ w'.cell? (ad149.add (((ji41)).toNat * 4)) = some (.int .i64 ((rd_T71 l0 (ji41)).f0)) ∧ w'.cell? ⟨(ad149.add (((ji41)).toNat * 4)).block, (ad149.add (((ji41)).toNat * 4)).off + 1, none⟩ = some (.int .i64 ((rd_T71 l0 (ji41)).f1)) ∧ w'.cell? ⟨(ad149.add (((ji41)).toNat * 4)).block, (ad149.add (((ji41)).toNat * 4)).off + 2, none⟩ = some (.int .i64 ((rd_T71 l0 (ji41)).f2)) ∧ w'.cell? ⟨(ad149.add (((ji41)).toNat * 4)).block, (ad149.add (((ji41)).toNat * 4)).off + 3, none⟩ = some (.int .u64 ((rd_T71 l0 (ji41)).f3))) (ds := []) #[false, false, false, false, false, false, false, false, false, false, false, false, false, false, false, false, false, false, false, false] (by kernel_rfl) rfl rfl ⟨(blk_cell BK150.out 0).trans rfl, (blk_cell BK150.out 1).trans rfl, (blk_cell BK150.out 2).trans rfl, (blk_cell BK150.out 3).trans rfl, (blk_cell BK150.out 4).trans rfl, (blk_cell BK150.out 5).trans rfl, (blk_cell BK150.out 6).trans rfl, (blk_cell BK150.out 7).trans rfl, (blk_cell BK150.out 8).trans rfl, ((HB.out.cell (World.block_lt_of_cell? w _ hw159_0)).trans hw159_0), ((HB.out.cell (World.block_lt_of_cell? w _ hw159_1)).trans hw159_1), ((HB.out.cell (World.block_lt_of_cell? w _ hw159_2)).trans hw159_2), ((HB.out.cell (World.block_lt_of_cell? w _ hw159_3)).trans hw159_3), ((HB.out.cell (World.block_lt_of_cell? w _ hw160_0)).trans hw160_0), ((HB.out.cell (World.block_lt_of_cell? w _ hw160_1)).trans hw160_1), ((HB.out.cell (World.block_lt_of_cell? w _ hw160_2)).trans hw160_2), ((HB.out.cell (World.block_lt_of_cell? w _ hw160_3)).trans hw160_3)⟩ (fun hHeld => ?_); refine with_tabW skymosaicref36_Pack.tab18 skymosaicref36_Pack.bits18 (fun HT_ HW_ => ?_)
                                                  generalize wr.drew = w46 at HO_6 BK150 HB hx159_0 hx159_1 hx159_2 hx159_3 hx160_0 hx160_1 hx160_2 hx160_3 hHeld ⊢
                                                  refine pure_ (i := 0) (N := some 96) (v := ?_) (a' := ?_) #[true, false, false, false, false, false, false, false, false, false, false, false, false, false, false, false, false, false, false, false] rfl rfl (any_of HT_.out (by kernel_rfl)) (fun _ _ _ h => h) (Or.inl ⟨by rfl, ?_⟩) ?_ ?_
                                                  rotate_left
                                                  · intro w'
                                                    go_simp
                                                    with_reducible rfl
                                                  rotate_left
                                                  · simp only [Act.put, List.setIfInBounds_toArray, List.set_cons_zero, List.set_cons_succ, i64_w, i32_w]
                                                    rfl
                                                  refine pure_ (i := 1) (N := some 97) (v := ?_) (a' := ?_) #[true, true, false, false, false, false, false, false, false, false, false, false, false, false, false, false, false, false, false, false] rfl rfl (any_of HT_.out (by kernel_rfl)) (fun _ _ _ h => h) (Or.inl ⟨by rfl, ?_⟩) ?_ ?_
                                                  rotate_left
                                                  · intro w'
                                                    go_simp
                                                    with_reducible rfl
                                                  rotate_left
                                                  · simp only [Act.put, List.setIfInBounds_toArray, List.set_cons_zero, List.set_cons_succ, i64_w, i32_w]
                                                    rfl
                                                  refine pure_ (i := 2) (N := some 98) (v := ?_) (a' := ?_) #[true, true, true, false, false, false, false, false, false, false, false, false, false, false, false, false, false, false, false, false] rfl rfl (any_of HT_.out (by kernel_rfl)) (fun _ _ _ h => h) (Or.inl ⟨by rfl, ?_⟩) ?_ ?_
                                                  rotate_left
                                                  · intro w'
                                                    go_simp
                                                    with_reducible rfl
                                                  rotate_left
                                                  · simp only [Act.put, List.setIfInBounds_toArray, List.set_cons_zero, List.set_cons_succ, i64_w, i32_w]
                                                    rfl
                                                  refine pure_ (i := 3) (N := some 99) (v := ?_) (a' := ?_) #[true, true, true, true, false, false, false, false, false, false, false, false, false, false, false, false, false, false, false, false] rfl rfl (any_of HT_.out (by kernel_rfl)) (fun _ _ _ h => h) (Or.inl ⟨by rfl, ?_⟩) ?_ ?_
                                                  rotate_left
                                                  · intro w'
                                                    go_simp
                                                    with_reducible rfl
                                                  rotate_left
                                                  · simp only [Act.put, List.setIfInBounds_toArray, List.set_cons_zero, List.set_cons_succ, i64_w, i32_w]
                                                    rfl
                                                  refine pure_ (i := 4) (N := some 100) (v := ?_) (a' := ?_) #[true, true, true, true, true, false, false, false, false, false, false, false, false, false, false, false, false, false, false, false] rfl rfl (any_of HT_.out (by kernel_rfl)) (fun _ _ _ h => h) (Or.inl ⟨by rfl, ?_⟩) ?_ ?_
                                                  rotate_left
                                                  · intro w'
                                                    go_simp
                                                    with_reducible rfl
                                                  rotate_left
                                                  · simp only [Act.put, List.setIfInBounds_toArray, List.set_cons_zero, List.set_cons_succ, i64_w, i32_w]
                                                    rfl
                                                  refine pure_ (i := 5) (N := some 101) (v := ?_) (a' := ?_) #[true, true, true, true, true, true, false, false, false, false, false, false, false, false, false, false, false, false, false, false] rfl rfl (any_of HT_.out (by kernel_rfl)) (fun _ _ _ h => h) (Or.inl ⟨by rfl, ?_⟩) ?_ ?_
                                                  rotate_left
                                                  · intro w'
                                                    go_simp
                                                    with_reducible rfl
                                                  rotate_left
                                                  · simp only [Act.put, List.setIfInBounds_toArray, List.set_cons_zero, List.set_cons_succ, i64_w, i32_w]
                                                    rfl
                                                  refine pure_ (i := 6) (N := some 102) (v := ?_) (a' := ?_) #[true, true, true, true, true, true, true, false, false, false, false, false, false, false, false, false, false, false, false, false] rfl rfl (any_of HT_.out (by kernel_rfl)) (fun _ _ _ h => h) (Or.inl ⟨by rfl, ?_⟩) ?_ ?_
                                                  rotate_left
                                                  · intro w'
                                                    go_simp
                                                    with_reducible rfl
                                                  rotate_left
                                                  · simp only [Act.put, List.setIfInBounds_toArray, List.set_cons_zero, List.set_cons_succ, i64_w, i32_w]
                                                    rfl
                                                  refine pure_ (i := 8) (N := some 104) (v := ?_) (a' := ?_) #[true, true, true, true, true, true, true, false, true, false, false, false, false, false, false, false, false, false, false, false] rfl rfl (any_of HT_.out (by kernel_rfl)) (fun _ _ _ h => h) (Or.inl ⟨by rfl, ?_⟩) ?_ ?_
                                                  rotate_left
                                                  · intro w'
                                                    go_simp
                                                    with_reducible rfl
                                                  rotate_left
                                                  · simp only [Act.put, List.setIfInBounds_toArray, List.set_cons_zero, List.set_cons_succ, i64_w, i32_w]
                                                    rfl
                                                  refine pure_ (i := 9) (N := some 105) (v := ?_) (a' := ?_) #[true, true, true, true, true, true, true, false, true, true, false, false, false, false, false, false, false, false, false, false] rfl rfl (any_of HT_.out (by kernel_rfl)) (fun _ _ _ h => h) (Or.inl ⟨by rfl, ?_⟩) ?_ ?_
                                                  rotate_left
                                                  · intro w'
                                                    go_simp
                                                    with_reducible rfl
                                                  rotate_left
                                                  · simp only [Act.put, List.setIfInBounds_toArray, List.set_cons_zero, List.set_cons_succ, i64_w, i32_w]
                                                    rfl
                                                  refine pure_ (i := 10) (N := some 106) (v := ?_) (a' := ?_) #[true, true, true, true, true, true, true, false, true, true, true, false, false, false, false, false, false, false, false, false] rfl rfl (any_of HT_.out (by kernel_rfl)) (fun _ _ _ h => h) (Or.inl ⟨by rfl, ?_⟩) ?_ ?_
                                                  rotate_left
                                                  · intro w'
                                                    go_simp
                                                    with_reducible rfl
                                                  rotate_left
                                                  · simp only [Act.put, List.setIfInBounds_toArray, List.set_cons_zero, List.set_cons_succ, i64_w, i32_w]
                                                    rfl
                                                  refine pure_ (i := 11) (N := some 107) (v := ?_) (a' := ?_) #[true, true, true, true, true, true, true, false, true, true, true, true, false, false, false, false, false, false, false, false] rfl rfl (any_of HT_.out (by kernel_rfl)) (fun _ _ _ h => h) (Or.inl ⟨by rfl, ?_⟩) ?_ ?_
                                                  rotate_left
                                                  · intro w'
                                                    go_simp
                                                    with_reducible rfl
                                                  rotate_left
                                                  · simp only [Act.put, List.setIfInBounds_toArray, List.set_cons_zero, List.set_cons_succ, i64_w, i32_w]
                                                    rfl
                                                  refine pure_ (i := 13) (N := some 109) (v := ?_) (a' := ?_) #[true, true, true, true, true, true, true, false, true, true, true, true, false, true, false, false, false, false, false, false] rfl rfl (any_of HT_.out (by kernel_rfl)) (fun _ _ _ h => h) (Or.inl ⟨by rfl, ?_⟩) ?_ ?_
                                                  rotate_left
                                                  · intro w'
                                                    go_simp
                                                    with_reducible rfl
                                                  rotate_left
                                                  · simp only [Act.put, List.setIfInBounds_toArray, List.set_cons_zero, List.set_cons_succ, i64_w, i32_w]
                                                    rfl
                                                  refine pure_ (i := 15) (N := some 111) (v := ?_) (a' := ?_) #[true, true, true, true, true, true, true, false, true, true, true, true, false, true, false, true, false, false, false, false] rfl rfl (any_of HT_.out (by kernel_rfl)) (fun _ _ _ h => h) (Or.inl ⟨by rfl, ?_⟩) ?_ ?_
                                                  rotate_left
                                                  · intro w'
                                                    go_simp
                                                    with_reducible rfl
                                                  rotate_left
                                                  · simp only [Act.put, List.setIfInBounds_toArray, List.set_cons_zero, List.set_cons_succ, i64_w, i32_w]
                                                    rfl
                                                  refine take_ (i := 7) (N := some 103) (v := ?_) (a' := ?_) #[true, true, true, true, true, true, true, true, true, true, true, true, false, true, false, true, false, false, false, false] rfl rfl (take_ofW HT_.out HW_.out (by kernel_rfl)) (fun _ _ _ h => h) (Or.inl ⟨by rfl, ?_⟩) hHeld ?_ ?_
                                                  rotate_left
                                                  · rintro w' ⟨s0, s1, s2, s3, s4, s5, s6, s7, s8, s9, s10, s11, s12, s13, s14, s15, s16⟩
                                                    go_simp
                                                    with_reducible rfl
                                                  rotate_left
                                                  · simp only [Act.put, List.setIfInBounds_toArray, List.set_cons_zero, List.set_cons_succ, i64_w, i32_w]
                                                    rfl
                                                  refine take_ (i := 12) (N := some 108) (v := ?_) (a' := ?_) #[true, true, true, true, true, true, true, true, true, true, true, true, true, true, false, true, false, false, false, false] rfl rfl (take_ofW HT_.out HW_.out (by kernel_rfl)) (fun _ _ _ h => h) (Or.inl ⟨by rfl, ?_⟩) hHeld ?_ ?_
                                                  rotate_left
                                                  · rintro w' ⟨s0, s1, s2, s3, s4, s5, s6, s7, s8, s9, s10, s11, s12, s13, s14, s15, s16⟩
                                                    go_simp
                                                    with_reducible rfl
                                                  rotate_left
                                                  · simp only [Act.put, List.setIfInBounds_toArray, List.set_cons_zero, List.set_cons_succ, i64_w, i32_w]
                                                    rfl
                                                  refine take_ (i := 14) (N := some 110) (v := ?_) (a' := ?_) #[true, true, true, true, true, true, true, true, true, true, true, true, true, true, true, true, false, false, false, false] rfl rfl (take_ofW HT_.out HW_.out (by kernel_rfl)) (fun _ _ _ h => h) (Or.inl ⟨by rfl, ?_⟩) hHeld ?_ ?_
                                                  rotate_left
                                                  · rintro w' ⟨s0, s1, s2, s3, s4, s5, s6, s7, s8, s9, s10, s11, s12, s13, s14, s15, s16⟩
                                                    go_simp
                                                    with_reducible rfl
                                                  rotate_left
                                                  · simp only [Act.put, List.setIfInBounds_toArray, List.set_cons_zero, List.set_cons_succ, i64_w, i32_w]
                                                    rfl
                                                  refine take_ (i := 16) (N := some 112) (v := ?_) (a' := ?_) #[true, true, true, true, true, true, true, true, true, true, true, true, true, true, true, true, true, false, false, false] rfl rfl (take_ofW HT_.out HW_.out (by kernel_rfl)) (fun _ _ _ h => h) (Or.inl ⟨by rfl, ?_⟩) hHeld ?_ ?_
                                                  rotate_left
                                                  · rintro w' ⟨s0, s1, s2, s3, s4, s5, s6, s7, s8, s9, s10, s11, s12, s13, s14, s15, s16⟩
                                                    go_simp
                                                    with_reducible rfl
                                                  rotate_left
                                                  · simp only [Act.put, List.setIfInBounds_toArray, List.set_cons_zero, List.set_cons_succ, i64_w, i32_w]
                                                    rfl
                                                  refine one_ (i := 17) (N := some 113) #[true, true, true, true, true, true, true, true, true, true, true, true, true, true, true, true, true, true, false, false] rfl rfl (one_of HT_.out (by kernel_rfl)) (by decide) (fun K hK => ?_)
                                                  refine goes_ Try.func37 (by kernel_rfl) rfl #[.agg #[.int .i64 ((rd_T71 l0 (ji41)).f0), .int .i64 ((rd_T71 l0 (ji41)).f1), .int .i64 ((rd_T71 l0 (ji41)).f2), .int .u64 ((rd_T71 l0 (ji41)).f3)], .int .i64 (wrap64 (((rd_T71 l0 (ji28)).f1) - ((rd_T71 l0 x7_2).f1))), .int .i64 (wrap64 (((rd_T71 l0 (ji28)).f2) - ((rd_T71 l0 x7_2).f2)))] (by rfl) rfl rfl (by (try simp only [List.map_toArray, List.map_cons, List.map_nil]); first | done | (simp only [hji28, hji41]; rfl) | rfl | (simp only [List.length_drop, List.length_take]; rfl)) ?_
                                                  with_reducible refine (skymosaicref36_next.calls ((rd_T71 l0 (ji41)).f0) ((rd_T71 l0 (ji41)).f1) ((rd_T71 l0 (ji41)).f2) ((rd_T71 l0 (ji41)).f3) (wrap64 (((rd_T71 l0 (ji28)).f1) - ((rd_T71 l0 x7_2).f1))) (wrap64 (((rd_T71 l0 (ji28)).f2) - ((rd_T71 l0 x7_2).f2))) t161 t162 t163 t164 _ A44.out).mono ?_
                                                  rintro e w47 ⟨rfl, hb⟩
                                                  refine ⟨_, rfl, ?_⟩
                                                  have n0_ := Aside0.mk (Kd.R_below (by (with_reducible repeat (first | apply Kd.R_alloc | apply Kd.R_drewN | apply Kd.R_drew)); exact HO_6.out) hb)
                                                  have n1_ := Aside0.mk (blk_below (g := gb150) (o := .cells #[.int .i64 (wrap64 (Int.tdiv x7_2 16)), .int .i64 (Int.tmod x7_2 16), .int .i64 0, .int .i64 ((rd_T71 l0 x7_2).f0), .int .i64 ((rd_T71 l0 x7_2).f1), .int .i64 ((rd_T71 l0 x7_2).f2), .int .u64 ((rd_T71 l0 x7_2).f3), .int .i64 (wrap64 (((rd_T71 l0 (ji28)).f1) - ((rd_T71 l0 x7_2).f1))), .int .i64 (wrap64 (((rd_T71 l0 (ji28)).f2) - ((rd_T71 l0 x7_2).f2)))] 74 (0, 0)) (by (with_reducible repeat (first | refine blk_drewN ?_ _ | refine blk_drew ?_ | refine blk_alloc ?_ _)); exact BK150.out) hb)
                                                  have n2_ := Aside0.mk (below_step (by repeat (first | (with_reducible first | exact HB.out | apply below_alloc | apply pw_below_drewN | apply below_drew1 | refine below_set ?_ GE150.out) | exact HB.out)) hb)
                                                  clear HO_6
                                                  clear BK150
                                                  clear HB
                                                  have HO_6 := n0_
                                                  have BK150 := n1_
                                                  have HB := n2_
                                                  clear n0_ n1_ n2_
                                                  (try clear hb)
                                                  (try clear hb2)
                                                  (try clear hk)
                                                  (try clear hi)
                                                  refine hK.out _ _ ⟨(blk_cell BK150.out 0).trans rfl, (blk_cell BK150.out 1).trans rfl, (blk_cell BK150.out 2).trans rfl, (blk_cell BK150.out 3).trans rfl, (blk_cell BK150.out 4).trans rfl, (blk_cell BK150.out 5).trans rfl, (blk_cell BK150.out 6).trans rfl, (blk_cell BK150.out 7).trans rfl, (blk_cell BK150.out 8).trans rfl, ((HB.out.cell (World.block_lt_of_cell? w _ hw159_0)).trans hw159_0), ((HB.out.cell (World.block_lt_of_cell? w _ hw159_1)).trans hw159_1), ((HB.out.cell (World.block_lt_of_cell? w _ hw159_2)).trans hw159_2), ((HB.out.cell (World.block_lt_of_cell? w _ hw159_3)).trans hw159_3), ((HB.out.cell (World.block_lt_of_cell? w _ hw160_0)).trans hw160_0), ((HB.out.cell (World.block_lt_of_cell? w _ hw160_1)).trans hw160_1), ((HB.out.cell (World.block_lt_of_cell? w _ hw160_2)).trans hw160_2), ((HB.out.cell (World.block_lt_of_cell? w _ hw160_3)).trans hw160_3)⟩ (fun hHeld => ?_)
                                                  clear hK K
                                                  refine norm_ (a' := ?_) ?_ ?_
                                                  rotate_left
                                                  · show Act.put _ (some 113) _ = _
                                                    simp only [Act.put, List.setIfInBounds_toArray, List.set_cons_zero, List.set_cons_succ, i64_w, i32_w]
                                                    rfl
                                                  refine pure_ (i := 18) (N := some 114) (v := ?_) (a' := ?_) #[true, true, true, true, true, true, true, true, true, true, true, true, true, true, true, true, true, true, true, false] rfl rfl (any_of HT_.out (by kernel_rfl)) (fun _ _ _ h => h) (Or.inl ⟨by rfl, ?_⟩) ?_ ?_
                                                  rotate_left
                                                  · intro w'
                                                    go_simp
                                                    with_reducible rfl
                                                  rotate_left
                                                  · simp only [Act.put, List.setIfInBounds_toArray, List.set_cons_zero, List.set_cons_succ, i64_w, i32_w]
                                                    rfl
                                                  refine pure_ (i := 19) (N := some 115) (v := ?_) (a' := ?_) #[true, true, true, true, true, true, true, true, true, true, true, true, true, true, true, true, true, true, true, true] rfl rfl (any_of HT_.out (by kernel_rfl)) (fun _ _ _ h => h) (Or.inl ⟨by rfl, ?_⟩) ?_ ?_
                                                  rotate_left
                                                  · intro w'
                                                    go_simp
                                                    with_reducible rfl
                                                  rotate_left
                                                  · simp only [Act.put, List.setIfInBounds_toArray, List.set_cons_zero, List.set_cons_succ, i64_w, i32_w]
                                                    rfl
                                                  refine done_ (done_of HT_.out (by kernel_rfl)) ?_
                                                  try go_wp2
                                                  go_roundg k4
                                                  case measure => have := HK1.out; have := HK2.out; have := HJ12.out; have := HK4.out; omega
                                                  case rel => exact ⟨(wrap64 (x10_4 + 1)), (by first | rfl | (simp; done) | (simp [*]; done)), (by first | exact H' | (rw [hji17]; exact H')), ⟨by have := HK1.out; have := HK2.out; have := HJ12.out; have := HK4.out; omega⟩, ⟨by (with_reducible repeat (first | apply Kd.R_alloc | apply Kd.R_drewN | apply Kd.R_drew)); exact HO_6.out⟩, ⟨by (with_reducible repeat (first | refine blk_drewN ?_ _ | refine blk_drew ?_ | refine blk_alloc ?_ _)); exact BK150.out⟩, ⟨by repeat (first | (with_reducible first | exact HB.out | apply below_alloc | apply pw_below_drewN | apply below_drew1 | refine below_set ?_ GE150.out) | exact HB.out)⟩⟩
                                                · rw [if_neg c45] at H
                                                  have c45b0 : (((rd_T71 l0 x10_4).f0) == t161 && (((rd_T71 l0 x10_4).f1) == t162 && (((rd_T71 l0 x10_4).f2) == t163 && (((rd_T71 l0 x10_4).f3) == t164)))) = false := by simpa using c45
                                                  (try (have c45b1 : decide (((rd_T71 l0 x10_4).f0) = t161 && (((rd_T71 l0 x10_4).f1) == t162 && (((rd_T71 l0 x10_4).f2) == t163 && (((rd_T71 l0 x10_4).f3) == t164)))) = false := by simpa using c45))
                                                  (try (have c45b2 : (((rd_T71 l0 x10_4).f0) == t161 && (((rd_T71 l0 x10_4).f1) == t162 && (((rd_T71 l0 x10_4).f2) == t163 && (((rd_T71 l0 x10_4).f3) == t164)))) = false := by simpa using c45))
                                                  (try (have c45b3 : ¬ (((rd_T71 l0 x10_4).f0) = t161 && (((rd_T71 l0 x10_4).f1) == t162 && (((rd_T71 l0 x10_4).f2) == t163 && (((rd_T71 l0 x10_4).f3) == t164)))) := by simpa using c45))
                                                  clear c45
                                                  by_cases c48 : x6_2.length < 1954687338268
                                                  · rw [if_pos c48] at H
                                                    have LMc48 := Aside0.mk c48
                                                    clear c48
                                                    obtain ⟨y165, hy165⟩ : ∃ y_ : List (S74), y_ = (x6_2 ++ [(⟨(wrap64 (Int.tdiv x7_2 16)), (Int.tmod x7_2 16), wrap64 ((wrap64 ((Int.tmod x7_2 16) + x10_4)) - x7_2), (⟨((rd_T71 l0 x7_2).f0), ((rd_T71 l0 x7_2).f1), ((rd_T71 l0 x7_2).f2), ((rd_T71 l0 x7_2).f3)⟩ : S71), (wrap64 (((rd_T71 l0 (ji28)).f1) - ((rd_T71 l0 x7_2).f1))), (wrap64 (((rd_T71 l0 (ji28)).f2) - ((rd_T71 l0 x7_2).f2)))⟩ : S74)]) := ⟨_, rfl⟩
                                                    replace H : (skymosaicref36_Pack.l1 k4 l0 y165 x10_4) = some (r1, r2) := by first | (rw [hy165]; with_reducible exact H) | (have H2_ := (Option.bind_some _ _).symm.trans H; rw [hy165]; with_reducible exact H2_) | (have H2_ := (Option.bind_some _ _).symm.trans H; with_reducible exact H2_) | with_reducible exact H | (rw [hy165]; exact H) | exact H
                                                    have Ny165 := Aside0.mk hy165
                                                    clear hy165
                                                    have H' := Aside0.mk H
                                                    clear H
                                                    try go_wp2
                                                    have n0_ := Aside0.mk (Kd.R_drew HO_6.out)
                                                    have n1_ := Aside0.mk (blk_drew BK150.out)
                                                    have n2_ := Aside0.mk (below_drew1 HB.out)
                                                    clear HO_6
                                                    clear BK150
                                                    clear HB
                                                    have HO_6 := n0_
                                                    have BK150 := n1_
                                                    have HB := n2_
                                                    clear n0_ n1_ n2_
                                                    have p159 : 0 ≤ (x10_4 : Int) := of_decide_eq_true (by first | (with_reducible assumption) | assumption)
                                                    have q159 : x10_4 < (l0.length : Int) := of_decide_eq_true (by first | (with_reducible assumption) | assumption)
                                                    obtain ⟨ad159, e159, hx159_0, hx159_1, hx159_2, hx159_3⟩ := at_T71 HR0.out x10_4 p159 q159
                                                    have hw159_3 := hx159_3
                                                    have hw159_2 := hx159_2
                                                    have hw159_1 := hx159_1
                                                    have hw159_0 := hx159_0
                                                    obtain rfl : ad149 = ad159 := (by injection e159)
                                                    replace hx159_0 := (HB.out.cell (World.block_lt_of_cell? w _ hx159_0)).trans hx159_0
                                                    replace hx159_1 := (HB.out.cell (World.block_lt_of_cell? w _ hx159_1)).trans hx159_1
                                                    replace hx159_2 := (HB.out.cell (World.block_lt_of_cell? w _ hx159_2)).trans hx159_2
                                                    replace hx159_3 := (HB.out.cell (World.block_lt_of_cell? w _ hx159_3)).trans hx159_3
                                                    replace p159 := eq_true p159
                                                    replace q159 := eq_true q159
                                                    have p160 : 0 ≤ ((ji41) : Int) := of_decide_eq_true (by first | (with_reducible assumption) | assumption)
                                                    have q160 : (ji41) < (l0.length : Int) := of_decide_eq_true (by first | (with_reducible assumption) | assumption)
                                                    obtain ⟨ad160, e160, hx160_0, hx160_1, hx160_2, hx160_3⟩ := at_T71 HR0.out (ji41) p160 q160
                                                    have hw160_3 := hx160_3
                                                    have hw160_2 := hx160_2
                                                    have hw160_1 := hx160_1
                                                    have hw160_0 := hx160_0
                                                    obtain rfl : ad149 = ad160 := (by injection e160)
                                                    replace hx160_0 := (HB.out.cell (World.block_lt_of_cell? w _ hx160_0)).trans hx160_0
                                                    replace hx160_1 := (HB.out.cell (World.block_lt_of_cell? w _ hx160_1)).trans hx160_1
                                                    replace hx160_2 := (HB.out.cell (World.block_lt_of_cell? w _ hx160_2)).trans hx160_2
                                                    replace hx160_3 := (HB.out.cell (World.block_lt_of_cell? w _ hx160_3)).trans hx160_3
                                                    replace p160 := eq_true p160
                                                    replace q160 := eq_true q160
                                                    refine start_ (n := 20) (S := fun w' => w'.cell? ⟨gb150, 0, none⟩ = some (.int .i64 (wrap64 (Int.tdiv x7_2 16))) ∧ w'.cell? ⟨gb150, 1, none⟩ = some (.int .i64 (Int.tmod x7_2 16)) ∧ w'.cell? ⟨gb150, 2, none⟩ = some (.int .i64 0) ∧ w'.cell? ⟨gb150, 3, none⟩ = some (.int .i64 ((rd_T71 l0 x7_2).f0)) ∧ w'.cell? ⟨gb150, 4, none⟩ = some (.int .i64 ((rd_T71 l0 x7_2).f1)) ∧ w'.cell? ⟨gb150, 5, none⟩ = some (.int .i64 ((rd_T71 l0 x7_2).f2)) ∧ w'.cell? ⟨gb150, 6, none⟩ = some (.int .u64 ((rd_T71 l0 x7_2).f3)) ∧ w'.cell? ⟨gb150, 7, none⟩ = some (.int .i64 (wrap64 (((rd_T71 l0 (ji28)).f1) - ((rd_T71 l0 x7_2).f1)))) ∧ w'.cell? ⟨gb150, 8, none⟩ = some (.int .i64 (wrap64 (((rd_T71 l0 (ji28)).f2) - ((rd_T71 l0 x7_2).f2)))) ∧ w'.cell? (ad149.add ((x10_4).toNat * 4)) = some (.int .i64 ((rd_T71 l0 x10_4).f0)) ∧ w'.cell? ⟨(ad149.add ((x10_4).toNat * 4)).block, (ad149.add ((x10_4).toNat * 4)).off + 1, none⟩ = some (.int .i64 ((rd_T71 l0 x10_4).f1)) ∧ w'.cell? ⟨(ad149.add ((x10_4).toNat * 4)).block, (ad149.add ((x10_4).toNat * 4)).off + 2, none⟩ = some (.int .i64 ((rd_T71 l0 x10_4).f2)) ∧ w'.cell? ⟨(ad149.add ((x10_4).toNat * 4)).block, (ad149.add ((x10_4).toNat * 4)).off + 3, none⟩ = some (.int .u64 ((rd_T71 l0 x10_4).f3)) ∧ w'.cell? (ad149.add (((ji41)).toNat * 4)) = some (.int .i64 ((rd_T71 l0 (ji41)).f0)) ∧ w'.cell? ⟨(ad149.add (((ji41)).toNat * 4)).block, (ad149.add (((ji41)).toNat * 4)).off + 1, none⟩ = some (.int .i64 ((rd_T71 l0 (ji41)).f1)) ∧ w'.cell? ⟨(ad149.add (((ji41)).toNat * 4)).block, (ad149.add (((ji41)).toNat * 4)).off + 2, none⟩ = some (.int .i64 ((rd_T71 l0 (ji41)).f2)) ∧ w'.cell? ⟨(ad149.add (((ji41)).toNat * 4)).block, (ad149.add (((ji41)).toNat * 4)).off + 3, none⟩ = some (.int .u64 ((rd_T71 l0 (ji41)).f3))) (ds := []) #[false, false, false, false, false, false, false, false, false, false, false, false, false, false, false, false, false, false, false, false] (by kernel_rfl) rfl rfl ⟨(blk_cell BK150.out 0).trans rfl, (blk_cell BK150.out 1).trans rfl, (blk_cell BK150.out 2).trans rfl, (blk_cell BK150.out 3).trans rfl, (blk_cell BK150.out 4).trans rfl, (blk_cell BK150.out 5).trans rfl, (blk_cell BK150.out 6).trans rfl, (blk_cell BK150.out 7).trans rfl, (blk_cell BK150.out 8).trans rfl, ((HB.out.cell (World.block_lt_of_cell? w _ hw159_0)).trans hw159_0), ((HB.out.cell (World.block_lt_of_cell? w _ hw159_1)).trans hw159_1), ((HB.out.cell (World.block_lt_of_cell? w _ hw159_2)).trans hw159_2), ((HB.out.cell (World.block_lt_of_cell? w _ hw159_3)).trans hw159_3), ((HB.out.cell (World.block_lt_of_cell? w _ hw160_0)).trans hw160_0), ((HB.out.cell (World.block_lt_of_cell? w _ hw160_1)).trans hw160_1), ((HB.out.cell (World.block_lt_of_cell? w _ hw160_2)).trans hw160_2), ((HB.out.cell (World.block_lt_of_cell? w _ hw160_3)).trans hw160_3)⟩ (fun hHeld => ?_); refine with_tabW skymosaicref36_Pack.tab18 skymosaicref36_Pack.bits18 (fun HT_ HW_ => ?_)
                                                    generalize wr.drew = w49 at HO_6 BK150 HB hx159_0 hx159_1 hx159_2 hx159_3 hx160_0 hx160_1 hx160_2 hx160_3 hHeld ⊢
                                                    refine pure_ (i := 0) (N := some 96) (v := ?_) (a' := ?_) #[true, false, false, false, false, false, false, false, false, false, false, false, false, false, false, false, false, false, false, false] rfl rfl (any_of HT_.out (by kernel_rfl)) (fun _ _ _ h => h) (Or.inl ⟨by rfl, ?_⟩) ?_ ?_
                                                    rotate_left
                                                    · intro w'
                                                      go_simp
                                                      with_reducible rfl
                                                    rotate_left
                                                    · simp only [Act.put, List.setIfInBounds_toArray, List.set_cons_zero, List.set_cons_succ, i64_w, i32_w]
                                                      rfl
                                                    refine pure_ (i := 1) (N := some 97) (v := ?_) (a' := ?_) #[true, true, false, false, false, false, false, false, false, false, false, false, false, false, false, false, false, false, false, false] rfl rfl (any_of HT_.out (by kernel_rfl)) (fun _ _ _ h => h) (Or.inl ⟨by rfl, ?_⟩) ?_ ?_
                                                    rotate_left
                                                    · intro w'
                                                      go_simp
                                                      with_reducible rfl
                                                    rotate_left
                                                    · simp only [Act.put, List.setIfInBounds_toArray, List.set_cons_zero, List.set_cons_succ, i64_w, i32_w]
                                                      rfl
                                                    refine pure_ (i := 2) (N := some 98) (v := ?_) (a' := ?_) #[true, true, true, false, false, false, false, false, false, false, false, false, false, false, false, false, false, false, false, false] rfl rfl (any_of HT_.out (by kernel_rfl)) (fun _ _ _ h => h) (Or.inl ⟨by rfl, ?_⟩) ?_ ?_
                                                    rotate_left
                                                    · intro w'
                                                      go_simp
                                                      with_reducible rfl
                                                    rotate_left
                                                    · simp only [Act.put, List.setIfInBounds_toArray, List.set_cons_zero, List.set_cons_succ, i64_w, i32_w]
                                                      rfl
                                                    refine pure_ (i := 3) (N := some 99) (v := ?_) (a' := ?_) #[true, true, true, true, false, false, false, false, false, false, false, false, false, false, false, false, false, false, false, false] rfl rfl (any_of HT_.out (by kernel_rfl)) (fun _ _ _ h => h) (Or.inl ⟨by rfl, ?_⟩) ?_ ?_
                                                    rotate_left
                                                    · intro w'
                                                      go_simp
                                                      with_reducible rfl
                                                    rotate_left
                                                    · simp only [Act.put, List.setIfInBounds_toArray, List.set_cons_zero, List.set_cons_succ, i64_w, i32_w]
                                                      rfl
                                                    refine pure_ (i := 4) (N := some 100) (v := ?_) (a' := ?_) #[true, true, true, true, true, false, false, false, false, false, false, false, false, false, false, false, false, false, false, false] rfl rfl (any_of HT_.out (by kernel_rfl)) (fun _ _ _ h => h) (Or.inl ⟨by rfl, ?_⟩) ?_ ?_
                                                    rotate_left
                                                    · intro w'
                                                      go_simp
                                                      with_reducible rfl
                                                    rotate_left
                                                    · simp only [Act.put, List.setIfInBounds_toArray, List.set_cons_zero, List.set_cons_succ, i64_w, i32_w]
                                                      rfl
                                                    refine pure_ (i := 5) (N := some 101) (v := ?_) (a' := ?_) #[true, true, true, true, true, true, false, false, false, false, false, false, false, false, false, false, false, false, false, false] rfl rfl (any_of HT_.out (by kernel_rfl)) (fun _ _ _ h => h) (Or.inl ⟨by rfl, ?_⟩) ?_ ?_
                                                    rotate_left
                                                    · intro w'
                                                      go_simp
                                                      with_reducible rfl
                                                    rotate_left
                                                    · simp only [Act.put, List.setIfInBounds_toArray, List.set_cons_zero, List.set_cons_succ, i64_w, i32_w]
                                                      rfl
                                                    refine pure_ (i := 6) (N := some 102) (v := ?_) (a' := ?_) #[true, true, true, true, true, true, true, false, false, false, false, false, false, false, false, false, false, false, false, false] rfl rfl (any_of HT_.out (by kernel_rfl)) (fun _ _ _ h => h) (Or.inl ⟨by rfl, ?_⟩) ?_ ?_
                                                    rotate_left
                                                    · intro w'
                                                      go_simp
                                                      with_reducible rfl
                                                    rotate_left
                                                    · simp only [Act.put, List.setIfInBounds_toArray, List.set_cons_zero, List.set_cons_succ, i64_w, i32_w]
                                                      rfl
                                                    refine pure_ (i := 8) (N := some 104) (v := ?_) (a' := ?_) #[true, true, true, true, true, true, true, false, true, false, false, false, false, false, false, false, false, false, false, false] rfl rfl (any_of HT_.out (by kernel_rfl)) (fun _ _ _ h => h) (Or.inl ⟨by rfl, ?_⟩) ?_ ?_
                                                    rotate_left
                                                    · intro w'
                                                      go_simp
                                                      with_reducible rfl
                                                    rotate_left
                                                    · simp only [Act.put, List.setIfInBounds_toArray, List.set_cons_zero, List.set_cons_succ, i64_w, i32_w]
                                                      rfl
                                                    refine pure_ (i := 9) (N := some 105) (v := ?_) (a' := ?_) #[true, true, true, true, true, true, true, false, true, true, false, false, false, false, false, false, false, false, false, false] rfl rfl (any_of HT_.out (by kernel_rfl)) (fun _ _ _ h => h) (Or.inl ⟨by rfl, ?_⟩) ?_ ?_
                                                    rotate_left
                                                    · intro w'
                                                      go_simp
                                                      with_reducible rfl
                                                    rotate_left
                                                    · simp only [Act.put, List.setIfInBounds_toArray, List.set_cons_zero, List.set_cons_succ, i64_w, i32_w]
                                                      rfl
                                                    refine pure_ (i := 10) (N := some 106) (v := ?_) (a' := ?_) #[true, true, true, true, true, true, true, false, true, true, true, false, false, false, false, false, false, false, false, false] rfl rfl (any_of HT_.out (by kernel_rfl)) (fun _ _ _ h => h) (Or.inl ⟨by rfl, ?_⟩) ?_ ?_
                                                    rotate_left
                                                    · intro w'
                                                      go_simp
                                                      with_reducible rfl
                                                    rotate_left
                                                    · simp only [Act.put, List.setIfInBounds_toArray, List.set_cons_zero, List.set_cons_succ, i64_w, i32_w]
                                                      rfl
                                                    refine pure_ (i := 11) (N := some 107) (v := ?_) (a' := ?_) #[true, true, true, true, true, true, true, false, true, true, true, true, false, false, false, false, false, false, false, false] rfl rfl (any_of HT_.out (by kernel_rfl)) (fun _ _ _ h => h) (Or.inl ⟨by rfl, ?_⟩) ?_ ?_
                                                    rotate_left
                                                    · intro w'
                                                      go_simp
                                                      with_reducible rfl
                                                    rotate_left
                                                    · simp only [Act.put, List.setIfInBounds_toArray, List.set_cons_zero, List.set_cons_succ, i64_w, i32_w]
                                                      rfl
                                                    refine pure_ (i := 13) (N := some 109) (v := ?_) (a' := ?_) #[true, true, true, true, true, true, true, false, true, true, true, true, false, true, false, false, false, false, false, false] rfl rfl (any_of HT_.out (by kernel_rfl)) (fun _ _ _ h => h) (Or.inl ⟨by rfl, ?_⟩) ?_ ?_
                                                    rotate_left
                                                    · intro w'
                                                      go_simp
                                                      with_reducible rfl
                                                    rotate_left
                                                    · simp only [Act.put, List.setIfInBounds_toArray, List.set_cons_zero, List.set_cons_succ, i64_w, i32_w]
                                                      rfl
                                                    refine pure_ (i := 15) (N := some 111) (v := ?_) (a' := ?_) #[true, true, true, true, true, true, true, false, true, true, true, true, false, true, false, true, false, false, false, false] rfl rfl (any_of HT_.out (by kernel_rfl)) (fun _ _ _ h => h) (Or.inl ⟨by rfl, ?_⟩) ?_ ?_
                                                    rotate_left
                                                    · intro w'
                                                      go_simp
                                                      with_reducible rfl
                                                    rotate_left
                                                    · simp only [Act.put, List.setIfInBounds_toArray, List.set_cons_zero, List.set_cons_succ, i64_w, i32_w]
                                                      rfl
                                                    refine take_ (i := 7) (N := some 103) (v := ?_) (a' := ?_) #[true, true, true, true, true, true, true, true, true, true, true, true, false, true, false, true, false, false, false, false] rfl rfl (take_ofW HT_.out HW_.out (by kernel_rfl)) (fun _ _ _ h => h) (Or.inl ⟨by rfl, ?_⟩) hHeld ?_ ?_
                                                    rotate_left
                                                    · rintro w' ⟨s0, s1, s2, s3, s4, s5, s6, s7, s8, s9, s10, s11, s12, s13, s14, s15, s16⟩
                                                      go_simp
                                                      with_reducible rfl
                                                    rotate_left
                                                    · simp only [Act.put, List.setIfInBounds_toArray, List.set_cons_zero, List.set_cons_succ, i64_w, i32_w]
                                                      rfl
                                                    refine take_ (i := 12) (N := some 108) (v := ?_) (a' := ?_) #[true, true, true, true, true, true, true, true, true, true, true, true, true, true, false, true, false, false, false, false] rfl rfl (take_ofW HT_.out HW_.out (by kernel_rfl)) (fun _ _ _ h => h) (Or.inl ⟨by rfl, ?_⟩) hHeld ?_ ?_
                                                    rotate_left
                                                    · rintro w' ⟨s0, s1, s2, s3, s4, s5, s6, s7, s8, s9, s10, s11, s12, s13, s14, s15, s16⟩
                                                      go_simp
                                                      with_reducible rfl
                                                    rotate_left
                                                    · simp only [Act.put, List.setIfInBounds_toArray, List.set_cons_zero, List.set_cons_succ, i64_w, i32_w]
                                                      rfl
                                                    refine take_ (i := 14) (N := some 110) (v := ?_) (a' := ?_) #[true, true, true, true, true, true, true, true, true, true, true, true, true, true, true, true, false, false, false, false] rfl rfl (take_ofW HT_.out HW_.out (by kernel_rfl)) (fun _ _ _ h => h) (Or.inl ⟨by rfl, ?_⟩) hHeld ?_ ?_
                                                    rotate_left
                                                    · rintro w' ⟨s0, s1, s2, s3, s4, s5, s6, s7, s8, s9, s10, s11, s12, s13, s14, s15, s16⟩
                                                      go_simp
                                                      with_reducible rfl
                                                    rotate_left
                                                    · simp only [Act.put, List.setIfInBounds_toArray, List.set_cons_zero, List.set_cons_succ, i64_w, i32_w]
                                                      rfl
                                                    refine take_ (i := 16) (N := some 112) (v := ?_) (a' := ?_) #[true, true, true, true, true, true, true, true, true, true, true, true, true, true, true, true, true, false, false, false] rfl rfl (take_ofW HT_.out HW_.out (by kernel_rfl)) (fun _ _ _ h => h) (Or.inl ⟨by rfl, ?_⟩) hHeld ?_ ?_
                                                    rotate_left
                                                    · rintro w' ⟨s0, s1, s2, s3, s4, s5, s6, s7, s8, s9, s10, s11, s12, s13, s14, s15, s16⟩
                                                      go_simp
                                                      with_reducible rfl
                                                    rotate_left
                                                    · simp only [Act.put, List.setIfInBounds_toArray, List.set_cons_zero, List.set_cons_succ, i64_w, i32_w]
                                                      rfl
                                                    refine one_ (i := 17) (N := some 113) #[true, true, true, true, true, true, true, true, true, true, true, true, true, true, true, true, true, true, false, false] rfl rfl (one_of HT_.out (by kernel_rfl)) (by decide) (fun K hK => ?_)
                                                    refine goes_ Try.func37 (by kernel_rfl) rfl #[.agg #[.int .i64 ((rd_T71 l0 (ji41)).f0), .int .i64 ((rd_T71 l0 (ji41)).f1), .int .i64 ((rd_T71 l0 (ji41)).f2), .int .u64 ((rd_T71 l0 (ji41)).f3)], .int .i64 (wrap64 (((rd_T71 l0 (ji28)).f1) - ((rd_T71 l0 x7_2).f1))), .int .i64 (wrap64 (((rd_T71 l0 (ji28)).f2) - ((rd_T71 l0 x7_2).f2)))] (by rfl) rfl rfl (by (try simp only [List.map_toArray, List.map_cons, List.map_nil]); first | done | (simp only [hji28, hji41]; rfl) | rfl | (simp only [List.length_drop, List.length_take]; rfl)) ?_
                                                    with_reducible refine (skymosaicref36_next.calls ((rd_T71 l0 (ji41)).f0) ((rd_T71 l0 (ji41)).f1) ((rd_T71 l0 (ji41)).f2) ((rd_T71 l0 (ji41)).f3) (wrap64 (((rd_T71 l0 (ji28)).f1) - ((rd_T71 l0 x7_2).f1))) (wrap64 (((rd_T71 l0 (ji28)).f2) - ((rd_T71 l0 x7_2).f2))) t161 t162 t163 t164 _ A44.out).mono ?_
                                                    rintro e w50 ⟨rfl, hb⟩
                                                    refine ⟨_, rfl, ?_⟩
                                                    have n0_ := Aside0.mk (Kd.R_below (by (with_reducible repeat (first | apply Kd.R_alloc | apply Kd.R_drewN | apply Kd.R_drew)); exact HO_6.out) hb)
                                                    have n1_ := Aside0.mk (blk_below (g := gb150) (o := .cells #[.int .i64 (wrap64 (Int.tdiv x7_2 16)), .int .i64 (Int.tmod x7_2 16), .int .i64 0, .int .i64 ((rd_T71 l0 x7_2).f0), .int .i64 ((rd_T71 l0 x7_2).f1), .int .i64 ((rd_T71 l0 x7_2).f2), .int .u64 ((rd_T71 l0 x7_2).f3), .int .i64 (wrap64 (((rd_T71 l0 (ji28)).f1) - ((rd_T71 l0 x7_2).f1))), .int .i64 (wrap64 (((rd_T71 l0 (ji28)).f2) - ((rd_T71 l0 x7_2).f2)))] 74 (0, 0)) (by (with_reducible repeat (first | refine blk_drewN ?_ _ | refine blk_drew ?_ | refine blk_alloc ?_ _)); exact BK150.out) hb)
                                                    have n2_ := Aside0.mk (below_step (by repeat (first | (with_reducible first | exact HB.out | apply below_alloc | apply pw_below_drewN | apply below_drew1 | refine below_set ?_ GE150.out) | exact HB.out)) hb)
                                                    clear HO_6
                                                    clear BK150
                                                    clear HB
                                                    have HO_6 := n0_
                                                    have BK150 := n1_
                                                    have HB := n2_
                                                    clear n0_ n1_ n2_
                                                    (try clear hb)
                                                    (try clear hb2)
                                                    (try clear hk)
                                                    (try clear hi)
                                                    refine hK.out _ _ ⟨(blk_cell BK150.out 0).trans rfl, (blk_cell BK150.out 1).trans rfl, (blk_cell BK150.out 2).trans rfl, (blk_cell BK150.out 3).trans rfl, (blk_cell BK150.out 4).trans rfl, (blk_cell BK150.out 5).trans rfl, (blk_cell BK150.out 6).trans rfl, (blk_cell BK150.out 7).trans rfl, (blk_cell BK150.out 8).trans rfl, ((HB.out.cell (World.block_lt_of_cell? w _ hw159_0)).trans hw159_0), ((HB.out.cell (World.block_lt_of_cell? w _ hw159_1)).trans hw159_1), ((HB.out.cell (World.block_lt_of_cell? w _ hw159_2)).trans hw159_2), ((HB.out.cell (World.block_lt_of_cell? w _ hw159_3)).trans hw159_3), ((HB.out.cell (World.block_lt_of_cell? w _ hw160_0)).trans hw160_0), ((HB.out.cell (World.block_lt_of_cell? w _ hw160_1)).trans hw160_1), ((HB.out.cell (World.block_lt_of_cell? w _ hw160_2)).trans hw160_2), ((HB.out.cell (World.block_lt_of_cell? w _ hw160_3)).trans hw160_3)⟩ (fun hHeld => ?_)
                                                    clear hK K
                                                    refine norm_ (a' := ?_) ?_ ?_
                                                    rotate_left
                                                    · show Act.put _ (some 113) _ = _
                                                      simp only [Act.put, List.setIfInBounds_toArray, List.set_cons_zero, List.set_cons_succ, i64_w, i32_w]
                                                      rfl
                                                    refine pure_ (i := 18) (N := some 114) (v := ?_) (a' := ?_) #[true, true, true, true, true, true, true, true, true, true, true, true, true, true, true, true, true, true, true, false] rfl rfl (any_of HT_.out (by kernel_rfl)) (fun _ _ _ h => h) (Or.inl ⟨by rfl, ?_⟩) ?_ ?_
                                                    rotate_left
                                                    · intro w'
                                                      go_simp
                                                      with_reducible rfl
                                                    rotate_left
                                                    · simp only [Act.put, List.setIfInBounds_toArray, List.set_cons_zero, List.set_cons_succ, i64_w, i32_w]
                                                      rfl
                                                    refine pure_ (i := 19) (N := some 115) (v := ?_) (a' := ?_) #[true, true, true, true, true, true, true, true, true, true, true, true, true, true, true, true, true, true, true, true] rfl rfl (any_of HT_.out (by kernel_rfl)) (fun _ _ _ h => h) (Or.inl ⟨by rfl, ?_⟩) ?_ ?_
                                                    rotate_left
                                                    · intro w'
                                                      go_simp
                                                      with_reducible rfl
                                                    rotate_left
                                                    · simp only [Act.put, List.setIfInBounds_toArray, List.set_cons_zero, List.set_cons_succ, i64_w, i32_w]
                                                      rfl
                                                    refine done_ (done_of HT_.out (by kernel_rfl)) ?_
                                                    have hcz51_0 : w50.cell? ⟨gb150, 0, none⟩ = some (.int .i64 (wrap64 (Int.tdiv x7_2 16))) := (blk_cell BK150.out 0).trans rfl
                                                    have hcz51_1 : w50.cell? ⟨gb150, 1, none⟩ = some (.int .i64 (Int.tmod x7_2 16)) := (blk_cell BK150.out 1).trans rfl
                                                    have hcz51_2 : w50.cell? ⟨gb150, 2, none⟩ = some (.int .i64 0) := (blk_cell BK150.out 2).trans rfl
                                                    have hcz51_3 : w50.cell? ⟨gb150, 3, none⟩ = some (.int .i64 ((rd_T71 l0 x7_2).f0)) := (blk_cell BK150.out 3).trans rfl
                                                    have hcz51_4 : w50.cell? ⟨gb150, 4, none⟩ = some (.int .i64 ((rd_T71 l0 x7_2).f1)) := (blk_cell BK150.out 4).trans rfl
                                                    have hcz51_5 : w50.cell? ⟨gb150, 5, none⟩ = some (.int .i64 ((rd_T71 l0 x7_2).f2)) := (blk_cell BK150.out 5).trans rfl
                                                    have hcz51_6 : w50.cell? ⟨gb150, 6, none⟩ = some (.int .u64 ((rd_T71 l0 x7_2).f3)) := (blk_cell BK150.out 6).trans rfl
                                                    have hcz51_7 : w50.cell? ⟨gb150, 7, none⟩ = some (.int .i64 (wrap64 (((rd_T71 l0 (ji28)).f1) - ((rd_T71 l0 x7_2).f1)))) := (blk_cell BK150.out 7).trans rfl
                                                    have hcz51_8 : w50.cell? ⟨gb150, 8, none⟩ = some (.int .i64 (wrap64 (((rd_T71 l0 (ji28)).f2) - ((rd_T71 l0 x7_2).f2)))) := (blk_cell BK150.out 8).trans rfl
                                                    have hfz51_0 := blk_frozen BK150.out 0
                                                    have hfz51_1 := blk_frozen BK150.out 1
                                                    have hfz51_2 := blk_frozen BK150.out 2
                                                    have hfz51_3 := blk_frozen BK150.out 3
                                                    have hfz51_4 := blk_frozen BK150.out 4
                                                    have hfz51_5 := blk_frozen BK150.out 5
                                                    have hfz51_6 := blk_frozen BK150.out 6
                                                    have hfz51_7 := blk_frozen BK150.out 7
                                                    have hfz51_8 := blk_frozen BK150.out 8
                                                    try go_wp2_with (first | ((with_reducible refine gate_builtin (b := .append) (xs := #[.tmp 125, .tmp 127]) rfl ?_); at_builtin; refine Kd.R_append k74 (w0 := w) w.heap.size rfl (.tmp 125) (.tmp 127) 31 74 (.agg #[(.int .i64 0), (.int .i64 0), (.int .i64 0), (.int .i64 0), (.int .i64 0), (.int .i64 0), (.int .u64 0), (.int .i64 0), (.int .i64 0)]) 72 rfl Try.underlying31 info74 rfl (by decide) (by omega) u6 x6_2 (⟨(wrap64 (Int.tdiv x7_2 16)), (Int.tmod x7_2 16), wrap64 ((wrap64 ((Int.tmod x7_2 16) + x10_4)) - x7_2), (⟨((rd_T71 l0 x7_2).f0), ((rd_T71 l0 x7_2).f1), ((rd_T71 l0 x7_2).f2), ((rd_T71 l0 x7_2).f3)⟩ : S71), (wrap64 (((rd_T71 l0 (ji28)).f1) - ((rd_T71 l0 x7_2).f1))), (wrap64 (((rd_T71 l0 (ji28)).f2) - ((rd_T71 l0 x7_2).f2)))⟩ : S74) [.int .i64 (wrap64 (Int.tdiv x7_2 16)), .int .i64 (Int.tmod x7_2 16), .int .i64 (wrap64 ((wrap64 ((Int.tmod x7_2 16) + x10_4)) - x7_2)), .int .i64 ((rd_T71 l0 x7_2).f0), .int .i64 ((rd_T71 l0 x7_2).f1), .int .i64 ((rd_T71 l0 x7_2).f2), .int .u64 ((rd_T71 l0 x7_2).f3), .int .i64 (wrap64 (((rd_T71 l0 (ji28)).f1) - ((rd_T71 l0 x7_2).f1))), .int .i64 (wrap64 (((rd_T71 l0 (ji28)).f2) - ((rd_T71 l0 x7_2).f2)))] (fun k_ => k_ ≠ gb150) (fun _ => False) rfl (by first | (go_simp; done) | (go_simp; rfl)) ?aP (fun _ hk => hk.elim) ?aF ?aO ?aB ?aS ?aL ?_; (case aP => exact k74_mkM _ _ _ (⟨(wrap64 (Int.tdiv x7_2 16)), (Int.tmod x7_2 16), wrap64 ((wrap64 ((Int.tmod x7_2 16) + x10_4)) - x7_2), (⟨((rd_T71 l0 x7_2).f0), ((rd_T71 l0 x7_2).f1), ((rd_T71 l0 x7_2).f2), ((rd_T71 l0 x7_2).f3)⟩ : S71), (wrap64 (((rd_T71 l0 (ji28)).f1) - ((rd_T71 l0 x7_2).f1))), (wrap64 (((rd_T71 l0 (ji28)).f2) - ((rd_T71 l0 x7_2).f2)))⟩ : S74)); (case aB => exact (by repeat (first | (with_reducible first | exact HB.out | apply below_alloc | apply pw_below_drewN | apply below_drew1 | refine below_set ?_ GE150.out) | exact HB.out))); (case aF => exact (fun k_ hk => Kd.freshB (g := gb150) (o := .cells #[.int .i64 (wrap64 (Int.tdiv x7_2 16)), .int .i64 (Int.tmod x7_2 16), .int .i64 (wrap64 ((wrap64 ((Int.tmod x7_2 16) + x10_4)) - x7_2)), .int .i64 ((rd_T71 l0 x7_2).f0), .int .i64 ((rd_T71 l0 x7_2).f1), .int .i64 ((rd_T71 l0 x7_2).f2), .int .u64 ((rd_T71 l0 x7_2).f3), .int .i64 (wrap64 (((rd_T71 l0 (ji28)).f1) - ((rd_T71 l0 x7_2).f1))), .int .i64 (wrap64 (((rd_T71 l0 (ji28)).f2) - ((rd_T71 l0 x7_2).f2)))] 74 (0, 0)) (by (with_reducible repeat (first | refine blk_drewN ?_ _ | refine blk_drew ?_ | refine blk_alloc ?_ _)); refine blk_put (cs := #[.int .i64 (wrap64 (Int.tdiv x7_2 16)), .int .i64 (Int.tmod x7_2 16), .int .i64 0, .int .i64 ((rd_T71 l0 x7_2).f0), .int .i64 ((rd_T71 l0 x7_2).f1), .int .i64 ((rd_T71 l0 x7_2).f2), .int .u64 ((rd_T71 l0 x7_2).f3), .int .i64 (wrap64 (((rd_T71 l0 (ji28)).f1) - ((rd_T71 l0 x7_2).f1))), .int .i64 (wrap64 (((rd_T71 l0 (ji28)).f2) - ((rd_T71 l0 x7_2).f2)))]) ?_ 2 _ rfl; (with_reducible repeat (first | refine blk_drewN ?_ _ | refine blk_drew ?_ | refine blk_alloc ?_ _)); exact BK150.out) k_ hk)); (case aO => exact (by (with_reducible repeat (first | apply Kd.R_alloc | apply Kd.R_drewN | apply Kd.R_drew)); exact Kd.R_mono (Kd.R_far (p := ⟨gb150, 2, none⟩) (Kd.R_mono HO_6.out (fun k_ hk => (⟨hk, hk⟩ : _ ∧ k_ ≠ gb150))) (fun _ hk => hk.2) (.int .i64 (wrap64 ((wrap64 ((Int.tmod x7_2 16) + x10_4)) - x7_2)))) (fun _ hk => hk.1))); (case aS => exact (below_size (by repeat (first | (with_reducible first | exact HB.out | apply below_alloc | apply pw_below_drewN | apply below_drew1 | refine below_set ?_ GE150.out) | exact HB.out)))); (case aL => have := LMc48.out; omega); intro v166 w52 ho hb hg hat; rw [← Ny165.out] at ho; have n0_ := Aside0.mk (blk_grown (g := gb150) (o := .cells #[.int .i64 (wrap64 (Int.tdiv x7_2 16)), .int .i64 (Int.tmod x7_2 16), .int .i64 (wrap64 ((wrap64 ((Int.tmod x7_2 16) + x10_4)) - x7_2)), .int .i64 ((rd_T71 l0 x7_2).f0), .int .i64 ((rd_T71 l0 x7_2).f1), .int .i64 ((rd_T71 l0 x7_2).f2), .int .u64 ((rd_T71 l0 x7_2).f3), .int .i64 (wrap64 (((rd_T71 l0 (ji28)).f1) - ((rd_T71 l0 x7_2).f1))), .int .i64 (wrap64 (((rd_T71 l0 (ji28)).f2) - ((rd_T71 l0 x7_2).f2)))] 74 (0, 0)) (by (with_reducible repeat (first | refine blk_drewN ?_ _ | refine blk_drew ?_ | refine blk_alloc ?_ _)); refine blk_put (cs := #[.int .i64 (wrap64 (Int.tdiv x7_2 16)), .int .i64 (Int.tmod x7_2 16), .int .i64 0, .int .i64 ((rd_T71 l0 x7_2).f0), .int .i64 ((rd_T71 l0 x7_2).f1), .int .i64 ((rd_T71 l0 x7_2).f2), .int .u64 ((rd_T71 l0 x7_2).f3), .int .i64 (wrap64 (((rd_T71 l0 (ji28)).f1) - ((rd_T71 l0 x7_2).f1))), .int .i64 (wrap64 (((rd_T71 l0 (ji28)).f2) - ((rd_T71 l0 x7_2).f2)))]) ?_ 2 _ rfl; (with_reducible repeat (first | refine blk_drewN ?_ _ | refine blk_drew ?_ | refine blk_alloc ?_ _)); exact BK150.out) hg (Kd.R_away HO_6.out (fun _ hk => hk))); have n1_ := Aside0.mk (hb); have n2_ := Aside0.mk (ho); clear BK150; clear HB; clear HO_6; have BK150 := n0_; have HB := n1_; have HO167 := n2_; clear n0_ n1_ n2_; clear ho hb hg hat))
                                                    go_roundg k4
                                                    case measure => have := HK1.out; have := HK2.out; have := HJ12.out; have := HK4.out; omega
                                                    case rel => exact ⟨(y165), (x10_4), (by first | rfl | (simp; done) | (simp [*]; done)), (by first | exact H' | (rw [hji17]; exact H')), ⟨by have := HK1.out; have := HK2.out; have := HJ12.out; have := HK4.out; omega⟩, ⟨by (with_reducible repeat (first | apply Kd.R_alloc | apply Kd.R_drewN | apply Kd.R_drew)); exact Kd.R_mono HO167.out (fun _ hk => trivial)⟩, ⟨by repeat (first | (with_reducible first | exact HB.out | apply below_alloc | apply pw_below_drewN | apply below_drew1 | refine below_set ?_ GE150.out) | exact HB.out)⟩⟩
                                                  · rw [if_neg c48] at H
                                                    exact absurd H (by simp)
                                              · rw [if_neg c43] at H
                                                exact absurd H (by simp)
                                            · rw [if_neg c42] at H
                                              exact absurd H (by simp)
                                          · rw [if_neg c40] at H
                                            exact absurd H (by simp)
                                        · rw [if_neg c39] at H
                                          exact absurd H (by simp)
                                      · rw [if_neg c38] at H
                                        have c38b0 : decide (x10_4 < (wrap64 ((wrap64 (x7_2 - (Int.tmod x7_2 16))) + 16))) = false := decide_eq_false c38
                                        clear c38
                                        by_cases c53 : x6_2.length < 1954687338268
                                        · rw [if_pos c53] at H
                                          have LMc53 := Aside0.mk c53
                                          clear c53
                                          obtain ⟨y168, hy168⟩ : ∃ y_ : List (S74), y_ = (x6_2 ++ [(⟨(wrap64 (Int.tdiv x7_2 16)), (Int.tmod x7_2 16), wrap64 ((wrap64 ((Int.tmod x7_2 16) + x10_4)) - x7_2), (⟨((rd_T71 l0 x7_2).f0), ((rd_T71 l0 x7_2).f1), ((rd_T71 l0 x7_2).f2), ((rd_T71 l0 x7_2).f3)⟩ : S71), (wrap64 (((rd_T71 l0 (ji28)).f1) - ((rd_T71 l0 x7_2).f1))), (wrap64 (((rd_T71 l0 (ji28)).f2) - ((rd_T71 l0 x7_2).f2)))⟩ : S74)]) := ⟨_, rfl⟩
                                          replace H : (skymosaicref36_Pack.l1 k4 l0 y168 x10_4) = some (r1, r2) := by first | (rw [hy168]; with_reducible exact H) | (have H2_ := (Option.bind_some _ _).symm.trans H; rw [hy168]; with_reducible exact H2_) | (have H2_ := (Option.bind_some _ _).symm.trans H; with_reducible exact H2_) | with_reducible exact H | (rw [hy168]; exact H) | exact H
                                          have Ny168 := Aside0.mk hy168
                                          clear hy168
                                          have H' := Aside0.mk H
                                          clear H
                                          try go_wp2
                                          have n0_ := Aside0.mk (Kd.R_drew HO_6.out)
                                          have n1_ := Aside0.mk (blk_drew BK150.out)
                                          have n2_ := Aside0.mk (below_drew1 HB.out)
                                          clear HO_6
                                          clear BK150
                                          clear HB
                                          have HO_6 := n0_
                                          have BK150 := n1_
                                          have HB := n2_
                                          clear n0_ n1_ n2_
                                          refine start_ (n := 20) (S := fun w' => True) (ds := []) #[false, false, false, false, false, false, false, false, false, false, false, false, false, false, false, false, false, false, false, false] (by kernel_rfl) rfl rfl trivial (fun hHeld => ?_); refine with_tabW skymosaicref36_Pack.tab18 skymosaicref36_Pack.bits18 (fun HT_ HW_ => ?_)
                                          generalize wr.drew = w54 at HO_6 BK150 HB hHeld ⊢
                                          refine pure_ (i := 0) (N := some 96) (v := ?_) (a' := ?_) #[true, false, false, false, false, false, false, false, false, false, false, false, false, false, false, false, false, false, false, false] rfl rfl (any_of HT_.out (by kernel_rfl)) (fun _ _ _ h => h) (Or.inl ⟨by rfl, ?_⟩) ?_ ?_
                                          rotate_left
                                          · intro w'
                                            go_simp
                                            with_reducible rfl
                                          rotate_left
                                          · simp only [Act.put, List.setIfInBounds_toArray, List.set_cons_zero, List.set_cons_succ, i64_w, i32_w]
                                            rfl
                                          refine pure_ (i := 1) (N := some 97) (v := ?_) (a' := ?_) #[true, true, false, false, false, false, false, false, false, false, false, false, false, false, false, false, false, false, false, false] rfl rfl (any_of HT_.out (by kernel_rfl)) (fun _ _ _ h => h) (Or.inl ⟨by rfl, ?_⟩) ?_ ?_
                                          rotate_left
                                          · intro w'
                                            go_simp
                                            with_reducible rfl
                                          rotate_left
                                          · simp only [Act.put, List.setIfInBounds_toArray, List.set_cons_zero, List.set_cons_succ, i64_w, i32_w]
                                            rfl
                                          refine pure_ (i := 2) (N := some 98) (v := ?_) (a' := ?_) #[true, true, true, false, false, false, false, false, false, false, false, false, false, false, false, false, false, false, false, false] rfl rfl (any_of HT_.out (by kernel_rfl)) (fun _ _ _ h => h) (Or.inl ⟨by rfl, ?_⟩) ?_ ?_
                                          rotate_left
                                          · intro w'
                                            go_simp
                                            with_reducible rfl
                                          rotate_left
                                          · simp only [Act.put, List.setIfInBounds_toArray, List.set_cons_zero, List.set_cons_succ, i64_w, i32_w]
                                            rfl
                                          refine pure_ (i := 3) (N := some 99) (v := ?_) (a' := ?_) #[true, true, true, true, false, false, false, false, false, false, false, false, false, false, false, false, false, false, false, false] rfl rfl (any_of HT_.out (by kernel_rfl)) (fun _ _ _ h => h) (Or.inl ⟨by rfl, ?_⟩) ?_ ?_
                                          rotate_left
                                          · intro w'
                                            go_simp
                                            with_reducible rfl
                                          rotate_left
                                          · simp only [Act.put, List.setIfInBounds_toArray, List.set_cons_zero, List.set_cons_succ, i64_w, i32_w]
                                            rfl
                                          refine pure_ (i := 4) (N := some 100) (v := undef) (a' := ?_) #[true, true, true, true, true, false, false, false, false, false, false, false, false, false, false, false, false, false, false, false] rfl rfl (any_of HT_.out (by kernel_rfl)) (fun _ _ _ h => h) (Or.inr ⟨by rfl, rfl⟩) ?_ ?_
                                          rotate_left
                                          · simp only [Act.put, List.setIfInBounds_toArray, List.set_cons_zero, List.set_cons_succ, i64_w, i32_w]
                                            rfl
                                          refine pure_ (i := 5) (N := some 101) (v := undef) (a' := ?_) #[true, true, true, true, true, true, false, false, false, false, false, false, false, false, false, false, false, false, false, false] rfl rfl (any_of HT_.out (by kernel_rfl)) (fun _ _ _ h => h) (Or.inr ⟨by rfl, rfl⟩) ?_ ?_
                                          rotate_left
                                          · simp only [Act.put, List.setIfInBounds_toArray, List.set_cons_zero, List.set_cons_succ, i64_w, i32_w]
                                            rfl
                                          refine pure_ (i := 6) (N := some 102) (v := undef) (a' := ?_) #[true, true, true, true, true, true, true, false, false, false, false, false, false, false, false, false, false, false, false, false] rfl rfl (any_of HT_.out (by kernel_rfl)) (fun _ _ _ h => h) (Or.inr ⟨by rfl, rfl⟩) ?_ ?_
                                          rotate_left
                                          · simp only [Act.put, List.setIfInBounds_toArray, List.set_cons_zero, List.set_cons_succ, i64_w, i32_w]
                                            rfl
                                          refine pure_ (i := 7) (N := some 103) (v := undef) (a' := ?_) #[true, true, true, true, true, true, true, true, false, false, false, false, false, false, false, false, false, false, false, false] rfl rfl (any_of HT_.out (by kernel_rfl)) (fun _ _ _ h => h) (Or.inr ⟨by rfl, rfl⟩) ?_ ?_
                                          rotate_left
                                          · simp only [Act.put, List.setIfInBounds_toArray, List.set_cons_zero, List.set_cons_succ, i64_w, i32_w]
                                            rfl
                                          refine pure_ (i := 8) (N := some 104) (v := undef) (a' := ?_) #[true, true, true, true, true, true, true, true, true, false, false, false, false, false, false, false, false, false, false, false] rfl rfl (any_of HT_.out (by kernel_rfl)) (fun _ _ _ h => h) (Or.inr ⟨by rfl, rfl⟩) ?_ ?_
                                          rotate_left
                                          · simp only [Act.put, List.setIfInBounds_toArray, List.set_cons_zero, List.set_cons_succ, i64_w, i32_w]
                                            rfl
                                          refine pure_ (i := 9) (N := some 105) (v := undef) (a' := ?_) #[true, true, true, true, true, true, true, true, true, true, false, false, false, false, false, false, false, false, false, false] rfl rfl (any_of HT_.out (by kernel_rfl)) (fun _ _ _ h => h) (Or.inr ⟨by rfl, rfl⟩) ?_ ?_
                                          rotate_left
                                          · simp only [Act.put, List.setIfInBounds_toArray, List.set_cons_zero, List.set_cons_succ, i64_w, i32_w]
                                            rfl
                                          refine pure_ (i := 10) (N := some 106) (v := undef) (a' := ?_) #[true, true, true, true, true, true, true, true, true, true, true, false, false, false, false, false, false, false, false, false] rfl rfl (any_of HT_.out (by kernel_rfl)) (fun _ _ _ h => h) (Or.inr ⟨by rfl, rfl⟩) ?_ ?_
                                          rotate_left
                                          · simp only [Act.put, List.setIfInBounds_toArray, List.set_cons_zero, List.set_cons_succ, i64_w, i32_w]
                                            rfl
                                          refine pure_ (i := 11) (N := some 107) (v := undef) (a' := ?_) #[true, true, true, true, true, true, true, true, true, true, true, true, false, false, false, false, false, false, false, false] rfl rfl (any_of HT_.out (by kernel_rfl)) (fun _ _ _ h => h) (Or.inr ⟨by rfl, rfl⟩) ?_ ?_
                                          rotate_left
                                          · simp only [Act.put, List.setIfInBounds_toArray, List.set_cons_zero, List.set_cons_succ, i64_w, i32_w]
                                            rfl
                                          refine pure_ (i := 12) (N := some 108) (v := undef) (a' := ?_) #[true, true, true, true, true, true, true, true, true, true, true, true, true, false, false, false, false, false, false, false] rfl rfl (any_of HT_.out (by kernel_rfl)) (fun _ _ _ h => h) (Or.inr ⟨by rfl, rfl⟩) ?_ ?_
                                          rotate_left
                                          · simp only [Act.put, List.setIfInBounds_toArray, List.set_cons_zero, List.set_cons_succ, i64_w, i32_w]
                                            rfl
                                          refine pure_ (i := 13) (N := some 109) (v := undef) (a' := ?_) #[true, true, true, true, true, true, true, true, true, true, true, true, true, true, false, false, false, false, false, false] rfl rfl (any_of HT_.out (by kernel_rfl)) (fun _ _ _ h => h) (Or.inr ⟨by rfl, rfl⟩) ?_ ?_
                                          rotate_left
                                          · simp only [Act.put, List.setIfInBounds_toArray, List.set_cons_zero, List.set_cons_succ, i64_w, i32_w]
                                            rfl
                                          refine pure_ (i := 14) (N := some 110) (v := undef) (a' := ?_) #[true, true, true, true, true, true, true, true, true, true, true, true, true, true, true, false, false, false, false, false] rfl rfl (any_of HT_.out (by kernel_rfl)) (fun _ _ _ h => h) (Or.inr ⟨by rfl, rfl⟩) ?_ ?_
                                          rotate_left
                                          · simp only [Act.put, List.setIfInBounds_toArray, List.set_cons_zero, List.set_cons_succ, i64_w, i32_w]
                                            rfl
                                          refine pure_ (i := 15) (N := some 111) (v := undef) (a' := ?_) #[true, true, true, true, true, true, true, true, true, true, true, true, true, true, true, true, false, false, false, false] rfl rfl (any_of HT_.out (by kernel_rfl)) (fun _ _ _ h => h) (Or.inr ⟨by rfl, rfl⟩) ?_ ?_
                                          rotate_left
                                          · simp only [Act.put, List.setIfInBounds_toArray, List.set_cons_zero, List.set_cons_succ, i64_w, i32_w]
                                            rfl
                                          refine pure_ (i := 16) (N := some 112) (v := undef) (a' := ?_) #[true, true, true, true, true, true, true, true, true, true, true, true, true, true, true, true, true, false, false, false] rfl rfl (any_of HT_.out (by kernel_rfl)) (fun _ _ _ h => h) (Or.inr ⟨by rfl, rfl⟩) ?_ ?_
                                          rotate_left
                                          · simp only [Act.put, List.setIfInBounds_toArray, List.set_cons_zero, List.set_cons_succ, i64_w, i32_w]
                                            rfl
                                          refine pure_ (i := 17) (N := some 113) (v := undef) (a' := ?_) #[true, true, true, true, true, true, true, true, true, true, true, true, true, true, true, true, true, true, false, false] rfl rfl (any_of HT_.out (by kernel_rfl)) (fun _ _ _ h => h) (Or.inr ⟨by rfl, rfl⟩) ?_ ?_
                                          rotate_left
                                          · simp only [Act.put, List.setIfInBounds_toArray, List.set_cons_zero, List.set_cons_succ, i64_w, i32_w]
                                            rfl
                                          refine pure_ (i := 18) (N := some 114) (v := undef) (a' := ?_) #[true, true, true, true, true, true, true, true, true, true, true, true, true, true, true, true, true, true, true, false] rfl rfl (any_of HT_.out (by kernel_rfl)) (fun _ _ _ h => h) (Or.inr ⟨by rfl, rfl⟩) ?_ ?_
                                          rotate_left
                                          · simp only [Act.put, List.setIfInBounds_toArray, List.set_cons_zero, List.set_cons_succ, i64_w, i32_w]
                                            rfl
                                          refine pure_ (i := 19) (N := some 115) (v := ?_) (a' := ?_) #[true, true, true, true, true, true, true, true, true, true, true, true, true, true, true, true, true, true, true, true] rfl rfl (any_of HT_.out (by kernel_rfl)) (fun _ _ _ h => h) (Or.inl ⟨by rfl, ?_⟩) ?_ ?_
                                          rotate_left
                                          · intro w'
                                            go_simp
                                            with_reducible rfl
                                          rotate_left
                                          · simp only [Act.put, List.setIfInBounds_toArray, List.set_cons_zero, List.set_cons_succ, i64_w, i32_w]
                                            rfl
                                          refine done_ (done_of HT_.out (by kernel_rfl)) ?_
                                          have hcz55_0 : w54.cell? ⟨gb150, 0, none⟩ = some (.int .i64 (wrap64 (Int.tdiv x7_2 16))) := (blk_cell BK150.out 0).trans rfl
                                          have hcz55_1 : w54.cell? ⟨gb150, 1, none⟩ = some (.int .i64 (Int.tmod x7_2 16)) := (blk_cell BK150.out 1).trans rfl
                                          have hcz55_2 : w54.cell? ⟨gb150, 2, none⟩ = some (.int .i64 0) := (blk_cell BK150.out 2).trans rfl
                                          have hcz55_3 : w54.cell? ⟨gb150, 3, none⟩ = some (.int .i64 ((rd_T71 l0 x7_2).f0)) := (blk_cell BK150.out 3).trans rfl
                                          have hcz55_4 : w54.cell? ⟨gb150, 4, none⟩ = some (.int .i64 ((rd_T71 l0 x7_2).f1)) := (blk_cell BK150.out 4).trans rfl
                                          have hcz55_5 : w54.cell? ⟨gb150, 5, none⟩ = some (.int .i64 ((rd_T71 l0 x7_2).f2)) := (blk_cell BK150.out 5).trans rfl
                                          have hcz55_6 : w54.cell? ⟨gb150, 6, none⟩ = some (.int .u64 ((rd_T71 l0 x7_2).f3)) := (blk_cell BK150.out 6).trans rfl
                                          have hcz55_7 : w54.cell? ⟨gb150, 7, none⟩ = some (.int .i64 (wrap64 (((rd_T71 l0 (ji28)).f1) - ((rd_T71 l0 x7_2).f1)))) := (blk_cell BK150.out 7).trans rfl
                                          have hcz55_8 : w54.cell? ⟨gb150, 8, none⟩ = some (.int .i64 (wrap64 (((rd_T71 l0 (ji28)).f2) - ((rd_T71 l0 x7_2).f2)))) := (blk_cell BK150.out 8).trans rfl
                                          have hfz55_0 := blk_frozen BK150.out 0
                                          have hfz55_1 := blk_frozen BK150.out 1
                                          have hfz55_2 := blk_frozen BK150.out 2
                                          have hfz55_3 := blk_frozen BK150.out 3
                                          have hfz55_4 := blk_frozen BK150.out 4
                                          have hfz55_5 := blk_frozen BK150.out 5
                                          have hfz55_6 := blk_frozen BK150.out 6
                                          have hfz55_7 := blk_frozen BK150.out 7
                                          have hfz55_8 := blk_frozen BK150.out 8
                                          try go_wp2_with (first | ((with_reducible refine gate_builtin (b := .append) (xs := #[.tmp 125, .tmp 127]) rfl ?_); at_builtin; refine Kd.R_append k74 (w0 := w) w.heap.size rfl (.tmp 125) (.tmp 127) 31 74 (.agg #[(.int .i64 0), (.int .i64 0), (.int .i64 0), (.int .i64 0), (.int .i64 0), (.int .i64 0), (.int .u64 0), (.int .i64 0), (.int .i64 0)]) 72 rfl Try.underlying31 info74 rfl (by decide) (by omega) u6 x6_2 (⟨(wrap64 (Int.tdiv x7_2 16)), (Int.tmod x7_2 16), wrap64 ((wrap64 ((Int.tmod x7_2 16) + x10_4)) - x7_2), (⟨((rd_T71 l0 x7_2).f0), ((rd_T71 l0 x7_2).f1), ((rd_T71 l0 x7_2).f2), ((rd_T71 l0 x7_2).f3)⟩ : S71), (wrap64 (((rd_T71 l0 (ji28)).f1) - ((rd_T71 l0 x7_2).f1))), (wrap64 (((rd_T71 l0 (ji28)).f2) - ((rd_T71 l0 x7_2).f2)))⟩ : S74) [.int .i64 (wrap64 (Int.tdiv x7_2 16)), .int .i64 (Int.tmod x7_2 16), .int .i64 (wrap64 ((wrap64 ((Int.tmod x7_2 16) + x10_4)) - x7_2)), .int .i64 ((rd_T71 l0 x7_2).f0), .int .i64 ((rd_T71 l0 x7_2).f1), .int .i64 ((rd_T71 l0 x7_2).f2), .int .u64 ((rd_T71 l0 x7_2).f3), .int .i64 (wrap64 (((rd_T71 l0 (ji28)).f1) - ((rd_T71 l0 x7_2).f1))), .int .i64 (wrap64 (((rd_T71 l0 (ji28)).f2) - ((rd_T71 l0 x7_2).f2)))] (fun k_ => k_ ≠ gb150) (fun _ => False) rfl (by first | (go_simp; done) | (go_simp; rfl)) ?aP (fun _ hk => hk.elim) ?aF ?aO ?aB ?aS ?aL ?_; (case aP => exact k74_mkM _ _ _ (⟨(wrap64 (Int.tdiv x7_2 16)), (Int.tmod x7_2 16), wrap64 ((wrap64 ((Int.tmod x7_2 16) + x10_4)) - x7_2), (⟨((rd_T71 l0 x7_2).f0), ((rd_T71 l0 x7_2).f1), ((rd_T71 l0 x7_2).f2), ((rd_T71 l0 x7_2).f3)⟩ : S71), (wrap64 (((rd_T71 l0 (ji28)).f1) - ((rd_T71 l0 x7_2).f1))), (wrap64 (((rd_T71 l0 (ji28)).f2) - ((rd_T71 l0 x7_2).f2)))⟩ : S74)); (case aB => exact (by repeat (first | (with_reducible first | exact HB.out | apply below_alloc | apply pw_below_drewN | apply below_drew1 | refine below_set ?_ GE150.out) | exact HB.out))); (case aF => exact (fun k_ hk => Kd.freshB (g := gb150) (o := .cells #[.int .i64 (wrap64 (Int.tdiv x7_2 16)), .int .i64 (Int.tmod x7_2 16), .int .i64 (wrap64 ((wrap64 ((Int.tmod x7_2 16) + x10_4)) - x7_2)), .int .i64 ((rd_T71 l0 x7_2).f0), .int .i64 ((rd_T71 l0 x7_2).f1), .int .i64 ((rd_T71 l0 x7_2).f2), .int .u64 ((rd_T71 l0 x7_2).f3), .int .i64 (wrap64 (((rd_T71 l0 (ji28)).f1) - ((rd_T71 l0 x7_2).f1))), .int .i64 (wrap64 (((rd_T71 l0 (ji28)).f2) - ((rd_T71 l0 x7_2).f2)))] 74 (0, 0)) (by (with_reducible repeat (first | refine blk_drewN ?_ _ | refine blk_drew ?_ | refine blk_alloc ?_ _)); refine blk_put (cs := #[.int .i64 (wrap64 (Int.tdiv x7_2 16)), .int .i64 (Int.tmod x7_2 16), .int .i64 0, .int .i64 ((rd_T71 l0 x7_2).f0), .int .i64 ((rd_T71 l0 x7_2).f1), .int .i64 ((rd_T71 l0 x7_2).f2), .int .u64 ((rd_T71 l0 x7_2).f3), .int .i64 (wrap64 (((rd_T71 l0 (ji28)).f1) - ((rd_T71 l0 x7_2).f1))), .int .i64 (wrap64 (((rd_T71 l0 (ji28)).f2) - ((rd_T71 l0 x7_2).f2)))]) ?_ 2 _ rfl; (with_reducible repeat (first | refine blk_drewN ?_ _ | refine blk_drew ?_ | refine blk_alloc ?_ _)); exact BK150.out) k_ hk)); (case aO => exact (by (with_reducible repeat (first | apply Kd.R_alloc | apply Kd.R_drewN | apply Kd.R_drew)); exact Kd.R_mono (Kd.R_far (p := ⟨gb150, 2, none⟩) (Kd.R_mono HO_6.out (fun k_ hk => (⟨hk, hk⟩ : _ ∧ k_ ≠ gb150))) (fun _ hk => hk.2) (.int .i64 (wrap64 ((wrap64 ((Int.tmod x7_2 16) + x10_4)) - x7_2)))) (fun _ hk => hk.1))); (case aS => exact (below_size (by repeat (first | (with_reducible first | exact HB.out | apply below_alloc | apply pw_below_drewN | apply below_drew1 | refine below_set ?_ GE150.out) | exact HB.out)))); (case aL => have := LMc53.out; omega); intro v169 w56 ho hb hg hat; rw [← Ny168.out] at ho; have n0_ := Aside0.mk (blk_grown (g := gb150) (o := .cells #[.int .i64 (wrap64 (Int.tdiv x7_2 16)), .int .i64 (Int.tmod x7_2 16), .int .i64 (wrap64 ((wrap64 ((Int.tmod x7_2 16) + x10_4)) - x7_2)), .int .i64 ((rd_T71 l0 x7_2).f0), .int .i64 ((rd_T71 l0 x7_2).f1), .int .i64 ((rd_T71 l0 x7_2).f2), .int .u64 ((rd_T71 l0 x7_2).f3), .int .i64 (wrap64 (((rd_T71 l0 (ji28)).f1) - ((rd_T71 l0 x7_2).f1))), .int .i64 (wrap64 (((rd_T71 l0 (ji28)).f2) - ((rd_T71 l0 x7_2).f2)))] 74 (0, 0)) (by (with_reducible repeat (first | refine blk_drewN ?_ _ | refine blk_drew ?_ | refine blk_alloc ?_ _)); refine blk_put (cs := #[.int .i64 (wrap64 (Int.tdiv x7_2 16)), .int .i64 (Int.tmod x7_2 16), .int .i64 0, .int .i64 ((rd_T71 l0 x7_2).f0), .int .i64 ((rd_T71 l0 x7_2).f1), .int .i64 ((rd_T71 l0 x7_2).f2), .int .u64 ((rd_T71 l0 x7_2).f3), .int .i64 (wrap64 (((rd_T71 l0 (ji28)).f1) - ((rd_T71 l0 x7_2).f1))), .int .i64 (wrap64 (((rd_T71 l0 (ji28)).f2) - ((rd_T71 l0 x7_2).f2)))]) ?_ 2 _ rfl; (with_reducible repeat (first | refine blk_drewN ?_ _ | refine blk_drew ?_ | refine blk_alloc ?_ _)); exact BK150.out) hg (Kd.R_away HO_6.out (fun _ hk => hk))); have n1_ := Aside0.mk (hb); have n2_ := Aside0.mk (ho); clear BK150; clear HB; clear HO_6; have BK150 := n0_; have HB := n1_; have HO170 := n2_; clear n0_ n1_ n2_; clear ho hb hg hat))
                                          go_roundg k4
                                          case measure => have := HK1.out; have := HK2.out; have := HJ12.out; have := HK4.out; omega
                                          case rel => exact ⟨(y168), (x10_4), (by first | rfl | (simp; done) | (simp [*]; done)), (by first | exact H' | (rw [hji17]; exact H')), ⟨by have := HK1.out; have := HK2.out; have := HJ12.out; have := HK4.out; omega⟩, ⟨by (with_reducible repeat (first | apply Kd.R_alloc | apply Kd.R_drewN | apply Kd.R_drew)); exact Kd.R_mono HO170.out (fun _ hk => trivial)⟩, ⟨by repeat (first | (with_reducible first | exact HB.out | apply below_alloc | apply pw_below_drewN | apply below_drew1 | refine below_set ?_ GE150.out) | exact HB.out)⟩⟩
                                        · rw [if_neg c53] at H
                                          exact absurd H (by simp)
                                · rw [if_neg c32] at H
                                  exact absurd H (by simp)
                              · rw [if_neg c31] at H
                                exact absurd H (by simp)
                            · rw [if_neg c30] at H
                              exact absurd H (by simp)
                          · rw [if_neg c29] at H
                            exact absurd H (by simp)
                        · replace c27 := Bool.eq_false_iff.mpr c27
                          subst c27
                          have H1 : (if x6_2.length < 1954687338268 then (skymosaicref36_Pack.l1 kj12 l0 (x6_2 ++ [(⟨(wrap64 (Int.tdiv x7_2 16)), (Int.tmod x7_2 16), wrap64 ((wrap64 ((Int.tmod x7_2 16) + (wrap64 (x7_2 + 1)))) - x7_2), (⟨((rd_T71 l0 x7_2).f0), ((rd_T71 l0 x7_2).f1), ((rd_T71 l0 x7_2).f2), ((rd_T71 l0 x7_2).f3)⟩ : S71), 0, 0⟩ : S74)]) (wrap64 (x7_2 + 1))) else (none)) = some (r1, r2) := by rw [if_neg (show ¬ (false = true) by decide)] at H; exact H
                          clear H
                          have H := H1
                          clear H1
                          by_cases c57 : x6_2.length < 1954687338268
                          · rw [if_pos c57] at H
                            have LMc57 := Aside0.mk c57
                            clear c57
                            obtain ⟨y171, hy171⟩ : ∃ y_ : List (S74), y_ = (x6_2 ++ [(⟨(wrap64 (Int.tdiv x7_2 16)), (Int.tmod x7_2 16), wrap64 ((wrap64 ((Int.tmod x7_2 16) + (wrap64 (x7_2 + 1)))) - x7_2), (⟨((rd_T71 l0 x7_2).f0), ((rd_T71 l0 x7_2).f1), ((rd_T71 l0 x7_2).f2), ((rd_T71 l0 x7_2).f3)⟩ : S71), 0, 0⟩ : S74)]) := ⟨_, rfl⟩
                            replace H : (skymosaicref36_Pack.l1 kj12 l0 y171 (wrap64 (x7_2 + 1))) = some (r1, r2) := by first | (rw [hy171]; with_reducible exact H) | (have H2_ := (Option.bind_some _ _).symm.trans H; rw [hy171]; with_reducible exact H2_) | (have H2_ := (Option.bind_some _ _).symm.trans H; with_reducible exact H2_) | with_reducible exact H | (rw [hy171]; exact H) | exact H
                            have Ny171 := Aside0.mk hy171
                            clear hy171
                            have H' := Aside0.mk H
                            clear H
                            have hcz58_0 : wc.cell? ⟨gb150, 0, none⟩ = some (.int .i64 (wrap64 (Int.tdiv x7_2 16))) := (blk_cell BK150.out 0).trans rfl
                            have hcz58_1 : wc.cell? ⟨gb150, 1, none⟩ = some (.int .i64 (Int.tmod x7_2 16)) := (blk_cell BK150.out 1).trans rfl
                            have hcz58_2 : wc.cell? ⟨gb150, 2, none⟩ = some (.int .i64 0) := (blk_cell BK150.out 2).trans rfl
                            have hcz58_3 : wc.cell? ⟨gb150, 3, none⟩ = some (.int .i64 ((rd_T71 l0 x7_2).f0)) := (blk_cell BK150.out 3).trans rfl
                            have hcz58_4 : wc.cell? ⟨gb150, 4, none⟩ = some (.int .i64 ((rd_T71 l0 x7_2).f1)) := (blk_cell BK150.out 4).trans rfl
                            have hcz58_5 : wc.cell? ⟨gb150, 5, none⟩ = some (.int .i64 ((rd_T71 l0 x7_2).f2)) := (blk_cell BK150.out 5).trans rfl
                            have hcz58_6 : wc.cell? ⟨gb150, 6, none⟩ = some (.int .u64 ((rd_T71 l0 x7_2).f3)) := (blk_cell BK150.out 6).trans rfl
                            have hcz58_7 : wc.cell? ⟨gb150, 7, none⟩ = some (.int .i64 0) := (blk_cell BK150.out 7).trans rfl
                            have hcz58_8 : wc.cell? ⟨gb150, 8, none⟩ = some (.int .i64 0) := (blk_cell BK150.out 8).trans rfl
                            have hfz58_0 := blk_frozen BK150.out 0
                            have hfz58_1 := blk_frozen BK150.out 1
                            have hfz58_2 := blk_frozen BK150.out 2
                            have hfz58_3 := blk_frozen BK150.out 3
                            have hfz58_4 := blk_frozen BK150.out 4
                            have hfz58_5 := blk_frozen BK150.out 5
                            have hfz58_6 := blk_frozen BK150.out 6
                            have hfz58_7 := blk_frozen BK150.out 7
                            have hfz58_8 := blk_frozen BK150.out 8
                            go_wp2_with (first | ((with_reducible refine gate_builtin (b := .append) (xs := #[.tmp 125, .tmp 127]) rfl ?_); at_builtin; refine Kd.R_append k74 (w0 := w) w.heap.size rfl (.tmp 125) (.tmp 127) 31 74 (.agg #[(.int .i64 0), (.int .i64 0), (.int .i64 0), (.int .i64 0), (.int .i64 0), (.int .i64 0), (.int .u64 0), (.int .i64 0), (.int .i64 0)]) 72 rfl Try.underlying31 info74 rfl (by decide) (by omega) u6 x6_2 (⟨(wrap64 (Int.tdiv x7_2 16)), (Int.tmod x7_2 16), wrap64 ((wrap64 ((Int.tmod x7_2 16) + (wrap64 (x7_2 + 1)))) - x7_2), (⟨((rd_T71 l0 x7_2).f0), ((rd_T71 l0 x7_2).f1), ((rd_T71 l0 x7_2).f2), ((rd_T71 l0 x7_2).f3)⟩ : S71), 0, 0⟩ : S74) [.int .i64 (wrap64 (Int.tdiv x7_2 16)), .int .i64 (Int.tmod x7_2 16), .int .i64 (wrap64 ((wrap64 ((Int.tmod x7_2 16) + (wrap64 (x7_2 + 1)))) - x7_2)), .int .i64 ((rd_T71 l0 x7_2).f0), .int .i64 ((rd_T71 l0 x7_2).f1), .int .i64 ((rd_T71 l0 x7_2).f2), .int .u64 ((rd_T71 l0 x7_2).f3), .int .i64 0, .int .i64 0] (fun k_ => k_ ≠ gb150) (fun _ => False) rfl (by first | (go_simp; done) | (go_simp; rfl)) ?aP (fun _ hk => hk.elim) ?aF ?aO ?aB ?aS ?aL ?_; (case aP => exact k74_mkM _ _ _ (⟨(wrap64 (Int.tdiv x7_2 16)), (Int.tmod x7_2 16), wrap64 ((wrap64 ((Int.tmod x7_2 16) + (wrap64 (x7_2 + 1)))) - x7_2), (⟨((rd_T71 l0 x7_2).f0), ((rd_T71 l0 x7_2).f1), ((rd_T71 l0 x7_2).f2), ((rd_T71 l0 x7_2).f3)⟩ : S71), 0, 0⟩ : S74)); (case aB => exact (by repeat (first | (with_reducible first | exact HB.out | apply below_alloc | apply pw_below_drewN | apply below_drew1 | refine below_set ?_ GE150.out) | exact HB.out))); (case aF => exact (fun k_ hk => Kd.freshB (g := gb150) (o := .cells #[.int .i64 (wrap64 (Int.tdiv x7_2 16)), .int .i64 (Int.tmod x7_2 16), .int .i64 (wrap64 ((wrap64 ((Int.tmod x7_2 16) + (wrap64 (x7_2 + 1)))) - x7_2)), .int .i64 ((rd_T71 l0 x7_2).f0), .int .i64 ((rd_T71 l0 x7_2).f1), .int .i64 ((rd_T71 l0 x7_2).f2), .int .u64 ((rd_T71 l0 x7_2).f3), .int .i64 0, .int .i64 0] 74 (0, 0)) (by (with_reducible repeat (first | refine blk_drewN ?_ _ | refine blk_drew ?_ | refine blk_alloc ?_ _)); refine blk_put (cs := #[.int .i64 (wrap64 (Int.tdiv x7_2 16)), .int .i64 (Int.tmod x7_2 16), .int .i64 0, .int .i64 ((rd_T71 l0 x7_2).f0), .int .i64 ((rd_T71 l0 x7_2).f1), .int .i64 ((rd_T71 l0 x7_2).f2), .int .u64 ((rd_T71 l0 x7_2).f3), .int .i64 0, .int .i64 0]) ?_ 2 _ rfl; (with_reducible repeat (first | refine blk_drewN ?_ _ | refine blk_drew ?_ | refine blk_alloc ?_ _)); exact BK150.out) k_ hk)); (case aO => exact (by (with_reducible repeat (first | apply Kd.R_alloc | apply Kd.R_drewN | apply Kd.R_drew)); exact Kd.R_mono (Kd.R_far (p := ⟨gb150, 2, none⟩) (Kd.R_mono HO_6.out (fun k_ hk => (⟨hk, hk⟩ : _ ∧ k_ ≠ gb150))) (fun _ hk => hk.2) (.int .i64 (wrap64 ((wrap64 ((Int.tmod x7_2 16) + (wrap64 (x7_2 + 1)))) - x7_2)))) (fun _ hk => hk.1))); (case aS => exact (below_size (by repeat (first | (with_reducible first | exact HB.out | apply below_alloc | apply pw_below_drewN | apply below_drew1 | refine below_set ?_ GE150.out) | exact HB.out)))); (case aL => have := LMc57.out; omega); intro v172 w59 ho hb hg hat; rw [← Ny171.out] at ho; have n0_ := Aside0.mk (blk_grown (g := gb150) (o := .cells #[.int .i64 (wrap64 (Int.tdiv x7_2 16)), .int .i64 (Int.tmod x7_2 16), .int .i64 (wrap64 ((wrap64 ((Int.tmod x7_2 16) + (wrap64 (x7_2 + 1)))) - x7_2)), .int .i64 ((rd_T71 l0 x7_2).f0), .int .i64 ((rd_T71 l0 x7_2).f1), .int .i64 ((rd_T71 l0 x7_2).f2), .int .u64 ((rd_T71 l0 x7_2).f3), .int .i64 0, .int .i64 0] 74 (0, 0)) (by (with_reducible repeat (first | refine blk_drewN ?_ _ | refine blk_drew ?_ | refine blk_alloc ?_ _)); refine blk_put (cs := #[.int .i64 (wrap64 (Int.tdiv x7_2 16)), .int .i64 (Int.tmod x7_2 16), .int .i64 0, .int .i64 ((rd_T71 l0 x7_2).f0), .int .i64 ((rd_T71 l0 x7_2).f1), .int .i64 ((rd_T71 l0 x7_2).f2), .int .u64 ((rd_T71 l0 x7_2).f3), .int .i64 0, .int .i64 0]) ?_ 2 _ rfl; (with_reducible repeat (first | refine blk_drewN ?_ _ | refine blk_drew ?_ | refine blk_alloc ?_ _)); exact BK150.out) hg (Kd.R_away HO_6.out (fun _ hk => hk))); have n1_ := Aside0.mk (hb); have n2_ := Aside0.mk (ho); clear BK150; clear HB; clear HO_6; have BK150 := n0_; have HB := n1_; have HO173 := n2_; clear n0_ n1_ n2_; clear ho hb hg hat))
                            go_roundg kj12
                            case measure => have := HK1.out; have := HK2.out; have := HJ12.out; omega
                            case rel => exact ⟨(y171), ((wrap64 (x7_2 + 1))), (by first | rfl | (simp; done) | (simp [*]; done)), (by first | exact H' | (rw [hji17]; exact H')), ⟨by have := HK1.out; have := HK2.out; have := HJ12.out; omega⟩, ⟨by (with_reducible repeat (first | apply Kd.R_alloc | apply Kd.R_drewN | apply Kd.R_drew)); exact Kd.R_mono HO173.out (fun _ hk => trivial)⟩, ⟨by repeat (first | (with_reducible first | exact HB.out | apply below_alloc | apply pw_below_drewN | apply below_drew1 | refine below_set ?_ GE150.out) | exact HB.out)⟩⟩
                          · rw [if_neg c57] at H
                            exact absurd H (by simp)
                  · rw [if_neg c12] at H
                    exact absurd H (by simp)
                · rw [if_neg c11] at H
                  exact absurd H (by simp)
              · rw [if_neg c10] at H
                have c10b0 : decide (x7_2 < 256) = false := decide_eq_false c10
                clear c10
                simp only [Option.some.injEq, Prod.mk.injEq] at H
                obtain ⟨rfl, rfl⟩ := H
                go_wp2
                go_ret2
                exact ⟨_, by first | rfl | (simp [errW_none, errW_some] <;> rfl) | (simp [*, errW_none, errW_some] <;> rfl), by (with_reducible repeat (first | apply Kd.R_alloc | apply Kd.R_drewN | apply Kd.R_drew)); exact HO_6.out, by repeat (first | (with_reducible first | exact HB.out | apply below_alloc | apply pw_below_drewN | apply below_drew1) | exact HB.out)⟩
  · rw [if_neg c2] at H
    have c2b0 : ((l0.length : Int) == 256) = false := beq_eq_false_iff_ne.mpr c2
    have c2b1 : ((l0.length : Int) != 256) = true := bne_iff_ne.mpr c2
    simp only [Option.some.injEq, Prod.mk.injEq] at H
    obtain ⟨rfl, rfl⟩ := H
    go_enter Try.func12, Try.ntmps12
    go_wp2
    go_ret2
    exact ⟨_, by first | rfl | (simp [errW_none, errW_some] <;> rfl) | (simp [*, errW_none, errW_some] <;> rfl), by first | exact Kd.R_nil _ _ _ _ _ | exact Kd.N_nil _ _ _ _ _ | exact Kd.V_nil _ _ _ _ _ | exact Kd.Q_nil _ _ _ _ _ | exact Kd.S_nil _ _ _ _ _, by repeat (first | (with_reducible first | exact HB.out | apply below_alloc | apply pw_below_drewN | apply below_drew1) | exact HB.out)⟩
end Go.Proofs.Ytgmbjgddelcceaa.P
