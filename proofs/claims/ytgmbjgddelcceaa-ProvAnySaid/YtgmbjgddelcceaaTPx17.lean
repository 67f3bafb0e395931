import Derived.Test.YtgmbjgddelcceaaTPx0
namespace Go.Proofs.Ytgmbjgddelcceaa.P
open Go.RowKit Go.Proofs.YtgmbjgddelcceaaW.PrintWords Go.Proofs.YtgmbjgddelcceaaW.PrintLast Go.Proofs.YtgmbjgddelcceaaW.PrintMore
attribute [local go_sem] max2_int min2_int max_two min_two max_three min_three max_four min_four   -- for this text's walks alone
set_option linter.unusedVariables false
set_option linter.unusedSimpArgs false
def prov_Count.l0 : Nat → Int → Int → List (S80) → Int → Int → Option (Int)
  | 0, _, _, _, _, _ => none
  | k + 1, x1, x5, x8, x9, x10 => if x10 < x9 then (if 0 ≤ x10 then (if x10 < (x8.length : Int) then (if ((rd_T80 x8 x10).f3.f0) = x1 then (prov_Count.l0 k x1 (wrap64 (x5 + (wrap64 (((rd_T80 x8 x10).f2) - ((rd_T80 x8 x10).f1))))) x8 x9 (wrap64 (x10 + 1))) else (prov_Count.l0 k x1 x5 x8 x9 (wrap64 (x10 + 1)))) else (none)) else (none)) else (some x5)
def prov_Count.f (k : Nat) (l0 : List (S80)) (a1 : Int) : Option (Int) := prov_Count.l0 k a1 0 l0 (l0.length : Int) 0
set_option maxHeartbeats 8000000 in
set_option maxRecDepth 100000 in
theorem prov_Count.calls (k : Nat) (A0 : Option Addr) (c0 : Nat) (l0 : List (S80)) (a1 : Int) (r : Int) (w : World) (hr0 : Kd.C k80 w A0 l0.length l0) (hc0 : l0.length ≤ c0) (h : prov_Count.f k l0 a1 = some r) :
    Calls Try.prog 34 #[.slice A0 l0.length c0, .int .i64 a1] w fun e w' => e = .returned (.int .i64 r) ∧ Below w.heap.size w w' := by
  have hu80 := Try.underlying80
  have HR0 := Aside0.mk hr0
  have HC0 := Aside0.mk hc0
  clear hr0 hc0
  have HB := Aside0.mk (Below.refl w.heap.size w)
  have H : (prov_Count.l0 k a1 0 l0 (l0.length : Int) 0) = some r := h
  clear h
  have H' := Aside0.mk H
  clear H
  go_enter Try.func34, Try.ntmps34
  go_wp2
  go_loopg [5, 10] k (fun kq v5 v10 w' => ∃ (x5_1 : Int) (x10_1 : Int), v5 = .int .i64 x5_1 ∧ v10 = .int .i64 x10_1 ∧ Aside0 (prov_Count.l0 kq a1 x5_1 l0 (l0.length : Int) x10_1 = some r) ∧ Aside0 (kq ≤ k) ∧ Aside0 (Below w.heap.size w w'))
  case atStart => exact ⟨(0), (0), (by first | rfl | (simp; done) | (simp [*]; done)), (by first | rfl | (simp; done) | (simp [*]; done)), H', ⟨Nat.le_refl _⟩, ⟨by repeat (first | (with_reducible first | exact HB.out | apply below_alloc | apply pw_below_drewN | apply below_drew1) | exact HB.out)⟩⟩
  case round =>
    clear H'
    try clear p2
    obtain ⟨x5_1, x10_1, rfl, rfl, HA, HK1, HB⟩ := hrel
    cases gk with
    | zero => exact absurd HA.out (by simp [prov_Count.l0])
    | succ k1 =>
      have H := HA.out
      clear HA
      simp only [prov_Count.l0] at H
      by_cases c3 : x10_1 < (l0.length : Int)
      · rw [if_pos c3] at H
        have c3b0 : decide (x10_1 < (l0.length : Int)) = true := decide_eq_true c3
        clear c3
        by_cases c4 : 0 ≤ x10_1
        · rw [if_pos c4] at H
          have c4b0 : decide (0 ≤ x10_1) = true := decide_eq_true c4
          clear c4
          by_cases c5 : x10_1 < (l0.length : Int)
          · rw [if_pos c5] at H
            have c5b0 : decide (x10_1 < (l0.length : Int)) = true := decide_eq_true c5
            clear c5
            by_cases c6 : ((rd_T80 l0 x10_1).f3.f0) = a1
            · rw [if_pos c6] at H
              have c6b0 : (((rd_T80 l0 x10_1).f3.f0) == a1) = true := beq_iff_eq.mpr c6
              have c6b1 : (((rd_T80 l0 x10_1).f3.f0) != a1) = false := bne_eq_false_iff_eq.mpr c6
              clear c6
              have H' := Aside0.mk H
              clear H
              have p573 : 0 ≤ (x10_1 : Int) := of_decide_eq_true (by first | (with_reducible assumption) | assumption)
              have q573 : x10_1 < (l0.length : Int) := of_decide_eq_true (by first | (with_reducible assumption) | assumption)
              obtain ⟨ad573, e573, hx573_0, hx573_1, hx573_2, hx573_3, hx573_4, hx573_5, hx573_6, hx573_7, hx573_8⟩ := at_T80 HR0.out x10_1 p573 q573
              cases e573
              replace hx573_0 := (HB.out.cell (World.block_lt_of_cell? w _ hx573_0)).trans hx573_0
              replace hx573_1 := (HB.out.cell (World.block_lt_of_cell? w _ hx573_1)).trans hx573_1
              replace hx573_2 := (HB.out.cell (World.block_lt_of_cell? w _ hx573_2)).trans hx573_2
              replace hx573_3 := (HB.out.cell (World.block_lt_of_cell? w _ hx573_3)).trans hx573_3
              replace hx573_4 := (HB.out.cell (World.block_lt_of_cell? w _ hx573_4)).trans hx573_4
              replace hx573_5 := (HB.out.cell (World.block_lt_of_cell? w _ hx573_5)).trans hx573_5
              replace hx573_6 := (HB.out.cell (World.block_lt_of_cell? w _ hx573_6)).trans hx573_6
              replace hx573_7 := (HB.out.cell (World.block_lt_of_cell? w _ hx573_7)).trans hx573_7
              replace hx573_8 := (HB.out.cell (World.block_lt_of_cell? w _ hx573_8)).trans hx573_8
              replace p573 := eq_true p573
              replace q573 := eq_true q573
              go_wp2_with (first | ((with_reducible refine gate_dst (N := 7) rfl ?_); refine box_event ?hg (N := 7) ?hd (cs := #[.int .i64 0, .int .i64 0, .int .i64 0, .int .i64 0, .int .i64 0, .int .i64 0, .int .u64 0, .int .i64 0, .int .i64 0]) (t := 80) ?hr ?_; (case hd => rfl); (case hg => rfl); (case hr => first | (go_simp; done) | (go_simp; rfl)); intro gb574 hg w7 hbox hb; have n0_ := Aside0.mk (below_step (by repeat (first | (with_reducible first | exact HB.out | apply below_alloc | apply pw_below_drewN | apply below_drew1) | exact HB.out)) hb); have n1_ := Aside0.mk (hbox); have n2_ := Aside0.mk ((by rw [hg]; exact (below_size (by repeat (first | (with_reducible first | exact HB.out | apply below_alloc | apply pw_below_drewN | apply below_drew1) | exact HB.out))) : w.heap.size ≤ gb574)); have n3_ := Aside0.mk ((by rw [hg]; exact (below_size (by repeat (first | (with_reducible first | exact HB.out | apply below_alloc | apply pw_below_drewN | apply below_drew1) | exact HB.out))) : w.heap.size ≤ gb574)); clear HB; have HB := n0_; have BK574 := n1_; have GW574 := n2_; have GE574 := n3_; clear n0_ n1_ n2_ n3_; clear hb hbox hg; have hcz8_0 : w7.cell? ⟨gb574, 0, none⟩ = some (.int .i64 0) := (blk_cell BK574.out 0).trans rfl; have hcz8_1 : w7.cell? ⟨gb574, 1, none⟩ = some (.int .i64 0) := (blk_cell BK574.out 1).trans rfl; have hcz8_2 : w7.cell? ⟨gb574, 2, none⟩ = some (.int .i64 0) := (blk_cell BK574.out 2).trans rfl; have hcz8_3 : w7.cell? ⟨gb574, 3, none⟩ = some (.int .i64 0) := (blk_cell BK574.out 3).trans rfl; have hcz8_4 : w7.cell? ⟨gb574, 4, none⟩ = some (.int .i64 0) := (blk_cell BK574.out 4).trans rfl; have hcz8_5 : w7.cell? ⟨gb574, 5, none⟩ = some (.int .i64 0) := (blk_cell BK574.out 5).trans rfl; have hcz8_6 : w7.cell? ⟨gb574, 6, none⟩ = some (.int .u64 0) := (blk_cell BK574.out 6).trans rfl; have hcz8_7 : w7.cell? ⟨gb574, 7, none⟩ = some (.int .i64 0) := (blk_cell BK574.out 7).trans rfl; have hcz8_8 : w7.cell? ⟨gb574, 8, none⟩ = some (.int .i64 0) := (blk_cell BK574.out 8).trans rfl; have hfz8_0 := blk_frozen BK574.out 0; have hfz8_1 := blk_frozen BK574.out 1; have hfz8_2 := blk_frozen BK574.out 2; have hfz8_3 := blk_frozen BK574.out 3; have hfz8_4 := blk_frozen BK574.out 4; have hfz8_5 := blk_frozen BK574.out 5; have hfz8_6 := blk_frozen BK574.out 6; have hfz8_7 := blk_frozen BK574.out 7; have hfz8_8 := blk_frozen BK574.out 8))
              go_roundg k1
              case measure => have := HK1.out; omega
              case rel => exact ⟨(wrap64 (x5_1 + (wrap64 (((rd_T80 l0 x10_1).f2) - ((rd_T80 l0 x10_1).f1))))), (wrap64 (x10_1 + 1)), (by first | rfl | (simp; done) | (simp [*]; done)), (by first | rfl | (simp; done) | (simp [*]; done)), H', ⟨by have := HK1.out; omega⟩, ⟨by repeat (first | (with_reducible first | exact HB.out | apply below_alloc | apply pw_below_drewN | apply below_drew1 | refine below_set ?_ GE574.out) | exact HB.out)⟩⟩
            · rw [if_neg c6] at H
              have c6b0 : (((rd_T80 l0 x10_1).f3.f0) == a1) = false := beq_eq_false_iff_ne.mpr c6
              have c6b1 : (((rd_T80 l0 x10_1).f3.f0) != a1) = true := bne_iff_ne.mpr c6
              have H' := Aside0.mk H
              clear H
              have p573 : 0 ≤ (x10_1 : Int) := of_decide_eq_true (by first | (with_reducible assumption) | assumption)
              have q573 : x10_1 < (l0.length : Int) := of_decide_eq_true (by first | (with_reducible assumption) | assumption)
              obtain ⟨ad573, e573, hx573_0, hx573_1, hx573_2, hx573_3, hx573_4, hx573_5, hx573_6, hx573_7, hx573_8⟩ := at_T80 HR0.out x10_1 p573 q573
              cases e573
              replace hx573_0 := (HB.out.cell (World.block_lt_of_cell? w _ hx573_0)).trans hx573_0
              replace hx573_1 := (HB.out.cell (World.block_lt_of_cell? w _ hx573_1)).trans hx573_1
              replace hx573_2 := (HB.out.cell (World.block_lt_of_cell? w _ hx573_2)).trans hx573_2
              replace hx573_3 := (HB.out.cell (World.block_lt_of_cell? w _ hx573_3)).trans hx573_3
              replace hx573_4 := (HB.out.cell (World.block_lt_of_cell? w _ hx573_4)).trans hx573_4
              replace hx573_5 := (HB.out.cell (World.block_lt_of_cell? w _ hx573_5)).trans hx573_5
              replace hx573_6 := (HB.out.cell (World.block_lt_of_cell? w _ hx573_6)).trans hx573_6
              replace hx573_7 := (HB.out.cell (World.block_lt_of_cell? w _ hx573_7)).trans hx573_7
              replace hx573_8 := (HB.out.cell (World.block_lt_of_cell? w _ hx573_8)).trans hx573_8
              replace p573 := eq_true p573
              replace q573 := eq_true q573
              go_wp2_with (first | ((with_reducible refine gate_dst (N := 7) rfl ?_); refine box_event ?hg (N := 7) ?hd (cs := #[.int .i64 0, .int .i64 0, .int .i64 0, .int .i64 0, .int .i64 0, .int .i64 0, .int .u64 0, .int .i64 0, .int .i64 0]) (t := 80) ?hr ?_; (case hd => rfl); (case hg => rfl); (case hr => first | (go_simp; done) | (go_simp; rfl)); intro gb574 hg w9 hbox hb; have n0_ := Aside0.mk (below_step (by repeat (first | (with_reducible first | exact HB.out | apply below_alloc | apply pw_below_drewN | apply below_drew1) | exact HB.out)) hb); have n1_ := Aside0.mk (hbox); have n2_ := Aside0.mk ((by rw [hg]; exact (below_size (by repeat (first | (with_reducible first | exact HB.out | apply below_alloc | apply pw_below_drewN | apply below_drew1) | exact HB.out))) : w.heap.size ≤ gb574)); have n3_ := Aside0.mk ((by rw [hg]; exact (below_size (by repeat (first | (with_reducible first | exact HB.out | apply below_alloc | apply pw_below_drewN | apply below_drew1) | exact HB.out))) : w.heap.size ≤ gb574)); clear HB; have HB := n0_; have BK574 := n1_; have GW574 := n2_; have GE574 := n3_; clear n0_ n1_ n2_ n3_; clear hb hbox hg; have hcz10_0 : w9.cell? ⟨gb574, 0, none⟩ = some (.int .i64 0) := (blk_cell BK574.out 0).trans rfl; have hcz10_1 : w9.cell? ⟨gb574, 1, none⟩ = some (.int .i64 0) := (blk_cell BK574.out 1).trans rfl; have hcz10_2 : w9.cell? ⟨gb574, 2, none⟩ = some (.int .i64 0) := (blk_cell BK574.out 2).trans rfl; have hcz10_3 : w9.cell? ⟨gb574, 3, none⟩ = some (.int .i64 0) := (blk_cell BK574.out 3).trans rfl; have hcz10_4 : w9.cell? ⟨gb574, 4, none⟩ = some (.int .i64 0) := (blk_cell BK574.out 4).trans rfl; have hcz10_5 : w9.cell? ⟨gb574, 5, none⟩ = some (.int .i64 0) := (blk_cell BK574.out 5).trans rfl; have hcz10_6 : w9.cell? ⟨gb574, 6, none⟩ = some (.int .u64 0) := (blk_cell BK574.out 6).trans rfl; have hcz10_7 : w9.cell? ⟨gb574, 7, none⟩ = some (.int .i64 0) := (blk_cell BK574.out 7).trans rfl; have hcz10_8 : w9.cell? ⟨gb574, 8, none⟩ = some (.int .i64 0) := (blk_cell BK574.out 8).trans rfl; have hfz10_0 := blk_frozen BK574.out 0; have hfz10_1 := blk_frozen BK574.out 1; have hfz10_2 := blk_frozen BK574.out 2; have hfz10_3 := blk_frozen BK574.out 3; have hfz10_4 := blk_frozen BK574.out 4; have hfz10_5 := blk_frozen BK574.out 5; have hfz10_6 := blk_frozen BK574.out 6; have hfz10_7 := blk_frozen BK574.out 7; have hfz10_8 := blk_frozen BK574.out 8))
              go_roundg k1
              case measure => have := HK1.out; omega
              case rel => exact ⟨(x5_1), (wrap64 (x10_1 + 1)), (by first | rfl | (simp; done) | (simp [*]; done)), (by first | rfl | (simp; done) | (simp [*]; done)), H', ⟨by have := HK1.out; omega⟩, ⟨by repeat (first | (with_reducible first | exact HB.out | apply below_alloc | apply pw_below_drewN | apply below_drew1 | refine below_set ?_ GE574.out) | exact HB.out)⟩⟩
          · rw [if_neg c5] at H
            exact absurd H (by simp)
        · rw [if_neg c4] at H
          exact absurd H (by simp)
      · rw [if_neg c3] at H
        have c3b0 : decide (x10_1 < (l0.length : Int)) = false := decide_eq_false c3
        clear c3
        obtain rfl := Option.some.inj H
        go_wp2
        go_ret
        exact ⟨by first | rfl | (simp [errW_none, errW_some] <;> rfl) | (simp [*, errW_none, errW_some] <;> rfl), by repeat (first | (with_reducible first | exact HB.out | apply below_alloc | apply pw_below_drewN | apply below_drew1) | exact HB.out)⟩
def skymosaicref01_Has.l0 : Nat → List Int → Int → Int → Option (Bool)
  | 0, _, _, _ => none
  | k + 1, x0, x1, x5 => if x5 < (x0.length : Int) then (if 0 ≤ x5 then (if (rd x0 x5) = x1 then (some true) else (skymosaicref01_Has.l0 k x0 x1 (wrap64 (x5 + 1)))) else (none)) else (some false)
def skymosaicref01_Has.f (k : Nat) (l0 : List Int) (a1 : Int) : Option (Bool) := skymosaicref01_Has.l0 k l0 a1 0
set_option maxHeartbeats 8000000 in
set_option maxRecDepth 100000 in
theorem skymosaicref01_Has.calls (k : Nat) (A0 : Option Addr) (c0 : Nat) (l0 : List Int) (a1 : Int) (r : Bool) (w : World) (hr0 : Kd.C (Kd.int .i64) w A0 l0.length l0) (hc0 : l0.length ≤ c0) (h : skymosaicref01_Has.f k l0 a1 = some r) :
    Calls Try.prog 35 #[.slice A0 l0.length c0, .int .i64 a1] w fun e w' => e = .returned (.bool r) ∧ Drawn0 w w' := by
  have HR0 := Aside0.mk hr0
  have HC0 := Aside0.mk hc0
  clear hr0 hc0
  have H : (skymosaicref01_Has.l0 k l0 a1 0) = some r := h
  clear h
  have H' := Aside0.mk H
  clear H
  go_enter Try.func35, Try.ntmps35
  go_wp2
  go_loopg [5] k (fun kq v5 w' => ∃ (x5_1 : Int), v5 = .int .i64 x5_1 ∧ Aside0 (skymosaicref01_Has.l0 kq l0 a1 x5_1 = some r) ∧ Aside0 (kq ≤ k) ∧ Drawn0 w w')
  case atStart => exact ⟨(0), (by first | rfl | (simp; done) | (simp [*]; done)), H', ⟨Nat.le_refl _⟩, by repeat (first | exact Drawn0.refl _ | apply Drawn0.step)⟩
  case round =>
    clear H'
    try clear p2
    obtain ⟨x5_1, rfl, HA, HK1, ⟨m1, rfl⟩⟩ := hrel
    cases gk with
    | zero => exact absurd HA.out (by simp [skymosaicref01_Has.l0])
    | succ k1 =>
      have H := HA.out
      clear HA
      simp only [skymosaicref01_Has.l0] at H
      by_cases c3 : x5_1 < (l0.length : Int)
      · rw [if_pos c3] at H
        have c3b0 : decide (x5_1 < (l0.length : Int)) = true := decide_eq_true c3
        clear c3
        by_cases c4 : 0 ≤ x5_1
        · rw [if_pos c4] at H
          have c4b0 : decide (0 ≤ x5_1) = true := decide_eq_true c4
          clear c4
          by_cases c5 : (rd l0 x5_1) = a1
          · rw [if_pos c5] at H
            have c5b0 : ((rd l0 x5_1) == a1) = true := beq_iff_eq.mpr c5
            have c5b1 : ((rd l0 x5_1) != a1) = false := bne_eq_false_iff_eq.mpr c5
            clear c5
            obtain rfl := Option.some.inj H
            have p575 : 0 ≤ (x5_1 : Int) := of_decide_eq_true (by first | (with_reducible assumption) | assumption)
            have q575 : x5_1 < (l0.length : Int) := of_decide_eq_true (by first | (with_reducible assumption) | assumption)
            obtain ⟨ad575, e575, hx575_0⟩ := Kd.at_int HR0.out x5_1 p575 q575
            cases e575
            replace p575 := eq_true p575
            replace q575 := eq_true q575
            go_wp2
            go_ret
            exact ⟨by first | rfl | (simp; done) | (simp [*]; done), by repeat (first | exact Drawn0.refl _ | apply Drawn0.step)⟩
          · rw [if_neg c5] at H
            have c5b0 : ((rd l0 x5_1) == a1) = false := beq_eq_false_iff_ne.mpr c5
            have c5b1 : ((rd l0 x5_1) != a1) = true := bne_iff_ne.mpr c5
            have H' := Aside0.mk H
            clear H
            have p575 : 0 ≤ (x5_1 : Int) := of_decide_eq_true (by first | (with_reducible assumption) | assumption)
            have q575 : x5_1 < (l0.length : Int) := of_decide_eq_true (by first | (with_reducible assumption) | assumption)
            obtain ⟨ad575, e575, hx575_0⟩ := Kd.at_int HR0.out x5_1 p575 q575
            cases e575
            replace p575 := eq_true p575
            replace q575 := eq_true q575
            go_wp2
            go_roundg k1
            case measure => have := HK1.out; omega
            case rel => exact ⟨(wrap64 (x5_1 + 1)), (by first | rfl | (simp; done) | (simp [*]; done)), H', ⟨by have := HK1.out; omega⟩, by repeat (first | exact Drawn0.refl _ | apply Drawn0.step)⟩
        · rw [if_neg c4] at H
          exact absurd H (by simp)
      · rw [if_neg c3] at H
        have c3b0 : decide (x5_1 < (l0.length : Int)) = false := decide_eq_false c3
        clear c3
        obtain rfl := Option.some.inj H
        go_wp2
        go_ret
        exact ⟨by first | rfl | (simp; done) | (simp [*]; done), by repeat (first | exact Drawn0.refl _ | apply Drawn0.step)⟩
end Go.Proofs.Ytgmbjgddelcceaa.P
