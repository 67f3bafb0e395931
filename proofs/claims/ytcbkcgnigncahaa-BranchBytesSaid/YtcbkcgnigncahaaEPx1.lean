import Derived.Test.YtcbkcgnigncahaaEPx0
namespace Go.Proofs.Ytcbkcgnigncahaa.P
open Go.RowKit Go.Proofs.YtcbkcgnigncahaaW.PrintWords Go.Proofs.YtcbkcgnigncahaaW.PrintLast Go.Proofs.YtcbkcgnigncahaaW.PrintMore
attribute [local go_sem] max2_int min2_int max_two min_two max_three min_three max_four min_four   -- for this text's walks alone
set_option linter.unusedVariables false
set_option linter.unusedSimpArgs false
def skymosaicref01_Around.f (a0 : Int) (a1 : Int) : Option (Int) := if a0 < 0 then (if a1 = 0 then (none) else (some (Int.tmod (wrap64 (-(wrap64 (a0 + 1)))) a1))) else (if a1 = 0 then (none) else (some (Int.tmod a0 a1)))
set_option maxHeartbeats 8000000 in
set_option maxRecDepth 100000 in
theorem skymosaicref01_Around.calls (a0 : Int) (a1 : Int) (r : Int) (w : World) (h : skymosaicref01_Around.f a0 a1 = some r) :
    Calls Try.prog 10 #[.int .i64 a0, .int .i64 a1] w fun e w' => e = .returned (.int .i64 r) ∧ Drawn0 w w' := by
  have H : (if a0 < 0 then (if a1 = 0 then (none) else (some (Int.tmod (wrap64 (-(wrap64 (a0 + 1)))) a1))) else (if a1 = 0 then (none) else (some (Int.tmod a0 a1)))) = some r := h
  clear h
  by_cases c3 : a0 < 0
  · rw [if_pos c3] at H
    have c3b0 : decide (a0 < 0) = true := decide_eq_true c3
    clear c3
    by_cases c4 : a1 = 0
    · rw [if_pos c4] at H
      exact absurd H (by simp)
    · rw [if_neg c4] at H
      have c4b0 : (a1 == 0) = false := beq_eq_false_iff_ne.mpr c4
      have c4b1 : (a1 != 0) = true := bne_iff_ne.mpr c4
      obtain rfl := Option.some.inj H
      go_enter Try.func10, Try.ntmps10
      go_wp2
      go_ret
      exact ⟨by first | rfl | (simp; done) | (simp [*]; done), by repeat (first | exact Drawn0.refl _ | apply Drawn0.step)⟩
  · rw [if_neg c3] at H
    have c3b0 : decide (a0 < 0) = false := decide_eq_false c3
    clear c3
    by_cases c5 : a1 = 0
    · rw [if_pos c5] at H
      exact absurd H (by simp)
    · rw [if_neg c5] at H
      have c5b0 : (a1 == 0) = false := beq_eq_false_iff_ne.mpr c5
      have c5b1 : (a1 != 0) = true := bne_iff_ne.mpr c5
      obtain rfl := Option.some.inj H
      go_enter Try.func10, Try.ntmps10
      go_wp2
      go_ret
      exact ⟨by first | rfl | (simp; done) | (simp [*]; done), by repeat (first | exact Drawn0.refl _ | apply Drawn0.step)⟩
def branch_line_first.f (a0_0 : Int) (a0_1 : Int) : Option (Int) := if a0_1 ≥ 0 then (some a0_1) else (some a0_0)
set_option maxHeartbeats 8000000 in
set_option maxRecDepth 100000 in
theorem branch_line_first.calls (a0_0 : Int) (a0_1 : Int) (r : Int) (w : World) (h : branch_line_first.f a0_0 a0_1 = some r) :
    Calls Try.prog 42 #[.agg #[.int .i64 a0_0, .int .i64 a0_1]] w fun e w' => e = .returned (.int .i64 r) ∧ Below w.heap.size w w' := by
  have hu80 := Try.underlying80
  have HB := Aside0.mk (Below.refl w.heap.size w)
  have H : (if a0_1 ≥ 0 then (some a0_1) else (some a0_0)) = some r := h
  clear h
  by_cases c2 : a0_1 ≥ 0
  · rw [if_pos c2] at H
    have c2b0 : decide (0 ≤ a0_1) = true := decide_eq_true c2
    clear c2
    obtain rfl := Option.some.inj H
    go_enter Try.func42, Try.ntmps42
    go_wp2_with (first | ((with_reducible refine gate_dst (N := 1) rfl ?_); refine box_event ?hg (N := 1) ?hd (cs := #[.int .i64 a0_0, .int .i64 a0_1]) (t := 80) ?hr ?_; (case hd => rfl); (case hg => rfl); (case hr => first | (go_simp; done) | (go_simp; rfl)); intro gb101 hg w3 hbox hb; have n0_ := Aside0.mk (below_step (by repeat (first | (with_reducible first | exact HB.out | apply below_alloc | apply pw_below_drewN | apply below_drew1) | exact HB.out)) hb); have n1_ := Aside0.mk (hbox); have n2_ := Aside0.mk ((by rw [hg]; exact (below_size (by repeat (first | (with_reducible first | exact HB.out | apply below_alloc | apply pw_below_drewN | apply below_drew1) | exact HB.out))) : w.heap.size ≤ gb101)); have n3_ := Aside0.mk ((by rw [hg]; exact (below_size (by repeat (first | (with_reducible first | exact HB.out | apply below_alloc | apply pw_below_drewN | apply below_drew1) | exact HB.out))) : w.heap.size ≤ gb101)); clear HB; have HB := n0_; have BK101 := n1_; have GW101 := n2_; have GE101 := n3_; clear n0_ n1_ n2_ n3_; clear hb hbox hg; have hcz4_0 : w3.cell? ⟨gb101, 0, none⟩ = some (.int .i64 a0_0) := (blk_cell BK101.out 0).trans rfl; have hcz4_1 : w3.cell? ⟨gb101, 1, none⟩ = some (.int .i64 a0_1) := (blk_cell BK101.out 1).trans rfl; have hfz4_0 := blk_frozen BK101.out 0; have hfz4_1 := blk_frozen BK101.out 1))
    go_ret
    exact ⟨by first | rfl | (simp [errW_none, errW_some] <;> rfl) | (simp [*, errW_none, errW_some] <;> rfl), by repeat (first | (with_reducible first | exact HB.out | apply below_alloc | apply pw_below_drewN | apply below_drew1 | refine below_set ?_ GE101.out) | exact HB.out)⟩
  · rw [if_neg c2] at H
    have c2b0 : decide (0 ≤ a0_1) = false := decide_eq_false c2
    clear c2
    obtain rfl := Option.some.inj H
    go_enter Try.func42, Try.ntmps42
    go_wp2_with (first | ((with_reducible refine gate_dst (N := 1) rfl ?_); refine box_event ?hg (N := 1) ?hd (cs := #[.int .i64 a0_0, .int .i64 a0_1]) (t := 80) ?hr ?_; (case hd => rfl); (case hg => rfl); (case hr => first | (go_simp; done) | (go_simp; rfl)); intro gb101 hg w5 hbox hb; have n0_ := Aside0.mk (below_step (by repeat (first | (with_reducible first | exact HB.out | apply below_alloc | apply pw_below_drewN | apply below_drew1) | exact HB.out)) hb); have n1_ := Aside0.mk (hbox); have n2_ := Aside0.mk ((by rw [hg]; exact (below_size (by repeat (first | (with_reducible first | exact HB.out | apply below_alloc | apply pw_below_drewN | apply below_drew1) | exact HB.out))) : w.heap.size ≤ gb101)); have n3_ := Aside0.mk ((by rw [hg]; exact (below_size (by repeat (first | (with_reducible first | exact HB.out | apply below_alloc | apply pw_below_drewN | apply below_drew1) | exact HB.out))) : w.heap.size ≤ gb101)); clear HB; have HB := n0_; have BK101 := n1_; have GW101 := n2_; have GE101 := n3_; clear n0_ n1_ n2_ n3_; clear hb hbox hg; have hcz6_0 : w5.cell? ⟨gb101, 0, none⟩ = some (.int .i64 a0_0) := (blk_cell BK101.out 0).trans rfl; have hcz6_1 : w5.cell? ⟨gb101, 1, none⟩ = some (.int .i64 a0_1) := (blk_cell BK101.out 1).trans rfl; have hfz6_0 := blk_frozen BK101.out 0; have hfz6_1 := blk_frozen BK101.out 1))
    go_ret
    exact ⟨by first | rfl | (simp [errW_none, errW_some] <;> rfl) | (simp [*, errW_none, errW_some] <;> rfl), by repeat (first | (with_reducible first | exact HB.out | apply below_alloc | apply pw_below_drewN | apply below_drew1 | refine below_set ?_ GE101.out) | exact HB.out)⟩
def skymosaicref31_Name.f (a0 : Int) : Option (ByteArray) := (some (([(⟨#[109, 97, 105, 110]⟩ : ByteArray), (⟨#[97]⟩ : ByteArray), (⟨#[98, 45, 50]⟩ : ByteArray), (⟨#[109, 97, 105, 110]⟩ : ByteArray), (⟨#[97]⟩ : ByteArray), (⟨#[122, 57]⟩ : ByteArray), (⟨#[98, 45, 50]⟩ : ByteArray), (⟨#[109, 97, 105, 110]⟩ : ByteArray), (⟨#[65]⟩ : ByteArray), (⟨#[]⟩ : ByteArray), (⟨#[45, 97]⟩ : ByteArray), (⟨#[97, 50, 51, 52, 53, 54, 55, 56, 57, 48, 49, 50, 51, 52, 53, 54]⟩ : ByteArray), (⟨#[97, 50, 51, 52, 53, 54, 55, 56, 57, 48, 49, 50, 51, 52, 53, 54, 55]⟩ : ByteArray), (⟨#[109, 95, 110]⟩ : ByteArray)] : List ByteArray) : List ByteArray)).bind fun y102 => ((skymosaicref01_Around.f a0 14).bind fun t105 => (if 0 ≤ t105 then (if t105 < (y102.length : Int) then (some (rdOf ByteArray.empty y102 t105)) else (none)) else (none)))
set_option maxHeartbeats 8000000 in
set_option maxRecDepth 100000 in
theorem skymosaicref31_Name.calls (a0 : Int) (r : ByteArray) (w : World) (h : skymosaicref31_Name.f a0 = some r) :
    Calls Try.prog 24 #[.int .i64 a0] w fun e w' => e = .returned (.string r) ∧ Below w.heap.size w w' := by
  have HB := Aside0.mk (Below.refl w.heap.size w)
  have H : ((some (([(⟨#[109, 97, 105, 110]⟩ : ByteArray), (⟨#[97]⟩ : ByteArray), (⟨#[98, 45, 50]⟩ : ByteArray), (⟨#[109, 97, 105, 110]⟩ : ByteArray), (⟨#[97]⟩ : ByteArray), (⟨#[122, 57]⟩ : ByteArray), (⟨#[98, 45, 50]⟩ : ByteArray), (⟨#[109, 97, 105, 110]⟩ : ByteArray), (⟨#[65]⟩ : ByteArray), (⟨#[]⟩ : ByteArray), (⟨#[45, 97]⟩ : ByteArray), (⟨#[97, 50, 51, 52, 53, 54, 55, 56, 57, 48, 49, 50, 51, 52, 53, 54]⟩ : ByteArray), (⟨#[97, 50, 51, 52, 53, 54, 55, 56, 57, 48, 49, 50, 51, 52, 53, 54, 55]⟩ : ByteArray), (⟨#[109, 95, 110]⟩ : ByteArray)] : List ByteArray) : List ByteArray)).bind fun y102 => ((skymosaicref01_Around.f a0 14).bind fun t105 => (if 0 ≤ t105 then (if t105 < (y102.length : Int) then (some (rdOf ByteArray.empty y102 t105)) else (none)) else (none)))) = some r := h
  clear h
  obtain ⟨y102, hy102⟩ : ∃ y_ : List ByteArray, y_ = (([(⟨#[109, 97, 105, 110]⟩ : ByteArray), (⟨#[97]⟩ : ByteArray), (⟨#[98, 45, 50]⟩ : ByteArray), (⟨#[109, 97, 105, 110]⟩ : ByteArray), (⟨#[97]⟩ : ByteArray), (⟨#[122, 57]⟩ : ByteArray), (⟨#[98, 45, 50]⟩ : ByteArray), (⟨#[109, 97, 105, 110]⟩ : ByteArray), (⟨#[65]⟩ : ByteArray), (⟨#[]⟩ : ByteArray), (⟨#[45, 97]⟩ : ByteArray), (⟨#[97, 50, 51, 52, 53, 54, 55, 56, 57, 48, 49, 50, 51, 52, 53, 54]⟩ : ByteArray), (⟨#[97, 50, 51, 52, 53, 54, 55, 56, 57, 48, 49, 50, 51, 52, 53, 54, 55]⟩ : ByteArray), (⟨#[109, 95, 110]⟩ : ByteArray)] : List ByteArray)) := ⟨_, rfl⟩
  replace H : ((skymosaicref01_Around.f a0 14).bind fun t105 => (if 0 ≤ t105 then (if t105 < (y102.length : Int) then (some (rdOf ByteArray.empty y102 t105)) else (none)) else (none))) = some r := by first | (rw [hy102]; with_reducible exact H) | (have H2_ := (Option.bind_some _ _).symm.trans H; rw [hy102]; with_reducible exact H2_) | (have H2_ := (Option.bind_some _ _).symm.trans H; with_reducible exact H2_) | with_reducible exact H | (rw [hy102]; exact H) | exact H
  have Ny102 := Aside0.mk hy102
  clear hy102
  replace H := Option.bind_eq_some_iff.mp H
  obtain ⟨t105, A20, H⟩ := H
  replace H : (if 0 ≤ t105 then (if t105 < (y102.length : Int) then (some (rdOf ByteArray.empty y102 t105)) else (none)) else (none)) = some r := H
  have A2 := Aside0.mk A20
  clear A20
  by_cases c3 : 0 ≤ t105
  · rw [if_pos c3] at H
    have c3b0 : decide (0 ≤ t105) = true := decide_eq_true c3
    clear c3
    by_cases c4 : t105 < (y102.length : Int)
    · rw [if_pos c4] at H
      have c4b0 : decide (t105 < (y102.length : Int)) = true := decide_eq_true c4
      clear c4
      obtain rfl := Option.some.inj H
      go_enter Try.func24, Try.ntmps24
      go_wp2_with (first | ((with_reducible refine gate_dst (N := 3) rfl ?_); refine Kd.R_lit Kd.string _ 9 ?hg (N := 3) ?hd (xs := ([(⟨#[109, 97, 105, 110]⟩ : ByteArray), (⟨#[97]⟩ : ByteArray), (⟨#[98, 45, 50]⟩ : ByteArray), (⟨#[109, 97, 105, 110]⟩ : ByteArray), (⟨#[97]⟩ : ByteArray), (⟨#[122, 57]⟩ : ByteArray), (⟨#[98, 45, 50]⟩ : ByteArray), (⟨#[109, 97, 105, 110]⟩ : ByteArray), (⟨#[65]⟩ : ByteArray), (⟨#[]⟩ : ByteArray), (⟨#[45, 97]⟩ : ByteArray), (⟨#[97, 50, 51, 52, 53, 54, 55, 56, 57, 48, 49, 50, 51, 52, 53, 54]⟩ : ByteArray), (⟨#[97, 50, 51, 52, 53, 54, 55, 56, 57, 48, 49, 50, 51, 52, 53, 54, 55]⟩ : ByteArray), (⟨#[109, 95, 110]⟩ : ByteArray)] : List ByteArray)) (inner := [.string (⟨#[109, 97, 105, 110]⟩ : ByteArray), .string (⟨#[97]⟩ : ByteArray), .string (⟨#[98, 45, 50]⟩ : ByteArray), .string (⟨#[109, 97, 105, 110]⟩ : ByteArray), .string (⟨#[97]⟩ : ByteArray), .string (⟨#[122, 57]⟩ : ByteArray), .string (⟨#[98, 45, 50]⟩ : ByteArray), .string (⟨#[109, 97, 105, 110]⟩ : ByteArray), .string (⟨#[65]⟩ : ByteArray), .string (⟨#[]⟩ : ByteArray), .string (⟨#[45, 97]⟩ : ByteArray), .string (⟨#[97, 50, 51, 52, 53, 54, 55, 56, 57, 48, 49, 50, 51, 52, 53, 54]⟩ : ByteArray), .string (⟨#[97, 50, 51, 52, 53, 54, 55, 56, 57, 48, 49, 50, 51, 52, 53, 54, 55]⟩ : ByteArray), .string (⟨#[109, 95, 110]⟩ : ByteArray)]) (ok := fun _ => True) (okp := fun _ => True) ?hr ?hp (fun _ hk => hk) trivial (Below.refl _ _) (Nat.le_refl _) (by simp) ?_; (case hd => rfl); (case hg => rfl); (case hr => first | (go_simp; done) | (go_simp; rfl)); (case hp => exact (Reps.one (show Kd.M Kd.string _ _ _ (⟨#[109, 97, 105, 110]⟩ : ByteArray) [.string (⟨#[109, 97, 105, 110]⟩ : ByteArray)] from rfl) (Reps.one (show Kd.M Kd.string _ _ _ (⟨#[97]⟩ : ByteArray) [.string (⟨#[97]⟩ : ByteArray)] from rfl) (Reps.one (show Kd.M Kd.string _ _ _ (⟨#[98, 45, 50]⟩ : ByteArray) [.string (⟨#[98, 45, 50]⟩ : ByteArray)] from rfl) (Reps.one (show Kd.M Kd.string _ _ _ (⟨#[109, 97, 105, 110]⟩ : ByteArray) [.string (⟨#[109, 97, 105, 110]⟩ : ByteArray)] from rfl) (Reps.one (show Kd.M Kd.string _ _ _ (⟨#[97]⟩ : ByteArray) [.string (⟨#[97]⟩ : ByteArray)] from rfl) (Reps.one (show Kd.M Kd.string _ _ _ (⟨#[122, 57]⟩ : ByteArray) [.string (⟨#[122, 57]⟩ : ByteArray)] from rfl) (Reps.one (show Kd.M Kd.string _ _ _ (⟨#[98, 45, 50]⟩ : ByteArray) [.string (⟨#[98, 45, 50]⟩ : ByteArray)] from rfl) (Reps.one (show Kd.M Kd.string _ _ _ (⟨#[109, 97, 105, 110]⟩ : ByteArray) [.string (⟨#[109, 97, 105, 110]⟩ : ByteArray)] from rfl) (Reps.one (show Kd.M Kd.string _ _ _ (⟨#[65]⟩ : ByteArray) [.string (⟨#[65]⟩ : ByteArray)] from rfl) (Reps.one (show Kd.M Kd.string _ _ _ (⟨#[]⟩ : ByteArray) [.string (⟨#[]⟩ : ByteArray)] from rfl) (Reps.one (show Kd.M Kd.string _ _ _ (⟨#[45, 97]⟩ : ByteArray) [.string (⟨#[45, 97]⟩ : ByteArray)] from rfl) (Reps.one (show Kd.M Kd.string _ _ _ (⟨#[97, 50, 51, 52, 53, 54, 55, 56, 57, 48, 49, 50, 51, 52, 53, 54]⟩ : ByteArray) [.string (⟨#[97, 50, 51, 52, 53, 54, 55, 56, 57, 48, 49, 50, 51, 52, 53, 54]⟩ : ByteArray)] from rfl) (Reps.one (show Kd.M Kd.string _ _ _ (⟨#[97, 50, 51, 52, 53, 54, 55, 56, 57, 48, 49, 50, 51, 52, 53, 54, 55]⟩ : ByteArray) [.string (⟨#[97, 50, 51, 52, 53, 54, 55, 56, 57, 48, 49, 50, 51, 52, 53, 54, 55]⟩ : ByteArray)] from rfl) (Reps.one (show Kd.M Kd.string _ _ _ (⟨#[109, 95, 110]⟩ : ByteArray) [.string (⟨#[109, 95, 110]⟩ : ByteArray)] from rfl) (Reps.none _ _)))))))))))))))); intro v103 w5 ho6 hb hg_ hnew_; clear hg_ hnew_; (first | rw [← Ny102.out] at ho6 | (simp only [Int.reduceToNat] at ho6; rw [← Ny102.out] at ho6)); have n0_ := Aside0.mk (Kd.R_lower ho6 (below_size (by repeat (first | (with_reducible first | exact HB.out | apply below_alloc | apply pw_below_drewN | apply below_drew1) | exact HB.out)))); have n1_ := Aside0.mk (below_step (by repeat (first | (with_reducible first | exact HB.out | apply below_alloc | apply pw_below_drewN | apply below_drew1) | exact HB.out)) hb); clear HB; have HO104 := n0_; have HB := n1_; clear n0_ n1_; clear hb ho6) | ((with_reducible refine gate_callee (f := 10) rfl ?_); refine goesL_ (some 5) rfl rfl Try.func10 (by kernel_rfl) rfl #[.int .i64 a0, .int .i64 14] rfl (by (try simp only [List.map_toArray, List.map_cons, List.map_nil]); first | done | rfl | (simp only [List.length_drop, List.length_take]; rfl)) ?_; (with_reducible refine (skymosaicref01_Around.calls a0 14 t105 _ A2.out).mono ?_); rintro e w' ⟨rfl, ⟨nd, rfl⟩⟩; refine ⟨_, rfl, ?_⟩; obtain ⟨Ao7, co7, eo7⟩ := Kd.R_slice HO104.out; subst eo7; have p106 : 0 ≤ (t105 : Int) := of_decide_eq_true (by first | (with_reducible assumption) | assumption); have q106 : t105 < (y102.length : Int) := of_decide_eq_true (by first | (with_reducible assumption) | assumption); obtain ⟨ad106, e106, hx106_0⟩ := Kd.at_string (Kd.R_reads' HO104.out).2.2 t105 p106 q106; cases e106; replace p106 := eq_true p106; replace q106 := eq_true q106))
      go_ret
      exact ⟨by first | rfl | (simp [errW_none, errW_some] <;> rfl) | (simp [*, errW_none, errW_some] <;> rfl), by repeat (first | (with_reducible first | exact HB.out | apply below_alloc | apply pw_below_drewN | apply below_drew1) | exact HB.out)⟩
    · rw [if_neg c4] at H
      exact absurd H (by simp)
  · rw [if_neg c3] at H
    exact absurd H (by simp)
mutual
def skymosaicref31_Script.l0 : Nat → List Int → Int → List (S38) → Int → Int → Option ((List (S38)))
  | 0, _, _, _, _, _ => none
  | k + 1, x0, x1, x5, x6, x7 => if (wrap64 (x7 + 1)) < (x0.length : Int) then (skymosaicref31_Script.j1 k x0 x1 x5 x6 x7 (decide ((x5.length : Int) < x1))) else (skymosaicref31_Script.j1 k x0 x1 x5 x6 x7 false)
def skymosaicref31_Script.j1 : Nat → List Int → Int → List (S38) → Int → Int → Bool → Option ((List (S38)))
  | 0, _, _, _, _, _, _ => none
  | k + 1, x0, x1, x5, x6, x7, x23 => if x23 = true then (if 0 ≤ x7 then (if x7 < (x0.length : Int) then ((skymosaicref01_Around.f (rd x0 x7) 1048576).bind fun t111 => (if 0 ≤ (wrap64 (x7 + 1)) then (if (wrap64 (x7 + 1)) < (x0.length : Int) then ((skymosaicref01_Around.f (rd x0 (wrap64 (x7 + 1))) 1048576).bind fun t113 => ((skymosaicref31_Name.f (wrap64 (Int.tdiv t111 16))).bind fun t114 => (if (Int.tmod t111 16) = 0 then (skymosaicref31_Script.j2 k x0 x1 x5 (wrap64 (x6 + (Int.tmod t113 3))) x7 t113 (Int.tmod t111 16) ((Int.tmod t111 16) == 0) 0 t114 (wrap64 ((Int.tmod (wrap64 (Int.tdiv t113 3)) 14) - 2)) (Int.tmod (wrap64 (Int.tdiv t113 7)) 30) (wrap64 (x6 + (Int.tmod t113 3))) (wrap64 ((Int.tmod t113 9) - 2)) (IntKind.u64.wrap (t113))) else (if (Int.tmod t111 16) = 1 then (skymosaicref31_Script.j2 k x0 x1 x5 (wrap64 (x6 + (Int.tmod t113 3))) x7 t113 (Int.tmod t111 16) ((Int.tmod t111 16) == 1) 0 t114 (wrap64 ((Int.tmod (wrap64 (Int.tdiv t113 3)) 14) - 2)) (Int.tmod (wrap64 (Int.tdiv t113 7)) 30) (wrap64 (x6 + (Int.tmod t113 3))) (wrap64 ((Int.tmod t113 9) - 2)) (IntKind.u64.wrap (t113))) else (skymosaicref31_Script.j2 k x0 x1 x5 (wrap64 (x6 + (Int.tmod t113 3))) x7 t113 (Int.tmod t111 16) ((Int.tmod t111 16) == 2) 0 t114 (wrap64 ((Int.tmod (wrap64 (Int.tdiv t113 3)) 14) - 2)) (Int.tmod (wrap64 (Int.tdiv t113 7)) 30) (wrap64 (x6 + (Int.tmod t113 3))) (wrap64 ((Int.tmod t113 9) - 2)) (IntKind.u64.wrap (t113))))))) else (none)) else (none))) else (none)) else (none)) else (some x5)
def skymosaicref31_Script.j2 : Nat → List Int → Int → List (S38) → Int → Int → Int → Int → Bool → Int → ByteArray → Int → Int → Int → Int → Int → Option ((List (S38)))
  | 0, _, _, _, _, _, _, _, _, _, _, _, _, _, _, _ => none
  | k + 1, x0, x1, x5, x6, x7, x9, x59, x61, x116000, x116001, x116002, x116003, x116004, x116005, x116006 => if x61 = true then (if x5.length < 2199023255552 then (skymosaicref31_Script.l0 k x0 x1 (x5 ++ [(⟨0, x116001, x116002, x116003, x116004, x116005, x116006⟩ : S38)]) x6 (wrap64 (x7 + 2))) else (none)) else (if x59 = 3 then (skymosaicref31_Script.j3 k x0 x1 x5 x6 x7 x9 x59 (x59 == 3) x116000 x116001 x116002 x116003 x116004 x116005 x116006) else (skymosaicref31_Script.j3 k x0 x1 x5 x6 x7 x9 x59 (x59 == 4) x116000 x116001 x116002 x116003 x116004 x116005 x116006))
def skymosaicref31_Script.j3 : Nat → List Int → Int → List (S38) → Int → Int → Int → Int → Bool → Int → ByteArray → Int → Int → Int → Int → Int → Option ((List (S38)))
  | 0, _, _, _, _, _, _, _, _, _, _, _, _, _, _, _ => none
  | k + 1, x0, x1, x5, x6, x7, x9, x59, x66, x116000, x116001, x116002, x116003, x116004, x116005, x116006 => if x66 = true then (if x5.length < 2199023255552 then (skymosaicref31_Script.l0 k x0 x1 (x5 ++ [(⟨2, x116001, x116002, x116003, x116004, x116005, x116006⟩ : S38)]) x6 (wrap64 (x7 + 2))) else (none)) else (if x59 = 5 then (if x5.length < 2199023255552 then (skymosaicref31_Script.l0 k x0 x1 (x5 ++ [(⟨1, x116001, x116002, x116003, wrap64 ((Int.tmod x9 40) - 2), wrap64 ((Int.tmod x9 8) - 4), x116006⟩ : S38)]) x6 (wrap64 (x7 + 2))) else (none)) else (if x5.length < 2199023255552 then (skymosaicref31_Script.l0 k x0 x1 (x5 ++ [(⟨1, x116001, x116002, x116003, x116004, x116005, x116006⟩ : S38)]) x6 (wrap64 (x7 + 2))) else (none)))
end
def skymosaicref31_Script.f (k : Nat) (l0 : List Int) (a1 : Int) : Option ((List (S38))) := skymosaicref31_Script.l0 k l0 a1 (([(⟨0, (⟨#[109, 97, 105, 110]⟩ : ByteArray), (-1), 0, 0, 0, 0⟩ : S38)] : List (S38))) 0 0
set_option maxHeartbeats 8000000 in
set_option maxRecDepth 100000 in
theorem skymosaicref31_Script.calls (k : Nat) (A0 : Option Addr) (c0 : Nat) (l0 : List Int) (a1 : Int) (r : List (S38)) (w : World) (hr0 : Kd.C (Kd.int .i64) w A0 l0.length l0) (hc0 : l0.length ≤ c0) (h : skymosaicref31_Script.f k l0 a1 = some r) :
    Calls Try.prog 15 #[.slice A0 l0.length c0, .int .i64 a1] w fun e w' => ∃ v0_ : Value, e = .returned (v0_) ∧ Kd.R k38 38 w' w.heap.size (fun _ => True) v0_ r ∧ Below w.heap.size w w' := by
  have hu38 := Try.underlying38
  have HR0 := Aside0.mk hr0
  have HC0 := Aside0.mk hc0
  clear hr0 hc0
  have HB := Aside0.mk (Below.refl w.heap.size w)
  have H : (skymosaicref31_Script.l0 k l0 a1 (([(⟨0, (⟨#[109, 97, 105, 110]⟩ : ByteArray), (-1), 0, 0, 0, 0⟩ : S38)] : List (S38))) 0 0) = some r := h
  clear h
  obtain ⟨y107, hy107⟩ : ∃ y_ : List (S38), y_ = (([(⟨0, (⟨#[109, 97, 105, 110]⟩ : ByteArray), (-1), 0, 0, 0, 0⟩ : S38)] : List (S38))) := ⟨_, rfl⟩
  replace H : (skymosaicref31_Script.l0 k l0 a1 y107 0 0) = some r := by first | (rw [hy107]; with_reducible exact H) | (have H2_ := (Option.bind_some _ _).symm.trans H; rw [hy107]; with_reducible exact H2_) | (have H2_ := (Option.bind_some _ _).symm.trans H; with_reducible exact H2_) | with_reducible exact H | (rw [hy107]; exact H) | exact H
  have Ny107 := Aside0.mk hy107
  clear hy107
  have H' := Aside0.mk H
  clear H
  go_enter Try.func15, Try.ntmps15
  go_wp2_with (first | ((with_reducible refine gate_dst (N := 12) rfl ?_); (try (refine gate_guard (by rfl) ?_; dsimp only)); refine Kd.R_lit k38 _ 38 ?hg (N := 12) ?hd (xs := ([(⟨0, (⟨#[109, 97, 105, 110]⟩ : ByteArray), (-1), 0, 0, 0, 0⟩ : S38)] : List (S38))) (inner := [.int .i64 0, .string (⟨#[109, 97, 105, 110]⟩ : ByteArray), .int .i64 (-1), .int .i64 0, .int .i64 0, .int .i64 0, .int .u64 0]) (ok := fun _ => True) (okp := fun _ => True) ?hr ?hp (fun _ hk => hk) trivial (Below.refl _ _) (Nat.le_refl _) (by simp) ?_; (case hd => rfl); (case hg => rfl); (case hr => first | (go_simp; done) | (go_simp; rfl)); (case hp => exact (Reps.c7 (show Kd.M k38 _ _ _ (⟨0, (⟨#[109, 97, 105, 110]⟩ : ByteArray), (-1), 0, 0, 0, 0⟩ : S38) [.int .i64 0, .string (⟨#[109, 97, 105, 110]⟩ : ByteArray), .int .i64 (-1), .int .i64 0, .int .i64 0, .int .i64 0, .int .u64 0] from (k38_mkM _ _ _ (⟨0, (⟨#[109, 97, 105, 110]⟩ : ByteArray), (-1), 0, 0, 0, 0⟩ : S38) )) (Reps.none _ _))); intro v108 w3 ho4 hb hg_ hnew_; clear hg_ hnew_; (first | rw [← Ny107.out] at ho4 | (simp only [Int.reduceToNat] at ho4; rw [← Ny107.out] at ho4)); have n0_ := Aside0.mk (Kd.R_lower ho4 (below_size (by repeat (first | (with_reducible first | exact HB.out | apply below_alloc | apply pw_below_drewN | apply below_drew1) | exact HB.out)))); have n1_ := Aside0.mk (below_step (by repeat (first | (with_reducible first | exact HB.out | apply below_alloc | apply pw_below_drewN | apply below_drew1) | exact HB.out)) hb); clear HB; have HO109 := n0_; have HB := n1_; clear n0_ n1_; clear hb ho4))
  go_loopg [5, 6, 7] k (fun kq v5 v6 v7 w' => ∃ (x5_1 : List (S38)) (x6_1 : Int) (x7_1 : Int), v6 = .int .i64 x6_1 ∧ v7 = .int .i64 x7_1 ∧ Aside0 (skymosaicref31_Script.l0 kq l0 a1 x5_1 x6_1 x7_1 = some r) ∧ Aside0 (kq ≤ k) ∧ Aside0 (Kd.R k38 38 w' w.heap.size (fun _ => True) v5 x5_1) ∧ Aside0 (Below w.heap.size w w'))
  case atStart => exact ⟨(y107), (0), (0), (by first | rfl | (simp; done) | (simp [*]; done)), (by first | rfl | (simp; done) | (simp [*]; done)), H', ⟨Nat.le_refl _⟩, ⟨by (with_reducible repeat (first | apply Kd.R_alloc | apply Kd.R_drewN | apply Kd.R_drew)); exact HO109.out⟩, ⟨by repeat (first | (with_reducible first | exact HB.out | apply below_alloc | apply pw_below_drewN | apply below_drew1) | exact HB.out)⟩⟩
  case round =>
    clear H'
    try clear c1
    try clear p2
    obtain ⟨x5_1, x6_1, x7_1, rfl, rfl, HA, HK1, HO_5, HB⟩ := hrel
    cases gk with
    | zero => exact absurd HA.out (by simp [skymosaicref31_Script.l0])
    | succ k1 =>
      have H := HA.out
      clear HA
      simp only [skymosaicref31_Script.l0] at H
      have HC5 := Aside0.mk H
      clear H
      go_upto_region 4 with (fail)
      go_cut [23] (fun v23 wc => ∃ (kq : Nat) (x23_4 : Bool), v23 = .bool x23_4 ∧ Aside0 (skymosaicref31_Script.j1 kq l0 a1 x5_1 x6_1 x7_1 x23_4 = some r) ∧ Aside0 (kq ≤ k1) ∧ Aside0 (Kd.R k38 38 wc w.heap.size (fun _ => True) u5 x5_1) ∧ Aside0 (Below w.heap.size w wc))
      case first =>
        have H := HC5.out
        clear HC5
        by_cases c6 : (wrap64 (x7_1 + 1)) < (l0.length : Int)
        · rw [if_pos c6] at H
          have c6b0 : decide ((wrap64 (x7_1 + 1)) < (l0.length : Int)) = true := decide_eq_true c6
          clear c6
          (first | rw [c6b0] | (simp only [i64_w, i32_w]; rw [c6b0]) | skip)
          have H' := Aside0.mk H
          clear H
          obtain ⟨Ao7, co7, eo7⟩ := Kd.R_slice HO_5.out
          subst eo7
          go_wp2
          go_meet
          case rel => exact ⟨_, (decide ((x5_1.length : Int) < a1)), (by first | rfl | (simp; done) | (simp [*]; done)), H', ⟨by have := HK1.out; first | omega | exact Nat.le_refl _⟩, ⟨by (with_reducible repeat (first | apply Kd.R_alloc | apply Kd.R_drewN | apply Kd.R_drew)); exact HO_5.out⟩, ⟨by repeat (first | (with_reducible first | exact HB.out | apply below_alloc | apply pw_below_drewN | apply below_drew1) | exact HB.out)⟩⟩
        · rw [if_neg c6] at H
          have c6b0 : decide ((wrap64 (x7_1 + 1)) < (l0.length : Int)) = false := decide_eq_false c6
          clear c6
          (first | rw [c6b0] | (simp only [i64_w, i32_w]; rw [c6b0]) | skip)
          have H' := Aside0.mk H
          clear H
          go_wp2
          go_meet
          case rel => exact ⟨_, (false), (by first | rfl | (simp; done) | (simp [*]; done)), H', ⟨by have := HK1.out; first | omega | exact Nat.le_refl _⟩, ⟨by (with_reducible repeat (first | apply Kd.R_alloc | apply Kd.R_drewN | apply Kd.R_drew)); exact HO_5.out⟩, ⟨by repeat (first | (with_reducible first | exact HB.out | apply below_alloc | apply pw_below_drewN | apply below_drew1) | exact HB.out)⟩⟩
      case rest =>
        clear HC5
        try clear c1
        try clear p2
        try clear c6
        try clear c6b0
        try clear p6
        try clear c7
        try clear p2
        obtain ⟨kq, x23_4, rfl, HA, HJ4, HO_5, HB⟩ := hcut
        cases kq with
        | zero => exact absurd HA.out (by simp [skymosaicref31_Script.j1])
        | succ kj4 =>
          have H := HA.out
          clear HA
          simp only [skymosaicref31_Script.j1] at H
          by_cases c8 : x23_4 = true
          · subst c8
            have H1 : (if 0 ≤ x7_1 then (if x7_1 < (l0.length : Int) then ((skymosaicref01_Around.f (rd l0 x7_1) 1048576).bind fun t111 => (if 0 ≤ (wrap64 (x7_1 + 1)) then (if (wrap64 (x7_1 + 1)) < (l0.length : Int) then ((skymosaicref01_Around.f (rd l0 (wrap64 (x7_1 + 1))) 1048576).bind fun t113 => ((skymosaicref31_Name.f (wrap64 (Int.tdiv t111 16))).bind fun t114 => (if (Int.tmod t111 16) = 0 then (skymosaicref31_Script.j2 kj4 l0 a1 x5_1 (wrap64 (x6_1 + (Int.tmod t113 3))) x7_1 t113 (Int.tmod t111 16) ((Int.tmod t111 16) == 0) 0 t114 (wrap64 ((Int.tmod (wrap64 (Int.tdiv t113 3)) 14) - 2)) (Int.tmod (wrap64 (Int.tdiv t113 7)) 30) (wrap64 (x6_1 + (Int.tmod t113 3))) (wrap64 ((Int.tmod t113 9) - 2)) (IntKind.u64.wrap (t113))) else (if (Int.tmod t111 16) = 1 then (skymosaicref31_Script.j2 kj4 l0 a1 x5_1 (wrap64 (x6_1 + (Int.tmod t113 3))) x7_1 t113 (Int.tmod t111 16) ((Int.tmod t111 16) == 1) 0 t114 (wrap64 ((Int.tmod (wrap64 (Int.tdiv t113 3)) 14) - 2)) (Int.tmod (wrap64 (Int.tdiv t113 7)) 30) (wrap64 (x6_1 + (Int.tmod t113 3))) (wrap64 ((Int.tmod t113 9) - 2)) (IntKind.u64.wrap (t113))) else (skymosaicref31_Script.j2 kj4 l0 a1 x5_1 (wrap64 (x6_1 + (Int.tmod t113 3))) x7_1 t113 (Int.tmod t111 16) ((Int.tmod t111 16) == 2) 0 t114 (wrap64 ((Int.tmod (wrap64 (Int.tdiv t113 3)) 14) - 2)) (Int.tmod (wrap64 (Int.tdiv t113 7)) 30) (wrap64 (x6_1 + (Int.tmod t113 3))) (wrap64 ((Int.tmod t113 9) - 2)) (IntKind.u64.wrap (t113))))))) else (none)) else (none))) else (none)) else (none)) = some r := by rw [if_pos rfl] at H; exact H
            clear H
            have H := H1
            clear H1
            by_cases c9 : 0 ≤ x7_1
            · rw [if_pos c9] at H
              have c9b0 : decide (0 ≤ x7_1) = true := decide_eq_true c9
              clear c9
              by_cases c10 : x7_1 < (l0.length : Int)
              · rw [if_pos c10] at H
                have c10b0 : decide (x7_1 < (l0.length : Int)) = true := decide_eq_true c10
                clear c10
                replace H := Option.bind_eq_some_iff.mp H
                obtain ⟨t111, A110, H⟩ := H
                replace H : (if 0 ≤ (wrap64 (x7_1 + 1)) then (if (wrap64 (x7_1 + 1)) < (l0.length : Int) then ((skymosaicref01_Around.f (rd l0 (wrap64 (x7_1 + 1))) 1048576).bind fun t113 => ((skymosaicref31_Name.f (wrap64 (Int.tdiv t111 16))).bind fun t114 => (if (Int.tmod t111 16) = 0 then (skymosaicref31_Script.j2 kj4 l0 a1 x5_1 (wrap64 (x6_1 + (Int.tmod t113 3))) x7_1 t113 (Int.tmod t111 16) ((Int.tmod t111 16) == 0) 0 t114 (wrap64 ((Int.tmod (wrap64 (Int.tdiv t113 3)) 14) - 2)) (Int.tmod (wrap64 (Int.tdiv t113 7)) 30) (wrap64 (x6_1 + (Int.tmod t113 3))) (wrap64 ((Int.tmod t113 9) - 2)) (IntKind.u64.wrap (t113))) else (if (Int.tmod t111 16) = 1 then (skymosaicref31_Script.j2 kj4 l0 a1 x5_1 (wrap64 (x6_1 + (Int.tmod t113 3))) x7_1 t113 (Int.tmod t111 16) ((Int.tmod t111 16) == 1) 0 t114 (wrap64 ((Int.tmod (wrap64 (Int.tdiv t113 3)) 14) - 2)) (Int.tmod (wrap64 (Int.tdiv t113 7)) 30) (wrap64 (x6_1 + (Int.tmod t113 3))) (wrap64 ((Int.tmod t113 9) - 2)) (IntKind.u64.wrap (t113))) else (skymosaicref31_Script.j2 kj4 l0 a1 x5_1 (wrap64 (x6_1 + (Int.tmod t113 3))) x7_1 t113 (Int.tmod t111 16) ((Int.tmod t111 16) == 2) 0 t114 (wrap64 ((Int.tmod (wrap64 (Int.tdiv t113 3)) 14) - 2)) (Int.tmod (wrap64 (Int.tdiv t113 7)) 30) (wrap64 (x6_1 + (Int.tmod t113 3))) (wrap64 ((Int.tmod t113 9) - 2)) (IntKind.u64.wrap (t113))))))) else (none)) else (none)) = some r := H
                have A11 := Aside0.mk A110
                clear A110
                obtain ⟨ji12, hji12⟩ : ∃ j_ : Int, (wrap64 (x7_1 + 1)) = j_ := ⟨_, rfl⟩
                replace H : (if 0 ≤ (ji12) then (if (ji12) < (l0.length : Int) then ((skymosaicref01_Around.f (rd l0 (ji12)) 1048576).bind fun t113 => ((skymosaicref31_Name.f (wrap64 (Int.tdiv t111 16))).bind fun t114 => (if (Int.tmod t111 16) = 0 then (skymosaicref31_Script.j2 kj4 l0 a1 x5_1 (wrap64 (x6_1 + (Int.tmod t113 3))) x7_1 t113 (Int.tmod t111 16) ((Int.tmod t111 16) == 0) 0 t114 (wrap64 ((Int.tmod (wrap64 (Int.tdiv t113 3)) 14) - 2)) (Int.tmod (wrap64 (Int.tdiv t113 7)) 30) (wrap64 (x6_1 + (Int.tmod t113 3))) (wrap64 ((Int.tmod t113 9) - 2)) (IntKind.u64.wrap (t113))) else (if (Int.tmod t111 16) = 1 then (skymosaicref31_Script.j2 kj4 l0 a1 x5_1 (wrap64 (x6_1 + (Int.tmod t113 3))) x7_1 t113 (Int.tmod t111 16) ((Int.tmod t111 16) == 1) 0 t114 (wrap64 ((Int.tmod (wrap64 (Int.tdiv t113 3)) 14) - 2)) (Int.tmod (wrap64 (Int.tdiv t113 7)) 30) (wrap64 (x6_1 + (Int.tmod t113 3))) (wrap64 ((Int.tmod t113 9) - 2)) (IntKind.u64.wrap (t113))) else (skymosaicref31_Script.j2 kj4 l0 a1 x5_1 (wrap64 (x6_1 + (Int.tmod t113 3))) x7_1 t113 (Int.tmod t111 16) ((Int.tmod t111 16) == 2) 0 t114 (wrap64 ((Int.tmod (wrap64 (Int.tdiv t113 3)) 14) - 2)) (Int.tmod (wrap64 (Int.tdiv t113 7)) 30) (wrap64 (x6_1 + (Int.tmod t113 3))) (wrap64 ((Int.tmod t113 9) - 2)) (IntKind.u64.wrap (t113))))))) else (none)) else (none)) = some r := by first | (rw [hji12] at H; exact H) | (simp only [hji12] at H ⊢; exact H)
                (try rw [hji12] at A11)
                have hji12w : (IntKind.i64.wrap (x7_1 + 1)) = ji12 := (i64_w _).trans hji12
                by_cases c13 : 0 ≤ (ji12)
                · rw [if_pos c13] at H
                  have c13b0 : decide (0 ≤ (ji12)) = true := decide_eq_true c13
                  clear c13
                  by_cases c14 : (ji12) < (l0.length : Int)
                  · rw [if_pos c14] at H
                    have c14b0 : decide ((ji12) < (l0.length : Int)) = true := decide_eq_true c14
                    clear c14
                    replace H := Option.bind_eq_some_iff.mp H
                    obtain ⟨t113, A150, H⟩ := H
                    replace H : ((skymosaicref31_Name.f (wrap64 (Int.tdiv t111 16))).bind fun t114 => (if (Int.tmod t111 16) = 0 then (skymosaicref31_Script.j2 kj4 l0 a1 x5_1 (wrap64 (x6_1 + (Int.tmod t113 3))) x7_1 t113 (Int.tmod t111 16) ((Int.tmod t111 16) == 0) 0 t114 (wrap64 ((Int.tmod (wrap64 (Int.tdiv t113 3)) 14) - 2)) (Int.tmod (wrap64 (Int.tdiv t113 7)) 30) (wrap64 (x6_1 + (Int.tmod t113 3))) (wrap64 ((Int.tmod t113 9) - 2)) (IntKind.u64.wrap (t113))) else (if (Int.tmod t111 16) = 1 then (skymosaicref31_Script.j2 kj4 l0 a1 x5_1 (wrap64 (x6_1 + (Int.tmod t113 3))) x7_1 t113 (Int.tmod t111 16) ((Int.tmod t111 16) == 1) 0 t114 (wrap64 ((Int.tmod (wrap64 (Int.tdiv t113 3)) 14) - 2)) (Int.tmod (wrap64 (Int.tdiv t113 7)) 30) (wrap64 (x6_1 + (Int.tmod t113 3))) (wrap64 ((Int.tmod t113 9) - 2)) (IntKind.u64.wrap (t113))) else (skymosaicref31_Script.j2 kj4 l0 a1 x5_1 (wrap64 (x6_1 + (Int.tmod t113 3))) x7_1 t113 (Int.tmod t111 16) ((Int.tmod t111 16) == 2) 0 t114 (wrap64 ((Int.tmod (wrap64 (Int.tdiv t113 3)) 14) - 2)) (Int.tmod (wrap64 (Int.tdiv t113 7)) 30) (wrap64 (x6_1 + (Int.tmod t113 3))) (wrap64 ((Int.tmod t113 9) - 2)) (IntKind.u64.wrap (t113)))))) = some r := H
                    have A15 := Aside0.mk A150
                    clear A150
                    replace H := Option.bind_eq_some_iff.mp H
                    obtain ⟨t114, A160, H⟩ := H
                    replace H : (if (Int.tmod t111 16) = 0 then (skymosaicref31_Script.j2 kj4 l0 a1 x5_1 (wrap64 (x6_1 + (Int.tmod t113 3))) x7_1 t113 (Int.tmod t111 16) ((Int.tmod t111 16) == 0) 0 t114 (wrap64 ((Int.tmod (wrap64 (Int.tdiv t113 3)) 14) - 2)) (Int.tmod (wrap64 (Int.tdiv t113 7)) 30) (wrap64 (x6_1 + (Int.tmod t113 3))) (wrap64 ((Int.tmod t113 9) - 2)) (IntKind.u64.wrap (t113))) else (if (Int.tmod t111 16) = 1 then (skymosaicref31_Script.j2 kj4 l0 a1 x5_1 (wrap64 (x6_1 + (Int.tmod t113 3))) x7_1 t113 (Int.tmod t111 16) ((Int.tmod t111 16) == 1) 0 t114 (wrap64 ((Int.tmod (wrap64 (Int.tdiv t113 3)) 14) - 2)) (Int.tmod (wrap64 (Int.tdiv t113 7)) 30) (wrap64 (x6_1 + (Int.tmod t113 3))) (wrap64 ((Int.tmod t113 9) - 2)) (IntKind.u64.wrap (t113))) else (skymosaicref31_Script.j2 kj4 l0 a1 x5_1 (wrap64 (x6_1 + (Int.tmod t113 3))) x7_1 t113 (Int.tmod t111 16) ((Int.tmod t111 16) == 2) 0 t114 (wrap64 ((Int.tmod (wrap64 (Int.tdiv t113 3)) 14) - 2)) (Int.tmod (wrap64 (Int.tdiv t113 7)) 30) (wrap64 (x6_1 + (Int.tmod t113 3))) (wrap64 ((Int.tmod t113 9) - 2)) (IntKind.u64.wrap (t113))))) = some r := H
                    have A16 := Aside0.mk A160
                    clear A160
                    have HC17 := Aside0.mk H
                    clear H
                    have p110 : 0 ≤ (x7_1 : Int) := of_decide_eq_true (by first | (with_reducible assumption) | assumption)
                    have q110 : x7_1 < (l0.length : Int) := of_decide_eq_true (by first | (with_reducible assumption) | assumption)
                    obtain ⟨ad110, e110, hx110_0⟩ := Kd.at_int HR0.out x7_1 p110 q110
                    cases e110
                    replace hx110_0 := (HB.out.cell (World.block_lt_of_cell? w _ hx110_0)).trans hx110_0
                    replace p110 := eq_true p110
                    replace q110 := eq_true q110
                    go_upto_if 61 with (first | ((with_reducible refine gate_callee (f := 10) rfl ?_); refine goesL_ (some 30) rfl rfl Try.func10 (by kernel_rfl) rfl #[.int .i64 (rd l0 x7_1), .int .i64 1048576] rfl (by (try simp only [List.map_toArray, List.map_cons, List.map_nil]); first | done | rfl | (simp only [List.length_drop, List.length_take]; rfl)) ?_; (with_reducible refine (skymosaicref01_Around.calls (rd l0 x7_1) 1048576 t111 _ A11.out).mono ?_); rintro e w' ⟨rfl, ⟨nd, rfl⟩⟩; refine ⟨_, rfl, ?_⟩; (try (rw [drewN_self wc]; generalize hq_ : World.drewN wc _ = wc; have n0_ : Aside0 (Kd.R k38 38 wc w.heap.size (fun _ => True) u5 x5_1) := ⟨by rw [← hq_]; exact (by (with_reducible repeat (first | apply Kd.R_alloc | apply Kd.R_drewN | apply Kd.R_drew)); exact HO_5.out)⟩; have n1_ : Aside0 (Below w.heap.size w wc) := ⟨by rw [← hq_]; exact (by repeat (first | (with_reducible first | exact HB.out | apply below_alloc | apply pw_below_drewN | apply below_drew1) | exact HB.out))⟩; clear HO_5 HB hq_; have HO_5 := n0_; have HB := n1_; clear n0_ n1_)); have p112 : 0 ≤ ((ji12) : Int) := of_decide_eq_true (by first | (with_reducible assumption) | assumption); have q112 : (ji12) < (l0.length : Int) := of_decide_eq_true (by first | (with_reducible assumption) | assumption); obtain ⟨ad112, e112, hx112_0⟩ := Kd.at_int HR0.out (ji12) p112 q112; obtain rfl : ad110 = ad112 := (by injection e112); replace hx112_0 := (HB.out.cell (World.block_lt_of_cell? w _ hx112_0)).trans hx112_0; replace p112 := eq_true p112; replace q112 := eq_true q112) | ((with_reducible refine gate_callee (f := 10) rfl ?_); refine goesL_ (some 36) rfl rfl Try.func10 (by kernel_rfl) rfl #[.int .i64 (rd l0 (ji12)), .int .i64 1048576] rfl (by (try simp only [List.map_toArray, List.map_cons, List.map_nil]); first | done | (simp only [hji12]; rfl) | rfl | (simp only [List.length_drop, List.length_take]; rfl)) ?_; (with_reducible refine (skymosaicref01_Around.calls (rd l0 (ji12)) 1048576 t113 _ A15.out).mono ?_); rintro e w' ⟨rfl, ⟨nd, rfl⟩⟩; refine ⟨_, rfl, ?_⟩; (try (rw [drewN_self wc]; generalize hq_ : World.drewN wc _ = wc; have n0_ : Aside0 (Kd.R k38 38 wc w.heap.size (fun _ => True) u5 x5_1) := ⟨by rw [← hq_]; exact (by (with_reducible repeat (first | apply Kd.R_alloc | apply Kd.R_drewN | apply Kd.R_drew)); exact HO_5.out)⟩; have n1_ : Aside0 (Below w.heap.size w wc) := ⟨by rw [← hq_]; exact (by repeat (first | (with_reducible first | exact HB.out | apply below_alloc | apply pw_below_drewN | apply below_drew1) | exact HB.out))⟩; clear HO_5 HB hq_; have HO_5 := n0_; have HB := n1_; clear n0_ n1_))) | ((with_reducible refine gate_callee (f := 24) rfl ?_); refine goesL_ (some 43) rfl rfl Try.func24 (by kernel_rfl) rfl #[.int .i64 (wrap64 (Int.tdiv t111 16))] rfl (by (try simp only [List.map_toArray, List.map_cons, List.map_nil]); first | done | rfl | (simp only [List.length_drop, List.length_take]; rfl)) ?_; (with_reducible refine (skymosaicref31_Name.calls (wrap64 (Int.tdiv t111 16)) t114 _ A16.out).mono ?_); rintro e w18 ⟨rfl, hb⟩; refine ⟨_, rfl, ?_⟩; have n0_ := Aside0.mk (Kd.R_below (by (with_reducible repeat (first | apply Kd.R_alloc | apply Kd.R_drewN | apply Kd.R_drew)); exact HO_5.out) hb); have n1_ := Aside0.mk (below_step (by repeat (first | (with_reducible first | exact HB.out | apply below_alloc | apply pw_below_drewN | apply below_drew1) | exact HB.out)) hb); clear HO_5; clear HB; have HO_5 := n0_; have HB := n1_; clear n0_ n1_; (try clear hb); (try clear hb2); (try clear hk); (try clear hi)) | ((with_reducible refine gate_dst (N := 10) rfl ?_); (try (refine gate_guard (by rfl) ?_; dsimp only)); refine box_event ?hg (N := 10) ?hd (cs := #[.int .i64 0, .string (⟨#[]⟩ : ByteArray), .int .i64 0, .int .i64 0, .int .i64 0, .int .i64 0, .int .u64 0]) (t := 38) ?hr ?_; (case hd => rfl); (case hg => rfl); (case hr => first | (go_simp; done) | (go_simp; rfl)); intro gb115 hg w19 hbox hb; have n0_ := Aside0.mk (Kd.R_below (Kd.R_elderB (by (with_reducible repeat (first | apply Kd.R_alloc | apply Kd.R_drewN | apply Kd.R_drew)); exact HO_5.out) gb115 (Nat.le_of_eq hg.symm)) hb); have n1_ := Aside0.mk (below_step (by repeat (first | (with_reducible first | exact HB.out | apply below_alloc | apply pw_below_drewN | apply below_drew1) | exact HB.out)) hb); have n2_ := Aside0.mk (hbox); have n3_ := Aside0.mk ((by rw [hg]; exact (below_size (by repeat (first | (with_reducible first | exact HB.out | apply below_alloc | apply pw_below_drewN | apply below_drew1) | exact HB.out))) : w.heap.size ≤ gb115)); have n4_ := Aside0.mk ((by rw [hg]; exact (below_size (by repeat (first | (with_reducible first | exact HB.out | apply below_alloc | apply pw_below_drewN | apply below_drew1) | exact HB.out))) : w.heap.size ≤ gb115)); clear HO_5; clear HB; have HO_5 := n0_; have HB := n1_; have BK115 := n2_; have GW115 := n3_; have GE115 := n4_; clear n0_ n1_ n2_ n3_ n4_; clear hb hbox hg; have hcz20_0 : w19.cell? ⟨gb115, 0, none⟩ = some (.int .i64 0) := (blk_cell BK115.out 0).trans rfl; have hcz20_1 : w19.cell? ⟨gb115, 1, none⟩ = some (.string (⟨#[]⟩ : ByteArray)) := (blk_cell BK115.out 1).trans rfl; have hcz20_2 : w19.cell? ⟨gb115, 2, none⟩ = some (.int .i64 0) := (blk_cell BK115.out 2).trans rfl; have hcz20_3 : w19.cell? ⟨gb115, 3, none⟩ = some (.int .i64 0) := (blk_cell BK115.out 3).trans rfl; have hcz20_4 : w19.cell? ⟨gb115, 4, none⟩ = some (.int .i64 0) := (blk_cell BK115.out 4).trans rfl; have hcz20_5 : w19.cell? ⟨gb115, 5, none⟩ = some (.int .i64 0) := (blk_cell BK115.out 5).trans rfl; have hcz20_6 : w19.cell? ⟨gb115, 6, none⟩ = some (.int .u64 0) := (blk_cell BK115.out 6).trans rfl; have hfz20_0 := blk_frozen BK115.out 0; have hfz20_1 := blk_frozen BK115.out 1; have hfz20_2 := blk_frozen BK115.out 2; have hfz20_3 := blk_frozen BK115.out 3; have hfz20_4 := blk_frozen BK115.out 4; have hfz20_5 := blk_frozen BK115.out 5; have hfz20_6 := blk_frozen BK115.out 6))
                    (try simp only [Act.put, List.setIfInBounds_toArray, List.set_cons_zero, List.set_cons_succ])
                    go_cut [61] (fun v61 wc => ∃ (kq : Nat) (x61_16 : Bool), v61 = .bool x61_16 ∧ Aside0 (skymosaicref31_Script.j2 kq l0 a1 x5_1 (wrap64 (x6_1 + (Int.tmod t113 3))) x7_1 t113 (Int.tmod t111 16) x61_16 0 t114 (wrap64 ((Int.tmod (wrap64 (Int.tdiv t113 3)) 14) - 2)) (Int.tmod (wrap64 (Int.tdiv t113 7)) 30) (wrap64 (x6_1 + (Int.tmod t113 3))) (wrap64 ((Int.tmod t113 9) - 2)) (IntKind.u64.wrap (t113)) = some r) ∧ Aside0 (kq ≤ kj4) ∧ Aside0 (Kd.R k38 38 wc w.heap.size (fun k_ => k_ ≠ gb115) u5 x5_1) ∧ Aside0 (wc.heap[gb115]? = some (.cells #[.int .i64 0, .string t114, .int .i64 (wrap64 ((Int.tmod (wrap64 (Int.tdiv t113 3)) 14) - 2)), .int .i64 (Int.tmod (wrap64 (Int.tdiv t113 7)) 30), .int .i64 (wrap64 (x6_1 + (Int.tmod t113 3))), .int .i64 (wrap64 ((Int.tmod t113 9) - 2)), .int .u64 (IntKind.u64.wrap (t113))] 38 (0, 0))) ∧ Aside0 (Below w.heap.size w wc))
                    case first =>
                      have H := HC17.out
                      clear HC17
                      by_cases c21 : (Int.tmod t111 16) = 0
                      · rw [if_pos c21] at H
                        have c21b0 : ((Int.tmod t111 16) == 0) = true := beq_iff_eq.mpr c21
                        have c21b1 : ((Int.tmod t111 16) != 0) = false := bne_eq_false_iff_eq.mpr c21
                        clear c21
                        (first | rw [c21b0] | (simp only [i64_w, i32_w]; rw [c21b0]) | skip)
                        have H' := Aside0.mk H
                        clear H
                        go_wp2
                        go_meet
                        case rel => exact ⟨_, (((Int.tmod t111 16) == 0)), (by first | rfl | (simp; done) | (simp [*]; done)), H', ⟨by have := HK1.out; have := HJ4.out; first | omega | exact Nat.le_refl _⟩, ⟨by (with_reducible repeat (first | apply Kd.R_alloc | apply Kd.R_drewN | apply Kd.R_drew)); exact Kd.R_mono (Kd.R_far (p := ⟨gb115, 6, none⟩) (Kd.R_far (p := ⟨gb115, 5, none⟩) (Kd.R_far (p := ⟨gb115, 4, none⟩) (Kd.R_far (p := ⟨gb115, 3, none⟩) (Kd.R_far (p := ⟨gb115, 2, none⟩) (Kd.R_far (p := ⟨gb115, 1, none⟩) (Kd.R_far (p := ⟨gb115, 0, none⟩) (Kd.R_mono HO_5.out (fun k_ hk => (⟨hk, hk.2⟩ : _ ∧ k_ ≠ gb115))) (fun _ hk => hk.2) (.int .i64 0)) (fun _ hk => hk.2) (.string t114)) (fun _ hk => hk.2) (.int .i64 (wrap64 ((Int.tmod (wrap64 (Int.tdiv t113 3)) 14) - 2)))) (fun _ hk => hk.2) (.int .i64 (Int.tmod (wrap64 (Int.tdiv t113 7)) 30))) (fun _ hk => hk.2) (.int .i64 (wrap64 (x6_1 + (Int.tmod t113 3))))) (fun _ hk => hk.2) (.int .i64 (wrap64 ((Int.tmod t113 9) - 2)))) (fun _ hk => hk.2) (.int .u64 (IntKind.u64.wrap (t113)))) (fun _ hk => hk.1.2)⟩, ⟨by (with_reducible repeat (first | refine blk_drewN ?_ _ | refine blk_drew ?_ | refine blk_alloc ?_ _)); refine blk_put (cs := #[.int .i64 0, .string t114, .int .i64 (wrap64 ((Int.tmod (wrap64 (Int.tdiv t113 3)) 14) - 2)), .int .i64 (Int.tmod (wrap64 (Int.tdiv t113 7)) 30), .int .i64 (wrap64 (x6_1 + (Int.tmod t113 3))), .int .i64 (wrap64 ((Int.tmod t113 9) - 2)), .int .u64 0]) ?_ 6 _ rfl; (with_reducible repeat (first | refine blk_drewN ?_ _ | refine blk_drew ?_ | refine blk_alloc ?_ _)); refine blk_put (cs := #[.int .i64 0, .string t114, .int .i64 (wrap64 ((Int.tmod (wrap64 (Int.tdiv t113 3)) 14) - 2)), .int .i64 (Int.tmod (wrap64 (Int.tdiv t113 7)) 30), .int .i64 (wrap64 (x6_1 + (Int.tmod t113 3))), .int .i64 0, .int .u64 0]) ?_ 5 _ rfl; (with_reducible repeat (first | refine blk_drewN ?_ _ | refine blk_drew ?_ | refine blk_alloc ?_ _)); refine blk_put (cs := #[.int .i64 0, .string t114, .int .i64 (wrap64 ((Int.tmod (wrap64 (Int.tdiv t113 3)) 14) - 2)), .int .i64 (Int.tmod (wrap64 (Int.tdiv t113 7)) 30), .int .i64 0, .int .i64 0, .int .u64 0]) ?_ 4 _ rfl; (with_reducible repeat (first | refine blk_drewN ?_ _ | refine blk_drew ?_ | refine blk_alloc ?_ _)); refine blk_put (cs := #[.int .i64 0, .string t114, .int .i64 (wrap64 ((Int.tmod (wrap64 (Int.tdiv t113 3)) 14) - 2)), .int .i64 0, .int .i64 0, .int .i64 0, .int .u64 0]) ?_ 3 _ rfl; (with_reducible repeat (first | refine blk_drewN ?_ _ | refine blk_drew ?_ | refine blk_alloc ?_ _)); refine blk_put (cs := #[.int .i64 0, .string t114, .int .i64 0, .int .i64 0, .int .i64 0, .int .i64 0, .int .u64 0]) ?_ 2 _ rfl; (with_reducible repeat (first | refine blk_drewN ?_ _ | refine blk_drew ?_ | refine blk_alloc ?_ _)); refine blk_put (cs := #[.int .i64 0, .string (⟨#[]⟩ : ByteArray), .int .i64 0, .int .i64 0, .int .i64 0, .int .i64 0, .int .u64 0]) ?_ 1 _ rfl; (with_reducible repeat (first | refine blk_drewN ?_ _ | refine blk_drew ?_ | refine blk_alloc ?_ _)); refine blk_put (cs := #[.int .i64 0, .string (⟨#[]⟩ : ByteArray), .int .i64 0, .int .i64 0, .int .i64 0, .int .i64 0, .int .u64 0]) ?_ 0 _ rfl; (with_reducible repeat (first | refine blk_drewN ?_ _ | refine blk_drew ?_ | refine blk_alloc ?_ _)); exact BK115.out⟩, ⟨by repeat (first | (with_reducible first | exact HB.out | apply below_alloc | apply pw_below_drewN | apply below_drew1 | refine below_set ?_ GE115.out) | exact HB.out)⟩⟩
                      · rw [if_neg c21] at H
                        have c21b0 : ((Int.tmod t111 16) == 0) = false := beq_eq_false_iff_ne.mpr c21
                        have c21b1 : ((Int.tmod t111 16) != 0) = true := bne_iff_ne.mpr c21
                        (first | rw [c21b0] | (simp only [i64_w, i32_w]; rw [c21b0]) | skip)
                        by_cases c22 : (Int.tmod t111 16) = 1
                        · rw [if_pos c22] at H
                          have c22b0 : ((Int.tmod t111 16) == 1) = true := beq_iff_eq.mpr c22
                          have c22b1 : ((Int.tmod t111 16) != 1) = false := bne_eq_false_iff_eq.mpr c22
                          clear c22
                          have H' := Aside0.mk H
                          clear H
                          go_wp2
                          go_meet
                          case rel => exact ⟨_, (((Int.tmod t111 16) == 1)), (by first | rfl | (simp; done) | (simp [*]; done)), H', ⟨by have := HK1.out; have := HJ4.out; first | omega | exact Nat.le_refl _⟩, ⟨by (with_reducible repeat (first | apply Kd.R_alloc | apply Kd.R_drewN | apply Kd.R_drew)); exact Kd.R_mono (Kd.R_far (p := ⟨gb115, 6, none⟩) (Kd.R_far (p := ⟨gb115, 5, none⟩) (Kd.R_far (p := ⟨gb115, 4, none⟩) (Kd.R_far (p := ⟨gb115, 3, none⟩) (Kd.R_far (p := ⟨gb115, 2, none⟩) (Kd.R_far (p := ⟨gb115, 1, none⟩) (Kd.R_far (p := ⟨gb115, 0, none⟩) (Kd.R_mono HO_5.out (fun k_ hk => (⟨hk, hk.2⟩ : _ ∧ k_ ≠ gb115))) (fun _ hk => hk.2) (.int .i64 0)) (fun _ hk => hk.2) (.string t114)) (fun _ hk => hk.2) (.int .i64 (wrap64 ((Int.tmod (wrap64 (Int.tdiv t113 3)) 14) - 2)))) (fun _ hk => hk.2) (.int .i64 (Int.tmod (wrap64 (Int.tdiv t113 7)) 30))) (fun _ hk => hk.2) (.int .i64 (wrap64 (x6_1 + (Int.tmod t113 3))))) (fun _ hk => hk.2) (.int .i64 (wrap64 ((Int.tmod t113 9) - 2)))) (fun _ hk => hk.2) (.int .u64 (IntKind.u64.wrap (t113)))) (fun _ hk => hk.1.2)⟩, ⟨by (with_reducible repeat (first | refine blk_drewN ?_ _ | refine blk_drew ?_ | refine blk_alloc ?_ _)); refine blk_put (cs := #[.int .i64 0, .string t114, .int .i64 (wrap64 ((Int.tmod (wrap64 (Int.tdiv t113 3)) 14) - 2)), .int .i64 (Int.tmod (wrap64 (Int.tdiv t113 7)) 30), .int .i64 (wrap64 (x6_1 + (Int.tmod t113 3))), .int .i64 (wrap64 ((Int.tmod t113 9) - 2)), .int .u64 0]) ?_ 6 _ rfl; (with_reducible repeat (first | refine blk_drewN ?_ _ | refine blk_drew ?_ | refine blk_alloc ?_ _)); refine blk_put (cs := #[.int .i64 0, .string t114, .int .i64 (wrap64 ((Int.tmod (wrap64 (Int.tdiv t113 3)) 14) - 2)), .int .i64 (Int.tmod (wrap64 (Int.tdiv t113 7)) 30), .int .i64 (wrap64 (x6_1 + (Int.tmod t113 3))), .int .i64 0, .int .u64 0]) ?_ 5 _ rfl; (with_reducible repeat (first | refine blk_drewN ?_ _ | refine blk_drew ?_ | refine blk_alloc ?_ _)); refine blk_put (cs := #[.int .i64 0, .string t114, .int .i64 (wrap64 ((Int.tmod (wrap64 (Int.tdiv t113 3)) 14) - 2)), .int .i64 (Int.tmod (wrap64 (Int.tdiv t113 7)) 30), .int .i64 0, .int .i64 0, .int .u64 0]) ?_ 4 _ rfl; (with_reducible repeat (first | refine blk_drewN ?_ _ | refine blk_drew ?_ | refine blk_alloc ?_ _)); refine blk_put (cs := #[.int .i64 0, .string t114, .int .i64 (wrap64 ((Int.tmod (wrap64 (Int.tdiv t113 3)) 14) - 2)), .int .i64 0, .int .i64 0, .int .i64 0, .int .u64 0]) ?_ 3 _ rfl; (with_reducible repeat (first | refine blk_drewN ?_ _ | refine blk_drew ?_ | refine blk_alloc ?_ _)); refine blk_put (cs := #[.int .i64 0, .string t114, .int .i64 0, .int .i64 0, .int .i64 0, .int .i64 0, .int .u64 0]) ?_ 2 _ rfl; (with_reducible repeat (first | refine blk_drewN ?_ _ | refine blk_drew ?_ | refine blk_alloc ?_ _)); refine blk_put (cs := #[.int .i64 0, .string (⟨#[]⟩ : ByteArray), .int .i64 0, .int .i64 0, .int .i64 0, .int .i64 0, .int .u64 0]) ?_ 1 _ rfl; (with_reducible repeat (first | refine blk_drewN ?_ _ | refine blk_drew ?_ | refine blk_alloc ?_ _)); refine blk_put (cs := #[.int .i64 0, .string (⟨#[]⟩ : ByteArray), .int .i64 0, .int .i64 0, .int .i64 0, .int .i64 0, .int .u64 0]) ?_ 0 _ rfl; (with_reducible repeat (first | refine blk_drewN ?_ _ | refine blk_drew ?_ | refine blk_alloc ?_ _)); exact BK115.out⟩, ⟨by repeat (first | (with_reducible first | exact HB.out | apply below_alloc | apply pw_below_drewN | apply below_drew1 | refine below_set ?_ GE115.out) | exact HB.out)⟩⟩
                        · rw [if_neg c22] at H
                          have c22b0 : ((Int.tmod t111 16) == 1) = false := beq_eq_false_iff_ne.mpr c22
                          have c22b1 : ((Int.tmod t111 16) != 1) = true := bne_iff_ne.mpr c22
                          have H' := Aside0.mk H
                          clear H
                          go_wp2
                          go_meet
                          case rel => exact ⟨_, (((Int.tmod t111 16) == 2)), (by first | rfl | (simp; done) | (simp [*]; done)), H', ⟨by have := HK1.out; have := HJ4.out; first | omega | exact Nat.le_refl _⟩, ⟨by (with_reducible repeat (first | apply Kd.R_alloc | apply Kd.R_drewN | apply Kd.R_drew)); exact Kd.R_mono (Kd.R_far (p := ⟨gb115, 6, none⟩) (Kd.R_far (p := ⟨gb115, 5, none⟩) (Kd.R_far (p := ⟨gb115, 4, none⟩) (Kd.R_far (p := ⟨gb115, 3, none⟩) (Kd.R_far (p := ⟨gb115, 2, none⟩) (Kd.R_far (p := ⟨gb115, 1, none⟩) (Kd.R_far (p := ⟨gb115, 0, none⟩) (Kd.R_mono HO_5.out (fun k_ hk => (⟨hk, hk.2⟩ : _ ∧ k_ ≠ gb115))) (fun _ hk => hk.2) (.int .i64 0)) (fun _ hk => hk.2) (.string t114)) (fun _ hk => hk.2) (.int .i64 (wrap64 ((Int.tmod (wrap64 (Int.tdiv t113 3)) 14) - 2)))) (fun _ hk => hk.2) (.int .i64 (Int.tmod (wrap64 (Int.tdiv t113 7)) 30))) (fun _ hk => hk.2) (.int .i64 (wrap64 (x6_1 + (Int.tmod t113 3))))) (fun _ hk => hk.2) (.int .i64 (wrap64 ((Int.tmod t113 9) - 2)))) (fun _ hk => hk.2) (.int .u64 (IntKind.u64.wrap (t113)))) (fun _ hk => hk.1.2)⟩, ⟨by (with_reducible repeat (first | refine blk_drewN ?_ _ | refine blk_drew ?_ | refine blk_alloc ?_ _)); refine blk_put (cs := #[.int .i64 0, .string t114, .int .i64 (wrap64 ((Int.tmod (wrap64 (Int.tdiv t113 3)) 14) - 2)), .int .i64 (Int.tmod (wrap64 (Int.tdiv t113 7)) 30), .int .i64 (wrap64 (x6_1 + (Int.tmod t113 3))), .int .i64 (wrap64 ((Int.tmod t113 9) - 2)), .int .u64 0]) ?_ 6 _ rfl; (with_reducible repeat (first | refine blk_drewN ?_ _ | refine blk_drew ?_ | refine blk_alloc ?_ _)); refine blk_put (cs := #[.int .i64 0, .string t114, .int .i64 (wrap64 ((Int.tmod (wrap64 (Int.tdiv t113 3)) 14) - 2)), .int .i64 (Int.tmod (wrap64 (Int.tdiv t113 7)) 30), .int .i64 (wrap64 (x6_1 + (Int.tmod t113 3))), .int .i64 0, .int .u64 0]) ?_ 5 _ rfl; (with_reducible repeat (first | refine blk_drewN ?_ _ | refine blk_drew ?_ | refine blk_alloc ?_ _)); refine blk_put (cs := #[.int .i64 0, .string t114, .int .i64 (wrap64 ((Int.tmod (wrap64 (Int.tdiv t113 3)) 14) - 2)), .int .i64 (Int.tmod (wrap64 (Int.tdiv t113 7)) 30), .int .i64 0, .int .i64 0, .int .u64 0]) ?_ 4 _ rfl; (with_reducible repeat (first | refine blk_drewN ?_ _ | refine blk_drew ?_ | refine blk_alloc ?_ _)); refine blk_put (cs := #[.int .i64 0, .string t114, .int .i64 (wrap64 ((Int.tmod (wrap64 (Int.tdiv t113 3)) 14) - 2)), .int .i64 0, .int .i64 0, .int .i64 0, .int .u64 0]) ?_ 3 _ rfl; (with_reducible repeat (first | refine blk_drewN ?_ _ | refine blk_drew ?_ | refine blk_alloc ?_ _)); refine blk_put (cs := #[.int .i64 0, .string t114, .int .i64 0, .int .i64 0, .int .i64 0, .int .i64 0, .int .u64 0]) ?_ 2 _ rfl; (with_reducible repeat (first | refine blk_drewN ?_ _ | refine blk_drew ?_ | refine blk_alloc ?_ _)); refine blk_put (cs := #[.int .i64 0, .string (⟨#[]⟩ : ByteArray), .int .i64 0, .int .i64 0, .int .i64 0, .int .i64 0, .int .u64 0]) ?_ 1 _ rfl; (with_reducible repeat (first | refine blk_drewN ?_ _ | refine blk_drew ?_ | refine blk_alloc ?_ _)); refine blk_put (cs := #[.int .i64 0, .string (⟨#[]⟩ : ByteArray), .int .i64 0, .int .i64 0, .int .i64 0, .int .i64 0, .int .u64 0]) ?_ 0 _ rfl; (with_reducible repeat (first | refine blk_drewN ?_ _ | refine blk_drew ?_ | refine blk_alloc ?_ _)); exact BK115.out⟩, ⟨by repeat (first | (with_reducible first | exact HB.out | apply below_alloc | apply pw_below_drewN | apply below_drew1 | refine below_set ?_ GE115.out) | exact HB.out)⟩⟩
                    case rest =>
                      clear HC17
                      try clear c1
                      try clear p1
                      try clear q1
                      try clear hx1
                      try clear c2
                      try clear p2
                      try clear c6
                      try clear c6b0
                      try clear p6
                      try clear c7
                      try clear c8
                      try clear c9
                      try clear c9b0
                      try clear c10
                      try clear c10b0
                      try clear p11
                      try clear q11
                      try clear hx11
                      try clear c13
                      try clear c13b0
                      try clear c14
                      try clear c14b0
                      try clear c15
                      try clear c21
                      try clear c21b0
                      try clear c21b1
                      try clear c22
                      try clear c22b0
                      try clear c22b1
                      try clear hcz20_0
                      try clear hcz20_1
                      try clear hcz20_2
                      try clear hcz20_3
                      try clear hcz20_4
                      try clear hcz20_5
                      try clear hcz20_6
                      try clear hfz20_0
                      try clear hfz20_1
                      try clear hfz20_2
                      try clear hfz20_3
                      try clear hfz20_4
                      try clear hfz20_5
                      try clear hfz20_6
                      try clear hx110_0
                      try clear hx112_0
                      try clear p110
                      try clear p112
                      try clear p2
                      try clear p6
                      try clear q110
                      try clear q112
                      obtain ⟨kq, x61_16, rfl, HA, HJ16, HO_5, BK115, HB⟩ := hcut
                      cases kq with
                      | zero => exact absurd HA.out (by simp [skymosaicref31_Script.j2])
                      | succ kj16 =>
                        have H := HA.out
                        clear HA
                        simp only [skymosaicref31_Script.j2] at H
                        by_cases c23 : x61_16 = true
                        · subst c23
                          have H1 : (if x5_1.length < 2199023255552 then (skymosaicref31_Script.l0 kj16 l0 a1 (x5_1 ++ [(⟨0, t114, (wrap64 ((Int.tmod (wrap64 (Int.tdiv t113 3)) 14) - 2)), (Int.tmod (wrap64 (Int.tdiv t113 7)) 30), (wrap64 (x6_1 + (Int.tmod t113 3))), (wrap64 ((Int.tmod t113 9) - 2)), (IntKind.u64.wrap (t113))⟩ : S38)]) (wrap64 (x6_1 + (Int.tmod t113 3))) (wrap64 (x7_1 + 2))) else (none)) = some r := by rw [if_pos rfl] at H; exact H
                          clear H
                          have H := H1
                          clear H1
                          by_cases c24 : x5_1.length < 2199023255552
                          · rw [if_pos c24] at H
                            have LMc24 := Aside0.mk c24
                            clear c24
                            obtain ⟨y116, hy116⟩ : ∃ y_ : List (S38), y_ = (x5_1 ++ [(⟨0, t114, (wrap64 ((Int.tmod (wrap64 (Int.tdiv t113 3)) 14) - 2)), (Int.tmod (wrap64 (Int.tdiv t113 7)) 30), (wrap64 (x6_1 + (Int.tmod t113 3))), (wrap64 ((Int.tmod t113 9) - 2)), (IntKind.u64.wrap (t113))⟩ : S38)]) := ⟨_, rfl⟩
                            replace H : (skymosaicref31_Script.l0 kj16 l0 a1 y116 (wrap64 (x6_1 + (Int.tmod t113 3))) (wrap64 (x7_1 + 2))) = some r := by first | (rw [hy116]; with_reducible exact H) | (have H2_ := (Option.bind_some _ _).symm.trans H; rw [hy116]; with_reducible exact H2_) | (have H2_ := (Option.bind_some _ _).symm.trans H; with_reducible exact H2_) | with_reducible exact H | (rw [hy116]; exact H) | exact H
                            have Ny116 := Aside0.mk hy116
                            clear hy116
                            have H' := Aside0.mk H
                            clear H
                            have hcz25_0 : wc.cell? ⟨gb115, 0, none⟩ = some (.int .i64 0) := (blk_cell BK115.out 0).trans rfl
                            have hcz25_1 : wc.cell? ⟨gb115, 1, none⟩ = some (.string t114) := (blk_cell BK115.out 1).trans rfl
                            have hcz25_2 : wc.cell? ⟨gb115, 2, none⟩ = some (.int .i64 (wrap64 ((Int.tmod (wrap64 (Int.tdiv t113 3)) 14) - 2))) := (blk_cell BK115.out 2).trans rfl
                            have hcz25_3 : wc.cell? ⟨gb115, 3, none⟩ = some (.int .i64 (Int.tmod (wrap64 (Int.tdiv t113 7)) 30)) := (blk_cell BK115.out 3).trans rfl
                            have hcz25_4 : wc.cell? ⟨gb115, 4, none⟩ = some (.int .i64 (wrap64 (x6_1 + (Int.tmod t113 3)))) := (blk_cell BK115.out 4).trans rfl
                            have hcz25_5 : wc.cell? ⟨gb115, 5, none⟩ = some (.int .i64 (wrap64 ((Int.tmod t113 9) - 2))) := (blk_cell BK115.out 5).trans rfl
                            have hcz25_6 : wc.cell? ⟨gb115, 6, none⟩ = some (.int .u64 (IntKind.u64.wrap (t113))) := (blk_cell BK115.out 6).trans rfl
                            have hfz25_0 := blk_frozen BK115.out 0
                            have hfz25_1 := blk_frozen BK115.out 1
                            have hfz25_2 := blk_frozen BK115.out 2
                            have hfz25_3 := blk_frozen BK115.out 3
                            have hfz25_4 := blk_frozen BK115.out 4
                            have hfz25_5 := blk_frozen BK115.out 5
                            have hfz25_6 := blk_frozen BK115.out 6
                            go_wp2_with (first | ((with_reducible refine gate_builtin (b := .append) (xs := #[.tmp 81, .tmp 83]) rfl ?_); (try (refine gate_guard (by rfl) ?_; dsimp only)); at_builtin; refine Kd.R_append k38 (w0 := w) w.heap.size rfl (.tmp 81) (.tmp 83) 34 38 (.agg #[(.int .i64 0), (.string ⟨#[]⟩), (.int .i64 0), (.int .i64 0), (.int .i64 0), (.int .i64 0), (.int .u64 0)]) 64 rfl Try.underlying34 info38 rfl (by decide) (by omega) u5 x5_1 (⟨0, t114, (wrap64 ((Int.tmod (wrap64 (Int.tdiv t113 3)) 14) - 2)), (Int.tmod (wrap64 (Int.tdiv t113 7)) 30), (wrap64 (x6_1 + (Int.tmod t113 3))), (wrap64 ((Int.tmod t113 9) - 2)), (IntKind.u64.wrap (t113))⟩ : S38) [.int .i64 0, .string t114, .int .i64 (wrap64 ((Int.tmod (wrap64 (Int.tdiv t113 3)) 14) - 2)), .int .i64 (Int.tmod (wrap64 (Int.tdiv t113 7)) 30), .int .i64 (wrap64 (x6_1 + (Int.tmod t113 3))), .int .i64 (wrap64 ((Int.tmod t113 9) - 2)), .int .u64 (IntKind.u64.wrap (t113))] (fun k_ => k_ ≠ gb115) (fun _ => False) rfl (by first | (go_simp; done) | (go_simp; rfl)) ?aP (fun _ hk => hk.elim) ?aF ?aO ?aB ?aS ?aL ?_; (case aP => exact k38_mkM _ _ _ (⟨0, t114, (wrap64 ((Int.tmod (wrap64 (Int.tdiv t113 3)) 14) - 2)), (Int.tmod (wrap64 (Int.tdiv t113 7)) 30), (wrap64 (x6_1 + (Int.tmod t113 3))), (wrap64 ((Int.tmod t113 9) - 2)), (IntKind.u64.wrap (t113))⟩ : S38)); (case aB => exact (by repeat (first | (with_reducible first | exact HB.out | apply below_alloc | apply pw_below_drewN | apply below_drew1 | refine below_set ?_ GE115.out) | exact HB.out))); (case aF => exact (fun k_ hk => Kd.freshB (g := gb115) (o := .cells #[.int .i64 0, .string t114, .int .i64 (wrap64 ((Int.tmod (wrap64 (Int.tdiv t113 3)) 14) - 2)), .int .i64 (Int.tmod (wrap64 (Int.tdiv t113 7)) 30), .int .i64 (wrap64 (x6_1 + (Int.tmod t113 3))), .int .i64 (wrap64 ((Int.tmod t113 9) - 2)), .int .u64 (IntKind.u64.wrap (t113))] 38 (0, 0)) (by (with_reducible repeat (first | refine blk_drewN ?_ _ | refine blk_drew ?_ | refine blk_alloc ?_ _)); refine blk_put (cs := #[.int .i64 0, .string t114, .int .i64 (wrap64 ((Int.tmod (wrap64 (Int.tdiv t113 3)) 14) - 2)), .int .i64 (Int.tmod (wrap64 (Int.tdiv t113 7)) 30), .int .i64 (wrap64 (x6_1 + (Int.tmod t113 3))), .int .i64 (wrap64 ((Int.tmod t113 9) - 2)), .int .u64 (IntKind.u64.wrap (t113))]) ?_ 0 _ rfl; (with_reducible repeat (first | refine blk_drewN ?_ _ | refine blk_drew ?_ | refine blk_alloc ?_ _)); exact BK115.out) k_ hk)); (case aO => exact (by (with_reducible repeat (first | apply Kd.R_alloc | apply Kd.R_drewN | apply Kd.R_drew)); exact Kd.R_mono (Kd.R_far (p := ⟨gb115, 0, none⟩) (Kd.R_mono HO_5.out (fun k_ hk => (⟨hk, hk⟩ : _ ∧ k_ ≠ gb115))) (fun _ hk => hk.2) (.int .i64 0)) (fun _ hk => hk.1))); (case aS => exact (below_size (by repeat (first | (with_reducible first | exact HB.out | apply below_alloc | apply pw_below_drewN | apply below_drew1 | refine below_set ?_ GE115.out) | exact HB.out)))); (case aL => have := LMc24.out; omega); intro v117 w26 ho hb hg hat; rw [← Ny116.out] at ho; have n0_ := Aside0.mk (blk_grown (g := gb115) (o := .cells #[.int .i64 0, .string t114, .int .i64 (wrap64 ((Int.tmod (wrap64 (Int.tdiv t113 3)) 14) - 2)), .int .i64 (Int.tmod (wrap64 (Int.tdiv t113 7)) 30), .int .i64 (wrap64 (x6_1 + (Int.tmod t113 3))), .int .i64 (wrap64 ((Int.tmod t113 9) - 2)), .int .u64 (IntKind.u64.wrap (t113))] 38 (0, 0)) (by (with_reducible repeat (first | refine blk_drewN ?_ _ | refine blk_drew ?_ | refine blk_alloc ?_ _)); refine blk_put (cs := #[.int .i64 0, .string t114, .int .i64 (wrap64 ((Int.tmod (wrap64 (Int.tdiv t113 3)) 14) - 2)), .int .i64 (Int.tmod (wrap64 (Int.tdiv t113 7)) 30), .int .i64 (wrap64 (x6_1 + (Int.tmod t113 3))), .int .i64 (wrap64 ((Int.tmod t113 9) - 2)), .int .u64 (IntKind.u64.wrap (t113))]) ?_ 0 _ rfl; (with_reducible repeat (first | refine blk_drewN ?_ _ | refine blk_drew ?_ | refine blk_alloc ?_ _)); exact BK115.out) hg (Kd.R_away HO_5.out (fun _ hk => hk))); have n1_ := Aside0.mk (hb); have n2_ := Aside0.mk (ho); clear BK115; clear HB; clear HO_5; have BK115 := n0_; have HB := n1_; have HO118 := n2_; clear n0_ n1_ n2_; clear ho hb hg hat))
                            go_roundg kj16
                            case measure => have := HK1.out; have := HJ4.out; have := HJ16.out; omega
                            case rel => exact ⟨(y116), ((wrap64 (x6_1 + (Int.tmod t113 3)))), (wrap64 (x7_1 + 2)), (by first | rfl | (simp; done) | (simp [*]; done)), (by first | rfl | (simp; done) | (simp [*]; done)), H', ⟨by have := HK1.out; have := HJ4.out; have := HJ16.out; omega⟩, ⟨by (with_reducible repeat (first | apply Kd.R_alloc | apply Kd.R_drewN | apply Kd.R_drew)); exact Kd.R_mono HO118.out (fun _ hk => trivial)⟩, ⟨by repeat (first | (with_reducible first | exact HB.out | apply below_alloc | apply pw_below_drewN | apply below_drew1 | refine below_set ?_ GE115.out) | exact HB.out)⟩⟩
                          · rw [if_neg c24] at H
                            exact absurd H (by simp)
                        · replace c23 := Bool.eq_false_iff.mpr c23
                          subst c23
                          have H1 : (if (Int.tmod t111 16) = 3 then (skymosaicref31_Script.j3 kj16 l0 a1 x5_1 (wrap64 (x6_1 + (Int.tmod t113 3))) x7_1 t113 (Int.tmod t111 16) ((Int.tmod t111 16) == 3) 0 t114 (wrap64 ((Int.tmod (wrap64 (Int.tdiv t113 3)) 14) - 2)) (Int.tmod (wrap64 (Int.tdiv t113 7)) 30) (wrap64 (x6_1 + (Int.tmod t113 3))) (wrap64 ((Int.tmod t113 9) - 2)) (IntKind.u64.wrap (t113))) else (skymosaicref31_Script.j3 kj16 l0 a1 x5_1 (wrap64 (x6_1 + (Int.tmod t113 3))) x7_1 t113 (Int.tmod t111 16) ((Int.tmod t111 16) == 4) 0 t114 (wrap64 ((Int.tmod (wrap64 (Int.tdiv t113 3)) 14) - 2)) (Int.tmod (wrap64 (Int.tdiv t113 7)) 30) (wrap64 (x6_1 + (Int.tmod t113 3))) (wrap64 ((Int.tmod t113 9) - 2)) (IntKind.u64.wrap (t113)))) = some r := by rw [if_neg (show ¬ (false = true) by decide)] at H; exact H
                          clear H
                          have H := H1
                          clear H1
                          have HC27 := Aside0.mk H
                          clear H
                          go_upto_if 66 with (fail)
                          go_cut [66] (fun v66 wc => ∃ (kq : Nat) (x66_26 : Bool), v66 = .bool x66_26 ∧ Aside0 (skymosaicref31_Script.j3 kq l0 a1 x5_1 (wrap64 (x6_1 + (Int.tmod t113 3))) x7_1 t113 (Int.tmod t111 16) x66_26 0 t114 (wrap64 ((Int.tmod (wrap64 (Int.tdiv t113 3)) 14) - 2)) (Int.tmod (wrap64 (Int.tdiv t113 7)) 30) (wrap64 (x6_1 + (Int.tmod t113 3))) (wrap64 ((Int.tmod t113 9) - 2)) (IntKind.u64.wrap (t113)) = some r) ∧ Aside0 (kq ≤ kj16) ∧ Aside0 (Kd.R k38 38 wc w.heap.size (fun k_ => k_ ≠ gb115) u5 x5_1) ∧ Aside0 (wc.heap[gb115]? = some (.cells #[.int .i64 0, .string t114, .int .i64 (wrap64 ((Int.tmod (wrap64 (Int.tdiv t113 3)) 14) - 2)), .int .i64 (Int.tmod (wrap64 (Int.tdiv t113 7)) 30), .int .i64 (wrap64 (x6_1 + (Int.tmod t113 3))), .int .i64 (wrap64 ((Int.tmod t113 9) - 2)), .int .u64 (IntKind.u64.wrap (t113))] 38 (0, 0))) ∧ Aside0 (Below w.heap.size w wc))
                          case first =>
                            have H := HC27.out
                            clear HC27
                            by_cases c28 : (Int.tmod t111 16) = 3
                            · rw [if_pos c28] at H
                              have c28b0 : ((Int.tmod t111 16) == 3) = true := beq_iff_eq.mpr c28
                              have c28b1 : ((Int.tmod t111 16) != 3) = false := bne_eq_false_iff_eq.mpr c28
                              clear c28
                              (first | rw [c28b0] | (simp only [i64_w, i32_w]; rw [c28b0]) | skip)
                              have H' := Aside0.mk H
                              clear H
                              go_wp2
                              go_meet
                              case rel => exact ⟨_, (((Int.tmod t111 16) == 3)), (by first | rfl | (simp; done) | (simp [*]; done)), H', ⟨by have := HK1.out; have := HJ4.out; have := HJ16.out; first | omega | exact Nat.le_refl _⟩, ⟨by (with_reducible repeat (first | apply Kd.R_alloc | apply Kd.R_drewN | apply Kd.R_drew)); exact HO_5.out⟩, ⟨by (with_reducible repeat (first | refine blk_drewN ?_ _ | refine blk_drew ?_ | refine blk_alloc ?_ _)); exact BK115.out⟩, ⟨by repeat (first | (with_reducible first | exact HB.out | apply below_alloc | apply pw_below_drewN | apply below_drew1 | refine below_set ?_ GE115.out) | exact HB.out)⟩⟩
                            · rw [if_neg c28] at H
                              have c28b0 : ((Int.tmod t111 16) == 3) = false := beq_eq_false_iff_ne.mpr c28
                              have c28b1 : ((Int.tmod t111 16) != 3) = true := bne_iff_ne.mpr c28
                              (first | rw [c28b0] | (simp only [i64_w, i32_w]; rw [c28b0]) | skip)
                              have H' := Aside0.mk H
                              clear H
                              go_wp2
                              go_meet
                              case rel => exact ⟨_, (((Int.tmod t111 16) == 4)), (by first | rfl | (simp; done) | (simp [*]; done)), H', ⟨by have := HK1.out; have := HJ4.out; have := HJ16.out; first | omega | exact Nat.le_refl _⟩, ⟨by (with_reducible repeat (first | apply Kd.R_alloc | apply Kd.R_drewN | apply Kd.R_drew)); exact HO_5.out⟩, ⟨by (with_reducible repeat (first | refine blk_drewN ?_ _ | refine blk_drew ?_ | refine blk_alloc ?_ _)); exact BK115.out⟩, ⟨by repeat (first | (with_reducible first | exact HB.out | apply below_alloc | apply pw_below_drewN | apply below_drew1 | refine below_set ?_ GE115.out) | exact HB.out)⟩⟩
                          case rest =>
                            clear HC27
                            try clear c1
                            try clear p1
                            try clear q1
                            try clear hx1
                            try clear c2
                            try clear p2
                            try clear c6
                            try clear c6b0
                            try clear p6
                            try clear c7
                            try clear c8
                            try clear c9
                            try clear c9b0
                            try clear c10
                            try clear c10b0
                            try clear p11
                            try clear q11
                            try clear hx11
                            try clear c13
                            try clear c13b0
                            try clear c14
                            try clear c14b0
                            try clear c15
                            try clear c21
                            try clear c21b0
                            try clear c21b1
                            try clear c22
                            try clear c22b0
                            try clear c22b1
                            try clear c23
                            try clear c24
                            try clear c28
                            try clear c28b0
                            try clear c28b1
                            try clear hcz20_0
                            try clear hcz20_1
                            try clear hcz20_2
                            try clear hcz20_3
                            try clear hcz20_4
                            try clear hcz20_5
                            try clear hcz20_6
                            try clear hcz25_0
                            try clear hcz25_1
                            try clear hcz25_2
                            try clear hcz25_3
                            try clear hcz25_4
                            try clear hcz25_5
                            try clear hcz25_6
                            try clear hfz20_0
                            try clear hfz20_1
                            try clear hfz20_2
                            try clear hfz20_3
                            try clear hfz20_4
                            try clear hfz20_5
                            try clear hfz20_6
                            try clear hfz25_0
                            try clear hfz25_1
                            try clear hfz25_2
                            try clear hfz25_3
                            try clear hfz25_4
                            try clear hfz25_5
                            try clear hfz25_6
                            try clear hx110_0
                            try clear hx112_0
                            try clear p1
                            try clear p11
                            try clear p110
                            try clear p112
                            try clear p2
                            try clear p6
                            try clear q1
                            try clear q11
                            try clear q110
                            try clear q112
                            obtain ⟨kq, x66_26, rfl, HA, HJ26, HO_5, BK115, HB⟩ := hcut
                            cases kq with
                            | zero => exact absurd HA.out (by simp [skymosaicref31_Script.j3])
                            | succ kj26 =>
                              have H := HA.out
                              clear HA
                              simp only [skymosaicref31_Script.j3] at H
                              by_cases c29 : x66_26 = true
                              · subst c29
                                have H1 : (if x5_1.length < 2199023255552 then (skymosaicref31_Script.l0 kj26 l0 a1 (x5_1 ++ [(⟨2, t114, (wrap64 ((Int.tmod (wrap64 (Int.tdiv t113 3)) 14) - 2)), (Int.tmod (wrap64 (Int.tdiv t113 7)) 30), (wrap64 (x6_1 + (Int.tmod t113 3))), (wrap64 ((Int.tmod t113 9) - 2)), (IntKind.u64.wrap (t113))⟩ : S38)]) (wrap64 (x6_1 + (Int.tmod t113 3))) (wrap64 (x7_1 + 2))) else (none)) = some r := by rw [if_pos rfl] at H; exact H
                                clear H
                                have H := H1
                                clear H1
                                by_cases c30 : x5_1.length < 2199023255552
                                · rw [if_pos c30] at H
                                  have LMc30 := Aside0.mk c30
                                  clear c30
                                  obtain ⟨y119, hy119⟩ : ∃ y_ : List (S38), y_ = (x5_1 ++ [(⟨2, t114, (wrap64 ((Int.tmod (wrap64 (Int.tdiv t113 3)) 14) - 2)), (Int.tmod (wrap64 (Int.tdiv t113 7)) 30), (wrap64 (x6_1 + (Int.tmod t113 3))), (wrap64 ((Int.tmod t113 9) - 2)), (IntKind.u64.wrap (t113))⟩ : S38)]) := ⟨_, rfl⟩
                                  replace H : (skymosaicref31_Script.l0 kj26 l0 a1 y119 (wrap64 (x6_1 + (Int.tmod t113 3))) (wrap64 (x7_1 + 2))) = some r := by first | (rw [hy119]; with_reducible exact H) | (have H2_ := (Option.bind_some _ _).symm.trans H; rw [hy119]; with_reducible exact H2_) | (have H2_ := (Option.bind_some _ _).symm.trans H; with_reducible exact H2_) | with_reducible exact H | (rw [hy119]; exact H) | exact H
                                  have Ny119 := Aside0.mk hy119
                                  clear hy119
                                  have H' := Aside0.mk H
                                  clear H
                                  have hcz31_0 : wc.cell? ⟨gb115, 0, none⟩ = some (.int .i64 0) := (blk_cell BK115.out 0).trans rfl
                                  have hcz31_1 : wc.cell? ⟨gb115, 1, none⟩ = some (.string t114) := (blk_cell BK115.out 1).trans rfl
                                  have hcz31_2 : wc.cell? ⟨gb115, 2, none⟩ = some (.int .i64 (wrap64 ((Int.tmod (wrap64 (Int.tdiv t113 3)) 14) - 2))) := (blk_cell BK115.out 2).trans rfl
                                  have hcz31_3 : wc.cell? ⟨gb115, 3, none⟩ = some (.int .i64 (Int.tmod (wrap64 (Int.tdiv t113 7)) 30)) := (blk_cell BK115.out 3).trans rfl
                                  have hcz31_4 : wc.cell? ⟨gb115, 4, none⟩ = some (.int .i64 (wrap64 (x6_1 + (Int.tmod t113 3)))) := (blk_cell BK115.out 4).trans rfl
                                  have hcz31_5 : wc.cell? ⟨gb115, 5, none⟩ = some (.int .i64 (wrap64 ((Int.tmod t113 9) - 2))) := (blk_cell BK115.out 5).trans rfl
                                  have hcz31_6 : wc.cell? ⟨gb115, 6, none⟩ = some (.int .u64 (IntKind.u64.wrap (t113))) := (blk_cell BK115.out 6).trans rfl
                                  have hfz31_0 := blk_frozen BK115.out 0
                                  have hfz31_1 := blk_frozen BK115.out 1
                                  have hfz31_2 := blk_frozen BK115.out 2
                                  have hfz31_3 := blk_frozen BK115.out 3
                                  have hfz31_4 := blk_frozen BK115.out 4
                                  have hfz31_5 := blk_frozen BK115.out 5
                                  have hfz31_6 := blk_frozen BK115.out 6
                                  go_wp2_with (first | ((with_reducible refine gate_builtin (b := .append) (xs := #[.tmp 81, .tmp 83]) rfl ?_); (try (refine gate_guard (by rfl) ?_; dsimp only)); at_builtin; refine Kd.R_append k38 (w0 := w) w.heap.size rfl (.tmp 81) (.tmp 83) 34 38 (.agg #[(.int .i64 0), (.string ⟨#[]⟩), (.int .i64 0), (.int .i64 0), (.int .i64 0), (.int .i64 0), (.int .u64 0)]) 64 rfl Try.underlying34 info38 rfl (by decide) (by omega) u5 x5_1 (⟨2, t114, (wrap64 ((Int.tmod (wrap64 (Int.tdiv t113 3)) 14) - 2)), (Int.tmod (wrap64 (Int.tdiv t113 7)) 30), (wrap64 (x6_1 + (Int.tmod t113 3))), (wrap64 ((Int.tmod t113 9) - 2)), (IntKind.u64.wrap (t113))⟩ : S38) [.int .i64 2, .string t114, .int .i64 (wrap64 ((Int.tmod (wrap64 (Int.tdiv t113 3)) 14) - 2)), .int .i64 (Int.tmod (wrap64 (Int.tdiv t113 7)) 30), .int .i64 (wrap64 (x6_1 + (Int.tmod t113 3))), .int .i64 (wrap64 ((Int.tmod t113 9) - 2)), .int .u64 (IntKind.u64.wrap (t113))] (fun k_ => k_ ≠ gb115) (fun _ => False) rfl (by first | (go_simp; done) | (go_simp; rfl)) ?aP (fun _ hk => hk.elim) ?aF ?aO ?aB ?aS ?aL ?_; (case aP => exact k38_mkM _ _ _ (⟨2, t114, (wrap64 ((Int.tmod (wrap64 (Int.tdiv t113 3)) 14) - 2)), (Int.tmod (wrap64 (Int.tdiv t113 7)) 30), (wrap64 (x6_1 + (Int.tmod t113 3))), (wrap64 ((Int.tmod t113 9) - 2)), (IntKind.u64.wrap (t113))⟩ : S38)); (case aB => exact (by repeat (first | (with_reducible first | exact HB.out | apply below_alloc | apply pw_below_drewN | apply below_drew1 | refine below_set ?_ GE115.out) | exact HB.out))); (case aF => exact (fun k_ hk => Kd.freshB (g := gb115) (o := .cells #[.int .i64 2, .string t114, .int .i64 (wrap64 ((Int.tmod (wrap64 (Int.tdiv t113 3)) 14) - 2)), .int .i64 (Int.tmod (wrap64 (Int.tdiv t113 7)) 30), .int .i64 (wrap64 (x6_1 + (Int.tmod t113 3))), .int .i64 (wrap64 ((Int.tmod t113 9) - 2)), .int .u64 (IntKind.u64.wrap (t113))] 38 (0, 0)) (by (with_reducible repeat (first | refine blk_drewN ?_ _ | refine blk_drew ?_ | refine blk_alloc ?_ _)); refine blk_put (cs := #[.int .i64 0, .string t114, .int .i64 (wrap64 ((Int.tmod (wrap64 (Int.tdiv t113 3)) 14) - 2)), .int .i64 (Int.tmod (wrap64 (Int.tdiv t113 7)) 30), .int .i64 (wrap64 (x6_1 + (Int.tmod t113 3))), .int .i64 (wrap64 ((Int.tmod t113 9) - 2)), .int .u64 (IntKind.u64.wrap (t113))]) ?_ 0 _ rfl; (with_reducible repeat (first | refine blk_drewN ?_ _ | refine blk_drew ?_ | refine blk_alloc ?_ _)); exact BK115.out) k_ hk)); (case aO => exact (by (with_reducible repeat (first | apply Kd.R_alloc | apply Kd.R_drewN | apply Kd.R_drew)); exact Kd.R_mono (Kd.R_far (p := ⟨gb115, 0, none⟩) (Kd.R_mono HO_5.out (fun k_ hk => (⟨hk, hk⟩ : _ ∧ k_ ≠ gb115))) (fun _ hk => hk.2) (.int .i64 2)) (fun _ hk => hk.1))); (case aS => exact (below_size (by repeat (first | (with_reducible first | exact HB.out | apply below_alloc | apply pw_below_drewN | apply below_drew1 | refine below_set ?_ GE115.out) | exact HB.out)))); (case aL => have := LMc30.out; omega); intro v120 w32 ho hb hg hat; rw [← Ny119.out] at ho; have n0_ := Aside0.mk (blk_grown (g := gb115) (o := .cells #[.int .i64 2, .string t114, .int .i64 (wrap64 ((Int.tmod (wrap64 (Int.tdiv t113 3)) 14) - 2)), .int .i64 (Int.tmod (wrap64 (Int.tdiv t113 7)) 30), .int .i64 (wrap64 (x6_1 + (Int.tmod t113 3))), .int .i64 (wrap64 ((Int.tmod t113 9) - 2)), .int .u64 (IntKind.u64.wrap (t113))] 38 (0, 0)) (by (with_reducible repeat (first | refine blk_drewN ?_ _ | refine blk_drew ?_ | refine blk_alloc ?_ _)); refine blk_put (cs := #[.int .i64 0, .string t114, .int .i64 (wrap64 ((Int.tmod (wrap64 (Int.tdiv t113 3)) 14) - 2)), .int .i64 (Int.tmod (wrap64 (Int.tdiv t113 7)) 30), .int .i64 (wrap64 (x6_1 + (Int.tmod t113 3))), .int .i64 (wrap64 ((Int.tmod t113 9) - 2)), .int .u64 (IntKind.u64.wrap (t113))]) ?_ 0 _ rfl; (with_reducible repeat (first | refine blk_drewN ?_ _ | refine blk_drew ?_ | refine blk_alloc ?_ _)); exact BK115.out) hg (Kd.R_away HO_5.out (fun _ hk => hk))); have n1_ := Aside0.mk (hb); have n2_ := Aside0.mk (ho); clear BK115; clear HB; clear HO_5; have BK115 := n0_; have HB := n1_; have HO121 := n2_; clear n0_ n1_ n2_; clear ho hb hg hat))
                                  go_roundg kj26
                                  case measure => have := HK1.out; have := HJ4.out; have := HJ16.out; have := HJ26.out; omega
                                  case rel => exact ⟨(y119), ((wrap64 (x6_1 + (Int.tmod t113 3)))), (wrap64 (x7_1 + 2)), (by first | rfl | (simp; done) | (simp [*]; done)), (by first | rfl | (simp; done) | (simp [*]; done)), H', ⟨by have := HK1.out; have := HJ4.out; have := HJ16.out; have := HJ26.out; omega⟩, ⟨by (with_reducible repeat (first | apply Kd.R_alloc | apply Kd.R_drewN | apply Kd.R_drew)); exact Kd.R_mono HO121.out (fun _ hk => trivial)⟩, ⟨by repeat (first | (with_reducible first | exact HB.out | apply below_alloc | apply pw_below_drewN | apply below_drew1 | refine below_set ?_ GE115.out) | exact HB.out)⟩⟩
                                · rw [if_neg c30] at H
                                  exact absurd H (by simp)
                              · replace c29 := Bool.eq_false_iff.mpr c29
                                subst c29
                                have H1 : (if (Int.tmod t111 16) = 5 then (if x5_1.length < 2199023255552 then (skymosaicref31_Script.l0 kj26 l0 a1 (x5_1 ++ [(⟨1, t114, (wrap64 ((Int.tmod (wrap64 (Int.tdiv t113 3)) 14) - 2)), (Int.tmod (wrap64 (Int.tdiv t113 7)) 30), wrap64 ((Int.tmod t113 40) - 2), wrap64 ((Int.tmod t113 8) - 4), (IntKind.u64.wrap (t113))⟩ : S38)]) (wrap64 (x6_1 + (Int.tmod t113 3))) (wrap64 (x7_1 + 2))) else (none)) else (if x5_1.length < 2199023255552 then (skymosaicref31_Script.l0 kj26 l0 a1 (x5_1 ++ [(⟨1, t114, (wrap64 ((Int.tmod (wrap64 (Int.tdiv t113 3)) 14) - 2)), (Int.tmod (wrap64 (Int.tdiv t113 7)) 30), (wrap64 (x6_1 + (Int.tmod t113 3))), (wrap64 ((Int.tmod t113 9) - 2)), (IntKind.u64.wrap (t113))⟩ : S38)]) (wrap64 (x6_1 + (Int.tmod t113 3))) (wrap64 (x7_1 + 2))) else (none))) = some r := by rw [if_neg (show ¬ (false = true) by decide)] at H; exact H
                                clear H
                                have H := H1
                                clear H1
                                by_cases c33 : (Int.tmod t111 16) = 5
                                · rw [if_pos c33] at H
                                  have c33b0 : ((Int.tmod t111 16) == 5) = true := beq_iff_eq.mpr c33
                                  have c33b1 : ((Int.tmod t111 16) != 5) = false := bne_eq_false_iff_eq.mpr c33
                                  clear c33
                                  by_cases c34 : x5_1.length < 2199023255552
                                  · rw [if_pos c34] at H
                                    have LMc34 := Aside0.mk c34
                                    clear c34
                                    obtain ⟨y122, hy122⟩ : ∃ y_ : List (S38), y_ = (x5_1 ++ [(⟨1, t114, (wrap64 ((Int.tmod (wrap64 (Int.tdiv t113 3)) 14) - 2)), (Int.tmod (wrap64 (Int.tdiv t113 7)) 30), wrap64 ((Int.tmod t113 40) - 2), wrap64 ((Int.tmod t113 8) - 4), (IntKind.u64.wrap (t113))⟩ : S38)]) := ⟨_, rfl⟩
                                    replace H : (skymosaicref31_Script.l0 kj26 l0 a1 y122 (wrap64 (x6_1 + (Int.tmod t113 3))) (wrap64 (x7_1 + 2))) = some r := by first | (rw [hy122]; with_reducible exact H) | (have H2_ := (Option.bind_some _ _).symm.trans H; rw [hy122]; with_reducible exact H2_) | (have H2_ := (Option.bind_some _ _).symm.trans H; with_reducible exact H2_) | with_reducible exact H | (rw [hy122]; exact H) | exact H
                                    have Ny122 := Aside0.mk hy122
                                    clear hy122
                                    have H' := Aside0.mk H
                                    clear H
                                    have hcz35_0 : wc.cell? ⟨gb115, 0, none⟩ = some (.int .i64 0) := (blk_cell BK115.out 0).trans rfl
                                    have hcz35_1 : wc.cell? ⟨gb115, 1, none⟩ = some (.string t114) := (blk_cell BK115.out 1).trans rfl
                                    have hcz35_2 : wc.cell? ⟨gb115, 2, none⟩ = some (.int .i64 (wrap64 ((Int.tmod (wrap64 (Int.tdiv t113 3)) 14) - 2))) := (blk_cell BK115.out 2).trans rfl
                                    have hcz35_3 : wc.cell? ⟨gb115, 3, none⟩ = some (.int .i64 (Int.tmod (wrap64 (Int.tdiv t113 7)) 30)) := (blk_cell BK115.out 3).trans rfl
                                    have hcz35_4 : wc.cell? ⟨gb115, 4, none⟩ = some (.int .i64 (wrap64 (x6_1 + (Int.tmod t113 3)))) := (blk_cell BK115.out 4).trans rfl
                                    have hcz35_5 : wc.cell? ⟨gb115, 5, none⟩ = some (.int .i64 (wrap64 ((Int.tmod t113 9) - 2))) := (blk_cell BK115.out 5).trans rfl
                                    have hcz35_6 : wc.cell? ⟨gb115, 6, none⟩ = some (.int .u64 (IntKind.u64.wrap (t113))) := (blk_cell BK115.out 6).trans rfl
                                    have hfz35_0 := blk_frozen BK115.out 0
                                    have hfz35_1 := blk_frozen BK115.out 1
                                    have hfz35_2 := blk_frozen BK115.out 2
                                    have hfz35_3 := blk_frozen BK115.out 3
                                    have hfz35_4 := blk_frozen BK115.out 4
                                    have hfz35_5 := blk_frozen BK115.out 5
                                    have hfz35_6 := blk_frozen BK115.out 6
                                    go_wp2_with (first | ((with_reducible refine gate_builtin (b := .append) (xs := #[.tmp 81, .tmp 83]) rfl ?_); (try (refine gate_guard (by rfl) ?_; dsimp only)); at_builtin; refine Kd.R_append k38 (w0 := w) w.heap.size rfl (.tmp 81) (.tmp 83) 34 38 (.agg #[(.int .i64 0), (.string ⟨#[]⟩), (.int .i64 0), (.int .i64 0), (.int .i64 0), (.int .i64 0), (.int .u64 0)]) 64 rfl Try.underlying34 info38 rfl (by decide) (by omega) u5 x5_1 (⟨1, t114, (wrap64 ((Int.tmod (wrap64 (Int.tdiv t113 3)) 14) - 2)), (Int.tmod (wrap64 (Int.tdiv t113 7)) 30), wrap64 ((Int.tmod t113 40) - 2), wrap64 ((Int.tmod t113 8) - 4), (IntKind.u64.wrap (t113))⟩ : S38) [.int .i64 1, .string t114, .int .i64 (wrap64 ((Int.tmod (wrap64 (Int.tdiv t113 3)) 14) - 2)), .int .i64 (Int.tmod (wrap64 (Int.tdiv t113 7)) 30), .int .i64 (wrap64 ((Int.tmod t113 40) - 2)), .int .i64 (wrap64 ((Int.tmod t113 8) - 4)), .int .u64 (IntKind.u64.wrap (t113))] (fun k_ => k_ ≠ gb115) (fun _ => False) rfl (by first | (go_simp; done) | (go_simp; rfl)) ?aP (fun _ hk => hk.elim) ?aF ?aO ?aB ?aS ?aL ?_; (case aP => exact k38_mkM _ _ _ (⟨1, t114, (wrap64 ((Int.tmod (wrap64 (Int.tdiv t113 3)) 14) - 2)), (Int.tmod (wrap64 (Int.tdiv t113 7)) 30), wrap64 ((Int.tmod t113 40) - 2), wrap64 ((Int.tmod t113 8) - 4), (IntKind.u64.wrap (t113))⟩ : S38)); (case aB => exact (by repeat (first | (with_reducible first | exact HB.out | apply below_alloc | apply pw_below_drewN | apply below_drew1 | refine below_set ?_ GE115.out) | exact HB.out))); (case aF => exact (fun k_ hk => Kd.freshB (g := gb115) (o := .cells #[.int .i64 1, .string t114, .int .i64 (wrap64 ((Int.tmod (wrap64 (Int.tdiv t113 3)) 14) - 2)), .int .i64 (Int.tmod (wrap64 (Int.tdiv t113 7)) 30), .int .i64 (wrap64 ((Int.tmod t113 40) - 2)), .int .i64 (wrap64 ((Int.tmod t113 8) - 4)), .int .u64 (IntKind.u64.wrap (t113))] 38 (0, 0)) (by (with_reducible repeat (first | refine blk_drewN ?_ _ | refine blk_drew ?_ | refine blk_alloc ?_ _)); refine blk_put (cs := #[.int .i64 1, .string t114, .int .i64 (wrap64 ((Int.tmod (wrap64 (Int.tdiv t113 3)) 14) - 2)), .int .i64 (Int.tmod (wrap64 (Int.tdiv t113 7)) 30), .int .i64 (wrap64 ((Int.tmod t113 40) - 2)), .int .i64 (wrap64 ((Int.tmod t113 9) - 2)), .int .u64 (IntKind.u64.wrap (t113))]) ?_ 5 _ rfl; (with_reducible repeat (first | refine blk_drewN ?_ _ | refine blk_drew ?_ | refine blk_alloc ?_ _)); refine blk_put (cs := #[.int .i64 1, .string t114, .int .i64 (wrap64 ((Int.tmod (wrap64 (Int.tdiv t113 3)) 14) - 2)), .int .i64 (Int.tmod (wrap64 (Int.tdiv t113 7)) 30), .int .i64 (wrap64 (x6_1 + (Int.tmod t113 3))), .int .i64 (wrap64 ((Int.tmod t113 9) - 2)), .int .u64 (IntKind.u64.wrap (t113))]) ?_ 4 _ rfl; (with_reducible repeat (first | refine blk_drewN ?_ _ | refine blk_drew ?_ | refine blk_alloc ?_ _)); refine blk_put (cs := #[.int .i64 0, .string t114, .int .i64 (wrap64 ((Int.tmod (wrap64 (Int.tdiv t113 3)) 14) - 2)), .int .i64 (Int.tmod (wrap64 (Int.tdiv t113 7)) 30), .int .i64 (wrap64 (x6_1 + (Int.tmod t113 3))), .int .i64 (wrap64 ((Int.tmod t113 9) - 2)), .int .u64 (IntKind.u64.wrap (t113))]) ?_ 0 _ rfl; (with_reducible repeat (first | refine blk_drewN ?_ _ | refine blk_drew ?_ | refine blk_alloc ?_ _)); exact BK115.out) k_ hk)); (case aO => exact (by (with_reducible repeat (first | apply Kd.R_alloc | apply Kd.R_drewN | apply Kd.R_drew)); exact Kd.R_mono (Kd.R_far (p := ⟨gb115, 5, none⟩) (Kd.R_far (p := ⟨gb115, 4, none⟩) (Kd.R_far (p := ⟨gb115, 0, none⟩) (Kd.R_mono HO_5.out (fun k_ hk => (⟨hk, hk⟩ : _ ∧ k_ ≠ gb115))) (fun _ hk => hk.2) (.int .i64 1)) (fun _ hk => hk.2) (.int .i64 (wrap64 ((Int.tmod t113 40) - 2)))) (fun _ hk => hk.2) (.int .i64 (wrap64 ((Int.tmod t113 8) - 4)))) (fun _ hk => hk.1))); (case aS => exact (below_size (by repeat (first | (with_reducible first | exact HB.out | apply below_alloc | apply pw_below_drewN | apply below_drew1 | refine below_set ?_ GE115.out) | exact HB.out)))); (case aL => have := LMc34.out; omega); intro v123 w36 ho hb hg hat; rw [← Ny122.out] at ho; have n0_ := Aside0.mk (blk_grown (g := gb115) (o := .cells #[.int .i64 1, .string t114, .int .i64 (wrap64 ((Int.tmod (wrap64 (Int.tdiv t113 3)) 14) - 2)), .int .i64 (Int.tmod (wrap64 (Int.tdiv t113 7)) 30), .int .i64 (wrap64 ((Int.tmod t113 40) - 2)), .int .i64 (wrap64 ((Int.tmod t113 8) - 4)), .int .u64 (IntKind.u64.wrap (t113))] 38 (0, 0)) (by (with_reducible repeat (first | refine blk_drewN ?_ _ | refine blk_drew ?_ | refine blk_alloc ?_ _)); refine blk_put (cs := #[.int .i64 1, .string t114, .int .i64 (wrap64 ((Int.tmod (wrap64 (Int.tdiv t113 3)) 14) - 2)), .int .i64 (Int.tmod (wrap64 (Int.tdiv t113 7)) 30), .int .i64 (wrap64 ((Int.tmod t113 40) - 2)), .int .i64 (wrap64 ((Int.tmod t113 9) - 2)), .int .u64 (IntKind.u64.wrap (t113))]) ?_ 5 _ rfl; (with_reducible repeat (first | refine blk_drewN ?_ _ | refine blk_drew ?_ | refine blk_alloc ?_ _)); refine blk_put (cs := #[.int .i64 1, .string t114, .int .i64 (wrap64 ((Int.tmod (wrap64 (Int.tdiv t113 3)) 14) - 2)), .int .i64 (Int.tmod (wrap64 (Int.tdiv t113 7)) 30), .int .i64 (wrap64 (x6_1 + (Int.tmod t113 3))), .int .i64 (wrap64 ((Int.tmod t113 9) - 2)), .int .u64 (IntKind.u64.wrap (t113))]) ?_ 4 _ rfl; (with_reducible repeat (first | refine blk_drewN ?_ _ | refine blk_drew ?_ | refine blk_alloc ?_ _)); refine blk_put (cs := #[.int .i64 0, .string t114, .int .i64 (wrap64 ((Int.tmod (wrap64 (Int.tdiv t113 3)) 14) - 2)), .int .i64 (Int.tmod (wrap64 (Int.tdiv t113 7)) 30), .int .i64 (wrap64 (x6_1 + (Int.tmod t113 3))), .int .i64 (wrap64 ((Int.tmod t113 9) - 2)), .int .u64 (IntKind.u64.wrap (t113))]) ?_ 0 _ rfl; (with_reducible repeat (first | refine blk_drewN ?_ _ | refine blk_drew ?_ | refine blk_alloc ?_ _)); exact BK115.out) hg (Kd.R_away HO_5.out (fun _ hk => hk))); have n1_ := Aside0.mk (hb); have n2_ := Aside0.mk (ho); clear BK115; clear HB; clear HO_5; have BK115 := n0_; have HB := n1_; have HO124 := n2_; clear n0_ n1_ n2_; clear ho hb hg hat))
                                    go_roundg kj26
                                    case measure => have := HK1.out; have := HJ4.out; have := HJ16.out; have := HJ26.out; omega
                                    case rel => exact ⟨(y122), ((wrap64 (x6_1 + (Int.tmod t113 3)))), (wrap64 (x7_1 + 2)), (by first | rfl | (simp; done) | (simp [*]; done)), (by first | rfl | (simp; done) | (simp [*]; done)), H', ⟨by have := HK1.out; have := HJ4.out; have := HJ16.out; have := HJ26.out; omega⟩, ⟨by (with_reducible repeat (first | apply Kd.R_alloc | apply Kd.R_drewN | apply Kd.R_drew)); exact Kd.R_mono HO124.out (fun _ hk => trivial)⟩, ⟨by repeat (first | (with_reducible first | exact HB.out | apply below_alloc | apply pw_below_drewN | apply below_drew1 | refine below_set ?_ GE115.out) | exact HB.out)⟩⟩
                                  · rw [if_neg c34] at H
                                    exact absurd H (by simp)
                                · rw [if_neg c33] at H
                                  have c33b0 : ((Int.tmod t111 16) == 5) = false := beq_eq_false_iff_ne.mpr c33
                                  have c33b1 : ((Int.tmod t111 16) != 5) = true := bne_iff_ne.mpr c33
                                  by_cases c37 : x5_1.length < 2199023255552
                                  · rw [if_pos c37] at H
                                    have LMc37 := Aside0.mk c37
                                    clear c37
                                    obtain ⟨y125, hy125⟩ : ∃ y_ : List (S38), y_ = (x5_1 ++ [(⟨1, t114, (wrap64 ((Int.tmod (wrap64 (Int.tdiv t113 3)) 14) - 2)), (Int.tmod (wrap64 (Int.tdiv t113 7)) 30), (wrap64 (x6_1 + (Int.tmod t113 3))), (wrap64 ((Int.tmod t113 9) - 2)), (IntKind.u64.wrap (t113))⟩ : S38)]) := ⟨_, rfl⟩
                                    replace H : (skymosaicref31_Script.l0 kj26 l0 a1 y125 (wrap64 (x6_1 + (Int.tmod t113 3))) (wrap64 (x7_1 + 2))) = some r := by first | (rw [hy125]; with_reducible exact H) | (have H2_ := (Option.bind_some _ _).symm.trans H; rw [hy125]; with_reducible exact H2_) | (have H2_ := (Option.bind_some _ _).symm.trans H; with_reducible exact H2_) | with_reducible exact H | (rw [hy125]; exact H) | exact H
                                    have Ny125 := Aside0.mk hy125
                                    clear hy125
                                    have H' := Aside0.mk H
                                    clear H
                                    have hcz38_0 : wc.cell? ⟨gb115, 0, none⟩ = some (.int .i64 0) := (blk_cell BK115.out 0).trans rfl
                                    have hcz38_1 : wc.cell? ⟨gb115, 1, none⟩ = some (.string t114) := (blk_cell BK115.out 1).trans rfl
                                    have hcz38_2 : wc.cell? ⟨gb115, 2, none⟩ = some (.int .i64 (wrap64 ((Int.tmod (wrap64 (Int.tdiv t113 3)) 14) - 2))) := (blk_cell BK115.out 2).trans rfl
                                    have hcz38_3 : wc.cell? ⟨gb115, 3, none⟩ = some (.int .i64 (Int.tmod (wrap64 (Int.tdiv t113 7)) 30)) := (blk_cell BK115.out 3).trans rfl
                                    have hcz38_4 : wc.cell? ⟨gb115, 4, none⟩ = some (.int .i64 (wrap64 (x6_1 + (Int.tmod t113 3)))) := (blk_cell BK115.out 4).trans rfl
                                    have hcz38_5 : wc.cell? ⟨gb115, 5, none⟩ = some (.int .i64 (wrap64 ((Int.tmod t113 9) - 2))) := (blk_cell BK115.out 5).trans rfl
                                    have hcz38_6 : wc.cell? ⟨gb115, 6, none⟩ = some (.int .u64 (IntKind.u64.wrap (t113))) := (blk_cell BK115.out 6).trans rfl
                                    have hfz38_0 := blk_frozen BK115.out 0
                                    have hfz38_1 := blk_frozen BK115.out 1
                                    have hfz38_2 := blk_frozen BK115.out 2
                                    have hfz38_3 := blk_frozen BK115.out 3
                                    have hfz38_4 := blk_frozen BK115.out 4
                                    have hfz38_5 := blk_frozen BK115.out 5
                                    have hfz38_6 := blk_frozen BK115.out 6
                                    go_wp2_with (first | ((with_reducible refine gate_builtin (b := .append) (xs := #[.tmp 81, .tmp 83]) rfl ?_); (try (refine gate_guard (by rfl) ?_; dsimp only)); at_builtin; refine Kd.R_append k38 (w0 := w) w.heap.size rfl (.tmp 81) (.tmp 83) 34 38 (.agg #[(.int .i64 0), (.string ⟨#[]⟩), (.int .i64 0), (.int .i64 0), (.int .i64 0), (.int .i64 0), (.int .u64 0)]) 64 rfl Try.underlying34 info38 rfl (by decide) (by omega) u5 x5_1 (⟨1, t114, (wrap64 ((Int.tmod (wrap64 (Int.tdiv t113 3)) 14) - 2)), (Int.tmod (wrap64 (Int.tdiv t113 7)) 30), (wrap64 (x6_1 + (Int.tmod t113 3))), (wrap64 ((Int.tmod t113 9) - 2)), (IntKind.u64.wrap (t113))⟩ : S38) [.int .i64 1, .string t114, .int .i64 (wrap64 ((Int.tmod (wrap64 (Int.tdiv t113 3)) 14) - 2)), .int .i64 (Int.tmod (wrap64 (Int.tdiv t113 7)) 30), .int .i64 (wrap64 (x6_1 + (Int.tmod t113 3))), .int .i64 (wrap64 ((Int.tmod t113 9) - 2)), .int .u64 (IntKind.u64.wrap (t113))] (fun k_ => k_ ≠ gb115) (fun _ => False) rfl (by first | (go_simp; done) | (go_simp; rfl)) ?aP (fun _ hk => hk.elim) ?aF ?aO ?aB ?aS ?aL ?_; (case aP => exact k38_mkM _ _ _ (⟨1, t114, (wrap64 ((Int.tmod (wrap64 (Int.tdiv t113 3)) 14) - 2)), (Int.tmod (wrap64 (Int.tdiv t113 7)) 30), (wrap64 (x6_1 + (Int.tmod t113 3))), (wrap64 ((Int.tmod t113 9) - 2)), (IntKind.u64.wrap (t113))⟩ : S38)); (case aB => exact (by repeat (first | (with_reducible first | exact HB.out | apply below_alloc | apply pw_below_drewN | apply below_drew1 | refine below_set ?_ GE115.out) | exact HB.out))); (case aF => exact (fun k_ hk => Kd.freshB (g := gb115) (o := .cells #[.int .i64 1, .string t114, .int .i64 (wrap64 ((Int.tmod (wrap64 (Int.tdiv t113 3)) 14) - 2)), .int .i64 (Int.tmod (wrap64 (Int.tdiv t113 7)) 30), .int .i64 (wrap64 (x6_1 + (Int.tmod t113 3))), .int .i64 (wrap64 ((Int.tmod t113 9) - 2)), .int .u64 (IntKind.u64.wrap (t113))] 38 (0, 0)) (by (with_reducible repeat (first | refine blk_drewN ?_ _ | refine blk_drew ?_ | refine blk_alloc ?_ _)); refine blk_put (cs := #[.int .i64 0, .string t114, .int .i64 (wrap64 ((Int.tmod (wrap64 (Int.tdiv t113 3)) 14) - 2)), .int .i64 (Int.tmod (wrap64 (Int.tdiv t113 7)) 30), .int .i64 (wrap64 (x6_1 + (Int.tmod t113 3))), .int .i64 (wrap64 ((Int.tmod t113 9) - 2)), .int .u64 (IntKind.u64.wrap (t113))]) ?_ 0 _ rfl; (with_reducible repeat (first | refine blk_drewN ?_ _ | refine blk_drew ?_ | refine blk_alloc ?_ _)); exact BK115.out) k_ hk)); (case aO => exact (by (with_reducible repeat (first | apply Kd.R_alloc | apply Kd.R_drewN | apply Kd.R_drew)); exact Kd.R_mono (Kd.R_far (p := ⟨gb115, 0, none⟩) (Kd.R_mono HO_5.out (fun k_ hk => (⟨hk, hk⟩ : _ ∧ k_ ≠ gb115))) (fun _ hk => hk.2) (.int .i64 1)) (fun _ hk => hk.1))); (case aS => exact (below_size (by repeat (first | (with_reducible first | exact HB.out | apply below_alloc | apply pw_below_drewN | apply below_drew1 | refine below_set ?_ GE115.out) | exact HB.out)))); (case aL => have := LMc37.out; omega); intro v126 w39 ho hb hg hat; rw [← Ny125.out] at ho; have n0_ := Aside0.mk (blk_grown (g := gb115) (o := .cells #[.int .i64 1, .string t114, .int .i64 (wrap64 ((Int.tmod (wrap64 (Int.tdiv t113 3)) 14) - 2)), .int .i64 (Int.tmod (wrap64 (Int.tdiv t113 7)) 30), .int .i64 (wrap64 (x6_1 + (Int.tmod t113 3))), .int .i64 (wrap64 ((Int.tmod t113 9) - 2)), .int .u64 (IntKind.u64.wrap (t113))] 38 (0, 0)) (by (with_reducible repeat (first | refine blk_drewN ?_ _ | refine blk_drew ?_ | refine blk_alloc ?_ _)); refine blk_put (cs := #[.int .i64 0, .string t114, .int .i64 (wrap64 ((Int.tmod (wrap64 (Int.tdiv t113 3)) 14) - 2)), .int .i64 (Int.tmod (wrap64 (Int.tdiv t113 7)) 30), .int .i64 (wrap64 (x6_1 + (Int.tmod t113 3))), .int .i64 (wrap64 ((Int.tmod t113 9) - 2)), .int .u64 (IntKind.u64.wrap (t113))]) ?_ 0 _ rfl; (with_reducible repeat (first | refine blk_drewN ?_ _ | refine blk_drew ?_ | refine blk_alloc ?_ _)); exact BK115.out) hg (Kd.R_away HO_5.out (fun _ hk => hk))); have n1_ := Aside0.mk (hb); have n2_ := Aside0.mk (ho); clear BK115; clear HB; clear HO_5; have BK115 := n0_; have HB := n1_; have HO127 := n2_; clear n0_ n1_ n2_; clear ho hb hg hat))
                                    go_roundg kj26
                                    case measure => have := HK1.out; have := HJ4.out; have := HJ16.out; have := HJ26.out; omega
                                    case rel => exact ⟨(y125), ((wrap64 (x6_1 + (Int.tmod t113 3)))), (wrap64 (x7_1 + 2)), (by first | rfl | (simp; done) | (simp [*]; done)), (by first | rfl | (simp; done) | (simp [*]; done)), H', ⟨by have := HK1.out; have := HJ4.out; have := HJ16.out; have := HJ26.out; omega⟩, ⟨by (with_reducible repeat (first | apply Kd.R_alloc | apply Kd.R_drewN | apply Kd.R_drew)); exact Kd.R_mono HO127.out (fun _ hk => trivial)⟩, ⟨by repeat (first | (with_reducible first | exact HB.out | apply below_alloc | apply pw_below_drewN | apply below_drew1 | refine below_set ?_ GE115.out) | exact HB.out)⟩⟩
                                  · rw [if_neg c37] at H
                                    exact absurd H (by simp)
                  · rw [if_neg c14] at H
                    exact absurd H (by simp)
                · rw [if_neg c13] at H
                  exact absurd H (by simp)
              · rw [if_neg c10] at H
                exact absurd H (by simp)
            · rw [if_neg c9] at H
              exact absurd H (by simp)
          · replace c8 := Bool.eq_false_iff.mpr c8
            subst c8
            have H1 : (some x5_1) = some r := by rw [if_neg (show ¬ (false = true) by decide)] at H; exact H
            clear H
            have H := H1
            clear H1
            obtain rfl := Option.some.inj H
            go_wp2
            go_ret
            exact ⟨_, by first | rfl | (simp [errW_none, errW_some] <;> rfl) | (simp [*, errW_none, errW_some] <;> rfl), by (with_reducible repeat (first | apply Kd.R_alloc | apply Kd.R_drewN | apply Kd.R_drew)); exact HO_5.out, by repeat (first | (with_reducible first | exact HB.out | apply below_alloc | apply pw_below_drewN | apply below_drew1) | exact HB.out)⟩
end Go.Proofs.Ytcbkcgnigncahaa.P
