import Derived.Test.YtcbkcgnigncahaaEGivenXg
import Derived.Deep.RegionLaw
import Derived.Deep.RegionHeld3
namespace Go.Proofs.Ytcbkcgnigncahaa.P
open Go.RowKit Go.Maps Go.Proofs.YtcbkcgnigncahaaW.PrintWords Go.Proofs.YtcbkcgnigncahaaW.PrintLast Go.Proofs.YtcbkcgnigncahaaW.PrintMore
attribute [local go_sem] max2_int min2_int max_two min_two max_three min_three max_four min_four
set_option linter.unusedVariables false
set_option linter.unusedSimpArgs false
theorem info92 : (Try.prog.info? 92).map (fun i => (i.zero, i.size, i.bytes)) = some (some (.agg #[(.int .i64 0), (.int .i64 0), (.string ⟨#[]⟩), (.int .i64 0), (.int .i64 0), (.int .i64 0), (.int .u64 0), (.bool false)]), 8, 72) := by kernel_rfl
theorem range_false {a2 a3 a4 : Int} (h : rangeB a2 a3 a4 = false) : a2 < 0 ∨ (¬ a2 < 0 ∧ 1099511627776 < a2) ∨ (¬ a2 < 0 ∧ ¬ 1099511627776 < a2 ∧ a3 < 0) ∨ (¬ a2 < 0 ∧ ¬ 1099511627776 < a2 ∧ ¬ a3 < 0 ∧ 1099511627776 < a3) ∨ (¬ a2 < 0 ∧ ¬ 1099511627776 < a2 ∧ ¬ a3 < 0 ∧ ¬ 1099511627776 < a3 ∧ a4 < -2) := by
  unfold rangeB tickB at h
  simp only [Bool.and_eq_false_iff, decide_eq_false_iff_not] at h
  omega
theorem range_true {a2 a3 a4 : Int} (h : rangeB a2 a3 a4 = true) : ¬ a2 < 0 ∧ ¬ 1099511627776 < a2 ∧ ¬ a3 < 0 ∧ ¬ 1099511627776 < a3 ∧ ¬ a4 < -2 := by
  unfold rangeB tickB at h
  simp only [Bool.and_eq_true, decide_eq_true_eq] at h
  omega
set_option maxHeartbeats 8000000 in
set_option maxRecDepth 100000 in
theorem rpublish_calls (base g : Nat) (r : Rf) (name : ByteArray) (a2 a3 a4 a5 : Int) (w : World) (h : RS base g r w) (hbase : base ≤ w.heap.size) (hl : r.B.length ≤ 64) (hv : r.V.length ≤ 2000) (hfi : firstR r name < r.V.length) (hfl : findR r.B name < r.B.length) :
    Calls Try.prog 51 #[.pointer (some ⟨g, 0, none⟩), .string name, .int .i64 a2, .int .i64 a3, .int .i64 a4, .int .u64 a5] w fun e w' => e = .returned (.tuple #[.int .i64 (rpublishF r name a2 a3 a4 a5).1, .int .i64 (rpublishF r name a2 a3 a4 a5).2.1]) ∧ RS base g (rpublishF r name a2 a3 a4 a5).2.2 w' ∧ Below base w w' ∧ KeepRO g w w' := by
  have HS := Aside0.mk h
  have HFL := Aside0.mk hfl
  obtain ⟨f, hff⟩ : ∃ f, findR r.B name = f := ⟨_, rfl⟩
  have HFF := Aside0.mk hff
  obtain ⟨p, hpp⟩ : ∃ p, firstR r name = p := ⟨_, rfl⟩
  have HPP := Aside0.mk hpp
  rw [hpp] at hfi
  by_cases c1 : findR r.B name < 0
  · have hf0 : f < 0 := by omega
    have C1 := Aside0.mk c1
    clear h hfl hff hpp c1
    have HF := Aside0.mk (show rpublishF r name a2 a3 a4 a5 = (0, 6, r) by unfold rpublishF; rw [if_pos C1.out])
    go_enter Try.func51, Try.ntmps51
    go_wp2_with (first
      | (go_at_call 56; (with_reducible refine (find_calls base g r name w HS.out (by omega)).mono ?_); rintro e w3 ⟨rfl, rfl⟩; rw [HFF.out])
      | (go_at_call 57; (with_reducible refine (first_calls base g r name _ HS.out (by omega) hv HFL.out).mono ?_); rintro e w4 ⟨rfl, rfl⟩; rw [HPP.out])
      | fail)
    go_returns
    rw [HF.out]
    exact ⟨rfl, HS.out, Below.refl _ _, KeepRO.refl _ _⟩
  have C1 := Aside0.mk c1
  have hf0 : ¬ f < 0 := by omega
  clear hff c1 hfl
  cases hr : rangeB a2 a3 a4 with
  | false =>
    have HR := Aside0.mk hr
    have hc := range_false hr
    clear h hpp hr
    rcases hc with h1 | ⟨h1, h2⟩ | ⟨h1, h2, h3⟩ | ⟨h1, h2, h3, h4⟩ | ⟨h1, h2, h3, h4, h5⟩
    · have HF := Aside0.mk (show rpublishF r name a2 a3 a4 a5 = (0, 1, r) by unfold rpublishF; rw [if_neg C1.out, if_pos HR.out])
      go_enter Try.func51, Try.ntmps51
      go_wp2_with (first
        | (go_at_call 56; (with_reducible refine (find_calls base g r name w HS.out (by omega)).mono ?_); rintro e w3 ⟨rfl, rfl⟩; rw [HFF.out])
        | (go_at_call 57; (with_reducible refine (first_calls base g r name _ HS.out (by omega) hv HFL.out).mono ?_); rintro e w4 ⟨rfl, rfl⟩; rw [HPP.out])
        | fail)
      go_returns
      rw [HF.out]
      exact ⟨rfl, HS.out, Below.refl _ _, KeepRO.refl _ _⟩
    · have HF := Aside0.mk (show rpublishF r name a2 a3 a4 a5 = (0, 1, r) by unfold rpublishF; rw [if_neg C1.out, if_pos HR.out])
      go_enter Try.func51, Try.ntmps51
      go_wp2_with (first
        | (go_at_call 56; (with_reducible refine (find_calls base g r name w HS.out (by omega)).mono ?_); rintro e w3 ⟨rfl, rfl⟩; rw [HFF.out])
        | (go_at_call 57; (with_reducible refine (first_calls base g r name _ HS.out (by omega) hv HFL.out).mono ?_); rintro e w4 ⟨rfl, rfl⟩; rw [HPP.out])
        | fail)
      go_returns
      rw [HF.out]
      exact ⟨rfl, HS.out, Below.refl _ _, KeepRO.refl _ _⟩
    · have HF := Aside0.mk (show rpublishF r name a2 a3 a4 a5 = (0, 1, r) by unfold rpublishF; rw [if_neg C1.out, if_pos HR.out])
      go_enter Try.func51, Try.ntmps51
      go_wp2_with (first
        | (go_at_call 56; (with_reducible refine (find_calls base g r name w HS.out (by omega)).mono ?_); rintro e w3 ⟨rfl, rfl⟩; rw [HFF.out])
        | (go_at_call 57; (with_reducible refine (first_calls base g r name _ HS.out (by omega) hv HFL.out).mono ?_); rintro e w4 ⟨rfl, rfl⟩; rw [HPP.out])
        | fail)
      go_returns
      rw [HF.out]
      exact ⟨rfl, HS.out, Below.refl _ _, KeepRO.refl _ _⟩
    · have HF := Aside0.mk (show rpublishF r name a2 a3 a4 a5 = (0, 1, r) by unfold rpublishF; rw [if_neg C1.out, if_pos HR.out])
      go_enter Try.func51, Try.ntmps51
      go_wp2_with (first
        | (go_at_call 56; (with_reducible refine (find_calls base g r name w HS.out (by omega)).mono ?_); rintro e w3 ⟨rfl, rfl⟩; rw [HFF.out])
        | (go_at_call 57; (with_reducible refine (first_calls base g r name _ HS.out (by omega) hv HFL.out).mono ?_); rintro e w4 ⟨rfl, rfl⟩; rw [HPP.out])
        | fail)
      go_returns
      rw [HF.out]
      exact ⟨rfl, HS.out, Below.refl _ _, KeepRO.refl _ _⟩
    · have HF := Aside0.mk (show rpublishF r name a2 a3 a4 a5 = (0, 1, r) by unfold rpublishF; rw [if_neg C1.out, if_pos HR.out])
      go_enter Try.func51, Try.ntmps51
      go_wp2_with (first
        | (go_at_call 56; (with_reducible refine (find_calls base g r name w HS.out (by omega)).mono ?_); rintro e w3 ⟨rfl, rfl⟩; rw [HFF.out])
        | (go_at_call 57; (with_reducible refine (first_calls base g r name _ HS.out (by omega) hv HFL.out).mono ?_); rintro e w4 ⟨rfl, rfl⟩; rw [HPP.out])
        | fail)
      go_returns
      rw [HF.out]
      exact ⟨rfl, HS.out, Below.refl _ _, KeepRO.refl _ _⟩
  | true =>
    have HR := Aside0.mk (show ¬ rangeB a2 a3 a4 = false by rw [hr]; decide)
    obtain ⟨h1, h2, h3, h4, h5⟩ := range_true hr
    clear hr
    by_cases c3 : 0 ≤ p ∧ a3 < (rd_T92 r.V p).f4
    · have C3 := Aside0.mk (show 0 ≤ firstR r name ∧ a3 < (rd_T92 r.V (firstR r name)).f4 by rw [hpp]; exact c3)
      obtain ⟨p0, p4⟩ := c3
      obtain ⟨A, c, A', c', hg, c0, c1, z0, z1, hc, hc', hB, hV⟩ := h.cells
      obtain ⟨ad, e9, y0, y1, y2, y3, y4, y5, y6, y7⟩ := at_T92 (Kd.R_reads' hV).2.2 p p0 hfi
      obtain rfl := e9
      clear h hpp hg c0 z0 z1 hc hB hV y0 y1 y2 y3 y5 y6 y7
      have HF := Aside0.mk (show rpublishF r name a2 a3 a4 a5 = (0, 16, r) by unfold rpublishF; rw [if_neg C1.out, if_neg HR.out, if_pos C3.out])
      go_enter Try.func51, Try.ntmps51
      go_wp2_with (first
        | (go_at_call 56; (with_reducible refine (find_calls base g r name w HS.out (by omega)).mono ?_); rintro e w3 ⟨rfl, rfl⟩; rw [HFF.out])
        | (go_at_call 57; (with_reducible refine (first_calls base g r name _ HS.out (by omega) hv HFL.out).mono ?_); rintro e w4 ⟨rfl, rfl⟩; rw [HPP.out])
        | fail)
      go_returns
      rw [HF.out]
      exact ⟨rfl, HS.out, Below.refl _ _, KeepRO.refl _ _⟩
    · have C3 := Aside0.mk (show ¬ (0 ≤ firstR r name ∧ a3 < (rd_T92 r.V (firstR r name)).f4) by rw [hpp]; exact c3)
      obtain ⟨A, c, A', c', hg, c0, c1, z0, z1, hc, hc', hB, hV⟩ := h.cells
      have HG := Aside0.mk hg
      have HB := Aside0.mk hB
      have HV := Aside0.mk hV
      have HGL := Aside0.mk h.lt
      have c1d := c1
      have z1d := z1
      clear hg c0 z0 hc hB hV
      by_cases c4 : 1024 ≤ r.V.length
      · have c4' : (1024 : Int) ≤ (r.V.length : Int) := by omega
        by_cases p0 : 0 ≤ p
        · have p4 : ¬ a3 < (rd_T92 r.V p).f4 := fun e => c3 ⟨p0, e⟩
          obtain ⟨ad, e9, y0, y1, y2, y3, y4, y5, y6, y7⟩ := at_T92 (Kd.R_reads' HV.out).2.2 p p0 hfi
          obtain rfl := e9
          clear h hpp c3 y0 y1 y2 y3 y5 y6 y7
          have HF := Aside0.mk (show rpublishF r name a2 a3 a4 a5 = (0, 4, r) by unfold rpublishF; rw [if_neg C1.out, if_neg HR.out, if_neg C3.out, if_pos c4])
          go_enter Try.func51, Try.ntmps51
          go_wp2_with (first
            | (go_at_call 56; (with_reducible refine (find_calls base g r name w HS.out (by omega)).mono ?_); rintro e w3 ⟨rfl, rfl⟩; rw [HFF.out])
            | (go_at_call 57; (with_reducible refine (first_calls base g r name _ HS.out (by omega) hv HFL.out).mono ?_); rintro e w4 ⟨rfl, rfl⟩; rw [HPP.out])
            | fail)
          go_returns
          rw [HF.out]
          exact ⟨rfl, HS.out, Below.refl _ _, KeepRO.refl _ _⟩
        · clear h hpp c3
          have HF := Aside0.mk (show rpublishF r name a2 a3 a4 a5 = (0, 4, r) by unfold rpublishF; rw [if_neg C1.out, if_neg HR.out, if_neg C3.out, if_pos c4])
          go_enter Try.func51, Try.ntmps51
          go_wp2_with (first
            | (go_at_call 56; (with_reducible refine (find_calls base g r name w HS.out (by omega)).mono ?_); rintro e w3 ⟨rfl, rfl⟩; rw [HFF.out])
            | (go_at_call 57; (with_reducible refine (first_calls base g r name _ HS.out (by omega) hv HFL.out).mono ?_); rintro e w4 ⟨rfl, rfl⟩; rw [HPP.out])
            | fail)
          go_returns
          rw [HF.out]
          exact ⟨rfl, HS.out, Below.refl _ _, KeepRO.refl _ _⟩
      · have c4' : ¬ (1024 : Int) ≤ (r.V.length : Int) := by omega
        have HF := Aside0.mk (show rpublishF r name a2 a3 a4 a5 = ((r.V.length : Int), 0, ⟨r.B, r.V ++ [⟨(r.V.length : Int), p, name, a2, a3, a4, a5, false⟩]⟩) by unfold rpublishF; rw [if_neg C1.out, if_neg HR.out, if_neg C3.out, if_neg c4, hpp])
        have HA := Aside0.mk (show ∀ (v1 : Value) (w5 : World), Kd.R k92 92 w5 base (fun k => k ≠ g) v1 (r.V ++ [⟨(r.V.length : Int), p, name, a2, a3, a4, a5, false⟩]) → Below base w w5 → w.drew.grownBy w5 (Value.slice A' r.V.length c').ownBlock → (v1.ownBlock = (Value.slice A' r.V.length c').ownBlock ∨ ∃ b, v1.ownBlock = some b ∧ w.drew.heap.size ≤ b) →
            RS base g ⟨r.B, r.V ++ [⟨(r.V.length : Int), p, name, a2, a3, a4, a5, false⟩]⟩ (w5.setCell ⟨g, 1, none⟩ v1) ∧ Below base w (w5.setCell ⟨g, 1, none⟩ v1) ∧ KeepRO g w (w5.setCell ⟨g, 1, none⟩ v1) ∧ w5.heap[g]? = some (.cells #[.slice A r.B.length c, .slice A' r.V.length c'] 53 (0, 0)) from by
          intro v1 w5 ho hb hgr hat
          have hgd : w.drew.heap[g]? = some (.cells #[.slice A r.B.length c, .slice A' r.V.length c'] 53 (0, 0)) := HG.out
          have hVd := Kd.R_drew HV.out
          have hg5 := blk_grown hgd hgr (Kd.R_ne hVd hgd (by decide))
          have hB5 := Kd.R_over' (Kd.R_drew HB.out) (Kd.R_typed hVd) (by decide) hgr
          have hrs : RS base g ⟨r.B, r.V⟩ w5 → True := fun _ => trivial
          refine ⟨⟨HS.out.1, _, v1, blk_put hg5 1 v1 rfl, Kd.R_far hB5 (fun k hk => hk) v1, Kd.R_far ho (fun k hk => hk) v1⟩, hb.setCell HS.out.1 _, ?_, hg5⟩
          have k1 : KeepRO g w w5 := (KeepRO.of_below (below_drew1 (Below.refl w.heap.size w)) HS.out.lt).grown hgr HS.out.lt (Kd.R_ne hVd hgd (by decide)) (.inr (.inl (vown_of hgd).symm))
          exact k1.set1 hg5 (by
            rcases hat with e | ⟨j, e, hj⟩
            · exact .inl (e.trans (vown_of HG.out).symm)
            · refine .inr fun k hk => ?_
              rw [e] at hk
              obtain rfl := Option.some.inj hk
              exact hj))
        by_cases p0 : 0 ≤ p
        · have p4 : ¬ a3 < (rd_T92 r.V p).f4 := fun e => c3 ⟨p0, e⟩
          obtain ⟨ad, e9, y0, y1, y2, y3, y4, y5, y6, y7⟩ := at_T92 (Kd.R_reads' HV.out).2.2 p p0 hfi
          obtain rfl := e9
          clear h hpp c3 y0 y1 y2 y3 y5 y6 y7
          go_enter Try.func51, Try.ntmps51
          go_upto_region 10 with (first
            | (go_at_call 56; (with_reducible refine (find_calls base g r name w HS.out (by omega)).mono ?_); rintro e w3 ⟨rfl, rfl⟩; rw [HFF.out])
            | (go_at_call 57; (with_reducible refine (first_calls base g r name _ HS.out (by omega) hv HFL.out).mono ?_); rintro e w4 ⟨rfl, rfl⟩; rw [HPP.out])
            | fail)
          clear y4
          have hgl := HGL.out
          have HLN := Aside0.mk (show (r.V ++ [(⟨(r.V.length : Int), p, name, a2, a3, a4, a5, false⟩ : S92)]).length = r.V.length + 1 from by rw [List.length_append]; rfl)
          go_region_law
            ((refine Kd.R_append_step k92 (w0 := w) (W := w.drew) base (by rfl) (.tmp 64) (.tmp 77) 51 92 (.agg #[(.int .i64 0), (.int .i64 0), (.string ⟨#[]⟩), (.int .i64 0), (.int .i64 0), (.int .i64 0), (.int .u64 0), (.bool false)]) 72 (by rfl) Try.underlying51 info92 rfl (by decide) (by omega) (.slice (some ad) r.V.length c') r.V ⟨(r.V.length : Int), p, name, a2, a3, a4, a5, false⟩ [.int .i64 (r.V.length : Int), .int .i64 p, .string name, .int .i64 a2, .int .i64 a3, .int .i64 a4, .int .u64 a5, .bool false] (fun k => k ≠ g) (fun _ => False) (by rfl) (by rfl) (k92_mkM _ _ _ _) (fun _ hk => hk.elim) (fun k hk => Nat.ne_of_gt (Nat.lt_of_lt_of_le HGL.out hk)) (Kd.R_drew HV.out) (below_drew1 (Below.refl _ _)) hbase (by omega) ?_; intro v1 w5 ho hb hg hat; have HX := Aside0.mk (HA.out v1 w5 ho hb hg hat); have HO := Aside0.mk ho; have q1 : w5.cell? ⟨g, 1, none⟩ = some (.slice (some ad) r.V.length c') := blk_cell HX.out.2.2.2 1; have qz : w5.frozen? ⟨g, 1, none⟩ = false := blk_frozen HX.out.2.2.2 1; clear ho hb hg hat; obtain ⟨A5, c5, rfl⟩ := Kd.R_slice HO.out; rw [HLN.out] at HX))
          all_goals
            go_wp2
            go_returns
            rw [HF.out]
            refine ⟨?_, HX.out.1, HX.out.2.1, HX.out.2.2.1⟩
            first
              | rfl
              | (simp; done)
              | (simp; omega)
        · clear h hpp c3
          go_enter Try.func51, Try.ntmps51
          go_upto_region 10 with (first
            | (go_at_call 56; (with_reducible refine (find_calls base g r name w HS.out (by omega)).mono ?_); rintro e w3 ⟨rfl, rfl⟩; rw [HFF.out])
            | (go_at_call 57; (with_reducible refine (first_calls base g r name _ HS.out (by omega) hv HFL.out).mono ?_); rintro e w4 ⟨rfl, rfl⟩; rw [HPP.out])
            | fail)
          have hgl := HGL.out
          have HLN := Aside0.mk (show (r.V ++ [(⟨(r.V.length : Int), p, name, a2, a3, a4, a5, false⟩ : S92)]).length = r.V.length + 1 from by rw [List.length_append]; rfl)
          go_region_law
            ((refine Kd.R_append_step k92 (w0 := w) (W := w.drew) base (by rfl) (.tmp 64) (.tmp 77) 51 92 (.agg #[(.int .i64 0), (.int .i64 0), (.string ⟨#[]⟩), (.int .i64 0), (.int .i64 0), (.int .i64 0), (.int .u64 0), (.bool false)]) 72 (by rfl) Try.underlying51 info92 rfl (by decide) (by omega) (.slice A' r.V.length c') r.V ⟨(r.V.length : Int), p, name, a2, a3, a4, a5, false⟩ [.int .i64 (r.V.length : Int), .int .i64 p, .string name, .int .i64 a2, .int .i64 a3, .int .i64 a4, .int .u64 a5, .bool false] (fun k => k ≠ g) (fun _ => False) (by rfl) (by rfl) (k92_mkM _ _ _ _) (fun _ hk => hk.elim) (fun k hk => Nat.ne_of_gt (Nat.lt_of_lt_of_le HGL.out hk)) (Kd.R_drew HV.out) (below_drew1 (Below.refl _ _)) hbase (by omega) ?_; intro v1 w5 ho hb hg hat; have HX := Aside0.mk (HA.out v1 w5 ho hb hg hat); have HO := Aside0.mk ho; have q1 : w5.cell? ⟨g, 1, none⟩ = some (.slice A' r.V.length c') := blk_cell HX.out.2.2.2 1; have qz : w5.frozen? ⟨g, 1, none⟩ = false := blk_frozen HX.out.2.2.2 1; clear ho hb hg hat; obtain ⟨A5, c5, rfl⟩ := Kd.R_slice HO.out; rw [HLN.out] at HX))
          all_goals
            go_wp2
            go_returns
            rw [HF.out]
            refine ⟨?_, HX.out.1, HX.out.2.1, HX.out.2.2.1⟩
            first
              | rfl
              | (simp; done)
              | (simp; omega)
end Go.Proofs.Ytcbkcgnigncahaa.P
