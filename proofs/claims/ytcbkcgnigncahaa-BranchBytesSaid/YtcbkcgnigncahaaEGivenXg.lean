import Derived.Test.YtcbkcgnigncahaaEPlainK
import Derived.Handy
import Derived.Test.YtcbkcgnigncahaaEGivenS
import Derived.Test.YtcbkcgnigncahaaEPlainC
import Derived.Deep.QuietTactic
import Derived.Deep.RegionLaw
import Derived.Deep.RegionHeld3
namespace Go.Proofs.Ytcbkcgnigncahaa.P
open Go.RowKit Go.Maps Go.Proofs.YtcbkcgnigncahaaW.PrintWords Go.Proofs.YtcbkcgnigncahaaW.PrintLast Go.Proofs.YtcbkcgnigncahaaW.PrintMore
attribute [local go_sem] max2_int min2_int max_two min_two max_three min_three max_four min_four
set_option linter.unusedVariables false
set_option linter.unusedSimpArgs false
set_option maxHeartbeats 8000000 in
set_option maxRecDepth 100000 in
theorem rfork_calls (base g : Nat) (r : Rf) (name : ByteArray) (fr : Int) (w : World) (h : RS base g r w) (hbase : base ≤ w.heap.size) (hl : r.B.length ≤ 64) (hv : r.V.length ≤ 2000) (hn : name ∈ namesL) :
    Calls Try.prog 49 #[.pointer (some ⟨g, 0, none⟩), .string name, .int .i64 fr] w fun e w' => e = .returned (.int .i64 (rforkF r name fr).1) ∧ RS base g (rforkF r name fr).2 w' ∧ Below base w w' ∧ KeepRO g w w' := by
  have HS := Aside0.mk h
  have HN := Aside0.mk (named_of hn)
  obtain ⟨f, hff⟩ : ∃ f, findR r.B name = f := ⟨_, rfl⟩
  have HFF := Aside0.mk hff
  cases hvb : validB name with
  | false =>
    rw [hvb] at HN
    clear h hff
    have HF := Aside0.mk (show rforkF r name fr = (6, r) by unfold rforkF; rw [if_pos hvb])
    go_enter Try.func49, Try.ntmps49
    go_wp2_with (first
      | (go_at_call 86; (with_reducible refine (skymosaicref31_Named.calls 40 name false w HN.out).mono ?_); rintro e w3 ⟨rfl, hd⟩; have HD := Aside0.mk hd.below; have HS3 := Aside0.mk (HS.out.below HD.out); clear hd; obtain ⟨A3, c3, A3', c3', hg3, c30, c31, z30, z31, hc3, hc3', hB3, hV3⟩ := HS3.out.cells; have HB3 := Aside0.mk hB3; have HV3 := Aside0.mk hV3; clear hg3 hB3 hV3)
      | (go_at_call 56; (with_reducible refine (find_calls base g r name w3 HS3.out (by omega)).mono ?_); rintro e w4 ⟨rfl, rfl⟩; rw [HFF.out])
      | fail)
    go_returns
    rw [HF.out]
    exact ⟨rfl, HS.out.below HD.out, HD.out.mono hbase, KeepRO.of_below HD.out HS.out.lt⟩
  | true =>
    rw [hvb] at HN
    have n1 : ¬ validB name = false := by rw [hvb]; decide
    by_cases h2 : 0 ≤ f
    · have n2 : 0 ≤ findR r.B name := by rw [hff]; exact h2
      clear h hff hvb
      have HF := Aside0.mk (show rforkF r name fr = (8, r) by unfold rforkF; rw [if_neg n1, if_pos n2])
      go_enter Try.func49, Try.ntmps49
      go_wp2_with (first
        | (go_at_call 86; (with_reducible refine (skymosaicref31_Named.calls 40 name true w HN.out).mono ?_); rintro e w3 ⟨rfl, hd⟩; have HD := Aside0.mk hd.below; have HS3 := Aside0.mk (HS.out.below HD.out); clear hd; obtain ⟨A3, c3, A3', c3', hg3, c30, c31, z30, z31, hc3, hc3', hB3, hV3⟩ := HS3.out.cells; have HB3 := Aside0.mk hB3; have HV3 := Aside0.mk hV3; clear hg3 hB3 hV3)
        | (go_at_call 56; (with_reducible refine (find_calls base g r name w3 HS3.out (by omega)).mono ?_); rintro e w4 ⟨rfl, rfl⟩; rw [HFF.out])
        | fail)
      go_returns
      rw [HF.out]
      exact ⟨rfl, HS.out.below HD.out, HD.out.mono hbase, KeepRO.of_below HD.out HS.out.lt⟩
    · have n2 : ¬ 0 ≤ findR r.B name := by rw [hff]; exact h2
      by_cases h3 : fr ≠ -1 ∧ (fr < 0 ∨ (r.V.length : Int) ≤ fr)
      · obtain ⟨h3a, h3b⟩ := h3
        have HF3 := Aside0.mk (And.intro h3a h3b)
        have hm : (fr != -1) = true := by rw [bne_iff_ne]; exact h3a
        clear h hff hvb h3a
        by_cases h4 : fr < 0
        · clear h3b
          have HF := Aside0.mk (show rforkF r name fr = (7, r) by unfold rforkF; rw [if_neg n1, if_neg n2, if_pos HF3.out])
          go_enter Try.func49, Try.ntmps49
          go_wp2_with (first
            | (go_at_call 86; (with_reducible refine (skymosaicref31_Named.calls 40 name true w HN.out).mono ?_); rintro e w3 ⟨rfl, hd⟩; have HD := Aside0.mk hd.below; have HS3 := Aside0.mk (HS.out.below HD.out); clear hd; obtain ⟨A3, c3, A3', c3', hg3, c30, c31, z30, z31, hc3, hc3', hB3, hV3⟩ := HS3.out.cells; have HB3 := Aside0.mk hB3; have HV3 := Aside0.mk hV3; clear hg3 hB3 hV3)
            | (go_at_call 56; (with_reducible refine (find_calls base g r name w3 HS3.out (by omega)).mono ?_); rintro e w4 ⟨rfl, rfl⟩; rw [HFF.out])
            | fail)
          go_returns
          rw [HF.out]
          exact ⟨rfl, HS.out.below HD.out, HD.out.mono hbase, KeepRO.of_below HD.out HS.out.lt⟩
        · have h5 : (r.V.length : Int) ≤ fr := by omega
          clear h3b
          have HF := Aside0.mk (show rforkF r name fr = (7, r) by unfold rforkF; rw [if_neg n1, if_neg n2, if_pos HF3.out])
          go_enter Try.func49, Try.ntmps49
          go_wp2_with (first
            | (go_at_call 86; (with_reducible refine (skymosaicref31_Named.calls 40 name true w HN.out).mono ?_); rintro e w3 ⟨rfl, hd⟩; have HD := Aside0.mk hd.below; have HS3 := Aside0.mk (HS.out.below HD.out); clear hd; obtain ⟨A3, c3, A3', c3', hg3, c30, c31, z30, z31, hc3, hc3', hB3, hV3⟩ := HS3.out.cells; have HB3 := Aside0.mk hB3; have HV3 := Aside0.mk hV3; clear hg3 hB3 hV3)
            | (go_at_call 56; (with_reducible refine (find_calls base g r name w3 HS3.out (by omega)).mono ?_); rintro e w4 ⟨rfl, rfl⟩; rw [HFF.out])
            | fail)
          go_returns
          rw [HF.out]
          exact ⟨rfl, HS.out.below HD.out, HD.out.mono hbase, KeepRO.of_below HD.out HS.out.lt⟩
      · by_cases h4 : 0 ≤ fr ∧ (rd_T92 r.V fr).f7 = true
        · obtain ⟨h4a, h4b⟩ := h4
          have HC7 := Aside0.mk h4b
          have hfl : fr < r.V.length := by omega
          have hm : (fr != -1) = true := by rw [bne_iff_ne]; omega
          have hnl : ¬ (r.V.length : Int) ≤ fr := by omega
          have H3 := Aside0.mk h3
          clear h hff hvb h3 h4b
          have HF := Aside0.mk (show rforkF r name fr = (28, r) by unfold rforkF; rw [if_neg n1, if_neg n2, if_neg H3.out, if_pos ⟨h4a, HC7.out⟩])
          go_enter Try.func49, Try.ntmps49
          go_wp2_with (first
            | (go_at_call 86; (with_reducible refine (skymosaicref31_Named.calls 40 name true w HN.out).mono ?_); rintro e w3 ⟨rfl, hd⟩; have HD := Aside0.mk hd.below; have HS3 := Aside0.mk (HS.out.below HD.out); clear hd; obtain ⟨A3, c3, A3', c3', hg3, c30, c31, z30, z31, hc3, hc3', hB3, hV3⟩ := HS3.out.cells; have HB3 := Aside0.mk hB3; have HV3 := Aside0.mk hV3; clear hg3 hB3 hV3; obtain ⟨ad, e9, y0, y1, y2, y3, y4, y5, y6, y7⟩ := at_T92 (Kd.R_reads' HV3.out).2.2 fr (by omega) (by omega); obtain rfl := e9; rw [HC7.out] at y7; clear y0 y1 y2 y3 y4 y5 y6)
            | (go_at_call 56; (with_reducible refine (find_calls base g r name w3 HS3.out (by omega)).mono ?_); rintro e w4 ⟨rfl, rfl⟩; rw [HFF.out])
            | fail)
          go_returns
          rw [HF.out]
          exact ⟨rfl, HS.out.below HD.out, HD.out.mono hbase, KeepRO.of_below HD.out HS.out.lt⟩
        · by_cases h5 : 64 ≤ r.B.length
          · have h5' : (64 : Int) ≤ (r.B.length : Int) := by omega
            have H3 := Aside0.mk h3
            have H4 := Aside0.mk h4
            by_cases hm1 : fr = -1
            · subst hm1
              clear h hff hvb h3 h4
              have HF := Aside0.mk (show rforkF r name (-1) = (4, r) by unfold rforkF; rw [if_neg n1, if_neg n2, if_neg H3.out, if_neg H4.out, if_pos h5])
              go_enter Try.func49, Try.ntmps49
              go_wp2_with (first
                | (go_at_call 86; (with_reducible refine (skymosaicref31_Named.calls 40 name true w HN.out).mono ?_); rintro e w3 ⟨rfl, hd⟩; have HD := Aside0.mk hd.below; have HS3 := Aside0.mk (HS.out.below HD.out); clear hd; obtain ⟨A3, c3, A3', c3', hg3, c30, c31, z30, z31, hc3, hc3', hB3, hV3⟩ := HS3.out.cells; have HB3 := Aside0.mk hB3; have HV3 := Aside0.mk hV3; clear hg3 hB3 hV3)
                | (go_at_call 56; (with_reducible refine (find_calls base g r name w3 HS3.out (by omega)).mono ?_); rintro e w4 ⟨rfl, rfl⟩; rw [HFF.out])
                | fail)
              go_returns
              rw [HF.out]
              exact ⟨rfl, HS.out.below HD.out, HD.out.mono hbase, KeepRO.of_below HD.out HS.out.lt⟩
            · have HC7 := Aside0.mk (show (rd_T92 r.V fr).f7 = false by
                cases e : (rd_T92 r.V fr).f7 with
                | false => rfl
                | true => exact absurd ⟨by omega, e⟩ h4)
              have hfl : fr < r.V.length := by omega
              have hf0 : 0 ≤ fr := by omega
              have hm : (fr != -1) = true := by rw [bne_iff_ne]; omega
              have hnl : ¬ (r.V.length : Int) ≤ fr := by omega
              clear h hff hvb h3 h4 hm1
              have HF := Aside0.mk (show rforkF r name fr = (4, r) by unfold rforkF; rw [if_neg n1, if_neg n2, if_neg H3.out, if_neg H4.out, if_pos h5])
              go_enter Try.func49, Try.ntmps49
              go_wp2_with (first
                | (go_at_call 86; (with_reducible refine (skymosaicref31_Named.calls 40 name true w HN.out).mono ?_); rintro e w3 ⟨rfl, hd⟩; have HD := Aside0.mk hd.below; have HS3 := Aside0.mk (HS.out.below HD.out); clear hd; obtain ⟨A3, c3, A3', c3', hg3, c30, c31, z30, z31, hc3, hc3', hB3, hV3⟩ := HS3.out.cells; have HB3 := Aside0.mk hB3; have HV3 := Aside0.mk hV3; clear hg3 hB3 hV3; obtain ⟨ad, e9, y0, y1, y2, y3, y4, y5, y6, y7⟩ := at_T92 (Kd.R_reads' HV3.out).2.2 fr (by omega) (by omega); obtain rfl := e9; rw [HC7.out] at y7; clear y0 y1 y2 y3 y4 y5 y6)
                | (go_at_call 56; (with_reducible refine (find_calls base g r name w3 HS3.out (by omega)).mono ?_); rintro e w4 ⟨rfl, rfl⟩; rw [HFF.out])
                | fail)
              go_returns
              rw [HF.out]
              exact ⟨rfl, HS.out.below HD.out, HD.out.mono hbase, KeepRO.of_below HD.out HS.out.lt⟩
          · have hf : rforkF r name fr = (0, ⟨insR r.B name fr, r.V⟩) := by unfold rforkF; rw [if_neg n1, if_neg n2, if_neg h3, if_neg h4, if_neg h5]
            rw [hf]
            refine rfork_yes base g r name fr w h hbase (by omega) hv hn hvb (by omega) ?_
            by_cases hm1 : fr = -1
            · exact .inl hm1
            · refine .inr ⟨by omega, by omega, ?_⟩
              cases e : (rd_T92 r.V fr).f7 with
              | false => rfl
              | true => exact absurd ⟨by omega, e⟩ h4
theorem rput92 {W : World} {base g n cap : Nat} {ok : Nat → Prop} {xs : List S92} (h : Kd.R k92 92 W base ok (.slice (some ⟨g, 0, none⟩) n cap) xs) (i : Int) (h0 : 0 ≤ i) (h1 : i < n) (x' : S92)
    (hx : x' = ⟨(rd_T92 xs i).f0, (rd_T92 xs i).f1, (rd_T92 xs i).f2, (rd_T92 xs i).f3, (rd_T92 xs i).f4, (rd_T92 xs i).f5, (rd_T92 xs i).f6, true⟩) :
    Kd.R k92 92 (W.setCell ⟨g, i.toNat * 8 + 7, none⟩ (.bool true)) base ok (.slice (some ⟨g, 0, none⟩) n cap) (xs.set i.toNat x') ∧ W.grownBy (W.setCell ⟨g, i.toNat * 8 + 7, none⟩ (.bool true)) (some g) ∧
      W.cell? ⟨g, i.toNat * 8 + 7, none⟩ = some (.bool (rd_T92 xs i).f7) ∧ W.frozen? ⟨g, i.toNat * 8 + 7, none⟩ = false := by
  subst hx
  obtain ⟨c, hcl, hM, hcc, hfr⟩ := Kd.R_elem h z92 i h0 h1
  obtain rfl := k92_openM hM
  have h2 := Kd.R_seg h i h0 h1 (seg := [.bool true]) (j := 7) hcl hcc (by have : k92.sz = 8 := rfl; simp; omega) (x' := ⟨(rd_T92 xs i).f0, (rd_T92 xs i).f1, (rd_T92 xs i).f2, (rd_T92 xs i).f3, (rd_T92 xs i).f4, (rd_T92 xs i).f5, (rd_T92 xs i).f6, true⟩) (okp := fun k => ok k ∧ k ≠ g) (k92_mkM W base (fun k => ok k ∧ k ≠ g) _) (fun _ hk => hk)
  exact ⟨h2.1, h2.2, hcc 7 _ rfl, hfr 7⟩
end Go.Proofs.Ytcbkcgnigncahaa.P
namespace Go.Proofs.Ytcbkcgnigncahaa.P
open Go.RowKit Go.Maps Go.Proofs.YtcbkcgnigncahaaW.PrintWords Go.Proofs.YtcbkcgnigncahaaW.PrintLast Go.Proofs.YtcbkcgnigncahaaW.PrintMore
attribute [local go_sem] max2_int min2_int max_two min_two max_three min_three max_four min_four
set_option linter.unusedVariables false
set_option linter.unusedSimpArgs false
theorem RS.slot {base g : Nat} {r : Rf} {W : World} (h : RS base g r W) (hV : 0 < r.V.length) : ∃ A c gv c', W.heap[g]? = some (.cells #[.slice A r.B.length c, .slice (some ⟨gv, 0, none⟩) r.V.length c'] 53 (0, 0)) ∧ r.V.length ≤ c' ∧
    Kd.R k97 97 W base (fun k => k ≠ g) (.slice A r.B.length c) r.B ∧ Kd.R k92 92 W base (fun k => k ≠ g) (.slice (some ⟨gv, 0, none⟩) r.V.length c') r.V ∧ base ≤ gv ∧ gv ≠ g := by
  obtain ⟨h1, u, v, h3, h4, h5⟩ := h
  obtain ⟨A, c, rfl⟩ := Kd.R_slice h4
  obtain ⟨gv, c', rfl, hb, hok, cells, hcl⟩ := Kd.R_form h5 hV
  refine ⟨A, c, gv, c', h3, (Kd.R_reads' h5).2.1, h4, h5, hb, ?_⟩
  rintro rfl
  rw [h3] at hcl
  injection hcl with hcl
  injection hcl with _ hcl
  exact absurd hcl (by decide)
set_option maxHeartbeats 8000000 in
set_option maxRecDepth 100000 in
theorem rclose_calls (base g : Nat) (r : Rf) (id : Int) (w : World) (h : RS base g r w) (hbase : base ≤ w.heap.size) :
    Calls Try.prog 50 #[.pointer (some ⟨g, 0, none⟩), .int .i64 id] w fun e w' => e = .returned (.int .i64 (rcloseF r id).1) ∧ RS base g (rcloseF r id).2 w' ∧ Below base w w' ∧ KeepRO g w w' := by
  have HS := Aside0.mk h
  obtain ⟨A, c, A', c', hg, c0, c1, z0, z1, hc, hc', hB, hV⟩ := h.cells
  clear hg c0 z0 z1 hc hB hV h
  cases hx : rexists r id with
  | false =>
    have HF := Aside0.mk (show rcloseF r id = (7, r) by unfold rcloseF; rw [if_pos hx])
    have hcase : id < 0 ∨ (¬ id < 0 ∧ (r.V.length : Int) ≤ id) := by
      unfold rexists at hx
      simp at hx
      omega
    clear hx
    rcases hcase with h1 | ⟨h1, h2⟩
    · go_enter Try.func50, Try.ntmps50
      go_wp2
      go_returns
      rw [HF.out]
      exact ⟨rfl, HS.out, Below.refl _ _, KeepRO.refl _ _⟩
    · go_enter Try.func50, Try.ntmps50
      go_wp2
      go_returns
      rw [HF.out]
      exact ⟨rfl, HS.out, Below.refl _ _, KeepRO.refl _ _⟩
  | true =>
    obtain ⟨i0, i1⟩ := rexists_true hx
    have hnl : ¬ (r.V.length : Int) ≤ id := by omega
    clear c1 hc'
    obtain ⟨A, c, gv, c', hgh, hc', hB, hV, hgb, hne⟩ := HS.out.slot (by omega)
    have HGH := Aside0.mk hgh
    have c1 : w.cell? ⟨g, 1, none⟩ = some (.slice (some ⟨gv, 0, none⟩) r.V.length c') := blk_cell hgh 1
    have HV := Aside0.mk hV
    have HBB := Aside0.mk hB
    obtain ⟨_, _, q7, z7⟩ := rput92 hV id i0 i1 _ rfl
    clear hgh hB hV
    cases hcl : (rd_T92 r.V id).f7 with
    | true =>
      have HF := Aside0.mk (show rcloseF r id = (28, r) by unfold rcloseF; rw [if_neg (by rw [hx]; decide), if_pos hcl])
      rw [hcl] at q7
      clear hx hcl
      go_enter Try.func50, Try.ntmps50
      go_wp2
      go_returns
      rw [HF.out]
      exact ⟨rfl, HS.out, Below.refl _ _, KeepRO.refl _ _⟩
    | false =>
      have HF := Aside0.mk (show rcloseF r id = (0, ⟨r.B, r.V.set id.toNat ⟨(rd_T92 r.V id).f0, (rd_T92 r.V id).f1, (rd_T92 r.V id).f2, (rd_T92 r.V id).f3, (rd_T92 r.V id).f4, (rd_T92 r.V id).f5, (rd_T92 r.V id).f6, true⟩⟩) by unfold rcloseF; rw [if_neg (by rw [hx]; decide), if_neg (by rw [hcl]; decide)])
      rw [hcl] at q7
      have HP := Aside0.mk (rput92 HV.out id i0 i1 _ rfl)
      clear hx hcl
      go_enter Try.func50, Try.ntmps50
      go_wp2
      go_returns
      rw [HF.out]
      have hgr := HP.out.2.1
      have hty := Kd.R_typed HV.out gv rfl
      refine ⟨rfl, ⟨HS.out.1, _, _, blk_grown HGH.out hgr (fun e => hne (Option.some.inj e).symm), Kd.R_over' HBB.out (Kd.R_typed HV.out) (by decide) hgr, by simpa using HP.out.1⟩, (Below.refl base w).grown hgr hbase (fun k hk => by have := Option.some.inj hk; omega), (KeepRO.refl g w).grown hgr HS.out.lt (fun e => hne (Option.some.inj e).symm) (.inr (.inl (by rw [vown_of HGH.out]; rfl)))⟩
abbrev agg92 (x : S92) : Value := .agg #[.int .i64 x.f0, .int .i64 x.f1, .string x.f2, .int .i64 x.f3, .int .i64 x.f4, .int .i64 x.f5, .int .u64 x.f6, .bool x.f7]
set_option maxHeartbeats 8000000 in
set_option maxRecDepth 100000 in
theorem rget_calls (base g : Nat) (r : Rf) (id : Int) (w : World) (h : RS base g r w) :
    Calls Try.prog 52 #[.pointer (some ⟨g, 0, none⟩), .int .i64 id] w fun e w' => e = .returned (.tuple #[agg92 (rgetF r id).1, .int .i64 (rgetF r id).2]) ∧ Below w.heap.size w w' := by
  have hu92 := Try.underlying92
  have HS1 := Aside0.mk (h.below (below_alloc (Below.refl _ _) (Obj.cells #[.int .i64 0, .int .i64 0, .string ⟨#[]⟩, .int .i64 0, .int .i64 0, .int .i64 0, .int .u64 0, .bool false] 92)))
  obtain ⟨A, c, A', c', hg, c0, c1, z0, z1, hc, hc', hB, hV⟩ := HS1.out.cells
  have HV := Aside0.mk hV
  clear hg c0 z0 z1 hc hB hV h
  cases hx : rexists r id with
  | false =>
    have HF := Aside0.mk (show rgetF r id = (z92, 7) by unfold rgetF; rw [if_pos hx])
    have hcase : id < 0 ∨ (¬ id < 0 ∧ (r.V.length : Int) ≤ id) := by
      unfold rexists at hx
      simp at hx
      omega
    clear hx
    rcases hcase with h1 | ⟨h1, h2⟩
    · go_enter Try.func52, Try.ntmps52
      go_wp2
      go_returns
      rw [HF.out]
      exact ⟨rfl, by first | exact below_set (below_alloc (Below.refl _ _) _) (Nat.le_refl _) | exact below_alloc (Below.refl _ _) _⟩
    · go_enter Try.func52, Try.ntmps52
      go_wp2
      go_returns
      rw [HF.out]
      exact ⟨rfl, by first | exact below_set (below_alloc (Below.refl _ _) _) (Nat.le_refl _) | exact below_alloc (Below.refl _ _) _⟩
  | true =>
    obtain ⟨i0, i1⟩ := rexists_true hx
    have hnl : ¬ (r.V.length : Int) ≤ id := by omega
    obtain ⟨ad, e9, y0, y1, y2, y3, y4, y5, y6, y7⟩ := at_T92 (Kd.R_reads' HV.out).2.2 id i0 i1
    obtain rfl := e9
    cases hcl : (rd_T92 r.V id).f7 with
    | true =>
      have HF := Aside0.mk (show rgetF r id = (z92, 28) by unfold rgetF; rw [if_neg (by rw [hx]; decide), if_pos hcl])
      rw [hcl] at y7
      clear hx hcl
      go_enter Try.func52, Try.ntmps52
      go_wp2
      go_returns
      rw [HF.out]
      exact ⟨rfl, by first | exact below_set (below_alloc (Below.refl _ _) _) (Nat.le_refl _) | exact below_alloc (Below.refl _ _) _⟩
    | false =>
      have HF := Aside0.mk (show rgetF r id = (rd_T92 r.V id, 0) by unfold rgetF; rw [if_neg (by rw [hx]; decide), if_neg (by rw [hcl]; decide)])
      have HCL := Aside0.mk hcl
      rw [hcl] at y7
      clear hx hcl
      go_enter Try.func52, Try.ntmps52
      go_wp2
      go_returns
      rw [HF.out]
      refine ⟨?_, below_alloc (Below.refl _ _) _⟩
      unfold agg92
      rw [HCL.out]
end Go.Proofs.Ytcbkcgnigncahaa.P
namespace Go.Proofs.Ytcbkcgnigncahaa.P
open Go.RowKit Go.Maps Go.Proofs.YtcbkcgnigncahaaW.PrintWords Go.Proofs.YtcbkcgnigncahaaW.PrintLast Go.Proofs.YtcbkcgnigncahaaW.PrintMore
attribute [local go_sem] max2_int min2_int max_two min_two max_three min_three max_four min_four
set_option linter.unusedVariables false
set_option linter.unusedSimpArgs false
/-- Parents come before. -/
def RfOk (r : Rf) : Prop := ∀ i : Int, 0 ≤ i → i < r.V.length → (rd_T92 r.V i).f1 < i
theorem rgo_neg (V : List S92) (t u : Int) (k : Nat) (i : Int) (h : i < 0) : rgo V t u k i = -1 := by
  cases k with
  | zero => rfl
  | succ k => simp only [rgo]; rw [if_pos h]
set_option maxHeartbeats 8000000 in
set_option maxRecDepth 100000 in
theorem rread_calls (base g : Nat) (r : Rf) (name : ByteArray) (t u : Int) (w : World) (h : RS base g r w) (hl : r.B.length ≤ 64) (hv : r.V.length ≤ 2000) (hfi : firstR r name < r.V.length) (hfl : findR r.B name < r.B.length) (hok : RfOk r) :
    Calls Try.prog 25 #[.pointer (some ⟨g, 0, none⟩), .string name, .int .i64 t, .int .i64 u] w fun e w' => e = .returned (.tuple #[.int .i64 (rreadF r name t u).1, .int .i64 (rreadF r name t u).2]) ∧ w = w' := by
  have HS := Aside0.mk h
  have HFL := Aside0.mk hfl
  have HOK := Aside0.mk hok
  obtain ⟨f, hff⟩ : ∃ f, findR r.B name = f := ⟨_, rfl⟩
  have HFF := Aside0.mk hff
  obtain ⟨p, hpp⟩ : ∃ p, firstR r name = p := ⟨_, rfl⟩
  have HPP := Aside0.mk hpp
  rw [hpp] at hfi
  obtain ⟨A, c, A', c', hg, c0, c1, z0, z1, hc, hc', hB, hV⟩ := h.cells
  have HV := Aside0.mk hV
  by_cases h1 : findR r.B name < 0
  · have HF := Aside0.mk (show rreadF r name t u = (-1, 6) by unfold rreadF; rw [if_pos h1])
    have hf0 : f < 0 := by omega
    clear h hfl hff hpp h1 hok hg hB hV c0 z0 z1 hc
    go_enter Try.func25, Try.ntmps25
    go_wp2_with (first
      | (go_at_call 56; (with_reducible refine (find_calls base g r name w HS.out (by omega)).mono ?_); rintro e w3 ⟨rfl, rfl⟩; rw [HFF.out])
      | fail)
    go_returns
    rw [HF.out]
    exact ⟨rfl, rfl⟩
  · have hf0 : ¬ f < 0 := by omega
    obtain ⟨K, hK⟩ : ∃ K, K = r.V.length + 1 := ⟨_, rfl⟩
    have HF := Aside0.mk (show ∀ x, rgo r.V t u K p = x → rreadF r name t u = if x < 0 then (-1, 7) else (x, 0) from by
      rintro x rfl
      unfold rreadF
      rw [if_neg h1, hpp, ← hK])
    have hpK : (p + 1).toNat ≤ K := by omega
    clear h hfl hff hpp h1 hok hg hB hV c0 z0 z1 hc hK
    go_enter Try.func25, Try.ntmps25
    go_wp2_with (first
      | (go_at_call 56; (with_reducible refine (find_calls base g r name w HS.out (by omega)).mono ?_); rintro e w3 ⟨rfl, rfl⟩; rw [HFF.out])
      | (go_at_call 57; (with_reducible refine (first_calls base g r name _ HS.out (by omega) hv HFL.out).mono ?_); rintro e w4 ⟨rfl, rfl⟩; rw [HPP.out])
      | fail)
    go_loopw [10] (fun v10 wr => ∃ i : Int, v10 = .int .i64 i ∧ Aside0 (wr = w) ∧ Aside0 (i < r.V.length) ∧ Aside0 (∃ k, (i + 1).toNat ≤ k ∧ rgo r.V t u k i = rgo r.V t u K p)) (fun v _ => (intOf v + 1).toNat)
    case atStart => exact ⟨p, rfl, ⟨rfl⟩, ⟨hfi⟩, ⟨K, hpK, rfl⟩⟩
    case round =>
      obtain ⟨i, rfl, ⟨rfl⟩, HI, HK⟩ := hrel
      have hi := HI.out
      by_cases h0 : i < 0
      · have hres : rgo r.V t u K p = -1 := by
          obtain ⟨k, _, hk⟩ := HK.out
          rw [← hk, rgo_neg _ _ _ _ _ h0]
        have HR := Aside0.mk (HF.out _ hres)
        have hnn : ¬ 0 ≤ i := by omega
        clear hres
        go_wp2
        go_returns
        rw [HR.out]
        exact ⟨rfl, rfl⟩
      · have h0' : 0 ≤ i := by omega
        obtain ⟨ad, e9, y0, y1, y2, y3, y4, y5, y6, y7⟩ := at_T92 (Kd.R_reads' HV.out).2.2 i h0' hi
        obtain rfl := e9
        have hpar := HOK.out i h0' hi
        have hstep : (((rd_T92 r.V i).f7 = true ∨ t < (rd_T92 r.V i).f3 ∨ u < (rd_T92 r.V i).f4) → ∃ k, ((rd_T92 r.V i).f1 + 1).toNat ≤ k ∧ rgo r.V t u k (rd_T92 r.V i).f1 = rgo r.V t u K p) ∧ (¬ ((rd_T92 r.V i).f7 = true ∨ t < (rd_T92 r.V i).f3 ∨ u < (rd_T92 r.V i).f4) → rgo r.V t u K p = i) := by
          obtain ⟨k, hk1, hk2⟩ := HK.out
          obtain ⟨k, rfl⟩ : ∃ k', k = k' + 1 := ⟨k - 1, by omega⟩
          simp only [rgo] at hk2
          rw [if_neg h0] at hk2
          constructor
          · intro hc
            rw [if_pos hc] at hk2
            exact ⟨k, by omega, hk2⟩
          · intro hc
            rw [if_neg hc] at hk2
            exact hk2.symm
        obtain ⟨x, hx⟩ : ∃ x, rd_T92 r.V i = x := ⟨_, rfl⟩
        rw [hx] at y0 y1 y2 y3 y4 y5 y6 y7 hstep hpar
        have HST := Aside0.mk hstep
        clear hstep y0 y2 y5 y6 hx
        obtain ⟨x0, x1, x2, x3, x4, x5, x6, x7⟩ := x
        simp only at y1 y3 y4 y7 hpar
        have hnext : ∀ (hc : x7 = true ∨ t < x3 ∨ u < x4), ∃ k, (x1 + 1).toNat ≤ k ∧ rgo r.V t u k x1 = rgo r.V t u K p := fun hc => HST.out.1 hc
        have hstop : ¬ (x7 = true ∨ t < x3 ∨ u < x4) → rgo r.V t u K p = i := fun hc => HST.out.2 hc
        have HN := Aside0.mk hnext
        have HE := Aside0.mk hstop
        clear hnext hstop
        cases x7 with
        | true =>
          go_wp2
          go_roundw
          case rel => exact ⟨x1, rfl, ⟨by trivial⟩, ⟨by omega⟩, ⟨HN.out (.inl rfl)⟩⟩
          case measure => simp only [intOf]; omega
        | false =>
          by_cases c3 : t < x3
          · go_wp2
            go_roundw
            case rel => exact ⟨x1, rfl, ⟨by trivial⟩, ⟨by omega⟩, ⟨HN.out (.inr (.inl c3))⟩⟩
            case measure => simp only [intOf]; omega
          · by_cases c4 : u < x4
            · go_wp2
              go_roundw
              case rel => exact ⟨x1, rfl, ⟨by trivial⟩, ⟨by omega⟩, ⟨HN.out (.inr (.inr c4))⟩⟩
              case measure => simp only [intOf]; omega
            · have HR := Aside0.mk (HF.out _ (HE.out (by simp; omega)))
              go_wp2
              go_returns
              rw [HR.out, if_neg (by omega)]
              exact ⟨rfl, rfl⟩
set_option maxHeartbeats 8000000 in
theorem rhead_calls (base g : Nat) (r : Rf) (name : ByteArray) (w : World) (h : RS base g r w) (hl : r.B.length ≤ 64) (hv : r.V.length ≤ 2000) (hfi : firstR r name < r.V.length) (hfl : findR r.B name < r.B.length) (hok : RfOk r) :
    Calls Try.prog 55 #[.pointer (some ⟨g, 0, none⟩), .string name] w fun e w' => e = .returned (.tuple #[.int .i64 (rheadF r name).1, .int .i64 (rheadF r name).2]) ∧ w = w' := by
  have hr := rread_calls base g r name 4611686018427387904 4611686018427387904 w h hl hv hfi hfl hok
  obtain ⟨⟨v, e⟩, hre⟩ : ∃ x, rreadF r name 4611686018427387904 4611686018427387904 = x := ⟨_, rfl⟩
  rw [hre] at hr
  have HR := Aside0.mk hr
  have HF := Aside0.mk (show rheadF r name = if e = 7 then (-1, 0) else (v, e) by unfold rheadF; rw [hre])
  clear hr h hfi hfl hok hre
  by_cases h7 : e = 7
  · subst h7
    go_enter Try.func55, Try.ntmps55
    go_wp2_with (first
      | (go_at_call 25; (with_reducible refine HR.out.mono ?_); rintro e w3 ⟨rfl, rfl⟩)
      | fail)
    go_returns
    rw [HF.out]
    exact ⟨rfl, rfl⟩
  · have h7' : (e == 7) = false := by simpa using h7
    have H7 := Aside0.mk h7
    clear h7
    go_enter Try.func55, Try.ntmps55
    go_wp2_with (first
      | (go_at_call 25; (with_reducible refine HR.out.mono ?_); rintro e w3 ⟨rfl, rfl⟩)
      | fail)
    go_returns
    rw [HF.out, if_neg H7.out]
    exact ⟨rfl, rfl⟩
end Go.Proofs.Ytcbkcgnigncahaa.P
namespace Go.Proofs.Ytcbkcgnigncahaa.P
open Go.RowKit Go.Maps Go.Proofs.YtcbkcgnigncahaaW.PrintWords Go.Proofs.YtcbkcgnigncahaaW.PrintLast Go.Proofs.YtcbkcgnigncahaaW.PrintMore
attribute [local go_sem] max2_int min2_int max_two min_two max_three min_three max_four min_four
set_option linter.unusedVariables false
set_option linter.unusedSimpArgs false
/-- A write into a block of another type leaves a line as it is. -/
theorem LS.keep {base g b n : Nat} {s : Ln} {W W1 : World} {row : Option Nat} (h : LS base g b n s W) (hg : W.grownBy W1 row) (hr : ∀ r, row = some r → ∃ cs t, W.heap[r]? = some (Obj.cells cs t (0, 0)) ∧ t ≠ 78 ∧ t ≠ 43) : LS base g b n s W1 := by
  obtain ⟨h1, h2, ⟨v, h3, h4⟩, h5⟩ := h
  have hne : ∀ (k : Nat) (cs : Array Value) (t : TypeId), W.heap[k]? = some (Obj.cells cs t (0, 0)) → (t = 78 ∨ t = 43) → some k ≠ row := by
    intro k cs t hk ht e
    obtain ⟨cs', t', hc, n1, n2⟩ := hr k e.symm
    rw [hk] at hc
    injection hc with hc
    injection hc with _ hc
    subst hc
    rcases ht with ht | ht
    · exact n1 ht
    · exact n2 ht
  have hb : some b ≠ row := by
    intro e
    obtain ⟨cs', t', hc, _⟩ := hr b e.symm
    obtain ⟨es, clock, hb, _⟩ := h5
    rw [hb] at hc
    cases hc
  refine ⟨h1, h2, ⟨v, blk_grown h3 hg (hne g _ _ h3 (.inl rfl)), Kd.R_mono (Kd.R_grown (Kd.R_bound h4) hg (fun k hk => ?_)) (fun k hk => hk.1)⟩, h5.kept hg hb⟩
  obtain ⟨_, _, _, q, hq, cells, hc⟩ := hk
  have hE : k43.E = [] := rfl
  rw [hE] at hq
  have := List.mem_singleton.1 hq
  subst this
  exact hne k _ _ hc (.inr rfl)
/-- The lines that the first i operations lead to. -/
def runL (s : Ln) (ops : List S38) : Ln := ops.foldl (fun s o => (doF s o).2.2) s
theorem Good.run {s : Ln} (h : Good s) (ops : List S38) : Good (runL s ops) := by
  unfold runL
  induction ops generalizing s with
  | nil => exact h
  | cons o ops ih => exact ih (h.do_ o)
theorem runL_snoc (s : Ln) (ops : List S38) (o : S38) : runL s (ops ++ [o]) = (doF (runL s ops) o).2.2 := by unfold runL; rw [List.foldl_append]; rfl
theorem take_rd38 (ops : List S38) (i : Nat) (h : i < ops.length) : ops.take (i + 1) = ops.take i ++ [rd_T38 ops (i : Int)] := by
  rw [List.take_succ_eq_append_getElem h]
  unfold rd_T38
  rw [Int.toNat_natCast, List.getD_eq_getElem?_getD, List.getElem?_eq_getElem h]
  rfl
theorem mem_rd38 (ops : List S38) (i : Nat) (h : i < ops.length) : rd_T38 ops (i : Int) ∈ ops := by
  unfold rd_T38
  rw [Int.toNat_natCast, List.getD_eq_getElem?_getD, List.getElem?_eq_getElem h]
  exact List.getElem_mem h
end Go.Proofs.Ytcbkcgnigncahaa.P
namespace Go.Proofs.Ytcbkcgnigncahaa.P
open Go.RowKit Go.Maps Go.Proofs.YtcbkcgnigncahaaW.PrintWords Go.Proofs.YtcbkcgnigncahaaW.PrintLast Go.Proofs.YtcbkcgnigncahaaW.PrintMore
attribute [local go_sem] max2_int min2_int max_two min_two max_three min_three max_four min_four
set_option linter.unusedVariables false
set_option linter.unusedSimpArgs false
end Go.Proofs.Ytcbkcgnigncahaa.P
