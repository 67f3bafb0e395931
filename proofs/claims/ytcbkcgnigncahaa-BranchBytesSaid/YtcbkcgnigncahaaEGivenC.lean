import Derived.Test.YtcbkcgnigncahaaEGivenB
namespace Go.Proofs.Ytcbkcgnigncahaa.P
open Go.RowKit Go.Maps Go.Proofs.YtcbkcgnigncahaaW.PrintWords Go.Proofs.YtcbkcgnigncahaaW.PrintLast Go.Proofs.YtcbkcgnigncahaaW.PrintMore
attribute [local go_sem] max2_int min2_int max_two min_two max_three min_three max_four min_four
set_option linter.unusedVariables false
set_option linter.unusedSimpArgs false
def closedB (s : Ln) (id : Int) : Bool := (rd_T43 s.V id).f7
def forkF (s : Ln) (name : ByteArray) (fr : Int) : Int × Ln :=
  if validB name = false then (6, s)
  else if hasB s.D name = true then (8, s)
  else if fr ≠ -1 ∧ existsB s fr = false then (7, s)
  else if fr ≠ -1 ∧ closedB s fr = true then (28, s)
  else if 64 ≤ Maps.size s.D then (4, s)
  else (0, ⟨s.D.put (keyB name) (lnD fr (-1)), s.V⟩)
theorem LS.more {base g b n : Nat} {s : Ln} {W : World} (h : LS base g b n s W) : LS base g b (n + 1) s W := by
  obtain ⟨h1, h2, h3, h4⟩ := h
  exact ⟨h1, h2, h3, h4.mono (Nat.le_succ n)⟩
theorem LS.cells {base g b n : Nat} {s : Ln} {W : World} (h : LS base g b n s W) : ∃ A c, W.cell? ⟨g, 0, none⟩ = some (.map (some b)) ∧ W.cell? ⟨g, 1, none⟩ = some (.slice A s.V.length c) ∧ W.frozen? ⟨g, 1, none⟩ = false ∧ s.V.length ≤ c ∧ Kd.C k43 W A s.V.length s.V ∧ Kd.R k43 43 W base (fun k => k ≠ g) (.slice A s.V.length c) s.V ∧ W.heap[g]? = some (.cells #[.map (some b), .slice A s.V.length c] 78 (0, 0)) := by
  obtain ⟨h1, h2, ⟨v, h3, h4⟩, h5⟩ := h
  obtain ⟨A, c, rfl⟩ := Kd.R_slice h4
  obtain ⟨_, hc, hC⟩ := Kd.R_reads' h4
  exact ⟨A, c, blk_cell h3 0, blk_cell h3 1, blk_frozen h3 1, hc, hC, h4, h3⟩
theorem LS.put {base g b n : Nat} {s : Ln} {W W1 : World} {D : DataW Unit} {m : Nat} (h : LS base g b n s W) (ho : W1.ownsMap Try.prog 9 lineR b m D) (hg : W.grownBy W1 (some b)) : LS base g b m ⟨D, s.V⟩ W1 := by
  have hne := h.ne
  obtain ⟨h1, h2, ⟨v, h3, h4⟩, es, clock, h5, h6⟩ := h
  refine ⟨h1, h2, ⟨v, blk_grown h3 hg (fun e => hne (Option.some.inj e)), Kd.R_grown (Kd.R_mono (Kd.R_bound h4) (ok' := fun k => k ≠ g ∧ k ≠ b) (fun k hk => ⟨hk.1, fun e => ?_⟩)) hg (fun k hk e => hk.2 (Option.some.inj e)) |> fun r => Kd.R_mono r (fun k hk => hk.1)⟩, ho⟩
  obtain ⟨_, _, _, q, _, cells, hc⟩ := hk
  rw [e, h5] at hc
  cases hc
set_option maxHeartbeats 4000000 in
set_option maxRecDepth 100000 in
theorem fork_calls (base g b n : Nat) (s : Ln) (name : ByteArray) (fr : Int) (w : World) (hs0 : LS base g b n s w) (hbase : base ≤ w.heap.size) (hs : name.size ≤ maxLen) (hn : n < 1000000) :
    Calls Try.prog 11 #[.pointer (some ⟨g, 0, none⟩), .string name, .int .i64 fr] w fun e w' => e = .returned (.int .i64 (forkF s name fr).1) ∧ LS base g b (n + 1) (forkF s name fr).2 w' ∧ Below base w w' ∧ KeepO g b w w' := by
  have hn : n < maxLen := by unfold maxLen; omega
  have HS := Aside0.mk hs0
  have HOW := Aside0.mk hs0.2.2.2
  obtain ⟨A0, cc0, c0, c1, z1, _, _, _, _⟩ := hs0.cells
  clear hs0 c1 z1
  have hu80 := Try.underlying80
  cases hv : validB name with
  | false =>
    have hf : forkF s name fr = (6, s) := by unfold forkF; rw [if_pos hv]
    have HF := Aside0.mk hf
    clear hf
    go_enter Try.func11, Try.ntmps11
    go_wp2_with (first
      | (at_lookup; refine lookup_line _ rfl _ _ rfl b n s.D name rfl rfl HOW.out hs ?_)
      | (go_at_call 40; (with_reducible refine (valid_calls name _ hs).mono ?_); rintro e w2 ⟨rfl, hb2⟩; have HB2 := Aside0.mk (below_step (below_alloc (Below.refl w.heap.size w) _) hb2); have HS2 := Aside0.mk (LS.below HS.out HB2.out); clear hb2; obtain ⟨A, c, c0, c1, z1, hc, hC, hR, hG⟩ := HS2.out.cells; have HC2 := Aside0.mk hC; clear hC hR hG hc z1)
      | (go_at_call 41; (with_reducible refine (exists_calls base g b n s fr _ HS2.out).mono ?_); rintro e w3 ⟨rfl, rfl⟩)
      | (at_len; refine wpList_len_own _ rfl _ 76 rfl 9 80 Try.underlying76 _ b n s.D rfl HS2.out.2.2.2 ?_)
      | (at_mapUpdate; refine update_line _ rfl _ _ _ rfl b n s.D name fr (-1) rfl rfl rfl HS2.out.2.2.2 hs hn ?_; intro w3 ho hg; have HP := Aside0.mk (LS.put HS2.out ho hg); have HG3 := Aside0.mk hg; clear ho hg))
    go_ret
    rw [HF.out]
    exact ⟨rfl, HS2.out.more, HB2.out.mono hbase, KeepO.of_below HB2.out HS.out.lt⟩
  | true =>
    cases hh : hasB s.D name with
    | true =>
      have hf : forkF s name fr = (8, s) := by unfold forkF; rw [if_neg (by rw [hv]; decide), if_pos hh]
      have HF := Aside0.mk hf
      clear hf
      go_enter Try.func11, Try.ntmps11
      go_wp2_with (first
        | (at_lookup; refine lookup_line _ rfl _ _ rfl b n s.D name rfl rfl HOW.out hs ?_)
        | (go_at_call 40; (with_reducible refine (valid_calls name _ hs).mono ?_); rintro e w2 ⟨rfl, hb2⟩; have HB2 := Aside0.mk (below_step (below_alloc (Below.refl w.heap.size w) _) hb2); have HS2 := Aside0.mk (LS.below HS.out HB2.out); clear hb2; obtain ⟨A, c, c0, c1, z1, hc, hC, hR, hG⟩ := HS2.out.cells; have HC2 := Aside0.mk hC; clear hC hR hG hc z1)
        | (go_at_call 41; (with_reducible refine (exists_calls base g b n s fr _ HS2.out).mono ?_); rintro e w3 ⟨rfl, rfl⟩)
        | (at_len; refine wpList_len_own _ rfl _ 76 rfl 9 80 Try.underlying76 _ b n s.D rfl HS2.out.2.2.2 ?_)
        | (at_mapUpdate; refine update_line _ rfl _ _ _ rfl b n s.D name fr (-1) rfl rfl rfl HS2.out.2.2.2 hs hn ?_; intro w3 ho hg; have HP := Aside0.mk (LS.put HS2.out ho hg); have HG3 := Aside0.mk hg; clear ho hg))
      go_ret
      rw [HF.out]
      exact ⟨rfl, HS2.out.more, HB2.out.mono hbase, KeepO.of_below HB2.out HS.out.lt⟩
    | false =>
      by_cases h1 : fr = -1
      · subst h1
        by_cases h64 : 64 ≤ Maps.size s.D
        · have hf : forkF s name (-1) = (4, s) := by unfold forkF; rw [if_neg (by rw [hv]; decide), if_neg (by rw [hh]; decide), if_neg (by simp), if_neg (by simp), if_pos h64]
          have HF := Aside0.mk hf
          have h64' : (64 : Int) ≤ (Maps.size s.D : Int) := by omega
          clear hf h64
          go_enter Try.func11, Try.ntmps11
          go_wp2_with (first
            | (at_lookup; refine lookup_line _ rfl _ _ rfl b n s.D name rfl rfl HOW.out hs ?_)
            | (go_at_call 40; (with_reducible refine (valid_calls name _ hs).mono ?_); rintro e w2 ⟨rfl, hb2⟩; have HB2 := Aside0.mk (below_step (below_alloc (Below.refl w.heap.size w) _) hb2); have HS2 := Aside0.mk (LS.below HS.out HB2.out); clear hb2; obtain ⟨A, c, c0, c1, z1, hc, hC, hR, hG⟩ := HS2.out.cells; have HC2 := Aside0.mk hC; clear hC hR hG hc z1)
            | (go_at_call 41; (with_reducible refine (exists_calls base g b n s (-1) _ HS2.out).mono ?_); rintro e w3 ⟨rfl, rfl⟩)
            | (at_len; refine wpList_len_own _ rfl _ 76 rfl 9 80 Try.underlying76 _ b n s.D rfl HS2.out.2.2.2 ?_)
            | (at_mapUpdate; refine update_line _ rfl _ _ _ rfl b n s.D name (-1) (-1) rfl rfl rfl HS2.out.2.2.2 hs hn ?_; intro w3 ho hg; have HP := Aside0.mk (LS.put HS2.out ho hg); have HG3 := Aside0.mk hg; clear ho hg))
          go_ret
          rw [HF.out]
          exact ⟨rfl, HS2.out.more, HB2.out.mono hbase, KeepO.of_below HB2.out HS.out.lt⟩
        · have hf : forkF s name (-1) = (0, ⟨s.D.put (keyB name) (lnD (-1) (-1)), s.V⟩) := by unfold forkF; rw [if_neg (by rw [hv]; decide), if_neg (by rw [hh]; decide), if_neg (by simp), if_neg (by simp), if_neg h64]
          have HF := Aside0.mk hf
          have h64' : (Maps.size s.D : Int) < 64 := by omega
          clear hf h64
          go_enter Try.func11, Try.ntmps11
          go_wp2_with (first
            | (at_lookup; refine lookup_line _ rfl _ _ rfl b n s.D name rfl rfl HOW.out hs ?_)
            | (go_at_call 40; (with_reducible refine (valid_calls name _ hs).mono ?_); rintro e w2 ⟨rfl, hb2⟩; have HB2 := Aside0.mk (below_step (below_alloc (Below.refl w.heap.size w) _) hb2); have HS2 := Aside0.mk (LS.below HS.out HB2.out); clear hb2; obtain ⟨A, c, c0, c1, z1, hc, hC, hR, hG⟩ := HS2.out.cells; have HC2 := Aside0.mk hC; clear hC hR hG hc z1)
            | (go_at_call 41; (with_reducible refine (exists_calls base g b n s (-1) _ HS2.out).mono ?_); rintro e w3 ⟨rfl, rfl⟩)
            | (at_len; refine wpList_len_own _ rfl _ 76 rfl 9 80 Try.underlying76 _ b n s.D rfl HS2.out.2.2.2 ?_)
            | (at_mapUpdate; refine update_line _ rfl _ _ _ rfl b n s.D name (-1) (-1) rfl rfl rfl HS2.out.2.2.2 hs hn ?_; intro w3 ho hg; have HP := Aside0.mk (LS.put HS2.out ho hg); have HG3 := Aside0.mk hg; clear ho hg))
          go_ret
          rw [HF.out]
          exact ⟨rfl, HP.out, (HB2.out.mono hbase).grown HG3.out (Nat.le_trans hbase HB2.out.size) (fun k hk => by cases hk; exact HS2.out.2.1), (KeepO.of_below HB2.out HS.out.lt).grown HG3.out HS2.out.lt (fun e => HS2.out.ne (Option.some.inj e)) (.inl rfl)⟩
      · have h1' : (fr != -1) = true := by rw [bne_iff_ne]; exact h1
        cases he : existsB s fr with
        | false =>
          have hf : forkF s name fr = (7, s) := by unfold forkF; rw [if_neg (by rw [hv]; decide), if_neg (by rw [hh]; decide), if_pos ⟨h1, he⟩]
          have HF := Aside0.mk hf
          clear hf h1
          go_enter Try.func11, Try.ntmps11
          go_wp2_with (first
            | (at_lookup; refine lookup_line _ rfl _ _ rfl b n s.D name rfl rfl HOW.out hs ?_)
            | (go_at_call 40; (with_reducible refine (valid_calls name _ hs).mono ?_); rintro e w2 ⟨rfl, hb2⟩; have HB2 := Aside0.mk (below_step (below_alloc (Below.refl w.heap.size w) _) hb2); have HS2 := Aside0.mk (LS.below HS.out HB2.out); clear hb2; obtain ⟨A, c, c0, c1, z1, hc, hC, hR, hG⟩ := HS2.out.cells; have HC2 := Aside0.mk hC; clear hC hR hG hc z1)
            | (go_at_call 41; (with_reducible refine (exists_calls base g b n s fr _ HS2.out).mono ?_); rintro e w3 ⟨rfl, rfl⟩)
            | (at_len; refine wpList_len_own _ rfl _ 76 rfl 9 80 Try.underlying76 _ b n s.D rfl HS2.out.2.2.2 ?_)
            | (at_mapUpdate; refine update_line _ rfl _ _ _ rfl b n s.D name fr (-1) rfl rfl rfl HS2.out.2.2.2 hs hn ?_; intro w3 ho hg; have HP := Aside0.mk (LS.put HS2.out ho hg); have HG3 := Aside0.mk hg; clear ho hg))
          go_ret
          rw [HF.out]
          exact ⟨rfl, HS2.out.more, HB2.out.mono hbase, KeepO.of_below HB2.out HS.out.lt⟩
        | true =>
          have hx := he
          unfold existsB at hx
          simp only [Bool.and_eq_true, decide_eq_true_eq] at hx
          obtain ⟨hx0, hx1⟩ := hx
          cases hcl : closedB s fr with
          | true =>
            have hf : forkF s name fr = (28, s) := by unfold forkF; rw [if_neg (by rw [hv]; decide), if_neg (by rw [hh]; decide), if_neg (by rw [he]; simp), if_pos ⟨h1, hcl⟩]
            have HF := Aside0.mk hf
            have hcl2 : (rd_T43 s.V fr).f7 = true := hcl
            clear hf h1 hcl
            go_enter Try.func11, Try.ntmps11
            go_wp2_with (first
              | (at_lookup; refine lookup_line _ rfl _ _ rfl b n s.D name rfl rfl HOW.out hs ?_)
              | (go_at_call 40; (with_reducible refine (valid_calls name _ hs).mono ?_); rintro e w2 ⟨rfl, hb2⟩; have HB2 := Aside0.mk (below_step (below_alloc (Below.refl w.heap.size w) _) hb2); have HS2 := Aside0.mk (LS.below HS.out HB2.out); clear hb2; obtain ⟨A, c, c0, c1, z1, hc, hC, hR, hG⟩ := HS2.out.cells; have HC2 := Aside0.mk hC; clear hC hR hG hc z1; obtain ⟨ad, e9, y0, y1, y2, y3, y4, y5, y6, y7⟩ := at_T43 HC2.out fr hx0 hx1; obtain rfl := e9)
              | (go_at_call 41; (with_reducible refine (exists_calls base g b n s fr _ HS2.out).mono ?_); rintro e w3 ⟨rfl, rfl⟩)
              | (at_len; refine wpList_len_own _ rfl _ 76 rfl 9 80 Try.underlying76 _ b n s.D rfl HS2.out.2.2.2 ?_)
              | (at_mapUpdate; refine update_line _ rfl _ _ _ rfl b n s.D name fr (-1) rfl rfl rfl HS2.out.2.2.2 hs hn ?_; intro w3 ho hg; have HP := Aside0.mk (LS.put HS2.out ho hg); have HG3 := Aside0.mk hg; clear ho hg))
            go_ret
            rw [HF.out]
            exact ⟨rfl, HS2.out.more, HB2.out.mono hbase, KeepO.of_below HB2.out HS.out.lt⟩
          | false =>
            have hcl2 : (rd_T43 s.V fr).f7 = false := hcl
            by_cases h64 : 64 ≤ Maps.size s.D
            · have hf : forkF s name fr = (4, s) := by unfold forkF; rw [if_neg (by rw [hv]; decide), if_neg (by rw [hh]; decide), if_neg (by rw [he]; simp), if_neg (by rw [hcl]; simp), if_pos h64]
              have HF := Aside0.mk hf
              have h64' : (64 : Int) ≤ (Maps.size s.D : Int) := by omega
              clear hf h1 hcl h64
              go_enter Try.func11, Try.ntmps11
              go_wp2_with (first
                | (at_lookup; refine lookup_line _ rfl _ _ rfl b n s.D name rfl rfl HOW.out hs ?_)
                | (go_at_call 40; (with_reducible refine (valid_calls name _ hs).mono ?_); rintro e w2 ⟨rfl, hb2⟩; have HB2 := Aside0.mk (below_step (below_alloc (Below.refl w.heap.size w) _) hb2); have HS2 := Aside0.mk (LS.below HS.out HB2.out); clear hb2; obtain ⟨A, c, c0, c1, z1, hc, hC, hR, hG⟩ := HS2.out.cells; have HC2 := Aside0.mk hC; clear hC hR hG hc z1; obtain ⟨ad, e9, y0, y1, y2, y3, y4, y5, y6, y7⟩ := at_T43 HC2.out fr hx0 hx1; obtain rfl := e9)
                | (go_at_call 41; (with_reducible refine (exists_calls base g b n s fr _ HS2.out).mono ?_); rintro e w3 ⟨rfl, rfl⟩)
                | (at_len; refine wpList_len_own _ rfl _ 76 rfl 9 80 Try.underlying76 _ b n s.D rfl HS2.out.2.2.2 ?_)
                | (at_mapUpdate; refine update_line _ rfl _ _ _ rfl b n s.D name fr (-1) rfl rfl rfl HS2.out.2.2.2 hs hn ?_; intro w3 ho hg; have HP := Aside0.mk (LS.put HS2.out ho hg); have HG3 := Aside0.mk hg; clear ho hg))
              go_ret
              rw [HF.out]
              exact ⟨rfl, HS2.out.more, HB2.out.mono hbase, KeepO.of_below HB2.out HS.out.lt⟩
            · have hf : forkF s name fr = (0, ⟨s.D.put (keyB name) (lnD fr (-1)), s.V⟩) := by unfold forkF; rw [if_neg (by rw [hv]; decide), if_neg (by rw [hh]; decide), if_neg (by rw [he]; simp), if_neg (by rw [hcl]; simp), if_neg h64]
              have HF := Aside0.mk hf
              have h64' : (Maps.size s.D : Int) < 64 := by omega
              clear hf h1 hcl h64
              go_enter Try.func11, Try.ntmps11
              go_wp2_with (first
                | (at_lookup; refine lookup_line _ rfl _ _ rfl b n s.D name rfl rfl HOW.out hs ?_)
                | (go_at_call 40; (with_reducible refine (valid_calls name _ hs).mono ?_); rintro e w2 ⟨rfl, hb2⟩; have HB2 := Aside0.mk (below_step (below_alloc (Below.refl w.heap.size w) _) hb2); have HS2 := Aside0.mk (LS.below HS.out HB2.out); clear hb2; obtain ⟨A, c, c0, c1, z1, hc, hC, hR, hG⟩ := HS2.out.cells; have HC2 := Aside0.mk hC; clear hC hR hG hc z1; obtain ⟨ad, e9, y0, y1, y2, y3, y4, y5, y6, y7⟩ := at_T43 HC2.out fr hx0 hx1; obtain rfl := e9)
                | (go_at_call 41; (with_reducible refine (exists_calls base g b n s fr _ HS2.out).mono ?_); rintro e w3 ⟨rfl, rfl⟩)
                | (at_len; refine wpList_len_own _ rfl _ 76 rfl 9 80 Try.underlying76 _ b n s.D rfl HS2.out.2.2.2 ?_)
                | (at_mapUpdate; refine update_line _ rfl _ _ _ rfl b n s.D name fr (-1) rfl rfl rfl HS2.out.2.2.2 hs hn ?_; intro w3 ho hg; have HP := Aside0.mk (LS.put HS2.out ho hg); have HG3 := Aside0.mk hg; clear ho hg))
              go_ret
              rw [HF.out]
              exact ⟨rfl, HP.out, (HB2.out.mono hbase).grown HG3.out (Nat.le_trans hbase HB2.out.size) (fun k hk => by cases hk; exact HS2.out.2.1), (KeepO.of_below HB2.out HS.out.lt).grown HG3.out HS2.out.lt (fun e => HS2.out.ne (Option.some.inj e)) (.inl rfl)⟩
end Go.Proofs.Ytcbkcgnigncahaa.P
