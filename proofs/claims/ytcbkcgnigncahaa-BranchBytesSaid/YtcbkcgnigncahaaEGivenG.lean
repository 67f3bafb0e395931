import Derived.Test.YtcbkcgnigncahaaEGivenF
namespace Go.Proofs.Ytcbkcgnigncahaa.P
open Go.RowKit Go.Maps Go.Proofs.YtcbkcgnigncahaaW.PrintWords Go.Proofs.YtcbkcgnigncahaaW.PrintLast Go.Proofs.YtcbkcgnigncahaaW.PrintMore
attribute [local go_sem] max2_int min2_int max_two min_two max_three min_three max_four min_four
set_option linter.unusedVariables false
set_option linter.unusedSimpArgs false
set_option maxHeartbeats 4000000 in
set_option maxRecDepth 100000 in
theorem publish_yes (base g b n : Nat) (s : Ln) (name : ByteArray) (a2 a3 a4 a5 : Int) (w : World) (hs0 : LS base g b n s w) (hbase : base ≤ w.heap.size) (hs : name.size ≤ maxLen) (hn : n < maxLen) (hV : s.V.length < 1024) (p : Int) (hp : firstF ((lkp s.D name).1, (lkp s.D name).2) = p) (hfst : p < s.V.length)
    (hh : hasB s.D name = true) (hr : rangeB a2 a3 a4 = true) (hgo : p < 0 ∨ ¬ a3 < (rd_T43 s.V p).f4) (x : S43) (hx : x = ⟨(s.V.length : Int), p, name, a2, a3, a4, a5, false⟩) :
    Calls Try.prog 13 #[.pointer (some ⟨g, 0, none⟩), .string name, .int .i64 a2, .int .i64 a3, .int .i64 a4, .int .u64 a5] w fun e w' => e = .returned (.tuple #[.int .i64 s.V.length, .int .i64 0]) ∧ LS base g b (n + 1) ⟨s.D.put (keyB name) (lnD (lkp s.D name).1 (s.V.length : Int)), s.V ++ [x]⟩ w' ∧ Below base w w' ∧ KeepO g b w w' := by
  have HS := Aside0.mk hs0
  have HOW := Aside0.mk hs0.2.2.2
  obtain ⟨A0, cc0, c0, c1, z1, _, _, _, _⟩ := hs0.cells
  clear hs0 c1 z1
  have hu80 := Try.underlying80
  have hf5 : ¬ (1024 : Int) ≤ (s.V.length : Int) := by omega
  go_enter Try.func13, Try.ntmps13
  go_upto_region 3 with (first
    | (at_lookup; refine lookup_line _ rfl _ _ rfl b n s.D name rfl rfl HOW.out hs ?_)
    | (go_at_call 42; (with_reducible refine (first_c _ _ _).mono ?_); rintro e w2 ⟨rfl, hb2⟩; have HB2 := Aside0.mk (below_step (below_alloc (Below.refl w.heap.size w) _) hb2); have HS2 := Aside0.mk (LS.below HS.out HB2.out); have HX := Aside0.mk (blk_below (blk_new w (.cells #[.int .i64 (lkp s.D name).1, .int .i64 (lkp s.D name).2] 80)) hb2); clear hb2; rw [hp])
    | fail)
  have hw2 : w.heap.size ≤ w2.heap.size := HB2.out.size
  obtain ⟨A, c, hblk, hR⟩ := HS2.out.block
  have HBLK := Aside0.mk hblk
  have HR2 := Aside0.mk hR
  have k0 : w2.cell? ⟨g, 0, none⟩ = some (.map (some b)) := blk_cell hblk 0
  have k1 : w2.cell? ⟨g, 1, none⟩ = some (.slice A s.V.length c) := blk_cell hblk 1
  have z1 : w2.frozen? ⟨g, 1, none⟩ = false := blk_frozen hblk 1
  have hgl : g < w2.heap.size := blk_lt hblk
  have hcap := (Kd.R_reads' hR).2.1
  clear hblk hR c0
  go_upto_region 7 with (first
    | (go_at_call 43; (with_reducible refine (inrange_calls a2 a3 a4 _).mono ?_); rintro e w3 ⟨rfl, rfl⟩)
    | fail)
  go_cut [38] (fun s38 wx => s38 = .bool false ∧ Aside0 (wx = w2))
  case first =>
    by_cases hp0 : 0 ≤ p
    · have ho : ¬ a3 < (rd_T43 s.V p).f4 := by
        obtain h | h := hgo
        · omega
        · omega
      obtain ⟨ad, e9, y0, y1, y2, y3, y4, y5, y6, y7⟩ := at_T43 (Kd.R_reads' HR2.out).2.2 p hp0 hfst
      obtain rfl := e9
      go_wp2
      go_meet
      exact ⟨rfl, ⟨rfl⟩⟩
    · go_wp2
      go_meet
      exact ⟨rfl, ⟨rfl⟩⟩
  case rest =>
    obtain ⟨rfl, ⟨rfl⟩⟩ := hcut
    go_upto_region 12 with fail
    go_cut [] (fun wx => Aside0 (LS base g b n ⟨s.D, s.V ++ [x]⟩ wx ∧ wx.heap[w.heap.size]? = some (.cells #[.int .i64 (lkp s.D name).1, .int .i64 (lkp s.D name).2] 80 (0, 0)) ∧ Below base w wx ∧ KeepO g b w wx))
    case first =>
      subst hx
      go_wp2_with (first
        | (at_builtin; refine Kd.R_append k43 (w0 := wc) base rfl (.tmp 69) (.tmp 78) 57 43 (.agg #[(.int .i64 0), (.int .i64 0), (.string ⟨#[]⟩), (.int .i64 0), (.int .i64 0), (.int .i64 0), (.int .u64 0), (.bool false)]) 72 rfl Try.underlying57 info43 rfl (by decide) (by omega) (.slice A s.V.length c) s.V ⟨(s.V.length : Int), p, name, a2, a3, a4, a5, false⟩ (cells43 ⟨(s.V.length : Int), p, name, a2, a3, a4, a5, false⟩) (fun k => k ≠ g) (fun _ => False) rfl rfl ?aP (fun _ hk => hk.elim) ?aF HR2.out ?aB ?aS ?aL ?_; (case aP => exact k43_mkM _ _ _ _); (case aF => exact fun k hk => by omega); (case aB => exact Below.refl _ _); (case aS => omega); (case aL => omega); intro v1 w5 ho hb hg hat; have HO := Aside0.mk ho; have HB5 := Aside0.mk hb; have HG5 := Aside0.mk hg; have HAT := Aside0.mk hat; have hb5 := Aside0.mk (blk_grown HBLK.out hg (Kd.R_ne HR2.out HBLK.out (by decide))); have HX5 := Aside0.mk (blk_grown HX.out hg (Kd.R_ne HR2.out HX.out (by decide))); have q1 : w5.cell? ⟨g, 1, none⟩ = some (.slice A s.V.length c) := blk_cell hb5.out 1; have qz : w5.frozen? ⟨g, 1, none⟩ = false := blk_frozen hb5.out 1; clear ho hb hg hat; obtain ⟨A9, c9, rfl⟩ := Kd.R_slice HO.out)
        | fail)
      go_meet
      have HO' : Kd.R k43 43 w5 base (fun k => k ≠ g) (.slice A9 (s.V.length + 1) c9) (s.V ++ [⟨(s.V.length : Int), p, name, a2, a3, a4, a5, false⟩]) := by
        have := HO.out
        rwa [List.length_append, List.length_singleton] at this
      refine ⟨HS2.out.pushed HBLK.out HR2.out HO' HG5.out, blk_far HX5.out (by show _ ≠ g; have := blk_ne HX.out HBLK.out (by decide); omega) _, ?_, ?_⟩
      · have h1 : Below base w w5 := (HB2.out.mono hbase).trans HB5.out
        have hg2 := HS2.out.1
        exact h1.setCell hg2 _
      · have hvo : vown g wc = (Value.slice A s.V.length c).ownBlock := vown_of HBLK.out
        have h1 : KeepO g b w w5 := (KeepO.of_below HB2.out HS.out.lt).grown HG5.out (blk_lt HBLK.out) (Kd.R_ne HR2.out HBLK.out (by decide)) (.inr (.inl hvo.symm))
        refine h1.set_g hb5.out ?_
        have hvw : vown g wc = vown g w := vown_same (HB2.out.block g HS.out.lt)
        have hol : ∀ m m', (Value.slice A9 m c9).ownBlock = (Value.slice A9 m' c9).ownBlock := fun m m' => by cases A9 <;> rfl
        have hsz := HB2.out.size
        rcases HAT.out with e | ⟨k, e, hk⟩
        · exact .inl (by rw [← hvw, hvo, ← e]; exact hol _ _)
        · exact .inr ⟨k, (hol _ _).trans e, by omega⟩
    case rest =>
      obtain ⟨w6, rfl⟩ : ∃ w6 : World, w6 = wc := ⟨_, rfl⟩
      have HL6 := Aside0.mk hcut.out.1
      have HX6 := Aside0.mk hcut.out.2.1
      have HB6 := Aside0.mk hcut.out.2.2.1
      have HK6 := Aside0.mk hcut.out.2.2.2
      have x0 : w6.cell? ⟨w.heap.size, 0, none⟩ = some (.int .i64 (lkp s.D name).1) := blk_cell HX6.out 0
      have x1 : w6.cell? ⟨w.heap.size, 1, none⟩ = some (.int .i64 (lkp s.D name).2) := blk_cell HX6.out 1
      have xz : w6.frozen? ⟨w.heap.size, 1, none⟩ = false := blk_frozen HX6.out 1
      clear hcut k0 k1 z1
      go_upto_region 13 with fail
      go_cut [] (fun wx => Aside0 (LS base g b n ⟨s.D, s.V ++ [x]⟩ wx ∧ wx.heap[w.heap.size]? = some (.cells #[.int .i64 (lkp s.D name).1, .int .i64 (s.V.length : Int)] 80 (0, 0)) ∧ Below base w wx ∧ KeepO g b w wx))
      case first =>
        go_wp2
        go_meet
        exact ⟨HL6.out.far HX6.out 1 _, blk_put HX6.out 1 _ rfl, HB6.out.setCell hbase _, HK6.out.set_new (Nat.le_refl _) (by show w.heap.size ≠ g; have := HS.out.lt; omega) _⟩
      case rest =>
        obtain ⟨w7, rfl⟩ : ∃ w7 : World, w7 = wc := ⟨_, rfl⟩
        have HL7 := Aside0.mk hcut.out.1
        have HX7 := Aside0.mk hcut.out.2.1
        have HB7 := Aside0.mk hcut.out.2.2.1
        have HK7 := Aside0.mk hcut.out.2.2.2
        have x0 : w7.cell? ⟨w.heap.size, 0, none⟩ = some (.int .i64 (lkp s.D name).1) := blk_cell HX7.out 0
        have x1 : w7.cell? ⟨w.heap.size, 1, none⟩ = some (.int .i64 (s.V.length : Int)) := blk_cell HX7.out 1
        obtain ⟨A7, c7, hb7, hR7⟩ := HL7.out.block
        have l0 : w7.cell? ⟨g, 0, none⟩ = some (.map (some b)) := blk_cell hb7 0
        clear hcut hb7 hR7
        go_upto_region 14 with fail
        go_cut [] (fun wx => Aside0 (LS base g b (n + 1) ⟨s.D.put (keyB name) (lnD (lkp s.D name).1 (s.V.length : Int)), s.V ++ [x]⟩ wx ∧ Below base w wx ∧ KeepO g b w wx))
        case first =>
          have HL8 := Aside0.mk (HL7.out.below (below_drew1 (Below.refl _ _)))
          obtain ⟨w8, hrun, r1, r2⟩ := HL8.out.2.2.2.update (string_keyed Try.underlying9) Try.underlying76 hn (key := .string name) (val := .agg #[.int .i64 (lkp s.D name).1, .int .i64 (s.V.length : Int)]) (keyOf_str Try.underlying9 hs) (lineR_mk _ _)
          have HP := Aside0.mk (LS.put HL8.out r1 r2)
          have HG := Aside0.mk r2
          have HX8 := Aside0.mk (blk_grown (blk_drew HX7.out) r2 (fun e => by
            obtain ⟨es, clock, hb, _⟩ := HL7.out.2.2.2
            rw [← Option.some.inj e, HX7.out] at hb
            cases hb))
          obtain ⟨A8, c8, hb8, hR8⟩ := HP.out.block
          have m0 : w8.cell? ⟨g, 0, none⟩ = some (.map (some b)) := blk_cell hb8 0
          have m1 : w8.cell? ⟨w.heap.size, 0, none⟩ = some (.int .i64 (lkp s.D name).1) := blk_cell HX8.out 0
          have m2 : w8.cell? ⟨w.heap.size, 1, none⟩ = some (.int .i64 (s.V.length : Int)) := blk_cell HX8.out 1
          clear r1 r2 hb8 hR8
          go_region_held3 (fun w' => w'.cell? ⟨g, 0, none⟩ = some (.map (some b)) ∧ w'.cell? ⟨w.heap.size, 0, none⟩ = some (.int .i64 (lkp s.D name).1) ∧ w'.cell? ⟨w.heap.size, 1, none⟩ = some (.int .i64 (s.V.length : Int)))
            (first | exact ⟨l0, x0, x1⟩ | exact ⟨m0, m1, m2⟩) (first | fail)
          all_goals go_wp2
          all_goals go_meet
          all_goals exact ⟨HP.out, (below_drew1 HB7.out).grown HG.out (Nat.le_trans hbase HB7.out.size) (fun k hk => by cases hk; exact HL7.out.2.1), (HK7.out.trans (KeepO.of_below (below_drew1 (Below.refl _ _)) HL7.out.lt)).grown HG.out HL8.out.lt (fun e => HL8.out.ne (Option.some.inj e)) (.inl rfl)⟩
        case rest =>
          obtain ⟨w8, rfl⟩ : ∃ w8 : World, w8 = wc := ⟨_, rfl⟩
          have HZ := hcut
          go_wp2
          go_ret2
          exact ⟨rfl, HZ.out.1, HZ.out.2.1, HZ.out.2.2⟩
end Go.Proofs.Ytcbkcgnigncahaa.P
