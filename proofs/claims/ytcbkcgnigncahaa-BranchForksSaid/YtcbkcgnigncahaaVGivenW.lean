import Derived.Test.YtcbkcgnigncahaaVGivenU
import Derived.Test.YtcbkcgnigncahaaVGivenV
import Derived.Test.YtcbkcgnigncahaaVPlainF
namespace Go.Proofs.Ytcbkcgnigncahaa.P
open Go.RowKit Go.Maps Go.Proofs.YtcbkcgnigncahaaW.PrintWords Go.Proofs.YtcbkcgnigncahaaW.PrintLast Go.Proofs.YtcbkcgnigncahaaW.PrintMore
attribute [local go_sem] max2_int min2_int max_two min_two max_three min_three max_four min_four
set_option linter.unusedVariables false
set_option linter.unusedSimpArgs false
/-- A block of the caller's own that the line does not hold. -/
structure Box (g b B : Nat) (o : Obj) (W : World) : Prop where
  at_ : W.heap[B]? = some o
  ng : B ≠ g
  nb : B ≠ b
  no : some B ≠ vown g W
theorem Box.below {g b B : Nat} {o : Obj} {W W' : World} (h : Box g b B o W) (hb : Below W.heap.size W W') (hg : g < W.heap.size) : Box g b B o W' :=
  ⟨(hb.block B (Array.getElem?_eq_some_iff.1 h.at_).1).trans h.at_, h.ng, h.nb, by rw [vown_same (hb.block g hg)]; exact h.no⟩
theorem Box.keep {g b B : Nat} {o : Obj} {W W' : World} (h : Box g b B o W) (hk : KeepO g b W W') : Box g b B o W' := by
  have hl := (Array.getElem?_eq_some_iff.1 h.at_).1
  refine ⟨(hk.block B hl h.ng h.nb h.no).trans h.at_, h.ng, h.nb, ?_⟩
  rcases hk.own with e | ⟨k, e, hk⟩
  · rw [e]; exact h.no
  · rw [e]; intro e2; have := Option.some.inj e2; omega
theorem Box.grown {g b B : Nat} {o : Obj} {W W' : World} {row : Option Nat} (h : Box g b B o W) (hg : W.grownBy W' row) (hgl : g < W.heap.size) (h1 : some B ≠ row) (h2 : some g ≠ row) : Box g b B o W' :=
  ⟨(hg.block B (Array.getElem?_eq_some_iff.1 h.at_).1 h1).trans h.at_, h.ng, h.nb, by rw [vown_same (hg.block g hgl h2)]; exact h.no⟩
theorem LS.vown_lt {base g b n : Nat} {s : Ln} {W : World} (h : LS base g b n s W) : ∀ k, vown g W = some k → k < W.heap.size := by
  obtain ⟨_, _, ⟨v, h3, h4⟩, _⟩ := h
  intro k hk
  rw [vown_of h3] at hk
  exact Kd.R_lt h4 k hk
theorem Box.new {base g b n : Nat} {s : Ln} {W : World} (h : LS base g b n s W) (cs : Array Value) (t : TypeId) : Box g b W.heap.size (.cells cs t (0, 0)) (W.alloc (.cells cs t)) := by
  have hg := h.lt
  have hb := h.ltb
  refine ⟨blk_new W (.cells cs t), by omega, by omega, ?_⟩
  rw [vown_same (Below.heap_alloc W _ g hg)]
  intro e
  have := h.vown_lt _ e.symm
  omega
theorem row_ne {α : Type} {d : Kd α} {e base B t : Nat} {ok : Nat → Prop} {v : Value} {xs : List α} {W : World} {cs : Array Value} (h : Kd.R d e W base ok v xs) (hb : W.heap[B]? = some (Obj.cells cs t (0, 0))) (hne : e ≠ t) : some B ≠ v.ownBlock := Kd.R_ne h hb hne
theorem LS.at_g {base g b n : Nat} {s : Ln} {W : World} (h : LS base g b n s W) : W.heap[g]? = some (Obj.cells #[.map (some b), (h.2.2.1.choose)] 78 (0, 0)) := h.2.2.1.choose_spec.1
theorem ran_run : ∀ (ops : List S38) (k : Nat) (s : Ln), Ran k s → (∀ o ∈ ops, OpOk o) → Ran (k + ops.length) (runL s ops)
  | [], k, s, h, _ => h
  | o :: ops, k, s, h, ho => by
    have := ran_run ops (k + 1) (doF s o).2.2 (h.do_ (ho o (List.mem_cons_self ..))) (fun x hx => ho x (List.mem_cons_of_mem _ hx))
    rw [List.length_cons, show k + (ops.length + 1) = k + 1 + ops.length by omega]
    exact this
set_option maxHeartbeats 16000000 in
set_option maxRecDepth 100000 in
theorem law6 (l0 : List Int) (A0 : Option Addr) (c0 : Nat) (fr x y t u : Int) (ops : List S38) (k0 : Nat) (W : World)
    (hr0 : Kd.C (Kd.int .i64) W A0 l0.length l0) (hc0 : l0.length ≤ c0)
    (hs0 : skymosaicref31_Script.f k0 l0 18 = some ops) (ho0 : ∀ o ∈ ops, OpOk o) (hl0 : ops.length ≤ 18)
    (hfr : ∀ L : Int, 1 ≤ L → L ≤ 100000 → ∃ A, skymosaicref01_Around.f fr L = some A ∧ 0 ≤ A ∧ A < L)
    (ht : skymosaicref01_Around.f x 32 = some t) (hu : skymosaicref01_Around.f y 32 = some u) :
    Calls Try.prog 6 #[.slice A0 l0.length c0, .int .i64 fr, .int .i64 x, .int .i64 y] W fun e W' => e = .returned (.bool true) ∧ Below W.heap.size W W' := by
  have HR0 := Aside0.mk hr0
  have HS0 := Aside0.mk hs0
  have HO0 := Aside0.mk ho0
  have HFR := Aside0.mk hfr
  have HT := Aside0.mk ht
  have HU := Aside0.mk hu
  have hu38 := Try.underlying38
  have hu43 := Try.underlying43
  clear hr0 hs0 ho0 ht hu hfr
  go_enter Try.func6, Try.ntmps6
  go_wp2_with (first
    | (go_at_call 9; (with_reducible refine (new_calls _).mono ?_); rintro e w1 ⟨rfl, h1, h2⟩; have HL1 := Aside0.mk h1; have HB1 := Aside0.mk h2; clear h1 h2)
    | (go_at_call 15; (with_reducible refine (skymosaicref31_Script.calls k0 A0 c0 l0 18 ops w1 (Kd.C_below HR0.out HB1.out) hc0 HS0.out).mono ?_); rintro e w2 ⟨vo, rfl, h1, h2⟩; have HO2 := Aside0.mk h1; have HL2 := Aside0.mk (HL1.out.below h2); have HB2 := Aside0.mk (below_step HB1.out h2); clear h1 h2; obtain ⟨Ao, co, rfl⟩ := Kd.R_slice HO2.out)
    | fail)
  go_loopw [11] (fun v11 wr => ∃ i : Nat, v11 = .int .i64 i ∧ Aside0 (i ≤ ops.length) ∧ Aside0 (LS W.heap.size (W.heap.size + 1) W.heap.size i (runL Ln0 (ops.take i)) wr) ∧ Aside0 (Below W.heap.size W wr) ∧ Aside0 (Kd.R k38 38 wr w1.heap.size (fun _ => True) (.slice Ao ops.length co) ops)) (fun v _ => ops.length - (intOf v).toNat)
  case atStart => exact ⟨0, rfl, ⟨Nat.zero_le _⟩, HL2, HB2, HO2⟩
  case round =>
    obtain ⟨i, rfl, HI, HL, HB, HO⟩ := hrel
    obtain ⟨wa, rfl⟩ : ∃ wa : World, wa = wr := ⟨_, rfl⟩
    have hi := HI.out
    by_cases hlt : i < ops.length
    · obtain ⟨ad, e9, y0, y1, y2, y3, y4, y5, y6⟩ := at_T38 (Kd.R_reads' HO.out).2.2 (i : Int) (by omega) (by omega)
      obtain rfl := e9
      have HOK := Aside0.mk (HO0.out _ (mem_rd38 ops i hlt))
      have HTK := Aside0.mk (take_rd38 ops i hlt)
      obtain ⟨o, ho⟩ : ∃ o, rd_T38 ops (i : Int) = o := ⟨_, rfl⟩
      rw [ho] at HOK HTK y0 y1 y2 y3 y4 y5 y6
      rw [Int.toNat_natCast] at y0 y1 y2 y3 y4 y5 y6
      have hoz : o.f1.size ≤ maxLen := by have := HOK.out.size; unfold maxLen; omega
      have hcap := (Kd.R_reads' HO.out).2.1
      clear ho
      go_wp2_with (first
        | (go_at_call 16; (with_reducible refine (do_calls W.heap.size (W.heap.size + 1) W.heap.size i (runL Ln0 (ops.take i)) o wa HL.out HB.out.size hoz (by omega) (good0.run _)).mono ?_); rintro e w4 ⟨rfl, h1, h2, h3⟩; have HL4 := Aside0.mk h1; have HB4 := Aside0.mk h2; have HK4 := Aside0.mk (h3.toT HL.out); clear h1 h2 h3)
        | fail)
      go_roundw
      case rel => exact ⟨i + 1, by simp, ⟨by omega⟩, ⟨by rw [HTK.out, runL_snoc]; exact HL4.out⟩, ⟨HB.out.trans HB4.out⟩, ⟨HK4.out.row HO.out (by decide)⟩⟩
      case measure => simp [intOf]; omega
    · obtain rfl : i = ops.length := by omega
      rw [List.take_length] at HL
      obtain ⟨s1, hs1⟩ : ∃ s1, runL Ln0 ops = s1 := ⟨_, rfl⟩
      have HRA := Aside0.mk (show Ran 18 s1 from by
        have := ran_run ops 0 Ln0 ran0 HO0.out
        rw [hs1, Nat.zero_add] at this
        exact ⟨this.good, Nat.le_trans this.few hl0, Nat.le_trans this.vers hl0, this.names, this.known⟩)
      have HG := Aside0.mk HRA.out.good
      rw [hs1] at HL
      clear hs1
      go_upto_region 11 with (first
        | (go_at_call 27; (with_reducible refine (versions_calls W.heap.size (W.heap.size + 1) W.heap.size ops.length s1 wa HL.out HG.out.most).mono ?_); rintro e w5 ⟨vv, rfl, h1, h2⟩; have HV5 := Aside0.mk h1; have HL5 := Aside0.mk (HL.out.below h2); have HB5 := Aside0.mk (below_step HB.out h2); clear h1 h2; obtain ⟨Av, cv, rfl⟩ := Kd.R_slice HV5.out)
        | (go_at_call 17; (with_reducible refine (branches_calls W.heap.size (W.heap.size + 1) W.heap.size ops.length s1 w5 HL5.out HG.out).mono ?_); rintro e w6 ⟨vn, rfl, h1, h2⟩; have HN6 := Aside0.mk h1; have HV6 := Aside0.mk (Kd.R_below HV5.out h2); have HL6 := Aside0.mk (HL5.out.below h2); have HB6 := Aside0.mk (below_step HB5.out h2); clear h1 h2; obtain ⟨An, cn, rfl⟩ := Kd.R_slice HN6.out)
        | fail)
      obtain ⟨names, hnm⟩ : ∃ names, branchesF s1 = names := ⟨_, rfl⟩
      rw [hnm] at HN6 ⊢
      have HNM := Aside0.mk (show ∀ z ∈ names, hasB s1.D z = true ∧ z.size ≤ 1000 from fun z hz => have h := mem_branches HG.out (hnm ▸ hz); ⟨h, by have := HG.out.short h; omega⟩)
      have hn64 : names.length ≤ 64 := by
        have h1 := HG.out.few
        obtain ⟨es, he, _⟩ := HG.out.keyed
        rw [he] at h1
        rw [← hnm]; unfold branchesF; rw [List.length_map, List.length_mergeSort, he]
        show (es.map _).length ≤ 64
        rw [List.length_map]; exact h1
      clear hnm
      have hvl := HRA.out.vers
      by_cases hz : s1.V.length = 0
      · have FK := Aside0.mk (fork_empty HRA.out hz)
        have hz' : ((s1.V.length : Int) == 0) = true := by rw [hz]; rfl
        have HZ := Aside0.mk hz
        clear hz
        go_wp2_with (first
          | (go_at_call 11; (with_reducible refine (fork_calls W.heap.size (W.heap.size + 1) W.heap.size ops.length s1 (ByteArray.mk #[110, 101, 119]) 0 w6 HL6.out HB6.out.size (by decide) (by omega)).mono ?_); rintro e w7 ⟨rfl, h1, h2, _⟩; rw [show (forkF s1 (ByteArray.mk #[110, 101, 119]) 0).1 = 7 from congrArg Prod.fst FK.out]; have HB7 := Aside0.mk (HB6.out.trans h2); clear h1 h2)
          | (go_at_call 14; (with_reducible refine (lives_calls w7).mono ?_); rintro e w8 ⟨rfl, hb⟩; have HB8 := Aside0.mk (below_step HB7.out hb); clear hb)
          | fail)
        go_returns
        exact ⟨rfl, HB8.out⟩
      · obtain ⟨A, hA, a0, a1⟩ := HFR.out (s1.V.length : Int) (by omega) (by omega)
        have HA := Aside0.mk hA
        have hz' : ((s1.V.length : Int) == 0) = false := by simpa using hz
        obtain ⟨ad, e9, y0, y1, y2, y3, y4, y5, y6, y7⟩ := at_T43 (Kd.R_reads' HV6.out).2.2 A a0 a1
        obtain rfl := e9
        have hcap := (Kd.R_reads' HV6.out).2.1
        have hid := (HG.out.par A a0 a1).2.2
        clear hA hz y0 y1 y2 y3 y4 y5 y6 y7
        obtain ⟨⟨q0, q1, q2, q3, q4, q5, q6, q7⟩, hq⟩ : ∃ v, rd_T43 s1.V A = v := ⟨_, rfl⟩
        rw [hq] at hid
        simp only at hid
        subst hid
        have HX := Aside0.mk hq
        clear hq
        go_upto_region 14 with (first
          | (go_at_call 10; (with_reducible refine (skymosaicref01_Around.calls fr (s1.V.length : Int) q0 w6 HA.out).mono ?_); rintro e w7 ⟨rfl, hd⟩; have HL7 := Aside0.mk (HL6.out.below hd.below); have HB7 := Aside0.mk (below_step HB6.out hd.below); have HN7 := Aside0.mk (Kd.R_below HN6.out hd.below); have HV7 := Aside0.mk (Kd.R_below HV6.out hd.below); clear hd; obtain ⟨ad7, e9, y0, y1, y2, y3, y4, y5, y6, y7⟩ := at_T43 (Kd.R_reads' HV7.out).2.2 q0 a0 a1; obtain rfl := Option.some.inj e9; rw [HX.out] at y0 y1 y2 y3 y4 y5 y6 y7)
          | fail)
        have hw8 := World.size_alloc w7 (.cells #[.int .i64 q0, .int .i64 q1, .string q2, .int .i64 q3, .int .i64 q4, .int .i64 q5, .int .u64 q6, .bool q7] 43)
        obtain ⟨w8, h8⟩ : ∃ w8, w7.alloc (.cells #[.int .i64 q0, .int .i64 q1, .string q2, .int .i64 q3, .int .i64 q4, .int .i64 q5, .int .u64 q6, .bool q7] 43) = w8 := ⟨_, rfl⟩
        have hb8 : Below w7.heap.size w7 w8 := h8 ▸ below_alloc (Below.refl _ _) _
        have HL8 := Aside0.mk (HL7.out.below hb8)
        have HB8 := Aside0.mk (below_step HB7.out hb8)
        have HN8 := Aside0.mk (Kd.R_below HN7.out hb8)
        have hbox : Box (W.heap.size + 1) W.heap.size w7.heap.size (Obj.cells #[.int .i64 q0, .int .i64 q1, .string q2, .int .i64 q3, .int .i64 q4, .int .i64 q5, .int .u64 q6, .bool q7] 43 (0, 0)) w8 := by rw [← h8]; exact Box.new HL7.out _ _
        have HX8 := Aside0.mk hbox
        have x0 : w8.cell? ⟨w7.heap.size, 0, none⟩ = some (.int .i64 q0) := blk_cell hbox.at_ 0
        rw [h8]
        clear y0 y1 y2 y3 y4 y5 y6 y7 h8 hb8 hbox hw8
        cases q7 with
        | true =>
          have FK := Aside0.mk (fork_closed HRA.out a0 a1 (by unfold closedB; rw [HX.out]))
          go_wp2_with (first
            | (go_at_call 11; (with_reducible refine (fork_calls W.heap.size (W.heap.size + 1) W.heap.size ops.length s1 (ByteArray.mk #[110, 101, 119]) q0 w8 HL8.out HB8.out.size (by decide) (by omega)).mono ?_); rintro e w9 ⟨rfl, h1, h2, h3⟩; rw [show (forkF s1 (ByteArray.mk #[110, 101, 119]) q0).1 = 28 from congrArg Prod.fst FK.out]; have HB9 := Aside0.mk (HB8.out.trans h2); have HX9 := Aside0.mk (HX8.out.keep h3); clear h1 h2 h3; have x7 : w9.cell? ⟨w7.heap.size, 7, none⟩ = some (.bool true) := blk_cell HX9.out.at_ 7)
            | (go_at_call 14; (with_reducible refine (lives_calls w9).mono ?_); rintro e w10 ⟨rfl, hb⟩; have HB10 := Aside0.mk (below_step HB9.out hb); clear hb)
            | fail)
          go_returns
          exact ⟨rfl, HB10.out⟩
        | false =>
          have hc : closedB s1 q0 = false := by unfold closedB; rw [HX.out]
          have FK := Aside0.mk (fork_new HRA.out (by omega) a0 a1 hc)
          have HD := Aside0.mk (head_new HRA.out a0 a1 hc)
          have HPU := Aside0.mk (show publishF (fk2 s1 q0) nNew 0 q4 (-1) 3 = ((s1.V.length : Int), 0, fk3 s1 q0) from by have h := publish_new HRA.out (by omega) a0 a1; rw [HX.out] at h; exact h)
          have HGT := Aside0.mk (show getF (fk3 s1 q0) (s1.V.length : Int) = (⟨(s1.V.length : Int), q0, (ByteArray.mk #[110, 101, 119]), 0, q4, -1, 3, false⟩, 0) from by have h := get_new (s := s1) (a := q0); unfold fkx at h; rw [HX.out] at h; exact h)
          have HBS := Aside0.mk (base_new HRA.out (by omega) a0 a1 hc)
          have HCL := Aside0.mk (close_new (s := s1) (a := q0))
          have HFN := Aside0.mk (fork_newer (a := q0) HRA.out)
          have HHA := Aside0.mk (head_again HRA.out a0 a1 hc)
          have HRD := Aside0.mk (fun (z : ByteArray) (hz : hasB s1.D z = true) => read_again (a := q0) HRA.out hz t u)
          have HG23 := Aside0.mk (good_fk3 HRA.out (by omega) a0 a1 hc)
          have HG4 := Aside0.mk (show Good (fk4 s1 q0) from by have h := HG23.out.2.close (s1.V.length : Int); rw [HCL.out] at h; exact h)
          clear hc
          go_upto_region 21 with (first
            | (go_at_call 11; (with_reducible refine (fork_calls W.heap.size (W.heap.size + 1) W.heap.size ops.length s1 (ByteArray.mk #[110, 101, 119]) q0 w8 HL8.out HB8.out.size (by decide) (by omega)).mono ?_); rintro e w9 ⟨rfl, h1, h2, h3⟩; rw [show (forkF s1 (ByteArray.mk #[110, 101, 119]) q0).1 = 0 from congrArg Prod.fst FK.out]; have HL9 := Aside0.mk (show LS W.heap.size (W.heap.size + 1) W.heap.size (ops.length + 1) (fk2 s1 q0) w9 from by have := h1; rwa [show (forkF s1 (ByteArray.mk #[110, 101, 119]) q0).2 = fk2 s1 q0 from congrArg Prod.snd FK.out] at this); have HB9 := Aside0.mk (HB8.out.trans h2); have HX9 := Aside0.mk (HX8.out.keep h3); have HN9 := Aside0.mk ((h3.toT HL8.out).row HN8.out (by decide)); clear h1 h2 h3; have x7 : w9.cell? ⟨w7.heap.size, 7, none⟩ = some (.bool false) := blk_cell HX9.out.at_ 7)
            | (go_at_call 20; (with_reducible refine (head_calls W.heap.size (W.heap.size + 1) W.heap.size (ops.length + 1) (fk2 s1 q0) (ByteArray.mk #[110, 101, 119]) w9 HL9.out (by decide) HG23.out.1).mono ?_); rintro e w10 ⟨rfl, hb⟩; rw [show headF (fk2 s1 q0) (ByteArray.mk #[110, 101, 119]) = (q0, 0) from HD.out]; have HL10 := Aside0.mk (HL9.out.below hb); have HB10 := Aside0.mk (below_step HB9.out hb); have HN10 := Aside0.mk (Kd.R_below HN9.out hb); have HX10 := Aside0.mk (HX9.out.below hb HL9.out.lt); clear hb x7)
            | (go_at_call 10; (with_reducible refine (skymosaicref01_Around.calls x 32 t w10 HT.out).mono ?_); rintro e w11 ⟨rfl, hd⟩; have HL11 := Aside0.mk (HL10.out.below hd.below); have HB11 := Aside0.mk (below_step HB10.out hd.below); have HN11 := Aside0.mk (Kd.R_below HN10.out hd.below); have HX11 := Aside0.mk (HX10.out.below hd.below HL10.out.lt); clear hd)
            | (go_at_call 10; (with_reducible refine (skymosaicref01_Around.calls y 32 u w11 HU.out).mono ?_); rintro e w12 ⟨rfl, hd⟩; have HL12 := Aside0.mk (HL11.out.below hd.below); have HB12 := Aside0.mk (below_step HB11.out hd.below); have HN12 := Aside0.mk (Kd.R_below HN11.out hd.below); have HX12 := Aside0.mk (HX11.out.below hd.below HL11.out.lt); clear hd)
            | fail)
          go_wp2_with fail
          go_loopw [18, 21] (fun v18 v21 wr => ∃ j : Nat, v21 = .int .i64 j ∧ Aside0 (j ≤ names.length) ∧ Aside0 (LS W.heap.size (W.heap.size + 1) W.heap.size (ops.length + 1) (fk2 s1 q0) wr) ∧ Aside0 (Below W.heap.size W wr) ∧ Aside0 (Kd.string.R 9 wr w5.heap.size (fun _ => True) (.slice An names.length cn) names) ∧
              Aside0 (Box (W.heap.size + 1) W.heap.size w7.heap.size (Obj.cells #[.int .i64 q0, .int .i64 q1, .string q2, .int .i64 q3, .int .i64 q4, .int .i64 q5, .int .u64 q6, .bool false] 43 (0, 0)) wr) ∧
              Aside0 (Kd.R (Kd.int .i64) 3 wr W.heap.size (fun _ => True) v18 ((names.take j).map fun z => (readF (fk2 s1 q0) z t u).1))) (fun _ v _ => names.length - (intOf v).toNat)
          case atStart => exact ⟨0, rfl, ⟨Nat.zero_le _⟩, HL12, HB12, HN12, HX12, ⟨by simpa using Kd.R_nil _ _ _ _ _⟩⟩
          case round =>
            obtain ⟨j, rfl, HJ, HLj, HBj, HNj, HXj, HOj⟩ := hrel
            obtain ⟨wb, rfl⟩ : ∃ wb : World, wb = wr := ⟨_, rfl⟩
            have hj := HJ.out
            by_cases hlt2 : j < names.length
            · obtain ⟨ad2, e9, y0⟩ := Kd.at_string (Kd.R_reads' HNj.out).2.2 (j : Int) (by omega) (by omega)
              obtain rfl := e9
              rw [Int.toNat_natCast] at y0
              have hzm : rdOf ByteArray.empty names (j : Int) ∈ names := by
                unfold rdOf
                rw [Int.toNat_natCast, List.getD_eq_getElem?_getD, List.getElem?_eq_getElem hlt2]
                exact List.getElem_mem hlt2
              have htk : names.take (j + 1) = names.take j ++ [rdOf ByteArray.empty names (j : Int)] := by
                rw [List.take_succ_eq_append_getElem hlt2]
                unfold rdOf
                rw [Int.toNat_natCast, List.getD_eq_getElem?_getD, List.getElem?_eq_getElem hlt2]
                rfl
              obtain ⟨z, hz⟩ : ∃ z, rdOf ByteArray.empty names (j : Int) = z := ⟨_, rfl⟩
              rw [hz] at hzm htk y0
              have hzs : z.size ≤ maxLen := by have := (HNM.out z hzm).2; unfold maxLen; omega
              have hcap2 := (Kd.R_reads' HNj.out).2.1
              have HTK := Aside0.mk htk
              have HLEN := Aside0.mk (show ((names.take j).map fun z => (readF (fk2 s1 q0) z t u).1).length = j from by rw [List.length_map, List.length_take]; omega)
              obtain ⟨olds, hol⟩ : ∃ olds, ((names.take j).map fun z => (readF (fk2 s1 q0) z t u).1) = olds := ⟨_, rfl⟩
              have HOL := Aside0.mk hol
              rw [hol] at HOj HLEN
              obtain ⟨Ax, cx, rfl⟩ := Kd.R_slice HOj.out
              rw [HLEN.out] at HOj ⊢
              obtain ⟨rv, hrv⟩ : ∃ rv, (readF (fk2 s1 q0) z t u).1 = rv := ⟨_, rfl⟩
              obtain ⟨en, hen⟩ : ∃ en, (readF (fk2 s1 q0) z t u).2 = en := ⟨_, rfl⟩
              have HRV := Aside0.mk hrv
              have HEN := Aside0.mk hen
              clear hol hz htk hzm hrv hen
              go_wp2_with (first
                | (go_at_call 18; (with_reducible refine (read_calls W.heap.size (W.heap.size + 1) W.heap.size (ops.length + 1) (fk2 s1 q0) z t u wb HLj.out hzs HG23.out.1).mono ?_); rintro e w13 ⟨rfl, hb⟩; rw [HRV.out, HEN.out]; have HL13 := Aside0.mk (HLj.out.below hb); have HB13 := Aside0.mk (below_step HBj.out hb); have HN13 := Aside0.mk (Kd.R_below HNj.out hb); have HO13 := Aside0.mk (Kd.R_below HOj.out hb); have HX13 := Aside0.mk (HXj.out.below hb HLj.out.lt); clear hb)
                | (at_builtin; refine Kd.R_append (Kd.int .i64) (w0 := W) W.heap.size rfl (.tmp 109) (.tmp 111) 33 3 (.int .i64 0) 8 rfl Try.underlying33 info3 rfl (by decide) (by omega) (.slice Ax j cx) olds rv [.int .i64 rv] (fun _ => True) (fun _ => False) rfl rfl ?aP (fun _ hk => hk.elim) ?aF HO13.out ?aB ?aS ?aL ?_; (case aP => exact rfl); (case aF => exact fun _ _ => trivial); (case aB => exact HB13.out); (case aS => exact HB13.out.size); (case aL => rw [HLEN.out]; omega); intro v1 w14 ho hb hg hat; have HO14 := Aside0.mk ho; have HB14 := Aside0.mk hb; have HL14 := Aside0.mk (HL13.out.keep hg (fun r hr => by obtain ⟨cells, hc⟩ := Kd.R_typed HO13.out r hr; exact ⟨cells, 3, hc, by decide, by decide⟩)); have HN14 := Aside0.mk (Kd.R_over' HN13.out (Kd.R_typed HO13.out) (by decide) hg); have HX14 := Aside0.mk (HX13.out.grown hg HL13.out.lt (row_ne HO13.out HX13.out.at_ (by decide)) (row_ne HO13.out HL13.out.at_g (by decide))); clear ho hb hg hat; obtain ⟨A9, c9, rfl⟩ := Kd.R_slice HO14.out)
                | fail)
              go_roundw
              case rel => exact ⟨j + 1, by simp, ⟨by omega⟩, HL14, HB14, HN14, HX14, ⟨by rw [HTK.out, List.map_append, HOL.out]; simp only [List.map_cons, List.map_nil, HRV.out]; have := HO14.out; rwa [List.length_append, List.length_singleton] at this⟩⟩
              case measure => simp [intOf]; omega
            · obtain rfl : j = names.length := by omega
              rw [List.take_length] at HOj
              obtain ⟨Ax, cx, rfl⟩ := Kd.R_slice HOj.out
              have hlenv : (names.map fun z => (readF (fk2 s1 q0) z t u).1).length = names.length := by rw [List.length_map]
              rw [hlenv] at HOj ⊢
              have x4 : wb.cell? ⟨w7.heap.size, 4, none⟩ = some (.int .i64 q4) := blk_cell HXj.out.at_ 4
              clear hlenv x0
              go_upto_region 34 with (first
                | (go_at_call 13; (with_reducible refine (publish_calls W.heap.size (W.heap.size + 1) W.heap.size (ops.length + 1) (fk2 s1 q0) (ByteArray.mk #[110, 101, 119]) 0 q4 (-1) 3 wb HLj.out HBj.out.size (by decide) (by unfold maxLen; omega) HG23.out.1.most (fun h => (HG23.out.1.first h).2)).mono ?_); rintro e w16 ⟨rfl, h1, h2, h3⟩; rw [show (publishF (fk2 s1 q0) (ByteArray.mk #[110, 101, 119]) 0 q4 (-1) 3).1 = (s1.V.length : Int) from congrArg Prod.fst HPU.out, show (publishF (fk2 s1 q0) (ByteArray.mk #[110, 101, 119]) 0 q4 (-1) 3).2.1 = 0 from congrArg (fun r => r.2.1) HPU.out]; have HL16 := Aside0.mk (show LS W.heap.size (W.heap.size + 1) W.heap.size (ops.length + 1 + 1) (fk3 s1 q0) w16 from by have := h1; rwa [show (publishF (fk2 s1 q0) (ByteArray.mk #[110, 101, 119]) 0 q4 (-1) 3).2.2 = fk3 s1 q0 from congrArg (fun r => r.2.2) HPU.out] at this); have HB16 := Aside0.mk (HBj.out.trans h2); have HX16 := Aside0.mk (HXj.out.keep h3); have HN16 := Aside0.mk ((h3.toT HLj.out).row HNj.out (by decide)); have HO16 := Aside0.mk ((h3.toT HLj.out).row HOj.out (by decide)); clear h1 h2 h3 x4)
                | (go_at_call 19; (with_reducible refine (get_calls W.heap.size (W.heap.size + 1) W.heap.size (ops.length + 1 + 1) (fk3 s1 q0) (s1.V.length : Int) w16 HL16.out).mono ?_); rintro e w17 ⟨rfl, hb⟩; rw [HGT.out]; unfold agg43; have hb2 := below_step hb (below_alloc (Below.refl _ _) (.cells #[.int .i64 (s1.V.length : Int), .int .i64 q0, .string (ByteArray.mk #[110, 101, 119]), .int .i64 0, .int .i64 q4, .int .i64 (-1), .int .u64 3, .bool false] 43)); have HLA := Aside0.mk (HL16.out.below hb2); have HBA := Aside0.mk (below_step HB16.out hb2); have HNA := Aside0.mk (Kd.R_below HN16.out hb2); have HOA := Aside0.mk (Kd.R_below HO16.out hb2); have HXA := Aside0.mk (HX16.out.below hb2 HL16.out.lt); have x0a : (w17.alloc (.cells #[.int .i64 (s1.V.length : Int), .int .i64 q0, .string (ByteArray.mk #[110, 101, 119]), .int .i64 0, .int .i64 q4, .int .i64 (-1), .int .u64 3, .bool false] 43)).cell? ⟨w7.heap.size, 0, none⟩ = some (.int .i64 q0) := blk_cell HXA.out.at_ 0; clear hb hb2)
                | (go_at_call 21; (with_reducible refine (base_calls W.heap.size (W.heap.size + 1) W.heap.size (ops.length + 1 + 1) (fk3 s1 q0) (s1.V.length : Int) q0 _ HLA.out HG23.out.2.ok).mono ?_); rintro e w18 ⟨rfl, hb⟩; rw [HBS.out]; obtain rfl := hb)
                | (go_at_call 28; (with_reducible refine (close_calls W.heap.size (W.heap.size + 1) W.heap.size (ops.length + 1 + 1) (fk3 s1 q0) (s1.V.length : Int) _ HLA.out HBA.out.size).mono ?_); rintro e w19 ⟨rfl, h1, h2, h3⟩; rw [show (closeF (fk3 s1 q0) (s1.V.length : Int)).1 = 0 from congrArg Prod.fst HCL.out]; have HL19 := Aside0.mk (show LS W.heap.size (W.heap.size + 1) W.heap.size (ops.length + 1 + 1) (fk4 s1 q0) w19 from by have := h1; rwa [show (closeF (fk3 s1 q0) (s1.V.length : Int)).2 = fk4 s1 q0 from congrArg Prod.snd HCL.out] at this); have HB19 := Aside0.mk (HBA.out.trans h2); have HX19 := Aside0.mk (HXA.out.keep h3); have HN19 := Aside0.mk ((h3.toT HLA.out).row HNA.out (by decide)); have HO19 := Aside0.mk ((h3.toT HLA.out).row HOA.out (by decide)); clear h1 h2 h3 x0a)
                | (go_at_call 11; (with_reducible refine (fork_calls W.heap.size (W.heap.size + 1) W.heap.size (ops.length + 1 + 1) (fk4 s1 q0) (ByteArray.mk #[110, 101, 119, 101, 114]) (s1.V.length : Int) w19 HL19.out HB19.out.size (by decide) (by omega)).mono ?_); rintro e w20 ⟨rfl, h1, h2, h3⟩; rw [show (forkF (fk4 s1 q0) (ByteArray.mk #[110, 101, 119, 101, 114]) (s1.V.length : Int)).1 = 28 from congrArg Prod.fst HFN.out]; have HL20 := Aside0.mk (show LS W.heap.size (W.heap.size + 1) W.heap.size (ops.length + 1 + 1 + 1) (fk4 s1 q0) w20 from by have := h1; rwa [show (forkF (fk4 s1 q0) (ByteArray.mk #[110, 101, 119, 101, 114]) (s1.V.length : Int)).2 = fk4 s1 q0 from congrArg Prod.snd HFN.out] at this); have HB20 := Aside0.mk (HB19.out.trans h2); have HX20 := Aside0.mk (HX19.out.keep h3); have HN20 := Aside0.mk ((h3.toT HL19.out).row HN19.out (by decide)); have HO20 := Aside0.mk ((h3.toT HL19.out).row HO19.out (by decide)); clear h1 h2 h3)
                | (go_at_call 20; (with_reducible refine (head_calls W.heap.size (W.heap.size + 1) W.heap.size (ops.length + 1 + 1 + 1) (fk4 s1 q0) (ByteArray.mk #[110, 101, 119]) w20 HL20.out (by decide) HG4.out).mono ?_); rintro e w21 ⟨rfl, hb⟩; rw [show headF (fk4 s1 q0) (ByteArray.mk #[110, 101, 119]) = (q0, 0) from HHA.out]; have HL21 := Aside0.mk (HL20.out.below hb); have HB21 := Aside0.mk (below_step HB20.out hb); have HN21 := Aside0.mk (Kd.R_below HN20.out hb); have HO21 := Aside0.mk (Kd.R_below HO20.out hb); have HX21 := Aside0.mk (HX20.out.below hb HL20.out.lt); clear hb)
                | fail)
              have hn63 : names.length ≤ 9223372036854775807 := by omega
              go_wp2_with fail
              go_loopw [32] (fun v32 wr => ∃ k : Nat, v32 = .int .i64 k ∧ Aside0 (k ≤ names.length) ∧ Aside0 (LS W.heap.size (W.heap.size + 1) W.heap.size (ops.length + 1 + 1 + 1) (fk4 s1 q0) wr) ∧ Aside0 (Below W.heap.size W wr) ∧ Aside0 (Kd.string.R 9 wr w5.heap.size (fun _ => True) (.slice An names.length cn) names) ∧
                  Aside0 (Box (W.heap.size + 1) W.heap.size w7.heap.size (Obj.cells #[.int .i64 q0, .int .i64 q1, .string q2, .int .i64 q3, .int .i64 q4, .int .i64 q5, .int .u64 q6, .bool false] 43 (0, 0)) wr) ∧
                  Aside0 (Kd.R (Kd.int .i64) 3 wr W.heap.size (fun _ => True) (.slice Ax names.length cx) (names.map fun z => (readF (fk2 s1 q0) z t u).1))) (fun v _ => names.length - (intOf v).toNat)
              case atStart => exact ⟨0, rfl, ⟨Nat.zero_le _⟩, HL21, HB21, HN21, HX21, HO21⟩
              case round =>
                obtain ⟨k, rfl, HK, HLk, HBk, HNk, HXk, HOk⟩ := hrel
                obtain ⟨wd, rfl⟩ : ∃ wd : World, wd = wr := ⟨_, rfl⟩
                have hk := HK.out
                by_cases hlt4 : k < names.length
                · obtain ⟨ad4, e9, _⟩ := Kd.at_string (Kd.R_reads' HNk.out).2.2 (k : Int) (by omega) (by omega)
                  obtain rfl := e9
                  have y0 := name_at HNk.out k hlt4
                  have hlo : k < (names.map fun z => (readF (fk2 s1 q0) z t u).1).length := by rw [List.length_map]; exact hlt4
                  obtain ⟨ad5, e9, _⟩ := Kd.at_int (Kd.R_reads' HOk.out).2.2 (k : Int) (by omega) (by omega)
                  obtain rfl := e9
                  have hzm : rdOf ByteArray.empty names (k : Int) ∈ names := by
                    unfold rdOf
                    rw [Int.toNat_natCast, List.getD_eq_getElem?_getD, List.getElem?_eq_getElem hlt4]
                    exact List.getElem_mem hlt4
                  have hrv : rd (names.map fun z => (readF (fk2 s1 q0) z t u).1) (k : Int) = (readF (fk2 s1 q0) (rdOf ByteArray.empty names (k : Int)) t u).1 := by
                    unfold rd rdOf
                    rw [Int.toNat_natCast, List.getD_eq_getElem?_getD, List.getD_eq_getElem?_getD, List.getElem?_map, List.getElem?_eq_getElem hlt4]
                    rfl
                  obtain ⟨z, hz⟩ : ∃ z, rdOf ByteArray.empty names (k : Int) = z := ⟨_, rfl⟩
                  rw [hz] at hzm y0 hrv
                  obtain ⟨old, hold⟩ : ∃ old, (readF (fk2 s1 q0) z t u).1 = old := ⟨_, rfl⟩
                  have hnow : (readF (fk4 s1 q0) z t u).1 = old := by rw [HRD.out z (HNM.out z hzm).1, hold]
                  obtain ⟨en, hen⟩ : ∃ en, (readF (fk4 s1 q0) z t u).2 = en := ⟨_, rfl⟩
                  have HRV := Aside0.mk (hrv.trans hold)
                  have HNOW := Aside0.mk hnow
                  have HEN := Aside0.mk hen
                  have hzs : z.size ≤ maxLen := by have := (HNM.out z hzm).2; unfold maxLen; omega
                  have hcap2 := (Kd.R_reads' HNk.out).2.1
                  have hcap3 := (Kd.R_reads' HOk.out).2.1
                  clear hz hrv hold hnow hen hlo hzm
                  go_wp2_with (first
                    | (go_at_call 18; (with_reducible refine (read_calls W.heap.size (W.heap.size + 1) W.heap.size (ops.length + 1 + 1 + 1) (fk4 s1 q0) z t u wd HLk.out hzs HG4.out).mono ?_); rintro e w22 ⟨rfl, hb⟩; rw [HNOW.out, HEN.out]; have HL22 := Aside0.mk (HLk.out.below hb); have HB22 := Aside0.mk (below_step HBk.out hb); have HN22 := Aside0.mk (Kd.R_below HNk.out hb); have HO22 := Aside0.mk (Kd.R_below HOk.out hb); have HX22 := Aside0.mk (HXk.out.below hb HLk.out.lt); clear hb; have yo := int_at HO22.out k (by rw [List.length_map]; exact hlt4); rw [HRV.out] at yo)
                    | fail)
                  go_roundw
                  case rel => exact ⟨k + 1, by simp, ⟨by omega⟩, HL22, HB22, HN22, HX22, HO22⟩
                  case measure => simp [intOf]; omega
                · have x0 : wd.cell? ⟨w7.heap.size, 0, none⟩ = some (.int .i64 q0) := blk_cell HXk.out.at_ 0
                  go_wp2_with (first
                    | (go_at_call 14; (with_reducible refine (lives_calls wd).mono ?_); rintro e w23 ⟨rfl, hb⟩; have HB23 := Aside0.mk (below_step HBk.out hb); clear hb)
                    | fail)
                  go_returns
                  exact ⟨rfl, HB23.out⟩
end Go.Proofs.Ytcbkcgnigncahaa.P
