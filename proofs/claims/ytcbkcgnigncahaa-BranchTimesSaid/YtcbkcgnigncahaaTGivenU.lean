import Derived.Test.YtcbkcgnigncahaaTGivenS
import Derived.Test.YtcbkcgnigncahaaTPlainC
import Derived.Test.YtcbkcgnigncahaaTPlainD
import Derived.Deep.QuietTactic
import Derived.Deep.RegionLaw
import Derived.Deep.RegionHeld3
namespace Go.Proofs.Ytcbkcgnigncahaa.P
open Go.RowKit Go.Maps Go.Proofs.YtcbkcgnigncahaaW.PrintWords Go.Proofs.YtcbkcgnigncahaaW.PrintLast Go.Proofs.YtcbkcgnigncahaaW.PrintMore
attribute [local go_sem] max2_int min2_int max_two min_two max_three min_three max_four min_four
set_option linter.unusedVariables false
set_option linter.unusedSimpArgs false
/-- A write into a block of another type leaves a line as it is. -/
theorem LS.keep {base g b n : Nat} {s : Ln} {W W1 : World} {row : Option Nat} (h : LS base g b n s W) (hg : W.grownBy W1 row) (hr : ∀ r, row = some r → ∃ cs t, W.heap[r]? = some (Obj.cells cs t (0, 0)) ∧ t ≠ 78 ∧ t ≠ 43) : LS base g b n s W1 := by
  obtain ⟨h1, h2, ⟨v, h3, h4⟩, h5⟩ := h
  have hne : ∀ (k : Nat) (cs : Array Value) (t : TypeId), W.heap[k]? = some (Obj.cells cs t (0, 0)) → (t = 78 ∨ t = 43) → some k ≠ row := by
    intro k cs t hk ht e
    obtain ⟨cs', t', hc, n1, n2⟩ := hr k e.symm
    rw [hk] at hc
    injection hc with hc
    injection hc with _ hc
    subst hc
    rcases ht with ht | ht
    · exact n1 ht
    · exact n2 ht
  have hb : some b ≠ row := by
    intro e
    obtain ⟨cs', t', hc, _⟩ := hr b e.symm
    obtain ⟨es, clock, hb, _⟩ := h5
    rw [hb] at hc
    cases hc
  refine ⟨h1, h2, ⟨v, blk_grown h3 hg (hne g _ _ h3 (.inl rfl)), Kd.R_mono (Kd.R_grown (Kd.R_bound h4) hg (fun k hk => ?_)) (fun k hk => hk.1)⟩, h5.kept hg hb⟩
  obtain ⟨_, _, _, q, hq, cells, hc⟩ := hk
  have hE : k43.E = [] := rfl
  rw [hE] at hq
  have := List.mem_singleton.1 hq
  subst this
  exact hne k _ _ hc (.inr rfl)
/-- The lines that the first i operations lead to. -/
def runL (s : Ln) (ops : List S38) : Ln := ops.foldl (fun s o => (doF s o).2.2) s
theorem Good.run {s : Ln} (h : Good s) (ops : List S38) : Good (runL s ops) := by
  unfold runL
  induction ops generalizing s with
  | nil => exact h
  | cons o ops ih => exact ih (h.do_ o)
theorem runL_snoc (s : Ln) (ops : List S38) (o : S38) : runL s (ops ++ [o]) = (doF (runL s ops) o).2.2 := by unfold runL; rw [List.foldl_append]; rfl
theorem take_rd38 (ops : List S38) (i : Nat) (h : i < ops.length) : ops.take (i + 1) = ops.take i ++ [rd_T38 ops (i : Int)] := by
  rw [List.take_succ_eq_append_getElem h]
  unfold rd_T38
  rw [Int.toNat_natCast, List.getD_eq_getElem?_getD, List.getElem?_eq_getElem h]
  rfl
theorem mem_rd38 (ops : List S38) (i : Nat) (h : i < ops.length) : rd_T38 ops (i : Int) ∈ ops := by
  unfold rd_T38
  rw [Int.toNat_natCast, List.getD_eq_getElem?_getD, List.getElem?_eq_getElem h]
  exact List.getElem_mem h
theorem name_at {W : World} {base : Nat} {ok : Nat → Prop} {ad : Addr} {n c : Nat} {names : List ByteArray} (h : Kd.string.R 9 W base ok (.slice (some ad) n c) names) (j : Nat) (hj : j < names.length) : W.cell? (ad.add j) = some (.string (rdOf ByteArray.empty names (j : Int))) := by
  obtain ⟨ad', e, y0⟩ := Kd.at_string (Kd.R_reads' h).2.2 (j : Int) (by omega) (by omega)
  obtain rfl := Option.some.inj e
  rwa [Int.toNat_natCast] at y0
theorem int_at {W : World} {base : Nat} {ok : Nat → Prop} {ad : Addr} {n c : Nat} {xs : List Int} (h : (Kd.int .i64).R 3 W base ok (.slice (some ad) n c) xs) (j : Nat) (hj : j < xs.length) : W.cell? (ad.add j) = some (.int .i64 (rd xs (j : Int))) := by
  obtain ⟨ad', e, y0⟩ := Kd.at_int (Kd.R_reads' h).2.2 (j : Int) (by omega) (by omega)
  obtain rfl := Option.some.inj e
  rwa [Int.toNat_natCast] at y0
theorem op_at {W : World} {base : Nat} {ok : Nat → Prop} {ad : Addr} {n c : Nat} {ops : List S38} (h : Kd.R k38 38 W base ok (.slice (some ad) n c) ops) (j : Nat) (hj : j < ops.length) :
    W.cell? (ad.add (j * 7)) = some (.int .i64 (rd_T38 ops (j : Int)).f0) ∧ W.cell? ⟨(ad.add (j * 7)).block, (ad.add (j * 7)).off + 1, none⟩ = some (.string (rd_T38 ops (j : Int)).f1) ∧ W.cell? ⟨(ad.add (j * 7)).block, (ad.add (j * 7)).off + 3, none⟩ = some (.int .i64 (rd_T38 ops (j : Int)).f3) := by
  obtain ⟨ad', e, y0, y1, y2, y3, y4, y5, y6⟩ := at_T38 (Kd.R_reads' h).2.2 (j : Int) (by omega) (by omega)
  obtain rfl := Option.some.inj e
  rw [Int.toNat_natCast] at y0 y1 y3
  exact ⟨y0, y1, y3⟩
set_option maxHeartbeats 16000000 in
set_option maxRecDepth 100000 in
theorem law4 (l0 l1 : List Int) (A0 A1 : Option Addr) (c0 c1 : Nat) (x y t u : Int) (ops ops2 : List S38) (k0 k1 : Nat) (W : World)
    (hr0 : Kd.C (Kd.int .i64) W A0 l0.length l0) (hc0 : l0.length ≤ c0) (hr1 : Kd.C (Kd.int .i64) W A1 l1.length l1) (hc1 : l1.length ≤ c1)
    (hs0 : skymosaicref31_Script.f k0 l0 20 = some ops) (ho0 : ∀ o ∈ ops, OpOk o) (hl0 : ops.length ≤ 20)
    (hs1 : skymosaicref31_Script.f k1 l1 12 = some ops2) (ho1 : ∀ o ∈ ops2, OpOk o) (hl1 : ops2.length ≤ 12)
    (ht : skymosaicref01_Around.f x 32 = some t) (ht0 : 0 ≤ t ∧ t < 32) (hu : skymosaicref01_Around.f y 32 = some u) (hu0 : 0 ≤ u ∧ u < 32) :
    Calls Try.prog 4 #[.slice A0 l0.length c0, .slice A1 l1.length c1, .int .i64 x, .int .i64 y] W fun e W' => e = .returned (.bool true) ∧ Below W.heap.size W W' := by
  have HR0 := Aside0.mk hr0
  have HR1 := Aside0.mk hr1
  have HS0 := Aside0.mk hs0
  have HS1 := Aside0.mk hs1
  have HO0 := Aside0.mk ho0
  have HO1 := Aside0.mk ho1
  have HT := Aside0.mk ht
  have HU := Aside0.mk hu
  have hu38 := Try.underlying38
  have hu43 := Try.underlying43
  clear hr0 hr1 hs0 hs1 ho0 ho1 ht hu
  go_enter Try.func4, Try.ntmps4
  go_wp2_with (first
    | (go_at_call 9; (with_reducible refine (new_calls _).mono ?_); rintro e w1 ⟨rfl, h1, h2⟩; have HL1 := Aside0.mk h1; have HB1 := Aside0.mk h2; clear h1 h2)
    | (go_at_call 15; (with_reducible refine (skymosaicref31_Script.calls k0 A0 c0 l0 20 ops w1 (Kd.C_below HR0.out HB1.out) hc0 HS0.out).mono ?_); rintro e w2 ⟨vo, rfl, h1, h2⟩; have HO2 := Aside0.mk h1; have HL2 := Aside0.mk (HL1.out.below h2); have HB2 := Aside0.mk (below_step HB1.out h2); clear h1 h2; obtain ⟨Ao, co, rfl⟩ := Kd.R_slice HO2.out)
    | fail)
  go_loopw [11] (fun v11 wr => ∃ i : Nat, v11 = .int .i64 i ∧ Aside0 (i ≤ ops.length) ∧ Aside0 (LS W.heap.size (W.heap.size + 1) W.heap.size i (runL Ln0 (ops.take i)) wr) ∧ Aside0 (Below W.heap.size W wr) ∧ Aside0 (Kd.R k38 38 wr w1.heap.size (fun _ => True) (.slice Ao ops.length co) ops)) (fun v _ => ops.length - (intOf v).toNat)
  case atStart => exact ⟨0, rfl, ⟨Nat.zero_le _⟩, HL2, HB2, HO2⟩
  case round =>
    obtain ⟨i, rfl, HI, HL, HB, HO⟩ := hrel
    obtain ⟨wa, rfl⟩ : ∃ wa : World, wa = wr := ⟨_, rfl⟩
    have hi := HI.out
    by_cases hlt : i < ops.length
    · obtain ⟨ad, e9, y0, y1, y2, y3, y4, y5, y6⟩ := at_T38 (Kd.R_reads' HO.out).2.2 (i : Int) (by omega) (by omega)
      obtain rfl := e9
      have HOK := Aside0.mk (HO0.out _ (mem_rd38 ops i hlt))
      have HTK := Aside0.mk (take_rd38 ops i hlt)
      obtain ⟨o, ho⟩ : ∃ o, rd_T38 ops (i : Int) = o := ⟨_, rfl⟩
      rw [ho] at HOK HTK y0 y1 y2 y3 y4 y5 y6
      rw [Int.toNat_natCast] at y0 y1 y2 y3 y4 y5 y6
      have hoz : o.f1.size ≤ maxLen := by have := HOK.out.size; unfold maxLen; omega
      have hcap := (Kd.R_reads' HO.out).2.1
      clear ho
      go_wp2_with (first
        | (go_at_call 16; (with_reducible refine (do_calls W.heap.size (W.heap.size + 1) W.heap.size i (runL Ln0 (ops.take i)) o wa HL.out HB.out.size hoz (by omega) (good0.run _)).mono ?_); rintro e w4 ⟨rfl, h1, h2, h3⟩; have HL4 := Aside0.mk h1; have HB4 := Aside0.mk h2; have HK4 := Aside0.mk h3; clear h1 h2 h3)
        | fail)
      go_roundw
      case rel => exact ⟨i + 1, by simp, ⟨by omega⟩, ⟨by rw [HTK.out, runL_snoc]; exact HL4.out⟩, ⟨HB.out.trans HB4.out⟩, ⟨HK4.out.row HO.out (by decide)⟩⟩
      case measure => simp [intOf]; omega
    · obtain rfl : i = ops.length := by omega
      rw [List.take_length] at HL
      obtain ⟨s1, hs1⟩ : ∃ s1, runL Ln0 ops = s1 := ⟨_, rfl⟩
      have HG := Aside0.mk (show Good s1 from hs1 ▸ good0.run ops)
      rw [hs1] at HL
      clear hs1
      go_upto_region 12 with (first
        | (go_at_call 10; (with_reducible refine (skymosaicref01_Around.calls x 32 t wa HT.out).mono ?_); rintro e w4 ⟨rfl, hd⟩; have HL4 := Aside0.mk (HL.out.below hd.below); have HB4 := Aside0.mk (below_step HB.out hd.below); clear hd)
        | (go_at_call 10; (with_reducible refine (skymosaicref01_Around.calls y 32 u w4 HU.out).mono ?_); rintro e w5 ⟨rfl, hd⟩; have HL5 := Aside0.mk (HL4.out.below hd.below); have HB5 := Aside0.mk (below_step HB4.out hd.below); clear hd)
        | (go_at_call 17; (with_reducible refine (branches_calls W.heap.size (W.heap.size + 1) W.heap.size ops.length s1 w5 HL5.out HG.out).mono ?_); rintro e w6 ⟨vn, rfl, h1, h2⟩; have HN6 := Aside0.mk h1; have HL6 := Aside0.mk (HL5.out.below h2); have HB6 := Aside0.mk (below_step HB5.out h2); clear h1 h2; obtain ⟨An, cn, rfl⟩ := Kd.R_slice HN6.out)
        | fail)
      obtain ⟨names, hnm⟩ : ∃ names, branchesF s1 = names := ⟨_, rfl⟩
      rw [hnm] at HN6 ⊢
      have HNM := Aside0.mk (show ∀ z ∈ names, hasB s1.D z = true ∧ z.size ≤ 1000 from fun z hz => have h := mem_branches HG.out (hnm ▸ hz); ⟨h, by have := HG.out.short h; omega⟩)
      have hn64 : names.length ≤ 64 := by
        have h1 := HG.out.few
        obtain ⟨es, he, _⟩ := HG.out.keyed
        rw [he] at h1
        rw [← hnm]; unfold branchesF; rw [List.length_map, List.length_mergeSort, he]
        show (es.map _).length ≤ 64
        rw [List.length_map]; exact h1
      clear hnm
      go_wp2_with fail
      go_loopw [15, 16] (fun v15 v16 wr => ∃ j : Nat, v16 = .int .i64 j ∧ Aside0 (j ≤ names.length) ∧ Aside0 (LS W.heap.size (W.heap.size + 1) W.heap.size ops.length s1 wr) ∧ Aside0 (Below W.heap.size W wr) ∧ Aside0 (Kd.string.R 9 wr w5.heap.size (fun _ => True) (.slice An names.length cn) names) ∧
          Aside0 (Kd.R (Kd.int .i64) 3 wr W.heap.size (fun _ => True) v15 ((names.take j).map fun z => (readF s1 z t u).1))) (fun _ v _ => names.length - (intOf v).toNat)
      case atStart => exact ⟨0, rfl, ⟨Nat.zero_le _⟩, HL6, HB6, HN6, ⟨by simpa using Kd.R_nil _ _ _ _ _⟩⟩
      case round =>
        obtain ⟨j, rfl, HJ, HLj, HBj, HNj, HOj⟩ := hrel
        obtain ⟨wb, rfl⟩ : ∃ wb : World, wb = wr := ⟨_, rfl⟩
        have hj := HJ.out
        by_cases hlt2 : j < names.length
        · obtain ⟨ad, e9, y0⟩ := Kd.at_string (Kd.R_reads' HNj.out).2.2 (j : Int) (by omega) (by omega)
          obtain rfl := e9
          rw [Int.toNat_natCast] at y0
          have hzm : rdOf ByteArray.empty names (j : Int) ∈ names := by
            unfold rdOf
            rw [Int.toNat_natCast, List.getD_eq_getElem?_getD, List.getElem?_eq_getElem hlt2]
            exact List.getElem_mem hlt2
          have htk : names.take (j + 1) = names.take j ++ [rdOf ByteArray.empty names (j : Int)] := by
            rw [List.take_succ_eq_append_getElem hlt2]
            unfold rdOf
            rw [Int.toNat_natCast, List.getD_eq_getElem?_getD, List.getElem?_eq_getElem hlt2]
            rfl
          obtain ⟨z, hz⟩ : ∃ z, rdOf ByteArray.empty names (j : Int) = z := ⟨_, rfl⟩
          rw [hz] at hzm htk y0
          have hzh := (HNM.out z hzm).1
          have hzs : z.size ≤ maxLen := by have := (HNM.out z hzm).2; unfold maxLen; omega
          have hcap := (Kd.R_reads' HNj.out).2.1
          have HTK := Aside0.mk htk
          have HLEN := Aside0.mk (show ((names.take j).map fun z => (readF s1 z t u).1).length = j from by rw [List.length_map, List.length_take]; omega)
          obtain ⟨olds, hol⟩ : ∃ olds, ((names.take j).map fun z => (readF s1 z t u).1) = olds := ⟨_, rfl⟩
          have HOL := Aside0.mk hol
          rw [hol] at HOj HLEN
          obtain ⟨Av, cv, rfl⟩ := Kd.R_slice HOj.out
          rw [HLEN.out] at HOj ⊢
          have HZ := Aside0.mk hz
          clear hol hz htk hzm
          rcases read_found HG.out hzh t u with hrd | ⟨id, hrd, i0, i1, i7, i3, i4, i00, h, hhd, hle, hlh, hbs⟩
          · have HRD := Aside0.mk hrd
            clear hrd
            go_wp2_with (first
              | (go_at_call 18; (with_reducible refine (read_calls W.heap.size (W.heap.size + 1) W.heap.size ops.length s1 z t u wb HLj.out hzs HG.out).mono ?_); rintro e w7 ⟨rfl, hb⟩; rw [HRD.out]; have HL7 := Aside0.mk (HLj.out.below hb); have HB7 := Aside0.mk (below_step HBj.out hb); have HN7 := Aside0.mk (Kd.R_below HNj.out hb); have HO7 := Aside0.mk (Kd.R_below HOj.out hb); clear hb)
              | (at_builtin; refine Kd.R_append (Kd.int .i64) (w0 := W) W.heap.size rfl (.tmp 70) (.tmp 72) 33 3 (.int .i64 0) 8 rfl Try.underlying33 info3 rfl (by decide) (by omega) (.slice Av j cv) olds (-1) [.int .i64 (-1)] (fun _ => True) (fun _ => False) rfl rfl ?aP (fun _ hk => hk.elim) ?aF HO7.out ?aB ?aS ?aL ?_; (case aP => exact rfl); (case aF => exact fun _ _ => trivial); (case aB => exact HB7.out); (case aS => exact HB7.out.size); (case aL => rw [HLEN.out]; omega); intro v1 w8 ho hb hg hat; have HO8 := Aside0.mk ho; have HB8 := Aside0.mk hb; have HL8 := Aside0.mk (HL7.out.keep hg (fun r hr => by obtain ⟨cells, hc⟩ := Kd.R_typed HO7.out r hr; exact ⟨cells, 3, hc, by decide, by decide⟩)); have HN8 := Aside0.mk (Kd.R_over' HN7.out (Kd.R_typed HO7.out) (by decide) hg); clear ho hb hg hat; obtain ⟨A9, c9, rfl⟩ := Kd.R_slice HO8.out)
              | fail)
            go_roundw
            case rel => exact ⟨j + 1, by simp, ⟨by omega⟩, HL8, HB8, HN8, ⟨by rw [HTK.out, List.map_append, HOL.out]; simp only [List.map_cons, List.map_nil, HRD.out]; have := HO8.out; rwa [List.length_append, List.length_singleton] at this⟩⟩
            case measure => simp [intOf]; omega
          · have HRD := Aside0.mk hrd
            have HHD := Aside0.mk hhd
            have HBS := Aside0.mk hbs
            have HGT := Aside0.mk (get_found i0 i1 i7)
            obtain ⟨⟨q0, q1, q2, q3, q4, q5, q6, q7⟩, hq⟩ : ∃ v, rd_T43 s1.V id = v := ⟨_, rfl⟩
            rw [hq] at HGT i7 i3 i4 i00
            simp only at i7 i3 i4 i00
            subst i7
            obtain rfl := i00
            clear hrd hhd hbs hq
            have e3 : ¬ t < q3 := by omega
            have e4 : ¬ u < q4 := by omega
            have e5 : ¬ h < q0 := by omega
            go_wp2_with (first
              | (go_at_call 18; (with_reducible refine (read_calls W.heap.size (W.heap.size + 1) W.heap.size ops.length s1 z t u wb HLj.out hzs HG.out).mono ?_); rintro e w7 ⟨rfl, hb⟩; rw [HRD.out]; have HL7 := Aside0.mk (HLj.out.below hb); have HB7 := Aside0.mk (below_step HBj.out hb); have HN7 := Aside0.mk (Kd.R_below HNj.out hb); have HO7 := Aside0.mk (Kd.R_below HOj.out hb); clear hb)
              | (at_builtin; refine Kd.R_append (Kd.int .i64) (w0 := W) W.heap.size rfl (.tmp 70) (.tmp 72) 33 3 (.int .i64 0) 8 rfl Try.underlying33 info3 rfl (by decide) (by omega) (.slice Av j cv) olds (q0) [.int .i64 (q0)] (fun _ => True) (fun _ => False) rfl rfl ?aP (fun _ hk => hk.elim) ?aF HO7.out ?aB ?aS ?aL ?_; (case aP => exact rfl); (case aF => exact fun _ _ => trivial); (case aB => exact HB7.out); (case aS => exact HB7.out.size); (case aL => rw [HLEN.out]; omega); intro v1 w8 ho hb hg hat; have HO8 := Aside0.mk ho; have HB8 := Aside0.mk hb; have HL8 := Aside0.mk (HL7.out.keep hg (fun r hr => by obtain ⟨cells, hc⟩ := Kd.R_typed HO7.out r hr; exact ⟨cells, 3, hc, by decide, by decide⟩)); have HN8 := Aside0.mk (Kd.R_over' HN7.out (Kd.R_typed HO7.out) (by decide) hg); clear ho hb hg hat; obtain ⟨A9, c9, rfl⟩ := Kd.R_slice HO8.out)
              | (go_at_call 19; (with_reducible refine (get_calls W.heap.size (W.heap.size + 1) W.heap.size ops.length s1 q0 _ HL8.out).mono ?_); rintro e w9 ⟨rfl, hb⟩; rw [HGT.out]; have HL9 := Aside0.mk (HL8.out.below hb); have HB9 := Aside0.mk (below_step HB8.out hb); have HN9 := Aside0.mk (Kd.R_below HN8.out hb); have HO9 := Aside0.mk (Kd.R_below HO8.out hb); clear hb; unfold agg43; have HLA := Aside0.mk (HL9.out.below (below_alloc (Below.refl _ _) (.cells #[.int .i64 q0, .int .i64 q1, .string q2, .int .i64 q3, .int .i64 q4, .int .i64 q5, .int .u64 q6, .bool false] 43))); have HBA := Aside0.mk (below_step HB9.out (below_alloc (Below.refl _ _) (.cells #[.int .i64 q0, .int .i64 q1, .string q2, .int .i64 q3, .int .i64 q4, .int .i64 q5, .int .u64 q6, .bool false] 43))); have HNA := Aside0.mk (Kd.R_alloc HN9.out (.cells #[.int .i64 q0, .int .i64 q1, .string q2, .int .i64 q3, .int .i64 q4, .int .i64 q5, .int .u64 q6, .bool false] 43)); have HOA := Aside0.mk (Kd.R_alloc HO9.out (.cells #[.int .i64 q0, .int .i64 q1, .string q2, .int .i64 q3, .int .i64 q4, .int .i64 q5, .int .u64 q6, .bool false] 43)); have ya := name_at HNA.out j hlt2; rw [HZ.out] at ya)
              | (go_at_call 20; (with_reducible refine (head_calls W.heap.size (W.heap.size + 1) W.heap.size ops.length s1 z _ HLA.out hzs HG.out).mono ?_); rintro e w10 ⟨rfl, hb⟩; rw [HHD.out]; have HL10 := Aside0.mk (HLA.out.below hb); have HB10 := Aside0.mk (below_step HBA.out hb); have HN10 := Aside0.mk (Kd.R_below HNA.out hb); have HO10 := Aside0.mk (Kd.R_below HOA.out hb); clear hb)
              | (go_at_call 21; (with_reducible refine (base_calls W.heap.size (W.heap.size + 1) W.heap.size ops.length s1 h q0 _ HL10.out HG.out.ok).mono ?_); rintro e w11 ⟨rfl, hb⟩; rw [HBS.out]; obtain rfl := hb)
              | fail)
            go_roundw
            case rel => exact ⟨j + 1, by simp, ⟨by omega⟩, HL10, HB10, HN10, ⟨by rw [HTK.out, List.map_append, HOL.out]; simp only [List.map_cons, List.map_nil, HRD.out]; have := HO10.out; rwa [List.length_append, List.length_singleton] at this⟩⟩
            case measure => simp [intOf]; omega
        · obtain rfl : j = names.length := by omega
          rw [List.take_length] at HOj
          obtain ⟨Av, cv, rfl⟩ := Kd.R_slice HOj.out
          have hlenv : (names.map fun z => (readF s1 z t u).1).length = names.length := by rw [List.length_map]
          rw [hlenv] at HOj ⊢
          clear hlenv
          go_wp2_with (first
            | (go_at_call 15; (with_reducible refine (skymosaicref31_Script.calls k1 A1 c1 l1 12 ops2 wb (Kd.C_below HR1.out HBj.out) hc1 HS1.out).mono ?_); rintro e w7 ⟨vo, rfl, h1, h2⟩; have HP7 := Aside0.mk h1; have HL7 := Aside0.mk (HLj.out.below h2); have HB7 := Aside0.mk (below_step HBj.out h2); have HN7 := Aside0.mk (Kd.R_below HNj.out h2); have HO7 := Aside0.mk (Kd.R_below HOj.out h2); clear h1 h2; obtain ⟨Ap, cp, rfl⟩ := Kd.R_slice HP7.out)
            | fail)
          go_loopw [26] (fun v26 wr => ∃ (m : Nat) (s : Ln), v26 = .int .i64 m ∧ Aside0 (m ≤ ops2.length) ∧ Aside0 (Good s) ∧ Aside0 (LS W.heap.size (W.heap.size + 1) W.heap.size (ops.length + m) s wr) ∧ Aside0 (Below W.heap.size W wr) ∧ Aside0 (Kd.string.R 9 wr w5.heap.size (fun _ => True) (.slice An names.length cn) names) ∧
              Aside0 (Kd.R (Kd.int .i64) 3 wr W.heap.size (fun _ => True) (.slice Av names.length cv) (names.map fun z => (readF s1 z t u).1)) ∧ Aside0 (Kd.R k38 38 wr wb.heap.size (fun _ => True) (.slice Ap ops2.length cp) ops2) ∧ Aside0 (∀ z ∈ names, readF s z t u = readF s1 z t u ∧ hasB s.D z = true)) (fun v _ => ops2.length - (intOf v).toNat)
          case atStart => exact ⟨0, s1, rfl, ⟨Nat.zero_le _⟩, HG, HL7, HB7, HN7, HO7, HP7, ⟨fun z hz => ⟨rfl, (HNM.out z hz).1⟩⟩⟩
          case round =>
            obtain ⟨m, s, rfl, HM, HGs, HLm, HBm, HNm, HOm, HPm, HQm⟩ := hrel
            obtain ⟨wc, rfl⟩ : ∃ wc : World, wc = wr := ⟨_, rfl⟩
            have hm := HM.out
            by_cases hlt3 : m < ops2.length
            · obtain ⟨ad, e9, _⟩ := at_T38 (Kd.R_reads' HPm.out).2.2 (m : Int) (by omega) (by omega)
              obtain rfl := e9
              obtain ⟨y0, y1, y3⟩ := op_at HPm.out m hlt3
              have HOK := Aside0.mk (HO1.out _ (mem_rd38 ops2 m hlt3))
              obtain ⟨o, ho⟩ : ∃ o, rd_T38 ops2 (m : Int) = o := ⟨_, rfl⟩
              have HRO := Aside0.mk ho
              rw [ho] at HOK y0 y1 y3
              have hoz : o.f1.size ≤ maxLen := by have := HOK.out.size; unfold maxLen; omega
              have hcap := (Kd.R_reads' HPm.out).2.1
              have hsum : IntKind.i64.wrap (33 + (m : Int)) = 33 + (m : Int) := IntWalk.i64_in _ (by omega)
              clear ho
              by_cases hk : o.f0 = 1
              · rw [hk] at y0
                clear hk
                go_upto_region 31 with fail
                have HLd := Aside0.mk (HLm.out.below (below_drew1 (Below.refl _ _)))
                have HBd := Aside0.mk (below_drew1 HBm.out)
                go_region_held3 (fun w' => w'.cell? ⟨(ad.add (m * 7)).block, (ad.add (m * 7)).off + 1, none⟩ = some (.string o.f1) ∧ w'.cell? ⟨(ad.add (m * 7)).block, (ad.add (m * 7)).off + 3, none⟩ = some (.int .i64 o.f3))
                  (first | exact ⟨y1, y3⟩ | exact ⟨m1, m3⟩)
                  (first
                    | (go_at_call 13; (with_reducible refine (publish_calls W.heap.size (W.heap.size + 1) W.heap.size (ops.length + m) s o.f1 o.f3 (33 + (m : Int)) (-1) 1 _ HLd.out HBd.out.size hoz (by unfold maxLen; omega) HGs.out.most (fun h => (HGs.out.first h).2)).mono ?_); rintro e w8 ⟨rfl, h1, h2, h3⟩; have HL8 := Aside0.mk h1; have HB8 := Aside0.mk (HBd.out.trans h2); have HK8 := Aside0.mk ((KeepT.of_below (below_drew1 (Below.refl wc.heap.size wc))).trans h3); clear h1 h2 h3; have HP8 := Aside0.mk (HK8.out.row HPm.out (by decide)); obtain ⟨m0, m1, m3⟩ := op_at HP8.out m hlt3; rw [HRO.out] at m1 m3; clear m0)
                    | fail)
                go_wp2
                go_roundw
                case rel =>
                  refine ⟨m + 1, (publishF s o.f1 o.f3 (33 + (m : Int)) (-1) 1).2.2, by simp, ⟨by omega⟩, ⟨HGs.out.publish _ _ _ _ _⟩, ⟨HL8.out⟩, HB8, ⟨HK8.out.row HNm.out (by decide)⟩, ⟨HK8.out.row HOm.out (by decide)⟩, HP8, ⟨fun z hz => ?_⟩⟩
                  have h1 := HQm.out z hz
                  have h2 := read_later HGs.out o.f1 z o.f3 (33 + (m : Int)) (-1) 1 t u (by omega) h1.2
                  exact ⟨h2.1.trans h1.1, h2.2⟩
                case measure => simp [intOf]; omega
              · have hk' : (o.f0 == 1) = false := by simpa using hk
                clear hk
                go_wp2_with fail
                go_roundw
                case rel => exact ⟨m + 1, s, by simp, ⟨by omega⟩, HGs, ⟨HLm.out.more⟩, HBm, HNm, HOm, HPm, HQm⟩
                case measure => simp [intOf]; omega
            · obtain rfl : m = ops2.length := by omega
              have hn63 : names.length ≤ 9223372036854775807 := by omega
              go_wp2_with fail
              go_loopw [27] (fun v27 wr => ∃ k : Nat, v27 = .int .i64 k ∧ Aside0 (k ≤ names.length) ∧ Aside0 (LS W.heap.size (W.heap.size + 1) W.heap.size (ops.length + ops2.length) s wr) ∧ Aside0 (Below W.heap.size W wr) ∧ Aside0 (Kd.string.R 9 wr w5.heap.size (fun _ => True) (.slice An names.length cn) names) ∧
                  Aside0 (Kd.R (Kd.int .i64) 3 wr W.heap.size (fun _ => True) (.slice Av names.length cv) (names.map fun z => (readF s1 z t u).1))) (fun v _ => names.length - (intOf v).toNat)
              case atStart => exact ⟨0, rfl, ⟨Nat.zero_le _⟩, HLm, HBm, HNm, HOm⟩
              case round =>
                obtain ⟨k, rfl, HK, HLk, HBk, HNk, HOk⟩ := hrel
                obtain ⟨wd, rfl⟩ : ∃ wd : World, wd = wr := ⟨_, rfl⟩
                have hk := HK.out
                by_cases hlt4 : k < names.length
                · obtain ⟨ad, e9, _⟩ := Kd.at_string (Kd.R_reads' HNk.out).2.2 (k : Int) (by omega) (by omega)
                  obtain rfl := e9
                  have y0 := name_at HNk.out k hlt4
                  have hlo : k < (names.map fun z => (readF s1 z t u).1).length := by rw [List.length_map]; exact hlt4
                  obtain ⟨ad2, e9, _⟩ := Kd.at_int (Kd.R_reads' HOk.out).2.2 (k : Int) (by omega) (by omega)
                  obtain rfl := e9
                  have hzm : rdOf ByteArray.empty names (k : Int) ∈ names := by
                    unfold rdOf
                    rw [Int.toNat_natCast, List.getD_eq_getElem?_getD, List.getElem?_eq_getElem hlt4]
                    exact List.getElem_mem hlt4
                  have hrv : rd (names.map fun z => (readF s1 z t u).1) (k : Int) = (readF s1 (rdOf ByteArray.empty names (k : Int)) t u).1 := by
                    unfold rd rdOf
                    rw [Int.toNat_natCast, List.getD_eq_getElem?_getD, List.getD_eq_getElem?_getD, List.getElem?_map, List.getElem?_eq_getElem hlt4]
                    rfl
                  obtain ⟨z, hz⟩ : ∃ z, rdOf ByteArray.empty names (k : Int) = z := ⟨_, rfl⟩
                  rw [hz] at hzm y0 hrv
                  obtain ⟨old, hold⟩ : ∃ old, (readF s1 z t u).1 = old := ⟨_, rfl⟩
                  have hnow : (readF s z t u).1 = old := by rw [(HQm.out z hzm).1, hold]
                  obtain ⟨en, hen⟩ : ∃ en, (readF s z t u).2 = en := ⟨_, rfl⟩
                  have HRV := Aside0.mk (hrv.trans hold)
                  have HNOW := Aside0.mk hnow
                  have HEN := Aside0.mk hen
                  have hzs : z.size ≤ maxLen := by have := (HNM.out z hzm).2; unfold maxLen; omega
                  have hcap := (Kd.R_reads' HNk.out).2.1
                  have hcap2 := (Kd.R_reads' HOk.out).2.1
                  clear hz hrv hold hnow hen hlo hzm
                  go_wp2_with (first
                    | (go_at_call 18; (with_reducible refine (read_calls W.heap.size (W.heap.size + 1) W.heap.size (ops.length + ops2.length) s z t u wd HLk.out hzs HGs.out).mono ?_); rintro e w7 ⟨rfl, hb⟩; rw [HNOW.out, HEN.out]; have HL7 := Aside0.mk (HLk.out.below hb); have HB7 := Aside0.mk (below_step HBk.out hb); have HN7 := Aside0.mk (Kd.R_below HNk.out hb); have HO7 := Aside0.mk (Kd.R_below HOk.out hb); clear hb; have yo := int_at HO7.out k (by rw [List.length_map]; exact hlt4); rw [HRV.out] at yo)
                    | fail)
                  go_roundw
                  case rel => exact ⟨k + 1, by simp, ⟨by omega⟩, HL7, HB7, HN7, HO7⟩
                  case measure => simp [intOf]; omega
                · go_wp2_with (first
                    | (go_at_call 14; (with_reducible refine (lives_calls wd).mono ?_); rintro e w7 ⟨rfl, hb⟩; have HB7 := Aside0.mk (below_step HBk.out hb); clear hb)
                    | fail)
                  go_returns
                  exact ⟨rfl, HB7.out⟩
end Go.Proofs.Ytcbkcgnigncahaa.P
