import Derived.Test.YtcbkcgnigncahaaEGivenXa
import Derived.Test.YtcbkcgnigncahaaEPx8
import Derived.Test.YtcbkcgnigncahaaEPlainC
import Derived.WalkLawsBesides
namespace Go.Proofs.Ytcbkcgnigncahaa.P
open Go.RowKit Go.Maps Go.Proofs.YtcbkcgnigncahaaW.PrintWords Go.Proofs.YtcbkcgnigncahaaW.PrintLast Go.Proofs.YtcbkcgnigncahaaW.PrintMore
attribute [local go_sem] max2_int min2_int max_two min_two max_three min_three max_four min_four
set_option linter.unusedVariables false
set_option linter.unusedSimpArgs false
theorem named_all : namesL.all (fun x => decide (skymosaicref31_Named.f 40 x = some (validB x))) = true := by decide +kernel
theorem named_of {x : ByteArray} (h : x ∈ namesL) : skymosaicref31_Named.f 40 x = some (validB x) := by
  have := List.all_eq_true.1 named_all x h
  simpa using this
def ltB (a b : ByteArray) : Bool := Op.bytesLess a.toList b.toList
/-- The place of a name among the branches. -/
def kOf (B : List S97) (name : ByteArray) : Nat := (B.takeWhile fun b => ltB b.f0 name).length
def insR (B : List S97) (name : ByteArray) (fr : Int) : List S97 := B.take (kOf B name) ++ [⟨name, fr⟩] ++ B.drop (kOf B name)
def rforkF (r : Rf) (name : ByteArray) (fr : Int) : Int × Rf :=
  if validB name = false then (6, r)
  else if 0 ≤ findR r.B name then (8, r)
  else if fr ≠ -1 ∧ (fr < 0 ∨ (r.V.length : Int) ≤ fr) then (7, r)
  else if 0 ≤ fr ∧ (rd_T92 r.V fr).f7 = true then (28, r)
  else if 64 ≤ r.B.length then (4, r)
  else (0, ⟨insR r.B name fr, r.V⟩)
theorem rd97_at {B : List S97} (j : Nat) (hj : j < B.length) : rd_T97 B (j : Int) = B[j] := by
  unfold rd_T97
  rw [Int.toNat_natCast, List.getD_eq_getElem?_getD, List.getElem?_eq_getElem hj]
  rfl
theorem kOf_at {name : ByteArray} : ∀ {B : List S97} (k : Nat), k ≤ B.length → (∀ j : Nat, j < k → ltB (rd_T97 B (j : Int)).f0 name = true) → (∀ h : k < B.length, ltB (rd_T97 B (k : Int)).f0 name = false) → kOf B name = k
  | [], k, hk, _, _ => by simp at hk; subst hk; rfl
  | b :: B, 0, hk, _, h => by
    have := h (by simp)
    rw [rd97_at 0 (by simp)] at this
    unfold kOf
    rw [List.takeWhile_cons_of_neg (by simpa using this)]
    rfl
  | b :: B, k + 1, hk, hj, h => by
    have h0 := hj 0 (by omega)
    rw [rd97_at 0 (by simp)] at h0
    unfold kOf
    rw [List.takeWhile_cons_of_pos (by simpa using h0), List.length_cons]
    congr 1
    refine kOf_at k (by simpa using hk) (fun j hjk => ?_) (fun hl => ?_)
    · have := hj (j + 1) (by omega)
      rw [rd97_at (j + 1) (by simp at hk ⊢; omega)] at this
      rw [rd97_at j (by simp at hk; omega)]
      simpa using this
    · have := h (by simpa using hl)
      rw [rd97_at (k + 1) (by simpa using hl)] at this
      rw [rd97_at k hl]
      simpa using this
theorem RS.setB {base g : Nat} {r : Rf} {W : World} {u : Value} {B : List S97} (h : RS base g r W) (hu : Kd.R k97 97 W base (fun k => k ≠ g) u B) : RS base g ⟨B, r.V⟩ (W.setCell ⟨g, 0, none⟩ u) := by
  obtain ⟨h1, u0, v, h3, h4, h5⟩ := h
  exact ⟨h1, u, v, blk_put h3 0 u rfl, Kd.R_far hu (fun k hk => hk) u, Kd.R_far h5 (fun k hk => hk) u⟩
theorem RS.setV {base g : Nat} {r : Rf} {W : World} {v : Value} {V : List S92} (h : RS base g r W) (hv : Kd.R k92 92 W base (fun k => k ≠ g) v V) : RS base g ⟨r.B, V⟩ (W.setCell ⟨g, 1, none⟩ v) := by
  obtain ⟨h1, u, v0, h3, h4, h5⟩ := h
  exact ⟨h1, u, v, blk_put h3 1 v rfl, Kd.R_far h4 (fun k hk => hk) v, Kd.R_far hv (fun k hk => hk) v⟩
theorem info97 : (Try.prog.info? 97).map (fun i => (i.zero, i.size, i.bytes)) = some (some (.agg #[(.string ⟨#[]⟩), (.int .i64 0)]), 2, 24) := by kernel_rfl
set_option maxHeartbeats 8000000 in
set_option maxRecDepth 100000 in
/-- The end of Fork: the branch is laid into its place. -/
theorem rfork_yes (base g : Nat) (r : Rf) (name : ByteArray) (fr : Int) (w : World) (h : RS base g r w) (hbase : base ≤ w.heap.size) (hl : r.B.length < 64) (hv : r.V.length ≤ 2000) (hn : name ∈ namesL)
    (h1 : validB name = true) (h2 : findR r.B name < 0) (h3 : fr = -1 ∨ (0 ≤ fr ∧ fr < r.V.length ∧ (rd_T92 r.V fr).f7 = false)) :
    Calls Try.prog 49 #[.pointer (some ⟨g, 0, none⟩), .string name, .int .i64 fr] w fun e w' => e = .returned (.int .i64 0) ∧ RS base g ⟨insR r.B name fr, r.V⟩ w' ∧ Below base w w' ∧ KeepRO g w w' := by
  have HS := Aside0.mk h
  have HN := Aside0.mk (named_of hn)
  obtain ⟨f, hff⟩ : ∃ f, findR r.B name = f := ⟨_, rfl⟩
  have HFF := Aside0.mk hff
  rw [hff] at h2
  clear h hff
  rw [h1] at HN
  clear h1
  by_cases hm1 : fr = -1
  · subst hm1
    clear h3
    go_enter Try.func49, Try.ntmps49
    go_upto_region 12 with (first
      | (go_at_call 86; (with_reducible refine (skymosaicref31_Named.calls 40 name true w HN.out).mono ?_); rintro e w3 ⟨rfl, hd⟩; have HD := Aside0.mk hd.below; have HS3 := Aside0.mk (HS.out.below HD.out); clear hd; obtain ⟨A3, c3, A3', c3', hg3, c30, c31, z30, z31, hc3, hc3', hB3, hV3⟩ := HS3.out.cells; have HB3 := Aside0.mk hB3; have HV3 := Aside0.mk hV3; clear hg3 hB3 hV3)
      | (go_at_call 56; (with_reducible refine (find_calls base g r name w3 HS3.out (by omega)).mono ?_); rintro e w4 ⟨rfl, rfl⟩; rw [HFF.out])
      | fail)
    go_wp2_with fail
    go_loopw [8] (fun v8 wr => ∃ k : Nat, v8 = .int .i64 k ∧ Aside0 (wr = w3) ∧ Aside0 (k ≤ r.B.length) ∧ Aside0 (∀ j : Nat, j < k → ltB (rd_T97 r.B (j : Int)).f0 name = true)) (fun v _ => r.B.length - (intOf v).toNat)
    case atStart => exact ⟨0, rfl, ⟨rfl⟩, ⟨Nat.zero_le _⟩, ⟨fun j hj => absurd hj (Nat.not_lt_zero _)⟩⟩
    case round =>
      obtain ⟨k, rfl, ⟨rfl⟩, HI, HJ⟩ := hrel
      obtain ⟨w3, rfl⟩ : ∃ w3 : World, w3 = wr := ⟨_, rfl⟩
      have hk := HI.out
      by_cases hgo : ∃ h : k < r.B.length, ltB (rd_T97 r.B (k : Int)).f0 name = true
      · obtain ⟨hlt, hl1⟩ := hgo
        obtain ⟨ad2, e9, y0, y1⟩ := at_T97 (Kd.R_reads' HB3.out).2.2 (k : Int) (by omega) (by omega)
        obtain rfl := e9
        rw [Int.toNat_natCast] at y0 y1
        have hl2 : Op.bytesLess (rd_T97 r.B (k : Int)).f0.toList name.toList = true := hl1
        have HL := Aside0.mk hl1
        clear hl1
        go_wp2
        go_roundw
        case rel =>
          refine ⟨k + 1, by simp, ⟨by trivial⟩, ⟨hlt⟩, ⟨fun j hj => ?_⟩⟩
          by_cases h : j < k
          · exact HJ.out j h
          · obtain rfl : j = k := by omega
            exact HL.out
        case measure => simp [intOf]; omega
      · have hko : kOf r.B name = k := kOf_at k hk HJ.out (fun h => by
          cases e : ltB (rd_T97 r.B (k : Int)).f0 name with
          | false => rfl
          | true => exact absurd ⟨h, e⟩ hgo)
        have HKO := Aside0.mk hko
        have hcut : k = r.B.length ∨ ∃ h : k < r.B.length, Op.bytesLess (rd_T97 r.B (k : Int)).f0.toList name.toList = false := by
          by_cases h : k < r.B.length
          · right
            refine ⟨h, ?_⟩
            cases e : ltB (rd_T97 r.B (k : Int)).f0 name with
            | false => exact e
            | true => exact absurd ⟨h, e⟩ hgo
          · left; omega
        have HAP := Aside0.mk (fun (W : World) (hW : Below w3.heap.size w3 W) => HS3.out.below hW)
        clear hko hgo
        have hgl := HS3.out.lt
        have hb3 : base ≤ w3.heap.size := Nat.le_trans hbase HD.out.size
        -- the rest, from the loop's end on
        rcases hcut with hkl | ⟨hlt, hl2⟩
        · have hnl : ¬ (k : Int) < (r.B.length : Int) := by omega
          clear hkl
          have HC3 := Aside0.mk hc3
          have HK := Aside0.mk (show k ≤ r.B.length from hk)
          have HLT := Aside0.mk (show (r.B.take k).length = k from by rw [List.length_take]; omega)
          have HLA := Aside0.mk (show (r.B.take k ++ [(⟨name, (-1)⟩ : S97)]).length = k + 1 from by rw [List.length_append, List.length_take, List.length_singleton]; omega)
          have HLD := Aside0.mk (show (r.B.take k ++ [(⟨name, (-1)⟩ : S97)] ++ r.B.drop k).length = r.B.length + 1 from by rw [List.length_append, List.length_append, List.length_take, List.length_singleton, List.length_drop]; omega)
          go_wp2_with (first
            | (at_builtin; refine Kd.R_append_rows k97 (Rr := k97.K w3) (w0 := w3) w3.heap.size rfl (.tmp 72) (.tmp 78) 50 97 (.agg #[(.string ⟨#[]⟩), (.int .i64 0)]) 24 rfl Try.underlying50 info97 rfl (by decide) (by omega) (.slice none 0 0) ([] : List S97) (r.B.take k) A3 k c3 (fun _ => True) (fun _ => False) rfl rfl ?aO ?aR ?aK (fun _ hk => hk.elim) ?aF ?aB ?aS ?aL ?_; (case aO => exact Kd.R_nil _ _ _ _ _); (case aR => have := Kd.C_take (m := k) (Kd.R_reads' HB3.out).2.2 HK.out; rwa [HLT.out] at this); (case aK => intro x cs hk; obtain rfl := k97_open hk; exact k97_mkM _ _ _ _); (case aF => exact fun _ _ => trivial); (case aB => exact Below.refl _ _); (case aS => exact Nat.le_refl _); (case aL => have := HK.out; simp only [List.length_nil]; omega); intro v1 w5 ho hb hg hat; have HO5 := Aside0.mk ho; have HB5 := Aside0.mk hb; clear ho hb hg hat; rw [List.nil_append] at HO5; obtain ⟨A5, c5, rfl⟩ := Kd.R_slice HO5.out; rw [HLT.out] at HO5 ⊢)
            | (at_builtin; refine Kd.R_append k97 (w0 := w3) w3.heap.size rfl (.tmp 80) (.tmp 84) 50 97 (.agg #[(.string ⟨#[]⟩), (.int .i64 0)]) 24 rfl Try.underlying50 info97 rfl (by decide) (by omega) (.slice A5 k c5) (r.B.take k) ⟨name, (-1)⟩ [.string name, .int .i64 (-1)] (fun _ => True) (fun _ => False) rfl rfl ?bP (fun _ hk => hk.elim) ?bF HO5.out ?bB ?bS ?bL ?_; (case bP => exact k97_mkM _ _ _ _); (case bF => exact fun _ _ => trivial); (case bB => exact HB5.out); (case bS => exact HB5.out.size); (case bL => have := HK.out; rw [HLT.out]; omega); intro v2 w6 ho hb hg hat; have HO6 := Aside0.mk ho; have HB6 := Aside0.mk hb; clear ho hb hg hat; obtain ⟨A6, c6, rfl⟩ := Kd.R_slice HO6.out; have HS6 := Aside0.mk (HAP.out _ HB6.out); have q0 : w6.cell? ⟨g, 0, none⟩ = some (.slice A3 r.B.length c3) := (HB6.out.cell (p := ⟨g, 0, none⟩) hgl).trans c30; have qz : w6.frozen? ⟨g, 0, none⟩ = false := (HB6.out.frozen (p := ⟨g, 0, none⟩) hgl).trans z30; rw [HLA.out] at HO6 ⊢)
            | (at_builtin; refine Kd.R_append_rows k97 (Rr := k97.K w6) (w0 := w3) w3.heap.size rfl (.tmp 87) (.tmp 93) 50 97 (.agg #[(.string ⟨#[]⟩), (.int .i64 0)]) 24 rfl Try.underlying50 info97 rfl (by decide) (by omega) (.slice A6 (k + 1) c6) (r.B.take k ++ [(⟨name, (-1)⟩ : S97)]) (r.B.drop k) _ _ _ (fun _ => True) (fun _ => False) rfl rfl HO6.out ?dR ?dK (fun _ hk => hk.elim) ?dF HB6.out ?dS ?dL ?_; (case dR => have := Kd.C_drop (c := c3) (m := k) (Kd.C_below (Kd.R_reads' HB3.out).2.2 HB6.out) HK.out HC3.out; have hc3' := HC3.out; rw [List.length_drop] at this; first | exact this | (rw [if_neg (by omega)] at this; exact this)); (case dK => intro x cs hk; obtain rfl := k97_open hk; exact k97_mkM _ _ _ _); (case dF => exact fun _ _ => trivial); (case dS => exact HB6.out.size); (case dL => have := HK.out; rw [HLA.out]; omega); intro v3 w7 ho hb hg hat; have HO7 := Aside0.mk ho; have HB7 := Aside0.mk hb; clear ho hb hg hat; obtain ⟨A7, c7, rfl⟩ := Kd.R_slice HO7.out; rw [HLD.out] at HO7 ⊢; have p0 : w7.cell? ⟨g, 0, none⟩ = some (.slice A3 r.B.length c3) := (HB7.out.cell (p := ⟨g, 0, none⟩) hgl).trans c30; have pz : w7.frozen? ⟨g, 0, none⟩ = false := (HB7.out.frozen (p := ⟨g, 0, none⟩) hgl).trans z30)
            | fail)
          all_goals
            go_ret
            have HS7 := HAP.out _ HB7.out
            refine ⟨rfl, ?_, ?_, ?_⟩
            · have := HS7.setB (Kd.R_lower (Kd.R_mono (Kd.R_bound HO7.out) (fun k hk => by have := hk.2.1; omega)) hb3)
              unfold insR
              rw [HKO.out]
              exact this
            · exact ((HD.out.mono hbase).trans (HB7.out.mono hb3)).setCell HS7.1 _
            · obtain ⟨_, u7, v7, hg7, _⟩ := HS7
              exact ((KeepRO.of_below HD.out HS.out.lt).trans (KeepRO.of_below HB7.out HS3.out.lt)).set0 hg7 (.inr fun k hk => Nat.le_trans HD.out.size (Kd.R_base HO7.out k hk))
        · obtain ⟨ad2, e9, y0, y1⟩ := at_T97 (Kd.R_reads' HB3.out).2.2 (k : Int) (by omega) (by omega)
          obtain rfl := e9
          rw [Int.toNat_natCast] at y0 y1
          have HC3 := Aside0.mk hc3
          have HK := Aside0.mk (show k ≤ r.B.length from hk)
          have HLT := Aside0.mk (show (r.B.take k).length = k from by rw [List.length_take]; omega)
          have HLA := Aside0.mk (show (r.B.take k ++ [(⟨name, (-1)⟩ : S97)]).length = k + 1 from by rw [List.length_append, List.length_take, List.length_singleton]; omega)
          have HLD := Aside0.mk (show (r.B.take k ++ [(⟨name, (-1)⟩ : S97)] ++ r.B.drop k).length = r.B.length + 1 from by rw [List.length_append, List.length_append, List.length_take, List.length_singleton, List.length_drop]; omega)
          go_wp2_with (first
            | (at_builtin; refine Kd.R_append_rows k97 (Rr := k97.K w3) (w0 := w3) w3.heap.size rfl (.tmp 72) (.tmp 78) 50 97 (.agg #[(.string ⟨#[]⟩), (.int .i64 0)]) 24 rfl Try.underlying50 info97 rfl (by decide) (by omega) (.slice none 0 0) ([] : List S97) (r.B.take k) (some ad2) k c3 (fun _ => True) (fun _ => False) rfl rfl ?aO ?aR ?aK (fun _ hk => hk.elim) ?aF ?aB ?aS ?aL ?_; (case aO => exact Kd.R_nil _ _ _ _ _); (case aR => have := Kd.C_take (m := k) (Kd.R_reads' HB3.out).2.2 HK.out; rwa [HLT.out] at this); (case aK => intro x cs hk; obtain rfl := k97_open hk; exact k97_mkM _ _ _ _); (case aF => exact fun _ _ => trivial); (case aB => exact Below.refl _ _); (case aS => exact Nat.le_refl _); (case aL => have := HK.out; simp only [List.length_nil]; omega); intro v1 w5 ho hb hg hat; have HO5 := Aside0.mk ho; have HB5 := Aside0.mk hb; clear ho hb hg hat; rw [List.nil_append] at HO5; obtain ⟨A5, c5, rfl⟩ := Kd.R_slice HO5.out; rw [HLT.out] at HO5 ⊢)
            | (at_builtin; refine Kd.R_append k97 (w0 := w3) w3.heap.size rfl (.tmp 80) (.tmp 84) 50 97 (.agg #[(.string ⟨#[]⟩), (.int .i64 0)]) 24 rfl Try.underlying50 info97 rfl (by decide) (by omega) (.slice A5 k c5) (r.B.take k) ⟨name, (-1)⟩ [.string name, .int .i64 (-1)] (fun _ => True) (fun _ => False) rfl rfl ?bP (fun _ hk => hk.elim) ?bF HO5.out ?bB ?bS ?bL ?_; (case bP => exact k97_mkM _ _ _ _); (case bF => exact fun _ _ => trivial); (case bB => exact HB5.out); (case bS => exact HB5.out.size); (case bL => have := HK.out; rw [HLT.out]; omega); intro v2 w6 ho hb hg hat; have HO6 := Aside0.mk ho; have HB6 := Aside0.mk hb; clear ho hb hg hat; obtain ⟨A6, c6, rfl⟩ := Kd.R_slice HO6.out; have HS6 := Aside0.mk (HAP.out _ HB6.out); have q0 : w6.cell? ⟨g, 0, none⟩ = some (.slice (some ad2) r.B.length c3) := (HB6.out.cell (p := ⟨g, 0, none⟩) hgl).trans c30; have qz : w6.frozen? ⟨g, 0, none⟩ = false := (HB6.out.frozen (p := ⟨g, 0, none⟩) hgl).trans z30; rw [HLA.out] at HO6 ⊢)
            | (at_builtin; refine Kd.R_append_rows k97 (Rr := k97.K w6) (w0 := w3) w3.heap.size rfl (.tmp 87) (.tmp 93) 50 97 (.agg #[(.string ⟨#[]⟩), (.int .i64 0)]) 24 rfl Try.underlying50 info97 rfl (by decide) (by omega) (.slice A6 (k + 1) c6) (r.B.take k ++ [(⟨name, (-1)⟩ : S97)]) (r.B.drop k) _ _ _ (fun _ => True) (fun _ => False) rfl rfl HO6.out ?dR ?dK (fun _ hk => hk.elim) ?dF HB6.out ?dS ?dL ?_; (case dR => have := Kd.C_drop (c := c3) (m := k) (Kd.C_below (Kd.R_reads' HB3.out).2.2 HB6.out) HK.out HC3.out; have hc3' := HC3.out; rw [List.length_drop] at this; first | exact this | (rw [if_neg (by omega)] at this; exact this)); (case dK => intro x cs hk; obtain rfl := k97_open hk; exact k97_mkM _ _ _ _); (case dF => exact fun _ _ => trivial); (case dS => exact HB6.out.size); (case dL => have := HK.out; rw [HLA.out]; omega); intro v3 w7 ho hb hg hat; have HO7 := Aside0.mk ho; have HB7 := Aside0.mk hb; clear ho hb hg hat; obtain ⟨A7, c7, rfl⟩ := Kd.R_slice HO7.out; rw [HLD.out] at HO7 ⊢; have p0 : w7.cell? ⟨g, 0, none⟩ = some (.slice (some ad2) r.B.length c3) := (HB7.out.cell (p := ⟨g, 0, none⟩) hgl).trans c30; have pz : w7.frozen? ⟨g, 0, none⟩ = false := (HB7.out.frozen (p := ⟨g, 0, none⟩) hgl).trans z30)
            | fail)
          all_goals
            go_ret
            have HS7 := HAP.out _ HB7.out
            refine ⟨rfl, ?_, ?_, ?_⟩
            · have := HS7.setB (Kd.R_lower (Kd.R_mono (Kd.R_bound HO7.out) (fun k hk => by have := hk.2.1; omega)) hb3)
              unfold insR
              rw [HKO.out]
              exact this
            · exact ((HD.out.mono hbase).trans (HB7.out.mono hb3)).setCell HS7.1 _
            · obtain ⟨_, u7, v7, hg7, _⟩ := HS7
              exact ((KeepRO.of_below HD.out HS.out.lt).trans (KeepRO.of_below HB7.out HS3.out.lt)).set0 hg7 (.inr fun k hk => Nat.le_trans HD.out.size (Kd.R_base HO7.out k hk))
  · have h0 : 0 ≤ fr := by omega
    have h1 : fr < r.V.length := by omega
    have HC7 := Aside0.mk (show (rd_T92 r.V fr).f7 = false by rcases h3 with h | h; exact absurd h hm1; exact h.2.2)
    have hm2 : (fr != -1) = true := by rw [bne_iff_ne]; exact hm1
    have hn0 : ¬ (r.V.length : Int) ≤ fr := by omega
    clear h3 hm1
    go_enter Try.func49, Try.ntmps49
    go_upto_region 12 with (first
      | (go_at_call 86; (with_reducible refine (skymosaicref31_Named.calls 40 name true w HN.out).mono ?_); rintro e w3 ⟨rfl, hd⟩; have HD := Aside0.mk hd.below; have HS3 := Aside0.mk (HS.out.below HD.out); clear hd; obtain ⟨A3, c3, A3', c3', hg3, c30, c31, z30, z31, hc3, hc3', hB3, hV3⟩ := HS3.out.cells; have HB3 := Aside0.mk hB3; have HV3 := Aside0.mk hV3; clear hg3 hB3 hV3; obtain ⟨ad, e9, y0, y1, y2, y3, y4, y5, y6, y7⟩ := at_T92 (Kd.R_reads' HV3.out).2.2 fr (by omega) (by omega); obtain rfl := e9; rw [HC7.out] at y7; clear y0 y1 y2 y3 y4 y5 y6)
      | (go_at_call 56; (with_reducible refine (find_calls base g r name w3 HS3.out (by omega)).mono ?_); rintro e w4 ⟨rfl, rfl⟩; rw [HFF.out])
      | fail)
    clear y7
    go_wp2_with fail
    go_loopw [8] (fun v8 wr => ∃ k : Nat, v8 = .int .i64 k ∧ Aside0 (wr = w3) ∧ Aside0 (k ≤ r.B.length) ∧ Aside0 (∀ j : Nat, j < k → ltB (rd_T97 r.B (j : Int)).f0 name = true)) (fun v _ => r.B.length - (intOf v).toNat)
    case atStart => exact ⟨0, rfl, ⟨rfl⟩, ⟨Nat.zero_le _⟩, ⟨fun j hj => absurd hj (Nat.not_lt_zero _)⟩⟩
    case round =>
      obtain ⟨k, rfl, ⟨rfl⟩, HI, HJ⟩ := hrel
      obtain ⟨w3, rfl⟩ : ∃ w3 : World, w3 = wr := ⟨_, rfl⟩
      have hk := HI.out
      by_cases hgo : ∃ h : k < r.B.length, ltB (rd_T97 r.B (k : Int)).f0 name = true
      · obtain ⟨hlt, hl1⟩ := hgo
        obtain ⟨ad2, e9, y0, y1⟩ := at_T97 (Kd.R_reads' HB3.out).2.2 (k : Int) (by omega) (by omega)
        obtain rfl := e9
        rw [Int.toNat_natCast] at y0 y1
        have hl2 : Op.bytesLess (rd_T97 r.B (k : Int)).f0.toList name.toList = true := hl1
        have HL := Aside0.mk hl1
        clear hl1
        go_wp2
        go_roundw
        case rel =>
          refine ⟨k + 1, by simp, ⟨by trivial⟩, ⟨hlt⟩, ⟨fun j hj => ?_⟩⟩
          by_cases h : j < k
          · exact HJ.out j h
          · obtain rfl : j = k := by omega
            exact HL.out
        case measure => simp [intOf]; omega
      · have hko : kOf r.B name = k := kOf_at k hk HJ.out (fun h => by
          cases e : ltB (rd_T97 r.B (k : Int)).f0 name with
          | false => rfl
          | true => exact absurd ⟨h, e⟩ hgo)
        have HKO := Aside0.mk hko
        have hcut : k = r.B.length ∨ ∃ h : k < r.B.length, Op.bytesLess (rd_T97 r.B (k : Int)).f0.toList name.toList = false := by
          by_cases h : k < r.B.length
          · right
            refine ⟨h, ?_⟩
            cases e : ltB (rd_T97 r.B (k : Int)).f0 name with
            | false => exact e
            | true => exact absurd ⟨h, e⟩ hgo
          · left; omega
        have HAP := Aside0.mk (fun (W : World) (hW : Below w3.heap.size w3 W) => HS3.out.below hW)
        clear hko hgo
        have hgl := HS3.out.lt
        have hb3 : base ≤ w3.heap.size := Nat.le_trans hbase HD.out.size
        -- the rest, from the loop's end on
        rcases hcut with hkl | ⟨hlt, hl2⟩
        · have hnl : ¬ (k : Int) < (r.B.length : Int) := by omega
          clear hkl
          have HC3 := Aside0.mk hc3
          have HK := Aside0.mk (show k ≤ r.B.length from hk)
          have HLT := Aside0.mk (show (r.B.take k).length = k from by rw [List.length_take]; omega)
          have HLA := Aside0.mk (show (r.B.take k ++ [(⟨name, fr⟩ : S97)]).length = k + 1 from by rw [List.length_append, List.length_take, List.length_singleton]; omega)
          have HLD := Aside0.mk (show (r.B.take k ++ [(⟨name, fr⟩ : S97)] ++ r.B.drop k).length = r.B.length + 1 from by rw [List.length_append, List.length_append, List.length_take, List.length_singleton, List.length_drop]; omega)
          go_wp2_with (first
            | (at_builtin; refine Kd.R_append_rows k97 (Rr := k97.K w3) (w0 := w3) w3.heap.size rfl (.tmp 72) (.tmp 78) 50 97 (.agg #[(.string ⟨#[]⟩), (.int .i64 0)]) 24 rfl Try.underlying50 info97 rfl (by decide) (by omega) (.slice none 0 0) ([] : List S97) (r.B.take k) A3 k c3 (fun _ => True) (fun _ => False) rfl rfl ?aO ?aR ?aK (fun _ hk => hk.elim) ?aF ?aB ?aS ?aL ?_; (case aO => exact Kd.R_nil _ _ _ _ _); (case aR => have := Kd.C_take (m := k) (Kd.R_reads' HB3.out).2.2 HK.out; rwa [HLT.out] at this); (case aK => intro x cs hk; obtain rfl := k97_open hk; exact k97_mkM _ _ _ _); (case aF => exact fun _ _ => trivial); (case aB => exact Below.refl _ _); (case aS => exact Nat.le_refl _); (case aL => have := HK.out; simp only [List.length_nil]; omega); intro v1 w5 ho hb hg hat; have HO5 := Aside0.mk ho; have HB5 := Aside0.mk hb; clear ho hb hg hat; rw [List.nil_append] at HO5; obtain ⟨A5, c5, rfl⟩ := Kd.R_slice HO5.out; rw [HLT.out] at HO5 ⊢)
            | (at_builtin; refine Kd.R_append k97 (w0 := w3) w3.heap.size rfl (.tmp 80) (.tmp 84) 50 97 (.agg #[(.string ⟨#[]⟩), (.int .i64 0)]) 24 rfl Try.underlying50 info97 rfl (by decide) (by omega) (.slice A5 k c5) (r.B.take k) ⟨name, fr⟩ [.string name, .int .i64 fr] (fun _ => True) (fun _ => False) rfl rfl ?bP (fun _ hk => hk.elim) ?bF HO5.out ?bB ?bS ?bL ?_; (case bP => exact k97_mkM _ _ _ _); (case bF => exact fun _ _ => trivial); (case bB => exact HB5.out); (case bS => exact HB5.out.size); (case bL => have := HK.out; rw [HLT.out]; omega); intro v2 w6 ho hb hg hat; have HO6 := Aside0.mk ho; have HB6 := Aside0.mk hb; clear ho hb hg hat; obtain ⟨A6, c6, rfl⟩ := Kd.R_slice HO6.out; have HS6 := Aside0.mk (HAP.out _ HB6.out); have q0 : w6.cell? ⟨g, 0, none⟩ = some (.slice A3 r.B.length c3) := (HB6.out.cell (p := ⟨g, 0, none⟩) hgl).trans c30; have qz : w6.frozen? ⟨g, 0, none⟩ = false := (HB6.out.frozen (p := ⟨g, 0, none⟩) hgl).trans z30; rw [HLA.out] at HO6 ⊢)
            | (at_builtin; refine Kd.R_append_rows k97 (Rr := k97.K w6) (w0 := w3) w3.heap.size rfl (.tmp 87) (.tmp 93) 50 97 (.agg #[(.string ⟨#[]⟩), (.int .i64 0)]) 24 rfl Try.underlying50 info97 rfl (by decide) (by omega) (.slice A6 (k + 1) c6) (r.B.take k ++ [(⟨name, fr⟩ : S97)]) (r.B.drop k) _ _ _ (fun _ => True) (fun _ => False) rfl rfl HO6.out ?dR ?dK (fun _ hk => hk.elim) ?dF HB6.out ?dS ?dL ?_; (case dR => have := Kd.C_drop (c := c3) (m := k) (Kd.C_below (Kd.R_reads' HB3.out).2.2 HB6.out) HK.out HC3.out; have hc3' := HC3.out; rw [List.length_drop] at this; first | exact this | (rw [if_neg (by omega)] at this; exact this)); (case dK => intro x cs hk; obtain rfl := k97_open hk; exact k97_mkM _ _ _ _); (case dF => exact fun _ _ => trivial); (case dS => exact HB6.out.size); (case dL => have := HK.out; rw [HLA.out]; omega); intro v3 w7 ho hb hg hat; have HO7 := Aside0.mk ho; have HB7 := Aside0.mk hb; clear ho hb hg hat; obtain ⟨A7, c7, rfl⟩ := Kd.R_slice HO7.out; rw [HLD.out] at HO7 ⊢; have p0 : w7.cell? ⟨g, 0, none⟩ = some (.slice A3 r.B.length c3) := (HB7.out.cell (p := ⟨g, 0, none⟩) hgl).trans c30; have pz : w7.frozen? ⟨g, 0, none⟩ = false := (HB7.out.frozen (p := ⟨g, 0, none⟩) hgl).trans z30)
            | fail)
          all_goals
            go_ret
            have HS7 := HAP.out _ HB7.out
            refine ⟨rfl, ?_, ?_, ?_⟩
            · have := HS7.setB (Kd.R_lower (Kd.R_mono (Kd.R_bound HO7.out) (fun k hk => by have := hk.2.1; omega)) hb3)
              unfold insR
              rw [HKO.out]
              exact this
            · exact ((HD.out.mono hbase).trans (HB7.out.mono hb3)).setCell HS7.1 _
            · obtain ⟨_, u7, v7, hg7, _⟩ := HS7
              exact ((KeepRO.of_below HD.out HS.out.lt).trans (KeepRO.of_below HB7.out HS3.out.lt)).set0 hg7 (.inr fun k hk => Nat.le_trans HD.out.size (Kd.R_base HO7.out k hk))
        · obtain ⟨ad2, e9, y0, y1⟩ := at_T97 (Kd.R_reads' HB3.out).2.2 (k : Int) (by omega) (by omega)
          obtain rfl := e9
          rw [Int.toNat_natCast] at y0 y1
          have HC3 := Aside0.mk hc3
          have HK := Aside0.mk (show k ≤ r.B.length from hk)
          have HLT := Aside0.mk (show (r.B.take k).length = k from by rw [List.length_take]; omega)
          have HLA := Aside0.mk (show (r.B.take k ++ [(⟨name, fr⟩ : S97)]).length = k + 1 from by rw [List.length_append, List.length_take, List.length_singleton]; omega)
          have HLD := Aside0.mk (show (r.B.take k ++ [(⟨name, fr⟩ : S97)] ++ r.B.drop k).length = r.B.length + 1 from by rw [List.length_append, List.length_append, List.length_take, List.length_singleton, List.length_drop]; omega)
          go_wp2_with (first
            | (at_builtin; refine Kd.R_append_rows k97 (Rr := k97.K w3) (w0 := w3) w3.heap.size rfl (.tmp 72) (.tmp 78) 50 97 (.agg #[(.string ⟨#[]⟩), (.int .i64 0)]) 24 rfl Try.underlying50 info97 rfl (by decide) (by omega) (.slice none 0 0) ([] : List S97) (r.B.take k) (some ad2) k c3 (fun _ => True) (fun _ => False) rfl rfl ?aO ?aR ?aK (fun _ hk => hk.elim) ?aF ?aB ?aS ?aL ?_; (case aO => exact Kd.R_nil _ _ _ _ _); (case aR => have := Kd.C_take (m := k) (Kd.R_reads' HB3.out).2.2 HK.out; rwa [HLT.out] at this); (case aK => intro x cs hk; obtain rfl := k97_open hk; exact k97_mkM _ _ _ _); (case aF => exact fun _ _ => trivial); (case aB => exact Below.refl _ _); (case aS => exact Nat.le_refl _); (case aL => have := HK.out; simp only [List.length_nil]; omega); intro v1 w5 ho hb hg hat; have HO5 := Aside0.mk ho; have HB5 := Aside0.mk hb; clear ho hb hg hat; rw [List.nil_append] at HO5; obtain ⟨A5, c5, rfl⟩ := Kd.R_slice HO5.out; rw [HLT.out] at HO5 ⊢)
            | (at_builtin; refine Kd.R_append k97 (w0 := w3) w3.heap.size rfl (.tmp 80) (.tmp 84) 50 97 (.agg #[(.string ⟨#[]⟩), (.int .i64 0)]) 24 rfl Try.underlying50 info97 rfl (by decide) (by omega) (.slice A5 k c5) (r.B.take k) ⟨name, fr⟩ [.string name, .int .i64 fr] (fun _ => True) (fun _ => False) rfl rfl ?bP (fun _ hk => hk.elim) ?bF HO5.out ?bB ?bS ?bL ?_; (case bP => exact k97_mkM _ _ _ _); (case bF => exact fun _ _ => trivial); (case bB => exact HB5.out); (case bS => exact HB5.out.size); (case bL => have := HK.out; rw [HLT.out]; omega); intro v2 w6 ho hb hg hat; have HO6 := Aside0.mk ho; have HB6 := Aside0.mk hb; clear ho hb hg hat; obtain ⟨A6, c6, rfl⟩ := Kd.R_slice HO6.out; have HS6 := Aside0.mk (HAP.out _ HB6.out); have q0 : w6.cell? ⟨g, 0, none⟩ = some (.slice (some ad2) r.B.length c3) := (HB6.out.cell (p := ⟨g, 0, none⟩) hgl).trans c30; have qz : w6.frozen? ⟨g, 0, none⟩ = false := (HB6.out.frozen (p := ⟨g, 0, none⟩) hgl).trans z30; rw [HLA.out] at HO6 ⊢)
            | (at_builtin; refine Kd.R_append_rows k97 (Rr := k97.K w6) (w0 := w3) w3.heap.size rfl (.tmp 87) (.tmp 93) 50 97 (.agg #[(.string ⟨#[]⟩), (.int .i64 0)]) 24 rfl Try.underlying50 info97 rfl (by decide) (by omega) (.slice A6 (k + 1) c6) (r.B.take k ++ [(⟨name, fr⟩ : S97)]) (r.B.drop k) _ _ _ (fun _ => True) (fun _ => False) rfl rfl HO6.out ?dR ?dK (fun _ hk => hk.elim) ?dF HB6.out ?dS ?dL ?_; (case dR => have := Kd.C_drop (c := c3) (m := k) (Kd.C_below (Kd.R_reads' HB3.out).2.2 HB6.out) HK.out HC3.out; have hc3' := HC3.out; rw [List.length_drop] at this; first | exact this | (rw [if_neg (by omega)] at this; exact this)); (case dK => intro x cs hk; obtain rfl := k97_open hk; exact k97_mkM _ _ _ _); (case dF => exact fun _ _ => trivial); (case dS => exact HB6.out.size); (case dL => have := HK.out; rw [HLA.out]; omega); intro v3 w7 ho hb hg hat; have HO7 := Aside0.mk ho; have HB7 := Aside0.mk hb; clear ho hb hg hat; obtain ⟨A7, c7, rfl⟩ := Kd.R_slice HO7.out; rw [HLD.out] at HO7 ⊢; have p0 : w7.cell? ⟨g, 0, none⟩ = some (.slice (some ad2) r.B.length c3) := (HB7.out.cell (p := ⟨g, 0, none⟩) hgl).trans c30; have pz : w7.frozen? ⟨g, 0, none⟩ = false := (HB7.out.frozen (p := ⟨g, 0, none⟩) hgl).trans z30)
            | fail)
          all_goals
            go_ret
            have HS7 := HAP.out _ HB7.out
            refine ⟨rfl, ?_, ?_, ?_⟩
            · have := HS7.setB (Kd.R_lower (Kd.R_mono (Kd.R_bound HO7.out) (fun k hk => by have := hk.2.1; omega)) hb3)
              unfold insR
              rw [HKO.out]
              exact this
            · exact ((HD.out.mono hbase).trans (HB7.out.mono hb3)).setCell HS7.1 _
            · obtain ⟨_, u7, v7, hg7, _⟩ := HS7
              exact ((KeepRO.of_below HD.out HS.out.lt).trans (KeepRO.of_below HB7.out HS3.out.lt)).set0 hg7 (.inr fun k hk => Nat.le_trans HD.out.size (Kd.R_base HO7.out k hk))
end Go.Proofs.Ytcbkcgnigncahaa.P
