import Derived.Test.YtcbkcgnigncahaaEGivenT
import Derived.WalkSpells
import Derived.Test.YtcbkcgnigncahaaEGivenXg
import Derived.Test.YtcbkcgnigncahaaEGivenXe
namespace Go.Proofs.Ytcbkcgnigncahaa.P
open Go.RowKit Go.Maps Go.Proofs.YtcbkcgnigncahaaW.PrintWords Go.Proofs.YtcbkcgnigncahaaW.PrintLast Go.Proofs.YtcbkcgnigncahaaW.PrintMore
attribute [local go_sem] max2_int min2_int max_two min_two max_three min_three max_four min_four
set_option linter.unusedVariables false
set_option linter.unusedSimpArgs false
set_option maxHeartbeats 4000000 in
set_option maxRecDepth 100000 in
theorem cloneV_calls (A : Option Addr) (c : Nat) (xs : List S43) (w : World) (hC : Kd.C k43 w A xs.length xs) (hc : xs.length ≤ c) (hl : xs.length ≤ 5000) :
    Calls Try.prog 60 #[.slice A xs.length c] w fun e w' => ∃ v, e = .returned v ∧ Kd.R k43 43 w' w.heap.size (fun _ => True) v xs ∧ Below w.heap.size w w' := by
  have HC := Aside0.mk hC
  clear hC
  cases A with
  | none =>
    have hx : xs = [] := by
      have := HC.out
      rcases Nat.eq_zero_or_pos xs.length with h | h
      · exact List.length_eq_zero_iff.1 h
      · obtain ⟨ad, h, _⟩ := this.2.2 h
        cases h
    subst hx
    have hn := Lib.run_eql_slice_nil (P := Try.prog)
    go_enter Try.func60, Try.ntmps60
    go_wp2
    go_ret
    exact ⟨_, rfl, Kd.R_nil _ _ _ _ _, Below.refl _ _⟩
  | some a =>
    have hn := Lib.run_eql_slice_nil (P := Try.prog)
    go_enter Try.func60, Try.ntmps60
    go_wp2_with (first
      | ((with_reducible refine gate_dst (N := 5) rfl ?_); refine Kd.R_lit k43 _ 43 ?hg (N := 5) ?hd (xs := ([] : List S43)) (inner := []) (ok := fun _ => True) (okp := fun _ => True) ?hr ?hp (fun _ hk => hk) trivial (Below.refl _ _) (Nat.le_refl _) (by simp) ?_; (case hd => rfl); (case hg => rfl); (case hr => first | (go_simp; done) | (go_simp; rfl)); (case hp => exact Reps.none _ _); intro v1 w3 ho hb hg hn; have HO := Aside0.mk ho; have HB := Aside0.mk hb; clear ho hb hg hn)
      | (at_builtin; (refine Kd.R_append_rows k43 (Rr := k43.K w3) (w0 := w) w.heap.size rfl (.tmp 5) (.tmp 6) 57 43 (.agg #[(.int .i64 0), (.int .i64 0), (.string ⟨#[]⟩), (.int .i64 0), (.int .i64 0), (.int .i64 0), (.int .u64 0), (.bool false)]) 72 rfl Try.underlying57 info43 rfl (by decide) (by omega) v1 ([] : List S43) xs (some a) xs.length c (fun _ => True) (fun _ => False) rfl rfl HO.out ?aR ?aK (fun _ hk => hk.elim) ?aF HB.out ?aS ?aL ?_; (case aR => exact Kd.C_below HC.out HB.out); (case aK => intro x cs hk; obtain rfl := k43_open hk; exact k43_mkM _ _ _ _); (case aF => exact fun _ _ => trivial); (case aS => exact HB.out.size); (case aL => simp only [List.length_nil]; omega); intro v2 w4 ho hb hg hat; have HO4 := Aside0.mk ho; have HB4 := Aside0.mk hb; clear ho hb hg hat))
      | fail)
    go_ret
    exact ⟨_, rfl, HO4.out, HB4.out⟩
set_option maxHeartbeats 4000000 in
theorem versions_calls (base g b m : Nat) (s : Ln) (w : World) (hs0 : LS base g b m s w) (hm : s.V.length ≤ 1024) :
    Calls Try.prog 27 #[.pointer (some ⟨g, 0, none⟩)] w fun e w' => ∃ v, e = .returned v ∧ Kd.R k43 43 w' w.heap.size (fun _ => True) v s.V ∧ Below w.heap.size w w' := by
  obtain ⟨A, c, c0, c1, z1, hc, hC, hR, hG⟩ := hs0.cells
  have HC := Aside0.mk hC
  clear hC hR hG hs0 z1
  go_enter Try.func27, Try.ntmps27
  go_wp2_with (first
    | (go_at_call 60; (with_reducible refine (cloneV_calls A c s.V w HC.out hc (by omega)).mono ?_); rintro e w3 ⟨v, rfl, h1, h2⟩; have H1 := Aside0.mk h1; have H2 := Aside0.mk h2; clear h1 h2)
    | fail)
  go_ret
  exact ⟨v, rfl, H1.out, H2.out⟩
end Go.Proofs.Ytcbkcgnigncahaa.P
namespace Go.Proofs.Ytcbkcgnigncahaa.P
open Go.RowKit Go.Maps Go.Sort Go.Proofs.YtcbkcgnigncahaaW.PrintWords Go.Proofs.YtcbkcgnigncahaaW.PrintLast Go.Proofs.YtcbkcgnigncahaaW.PrintMore
attribute [local go_sem] max2_int min2_int max_two min_two max_three min_three max_four min_four
set_option linter.unusedVariables false
set_option linter.unusedSimpArgs false
theorem rf_find_lt {s : Ln} (h : Good2 s) (name : ByteArray) : findR (rfOf s).B name < (rfOf s).B.length := by
  rcases find_of h.keyed name with ⟨_, h2⟩ | ⟨_, _, h3, _⟩
  · show findR (bOf s.D) name < ((bOf s.D).length : Int)
    omega
  · exact h3
theorem rf_first_lt {s : Ln} (h : Good2 s) (name : ByteArray) : firstR (rfOf s) name < (rfOf s).V.length := by
  have hl := rf_len s
  have h1 := lastR_lt (rfOf s).V name (rfOf s).V.length
  unfold firstR
  split
  · omega
  · split
    · omega
    · rename_i h2 h3
      rcases find_of h.keyed name with ⟨_, h4⟩ | ⟨hb, _, _, h4⟩
      · exact absurd (show findR (rfOf s).B name < 0 by show findR (bOf s.D) name < 0; omega) h3
      · have := h.ends name hb
        show (rd_T97 (bOf s.D) (findR (bOf s.D) name)).f1 < _
        rw [h4, hl]
        exact this.2.1
theorem rf_few {s : Ln} (h : Good s) : (rfOf s).B.length ≤ 64 := by
  show (bOf s.D).length ≤ 64
  rw [bOf_len s h.keyed]
  exact h.few
theorem rf_most {s : Ln} (h : Good s) : (rfOf s).V.length ≤ 1024 := by
  rw [rf_len]
  exact h.most
set_option maxHeartbeats 4000000 in
set_option maxRecDepth 100000 in
theorem rdo_calls (base g : Nat) (s : Ln) (o : S38) (w : World) (h : RS base g (rfOf s) w) (hbase : base ≤ w.heap.size) (ho : OpOk o) (hg : Good2 s) :
    Calls Try.prog 22 #[.pointer (some ⟨g, 0, none⟩), agg38 o] w fun e w' => e = .returned (.tuple #[.int .i64 (doF s o).1, .int .i64 (doF s o).2.1]) ∧ RS base g (rfOf (doF s o).2.2) w' ∧ Below base w w' ∧ KeepRO g w w' := by
  have hde := rdo_eq hg o
  have HB := Aside0.mk (below_alloc (Below.refl w.heap.size w) (.cells #[.int .i64 o.f0, .string o.f1, .int .i64 o.f2, .int .i64 o.f3, .int .i64 o.f4, .int .i64 o.f5, .int .u64 o.f6] 38))
  have HS := Aside0.mk (h.below HB.out)
  have HL0 := Aside0.mk h.lt
  have HG := Aside0.mk hg
  have HN := Aside0.mk ho.name
  have hu38 := Try.underlying38
  have hb2 : base ≤ w.heap.size + 1 := by omega
  clear h hg ho
  unfold agg38
  by_cases h0 : o.f0 = 0
  · have hf : rdoF (rfOf s) o = (0, (rforkF (rfOf s) o.f1 o.f2).1, (rforkF (rfOf s) o.f1 o.f2).2) := by unfold rdoF; rw [if_pos h0]
    rw [hf] at hde
    have HD := Aside0.mk hde
    rw [h0] at HB HS ⊢
    clear hf h0 hde
    go_enter Try.func22, Try.ntmps22
    go_wp2_with (first
      | (go_at_call 49; (with_reducible refine (rfork_calls base g (rfOf s) o.f1 o.f2 _ HS.out (by rw [World.size_alloc]; omega) (rf_few HG.out.toGood) (by have := rf_most HG.out.toGood; omega) HN.out).mono ?_); rintro e w3 ⟨rfl, h1, h2, h3⟩; have H1 := Aside0.mk h1; have H2 := Aside0.mk h2; have H3 := Aside0.mk h3; clear h1 h2 h3)
      | fail)
    go_ret2
    have e1 := congrArg Prod.fst HD.out
    have e2 := congrArg (fun x => x.2.1) HD.out
    have e3 := congrArg (fun x => x.2.2) HD.out
    simp only at e1 e2 e3
    rw [← e1, ← e2, ← e3]
    exact ⟨rfl, H1.out, (HB.out.mono hbase).trans H2.out, (KeepRO.of_below HB.out HL0.out).trans H3.out⟩
  · by_cases h2 : o.f0 = 2
    · have hf : rdoF (rfOf s) o = (0, (rcloseF (rfOf s) o.f2).1, (rcloseF (rfOf s) o.f2).2) := by unfold rdoF; rw [if_neg h0, if_pos h2]
      rw [hf] at hde
      have HD := Aside0.mk hde
      rw [h2] at HB HS ⊢
      clear hf h0 h2 hde
      go_enter Try.func22, Try.ntmps22
      go_wp2_with (first
        | (go_at_call 50; (with_reducible refine (rclose_calls base g (rfOf s) o.f2 _ HS.out (by rw [World.size_alloc]; omega)).mono ?_); rintro e w3 ⟨rfl, h1, h2, h3⟩; have H1 := Aside0.mk h1; have H2 := Aside0.mk h2; have H3 := Aside0.mk h3; clear h1 h2 h3)
        | fail)
      go_ret2
      have e1 := congrArg Prod.fst HD.out
      have e2 := congrArg (fun x => x.2.1) HD.out
      have e3 := congrArg (fun x => x.2.2) HD.out
      simp only at e1 e2 e3
      rw [← e1, ← e2, ← e3]
      exact ⟨rfl, H1.out, (HB.out.mono hbase).trans H2.out, (KeepRO.of_below HB.out HL0.out).trans H3.out⟩
    · have hf : rdoF (rfOf s) o = rpublishF (rfOf s) o.f1 o.f3 o.f4 o.f5 o.f6 := by unfold rdoF; rw [if_neg h0, if_neg h2]
      rw [hf] at hde
      have HD := Aside0.mk hde
      have h0' : (o.f0 == 0) = false := by simpa using h0
      have h2' : (o.f0 == 2) = false := by simpa using h2
      clear hf h0 h2 hde
      go_enter Try.func22, Try.ntmps22
      go_wp2_with (first
        | (go_at_call 51; (with_reducible refine (rpublish_calls base g (rfOf s) o.f1 o.f3 o.f4 o.f5 o.f6 _ HS.out (by rw [World.size_alloc]; omega) (rf_few HG.out.toGood) (by have := rf_most HG.out.toGood; omega) (rf_first_lt HG.out _) (rf_find_lt HG.out _)).mono ?_); rintro e w3 ⟨rfl, h1, h2, h3⟩; rw [HD.out] at h1; rw [HD.out]; have H1 := Aside0.mk h1; have H2 := Aside0.mk h2; have H3 := Aside0.mk h3; clear h1 h2 h3)
        | fail)
      go_ret2
      exact ⟨rfl, H1.out, (HB.out.mono hbase).trans H2.out, (KeepRO.of_below HB.out HL0.out).trans H3.out⟩
end Go.Proofs.Ytcbkcgnigncahaa.P
