import Derived.Test.YtcbkcgnigncahaaDGivenXg
import Derived.Test.YtcbkcgnigncahaaDGivenXe
import Derived.Test.YtcbkcgnigncahaaDGivenV
namespace Go.Proofs.Ytcbkcgnigncahaa.P
open Go.RowKit Go.Maps Go.Sort Go.Proofs.YtcbkcgnigncahaaW.PrintWords Go.Proofs.YtcbkcgnigncahaaW.PrintLast Go.Proofs.YtcbkcgnigncahaaW.PrintMore
attribute [local go_sem] max2_int min2_int max_two min_two max_three min_three max_four min_four
set_option linter.unusedVariables false
set_option linter.unusedSimpArgs false
theorem rf_find_lt {s : Ln} (h : Good2 s) (name : ByteArray) : findR (rfOf s).B name < (rfOf s).B.length := by
  rcases find_of h.keyed name with ⟨_, h2⟩ | ⟨_, _, h3, _⟩
  · show findR (bOf s.D) name < ((bOf s.D).length : Int)
    omega
  · exact h3
theorem rf_first_lt {s : Ln} (h : Good2 s) (name : ByteArray) : firstR (rfOf s) name < (rfOf s).V.length := by
  have hl := rf_len s
  have h1 := lastR_lt (rfOf s).V name (rfOf s).V.length
  unfold firstR
  split
  · omega
  · split
    · omega
    · rename_i h2 h3
      rcases find_of h.keyed name with ⟨_, h4⟩ | ⟨hb, _, _, h4⟩
      · exact absurd (show findR (rfOf s).B name < 0 by show findR (bOf s.D) name < 0; omega) h3
      · have := h.ends name hb
        show (rd_T97 (bOf s.D) (findR (bOf s.D) name)).f1 < _
        rw [h4, hl]
        exact this.2.1
theorem rf_few {s : Ln} (h : Good s) : (rfOf s).B.length ≤ 64 := by
  show (bOf s.D).length ≤ 64
  rw [bOf_len s h.keyed]
  exact h.few
theorem rf_most {s : Ln} (h : Good s) : (rfOf s).V.length ≤ 1024 := by
  rw [rf_len]
  exact h.most
set_option maxHeartbeats 4000000 in
set_option maxRecDepth 100000 in
theorem rdo_calls (base g : Nat) (s : Ln) (o : S38) (w : World) (h : RS base g (rfOf s) w) (hbase : base ≤ w.heap.size) (ho : OpOk o) (hg : Good2 s) :
    Calls Try.prog 22 #[.pointer (some ⟨g, 0, none⟩), agg38 o] w fun e w' => e = .returned (.tuple #[.int .i64 (doF s o).1, .int .i64 (doF s o).2.1]) ∧ RS base g (rfOf (doF s o).2.2) w' ∧ Below base w w' ∧ KeepRO g w w' := by
  have hde := rdo_eq hg o
  have HB := Aside0.mk (below_alloc (Below.refl w.heap.size w) (.cells #[.int .i64 o.f0, .string o.f1, .int .i64 o.f2, .int .i64 o.f3, .int .i64 o.f4, .int .i64 o.f5, .int .u64 o.f6] 38))
  have HS := Aside0.mk (h.below HB.out)
  have HL0 := Aside0.mk h.lt
  have HG := Aside0.mk hg
  have HN := Aside0.mk ho.name
  have hu38 := Try.underlying38
  have hb2 : base ≤ w.heap.size + 1 := by omega
  clear h hg ho
  unfold agg38
  by_cases h0 : o.f0 = 0
  · have hf : rdoF (rfOf s) o = (0, (rforkF (rfOf s) o.f1 o.f2).1, (rforkF (rfOf s) o.f1 o.f2).2) := by unfold rdoF; rw [if_pos h0]
    rw [hf] at hde
    have HD := Aside0.mk hde
    rw [h0] at HB HS ⊢
    clear hf h0 hde
    go_enter Try.func22, Try.ntmps22
    go_wp2_with (first
      | (go_at_call 49; (with_reducible refine (rfork_calls base g (rfOf s) o.f1 o.f2 _ HS.out (by rw [World.size_alloc]; omega) (rf_few HG.out.toGood) (by have := rf_most HG.out.toGood; omega) HN.out).mono ?_); rintro e w3 ⟨rfl, h1, h2, h3⟩; have H1 := Aside0.mk h1; have H2 := Aside0.mk h2; have H3 := Aside0.mk h3; clear h1 h2 h3)
      | fail)
    go_ret2
    have e1 := congrArg Prod.fst HD.out
    have e2 := congrArg (fun x => x.2.1) HD.out
    have e3 := congrArg (fun x => x.2.2) HD.out
    simp only at e1 e2 e3
    rw [← e1, ← e2, ← e3]
    exact ⟨rfl, H1.out, (HB.out.mono hbase).trans H2.out, (KeepRO.of_below HB.out HL0.out).trans H3.out⟩
  · by_cases h2 : o.f0 = 2
    · have hf : rdoF (rfOf s) o = (0, (rcloseF (rfOf s) o.f2).1, (rcloseF (rfOf s) o.f2).2) := by unfold rdoF; rw [if_neg h0, if_pos h2]
      rw [hf] at hde
      have HD := Aside0.mk hde
      rw [h2] at HB HS ⊢
      clear hf h0 h2 hde
      go_enter Try.func22, Try.ntmps22
      go_wp2_with (first
        | (go_at_call 50; (with_reducible refine (rclose_calls base g (rfOf s) o.f2 _ HS.out (by rw [World.size_alloc]; omega)).mono ?_); rintro e w3 ⟨rfl, h1, h2, h3⟩; have H1 := Aside0.mk h1; have H2 := Aside0.mk h2; have H3 := Aside0.mk h3; clear h1 h2 h3)
        | fail)
      go_ret2
      have e1 := congrArg Prod.fst HD.out
      have e2 := congrArg (fun x => x.2.1) HD.out
      have e3 := congrArg (fun x => x.2.2) HD.out
      simp only at e1 e2 e3
      rw [← e1, ← e2, ← e3]
      exact ⟨rfl, H1.out, (HB.out.mono hbase).trans H2.out, (KeepRO.of_below HB.out HL0.out).trans H3.out⟩
    · have hf : rdoF (rfOf s) o = rpublishF (rfOf s) o.f1 o.f3 o.f4 o.f5 o.f6 := by unfold rdoF; rw [if_neg h0, if_neg h2]
      rw [hf] at hde
      have HD := Aside0.mk hde
      have h0' : (o.f0 == 0) = false := by simpa using h0
      have h2' : (o.f0 == 2) = false := by simpa using h2
      clear hf h0 h2 hde
      go_enter Try.func22, Try.ntmps22
      go_wp2_with (first
        | (go_at_call 51; (with_reducible refine (rpublish_calls base g (rfOf s) o.f1 o.f3 o.f4 o.f5 o.f6 _ HS.out (by rw [World.size_alloc]; omega) (rf_few HG.out.toGood) (by have := rf_most HG.out.toGood; omega) (rf_first_lt HG.out _) (rf_find_lt HG.out _)).mono ?_); rintro e w3 ⟨rfl, h1, h2, h3⟩; rw [HD.out] at h1; rw [HD.out]; have H1 := Aside0.mk h1; have H2 := Aside0.mk h2; have H3 := Aside0.mk h3; clear h1 h2 h3)
        | fail)
      go_ret2
      exact ⟨rfl, H1.out, (HB.out.mono hbase).trans H2.out, (KeepRO.of_below HB.out HL0.out).trans H3.out⟩
end Go.Proofs.Ytcbkcgnigncahaa.P
