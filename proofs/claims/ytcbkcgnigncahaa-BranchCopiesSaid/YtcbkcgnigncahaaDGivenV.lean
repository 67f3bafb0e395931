import Derived.Test.YtcbkcgnigncahaaDGivenT
import Derived.WalkSpells
namespace Go.Proofs.Ytcbkcgnigncahaa.P
open Go.RowKit Go.Maps Go.Proofs.YtcbkcgnigncahaaW.PrintWords Go.Proofs.YtcbkcgnigncahaaW.PrintLast Go.Proofs.YtcbkcgnigncahaaW.PrintMore
attribute [local go_sem] max2_int min2_int max_two min_two max_three min_three max_four min_four
set_option linter.unusedVariables false
set_option linter.unusedSimpArgs false
set_option maxHeartbeats 4000000 in
set_option maxRecDepth 100000 in
theorem cloneV_calls (A : Option Addr) (c : Nat) (xs : List S43) (w : World) (hC : Kd.C k43 w A xs.length xs) (hc : xs.length ≤ c) (hl : xs.length ≤ 5000) :
    Calls Try.prog 60 #[.slice A xs.length c] w fun e w' => ∃ v, e = .returned v ∧ Kd.R k43 43 w' w.heap.size (fun _ => True) v xs ∧ Below w.heap.size w w' := by
  have HC := Aside0.mk hC
  clear hC
  cases A with
  | none =>
    have hx : xs = [] := by
      have := HC.out
      rcases Nat.eq_zero_or_pos xs.length with h | h
      · exact List.length_eq_zero_iff.1 h
      · obtain ⟨ad, h, _⟩ := this.2.2 h
        cases h
    subst hx
    have hn := Lib.run_eql_slice_nil (P := Try.prog)
    go_enter Try.func60, Try.ntmps60
    go_wp2
    go_ret
    exact ⟨_, rfl, Kd.R_nil _ _ _ _ _, Below.refl _ _⟩
  | some a =>
    have hn := Lib.run_eql_slice_nil (P := Try.prog)
    go_enter Try.func60, Try.ntmps60
    go_wp2_with (first
      | ((with_reducible refine gate_dst (N := 5) rfl ?_); refine Kd.R_lit k43 _ 43 ?hg (N := 5) ?hd (xs := ([] : List S43)) (inner := []) (ok := fun _ => True) (okp := fun _ => True) ?hr ?hp (fun _ hk => hk) trivial (Below.refl _ _) (Nat.le_refl _) (by simp) ?_; (case hd => rfl); (case hg => rfl); (case hr => first | (go_simp; done) | (go_simp; rfl)); (case hp => exact Reps.none _ _); intro v1 w3 ho hb hg hn; have HO := Aside0.mk ho; have HB := Aside0.mk hb; clear ho hb hg hn)
      | (at_builtin; (refine Kd.R_append_rows k43 (Rr := k43.K w3) (w0 := w) w.heap.size rfl (.tmp 5) (.tmp 6) 57 43 (.agg #[(.int .i64 0), (.int .i64 0), (.string ⟨#[]⟩), (.int .i64 0), (.int .i64 0), (.int .i64 0), (.int .u64 0), (.bool false)]) 72 rfl Try.underlying57 info43 rfl (by decide) (by omega) v1 ([] : List S43) xs (some a) xs.length c (fun _ => True) (fun _ => False) rfl rfl HO.out ?aR ?aK (fun _ hk => hk.elim) ?aF HB.out ?aS ?aL ?_; (case aR => exact Kd.C_below HC.out HB.out); (case aK => intro x cs hk; obtain rfl := k43_open hk; exact k43_mkM _ _ _ _); (case aF => exact fun _ _ => trivial); (case aS => exact HB.out.size); (case aL => simp only [List.length_nil]; omega); intro v2 w4 ho hb hg hat; have HO4 := Aside0.mk ho; have HB4 := Aside0.mk hb; clear ho hb hg hat))
      | fail)
    go_ret
    exact ⟨_, rfl, HO4.out, HB4.out⟩
set_option maxHeartbeats 4000000 in
theorem versions_calls (base g b m : Nat) (s : Ln) (w : World) (hs0 : LS base g b m s w) (hm : s.V.length ≤ 1024) :
    Calls Try.prog 27 #[.pointer (some ⟨g, 0, none⟩)] w fun e w' => ∃ v, e = .returned v ∧ Kd.R k43 43 w' w.heap.size (fun _ => True) v s.V ∧ Below w.heap.size w w' := by
  obtain ⟨A, c, c0, c1, z1, hc, hC, hR, hG⟩ := hs0.cells
  have HC := Aside0.mk hC
  clear hC hR hG hs0 z1
  go_enter Try.func27, Try.ntmps27
  go_wp2_with (first
    | (go_at_call 60; (with_reducible refine (cloneV_calls A c s.V w HC.out hc (by omega)).mono ?_); rintro e w3 ⟨v, rfl, h1, h2⟩; have H1 := Aside0.mk h1; have H2 := Aside0.mk h2; clear h1 h2)
    | fail)
  go_ret
  exact ⟨v, rfl, H1.out, H2.out⟩
end Go.Proofs.Ytcbkcgnigncahaa.P
