import Derived.Test.YtcbkcgnigncahaaEGivenE
import Derived.Deep.RegionLaw
import Derived.Deep.RegionHeld3
namespace Go.Proofs.Ytcbkcgnigncahaa.P
open Go.RowKit Go.Maps Go.Proofs.YtcbkcgnigncahaaW.PrintWords Go.Proofs.YtcbkcgnigncahaaW.PrintLast Go.Proofs.YtcbkcgnigncahaaW.PrintMore
attribute [local go_sem] max2_int min2_int max_two min_two max_three min_three max_four min_four
set_option linter.unusedVariables false
set_option linter.unusedSimpArgs false
theorem info43 : (Try.prog.info? 43).map (fun i => (i.zero, i.size, i.bytes)) = some (some (.agg #[(.int .i64 0), (.int .i64 0), (.string ⟨#[]⟩), (.int .i64 0), (.int .i64 0), (.int .i64 0), (.int .u64 0), (.bool false)]), 8, 72) := by kernel_rfl
/-- The line's block, written out. -/
theorem LS.block {base g b n : Nat} {s : Ln} {W : World} (h : LS base g b n s W) : ∃ A c, W.heap[g]? = some (.cells #[.map (some b), .slice A s.V.length c] 78 (0, 0)) ∧ Kd.R k43 43 W base (fun k => k ≠ g) (.slice A s.V.length c) s.V := by
  obtain ⟨h1, h2, ⟨v, h3, h4⟩, h5⟩ := h
  obtain ⟨A, c, rfl⟩ := Kd.R_slice h4
  exact ⟨A, c, h3, h4⟩
/-- The versions have been appended to, and the slice laid into the line. -/
theorem LS.pushed {base g b n : Nat} {s : Ln} {W W1 : World} {v v1 : Value} {V : List S43} (h : LS base g b n s W) (hv : W.heap[g]? = some (.cells #[.map (some b), v] 78 (0, 0))) (hr : Kd.R k43 43 W base (fun k => k ≠ g) v s.V)
    (h1 : Kd.R k43 43 W1 base (fun k => k ≠ g) v1 V) (hg : W.grownBy W1 v.ownBlock) : LS base g b n ⟨s.D, V⟩ (W1.setCell ⟨g, 1, none⟩ v1) := by
  have hgb := h.ne
  obtain ⟨k1, k2, _, h5⟩ := h
  have hn : some g ≠ v.ownBlock := Kd.R_ne hr hv (by decide)
  have hnb : some b ≠ v.ownBlock := by
    intro e
    obtain ⟨es, clock, hb, _⟩ := h5
    obtain ⟨_, _, _, q, _, cells, hc⟩ := (Kd.R_bound hr).1 b e.symm
    rw [hb] at hc
    cases hc
  have h5' := h5.kept hg hnb
  have hv1 := blk_grown hv hg hn
  refine ⟨k1, k2, ⟨v1, blk_put hv1 1 v1 rfl, Kd.R_keep h1 ((KeepBut.refl W1 g none).set_ 1 v1) (fun _ h => h)⟩, h5'.kept (row := some g) ⟨rfl, rfl, rfl, by simp [World.setCell], fun k hk hne => ?_⟩ (fun e => hgb (Option.some.inj e).symm)⟩
  exact Below.heap_setCell W1 ⟨g, 1, none⟩ v1 k (fun e => hne (congrArg some e))
theorem setCell_grown (W : World) (g i : Nat) (u : Value) : W.grownBy (W.setCell ⟨g, i, none⟩ u) (some g) :=
  ⟨rfl, rfl, rfl, by simp [World.setCell], fun k hk hne => Below.heap_setCell W ⟨g, i, none⟩ u k (fun e => hne (congrArg some e))⟩
/-- A store into a box of another type. -/
theorem LS.far {base g b n x : Nat} {s : Ln} {W : World} {cs : Array Value} (h : LS base g b n s W) (hx : W.heap[x]? = some (.cells cs 80 (0, 0))) (i : Nat) (u : Value) : LS base g b n s (W.setCell ⟨x, i, none⟩ u) := by
  obtain ⟨h1, h2, ⟨v, h3, h4⟩, h5⟩ := h
  have hg := setCell_grown W x i u
  have hgx : g ≠ x := blk_ne h3 hx (by decide)
  have hbx : b ≠ x := by
    rintro rfl
    obtain ⟨es, clock, hb, _⟩ := h5
    rw [hb] at hx
    cases hx
  refine ⟨h1, h2, ⟨v, blk_grown h3 hg (fun e => hgx (Option.some.inj e)), Kd.R_mono (Kd.R_grown (Kd.R_bound h4) hg (fun k hk e => ?_)) (fun k hk => hk.1)⟩, h5.kept hg (fun e => hbx (Option.some.inj e))⟩
  obtain ⟨_, _, _, q, hq, cells, hc⟩ := hk
  have e' : k = x := Option.some.inj e
  rw [e', hx] at hc
  injection hc with hc
  injection hc with _ hc
  have hE : k43.E = [] := rfl
  rw [hE] at hq
  have := List.mem_singleton.1 hq
  rw [this] at hc
  exact absurd hc (by decide)
end Go.Proofs.Ytcbkcgnigncahaa.P
