import Derived.Test.YtcbkcgnigncahaaDGivenA
import Derived.Test.YtcbkcgnigncahaaDGivenXc
namespace Go.Proofs.Ytcbkcgnigncahaa.P
open Go.RowKit Go.Maps Go.Proofs.YtcbkcgnigncahaaW.PrintWords Go.Proofs.YtcbkcgnigncahaaW.PrintLast Go.Proofs.YtcbkcgnigncahaaW.PrintMore
set_option linter.unusedVariables false
set_option linter.unusedSimpArgs false
theorem R_only43 {w : World} {base : Nat} {ok : Nat → Prop} {v : Value} {xs : List S43} (h : Kd.R k43 43 w base ok v xs) : Kd.R k43 43 w base (fun k => ok k ∧ v.ownBlock = some k) v xs :=
  ⟨fun k hk => ⟨h.1 k hk, hk⟩, h.2.imp_ (fun _ _ hp => by obtain rfl := k43_openM hp; exact k43_mkM _ _ _ _)⟩
/-- The blocks of two lines are other blocks. -/
structure Apart (g b g2 b2 : Nat) (W : World) : Prop where
  gg : g ≠ g2
  gb : g ≠ b2
  bg : b ≠ g2
  bb : b ≠ b2
  vv : ∀ k, vown g W = some k → vown g2 W ≠ some k
theorem Apart.swap {g b g2 b2 : Nat} {W : World} (h : Apart g b g2 b2 W) : Apart g2 b2 g b W :=
  ⟨Ne.symm h.gg, Ne.symm h.bg, Ne.symm h.gb, Ne.symm h.bb, fun k h1 h2 => h.vv k h2 h1⟩
theorem Apart.below {g b g2 b2 : Nat} {W W' : World} (h : Apart g b g2 b2 W) (hb : Below W.heap.size W W') (h1 : g < W.heap.size) (h2 : g2 < W.heap.size) : Apart g b g2 b2 W' :=
  ⟨h.gg, h.gb, h.bg, h.bb, by rw [vown_same (hb.block g h1), vown_same (hb.block g2 h2)]; exact h.vv⟩
theorem LS.keepO {base g b n base2 g2 b2 n2 : Nat} {s s2 : Ln} {W W' : World} (h1 : LS base g b n s W) (h2 : LS base2 g2 b2 n2 s2 W) (ap : Apart g b g2 b2 W) (hk : KeepO g b W W') : LS base2 g2 b2 n2 s2 W' ∧ Apart g b g2 b2 W' := by
  have hlt1 := h1.lt
  have hlt2 := h2.lt
  obtain ⟨a1, a2, ⟨v, a3, a4⟩, es, clock, a5, a6⟩ := h1
  obtain ⟨c1, c2, ⟨v2, c3, c4⟩, es2, clock2, c5, c6⟩ := h2
  have hv1 := vown_of a3
  have hv2 := vown_of c3
  have k1 : W'.heap[g2]? = W.heap[g2]? := hk.block g2 hlt2 (Ne.symm ap.gg) (Ne.symm ap.bg) (by
    rw [hv1]
    exact Kd.R_ne a4 c3 (by decide))
  have k2 : W'.heap[b2]? = W.heap[b2]? := hk.block b2 (blk_lt c5) (Ne.symm ap.gb) (Ne.symm ap.bb) (by
    rw [hv1]
    intro e
    obtain ⟨cells, hc⟩ := Kd.R_typed a4 b2 e.symm
    rw [c5] at hc
    cases hc)
  have k3 : ∀ k, v2.ownBlock = some k → W'.heap[k]? = W.heap[k]? := fun k hk2 => by
    refine hk.block k (Kd.R_lt c4 k hk2) ?_ ?_ ?_
    · rintro rfl
      exact Kd.R_ne c4 a3 (by decide) hk2.symm
    · rintro rfl
      obtain ⟨cells, hc⟩ := Kd.R_typed c4 k hk2
      rw [a5] at hc
      cases hc
    · intro e
      exact ap.vv k e.symm (hv2.trans hk2)
  refine ⟨⟨c1, c2, ⟨v2, k1.trans c3, Kd.R_mono (Kd.R_move (R_only43 c4) (fun k hk => k3 k hk.2)) (fun k hk => hk.1)⟩, es2, clock2, k2.trans c5, c6⟩, ap.gg, ap.gb, ap.bg, ap.bb, fun k e => ?_⟩
  rw [vown_same k1]
  rcases hk.own with e2 | ⟨j, e2, hj⟩
  · rw [e2] at e
    exact ap.vv k e
  · rw [e2] at e
    obtain rfl := Option.some.inj e
    intro e3
    rw [hv2] at e3
    have := Kd.R_lt c4 j e3
    omega
end Go.Proofs.Ytcbkcgnigncahaa.P
namespace Go.Proofs.Ytcbkcgnigncahaa.P
open Go.RowKit Go.Maps Go.Proofs.YtcbkcgnigncahaaW.PrintWords Go.Proofs.YtcbkcgnigncahaaW.PrintLast Go.Proofs.YtcbkcgnigncahaaW.PrintMore
set_option linter.unusedVariables false
set_option linter.unusedSimpArgs false
theorem R_only97 {w : World} {base : Nat} {ok : Nat → Prop} {v : Value} {xs : List S97} (h : Kd.R k97 97 w base ok v xs) : Kd.R k97 97 w base (fun k => ok k ∧ v.ownBlock = some k) v xs :=
  ⟨fun k hk => ⟨h.1 k hk, hk⟩, h.2.imp_ (fun _ _ hp => by obtain rfl := k97_open (k97.K_of_M hp); exact k97_mkM _ _ _ _)⟩
theorem R_only92 {w : World} {base : Nat} {ok : Nat → Prop} {v : Value} {xs : List S92} (h : Kd.R k92 92 w base ok v xs) : Kd.R k92 92 w base (fun k => ok k ∧ v.ownBlock = some k) v xs :=
  ⟨fun k hk => ⟨h.1 k hk, hk⟩, h.2.imp_ (fun _ _ hp => by obtain rfl := k92_open (k92.K_of_M hp); exact k92_mkM _ _ _ _)⟩
structure RApart (g g2 : Nat) (W : World) : Prop where
  gg : g ≠ g2
  uu : ∀ k, bown g W = some k → bown g2 W ≠ some k
  vv : ∀ k, vown g W = some k → vown g2 W ≠ some k
theorem RApart.swap {g g2 : Nat} {W : World} (h : RApart g g2 W) : RApart g2 g W :=
  ⟨Ne.symm h.gg, fun k h1 h2 => h.uu k h2 h1, fun k h1 h2 => h.vv k h2 h1⟩
theorem RApart.same {g g2 : Nat} {W W' : World} (h : RApart g g2 W) (h1 : W'.heap[g]? = W.heap[g]?) (h2 : W'.heap[g2]? = W.heap[g2]?) : RApart g g2 W' :=
  ⟨h.gg, by rw [bown_same h1, bown_same h2]; exact h.uu, by rw [vown_same h1, vown_same h2]; exact h.vv⟩
theorem RApart.below {g g2 : Nat} {W W' : World} (h : RApart g g2 W) (hb : Below W.heap.size W W') (h1 : g < W.heap.size) (h2 : g2 < W.heap.size) : RApart g g2 W' := h.same (hb.block g h1) (hb.block g2 h2)
theorem RS.keepRO {base g base2 g2 : Nat} {r r2 : Rf} {W W' : World} (h1 : RS base g r W) (h2 : RS base2 g2 r2 W) (ap : RApart g g2 W) (hk : KeepRO g W W') : RS base2 g2 r2 W' ∧ RApart g g2 W' := by
  have hlt1 := h1.lt
  have hlt2 := h2.lt
  obtain ⟨a1, u, v, a3, a4, a5⟩ := h1
  obtain ⟨c1, u2, v2, c3, c4, c5⟩ := h2
  have hu1 := bown_of a3
  have hv1 := vown_of a3
  have hu2 := bown_of c3
  have hv2 := vown_of c3
  have k1 : W'.heap[g2]? = W.heap[g2]? := hk.block g2 hlt2 (Ne.symm ap.gg) (by rw [hu1]; exact Kd.R_ne a4 c3 (by decide)) (by rw [hv1]; exact Kd.R_ne a5 c3 (by decide))
  have k2 : ∀ k, u2.ownBlock = some k → W'.heap[k]? = W.heap[k]? := fun k hk2 => by
    obtain ⟨cells, hc⟩ := Kd.R_typed c4 k hk2
    refine hk.block k (Kd.R_lt c4 k hk2) ?_ ?_ ?_
    · rintro rfl
      exact Kd.R_ne c4 a3 (by decide) hk2.symm
    · intro e
      exact ap.uu k e.symm (hu2.trans hk2)
    · rw [hv1]
      exact Kd.R_ne a5 hc (by decide)
  have k3 : ∀ k, v2.ownBlock = some k → W'.heap[k]? = W.heap[k]? := fun k hk2 => by
    obtain ⟨cells, hc⟩ := Kd.R_typed c5 k hk2
    refine hk.block k (Kd.R_lt c5 k hk2) ?_ ?_ ?_
    · rintro rfl
      exact Kd.R_ne c5 a3 (by decide) hk2.symm
    · rw [hu1]
      exact Kd.R_ne a4 hc (by decide)
    · intro e
      exact ap.vv k e.symm (hv2.trans hk2)
  refine ⟨⟨c1, u2, v2, k1.trans c3, Kd.R_mono (Kd.R_move (R_only97 c4) (fun k hk => k2 k hk.2)) (fun k hk => hk.1), Kd.R_mono (Kd.R_move (R_only92 c5) (fun k hk => k3 k hk.2)) (fun k hk => hk.1)⟩, ap.gg, fun k e => ?_, fun k e => ?_⟩
  · rw [bown_same k1]
    rcases hk.own0 with e2 | e2
    · exact ap.uu k (e2.symm.trans e)
    · have := e2 k e
      intro e3
      rw [hu2] at e3
      have := Kd.R_lt c4 k e3
      omega
  · rw [vown_same k1]
    rcases hk.own1 with e2 | e2
    · exact ap.vv k (e2.symm.trans e)
    · have := e2 k e
      intro e3
      rw [hv2] at e3
      have := Kd.R_lt c5 k e3
      omega
/-- What a line's own operation leaves, leaves two of the reference's lines apart; and the other way round. -/
theorem RApart.keepT {base g base2 g2 : Nat} {r r2 : Rf} {W W' : World} (h : RApart g g2 W) (h1 : RS base g r W) (h2 : RS base2 g2 r2 W) (hk : KeepT W W') : RApart g g2 W' := by
  obtain ⟨_, u, v, a3, _⟩ := h1
  obtain ⟨_, u2, v2, c3, _⟩ := h2
  exact h.same ((hk _ _ _ a3 (by decide) (by decide)).trans a3.symm) ((hk _ _ _ c3 (by decide) (by decide)).trans c3.symm)
theorem Apart.keepR {base g b n base2 g2 b2 n2 : Nat} {s s2 : Ln} {W W' : World} (h : Apart g b g2 b2 W) (h1 : LS base g b n s W) (h2 : LS base2 g2 b2 n2 s2 W) (hk : KeepR W W') : Apart g b g2 b2 W' := by
  obtain ⟨_, _, ⟨v, a3, _⟩, _⟩ := h1
  obtain ⟨_, _, ⟨v2, c3, _⟩, _⟩ := h2
  have e1 : W'.heap[g]? = W.heap[g]? := (hk _ _ a3 (by rintro cs fr e; injection e with _ e; exact absurd e (by decide)) (by rintro cs fr e; injection e with _ e; exact absurd e (by decide)) (by rintro cs fr e; injection e with _ e; exact absurd e (by decide))).trans a3.symm
  have e2 : W'.heap[g2]? = W.heap[g2]? := (hk _ _ c3 (by rintro cs fr e; injection e with _ e; exact absurd e (by decide)) (by rintro cs fr e; injection e with _ e; exact absurd e (by decide)) (by rintro cs fr e; injection e with _ e; exact absurd e (by decide))).trans c3.symm
  exact ⟨h.gg, h.gb, h.bg, h.bb, by rw [vown_same e1, vown_same e2]; exact h.vv⟩
end Go.Proofs.Ytcbkcgnigncahaa.P
