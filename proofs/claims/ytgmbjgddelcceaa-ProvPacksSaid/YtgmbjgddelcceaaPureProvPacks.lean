/- ProvPacks: for every list of numbers and every change, Pack answers what the model answers, and Unpack leads back; the section's examples hold. No condition beyond what the row itself says. -/
import Derived.Test.YtgmbjgddelcceaaPx18
import Derived.Test.YtgmbjgddelcceaaPlainC
namespace Go.Proofs.Ytgmbjgddelcceaa.Pure
open Go.RowKit Go.Proofs.Ytgmbjgddelcceaa.P Go.Proofs.YtgmbjgddelcceaaW.PrintWords Go.Proofs.YtgmbjgddelcceaaW.PrintLast

theorem spoilt_some (s : List S71) (hs : s.length = 256) (a1 a2 a3 : Int) (w1 : (Lit.int .i64 a1).wf = true) (w2 : (Lit.int .i64 a2).wf = true) : ∃ s', skymosaicref36_Spoilt.f s a1 a2 a3 = some s' ∧ s'.length ≤ 257 := by
  obtain ⟨t, ht, ht0, ht1⟩ := around_some a1 256 w1 (by omega) (by omega)
  obtain ⟨u, hu, hu0, hu1⟩ := around_some a2 6 w2 (by omega) (by omega)
  unfold skymosaicref36_Spoilt.f
  rw [if_pos (show ([] : List S71).length + s.length < 4398046511104 by rw [hs]; decide)]
  simp only [List.nil_append, Option.bind_some]
  rw [show ((s.length : Nat) : Int) = 256 by rw [hs]; rfl, ht]
  simp only [Option.bind_some]
  rw [hu]
  simp only [Option.bind_some]
  by_cases h0 : u = 0
  · rw [if_pos h0, if_pos ht0, if_pos ht1]; exact ⟨_, rfl, by rw [List.length_set]; omega⟩
  · rw [if_neg h0]
    by_cases h1 : u = 1
    · rw [if_pos h1, if_pos ht0, if_pos ht1]; exact ⟨_, rfl, by rw [List.length_set]; omega⟩
    · rw [if_neg h1]
      by_cases h2 : u = 2
      · rw [if_pos h2, if_pos ht0, if_pos ht1]; exact ⟨_, rfl, by rw [List.length_set]; omega⟩
      · rw [if_neg h2]
        by_cases h3 : u = 3
        · rw [if_pos h3, if_pos ht0, if_pos ht1]; exact ⟨_, rfl, by rw [List.length_set]; omega⟩
        · rw [if_neg h3]
          by_cases h4 : u = 4
          · rw [if_pos h4, if_pos ht0, if_pos (by omega)]; exact ⟨_, rfl, by rw [List.length_take]; omega⟩
          · rw [if_neg h4, if_pos ht0, if_pos ht1, if_pos (by omega)]; exact ⟨_, rfl, by rw [List.length_append]; show s.length + 1 ≤ 257; omega⟩

theorem lives_ends : Ev (fun k => skymosaiclaw36_lives.f k) true :=
  Ev.of skymosaiclaw36_lives.mono (k := 300) (by decide +kernel)

/-- One round of the law: a list on which Pack, Unpack and the model agree. -/
theorem round_ok (both : List (List S71)) (i : Int) (h0 : 0 ≤ i) (hlt : i < 2) (hb : both.length = 2) (hlen : (rd_L4 both i).length ≤ 1000000) (h : Ev (fun k => skymosaiclaw36_ProvPacks.l0 k both (i + 1)) true) :
    Ev (fun k => skymosaiclaw36_ProvPacks.l0 k both i) true := by
  generalize hx : rd_L4 both i = x at hlen
  have hp := packF_len x
  have j : ∀ b, b = false → Ev (fun k => skymosaiclaw36_ProvPacks.j1 k both i (packF x).1 (packF x).2 b) true := by
    rintro b rfl
    by_cases he : (packF x).2 = 0
    · obtain ⟨hu, hl, hv, _⟩ := unpack_back x he
      refine Ev.step (f := fun k => (skymosaiclaw36_same.f k x x).bind fun t => (if t = true then (skymosaiclaw36_ProvPacks.l0 k both (i + 1)) else (some false))) (fun k => ?_) ?_
      · conv => lhs; unfold skymosaiclaw36_ProvPacks.j1
        rw [if_neg (by simp), if_pos he]
        simp only [prov_Unpack.f, Option.bind_some]
        rw [hu, if_pos rfl, if_pos h0, if_pos (by omega), hx, w64 (by omega)]
      · refine Ev.bind (same71_ends x hlen) ?_
        refine Ev.congr (f := fun k => skymosaiclaw36_ProvPacks.l0 k both (i + 1)) (fun k => ?_) h
        rw [if_pos rfl]
    · refine Ev.step (f := fun k => skymosaiclaw36_ProvPacks.l0 k both (i + 1)) (fun k => ?_) h
      conv => lhs; unfold skymosaiclaw36_ProvPacks.j1
      rw [if_neg (by simp), if_neg he, w64 (by omega)]
  refine Ev.step (f := fun k => (skymosaicref36_Pack.f k x).bind fun bt => (if (packF x).2 = bt.2 then ((skymosaiclaw36_plain.f k (packF x).1).bind fun t => ((skymosaicref36_Same.f k t bt.1).bind fun u => (skymosaiclaw36_ProvPacks.j1 k both i (packF x).1 (packF x).2 (!u)))) else (skymosaiclaw36_ProvPacks.j1 k both i (packF x).1 (packF x).2 true))) (fun k => ?_) ?_
  · conv => lhs; unfold skymosaiclaw36_ProvPacks.l0
    rw [if_pos hlt, if_pos h0, if_pos (by omega), hx, pack_some]
    simp only [Option.bind_some]
  · refine Ev.bind (ref_pack x) ?_
    refine Ev.congr (f := fun k => (skymosaiclaw36_plain.f k (packF x).1).bind fun t => ((skymosaicref36_Same.f k t ((packF x).1.map conv)).bind fun u => (skymosaiclaw36_ProvPacks.j1 k both i (packF x).1 (packF x).2 (!u)))) (fun k => ?_) ?_
    · rw [if_pos rfl]
    · refine Ev.bind (plain_ends _ (by omega)) ?_
      exact Ev.bind (same74_ends _ (by simp; omega)) (j _ rfl)

theorem ProvPacks : skymosaiclaw36_ProvPacks.Pure := by
  intro l0 a1 a2 a3 hm hb hw w1 w2 w3
  obtain ⟨s, hs, hok⟩ := sources_ends l0 (by omega) hw
  obtain ⟨s', hs', hlen'⟩ := spoilt_some s hok.1 a1 a2 a3 w1 w2
  refine Ev.rounds ?_
  refine Ev.congr (f := fun k => (skymosaicref36_Sources.f k l0).bind fun t => ((skymosaicref36_Spoilt.f t a1 a2 a3).bind fun u => (skymosaiclaw36_ProvPacks.l0 k [t, u] 0))) (fun k => rfl) ?_
  refine Ev.bind hs ?_
  refine Ev.congr (f := fun k => skymosaiclaw36_ProvPacks.l0 k [s, s'] 0) (fun k => by rw [hs']; rfl) ?_
  have hend : Ev (fun k => skymosaiclaw36_ProvPacks.l0 k [s, s'] 2) true := by
    refine Ev.step (f := fun k => skymosaiclaw36_lives.f k) (fun k => ?_) lives_ends
    conv => lhs; unfold skymosaiclaw36_ProvPacks.l0
    rw [if_neg (by omega)]
    cases skymosaiclaw36_lives.f k <;> rfl
  have h1 := round_ok [s, s'] 1 (by omega) (by omega) rfl (show s'.length ≤ 1000000 by omega) hend
  exact round_ok [s, s'] 0 (by omega) (by omega) rfl (show s.length ≤ 1000000 by have := hok.1; omega) h1
end Go.Proofs.Ytgmbjgddelcceaa.Pure
