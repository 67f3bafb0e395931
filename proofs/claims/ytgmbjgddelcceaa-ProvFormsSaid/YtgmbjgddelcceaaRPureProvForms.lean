import Derived.Test.YtgmbjgddelcceaaRPx20
import Derived.Test.YtgmbjgddelcceaaRPlainH
import Derived.Test.YtgmbjgddelcceaaRPureProvPacks
namespace Go.Proofs.Ytgmbjgddelcceaa.Pure
open Go.RowKit Go.Proofs.Ytgmbjgddelcceaa.P Go.Proofs.YtgmbjgddelcceaaW.PrintWords Go.Proofs.YtgmbjgddelcceaaW.PrintLast
theorem unpackF_ok (xs : List S80) : unpackF xs = ([], 2) ∨ ∃ o : List S71, unpackF xs = (o, 0) ∧ o.length = 256 ∧ o.any badS = false ∧ packL o = xs := by
  unfold unpackF
  cases hg : unpackGo xs [] with
  | none => exact .inl rfl
  | some o =>
    simp only
    by_cases c1 : (o.length : Int) = 256
    · rw [if_pos c1]
      by_cases c2 : packL o = xs
      · rw [if_pos c2]
        exact .inr ⟨o, rfl, by omega, unpackGo_good xs [] o hg rfl, c2⟩
      · rw [if_neg c2]; exact .inl rfl
    · rw [if_neg c1]; exact .inl rfl
def yOk (l : List S74) : Prop := ∀ p ∈ l, uOk p.f3
theorem goodU_of {p : S80} (h : uOk p.f3) : goodU p = true := by
  unfold goodU
  rw [decide_eq_true h.1.1, decide_eq_true h.1.2]; rfl
theorem j1_ok (y : List S74) (hy : yOk y) (hl : y.length ≤ 1000) : Ev (fun k => skymosaiclaw36_ProvForms.j1 k y) true := by
  obtain ⟨z, hz⟩ : ∃ z, y.map unconv = z := ⟨_, rfl⟩
  have hzy : z.map conv = y := by rw [← hz]; exact conv_back y
  have hzl : z.length = y.length := by rw [← hz, List.length_map]
  have hzu : ∀ p ∈ z, uOk p.f3 := by
    intro p hp
    rw [← hz] at hp
    obtain ⟨q, hq, rfl⟩ := List.mem_map.1 hp
    exact hy q hq
  have hgood : z.all goodU = true := List.all_eq_true.2 fun p hp => goodU_of (hzu p hp)
  have ho := own_ends y (by omega)
  rw [hz] at ho
  have hr := ref_unpack z (by omega)
  rw [hzy] at hr
  have hj2 : ∀ b, b = false → Ev (fun k => skymosaiclaw36_ProvForms.j2 k y (unpackF z).2 (encF z).1 b) true := by
    rintro b rfl
    rcases unpackF_ok z with h | ⟨o, h, h256, hv, hpk⟩
    · have he : encF z = ([], 2) := by unfold encF; rw [h]; rfl
      rw [h, he]
      refine Ev.step (f := fun k => (skymosaiclaw36_lives.f k).bind fun t431 => (some t431)) (fun k => rfl) (Ev.bind lives_ends (Ev.now _))
    · have he : encF z = (encB z, 0) := by unfold encF; rw [h]; rfl
      rw [h, he]
      have hwf : ∀ p ∈ z, wfP p := by
        intro p hp
        have hp2 := hp
        rw [← hpk] at hp2
        exact pack_wf o h256 hv p hp2 (hzu p hp)
      have henc := renc_ends z (by omega) hwf
      rw [hzy] at henc
      have hbl : (encB z).length ≤ 1000000 := by
        unfold encB
        have h1 := intB_len (z.length : Int)
        have h2 := pieces_len z
        rw [List.length_append]; omega
      refine Ev.step (f := fun k => (skymosaicref36_Encode.f k y).bind fun t426 => ((skymosaicref01_SameBytes.f k (encB z) t426).bind fun t429 => (if t429 = true then ((skymosaiclaw36_lives.f k).bind fun t430 => (some t430)) else (some false)))) (fun k => rfl) ?_
      · refine Ev.bind henc (Ev.bind (samebytes_ends _ hbl) ?_)
        refine Ev.congr (f := fun k => (skymosaiclaw36_lives.f k).bind fun t430 => (some t430)) (fun k => ?_) (Ev.bind lives_ends (Ev.now _))
        rw [if_pos rfl]
  have hlen : (unpackF z).1.length ≤ 1000000 := by
    rcases unpackF_ok z with h | ⟨o, h, h256, _⟩
    · rw [h]; simp
    · rw [h]; show o.length ≤ _; omega
  have he2 : (encF z).2 = (unpackF z).2 := by
    unfold encF
    split
    · rename_i h; rw [h]
    · rfl
  refine Ev.step (f := fun k => (skymosaiclaw36_own.f k y).bind fun t407 => ((prov_Unpack.f t407).bind fun bt410 => ((skymosaicref36_Unpack.f k y).bind fun bt414 => ((skymosaiclaw36_own.f k y).bind fun t418 => ((prov_Encode.f t418).bind fun bt421 => (if bt410.2 = bt414.2 then (if bt421.2 = bt414.2 then ((skymosaiclaw36_same.f k bt410.1 bt414.1).bind fun t425 => (skymosaiclaw36_ProvForms.j2 k y bt414.2 bt421.1 (!t425))) else (skymosaiclaw36_ProvForms.j2 k y bt414.2 bt421.1 true)) else (skymosaiclaw36_ProvForms.j2 k y bt414.2 bt421.1 true))))))) (fun k => rfl) ?_
  refine Ev.bind ho ?_
  refine Ev.congr (f := fun k => (skymosaicref36_Unpack.f k y).bind fun bt414 => ((skymosaiclaw36_own.f k y).bind fun t418 => ((prov_Encode.f t418).bind fun bt421 => (if (unpackF z).2 = bt414.2 then (if bt421.2 = bt414.2 then ((skymosaiclaw36_same.f k (unpackF z).1 bt414.1).bind fun t425 => (skymosaiclaw36_ProvForms.j2 k y bt414.2 bt421.1 (!t425))) else (skymosaiclaw36_ProvForms.j2 k y bt414.2 bt421.1 true)) else (skymosaiclaw36_ProvForms.j2 k y bt414.2 bt421.1 true))))) (fun k => rfl) ?_
  refine Ev.bind hr (Ev.bind ho ?_)
  refine Ev.congr (f := fun k => (skymosaiclaw36_same.f k (unpackF z).1 (unpackF z).1).bind fun t425 => (skymosaiclaw36_ProvForms.j2 k y (unpackF z).2 (encF z).1 (!t425))) (fun k => ?_) ?_
  · unfold prov_Encode.f
    rw [if_pos hgood]
    simp only [Option.bind_some]
    rw [if_pos trivial, if_pos he2]
  · exact Ev.bind (same71_ends _ hlen) (hj2 _ rfl)
theorem rd74_mem (l : List S74) (i : Int) (h0 : 0 ≤ i) (h : i < l.length) : rd_T74 l i ∈ l := by
  rw [rd74_get l i h0 h]
  exact List.getElem_mem _
theorem set_ok {l : List S74} (h : yOk l) (n : Nat) {p : S74} (hp : uOk p.f3) : yOk (l.set n p) := by
  intro q hq
  rcases List.mem_or_eq_of_mem_set hq with hq | rfl
  · exact h q hq
  · exact hp
theorem bent_ok {l : List S74} (h : yOk l) (i c v : Int) (h0 : 0 ≤ i) (h1 : i < l.length) (hv : isI v) : yOk (bentF l i c v) ∧ (bentF l i c v).length ≤ l.length + 1 ∧ l.length ≤ (bentF l i c v).length + 1 := by
  have hp := h _ (rd74_mem l i h0 h1)
  unfold bentF
  split
  · exact ⟨set_ok h _ hp, by simp, by simp⟩
  split
  · exact ⟨set_ok h _ hp, by simp, by simp⟩
  split
  · exact ⟨set_ok h _ hp, by simp, by simp⟩
  split
  · exact ⟨set_ok h _ ⟨hp.1, hv⟩, by simp, by simp⟩
  split
  · exact ⟨set_ok h _ hp, by simp, by simp⟩
  split
  · exact ⟨set_ok h _ ⟨u64_ok v, hp.2⟩, by simp, by simp⟩
  split
  · exact ⟨set_ok h _ hp, by simp, by simp⟩
  split
  · exact ⟨set_ok h _ hp, by simp, by simp⟩
  split
  · refine ⟨fun q hq => ?_, by rw [List.length_append, List.length_take, List.length_drop]; omega, by rw [List.length_append, List.length_take, List.length_drop]; omega⟩
    rcases List.mem_append.1 hq with hq | hq
    · exact h q (List.mem_of_mem_take hq)
    · exact h q (List.mem_of_mem_drop hq)
  · refine ⟨fun q hq => ?_, by simp, by simp; omega⟩
    rcases List.mem_append.1 hq with hq | hq
    · exact h q hq
    · obtain rfl := List.mem_singleton.1 hq
      exact hp
theorem wfW2 (a : Int) : (Lit.int .i64 (wrap64 a)).wf = true := by
  have h := w64_ok a
  generalize wrap64 a = b at h
  simp [Lit.wf, IntKind.min, IntKind.max, IntKind.bits, IntKind.signed]
  omega
theorem bent_some (l : List S74) (hl : 0 < l.length) (hl2 : l.length ≤ 1000) (a1 a2 v : Int) (w1 : (Lit.int .i64 a1).wf = true) (w2 : (Lit.int .i64 a2).wf = true) (hv : isI v) (hy : yOk l) :
    ∃ r, ref36_Bent.f l a1 a2 v = some r ∧ yOk r ∧ r.length ≤ l.length + 1 := by
  obtain ⟨i, hi, i0, i1⟩ := around_some a1 (l.length : Int) w1 (by omega) (by omega)
  obtain ⟨c, hc, c0, c1⟩ := around_some a2 10 w2 (by omega) (by omega)
  have hb := bent_ok hy i c v i0 (by omega) hv
  refine ⟨bentF l i c v, ?_, hb.1, hb.2.1⟩
  unfold ref36_Bent.f
  rw [hi, hc]
  simp only [Option.bind_some]
  rw [if_pos ⟨by omega, i0, by omega⟩]
theorem ProvForms : skymosaiclaw36_ProvForms.Pure := by
  intro l0 a1 a2 a3 a4 hm hb hw w1 w2 w3
  obtain ⟨s, hs, hok⟩ := sources_ends l0 (by omega) hw
  have hu := sources_params hs
  have hp : packF s = (packL s, 0) := by unfold packF; rw [if_pos hok.1, hok.2]; rfl
  have hlen : (packL s).length ≤ 256 := by have := packF_len s; rw [hp] at this; exact this
  have hne : 0 < (packL s).length := by
    have h1 := (unpack_back s (by rw [hp])).1
    rw [hp] at h1
    cases hl : packL s with
    | nil => rw [hl] at h1; simp [unpackF, unpackGo] at h1
    | cons x l => simp
  have hr := ref_pack s
  rw [hp] at hr
  obtain ⟨x, hx⟩ : ∃ x, (packL s).map conv = x := ⟨_, rfl⟩
  have hxl : x.length = (packL s).length := by rw [← hx, List.length_map]
  have hxy : yOk x := by
    intro p hq
    rw [← hx] at hq
    obtain ⟨q, hq2, rfl⟩ := List.mem_map.1 hq
    exact hu _ (pack_first s hok.1 q hq2)
  have hv : isI a3 := wfI w3
  obtain ⟨y, hy, hyo, hyl⟩ := bent_some x (by omega) (by omega) a1 a2 a3 w1 w2 hv hxy
  refine Ev.rounds ?_
  refine Ev.bind hs (Ev.bind hr ?_)
  simp only [hx]
  have hj : ∀ b, (b = true → 0 < y.length) → Ev (fun k => skymosaiclaw36_ProvForms.j0 k a1 a2 a3 y b) true := by
    intro b hbl
    cases b with
    | false => exact Ev.step (f := fun k => skymosaiclaw36_ProvForms.j1 k y) (fun k => rfl) (j1_ok y hyo (by omega))
    | true =>
      obtain ⟨y2, hy2, hyo2, hyl2⟩ := bent_some y (hbl rfl) (by omega) (wrap64 (Int.tdiv a1 3)) (wrap64 (Int.tdiv a2 10)) a3 (wfW2 _) (wfW2 _) hv hyo
      refine Ev.step (f := fun k => skymosaiclaw36_ProvForms.j1 k y2) (fun k => ?_) (j1_ok y2 hyo2 (by omega))
      show (ref36_Bent.f y (wrap64 (Int.tdiv a1 3)) (wrap64 (Int.tdiv a2 10)) a3).bind _ = _
      rw [hy2]; rfl
  cases a4 with
  | true =>
    refine Ev.congr (f := fun k => skymosaiclaw36_ProvForms.j0 k a1 a2 a3 y (decide ((y.length : Int) > 0))) (fun k => ?_) (hj _ (fun h => by have := of_decide_eq_true h; omega))
    rw [hy]; rfl
  | false =>
    refine Ev.congr (f := fun k => skymosaiclaw36_ProvForms.j0 k a1 a2 a3 y false) (fun k => ?_) (hj _ (fun h => by cases h))
    rw [hy]; rfl
end Go.Proofs.Ytgmbjgddelcceaa.Pure
