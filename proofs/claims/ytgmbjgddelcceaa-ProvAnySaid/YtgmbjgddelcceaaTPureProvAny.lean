import Derived.Test.YtgmbjgddelcceaaTPx22
import Derived.Test.YtgmbjgddelcceaaTPlainI
import Derived.Test.YtgmbjgddelcceaaTPureProvForms
import Derived.Test.YtgmbjgddelcceaaTPureProvPacks
set_option linter.unusedVariables false
set_option linter.unusedSimpArgs false
namespace Go.Proofs.Ytgmbjgddelcceaa.Pure
open Go.RowKit Go.Proofs.Ytgmbjgddelcceaa.P Go.Proofs.YtgmbjgddelcceaaW.PrintWords Go.Proofs.YtgmbjgddelcceaaW.PrintLast
theorem wrap_tf (n t f : Int) : wrap64 (wrap64 (n + t) - f) = wrap64 (n + wrap64 (t - f)) := by unfold wrap64; omega
theorem rd_unconv (y : List S74) (i : Int) (h0 : 0 ≤ i) (h : i < y.length) : rd_T80 (y.map unconv) i = unconv (rd_T74 y i) := by
  rw [rd80_get _ i h0 (by simpa using h), rd74_get y i h0 h]
  simp
/-- The law, for whatever pieces of machine numbers. -/
theorem any_ok (y : List S74) (hy : yOk y) (hl : y.length ≤ 1000) : Ev (fun k => skymosaiclaw36_ProvAny.l0 k y (scenesF (y.map unconv)) ([] : List Int) 0) true := by
  obtain ⟨z, hz⟩ : ∃ z, y.map unconv = z := ⟨_, rfl⟩
  have hzl : z.length = y.length := by rw [← hz, List.length_map]
  rw [hz]
  have hzi : ∀ i, 0 ≤ i → i < (y.length : Int) → rd_T80 z i = unconv (rd_T74 y i) := by
    intro i h0 h
    rw [← hz]; exact rd_unconv y i h0 h
  obtain ⟨s, hsd⟩ : ∃ s, scenesF z = s := ⟨_, rfl⟩
  have hsl : s.length = (uniqS z).length := by rw [← hsd]; exact scenesF_len z
  have hul : ∀ (l acc : List Int), (l.foldl addI acc).length ≤ acc.length + l.length := by
    intro l
    induction l with
    | nil => intro acc; simp
    | cons a l ih =>
      intro acc
      have := ih (addI acc a)
      have h2 : (addI acc a).length ≤ acc.length + 1 := by
        unfold addI
        split
        · omega
        · split
          · omega
          · simp
      simp only [List.foldl_cons, List.length_cons]
      omega
  have hub : ∀ l : List Int, (uniqI l).length ≤ l.length := by intro l; simpa [uniqI] using hul l []
  have hwl : (uniqS z).length ≤ 1000 := by have := hub (z.map scOf); rw [List.length_map] at this; unfold uniqS; omega
  have hmem : ∀ i, 0 ≤ i → i < (s.length : Int) → rd s i ∈ uniqS z := by
    intro i h0 h
    have := rdI_mem s i h0 h
    rw [← hsd] at this
    rw [← hsd]
    exact List.mem_mergeSort.1 this
  have hstrict : ∀ i, 0 < i → i < (s.length : Int) → rd s (i - 1) < rd s i := by
    intro i h0 h
    rw [← hsd]
    exact scenesF_strict _ i h0 (by rw [hsd]; exact h)
  have hown := own_ends y (by omega)
  rw [hz] at hown
  rw [hsd]
  -- the loop over the scenes
  have hl1 : ∀ (d : Nat) (i : Int), (s.length : Int) - i = d → 0 ≤ i → Ev (fun k => skymosaiclaw36_ProvAny.l1 k y s (uniqS z) i) true := by
    intro d
    induction d with
    | zero =>
      intro i hd h0
      refine Ev.step (f := fun k => (skymosaiclaw36_lives.f k).bind fun t => (some t)) (fun k => ?_) (Ev.bind lives_ends (Ev.now _))
      conv => lhs; unfold skymosaiclaw36_ProvAny.l1
      rw [if_neg (by omega)]
    | succ d ih =>
      intro i hd h0
      have hnext := ih (i + 1) (by omega) (by omega)
      have hi : i < (s.length : Int) := by omega
      have hl2 : ∀ (e : Nat) (j n : Int), (y.length : Int) - j = e → 0 ≤ j → (z.drop j.toNat).foldl (stepC (rd s i)) n = countF z (rd s i) → Ev (fun k => skymosaiclaw36_ProvAny.l2 k y s (uniqS z) i n j) true := by
        intro e
        induction e with
        | zero =>
          intro j n hj j0 hn
          rw [List.drop_of_length_le (by omega)] at hn
          have hn : n = countF z (rd s i) := hn
          refine Ev.step (f := fun k => (skymosaicref01_Has.f k (uniqS z) (rd s i)).bind fun t629 => (if t629 = true then ((skymosaiclaw36_own.f k y).bind fun t630 => ((prov_Count.f k t630 (rd s i)).bind fun t634 => (if t634 = n then (if i > 0 then (if 0 ≤ (wrap64 (i - 1)) then (if (wrap64 (i - 1)) < (s.length : Int) then (if (rd s i) ≤ (rd s (wrap64 (i - 1))) then (some false) else (skymosaiclaw36_ProvAny.l1 k y s (uniqS z) (wrap64 (i + 1)))) else (none)) else (none)) else (skymosaiclaw36_ProvAny.l1 k y s (uniqS z) (wrap64 (i + 1)))) else (some false)))) else (some false))) (fun k => ?_) ?_
          · conv => lhs; unfold skymosaiclaw36_ProvAny.l2
            rw [if_neg (by omega), if_pos h0, if_pos hi]
          · refine Ev.bind (has_ends (uniqS z) (by omega) (rd s i)) ?_
            refine Ev.congr (f := fun k => (skymosaiclaw36_own.f k y).bind fun t630 => ((prov_Count.f k t630 (rd s i)).bind fun t634 => (if t634 = n then (if i > 0 then (if 0 ≤ (wrap64 (i - 1)) then (if (wrap64 (i - 1)) < (s.length : Int) then (if (rd s i) ≤ (rd s (wrap64 (i - 1))) then (some false) else (skymosaiclaw36_ProvAny.l1 k y s (uniqS z) (wrap64 (i + 1)))) else (none)) else (none)) else (skymosaiclaw36_ProvAny.l1 k y s (uniqS z) (wrap64 (i + 1)))) else (some false)))) (fun k => ?_) ?_
            · rw [if_pos (decide_eq_true (hmem i h0 hi))]
            · refine Ev.bind hown (Ev.bind (count_ends z (by omega) (rd s i)) ?_)
              refine Ev.congr (fun k => ?_) hnext
              rw [if_pos hn.symm, w64 (x := i + 1) (by omega)]
              by_cases hp : i > 0
              · have hst := hstrict i hp hi
                rw [if_pos hp, w64 (x := i - 1) (by omega), if_pos (by omega), if_pos (by omega), if_neg (by omega)]
              · rw [if_neg hp]
        | succ e ih2 =>
          intro j n hj j0 hn
          rw [drop_succ80 z j j0 (by omega), List.foldl_cons, hzi j j0 (by omega)] at hn
          have h2 := ih2 (j + 1) _ (by omega) (by omega) hn
          refine Ev.step (fun k => ?_) h2
          conv => lhs; unfold skymosaiclaw36_ProvAny.l2
          rw [if_pos (by omega), if_pos j0, if_pos h0, if_pos hi, w64 (x := j + 1) (by omega)]
          unfold stepC
          show (if (rd_T74 y j).f3.f0 = rd s i then _ else _) = skymosaiclaw36_ProvAny.l2 k y s (uniqS z) i (if (rd_T74 y j).f3.f0 = rd s i then wrap64 (n + wrap64 ((rd_T74 y j).f2 - (rd_T74 y j).f1)) else n) (j + 1)
          by_cases h : (rd_T74 y j).f3.f0 = rd s i
          · rw [if_pos h, if_pos h, wrap_tf]
          · rw [if_neg h, if_neg h]
      refine Ev.step (fun k => ?_) (hl2 y.length 0 0 (by omega) (by omega) rfl)
      conv => lhs; unfold skymosaiclaw36_ProvAny.l1
      rw [if_pos hi]
  -- the loop that collects the scenes
  have hl0 : ∀ (d : Nat) (i : Int), (y.length : Int) - i = d → 0 ≤ i → Ev (fun k => skymosaiclaw36_ProvAny.l0 k y s (uniqI ((z.take i.toNat).map scOf)) i) true := by
    intro d
    induction d with
    | zero =>
      intro i hd h0
      rw [List.take_of_length_le (by omega)]
      refine Ev.step (fun k => ?_) (hl1 s.length 0 (by omega) (by omega))
      conv => lhs; unfold skymosaiclaw36_ProvAny.l0
      rw [if_neg (by omega)]
      show (if (s.length : Int) = ((uniqS z).length : Int) then skymosaiclaw36_ProvAny.l1 k y s (uniqS z) 0 else some false) = _
      rw [if_pos (by omega)]
    | succ d ih =>
      intro i hd h0
      have hnext := ih (i + 1) (by omega) (by omega)
      have e : z.take (i + 1).toNat = z.take i.toNat ++ [rd_T80 z i] := by
        rw [show (i + 1).toNat = i.toNat + 1 from by omega, List.take_succ_eq_append_getElem (by omega), rd80_get z i h0 (by omega)]
      rw [e, List.map_append, List.map_cons, List.map_nil, uniqI_snoc, hzi i h0 (by omega)] at hnext
      obtain ⟨u, hu⟩ : ∃ u, uniqI ((z.take i.toNat).map scOf) = u := ⟨_, rfl⟩
      have hulen : u.length ≤ 1000 := by
        have := hub ((z.take i.toNat).map scOf)
        rw [List.length_map, List.length_take, hu] at this
        omega
      rw [hu] at hnext ⊢
      have hsc : scOf (unconv (rd_T74 y i)) = (rd_T74 y i).f3.f0 := rfl
      rw [hsc] at hnext
      by_cases h1 : (rd_T74 y i).f3.f0 = -1
      · refine Ev.step (fun k => ?_) hnext
        conv => lhs; unfold skymosaiclaw36_ProvAny.l0
        rw [if_pos (by omega), if_pos h0, if_pos h1, w64 (x := i + 1) (by omega)]
        unfold addI
        rw [if_pos h1]
      · refine Ev.step (f := fun k => (skymosaicref01_Has.f k u ((rd_T74 y i).f3.f0)).bind fun t619 => (if t619 = true then (skymosaiclaw36_ProvAny.l0 k y s u (i + 1)) else (if u.length < 17592186044416 then (skymosaiclaw36_ProvAny.l0 k y s (u ++ [(rd_T74 y i).f3.f0]) (i + 1)) else (none)))) (fun k => ?_) ?_
        · conv => lhs; unfold skymosaiclaw36_ProvAny.l0
          rw [if_pos (by omega), if_pos h0, if_neg h1, w64 (x := i + 1) (by omega)]
        · refine Ev.bind (has_ends u (by omega) _) ?_
          refine Ev.congr (fun k => ?_) hnext
          unfold addI
          rw [if_neg h1]
          by_cases h2 : (rd_T74 y i).f3.f0 ∈ u
          · rw [if_pos (decide_eq_true h2), if_pos h2]
          · rw [if_neg (by simpa using h2), if_neg h2, if_pos (by omega)]
  have := hl0 y.length 0 (by omega) (by omega)
  simpa [uniqI] using this
theorem ProvAny : skymosaiclaw36_ProvAny.Pure := by
  intro l0 a1 a2 a3 hm hb hw w1 w2 w3
  obtain ⟨s, hs, hok⟩ := sources_ends l0 (by omega) hw
  have hu := sources_params hs
  have hp : packF s = (packL s, 0) := by unfold packF; rw [if_pos hok.1, hok.2]; rfl
  obtain ⟨hP1, hP2, hP3, hP4⟩ := pack_facts s hok.1 hok.2
  have hr := ref_pack s
  rw [hp] at hr
  obtain ⟨x, hx⟩ : ∃ x, (packL s).map conv = x := ⟨_, rfl⟩
  have hxl : x.length = (packL s).length := by rw [← hx, List.length_map]
  have hxy : yOk x := by
    intro p hq
    rw [← hx] at hq
    obtain ⟨q, hq2, rfl⟩ := List.mem_map.1 hq
    exact hu _ (pack_first s hok.1 q hq2)
  obtain ⟨v, hv, v0, v1⟩ := around_some a3 1048576 w3 (by omega) (by omega)
  obtain ⟨y, hy, hyo, hyl⟩ := bent_some x (by omega) (by omega) a1 a2 (wrap64 (v - 5)) w1 w2 (w64_ok _) hxy
  refine Ev.rounds ?_
  refine Ev.bind hs (Ev.bind hr ?_)
  simp only [hx]
  refine Ev.congr (f := fun k => (skymosaiclaw36_own.f k y).bind fun t612 => ((prov_Scenes.f t612).bind fun t615 => (skymosaiclaw36_ProvAny.l0 k y t615 ([] : List Int) 0))) (fun k => ?_) ?_
  · rw [hv]
    simp only [Option.bind_some]
    rw [hy]; rfl
  · refine Ev.bind (own_ends y (by omega)) ?_
    refine Ev.congr (fun k => ?_) (any_ok y hyo (by omega))
    rw [scenes_some (y.map unconv) (by rw [List.length_map]; omega) ?_]
    · rfl
    · intro p hp2
      obtain ⟨q, hq, rfl⟩ := List.mem_map.1 hp2
      exact hyo q hq
end Go.Proofs.Ytgmbjgddelcceaa.Pure
