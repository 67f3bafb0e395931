import Derived.Test.YtgmbjgddelcceaaSPx21
import Derived.Test.YtgmbjgddelcceaaSPlainI
import Derived.Test.YtgmbjgddelcceaaSPureProvPacks
set_option linter.unusedVariables false
set_option linter.unusedSimpArgs false
namespace Go.Proofs.Ytgmbjgddelcceaa.Pure
open Go.RowKit Go.Proofs.Ytgmbjgddelcceaa.P Go.Proofs.YtgmbjgddelcceaaW.PrintWords Go.Proofs.YtgmbjgddelcceaaW.PrintLast
theorem cnt_step (x : List S71) (i : Int) (h0 : 0 ≤ i) (h : i < x.length) (sc : Int) : cnt (x.take (i + 1).toNat) sc = cnt (x.take i.toNat) sc + if (rd_T71 x i).f0 = sc then 1 else 0 := by
  have e : x.take (i + 1).toNat = x.take i.toNat ++ [rd_T71 x i] := by
    rw [show (i + 1).toNat = i.toNat + 1 from by omega, List.take_succ_eq_append_getElem (by omega), rd_get x i h0 h]
  rw [e, cnt_app]
  simp only [cnt]; omega
theorem sum_take (f : Int → Int) (s : List Int) (i : Int) (h0 : 0 ≤ i) (h : i < s.length) : sumL ((s.take (i + 1).toNat).map f) = sumL ((s.take i.toNat).map f) + f (rd s i) := by
  have e : s.take (i + 1).toNat = s.take i.toNat ++ [rd s i] := by
    rw [show (i + 1).toNat = i.toNat + 1 from by omega, List.take_succ_eq_append_getElem (by omega), rdI_get s i h0 h]
  have app : ∀ a b : List Int, sumL (a ++ b) = sumL a + sumL b := by
    intro a b
    induction a with
    | nil => simp [sumL]
    | cons x a ih => simp only [List.cons_append, sumL, ih]; omega
  rw [e, List.map_append, app]
  simp [sumL]
theorem sum_bound (x : List S71) : ∀ s : List Int, 0 ≤ sumL (s.map (cnt x)) ∧ sumL (s.map (cnt x)) ≤ s.length * x.length
  | [] => by simp [sumL]
  | a :: s => by
    have h1 := cnt_le x a
    have h2 := sum_bound x s
    simp only [List.map_cons, sumL, List.length_cons]
    have : ((s.length + 1 : Nat) : Int) * x.length = s.length * x.length + x.length := by
      rw [Int.natCast_add, Int.add_mul]; simp
    omega
theorem ProvCounts : skymosaiclaw36_ProvCounts.Pure := by
  intro l0 a1 hm hb hw w1
  obtain ⟨x, hs, hok⟩ := sources_ends l0 (by omega) hw
  have hu := sources_params hs
  have hp : packF x = (packL x, 0) := by unfold packF; rw [if_pos hok.1, hok.2]; rfl
  obtain ⟨hP1, hP2, hP3, hP4⟩ := pack_facts x hok.1 hok.2
  have hsc := scenes_some (packL x) (by omega) (fun p hq => hu _ (pack_first x hok.1 p hq))
  obtain ⟨hS1, hS2⟩ := pack_scenes x hok.1 hok.2
  have hT := total x hok.1 hok.2
  have hcount : ∀ sc, Ev (fun k => prov_Count.f k (packL x) sc) (cnt x sc) := by
    intro sc
    have := count_ends (packL x) (by omega) sc
    rw [count_pack x hok.1 hok.2] at this
    exact this
  obtain ⟨s, hsd⟩ : ∃ s, scenesF (packL x) = s := ⟨_, rfl⟩
  have hsl : s.length ≤ 256 := by
    rw [← hsd, scenesF_len]
    have h1 : (uniqS (packL x)).length ≤ ((packL x).map scOf).length := by
      have : ∀ (l acc : List Int), (l.foldl addI acc).length ≤ acc.length + l.length := by
        intro l
        induction l with
        | nil => intro acc; simp
        | cons a l ih =>
          intro acc
          have := ih (addI acc a)
          have h2 : (addI acc a).length ≤ acc.length + 1 := by
            unfold addI
            split
            · omega
            · split
              · omega
              · simp
          simp only [List.foldl_cons, List.length_cons]
          omega
      have := this ((packL x).map scOf) []
      simpa [uniqS, uniqI] using this
    rw [List.length_map] at h1
    omega
  have hstrict : ∀ i, 0 < i → i < (s.length : Int) → rd s (i - 1) < rd s i := by
    intro i h0 h
    rw [← hsd]
    exact scenesF_strict _ i h0 (by rw [hsd]; exact h)
  rw [hsd] at hS1 hS2 hT hsc
  have hxl : x.length = 256 := hok.1
  refine Ev.rounds ?_
  -- the law's end
  have hend : Ev (fun k => skymosaiclaw36_ProvCounts.j3 k a1 256 false) true := by
    refine Ev.step (f := fun k => (prov_Count.f k ([] : List S80) a1).bind fun t => (if t = 0 then ((skymosaiclaw36_lives.f k).bind fun u => (some u)) else (some false))) (fun k => ?_) ?_
    · have hS0 : prov_Scenes.f ([] : List S80) = some [] := by
        unfold prov_Scenes.f
        rw [if_pos ⟨by simp, by simp⟩]
        simp [scenesF, uniqS, uniqI]
      show (if false = true then some false else if (256 : Int) = 256 then ((prov_Scenes.f ([] : List S80)).bind fun t596 => (if (t596.length : Int) = 0 then ((prov_Count.f k ([] : List S80) a1).bind fun t599 => (if t599 = 0 then ((skymosaiclaw36_lives.f k).bind fun t600 => (some t600)) else (some false))) else (some false))) else some false) = _
      rw [if_neg (by simp), if_pos rfl, hS0]
      rfl
    · refine Ev.bind (count_ends [] (by simp) a1) ?_
      refine Ev.congr (f := fun k => (skymosaiclaw36_lives.f k).bind fun u => (some u)) (fun k => ?_) (Ev.bind lives_ends (Ev.now _))
      rw [if_pos (show countF [] a1 = 0 from rfl)]
  -- the loop over the scenes
  have hl0 : ∀ (d : Nat) (i : Int), (s.length : Int) - i = d → 0 ≤ i → Ev (fun k => skymosaiclaw36_ProvCounts.l0 k a1 x (packL x) s (cnt x (-1) + sumL ((s.take i.toNat).map (cnt x))) i) true := by
    intro d
    induction d with
    | zero =>
      intro i hd h0
      rw [List.take_of_length_le (by omega), Int.add_comm, hT]
      refine Ev.step (f := fun k => (skymosaicref01_Has.f k s a1).bind fun t594 => (if t594 = true then (skymosaiclaw36_ProvCounts.j3 k a1 256 false) else (if a1 = (-1) then (skymosaiclaw36_ProvCounts.j3 k a1 256 false) else ((prov_Count.f k (packL x) a1).bind fun t595 => (skymosaiclaw36_ProvCounts.j3 k a1 256 (t595 != 0)))))) (fun k => ?_) ?_
      · conv => lhs; unfold skymosaiclaw36_ProvCounts.l0
        rw [if_neg (by omega)]
      · refine Ev.bind (has_ends s (by omega) a1) ?_
        by_cases hh : a1 ∈ s
        · refine Ev.congr (fun k => ?_) hend
          rw [if_pos (decide_eq_true hh)]
        · by_cases h1 : a1 = -1
          · refine Ev.congr (fun k => ?_) hend
            rw [if_neg (by simpa using hh), if_pos h1]
          · have hz : cnt x a1 = 0 := by
              have : ∀ ys : List S71, (∀ y ∈ ys, y.f0 = -1 ∨ y.f0 ∈ s) → cnt ys a1 = 0 := by
                intro ys
                induction ys with
                | nil => intro _; rfl
                | cons y ys ih =>
                  intro hy
                  simp only [cnt]
                  rw [ih (fun z hz => hy z (List.mem_cons_of_mem _ hz)), if_neg]
                  · rfl
                  · intro e
                    rcases hy y List.mem_cons_self with h | h
                    · exact h1 (e ▸ h)
                    · exact hh (e ▸ h)
              exact this x hS1
            refine Ev.congr (f := fun k => (prov_Count.f k (packL x) a1).bind fun t595 => (skymosaiclaw36_ProvCounts.j3 k a1 256 (t595 != 0))) (fun k => ?_) ?_
            · rw [if_neg (by simpa using hh), if_neg h1]
            · refine Ev.bind (hcount a1) ?_
              rw [hz]
              exact hend
    | succ d ih =>
      intro i hd h0
      have hnext := ih (i + 1) (by omega) (by omega)
      have hilt : i < s.length := by omega
      rw [sum_take _ s i h0 hilt] at hnext
      have hsi := hS2 _ (rdI_mem s i h0 hilt)
      have hc := cnt_le x (rd s i)
      have hcm := cnt_le x (-1)
      have hsb := sum_bound x (s.take i.toNat)
      have hsm : cnt x (-1) + sumL ((s.take i.toNat).map (cnt x)) + cnt x (rd s i) ≤ 1000000 := by
        have h1 : ((s.take i.toNat).length : Int) ≤ 256 := by rw [List.length_take]; omega
        have h2 : ((s.take i.toNat).length : Int) * x.length ≤ 256 * 256 := by rw [hxl]; omega
        omega
      -- the loop over the pixels
      have hl1 : ∀ (e : Nat) (j : Int), 256 - j = e → 0 ≤ j → Ev (fun k => skymosaiclaw36_ProvCounts.l1 k a1 x (packL x) s (cnt x (-1) + sumL ((s.take i.toNat).map (cnt x))) i (cnt (x.take j.toNat) (rd s i)) j) true := by
        intro e
        induction e with
        | zero =>
          intro j hj j0
          rw [show x.take j.toNat = x from List.take_of_length_le (by omega)]
          refine Ev.step (f := fun k => (prov_Count.f k (packL x) (rd s i)).bind fun t591 => (if cnt x (rd s i) = t591 then (if i > 0 then (if 0 ≤ (wrap64 (i - 1)) then (if (wrap64 (i - 1)) < (s.length : Int) then (if (rd s i) ≤ (rd s (wrap64 (i - 1))) then (some false) else (skymosaiclaw36_ProvCounts.l0 k a1 x (packL x) s (wrap64 ((cnt x (-1) + sumL ((s.take i.toNat).map (cnt x))) + cnt x (rd s i))) (wrap64 (i + 1)))) else (none)) else (none)) else (skymosaiclaw36_ProvCounts.l0 k a1 x (packL x) s (wrap64 ((cnt x (-1) + sumL ((s.take i.toNat).map (cnt x))) + cnt x (rd s i))) (wrap64 (i + 1)))) else (some false))) (fun k => ?_) ?_
          · conv => lhs; unfold skymosaiclaw36_ProvCounts.l1
            rw [if_neg (by omega), if_pos h0, if_pos hilt, if_neg (by omega), if_neg (by omega)]
          · refine Ev.bind (hcount _) ?_
            refine Ev.congr (fun k => ?_) hnext
            rw [if_pos rfl, w64 (x := cnt x (-1) + sumL ((s.take i.toNat).map (cnt x)) + cnt x (rd s i)) (by omega), w64 (x := i + 1) (by omega), Int.add_assoc]
            by_cases hi : i > 0
            · have hst := hstrict i hi hilt
              rw [if_pos hi, w64 (x := i - 1) (by omega), if_pos (by omega), if_pos (by omega), if_neg (by omega)]
            · rw [if_neg hi]
        | succ e ih2 =>
          intro j hj j0
          have hn := ih2 (j + 1) (by omega) (by omega)
          rw [cnt_step x j j0 (by omega)] at hn
          have hcj := cnt_le (x.take j.toNat) (rd s i)
          have hcl : ((x.take j.toNat).length : Int) ≤ 256 := by rw [List.length_take]; omega
          refine Ev.step (fun k => ?_) hn
          conv => lhs; unfold skymosaiclaw36_ProvCounts.l1
          rw [if_pos (by omega), if_pos j0, if_pos (by omega), if_pos h0, if_pos hilt]
          by_cases h : (rd_T71 x j).f0 = rd s i
          · rw [if_pos h, if_pos h, w64 (x := cnt (x.take j.toNat) (rd s i) + 1) (by omega), w64 (x := j + 1) (by omega)]
          · rw [if_neg h, if_neg h, w64 (x := j + 1) (by omega), Int.add_zero]
      refine Ev.step (fun k => ?_) (hl1 256 0 (by omega) (by omega))
      conv => lhs; unfold skymosaiclaw36_ProvCounts.l0
      rw [if_pos hilt]
      rfl
  refine Ev.bind hs ?_
  refine Ev.congr (f := fun k => skymosaiclaw36_ProvCounts.j0 k a1 x (packL x) false) (fun k => ?_) ?_
  · rw [pack_some, hp]
    simp only [Option.bind_some]
    rw [if_pos trivial, if_neg (by omega), decide_eq_false (by omega)]
  · refine Ev.step (f := fun k => (prov_Count.f k (packL x) (-1)).bind fun t => skymosaiclaw36_ProvCounts.l0 k a1 x (packL x) s t 0) (fun k => ?_) ?_
    · show (if false = true then some false else ((prov_Scenes.f (packL x)).bind fun t583 => ((prov_Count.f k (packL x) (-1)).bind fun t586 => (skymosaiclaw36_ProvCounts.l0 k a1 x (packL x) t583 t586 0)))) = _
      rw [if_neg (by simp), hsc]
      rfl
    · refine Ev.bind (hcount (-1)) ?_
      have := hl0 s.length 0 (by omega) (by omega)
      simpa [sumL] using this
end Go.Proofs.Ytgmbjgddelcceaa.Pure
