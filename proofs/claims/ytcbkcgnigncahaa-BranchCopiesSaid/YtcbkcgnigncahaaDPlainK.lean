import Derived.Test.YtcbkcgnigncahaaDPlainJ
import Derived.Test.YtcbkcgnigncahaaDPx9
import Derived.Test.YtcbkcgnigncahaaDGivenS
namespace Go.Proofs.Ytcbkcgnigncahaa.P
open Go.RowKit Go.Maps Go.Proofs.YtcbkcgnigncahaaW.PrintWords Go.Proofs.YtcbkcgnigncahaaW.PrintLast
set_option linter.unusedVariables false
set_option linter.unusedSimpArgs false
theorem texts_loop (l : List ByteArray) (hl : l.length ≤ 1000000) : ∀ (d : Nat) (i : Int) (k : Nat), (l.length : Int) - i = d → 0 ≤ i → d < k → skymosaicref01_SameTexts.l0 k l l i = some true := by
  intro d
  induction d with
  | zero =>
    intro i k hd h0 hk
    obtain ⟨k, rfl⟩ : ∃ m, k = m + 1 := ⟨k - 1, by omega⟩
    simp only [skymosaicref01_SameTexts.l0]
    rw [if_neg (by omega)]
  | succ d ih =>
    intro i k hd h0 hk
    obtain ⟨k, rfl⟩ : ∃ m, k = m + 1 := ⟨k - 1, by omega⟩
    simp only [skymosaicref01_SameTexts.l0]
    rw [if_pos (by omega), if_pos h0, if_pos (by omega), if_pos trivial, w64 (by omega)]
    exact ih (i + 1) k (by omega) (by omega) (by omega)
theorem texts_same (l : List ByteArray) (hl : l.length ≤ 1000000) : skymosaicref01_SameTexts.f (l.length + 1) l l = some true := by
  unfold skymosaicref01_SameTexts.f
  rw [if_pos rfl]
  exact texts_loop l hl l.length 0 (l.length + 1) (by omega) (by omega) (by omega)
theorem same_f (x : S43) : skymosaiclaw31_same.f x.f0 x.f1 x.f2 x.f3 x.f4 x.f5 x.f6 x.f7 x.f0 x.f1 x.f2 x.f3 x.f4 x.f5 x.f6 x.f7 = some true := by
  unfold skymosaiclaw31_same.f
  simp
section
variable {s : Ln}
theorem rf_ok (h : Good s) : ∀ i : Int, 0 ≤ i → i < (rfOf s).V.length → (rd_T92 (rfOf s).V i).f1 < i := by
  intro i h0 h1
  rw [rf_len] at h1
  rw [rd_rf h0 h1]
  exact (h.par i h0 h1).2.1
/-- Where the times are in range, the head is what is read at times beyond all. -/
structure Good3 (s : Ln) : Prop extends Good2 s where
  times : ∀ i : Int, 0 ≤ i → i < s.V.length → (rd_T43 s.V i).f3 ≤ 1099511627776 ∧ (rd_T43 s.V i).f4 ≤ 1099511627776
theorem search_big (h : Good3 s) : ∀ (k : Nat) (i : Int), i < s.V.length → searchGo s (readP 4611686018427387904 4611686018427387904) k i = searchGo s (fun _ => true) k i
  | 0, _, _ => rfl
  | k + 1, i, hi => by
    simp only [searchGo]
    by_cases h0 : i < 0
    · rw [if_pos h0, if_pos h0]
    · rw [if_neg h0, if_neg h0]
      have ht := h.times i (by omega) hi
      have hp := h.par i (by omega) hi
      have : readP 4611686018427387904 4611686018427387904 (rd_T43 s.V i) = true := by
        unfold readP
        simp
        omega
      rw [this, search_big h k _ (by omega)]
theorem rhead_eq (h : Good3 s) (name : ByteArray) : rheadF (rfOf s) name = headF s name := by
  unfold rheadF
  rw [rread_eq h.toGood2]
  unfold headF readF
  have key : searchF s name (readP 4611686018427387904 4611686018427387904) = searchF s name (fun _ => true) := by
    unfold searchF
    by_cases hb : hasB s.D name = false
    · rw [if_pos hb, if_pos hb]
    · rw [if_neg hb, if_neg hb]
      have := h.first (by simpa using hb)
      rw [search_big h _ _ this.2]
  rw [key]
  by_cases hb : hasB s.D name = false
  · have e : searchF s name (fun _ => true) = (-1, 6) := by unfold searchF; rw [if_pos hb]
    rw [e]; rfl
  · have hb' : hasB s.D name = true := by simpa using hb
    have hf := h.first hb'
    have e : searchF s name (fun _ => true) = (searchGo s (fun _ => true) (s.V.length + 1) (firstF (lkp s.D name)), 0) := by unfold searchF; rw [if_neg hb]
    rw [e]
    rcases search_found h.toGood (fun _ => true) (s.V.length + 1) (firstF (lkp s.D name)) hf.2 with h' | h'
    · rw [h']; rfl
    · obtain ⟨v, hv⟩ : ∃ v, searchGo s (fun _ => true) (s.V.length + 1) (firstF (lkp s.D name)) = v := ⟨_, rfl⟩
      rw [hv] at h' ⊢
      have : ¬ v < 0 := by omega
      simp [this]
theorem Good3.do_ (h : Good3 s) (o : S38) : Good3 (doF s o).2.2 := by
  refine ⟨h.toGood2.do_ o, ?_⟩
  unfold doF
  split
  · unfold forkF
    split
    · exact h.times
    split
    · exact h.times
    split
    · exact h.times
    split
    · exact h.times
    split
    · exact h.times
    · exact h.times
  split
  · unfold closeF
    split
    · exact h.times
    rename_i h1
    have hx := exists_true (s := s) (id := o.f2) (by simpa using h1)
    split
    · exact h.times
    · intro i h0 hi
      simp only [List.length_set] at hi
      by_cases e : i = o.f2
      · subst e
        rw [rd_set_same _ _ _ h0 hi]
        exact h.times _ h0 hi
      · rw [rd_set_other _ _ _ _ hx.1 h0 e]
        exact h.times i h0 hi
  · unfold publishF
    split
    · exact h.times
    split
    · exact h.times
    rename_i h2
    split
    · exact h.times
    split
    · exact h.times
    · intro i h0 hi
      simp only [List.length_append, List.length_singleton] at hi
      by_cases hlt : i < s.V.length
      · rw [rd_append_left h0 hlt]
        exact h.times i h0 hlt
      · rw [rd_append_new _ _ _ (by omega)]
        have h2' : rangeB o.f3 o.f4 o.f5 = true := by simpa using h2
        unfold rangeB tickB at h2'
        simp only [Bool.and_eq_true, decide_eq_true_eq] at h2'
        exact ⟨h2'.1.2, h2'.2.1.2⟩
theorem good3_0 : Good3 Ln0 := ⟨good2_0, fun i h0 h1 => absurd h1 (by simp [Ln0]; omega)⟩
end
end Go.Proofs.Ytcbkcgnigncahaa.P
namespace Go.Proofs.Ytcbkcgnigncahaa.P
open Go.RowKit Go.Maps Go.Sort Go.Shelf Go.Proofs.YtcbkcgnigncahaaW.PrintWords Go.Proofs.YtcbkcgnigncahaaW.PrintLast
set_option linter.unusedVariables false
set_option linter.unusedSimpArgs false
theorem lt_of_before : ∀ {x y : List UInt8}, bytesBefore x y = true → x < y
  | [], [], h => by simp [bytesBefore] at h
  | [], _ :: _, _ => List.nil_lt_cons ..
  | _ :: _, [], h => by simp [bytesBefore] at h
  | a :: x, b :: y, h => by
    simp only [bytesBefore, Bool.or_eq_true, Bool.and_eq_true, decide_eq_true_eq, beq_iff_eq] at h
    rw [List.cons_lt_cons_iff]
    rcases h with h | ⟨h, h2⟩
    · exact .inl h
    · exact .inr ⟨h, lt_of_before h2⟩
theorem names_eq {s : Ln} (h : Good2 s) : branchesF s = (rfOf s).B.map (·.f0) := by
  obtain ⟨es, he, hp⟩ := h.ris
  obtain ⟨es', he', hk⟩ := h.keyed
  rw [he] at he'
  injection he' with he'
  subst he'
  have hs := keyed_all hk
  unfold branchesF rfOf
  simp only
  rw [he]
  have hst : (es.map (fun p => Go.strOf p.1)).Pairwise (fun a b => leB a b = true) := by
    rw [List.pairwise_map]
    refine hp.imp_of_mem (fun {p q} hpm hqm hb => ?_)
    have h1 := hs p hpm
    have h2 := hs q hqm
    obtain ⟨a, a'⟩ := p
    obtain ⟨b, b'⟩ := q
    cases a with
    | string x =>
      cases b with
      | string y =>
        have hlt : x < y := lt_of_before hb
        exact decide_eq_true (List.le_of_lt hlt)
      | _ => simp [isStr] at h2
    | _ => simp [isStr] at h1
  have hms : (es.map (fun p => Go.strOf p.1)).mergeSort leB = es.map (fun p => Go.strOf p.1) := by
    refine List.Perm.eq_of_pairwise (le := fun a b => leB a b = true) ?_ (List.pairwise_mergeSort ?_ ?_ _) hst (List.mergeSort_perm _ _)
    · intro a b _ _ h1 h2
      exact List.le_antisymm (of_decide_eq_true h1) (of_decide_eq_true h2)
    · intro a b c h1 h2
      exact decide_eq_true (List.le_trans (of_decide_eq_true h1) (of_decide_eq_true h2))
    · intro a b
      rcases List.le_total a b with h | h
      · simp [leB, h]
      · simp [leB, h]
  show ((es.map (fun p => Go.strOf p.1)).mergeSort leB).map _ = (es.map toB).map _
  rw [hms, List.map_map, List.map_map]
  rfl
end Go.Proofs.Ytcbkcgnigncahaa.P
