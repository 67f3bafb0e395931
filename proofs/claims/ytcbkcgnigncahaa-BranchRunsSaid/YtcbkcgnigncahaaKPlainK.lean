import Derived.Test.YtcbkcgnigncahaaKPlainJ
import Derived.Test.YtcbkcgnigncahaaKPx9
import Derived.Test.YtcbkcgnigncahaaKGivenS
namespace Go.Proofs.Ytcbkcgnigncahaa.P
open Go.RowKit Go.Maps Go.Proofs.YtcbkcgnigncahaaW.PrintWords Go.Proofs.YtcbkcgnigncahaaW.PrintLast
set_option linter.unusedVariables false
set_option linter.unusedSimpArgs false
theorem has_loop (l : List Int) (n : Int) (hl : l.length ≤ 1000000) : ∀ (d : Nat) (i : Int) (k : Nat), (l.length : Int) - i = d → 0 ≤ i → d < k → skymosaicref01_Has.l0 k l n i = some ((l.drop i.toNat).contains n) := by
  intro d
  induction d with
  | zero =>
    intro i k hd h0 hk
    obtain ⟨k, rfl⟩ : ∃ m, k = m + 1 := ⟨k - 1, by omega⟩
    simp only [skymosaicref01_Has.l0]
    rw [if_neg (by omega), List.drop_eq_nil_of_le (by omega)]
    rfl
  | succ d ih =>
    intro i k hd h0 hk
    obtain ⟨k, rfl⟩ : ∃ m, k = m + 1 := ⟨k - 1, by omega⟩
    simp only [skymosaicref01_Has.l0]
    rw [if_pos (by omega), if_pos h0]
    have hdr : l.drop i.toNat = rd l i :: l.drop (i + 1).toNat := by
      rw [List.drop_eq_getElem_cons (show i.toNat < l.length by omega), show (i + 1).toNat = i.toNat + 1 from by omega]
      congr 1
      simp [rd, List.getD_eq_getElem?_getD, List.getElem?_eq_getElem (show i.toNat < l.length by omega)]
    rw [hdr, List.contains_cons]
    by_cases he : rd l i = n
    · rw [if_pos he, he]
      simp
    · rw [if_neg he, w64 (by omega), ih (i + 1) k (by omega) (by omega) (by omega)]
      have : (n == rd l i) = false := by rw [beq_eq_false_iff_ne]; exact fun e => he e.symm
      rw [this, Bool.false_or]
theorem has_f (l : List Int) (n : Int) (hl : l.length ≤ 1000000) : skymosaicref01_Has.f (l.length + 1) l n = some (l.contains n) := by
  unfold skymosaicref01_Has.f
  rw [has_loop l n hl l.length 0 (l.length + 1) (by omega) (by omega) (by omega)]
  rfl
theorem texts_loop (l : List ByteArray) (hl : l.length ≤ 1000000) : ∀ (d : Nat) (i : Int) (k : Nat), (l.length : Int) - i = d → 0 ≤ i → d < k → skymosaicref01_SameTexts.l0 k l l i = some true := by
  intro d
  induction d with
  | zero =>
    intro i k hd h0 hk
    obtain ⟨k, rfl⟩ : ∃ m, k = m + 1 := ⟨k - 1, by omega⟩
    simp only [skymosaicref01_SameTexts.l0]
    rw [if_neg (by omega)]
  | succ d ih =>
    intro i k hd h0 hk
    obtain ⟨k, rfl⟩ : ∃ m, k = m + 1 := ⟨k - 1, by omega⟩
    simp only [skymosaicref01_SameTexts.l0]
    rw [if_pos (by omega), if_pos h0, if_pos (by omega), if_pos trivial, w64 (by omega)]
    exact ih (i + 1) k (by omega) (by omega) (by omega)
theorem texts_same (l : List ByteArray) (hl : l.length ≤ 1000000) : skymosaicref01_SameTexts.f (l.length + 1) l l = some true := by
  unfold skymosaicref01_SameTexts.f
  rw [if_pos rfl]
  exact texts_loop l hl l.length 0 (l.length + 1) (by omega) (by omega) (by omega)
theorem same_f (x : S43) : skymosaiclaw31_same.f x.f0 x.f1 x.f2 x.f3 x.f4 x.f5 x.f6 x.f7 x.f0 x.f1 x.f2 x.f3 x.f4 x.f5 x.f6 x.f7 = some true := by
  unfold skymosaiclaw31_same.f
  simp
theorem anc_le {V : List S92} (hok : ∀ i : Int, 0 ≤ i → i < V.length → (rd_T92 V i).f1 < i) : ∀ (k : Nat) (i x : Int), i < V.length → x ∈ anc V k i → 0 ≤ x ∧ x ≤ i
  | 0, i, x, hi, hx => by simp [anc] at hx
  | k + 1, i, x, hi, hx => by
    simp only [anc] at hx
    by_cases h0 : i < 0
    · rw [if_pos h0] at hx; simp at hx
    · rw [if_neg h0] at hx
      rcases List.mem_cons.1 hx with rfl | hx
      · omega
      · have := hok i (by omega) hi
        have := anc_le hok k _ x (by omega) hx
        omega
theorem anc_len (V : List S92) : ∀ (k : Nat) (i : Int), (anc V k i).length ≤ k
  | 0, _ => Nat.le_refl _
  | k + 1, i => by
    simp only [anc]
    split
    · exact Nat.zero_le _
    · simp only [List.length_cons]
      have := anc_len V k (rd_T92 V i).f1
      omega
section
variable {s : Ln}
theorem rf_ok (h : Good s) : ∀ i : Int, 0 ≤ i → i < (rfOf s).V.length → (rd_T92 (rfOf s).V i).f1 < i := by
  intro i h0 h1
  rw [rf_len] at h1
  rw [rd_rf h0 h1]
  exact (h.par i h0 h1).2.1
theorem base_find (h : Good s) (K : Nat) : ∀ (m : Nat) (a b : Int) (ka kb k : Nat), (a + 1).toNat + (b + 1).toNat ≤ m → -1 ≤ a → -1 ≤ b → a < s.V.length → b < s.V.length → (a + 1).toNat ≤ ka → (b + 1).toNat ≤ kb → (a + 1).toNat + (b + 1).toNat ≤ k →
    ((anc (rfOf s).V ka a).find? (fun x => (anc (rfOf s).V kb b).contains x)).getD (-1) = baseGo s k a b := by
  have hok := rf_ok h
  intro m
  induction m with
  | zero =>
    intro a b ka kb k hm ha hb hal hbl hka hkb hk
    have ea : a = -1 := by omega
    have eb : b = -1 := by omega
    subst ea; subst eb
    rw [baseGo_stop _ _ _ _ (by simp)]
    have : anc (rfOf s).V ka (-1) = [] := by cases ka with
      | zero => rfl
      | succ ka => simp [anc]
    rw [this]
    rfl
  | succ m ih =>
    intro a b ka kb k hm ha hb hal hbl hka hkb hk
    have hl := rf_len s
    by_cases a0 : a < 0
    · have : anc (rfOf s).V ka a = [] := by cases ka with
        | zero => rfl
        | succ ka => simp only [anc]; rw [if_pos a0]
      rw [this, baseGo_stop _ _ _ _ (by omega)]
      show (-1 : Int) = min a b
      omega
    · by_cases b0 : b < 0
      · have hbn : anc (rfOf s).V kb b = [] := by cases kb with
          | zero => rfl
          | succ kb => simp only [anc]; rw [if_pos b0]
        rw [hbn, baseGo_stop _ _ _ _ (by omega)]
        rw [show (anc (rfOf s).V ka a).find? (fun x => ([] : List Int).contains x) = none from by rw [List.find?_eq_none]; simp]
        show (-1 : Int) = min a b
        omega
      · obtain ⟨ka, rfl⟩ : ∃ x, ka = x + 1 := ⟨ka - 1, by omega⟩
        obtain ⟨kb, rfl⟩ : ∃ x, kb = x + 1 := ⟨kb - 1, by omega⟩
        obtain ⟨k, rfl⟩ : ∃ x, k = x + 1 := ⟨k - 1, by omega⟩
        have pa := h.par a (by omega) hal
        have pb := h.par b (by omega) hbl
        have ra := rd_rf (s := s) (show 0 ≤ a by omega) hal
        have rb := rd_rf (s := s) (show 0 ≤ b by omega) hbl
        by_cases e : a = b
        · subst e
          rw [baseGo_stop _ _ _ _ (by simp)]
          simp only [anc]
          rw [if_neg a0, if_neg a0, List.find?_cons]
          rw [show (a :: anc (rfOf s).V kb (rd_T92 (rfOf s).V a).f1).contains a = true from by simp]
          show a = min a a
          omega
        · simp only [baseGo]
          rw [if_pos ⟨e, by omega, by omega⟩]
          by_cases hlt : b < a
          · rw [if_pos hlt]
            have hna : (anc (rfOf s).V (kb + 1) b).contains a = false := by
              rw [List.contains_eq_mem]
              simp only [decide_eq_false_iff_not]
              intro hm'
              have := anc_le hok _ _ _ (by omega) hm'
              omega
            rw [show anc (rfOf s).V (ka + 1) a = a :: anc (rfOf s).V ka (rd_T92 (rfOf s).V a).f1 from by simp only [anc]; rw [if_neg a0]]
            rw [List.find?_cons, hna]
            simp only
            rw [ra]
            exact ih (rd_T43 s.V a).f1 b ka (kb + 1) k (by omega) (by omega) hb (by omega) hbl (by omega) hkb (by omega)
          · rw [if_neg hlt]
            have hpr : ∀ x ∈ anc (rfOf s).V (ka + 1) a, (anc (rfOf s).V (kb + 1) b).contains x = (anc (rfOf s).V kb (rd_T43 s.V b).f1).contains x := by
              intro x hx
              have := anc_le hok _ _ _ (by omega) hx
              rw [show anc (rfOf s).V (kb + 1) b = b :: anc (rfOf s).V kb (rd_T92 (rfOf s).V b).f1 from by simp only [anc]; rw [if_neg b0]]
              rw [List.contains_cons, rb]
              have : (x == b) = false := by rw [beq_eq_false_iff_ne]; omega
              rw [this, Bool.false_or]
              rfl
            have hfc : ∀ (l : List Int) (p q : Int → Bool), (∀ x ∈ l, p x = q x) → l.find? p = l.find? q := by
              intro l p q hpq
              induction l with
              | nil => rfl
              | cons x l ihl =>
                rw [List.find?_cons, List.find?_cons, hpq x List.mem_cons_self, ihl (fun y hy => hpq y (List.mem_cons_of_mem _ hy))]
            rw [hfc _ _ _ hpr]
            exact ih a (rd_T43 s.V b).f1 (ka + 1) kb k (by omega) ha (by omega) hal (by omega) hka (by omega) (by omega)
theorem rbase_eq (h : Good s) (a b : Int) : rbaseF (rfOf s) a b = baseF s a b := by
  unfold rbaseF baseF
  rw [rexists_eq, rexists_eq]
  by_cases c : existsB s a = false ∨ existsB s b = false
  · rw [if_pos c, if_pos c]
  · rw [if_neg c, if_neg c]
    have ha := exists_true (s := s) (id := a) (by cases e : existsB s a with | true => rfl | false => exact absurd (.inl e) c)
    have hb := exists_true (s := s) (id := b) (by cases e : existsB s b with | true => rfl | false => exact absurd (.inr e) c)
    have hl := rf_len s
    rw [base_find h 0 _ a b _ _ (2 * s.V.length + 2) (Nat.le_refl _) (by omega) (by omega) ha.2 hb.2 (by omega) (by omega) (by omega)]
/-- Where the times are in range, the head is what is read at times beyond all. -/
structure Good3 (s : Ln) : Prop extends Good2 s where
  times : ∀ i : Int, 0 ≤ i → i < s.V.length → (rd_T43 s.V i).f3 ≤ 1099511627776 ∧ (rd_T43 s.V i).f4 ≤ 1099511627776
theorem search_big (h : Good3 s) : ∀ (k : Nat) (i : Int), i < s.V.length → searchGo s (readP 4611686018427387904 4611686018427387904) k i = searchGo s (fun _ => true) k i
  | 0, _, _ => rfl
  | k + 1, i, hi => by
    simp only [searchGo]
    by_cases h0 : i < 0
    · rw [if_pos h0, if_pos h0]
    · rw [if_neg h0, if_neg h0]
      have ht := h.times i (by omega) hi
      have hp := h.par i (by omega) hi
      have : readP 4611686018427387904 4611686018427387904 (rd_T43 s.V i) = true := by
        unfold readP
        simp
        omega
      rw [this, search_big h k _ (by omega)]
theorem rhead_eq (h : Good3 s) (name : ByteArray) : rheadF (rfOf s) name = headF s name := by
  unfold rheadF
  rw [rread_eq h.toGood2]
  unfold headF readF
  have key : searchF s name (readP 4611686018427387904 4611686018427387904) = searchF s name (fun _ => true) := by
    unfold searchF
    by_cases hb : hasB s.D name = false
    · rw [if_pos hb, if_pos hb]
    · rw [if_neg hb, if_neg hb]
      have := h.first (by simpa using hb)
      rw [search_big h _ _ this.2]
  rw [key]
  by_cases hb : hasB s.D name = false
  · have e : searchF s name (fun _ => true) = (-1, 6) := by unfold searchF; rw [if_pos hb]
    rw [e]; rfl
  · have hb' : hasB s.D name = true := by simpa using hb
    have hf := h.first hb'
    have e : searchF s name (fun _ => true) = (searchGo s (fun _ => true) (s.V.length + 1) (firstF (lkp s.D name)), 0) := by unfold searchF; rw [if_neg hb]
    rw [e]
    rcases search_found h.toGood (fun _ => true) (s.V.length + 1) (firstF (lkp s.D name)) hf.2 with h' | h'
    · rw [h']; rfl
    · obtain ⟨v, hv⟩ : ∃ v, searchGo s (fun _ => true) (s.V.length + 1) (firstF (lkp s.D name)) = v := ⟨_, rfl⟩
      rw [hv] at h' ⊢
      have : ¬ v < 0 := by omega
      simp [this]
theorem Good3.do_ (h : Good3 s) (o : S38) : Good3 (doF s o).2.2 := by
  refine ⟨h.toGood2.do_ o, ?_⟩
  unfold doF
  split
  · unfold forkF
    split
    · exact h.times
    split
    · exact h.times
    split
    · exact h.times
    split
    · exact h.times
    split
    · exact h.times
    · exact h.times
  split
  · unfold closeF
    split
    · exact h.times
    rename_i h1
    have hx := exists_true (s := s) (id := o.f2) (by simpa using h1)
    split
    · exact h.times
    · intro i h0 hi
      simp only [List.length_set] at hi
      by_cases e : i = o.f2
      · subst e
        rw [rd_set_same _ _ _ h0 hi]
        exact h.times _ h0 hi
      · rw [rd_set_other _ _ _ _ hx.1 h0 e]
        exact h.times i h0 hi
  · unfold publishF
    split
    · exact h.times
    split
    · exact h.times
    rename_i h2
    split
    · exact h.times
    split
    · exact h.times
    · intro i h0 hi
      simp only [List.length_append, List.length_singleton] at hi
      by_cases hlt : i < s.V.length
      · rw [rd_append_left h0 hlt]
        exact h.times i h0 hlt
      · rw [rd_append_new _ _ _ (by omega)]
        have h2' : rangeB o.f3 o.f4 o.f5 = true := by simpa using h2
        unfold rangeB tickB at h2'
        simp only [Bool.and_eq_true, decide_eq_true_eq] at h2'
        exact ⟨h2'.1.2, h2'.2.1.2⟩
theorem good3_0 : Good3 Ln0 := ⟨good2_0, fun i h0 h1 => absurd h1 (by simp [Ln0]; omega)⟩
end
end Go.Proofs.Ytcbkcgnigncahaa.P
namespace Go.Proofs.Ytcbkcgnigncahaa.P
open Go.RowKit Go.Maps Go.Sort Go.Shelf Go.Proofs.YtcbkcgnigncahaaW.PrintWords Go.Proofs.YtcbkcgnigncahaaW.PrintLast
set_option linter.unusedVariables false
set_option linter.unusedSimpArgs false
theorem lt_of_before : ∀ {x y : List UInt8}, bytesBefore x y = true → x < y
  | [], [], h => by simp [bytesBefore] at h
  | [], _ :: _, _ => List.nil_lt_cons ..
  | _ :: _, [], h => by simp [bytesBefore] at h
  | a :: x, b :: y, h => by
    simp only [bytesBefore, Bool.or_eq_true, Bool.and_eq_true, decide_eq_true_eq, beq_iff_eq] at h
    rw [List.cons_lt_cons_iff]
    rcases h with h | ⟨h, h2⟩
    · exact .inl h
    · exact .inr ⟨h, lt_of_before h2⟩
theorem names_eq {s : Ln} (h : Good2 s) : branchesF s = (rfOf s).B.map (·.f0) := by
  obtain ⟨es, he, hp⟩ := h.ris
  obtain ⟨es', he', hk⟩ := h.keyed
  rw [he] at he'
  injection he' with he'
  subst he'
  have hs := keyed_all hk
  unfold branchesF rfOf
  simp only
  rw [he]
  have hst : (es.map (fun p => Go.strOf p.1)).Pairwise (fun a b => leB a b = true) := by
    rw [List.pairwise_map]
    refine hp.imp_of_mem (fun {p q} hpm hqm hb => ?_)
    have h1 := hs p hpm
    have h2 := hs q hqm
    obtain ⟨a, a'⟩ := p
    obtain ⟨b, b'⟩ := q
    cases a with
    | string x =>
      cases b with
      | string y =>
        have hlt : x < y := lt_of_before hb
        exact decide_eq_true (List.le_of_lt hlt)
      | _ => simp [isStr] at h2
    | _ => simp [isStr] at h1
  have hms : (es.map (fun p => Go.strOf p.1)).mergeSort leB = es.map (fun p => Go.strOf p.1) := by
    refine List.Perm.eq_of_pairwise (le := fun a b => leB a b = true) ?_ (List.pairwise_mergeSort ?_ ?_ _) hst (List.mergeSort_perm _ _)
    · intro a b _ _ h1 h2
      exact List.le_antisymm (of_decide_eq_true h1) (of_decide_eq_true h2)
    · intro a b c h1 h2
      exact decide_eq_true (List.le_trans (of_decide_eq_true h1) (of_decide_eq_true h2))
    · intro a b
      rcases List.le_total a b with h | h
      · simp [leB, h]
      · simp [leB, h]
  show ((es.map (fun p => Go.strOf p.1)).mergeSort leB).map _ = (es.map toB).map _
  rw [hms, List.map_map, List.map_map]
  rfl
end Go.Proofs.Ytcbkcgnigncahaa.P
