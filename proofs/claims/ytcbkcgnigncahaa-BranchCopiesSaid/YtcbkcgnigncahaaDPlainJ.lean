import Derived.Test.YtcbkcgnigncahaaDPlainI
namespace Go.Proofs.Ytcbkcgnigncahaa.P
open Go.RowKit Go.Maps Go.Proofs.YtcbkcgnigncahaaW.PrintWords
set_option linter.unusedVariables false
set_option linter.unusedSimpArgs false
section
variable {s : Ln}
theorem rpublish_eq (h : Good2 s) (name : ByteArray) (a2 a3 a4 a5 : Int) :
    rpublishF (rfOf s) name a2 a3 a4 a5 = ((publishF s name a2 a3 a4 a5).1, (publishF s name a2 a3 a4 a5).2.1, ⟨(rfOf s).B, vOf (publishF s name a2 a3 a4 a5).2.2.V⟩) := by
  have hV := rf_len s
  rcases find_of h.keyed name with ⟨h1, h2⟩ | ⟨h1, h2, _⟩
  · have e1 : rpublishF (rfOf s) name a2 a3 a4 a5 = (0, 6, rfOf s) := by unfold rpublishF; rw [if_pos (show findR (rfOf s).B name < 0 by show findR (bOf s.D) name < 0; omega)]
    have e2 : publishF s name a2 a3 a4 a5 = (0, 6, s) := by unfold publishF; rw [if_pos h1]
    rw [e1, e2]; rfl
  · have n1 : ¬ findR (rfOf s).B name < 0 := by show ¬ findR (bOf s.D) name < 0; omega
    have n1' : ¬ hasB s.D name = false := by rw [h1]; decide
    have hf := h.toGood.first h1
    have hp := first_of h h1
    by_cases c2 : rangeB a2 a3 a4 = false
    · have e1 : rpublishF (rfOf s) name a2 a3 a4 a5 = (0, 1, rfOf s) := by unfold rpublishF; rw [if_neg n1, if_pos c2]
      have e2 : publishF s name a2 a3 a4 a5 = (0, 1, s) := by unfold publishF; rw [if_neg n1', if_pos c2]
      rw [e1, e2]; rfl
    · by_cases c3 : 0 ≤ firstF (lkp s.D name) ∧ a3 < (rd_T43 s.V (firstF (lkp s.D name))).f4
      · have c3' : 0 ≤ firstR (rfOf s) name ∧ a3 < (rd_T92 (rfOf s).V (firstR (rfOf s) name)).f4 := by rw [hp, rd_rf c3.1 hf.2]; exact c3
        have e1 : rpublishF (rfOf s) name a2 a3 a4 a5 = (0, 16, rfOf s) := by unfold rpublishF; rw [if_neg n1, if_neg c2, if_pos c3']
        have e2 : publishF s name a2 a3 a4 a5 = (0, 16, s) := by unfold publishF; rw [if_neg n1', if_neg c2, if_pos c3]
        rw [e1, e2]; rfl
      · have c3' : ¬ (0 ≤ firstR (rfOf s) name ∧ a3 < (rd_T92 (rfOf s).V (firstR (rfOf s) name)).f4) := by
          rw [hp]
          rintro ⟨a, b⟩
          rw [rd_rf a hf.2] at b
          exact c3 ⟨a, b⟩
        by_cases c4 : 1024 ≤ s.V.length
        · have e1 : rpublishF (rfOf s) name a2 a3 a4 a5 = (0, 4, rfOf s) := by unfold rpublishF; rw [if_neg n1, if_neg c2, if_neg c3', hV, if_pos c4]
          have e2 : publishF s name a2 a3 a4 a5 = (0, 4, s) := by unfold publishF; rw [if_neg n1', if_neg c2, if_neg c3, if_pos c4]
          rw [e1, e2]; rfl
        · have e1 : rpublishF (rfOf s) name a2 a3 a4 a5 = ((s.V.length : Int), 0, ⟨(rfOf s).B, (rfOf s).V ++ [⟨(s.V.length : Int), firstF (lkp s.D name), name, a2, a3, a4, a5, false⟩]⟩) := by unfold rpublishF; rw [if_neg n1, if_neg c2, if_neg c3', hV, if_neg c4, hp]
          have e2 : publishF s name a2 a3 a4 a5 = ((s.V.length : Int), 0, ⟨s.D.put (keyB name) (lnD (lkp s.D name).1 (s.V.length : Int)), s.V ++ [⟨(s.V.length : Int), firstF (lkp s.D name), name, a2, a3, a4, a5, false⟩]⟩) := by unfold publishF; rw [if_neg n1', if_neg c2, if_neg c3, if_neg c4]
          rw [e1, e2]
          show ((s.V.length : Int), (0 : Int), (⟨bOf s.D, vOf s.V ++ [_]⟩ : Rf)) = ((s.V.length : Int), 0, ⟨bOf s.D, vOf (s.V ++ [_])⟩)
          unfold vOf
          rw [List.map_append]
          rfl
/-- A store at a key that is there, with the base that stood there, leaves names and bases as they are. -/
theorem bOf_put_same {name : ByteArray} (h : Good2 s) (hn : hasB s.D name = true) (l : Int) : bOf (s.D.put (keyB name) (lnD (lkp s.D name).1 l)) = bOf s.D := by
  obtain ⟨es, he, hp⟩ := h.ris
  obtain ⟨es', he', hk⟩ := h.keyed
  obtain rfl : es = es' := by rw [he] at he'; injection he'
  have hs := keyed_all hk
  obtain ⟨b, hb⟩ : ∃ b, (lkp s.D name).1 = b := ⟨_, rfl⟩
  rw [hb]
  unfold lkp at hb
  unfold hasB at hn
  rw [he] at hn hb ⊢
  rw [has_eq] at hn
  clear he he' hk h
  show ((DataW.insert (keyB name, lnD b l) (es.filter (fun p => !p.1.sameKey (keyB name)))).map toB) = es.map toB
  induction es with
  | nil => simp at hn
  | cons p es ih =>
    rw [List.pairwise_cons] at hp
    have hps := hs p List.mem_cons_self
    have hkp := str_key hps
    by_cases hsame : p.1.sameKey (keyB name) = true
    · have hpe : p.1 = keyB name := WideAt.sameKey_eq hsame
      have hrest : es.filter (fun p => !p.1.sameKey (keyB name)) = es := by
        rw [List.filter_eq_self]
        intro q hq
        have hb2 := hp.1 q hq
        cases e : q.1.sameKey (keyB name) with
        | false => rfl
        | true =>
          have hqe := WideAt.sameKey_eq e
          have : p.1.before q.1 = true := hb2
          rw [hpe, hqe] at this
          rw [show (keyB name).before (keyB name) = bytesBefore name.data.toList name.data.toList from rfl, WideAt.bytes_irrefl] at this
          cases this
      rw [List.filter_cons, if_neg (by rw [hsame]; decide), hrest]
      have hb' : (lkD p.2).1 = b := by
        rw [← hb]
        unfold DataW.atKey
        simp only [List.find?_cons, hsame]
      have hins : DataW.insert (keyB name, lnD b l) es = (keyB name, lnD b l) :: es := by
        cases es with
        | nil => rfl
        | cons q r =>
          have hb2 := hp.1 q List.mem_cons_self
          have : (keyB name).before q.1 = true := by rw [← hpe]; exact hb2
          simp only [DataW.insert]
          rw [if_pos this]
      rw [hins, List.map_cons, List.map_cons]
      congr 1
      unfold toB
      simp only
      rw [hpe, hb']
      rfl
    · have hsf : p.1.sameKey (keyB name) = false := by simpa using hsame
      rw [List.filter_cons, if_pos (by rw [hsf]; rfl)]
      have hn' : es.any (fun p => p.1.sameKey (keyB name)) = true := by simpa [hsf] using hn
      have hb' : (lkD ((DataW.map es).atKey (keyB name) (lnD 0 0))).1 = b := by
        rw [← hb]
        unfold DataW.atKey
        simp only [List.find?_cons, hsf]
      have ih' : ((DataW.insert (keyB name, lnD b l) (es.filter (fun p => !p.1.sameKey (keyB name)))).map toB) = es.map toB := by
        refine ih ?_ ?_ ?_ ?_
        all_goals first
          | exact hn'
          | exact hp.2
          | exact hb'
          | exact (fun q hq => hs q (List.mem_cons_of_mem _ hq))
      have hnb : (keyB name).before p.1 = false := by
        rw [List.any_eq_true] at hn'
        obtain ⟨q, hq, hqs⟩ := hn'
        have hqe := WideAt.sameKey_eq hqs
        have hbq : p.1.before q.1 = true := hp.1 q hq
        cases e : (keyB name).before p.1 with
        | false => rfl
        | true =>
          have := before_trans (a := keyB name) (b := p.1) (c := q.1) rfl hps (hs q (List.mem_cons_of_mem _ hq)) e hbq
          rw [hqe] at this
          rw [show (keyB name).before (keyB name) = bytesBefore name.data.toList name.data.toList from rfl, WideAt.bytes_irrefl] at this
          cases this
      simp only [DataW.insert]
      rw [if_neg (by rw [hnb]; decide), List.map_cons, List.map_cons, ih']
theorem rpublish_rf (h : Good2 s) (name : ByteArray) (a2 a3 a4 a5 : Int) : (⟨(rfOf s).B, vOf (publishF s name a2 a3 a4 a5).2.2.V⟩ : Rf) = rfOf (publishF s name a2 a3 a4 a5).2.2 := by
  show (⟨bOf s.D, _⟩ : Rf) = ⟨bOf (publishF s name a2 a3 a4 a5).2.2.D, _⟩
  congr 1
  unfold publishF
  split
  · rfl
  rename_i h1
  split
  · rfl
  split
  · rfl
  split
  · rfl
  · exact (bOf_put_same h (by simpa using h1) _).symm
theorem put_ris {D : DataW Unit} {name : ByteArray} (h : ∃ es, D = .map es ∧ es.Pairwise beforeP) (hk : Keyed D) (d : DataW Unit) : ∃ es, D.put (keyB name) d = .map es ∧ es.Pairwise beforeP := by
  obtain ⟨es, rfl, hp⟩ := h
  obtain ⟨es', he', hk⟩ := hk
  obtain rfl : es = es' := by injection he'
  have hs := keyed_all hk
  refine ⟨_, rfl, ins_pw rfl (fun p hp => hs p (List.mem_filter.1 hp).1) (fun p hp e => ?_) (hp.filter _)⟩
  have := (List.mem_filter.1 hp).2
  rw [e] at this
  simp [keyB, Lit.sameKey] at this
theorem good2_0 : Good2 Ln0 := ⟨good0, ⟨[], rfl, List.Pairwise.nil⟩, fun name h => absurd h (by simp [Ln0, hasB, Maps.has, has_eq]), fun i h0 h1 => absurd h1 (by simp [Ln0]; omega)⟩
theorem Good2.fork (h : Good2 s) (name : ByteArray) (fr : Int) : Good2 (forkF s name fr).2 := by
  have hg := h.toGood.fork name fr
  revert hg
  unfold forkF
  split
  · exact fun _ => h
  split
  · exact fun _ => h
  rename_i h2
  split
  · exact fun _ => h
  split
  · exact fun _ => h
  split
  · exact fun _ => h
  intro hg
  have hnb : hasB s.D name = false := by simpa using h2
  refine ⟨hg, put_ris h.ris h.keyed _, fun x hx => ?_, fun i h0 h1 => ?_⟩
  · by_cases e : x = name
    · subst e
      rw [show lkp (⟨s.D.put (keyB x) (lnD fr (-1)), s.V⟩ : Ln).D x = (fr, -1) from lkp_put_same h.tidy _ _ _]
      symm
      refine lastR_none _ (fun j hj e => ?_)
      have hb := h.branch j (by omega) (by exact_mod_cast hj)
      rw [rd_vOf (by omega) (by exact_mod_cast hj)] at e
      rw [show (rd_T43 s.V (j : Int)).f2 = x from e, hnb] at hb
      cases hb
    · rw [show lkp (⟨s.D.put (keyB name) (lnD fr (-1)), s.V⟩ : Ln).D x = lkp s.D x from lkp_put_other e _]
      exact h.last x (by rw [← hasB_put_other e]; exact hx)
  · have := h.branch i h0 h1
    by_cases e : (rd_T43 s.V i).f2 = name
    · rw [e] at this; rw [hnb] at this; cases this
    · exact (hasB_put_other e _).trans this
theorem Good2.publish (h : Good2 s) (name : ByteArray) (a2 a3 a4 a5 : Int) : Good2 (publishF s name a2 a3 a4 a5).2.2 := by
  have hg := h.toGood.publish name a2 a3 a4 a5
  revert hg
  unfold publishF
  split
  · exact fun _ => h
  rename_i h1
  have hnb : hasB s.D name = true := by simpa using h1
  split
  · exact fun _ => h
  split
  · exact fun _ => h
  split
  · exact fun _ => h
  intro hg
  have hhas : ∀ x, hasB (s.D.put (keyB name) (lnD (lkp s.D name).1 (s.V.length : Int))) x = hasB s.D x := by
    intro x
    by_cases e : x = name
    · subst e; rw [hasB_put_same h.tidy, hnb]
    · exact hasB_put_other e _
  refine ⟨hg, put_ris h.ris h.keyed _, fun x hx => ?_, fun i h0 hi => ?_⟩
  · have hlen : (s.V ++ [(⟨(s.V.length : Int), firstF (lkp s.D name), name, a2, a3, a4, a5, false⟩ : S43)]).length = s.V.length + 1 := by simp
    have hnew : (rd_T92 (vOf (s.V ++ [(⟨(s.V.length : Int), firstF (lkp s.D name), name, a2, a3, a4, a5, false⟩ : S43)])) (s.V.length : Int)).f2 = name := by
      rw [rd_vOf (by omega) (by rw [hlen]; omega), rd_append_new _ _ _ rfl]
      rfl
    have hold : lastR (vOf (s.V ++ [(⟨(s.V.length : Int), firstF (lkp s.D name), name, a2, a3, a4, a5, false⟩ : S43)])) x s.V.length = lastR (vOf s.V) x s.V.length := by
      refine lastR_agree _ (fun j hj => ?_)
      rw [rd_vOf (by omega) (by rw [hlen]; omega), rd_vOf (by omega) (by omega), rd_append_left (by omega) (by omega)]
    show (lkp (s.D.put (keyB name) (lnD (lkp s.D name).1 (s.V.length : Int))) x).2 = lastR _ x (s.V ++ [_]).length
    rw [hlen]
    simp only [lastR]
    rw [hnew, hold]
    by_cases e : x = name
    · subst e
      rw [if_pos rfl, lkp_put_same h.tidy]
    · rw [if_neg (fun e2 => e e2.symm), lkp_put_other e]
      exact h.last x (by rw [← hhas x]; exact hx)
  · simp only [List.length_append, List.length_singleton] at hi
    show hasB (s.D.put (keyB name) (lnD (lkp s.D name).1 (s.V.length : Int))) _ = true
    rw [hhas]
    by_cases hlt : i < s.V.length
    · rw [rd_append_left h0 hlt]
      exact h.branch i h0 hlt
    · rw [rd_append_new _ _ _ (by omega)]
      exact hnb
theorem Good2.close (h : Good2 s) (id : Int) : Good2 (closeF s id).2 := by
  have hg := h.toGood.close id
  revert hg
  unfold closeF
  split
  · exact fun _ => h
  rename_i h1
  have hx := exists_true (s := s) (id := id) (by simpa using h1)
  split
  · exact fun _ => h
  intro hg
  have hf2 : ∀ j : Int, 0 ≤ j → j < s.V.length → (rd_T43 (s.V.set id.toNat ⟨(rd_T43 s.V id).f0, (rd_T43 s.V id).f1, (rd_T43 s.V id).f2, (rd_T43 s.V id).f3, (rd_T43 s.V id).f4, (rd_T43 s.V id).f5, (rd_T43 s.V id).f6, true⟩) j).f2 = (rd_T43 s.V j).f2 := by
    intro j h0 hj
    by_cases e : j = id
    · subst e; rw [rd_set_same _ _ _ h0 hj]
    · rw [rd_set_other _ _ _ _ hx.1 h0 e]
  refine ⟨hg, h.ris, fun x hb => ?_, fun i h0 hi => ?_⟩
  · show (lkp s.D x).2 = lastR (vOf (s.V.set id.toNat _)) x (s.V.set id.toNat _).length
    rw [List.length_set, h.last x hb]
    symm
    refine lastR_agree _ (fun j hj => ?_)
    rw [rd_vOf (by omega) (by rw [List.length_set]; omega), rd_vOf (by omega) (by omega)]
    exact hf2 j (by omega) (by omega)
  · simp only [List.length_set] at hi
    rw [hf2 i h0 hi]
    exact h.branch i h0 hi
theorem Good2.do_ (h : Good2 s) (o : S38) : Good2 (doF s o).2.2 := by
  unfold doF
  split
  · exact h.fork _ _
  split
  · exact h.close _
  · exact h.publish _ _ _ _ _
theorem rdo_eq (h : Good2 s) (o : S38) : rdoF (rfOf s) o = ((doF s o).1, (doF s o).2.1, rfOf (doF s o).2.2) := by
  unfold rdoF doF
  by_cases c0 : o.f0 = 0
  · rw [if_pos c0, if_pos c0, rfork_eq h]
  · rw [if_neg c0, if_neg c0]
    by_cases c2 : o.f0 = 2
    · rw [if_pos c2, if_pos c2, rclose_eq]
    · rw [if_neg c2, if_neg c2, rpublish_eq h, rpublish_rf h]
end
end Go.Proofs.Ytcbkcgnigncahaa.P
