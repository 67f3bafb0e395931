import Derived.Test.YtcbkcgnigncahaaEGivenP
namespace Go.Proofs.Ytcbkcgnigncahaa.P
open Go.RowKit Go.Maps Go.Proofs.YtcbkcgnigncahaaW.PrintWords Go.Proofs.YtcbkcgnigncahaaW.PrintLast Go.Proofs.YtcbkcgnigncahaaW.PrintMore
attribute [local go_sem] max2_int min2_int max_two min_two max_three min_three max_four min_four
set_option linter.unusedVariables false
set_option linter.unusedSimpArgs false
def isStr (k : Lit) : Bool := match k with
  | .string _ => true
  | _ => false
/-- Every key is a string. -/
def Keyed (D : DataW Unit) : Prop := ∃ es, D = .map es ∧ es.any (fun p => !isStr p.1) = false
theorem Keyed.put {D : DataW Unit} (h : Keyed D) (name : ByteArray) (d : DataW Unit) : Keyed (D.put (keyB name) d) := by
  obtain ⟨es, rfl, he⟩ := h
  refine ⟨_, rfl, ?_⟩
  rw [any_insert]
  simp only [Bool.or_eq_false_iff]
  refine ⟨rfl, ?_⟩
  rw [List.any_eq_false] at he ⊢
  intro p hp
  exact he p (List.mem_filter.1 hp).1
/-- What every line satisfies. -/
structure Good (s : Ln) : Prop where
  tidy : Tidy s.D
  par : ∀ i : Int, 0 ≤ i → i < s.V.length → -1 ≤ (rd_T43 s.V i).f1 ∧ (rd_T43 s.V i).f1 < i ∧ (rd_T43 s.V i).f0 = i
  ends : ∀ name, hasB s.D name = true → -1 ≤ (lkp s.D name).1 ∧ (lkp s.D name).1 < s.V.length ∧ -1 ≤ (lkp s.D name).2 ∧ (lkp s.D name).2 < s.V.length
  most : s.V.length ≤ 1024
  few : Maps.size s.D ≤ 64
  keyed : Keyed s.D
  valid : ∀ name, hasB s.D name = true → validB name = true
theorem Good.ok {s : Ln} (h : Good s) : LnOk s := fun i h0 h1 => (h.par i h0 h1).2.1
theorem firstF_cases (p : Int × Int) : firstF p = p.1 ∨ firstF p = p.2 := by
  unfold firstF
  split
  · exact .inr rfl
  · exact .inl rfl
theorem Good.first {s : Ln} (h : Good s) {name : ByteArray} (hb : hasB s.D name = true) : -1 ≤ firstF (lkp s.D name) ∧ firstF (lkp s.D name) < s.V.length := by
  have := h.ends name hb
  obtain e | e := firstF_cases (lkp s.D name) <;> rw [e] <;> omega
theorem keyB_inj {x y : ByteArray} (h : keyB x = keyB y) : x = y := by
  unfold keyB at h
  injection h with h
  exact ByteArray.ext (Array.toList_inj.1 h)
theorem key_lit2 (x : ByteArray) : WideAt.IsKeyLit (keyB x) := trivial
theorem lkp_put_same {D : DataW Unit} (h : Tidy D) (name : ByteArray) (b l : Int) : lkp (D.put (keyB name) (lnD b l)) name = (b, l) := by
  unfold lkp
  rw [atKey_put_same h.isMap (key_lit2 _)]
  rfl
theorem lkp_put_other {D : DataW Unit} {name x : ByteArray} (hne : x ≠ name) (d : DataW Unit) : lkp (D.put (keyB name) d) x = lkp D x := by
  unfold lkp
  rw [atKey_put_other (fun e => hne (keyB_inj e))]
theorem hasB_put_same {D : DataW Unit} (h : Tidy D) (name : ByteArray) (d : DataW Unit) : hasB (D.put (keyB name) d) name = true := has_put_same h.isMap (key_lit2 _) _
theorem hasB_put_other {D : DataW Unit} {name x : ByteArray} (hne : x ≠ name) (d : DataW Unit) : hasB (D.put (keyB name) d) x = hasB D x := has_put_other (fun e => hne (keyB_inj e)) _
theorem rd_append_left {l m : List S43} {i : Int} (h0 : 0 ≤ i) (h : i < l.length) : rd_T43 (l ++ m) i = rd_T43 l i := by
  unfold rd_T43
  rw [List.getD_eq_getElem?_getD, List.getD_eq_getElem?_getD, List.getElem?_append_left (by omega)]
theorem rd_append_new (l : List S43) (x : S43) (i : Int) (h : i = l.length) : rd_T43 (l ++ [x]) i = x := by
  subst h
  unfold rd_T43
  rw [List.getD_eq_getElem?_getD, Int.toNat_natCast, List.getElem?_append_right (Nat.le_refl _)]
  simp
theorem rd_set_same (l : List S43) (x : S43) (i : Int) (h0 : 0 ≤ i) (h : i < l.length) : rd_T43 (l.set i.toNat x) i = x := by
  unfold rd_T43
  rw [List.getD_eq_getElem?_getD, List.getElem?_set_self (by omega)]
  rfl
theorem rd_set_other (l : List S43) (x : S43) (i j : Int) (h0 : 0 ≤ i) (h1 : 0 ≤ j) (h : j ≠ i) : rd_T43 (l.set i.toNat x) j = rd_T43 l j := by
  unfold rd_T43
  rw [List.getD_eq_getElem?_getD, List.getD_eq_getElem?_getD, List.getElem?_set_ne (by omega)]
theorem size_put_le {D : DataW Unit} (h : Tidy D) (name : ByteArray) (d : DataW Unit) : Maps.size (D.put (keyB name) d) ≤ Maps.size D + 1 ∧ (hasB D name = true → Maps.size (D.put (keyB name) d) = Maps.size D) := by
  have := size_put (k := keyB name) h d
  unfold hasB
  rw [this]
  constructor
  · split <;> omega
  · intro hb
    rw [if_pos hb]
theorem good0 : Good Ln0 := by
  refine ⟨tidy_empty, fun i h0 h1 => ?_, fun name h => ?_, by decide, by decide, ⟨[], rfl, rfl⟩, fun name h => absurd h (by simp [Ln0, hasB, Maps.has, has_eq])⟩
  · exact absurd h1 (by simp [Ln0]; omega)
  · exact absurd h (by simp [Ln0, hasB, Maps.has, has_eq])
theorem Good.fork {s : Ln} (h : Good s) (name : ByteArray) (fr : Int) : Good (forkF s name fr).2 := by
  unfold forkF
  split
  · exact h
  rename_i h1
  split
  · exact h
  split
  · exact h
  rename_i h3
  split
  · exact h
  split
  · exact h
  rename_i h5
  refine ⟨h.tidy.put (key_lit2 _) _, h.par, fun x hx => ?_, h.most, by have := (size_put_le h.tidy name (lnD fr (-1))).1; show Maps.size (s.D.put (keyB name) (lnD fr (-1))) ≤ 64; omega, h.keyed.put _ _, fun x hx => by
    by_cases e : x = name
    · subst e; simpa using h1
    · exact h.valid x (by rw [← hasB_put_other e]; exact hx)⟩
  by_cases e : x = name
  · subst e
    rw [lkp_put_same h.tidy]
    by_cases e1 : fr = -1
    · subst e1
      simp only
      omega
    · have : existsB s fr = true := by
        cases hb : existsB s fr with
        | true => rfl
        | false => exact absurd ⟨e1, hb⟩ h3
      have := exists_true this
      simp only
      omega
  · rw [lkp_put_other e]
    rw [hasB_put_other e] at hx
    exact h.ends x hx
theorem Good.publish {s : Ln} (h : Good s) (name : ByteArray) (a2 a3 a4 a5 : Int) : Good (publishF s name a2 a3 a4 a5).2.2 := by
  unfold publishF
  split
  · exact h
  rename_i h1
  have h1' : hasB s.D name = true := by simpa using h1
  have hf := h.first h1'
  split
  · exact h
  split
  · exact h
  split
  · exact h
  rename_i h4
  refine ⟨h.tidy.put (key_lit2 _) _, fun i h0 hi => ?_, fun x hx => ?_, by simp; omega, by have := (size_put_le h.tidy name (lnD (lkp s.D name).1 (s.V.length : Int))).2 h1'; have h2 := h.few; show Maps.size (s.D.put (keyB name) (lnD (lkp s.D name).1 (s.V.length : Int))) ≤ 64; omega, h.keyed.put _ _, fun x hx => by
    by_cases e : x = name
    · subst e; exact h.valid x h1'
    · exact h.valid x (by rw [← hasB_put_other e]; exact hx)⟩
  · simp only [List.length_append, List.length_singleton] at hi
    by_cases hlt : i < s.V.length
    · rw [rd_append_left h0 hlt]
      exact h.par i h0 hlt
    · have e : i = s.V.length := by omega
      rw [rd_append_new _ _ _ e]
      simp only
      omega
  · simp only [List.length_append, List.length_singleton]
    by_cases e : x = name
    · subst e
      rw [lkp_put_same h.tidy]
      have := h.ends x h1'
      simp only
      omega
    · rw [lkp_put_other e]
      rw [hasB_put_other e] at hx
      have := h.ends x hx
      omega
theorem Good.close {s : Ln} (h : Good s) (id : Int) : Good (closeF s id).2 := by
  unfold closeF
  split
  · exact h
  rename_i h1
  have hx := exists_true (s := s) (id := id) (by simpa using h1)
  split
  · exact h
  refine ⟨h.tidy, fun i h0 hi => ?_, fun x hb => ?_, by simp; exact h.most, h.few, h.keyed, h.valid⟩
  · simp only [List.length_set] at hi
    by_cases e : i = id
    · subst e
      rw [rd_set_same _ _ _ h0 hi]
      exact h.par i h0 hi
    · rw [rd_set_other _ _ _ _ hx.1 h0 e]
      exact h.par i h0 hi
  · simp only [List.length_set]
    exact h.ends x hb
theorem Good.short {s : Ln} (h : Good s) {name : ByteArray} (hb : hasB s.D name = true) : name.size ≤ 16 := by
  have := h.valid name hb
  unfold validB at this
  simp only [Bool.and_eq_true, decide_eq_true_eq] at this
  exact this.2.1
def readF (s : Ln) (name : ByteArray) (t k : Int) : Int × Int :=
  if (searchF s name (readP t k)).2 = 0 ∧ (searchF s name (readP t k)).1 < 0 then ((searchF s name (readP t k)).1, 7) else searchF s name (readP t k)
def headF (s : Ln) (name : ByteArray) : Int × Int := searchF s name (fun _ => true)
set_option maxHeartbeats 4000000 in
theorem head_calls (base g b m : Nat) (s : Ln) (name : ByteArray) (w : World) (hs0 : LS base g b m s w) (hs : name.size ≤ maxLen) (hg : Good s) :
    Calls Try.prog 20 #[.pointer (some ⟨g, 0, none⟩), .string name] w fun e w' => e = .returned (.tuple #[.int .i64 (headF s name).1, .int .i64 (headF s name).2]) ∧ Below w.heap.size w w' := by
  have hc := search_in base g b m s name 48 #[] (fun _ => true) w hs0 hs hg.ok (fun h => (hg.first h).2) (enters_of Try.func48 (by kernel_rfl) rfl) (fun x W _ => head1_calls x W)
  have HC := Aside0.mk hc
  clear hc hs0 hg
  go_enter Try.func20, Try.ntmps20
  go_wp2_with (first
    | (go_at_call 46; (with_reducible refine HC.out.mono ?_); rintro e w3 ⟨rfl, hb⟩; have HB := Aside0.mk hb; clear hb)
    | fail)
  go_ret2
  exact ⟨rfl, HB.out⟩
set_option maxHeartbeats 4000000 in
theorem read_calls (base g b m : Nat) (s : Ln) (name : ByteArray) (t k : Int) (w : World) (hs0 : LS base g b m s w) (hs : name.size ≤ maxLen) (hg : Good s) :
    Calls Try.prog 18 #[.pointer (some ⟨g, 0, none⟩), .string name, .int .i64 t, .int .i64 k] w fun e w' => e = .returned (.tuple #[.int .i64 (readF s name t k).1, .int .i64 (readF s name t k).2]) ∧ Below w.heap.size w w' := by
  have hb2 : Below w.heap.size w ((w.alloc (.cells #[.int .i64 t] 3)).alloc (.cells #[.int .i64 k] 3)) := below_alloc (below_alloc (Below.refl _ _) _) _
  have ht := blk_alloc (blk_new w (.cells #[.int .i64 t] 3)) (.cells #[.int .i64 k] 3)
  have hk := blk_new (w.alloc (.cells #[.int .i64 t] 3)) (.cells #[.int .i64 k] 3)
  rw [World.size_alloc] at hk
  have hc := search_in base g b m s name 47 #[.pointer (some ⟨w.heap.size, 0, none⟩), .pointer (some ⟨w.heap.size + 1, 0, none⟩)] (readP t k) _ (hs0.below hb2) hs hg.ok (fun h => (hg.first h).2) (enters_of Try.func47 (by kernel_rfl) rfl) (fun x W hW => read1_calls _ _ t k x W (blk_below ht hW) (blk_below hk hW))
  have HC := Aside0.mk hc
  have HB2 := Aside0.mk hb2
  clear hc hs0 hg ht hk hb2
  have HF : Aside0 (∀ r, readF s name t k = r → r = readF s name t k) := ⟨fun r h => h.symm⟩
  obtain ⟨⟨v, e⟩, hr⟩ : ∃ r, searchF s name (readP t k) = r := ⟨_, rfl⟩
  by_cases h : e = 0
  · subst h
    by_cases h2 : v < 0
    · have hf : readF s name t k = (v, 7) := by unfold readF; rw [hr]; simp [h2]
      rw [hf]
      rw [hr] at HC
      clear hf hr HF
      go_enter Try.func18, Try.ntmps18
      go_wp2_with (first
        | (go_at_call 46; (with_reducible refine HC.out.mono ?_); rintro e w3 ⟨rfl, hb⟩; have HB := Aside0.mk (below_step HB2.out hb); clear hb)
        | fail)
      go_ret2
      exact ⟨rfl, HB.out⟩
    · have hf : readF s name t k = (v, 0) := by unfold readF; rw [hr]; simp [h2]
      rw [hf]
      rw [hr] at HC
      clear hf hr HF
      go_enter Try.func18, Try.ntmps18
      go_wp2_with (first
        | (go_at_call 46; (with_reducible refine HC.out.mono ?_); rintro e w3 ⟨rfl, hb⟩; have HB := Aside0.mk (below_step HB2.out hb); clear hb)
        | fail)
      go_ret2
      exact ⟨rfl, HB.out⟩
  · have hf : readF s name t k = (v, e) := by unfold readF; rw [hr]; simp [h]
    rw [hf]
    rw [hr] at HC
    have h' : (e == 0) = false := by simpa using h
    clear hf hr HF h
    go_enter Try.func18, Try.ntmps18
    go_wp2_with (first
      | (go_at_call 46; (with_reducible refine HC.out.mono ?_); rintro e w3 ⟨rfl, hb⟩; have HB := Aside0.mk (below_step HB2.out hb); clear hb)
      | fail)
    go_ret2
    exact ⟨rfl, HB.out⟩
end Go.Proofs.Ytcbkcgnigncahaa.P
