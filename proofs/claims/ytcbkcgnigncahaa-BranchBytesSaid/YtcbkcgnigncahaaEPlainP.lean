import Derived.Test.YtcbkcgnigncahaaEPlainK
namespace Go.Proofs.Ytcbkcgnigncahaa.P
open Go.RowKit Go.Maps Go.Proofs.YtcbkcgnigncahaaW.PrintWords
set_option linter.unusedVariables false
set_option linter.unusedSimpArgs false
structure Good4 (s : Ln) : Prop extends Good3 s where
  hist : ∀ i : Int, 0 ≤ i → i < s.V.length → (lkp s.D (rd_T43 s.V i).f2).1 < i ∧ (rd_T43 s.V i).f1 = firstF ((lkp s.D (rd_T43 s.V i).f2).1, lastR (vOf s.V) (rd_T43 s.V i).f2 i.toNat)
  order : ∀ i : Int, 0 ≤ i → i < s.V.length → 0 ≤ (rd_T43 s.V i).f1 → (rd_T43 s.V (rd_T43 s.V i).f1).f4 ≤ (rd_T43 s.V i).f4
  rng : ∀ i : Int, 0 ≤ i → i < s.V.length → rangeB (rd_T43 s.V i).f3 (rd_T43 s.V i).f4 (rd_T43 s.V i).f5 = true ∧ (rd_T43 s.V i).f5 ≤ 9223372036854775807 ∧ 0 ≤ (rd_T43 s.V i).f6 ∧ (rd_T43 s.V i).f6 < 18446744073709551616
section
variable {s : Ln}
theorem Good3.fork (h : Good3 s) (name : ByteArray) (fr : Int) : Good3 (forkF s name fr).2 := by
  have := h.do_ ⟨0, name, fr, 0, 0, 0, 0⟩
  unfold doF at this
  rwa [if_pos rfl] at this
theorem Good3.close (h : Good3 s) (id : Int) : Good3 (closeF s id).2 := by
  have := h.do_ ⟨2, ⟨#[]⟩, id, 0, 0, 0, 0⟩
  unfold doF at this
  rwa [if_neg (show ¬ (2 : Int) = 0 by decide), if_pos rfl] at this
theorem Good3.publish (h : Good3 s) (name : ByteArray) (a2 a3 a4 a5 : Int) : Good3 (publishF s name a2 a3 a4 a5).2.2 := by
  have := h.do_ ⟨1, name, 0, a2, a3, a4, a5⟩
  unfold doF at this
  rwa [if_neg (show ¬ (1 : Int) = 0 by decide), if_neg (show ¬ (1 : Int) = 2 by decide)] at this
theorem Good4.fork (h : Good4 s) (name : ByteArray) (fr : Int) : Good4 (forkF s name fr).2 := by
  have hg := h.toGood3.fork name fr
  revert hg
  unfold forkF
  split
  · exact fun _ => h
  split
  · exact fun _ => h
  rename_i h2
  split
  · exact fun _ => h
  split
  · exact fun _ => h
  split
  · exact fun _ => h
  intro hg
  have hnb : hasB s.D name = false := by simpa using h2
  refine ⟨hg, fun i h0 h1 => ?_, h.order, h.rng⟩
  have hb := h.branch i h0 h1
  have e : (rd_T43 s.V i).f2 ≠ name := fun e => by rw [e, hnb] at hb; cases hb
  show (lkp (s.D.put (keyB name) (lnD fr (-1))) (rd_T43 s.V i).f2).1 < i ∧ _ = firstF ((lkp (s.D.put (keyB name) (lnD fr (-1))) (rd_T43 s.V i).f2).1, _)
  rw [lkp_put_other e]
  exact h.hist i h0 h1
theorem lkp_base (h : Tidy s.D) (name x : ByteArray) (l : Int) : (lkp (s.D.put (keyB name) (lnD (lkp s.D name).1 l)) x).1 = (lkp s.D x).1 := by
  by_cases e : x = name
  · subst e; rw [lkp_put_same h]
  · rw [lkp_put_other e]
theorem Good4.publish (h : Good4 s) (name : ByteArray) (a2 a3 a4 a5 : Int) (h4 : a4 ≤ 9223372036854775807) (h5 : 0 ≤ a5 ∧ a5 < 18446744073709551616) : Good4 (publishF s name a2 a3 a4 a5).2.2 := by
  have hg := h.toGood3.publish name a2 a3 a4 a5
  revert hg
  unfold publishF
  split
  · exact fun _ => h
  rename_i h1
  have hnb : hasB s.D name = true := by simpa using h1
  split
  · exact fun _ => h
  rename_i h2
  split
  · exact fun _ => h
  rename_i h3
  split
  · exact fun _ => h
  intro hg
  have hfl := h.first hnb
  have hold : ∀ (x : ByteArray) (n : Nat), n ≤ s.V.length → lastR (vOf (s.V ++ [(⟨(s.V.length : Int), firstF (lkp s.D name), name, a2, a3, a4, a5, false⟩ : S43)])) x n = lastR (vOf s.V) x n := by
    intro x n hn
    refine lastR_agree _ (fun j hj => ?_)
    rw [rd_vOf (by omega) (by simp; omega), rd_vOf (by omega) (by omega), rd_append_left (by omega) (by omega)]
  refine ⟨hg, fun i h0 hi => ?_, fun i h0 hi hp => ?_, fun i h0 hi => ?_⟩
  · simp only [List.length_append, List.length_singleton] at hi
    simp only
    rw [lkp_base h.tidy]
    by_cases hlt : i < s.V.length
    · rw [rd_append_left h0 hlt, hold _ _ (by omega)]
      exact h.hist i h0 hlt
    · have e : i = s.V.length := by omega
      rw [rd_append_new _ _ _ e, hold _ _ (by omega)]
      simp only
      have hl := h.last name hnb
      have := h.ends name hnb
      rw [show i.toNat = s.V.length from by omega, ← hl]
      exact ⟨by omega, rfl⟩
  · simp only [List.length_append, List.length_singleton] at hi
    simp only at hp ⊢
    by_cases hlt : i < s.V.length
    · rw [rd_append_left h0 hlt] at hp ⊢
      have hpar := h.par i h0 hlt
      rw [rd_append_left hp (by omega)]
      exact h.order i h0 hlt hp
    · have e : i = s.V.length := by omega
      rw [rd_append_new _ _ _ e] at hp ⊢
      simp only at hp ⊢
      rw [rd_append_left hp (by omega)]
      rcases Int.lt_or_le a3 (rd_T43 s.V (firstF (lkp s.D name))).f4 with h7 | h7
      · exact absurd ⟨hp, h7⟩ h3
      · exact h7
  · simp only [List.length_append, List.length_singleton] at hi
    simp only
    by_cases hlt : i < s.V.length
    · rw [rd_append_left h0 hlt]
      exact h.rng i h0 hlt
    · rw [rd_append_new _ _ _ (by omega)]
      exact ⟨by simpa using h2, h4, h5.1, h5.2⟩
theorem set_same (V : List S43) (id : Int) (h0 : 0 ≤ id) (h1 : id < V.length) (b : Bool) (j : Int) (hj : 0 ≤ j) (hj2 : j < V.length) :
    rd_T43 (V.set id.toNat ⟨(rd_T43 V id).f0, (rd_T43 V id).f1, (rd_T43 V id).f2, (rd_T43 V id).f3, (rd_T43 V id).f4, (rd_T43 V id).f5, (rd_T43 V id).f6, b⟩) j = { rd_T43 V j with f7 := if j = id then b else (rd_T43 V j).f7 } := by
  by_cases e : j = id
  · subst e
    rw [rd_set_same _ _ _ hj hj2, if_pos rfl]
  · rw [rd_set_other _ _ _ _ h0 hj e, if_neg e]
theorem Good4.close (h : Good4 s) (id : Int) : Good4 (closeF s id).2 := by
  have hg := h.toGood3.close id
  revert hg
  unfold closeF
  split
  · exact fun _ => h
  rename_i h1
  have hx := exists_true (s := s) (id := id) (by simpa using h1)
  split
  · exact fun _ => h
  intro hg
  have hs := set_same s.V id hx.1 hx.2 true
  refine ⟨hg, fun i h0 hi => ?_, fun i h0 hi hp => ?_, fun i h0 hi => ?_⟩
  · simp only [List.length_set] at hi
    simp only
    rw [hs i h0 hi]
    simp only
    rw [lastR_agree (V := vOf s.V) i.toNat (fun j hj => ?_)]
    · exact h.hist i h0 hi
    · rw [rd_vOf (by omega) (by rw [List.length_set]; omega), rd_vOf (by omega) (by omega), hs _ (by omega) (by omega)]
      rfl
  · simp only [List.length_set] at hi
    simp only at hp ⊢
    rw [hs i h0 hi] at hp ⊢
    simp only at hp ⊢
    have hpar := h.par i h0 hi
    rw [hs _ hp (by omega)]
    exact h.order i h0 hi hp
  · simp only [List.length_set] at hi
    simp only
    rw [hs i h0 hi]
    exact h.rng i h0 hi
theorem good4_0 : Good4 Ln0 := ⟨good3_0, fun i h0 h1 => absurd h1 (by simp [Ln0]; omega), fun i h0 h1 => absurd h1 (by simp [Ln0]; omega), fun i h0 h1 => absurd h1 (by simp [Ln0]; omega)⟩
theorem Good4.do_ (h : Good4 s) {o : S38} (h5 : o.f5 ≤ 9223372036854775807) (h6 : 0 ≤ o.f6 ∧ o.f6 < 18446744073709551616) : Good4 (doF s o).2.2 := by
  unfold doF
  split
  · exact h.fork _ _
  split
  · exact h.close _
  · exact h.publish _ _ _ _ _ h5 h6
end
theorem sorted_ext {α : Type} {r : α → α → Prop} (hir : ∀ a, ¬ r a a) (has : ∀ a b, r a b → ¬ r b a) : ∀ {l m : List α}, l.Pairwise r → m.Pairwise r → (∀ x, x ∈ l ↔ x ∈ m) → l = m
  | [], [], _, _, _ => rfl
  | [], b :: m, _, _, h => by have := (h b).2 List.mem_cons_self; cases this
  | a :: l, [], _, _, h => by have := (h a).1 List.mem_cons_self; cases this
  | a :: l, b :: m, hl, hm, h => by
    obtain ⟨hl1, hl2⟩ := List.pairwise_cons.1 hl
    obtain ⟨hm1, hm2⟩ := List.pairwise_cons.1 hm
    have hab : a = b := by
      rcases List.mem_cons.1 ((h a).1 List.mem_cons_self) with e | h1
      · exact e
      · rcases List.mem_cons.1 ((h b).2 List.mem_cons_self) with e | h2
        · exact e.symm
        · exact absurd (hl1 b h2) (has b a (hm1 a h1))
    subst hab
    congr 1
    refine sorted_ext hir has hl2 hm2 (fun x => ⟨fun hx => ?_, fun hx => ?_⟩)
    · rcases List.mem_cons.1 ((h x).1 (List.mem_cons_of_mem _ hx)) with e | h1
      · subst e; exact absurd (hl1 _ hx) (hir _)
      · exact h1
    · rcases List.mem_cons.1 ((h x).2 (List.mem_cons_of_mem _ hx)) with e | h1
      · subst e; exact absurd (hm1 _ hx) (hir _)
      · exact h1
def befB (a b : S97) : Prop := bytesBefore a.f0.data.toList b.f0.data.toList = true
theorem bb_irr : ∀ x : List UInt8, bytesBefore x x = false
  | [] => rfl
  | a :: x => by simp [bytesBefore, bb_irr x]
theorem befB_irr (a : S97) : ¬ befB a a := fun h => by unfold befB at h; rw [bb_irr] at h; cases h
theorem befB_trans {a b c : S97} (h1 : befB a b) (h2 : befB b c) : befB a c := WideShapes.bytes_trans _ _ _ h1 h2
theorem befB_asym (a b : S97) (h1 : befB a b) (h2 : befB b a) : False := befB_irr a (befB_trans h1 h2)
theorem bOf_sorted {D : DataW Unit} (h : ∃ es, D = .map es ∧ es.Pairwise beforeP) (hk : Keyed D) : (bOf D).Pairwise befB := by
  obtain ⟨es, rfl, hp⟩ := h
  obtain ⟨es', he', hk⟩ := hk
  obtain rfl : es = es' := by injection he'
  have hs := keyed_all hk
  show (es.map toB).Pairwise befB
  rw [List.pairwise_map]
  refine hp.imp_of_mem (fun {p q} h1 h2 hpq => ?_)
  have e1 := str_key (hs p h1)
  have e2 := str_key (hs q h2)
  unfold beforeP at hpq
  rw [e1, e2] at hpq
  exact hpq
theorem bOf_uniq {D : DataW Unit} (h : (bOf D).Pairwise befB) : ∀ a ∈ bOf D, ∀ b ∈ bOf D, a.f0 = b.f0 → a = b := by
  generalize bOf D = l at h
  induction l with
  | nil => intro a ha; cases ha
  | cons c l ih =>
    obtain ⟨h1, h2⟩ := List.pairwise_cons.1 h
    intro a ha b hb e
    rcases List.mem_cons.1 ha with e1 | ha1
    · rcases List.mem_cons.1 hb with e2 | hb1
      · rw [e1, e2]
      · have := h1 b hb1; unfold befB at this; rw [← e1, e, bb_irr] at this; cases this
    · rcases List.mem_cons.1 hb with e2 | hb1
      · have := h1 a ha1; unfold befB at this; rw [e, e2, bb_irr] at this; cases this
      · exact ih h2 a ha1 b hb1 e
theorem findR_spec {B : List S97} {name : ByteArray} (h : 0 ≤ findR B name) : rd_T97 B (findR B name) ∈ B ∧ (rd_T97 B (findR B name)).f0 = name := by
  unfold findR at h ⊢
  cases hf : B.findIdx? (fun b => decide (b.f0 = name)) with
  | none => rw [hf] at h; exact absurd h (by decide)
  | some i =>
    simp only
    rw [List.findIdx?_eq_some_iff_getElem] at hf
    obtain ⟨hi, h1, _⟩ := hf
    rw [rd97_at i hi]
    exact ⟨List.getElem_mem _, by simpa using h1⟩
theorem findR_no {B : List S97} {name : ByteArray} (h : findR B name = -1) : ∀ b ∈ B, b.f0 ≠ name := by
  unfold findR at h
  cases hf : B.findIdx? (fun b => decide (b.f0 = name)) with
  | none =>
    rw [List.findIdx?_eq_none_iff] at hf
    intro b hb
    simpa using hf b hb
  | some i => rw [hf] at h; simp only at h; omega
theorem mem_bOf {D : DataW Unit} (h : ∃ es, D = .map es ∧ es.Pairwise beforeP) (hk : Keyed D) (b : S97) : b ∈ bOf D ↔ (hasB D b.f0 = true ∧ b.f1 = (lkp D b.f0).1) := by
  have hs := bOf_sorted h hk
  have hu := bOf_uniq hs
  rcases find_of hk b.f0 with ⟨h1, h2⟩ | ⟨h1, h2, h3, h4⟩
  · constructor
    · intro hb; exact absurd rfl (findR_no h2 b hb)
    · intro hb; rw [h1] at hb; exact absurd hb.1 (by decide)
  · obtain ⟨m1, m2⟩ := findR_spec h2
    constructor
    · intro hb
      have e := hu _ m1 b hb m2
      rw [e] at h4
      exact ⟨h1, h4⟩
    · intro hb
      have e : rd_T97 (bOf D) (findR (bOf D) b.f0) = b := by
        obtain ⟨x, y⟩ := b
        cases hr : rd_T97 (bOf D) (findR (bOf D) x) with
        | mk x' y' =>
          simp only at m2 h4 hb
          rw [hr] at m2 h4
          simp only at m2 h4
          rw [m2, h4, ← hb.2]
      rw [← e]
      exact m1
theorem rf_same {s s0 : Ln} (h : Good2 s) (h0 : Good2 s0) (hV : s.V = s0.V) (hb : ∀ x, hasB s.D x = hasB s0.D x) (hl : ∀ x, hasB s0.D x = true → (lkp s.D x).1 = (lkp s0.D x).1) : rfOf s = rfOf s0 := by
  unfold rfOf
  rw [hV]
  congr 1
  refine sorted_ext befB_irr befB_asym (bOf_sorted h.ris h.keyed) (bOf_sorted h0.ris h0.keyed) (fun b => ?_)
  rw [mem_bOf h.ris h.keyed, mem_bOf h0.ris h0.keyed, hb]
  constructor
  · intro ⟨h1, h2⟩; exact ⟨h1, by rw [h2, hl _ h1]⟩
  · intro ⟨h1, h2⟩; exact ⟨h1, by rw [h2, hl _ h1]⟩
theorem nodup_le {α : Type} [DecidableEq α] : ∀ {l m : List α}, l.Nodup → (∀ x ∈ l, x ∈ m) → l.length ≤ m.length
  | [], _, _, _ => Nat.zero_le _
  | a :: l, m, hn, h => by
    obtain ⟨h1, h2⟩ := List.nodup_cons.1 hn
    have ha := h a List.mem_cons_self
    have := nodup_le (m := m.erase a) h2 (fun x hx => (List.mem_erase_of_ne (fun e => h1 (by rw [← e]; exact hx))).2 (h x (List.mem_cons_of_mem _ hx)))
    rw [List.length_erase_of_mem ha] at this
    have := List.length_pos_of_mem ha
    simp only [List.length_cons]
    omega
/-- The names of a map. -/
def namesD (D : DataW Unit) : List ByteArray := (bOf D).map (·.f0)
theorem namesD_len {D : DataW Unit} (hk : Keyed D) : (namesD D).length = Maps.size D := by
  unfold namesD
  rw [List.length_map]
  exact bOf_len ⟨D, []⟩ hk
theorem mem_namesD {D : DataW Unit} (hk : Keyed D) (x : ByteArray) : x ∈ namesD D ↔ hasB D x = true := by
  unfold namesD
  rcases find_of hk x with ⟨h1, h2⟩ | ⟨h1, h2, h3, h4⟩
  · constructor
    · intro hx
      obtain ⟨b, hb, e⟩ := List.mem_map.1 hx
      exact absurd e (findR_no h2 b hb)
    · intro hb; rw [h1] at hb; cases hb
  · obtain ⟨m1, m2⟩ := findR_spec h2
    exact ⟨fun _ => h1, fun _ => List.mem_map.2 ⟨_, m1, m2⟩⟩
theorem namesD_nodup {D : DataW Unit} (h : ∃ es, D = .map es ∧ es.Pairwise beforeP) (hk : Keyed D) : (namesD D).Nodup := by
  unfold namesD List.Nodup
  rw [List.pairwise_map]
  refine (bOf_sorted h hk).imp (fun {a b} hab e => ?_)
  unfold befB at hab
  rw [e, bb_irr] at hab
  cases hab
end Go.Proofs.Ytcbkcgnigncahaa.P
namespace Go.Proofs.Ytcbkcgnigncahaa.P
open Go.RowKit Go.Maps Go.Proofs.YtcbkcgnigncahaaW.PrintWords
set_option linter.unusedVariables false
set_option linter.unusedSimpArgs false
def intD (z : Int) : DataW Unit := .lit (.int .i64 z)
def intOfD (d : DataW Unit) : Int := match d with
  | .lit (.int .i64 z) => z
  | _ => 0
/-- The base that a map of bases keeps for a name. -/
def baseD (D : DataW Unit) (x : ByteArray) : Int := intOfD (D.atKey (keyB x) (intD 0))
theorem baseD_put_same {D : DataW Unit} (h : Tidy D) (x : ByteArray) (z : Int) : baseD (D.put (keyB x) (intD z)) x = z := by
  unfold baseD
  rw [atKey_put_same h.isMap (key_lit2 _)]
  rfl
theorem baseD_put_other {D : DataW Unit} {name x : ByteArray} (hne : x ≠ name) (d : DataW Unit) : baseD (D.put (keyB name) d) x = baseD D x := by
  unfold baseD
  rw [atKey_put_other (fun e => hne (keyB_inj e))]
/-- m versions are published again; of the names whose base is the last of these, those that are done are forked. -/
structure Stage (D0 : DataW Unit) (vs : List S43) (m : Nat) (done : ByteArray → Bool) (s : Ln) : Prop where
  good : Good4 s
  len : s.V.length = m
  vers : ∀ i : Int, 0 ≤ i → i < m → rd_T43 s.V i = { rd_T43 vs i with f0 := i, f7 := false }
  has : ∀ x, hasB s.D x = true ↔ (hasB D0 x = true ∧ -1 ≤ baseD D0 x ∧ (baseD D0 x < (m : Int) - 1 ∨ (baseD D0 x = (m : Int) - 1 ∧ done x = true)))
  base : ∀ x, hasB s.D x = true → (lkp s.D x).1 = baseD D0 x
section
variable {D0 : DataW Unit} {vs : List S43} {m : Nat} {done : ByteArray → Bool} {s s0 : Ln}
theorem stage0 : Stage D0 vs 0 (fun _ => false) Ln0 := by
  refine ⟨good4_0, rfl, fun i h0 h1 => by omega, fun x => ⟨fun h => absurd h (by simp [Ln0, hasB, Maps.has, has_eq]), fun h => ?_⟩, fun x h => absurd h (by simp [Ln0, hasB, Maps.has, has_eq])⟩
  obtain ⟨_, h1, h2 | h2⟩ := h
  · exact absurd h2 (by simp; omega)
  · cases h2.2
theorem Stage.fork {x : ByteArray} {done' : ByteArray → Bool} (h : Stage D0 vs m done s) (hx : hasB D0 x = true) (hb : baseD D0 x = (m : Int) - 1) (hd : ∀ y, y ≠ x → done' y = done y) (hd2 : done' x = true) (hok : (forkF s x ((m : Int) - 1)).1 = 0) :
    Stage D0 vs m done' (forkF s x ((m : Int) - 1)).2 := by
  have hg := h.good.fork x ((m : Int) - 1)
  revert hok hg
  unfold forkF
  split
  · exact fun h => absurd h (by simp)
  split
  · exact fun h => absurd h (by simp)
  split
  · exact fun h => absurd h (by simp)
  split
  · exact fun h => absurd h (by simp)
  split
  · exact fun h => absurd h (by simp)
  intro _ hg
  refine ⟨hg, h.len, h.vers, fun y => ?_, fun y hy => ?_⟩
  · by_cases e : y = x
    · subst e
      simp only
      rw [hasB_put_same h.good.tidy]
      exact ⟨fun _ => ⟨hx, by omega, .inr ⟨hb, hd2⟩⟩, fun _ => rfl⟩
    · simp only
      rw [hasB_put_other e, hd y e]
      exact h.has y
  · simp only at hy ⊢
    by_cases e : y = x
    · subst e
      rw [lkp_put_same h.good.tidy]
      exact hb.symm
    · rw [lkp_put_other e]
      rw [hasB_put_other e] at hy
      exact h.base y hy
/-- A name whose base is another one may be called done. -/
theorem Stage.skip {x : ByteArray} {done' : ByteArray → Bool} (h : Stage D0 vs m done s) (hb : baseD D0 x ≠ (m : Int) - 1) (hd : ∀ y, y ≠ x → done' y = done y) : Stage D0 vs m done' s := by
  refine ⟨h.good, h.len, h.vers, fun y => ?_, h.base⟩
  rw [h.has y]
  by_cases e : y = x
  · subst e
    constructor
    · rintro ⟨h1, h2, h3 | h3⟩
      · exact ⟨h1, h2, .inl h3⟩
      · exact absurd h3.1 hb
    · rintro ⟨h1, h2, h3 | h3⟩
      · exact ⟨h1, h2, .inl h3⟩
      · exact absurd h3.1 hb
  · rw [hd y e]
theorem Stage.all (h : Stage D0 vs m done s) (hd : ∀ x, hasB D0 x = true → done x = true) : Stage D0 vs m (fun _ => true) s := by
  refine ⟨h.good, h.len, h.vers, fun y => ?_, h.base⟩
  rw [h.has y]
  constructor
  · rintro ⟨h1, h2, h3 | h3⟩
    · exact ⟨h1, h2, .inl h3⟩
    · exact ⟨h1, h2, .inr ⟨h3.1, rfl⟩⟩
  · rintro ⟨h1, h2, h3 | h3⟩
    · exact ⟨h1, h2, .inl h3⟩
    · exact ⟨h1, h2, .inr ⟨h3.1, hd y h1⟩⟩
theorem Stage.next (h : Stage D0 vs m (fun _ => true) s) (h5 : (rd_T43 vs (m : Int)).f5 ≤ 9223372036854775807) (h6 : 0 ≤ (rd_T43 vs (m : Int)).f6 ∧ (rd_T43 vs (m : Int)).f6 < 18446744073709551616)
    (hok : (publishF s (rd_T43 vs (m : Int)).f2 (rd_T43 vs (m : Int)).f3 (rd_T43 vs (m : Int)).f4 (rd_T43 vs (m : Int)).f5 (rd_T43 vs (m : Int)).f6).2.1 = 0)
    (hp : (rd_T43 (publishF s (rd_T43 vs (m : Int)).f2 (rd_T43 vs (m : Int)).f3 (rd_T43 vs (m : Int)).f4 (rd_T43 vs (m : Int)).f5 (rd_T43 vs (m : Int)).f6).2.2.V (m : Int)).f1 = (rd_T43 vs (m : Int)).f1) :
    Stage D0 vs (m + 1) (fun _ => false) (publishF s (rd_T43 vs (m : Int)).f2 (rd_T43 vs (m : Int)).f3 (rd_T43 vs (m : Int)).f4 (rd_T43 vs (m : Int)).f5 (rd_T43 vs (m : Int)).f6).2.2 := by
  have hg := h.good.publish (rd_T43 vs (m : Int)).f2 (rd_T43 vs (m : Int)).f3 (rd_T43 vs (m : Int)).f4 (rd_T43 vs (m : Int)).f5 (rd_T43 vs (m : Int)).f6 h5 h6
  revert hok hg hp
  unfold publishF
  split
  · exact fun h => absurd h (by simp)
  rename_i hb1
  have hnb : hasB s.D (rd_T43 vs (m : Int)).f2 = true := by simpa using hb1
  split
  · exact fun h => absurd h (by simp)
  split
  · exact fun h => absurd h (by simp)
  split
  · exact fun h => absurd h (by simp)
  intro _ hp hg
  have hl := h.len
  simp only at hp
  rw [rd_append_new _ _ _ (by omega)] at hp
  simp only at hp
  have hhas : ∀ x, hasB (s.D.put (keyB (rd_T43 vs (m : Int)).f2) (lnD (lkp s.D (rd_T43 vs (m : Int)).f2).1 (s.V.length : Int))) x = hasB s.D x := by
    intro x
    by_cases e : x = (rd_T43 vs (m : Int)).f2
    · subst e; rw [hasB_put_same h.good.tidy, hnb]
    · exact hasB_put_other e _
  refine ⟨hg, by simp; omega, fun i h0 h1 => ?_, fun x => ?_, fun x hx => ?_⟩
  · simp only
    by_cases hlt : i < m
    · rw [rd_append_left h0 (by omega)]
      exact h.vers i h0 hlt
    · have e : i = m := by omega
      subst e
      rw [rd_append_new _ _ _ (by omega), hp, hl]
  · simp only
    rw [hhas, h.has x]
    constructor
    · rintro ⟨h1, h2, h3⟩
      exact ⟨h1, h2, .inl (by rcases h3 with h3 | h3 <;> omega)⟩
    · rintro ⟨h1, h2, h3 | h3⟩
      · exact ⟨h1, h2, by
          rcases Int.lt_or_eq_of_le (show baseD D0 x ≤ (m : Int) - 1 by omega) with h4 | h4
          · exact .inl h4
          · exact .inr ⟨h4, rfl⟩⟩
      · exact absurd h3.2 (by decide)
  · simp only at hx ⊢
    rw [hhas] at hx
    rw [lkp_base h.good.tidy]
    exact h.base x hx
/-- Bases and versions that come from a line. -/
structure Comes (D0 : DataW Unit) (vs : List S43) (s0 : Ln) : Prop where
  good : Good4 s0
  keyed : Keyed D0
  ris : ∃ es, D0 = .map es ∧ es.Pairwise beforeP
  len : vs.length = s0.V.length
  vers : ∀ i : Int, 0 ≤ i → i < vs.length → rd_T43 vs i = { rd_T43 s0.V i with f0 := 0 }
  has : ∀ x, hasB D0 x = hasB s0.D x
  base : ∀ x, hasB s0.D x = true → baseD D0 x = (lkp s0.D x).1
theorem Comes.few (c : Comes D0 vs s0) : Maps.size D0 ≤ 64 := by
  rw [← namesD_len c.keyed]
  refine Nat.le_trans ?_ (Nat.le_trans (Nat.le_of_eq (namesD_len c.good.keyed)) c.good.few)
  exact nodup_le (namesD_nodup c.ris c.keyed) (fun x hx => by
    rw [mem_namesD c.keyed, c.has] at hx
    exact (mem_namesD c.good.keyed x).2 hx)
theorem Comes.fork_ok (c : Comes D0 vs s0) (h : Stage D0 vs m done s) {x : ByteArray} (hx : hasB D0 x = true) (hb : baseD D0 x = (m : Int) - 1) (hd : done x = false) : (forkF s x ((m : Int) - 1)).1 = 0 := by
  have hx0 : hasB s0.D x = true := by rw [← c.has]; exact hx
  have hv := c.good.valid x hx0
  have hno : hasB s.D x = false := by
    cases hh : hasB s.D x with
    | false => rfl
    | true =>
      obtain ⟨_, _, h3 | h3⟩ := (h.has x).1 hh
      · omega
      · rw [hd] at h3; cases h3.2
  have hsz : Maps.size s.D < 64 := by
    have h1 : (x :: namesD s.D).Nodup := List.nodup_cons.2 ⟨fun hm => (by rw [mem_namesD h.good.keyed, hno] at hm; cases hm), namesD_nodup h.good.ris h.good.keyed⟩
    have h2 := nodup_le (m := namesD D0) h1 (fun y hy => by
      rw [mem_namesD c.keyed]
      rcases List.mem_cons.1 hy with rfl | hy
      · exact hx
      · exact ((h.has y).1 ((mem_namesD h.good.keyed y).1 hy)).1)
    have h3 := namesD_len h.good.keyed
    have h4 := namesD_len c.keyed
    have h5 := c.few
    simp only [List.length_cons] at h2
    omega
  have hl := h.len
  unfold forkF
  rw [if_neg (by rw [hv]; decide), if_neg (by rw [hno]; decide)]
  by_cases hm : (m : Int) - 1 = -1
  · rw [if_neg (fun h => h.1 hm), if_neg (fun h => h.1 hm), if_neg (by omega)]
  · have he : existsB s ((m : Int) - 1) = true := by
      unfold existsB
      simp only [Bool.and_eq_true, decide_eq_true_eq]
      omega
    have hc : closedB s ((m : Int) - 1) = false := by
      unfold closedB
      rw [h.vers _ (by omega) (by omega)]
    rw [if_neg (by rw [he]; simp), if_neg (by rw [hc]; simp), if_neg (by omega)]
theorem Comes.publish_ok (c : Comes D0 vs s0) (h : Stage D0 vs m (fun _ => true) s) (hm : m < vs.length) :
    (publishF s (rd_T43 vs (m : Int)).f2 (rd_T43 vs (m : Int)).f3 (rd_T43 vs (m : Int)).f4 (rd_T43 vs (m : Int)).f5 (rd_T43 vs (m : Int)).f6).2.1 = 0 ∧
    (rd_T43 (publishF s (rd_T43 vs (m : Int)).f2 (rd_T43 vs (m : Int)).f3 (rd_T43 vs (m : Int)).f4 (rd_T43 vs (m : Int)).f5 (rd_T43 vs (m : Int)).f6).2.2.V (m : Int)).f1 = (rd_T43 vs (m : Int)).f1 := by
  have hcl := c.len
  have hl := h.len
  have hv := c.vers (m : Int) (by omega) (by omega)
  have hlt : (m : Int) < s0.V.length := by omega
  have hbr := c.good.branch (m : Int) (by omega) hlt
  obtain ⟨hh1, hh2⟩ := c.good.hist (m : Int) (by omega) hlt
  have hor := c.good.order (m : Int) (by omega) hlt
  have hrg := c.good.rng (m : Int) (by omega) hlt
  have hends := c.good.ends _ hbr
  have hpar := c.good.par (m : Int) (by omega) hlt
  have hmost := c.good.most
  obtain ⟨q, hq⟩ : ∃ q, rd_T43 s0.V (m : Int) = q := ⟨_, rfl⟩
  rw [hq] at hv hbr hh1 hh2 hor hrg hends hpar
  rw [hv]
  simp only
  have hb0 : hasB D0 q.f2 = true := by rw [c.has]; exact hbr
  have hbase := c.base _ hbr
  have hnb : hasB s.D q.f2 = true := by
    refine (h.has _).2 ⟨hb0, by omega, ?_⟩
    rcases Int.lt_or_eq_of_le (show baseD D0 q.f2 ≤ (m : Int) - 1 by omega) with h4 | h4
    · exact .inl h4
    · exact .inr ⟨h4, rfl⟩
  have hlb := h.base _ hnb
  have hlast := h.good.last _ hnb
  have hag : lastR (vOf s.V) q.f2 m = lastR (vOf s0.V) q.f2 m := by
    refine lastR_agree _ (fun j hj => ?_)
    rw [rd_vOf (by omega) (by omega), rd_vOf (by omega) (by omega)]
    show (rd_T43 s.V (j : Int)).f2 = (rd_T43 s0.V (j : Int)).f2
    rw [h.vers _ (by omega) (by omega), c.vers _ (by omega) (by omega)]
  have hfst : firstF (lkp s.D q.f2) = q.f1 := by
    rw [hh2, Int.toNat_natCast, ← hag]
    rw [hl] at hlast
    unfold firstF
    simp only
    rw [hlast, hlb, hbase]
  unfold publishF
  rw [hfst, if_neg (by rw [hnb]; decide), if_neg (by rw [hrg.1]; decide), if_neg ?_, if_neg (by omega)]
  · refine ⟨rfl, ?_⟩
    simp only
    rw [rd_append_new _ _ _ (by omega)]
  · rintro ⟨h1, h2⟩
    rw [h.vers _ h1 (by omega), c.vers _ h1 (by omega)] at h2
    simp only at h2
    have := hor h1
    omega
/-- The versions below j are closed again. -/
structure Shut (D0 : DataW Unit) (vs : List S43) (j : Nat) (s : Ln) : Prop where
  good : Good4 s
  len : s.V.length = vs.length
  vers : ∀ i : Int, 0 ≤ i → i < vs.length → rd_T43 s.V i = { rd_T43 vs i with f0 := i, f7 := if i < j then (rd_T43 vs i).f7 else false }
  has : ∀ x, hasB s.D x = true ↔ (hasB D0 x = true ∧ -1 ≤ baseD D0 x ∧ baseD D0 x < vs.length)
  base : ∀ x, hasB s.D x = true → (lkp s.D x).1 = baseD D0 x
theorem Stage.shut (h : Stage D0 vs vs.length (fun _ => true) s) : Shut D0 vs 0 s := by
  refine ⟨h.good, h.len, fun i h0 h1 => ?_, fun x => ?_, h.base⟩
  · rw [h.vers i h0 h1, if_neg (by omega)]
  · rw [h.has x]
    constructor
    · rintro ⟨h1, h2, h3⟩
      exact ⟨h1, h2, by rcases h3 with h3 | h3 <;> omega⟩
    · rintro ⟨h1, h2, h3⟩
      refine ⟨h1, h2, ?_⟩
      rcases Int.lt_or_eq_of_le (show baseD D0 x ≤ (vs.length : Int) - 1 by omega) with h4 | h4
      · exact .inl h4
      · exact .inr ⟨h4, rfl⟩
theorem Shut.close {j : Nat} (h : Shut D0 vs j s) (hj : j < vs.length) (hc : (rd_T43 vs (j : Int)).f7 = true) : Shut D0 vs (j + 1) (closeF s (j : Int)).2 := by
  have hg := h.good.close (j : Int)
  have hl := h.len
  have he : existsB s (j : Int) = true := by
    unfold existsB
    simp only [Bool.and_eq_true, decide_eq_true_eq]
    omega
  have hcl : closedB s (j : Int) = false := by
    unfold closedB
    rw [h.vers _ (by omega) (by omega)]
    simp only
    rw [if_neg (by omega)]
  have hs := set_same s.V (j : Int) (by omega) (by omega) true
  unfold closeF at hg ⊢
  rw [if_neg (by rw [he]; decide), if_neg (by rw [hcl]; decide)] at hg ⊢
  refine ⟨hg, by simp only [List.length_set]; exact hl, fun i h0 h1 => ?_, h.has, h.base⟩
  simp only
  rw [hs i h0 (by omega), h.vers i h0 h1]
  simp only
  by_cases e : i = j
  · subst e
    rw [if_pos rfl, if_pos (by omega), hc]
  · rw [if_neg e]
    by_cases h2 : i < j
    · rw [if_pos h2, if_pos (by omega)]
    · rw [if_neg h2, if_neg (by omega)]
theorem Shut.pass {j : Nat} (h : Shut D0 vs j s) (hc : (rd_T43 vs (j : Int)).f7 = false) : Shut D0 vs (j + 1) s := by
  refine ⟨h.good, h.len, fun i h0 h1 => ?_, h.has, h.base⟩
  rw [h.vers i h0 h1]
  by_cases e : i = j
  · subst e
    rw [if_neg (by omega), if_pos (by omega), hc]
  · by_cases h2 : i < j
    · rw [if_pos h2, if_pos (by omega)]
    · rw [if_neg h2, if_neg (by omega)]
theorem rd_ext {l m : List S43} (hl : l.length = m.length) (h : ∀ i : Int, 0 ≤ i → i < l.length → rd_T43 l i = rd_T43 m i) : l = m := by
  refine List.ext_getElem hl (fun i h1 h2 => ?_)
  have := h (i : Int) (by omega) (by omega)
  unfold rd_T43 at this
  rw [List.getD_eq_getElem?_getD, List.getD_eq_getElem?_getD, Int.toNat_natCast, List.getElem?_eq_getElem h1, List.getElem?_eq_getElem h2] at this
  exact this
/-- What is played again from a line's bases and versions is that line. -/
theorem Comes.back (c : Comes D0 vs s0) (h : Shut D0 vs vs.length s) : rfOf s = rfOf s0 ∧ Maps.size s.D = Maps.size D0 := by
  have hcl := c.len
  have hl := h.len
  have hhas : ∀ x, hasB s.D x = hasB s0.D x := by
    intro x
    rw [Bool.eq_iff_iff, h.has x, c.has]
    constructor
    · exact fun h => h.1
    · intro hx
      have := c.good.ends x hx
      rw [c.base x hx]
      exact ⟨hx, this.1, by omega⟩
  refine ⟨rf_same h.good.toGood2 c.good.toGood2 (rd_ext (by omega) (fun i h0 h1 => ?_)) hhas (fun x hx => ?_), ?_⟩
  · have hp := c.good.par i h0 (by omega)
    rw [h.vers i h0 (by omega), if_pos (by omega), c.vers i h0 (by omega)]
    cases hq : rd_T43 s0.V i with
    | mk f0 f1 f2 f3 f4 f5 f6 f7 =>
      rw [hq] at hp
      simp only at hp ⊢
      rw [hp.2.2]
  · rw [h.base x (by rw [hhas]; exact hx), c.base x hx]
  · rw [← namesD_len h.good.keyed, ← namesD_len c.keyed]
    refine Nat.le_antisymm (nodup_le (namesD_nodup h.good.ris h.good.keyed) (fun x hx => ?_)) (nodup_le (namesD_nodup c.ris c.keyed) (fun x hx => ?_))
    · rw [mem_namesD h.good.keyed, hhas, ← c.has] at hx
      exact (mem_namesD c.keyed x).2 hx
    · rw [mem_namesD c.keyed, c.has, ← hhas] at hx
      exact (mem_namesD h.good.keyed x).2 hx
end
end Go.Proofs.Ytcbkcgnigncahaa.P
