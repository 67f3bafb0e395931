import Derived.Test.YtcbkcgnigncahaaVPlainC
import Derived.Test.YtcbkcgnigncahaaVPlainD
namespace Go.Proofs.Ytcbkcgnigncahaa.P
open Go.RowKit Go.Maps Go.Proofs.YtcbkcgnigncahaaW.PrintWords
set_option linter.unusedVariables false
set_option linter.unusedSimpArgs false
/-- What a line satisfies after n operations of scripts. -/
structure Ran (n : Nat) (s : Ln) : Prop where
  good : Good s
  few : Maps.size s.D ≤ n
  vers : s.V.length ≤ n
  names : ∀ name, hasB s.D name = true → name ∈ namesL
  known : ∀ i : Int, 0 ≤ i → i < s.V.length → tickB (rd_T43 s.V i).f4 = true
theorem Ran.more {n : Nat} {s : Ln} (h : Ran n s) : Ran (n + 1) s := ⟨h.good, Nat.le_succ_of_le h.few, Nat.le_succ_of_le h.vers, h.names, h.known⟩
theorem ran0 : Ran 0 Ln0 := ⟨good0, Nat.le_refl _, Nat.le_refl _, fun name h => absurd h (by simp [Ln0, hasB, Maps.has, has_eq]), fun i h0 h1 => absurd h1 (by simp [Ln0]; omega)⟩
theorem Ran.fork {n : Nat} {s : Ln} (h : Ran n s) (name : ByteArray) (hn : name ∈ namesL) (fr : Int) : Ran (n + 1) (forkF s name fr).2 := by
  have hg := h.good.fork name fr
  revert hg
  unfold forkF
  split
  · exact fun _ => h.more
  split
  · exact fun _ => h.more
  split
  · exact fun _ => h.more
  split
  · exact fun _ => h.more
  split
  · exact fun _ => h.more
  intro hg
  refine ⟨hg, ?_, Nat.le_succ_of_le h.vers, fun x hx => ?_, h.known⟩
  · have := (size_put_le h.good.tidy name (lnD fr (-1))).1
    have h2 := h.few
    show Maps.size (s.D.put (keyB name) (lnD fr (-1))) ≤ n + 1
    omega
  · by_cases e : x = name
    · rw [e]; exact hn
    · exact h.names x (by rw [← hasB_put_other e]; exact hx)
theorem Ran.close {n : Nat} {s : Ln} (h : Ran n s) (id : Int) : Ran (n + 1) (closeF s id).2 := by
  have hg := h.good.close id
  revert hg
  unfold closeF
  split
  · exact fun _ => h.more
  rename_i h1
  have hx := exists_true (s := s) (id := id) (by simpa using h1)
  split
  · exact fun _ => h.more
  intro hg
  refine ⟨hg, Nat.le_succ_of_le h.few, by simpa using Nat.le_succ_of_le h.vers, h.names, fun i h0 hi => ?_⟩
  simp only [List.length_set] at hi
  by_cases e : i = id
  · subst e
    rw [rd_set_same _ _ _ h0 hi]
    exact h.known i h0 hi
  · rw [rd_set_other _ _ _ _ hx.1 h0 e]
    exact h.known i h0 hi
theorem Ran.publish {n : Nat} {s : Ln} (h : Ran n s) (name : ByteArray) (a2 a3 a4 a5 : Int) : Ran (n + 1) (publishF s name a2 a3 a4 a5).2.2 := by
  have hg := h.good.publish name a2 a3 a4 a5
  revert hg
  unfold publishF
  split
  · exact fun _ => h.more
  rename_i h1
  have h1' : hasB s.D name = true := by simpa using h1
  split
  · exact fun _ => h.more
  rename_i h2
  split
  · exact fun _ => h.more
  split
  · exact fun _ => h.more
  intro hg
  refine ⟨hg, ?_, by have := h.vers; simp; omega, fun x hx => ?_, fun i h0 hi => ?_⟩
  · have := (size_put_le h.good.tidy name (lnD (lkp s.D name).1 (s.V.length : Int))).2 h1'
    have h2 := h.few
    show Maps.size (s.D.put (keyB name) (lnD (lkp s.D name).1 (s.V.length : Int))) ≤ n + 1
    omega
  · by_cases e : x = name
    · rw [e]; exact h.names _ h1'
    · exact h.names x (by rw [← hasB_put_other e]; exact hx)
  · simp only [List.length_append, List.length_singleton] at hi
    by_cases hlt : i < s.V.length
    · rw [rd_append_left h0 hlt]
      exact h.known i h0 hlt
    · rw [rd_append_new _ _ _ (by omega)]
      have h2' : rangeB a2 a3 a4 = true := by simpa using h2
      unfold rangeB at h2'
      simp only [Bool.and_eq_true] at h2'
      exact h2'.2.1
theorem Ran.do_ {n : Nat} {s : Ln} (h : Ran n s) {o : S38} (ho : OpOk o) : Ran (n + 1) (doF s o).2.2 := by
  unfold doF
  split
  · exact h.fork _ ho.name _
  split
  · exact h.close _
  · exact h.publish _ _ _ _ _
/-- Where the elder versions stand, a search among them answers the same. -/
theorem search_agree {s s' : Ln} (hg : LnOk s) (n : Int) (hn : n ≤ s.V.length) (h : ∀ j : Int, 0 ≤ j → j < n → rd_T43 s'.V j = rd_T43 s.V j) (p : S43 → Bool) : ∀ (k : Nat) (i : Int), i < n → searchGo s' p k i = searchGo s p k i
  | 0, i, hi => rfl
  | k + 1, i, hi => by
    simp only [searchGo]
    by_cases h0 : i < 0
    · rw [if_pos h0, if_pos h0]
    · rw [if_neg h0, if_neg h0, h i (by omega) hi]
      have := hg i (by omega) (by omega)
      rw [search_agree hg n hn h p k _ (by omega)]
def nNew : ByteArray := ByteArray.mk #[110, 101, 119]
def nNewer : ByteArray := ByteArray.mk #[110, 101, 119, 101, 114]
theorem new_valid : validB nNew = true ∧ validB nNewer = true ∧ nNew ≠ nNewer := by decide +kernel
theorem new_not : namesL.all (fun x => decide (x ≠ nNew) && decide (x ≠ nNewer)) = true := by decide +kernel
theorem Ran.not_new {n : Nat} {s : Ln} (h : Ran n s) : hasB s.D nNew = false ∧ hasB s.D nNewer = false := by
  constructor
  · cases hb : hasB s.D nNew with
    | false => rfl
    | true =>
      have := List.all_eq_true.1 new_not _ (h.names _ hb)
      simp at this
  · cases hb : hasB s.D nNewer with
    | false => rfl
    | true =>
      have := List.all_eq_true.1 new_not _ (h.names _ hb)
      simp at this
theorem fork_empty {n : Nat} {s : Ln} (h : Ran n s) (h0 : s.V.length = 0) : forkF s nNew 0 = (7, s) := by
  unfold forkF
  rw [if_neg (by rw [new_valid.1]; decide), if_neg (by rw [h.not_new.1]; decide), if_pos ⟨by decide, by unfold existsB; rw [h0]; decide⟩]
theorem exists_of {s : Ln} {a : Int} (h0 : 0 ≤ a) (h1 : a < s.V.length) : existsB s a = true := by
  unfold existsB
  simp
  omega
theorem fork_closed {n : Nat} {s : Ln} (h : Ran n s) {a : Int} (h0 : 0 ≤ a) (h1 : a < s.V.length) (hc : closedB s a = true) : forkF s nNew a = (28, s) := by
  unfold forkF
  rw [if_neg (by rw [new_valid.1]; decide), if_neg (by rw [h.not_new.1]; decide), if_neg (by rw [exists_of h0 h1]; simp), if_pos ⟨by omega, hc⟩]
/-- The state behind Fork("new", a), and those behind the Publish and the Close. -/
def fk2 (s : Ln) (a : Int) : Ln := ⟨s.D.put (keyB nNew) (lnD a (-1)), s.V⟩
def fkx (s : Ln) (a : Int) (cl : Bool) : S43 := ⟨(s.V.length : Int), a, nNew, 0, (rd_T43 s.V a).f4, -1, 3, cl⟩
def fk3 (s : Ln) (a : Int) : Ln := ⟨(s.D.put (keyB nNew) (lnD a (-1))).put (keyB nNew) (lnD a (s.V.length : Int)), s.V ++ [fkx s a false]⟩
def fk4 (s : Ln) (a : Int) : Ln := ⟨(s.D.put (keyB nNew) (lnD a (-1))).put (keyB nNew) (lnD a (s.V.length : Int)), s.V ++ [fkx s a true]⟩
section
variable {n : Nat} {s : Ln} {a : Int}
theorem fork_new (h : Ran n s) (hn : n ≤ 60) (h0 : 0 ≤ a) (h1 : a < s.V.length) (hc : closedB s a = false) : forkF s nNew a = (0, fk2 s a) := by
  unfold forkF
  rw [if_neg (by rw [new_valid.1]; decide), if_neg (by rw [h.not_new.1]; decide), if_neg (by rw [exists_of h0 h1]; simp), if_neg (by rw [hc]; simp), if_neg (by have := h.few; omega)]
  rfl
theorem fk2_lkp (h : Ran n s) : lkp (fk2 s a).D nNew = (a, -1) ∧ hasB (fk2 s a).D nNew = true := ⟨lkp_put_same h.good.tidy _ _ _, hasB_put_same h.good.tidy _ _⟩
theorem fk3_lkp (h : Ran n s) : lkp (fk3 s a).D nNew = (a, (s.V.length : Int)) ∧ hasB (fk3 s a).D nNew = true := ⟨lkp_put_same (h.good.tidy.put (key_lit2 _) _) _ _ _, hasB_put_same (h.good.tidy.put (key_lit2 _) _) _ _⟩
theorem search_at (s : Ln) (p : S43 → Bool) (k : Nat) (i : Int) (h0 : 0 ≤ i) (h7 : (rd_T43 s.V i).f7 = false) (hp : p (rd_T43 s.V i) = true) : searchGo s p (k + 1) i = (rd_T43 s.V i).f0 := by
  simp only [searchGo]
  rw [if_neg (by omega), if_pos (by rw [h7, hp]; rfl)]
theorem head_new (h : Ran n s) (h0 : 0 ≤ a) (h1 : a < s.V.length) (hc : closedB s a = false) : headF (fk2 s a) nNew = (a, 0) := by
  unfold headF searchF
  rw [if_neg (by rw [(fk2_lkp h).2]; decide), (fk2_lkp h).1]
  have e : firstF (a, -1) = a := rfl
  rw [e, search_at (fk2 s a) _ _ a h0 hc rfl]
  rw [show (rd_T43 (fk2 s a).V a).f0 = a from (h.good.par a h0 h1).2.2]
theorem publish_new (h : Ran n s) (hn : n ≤ 60) (h0 : 0 ≤ a) (h1 : a < s.V.length) : publishF (fk2 s a) nNew 0 (rd_T43 s.V a).f4 (-1) 3 = ((s.V.length : Int), 0, fk3 s a) := by
  have e : firstF (a, -1) = a := rfl
  unfold publishF
  rw [if_neg (by rw [(fk2_lkp h).2]; decide), if_neg, if_neg, if_neg]
  · rw [(fk2_lkp h).1, e]
    rfl
  · have := h.vers
    show ¬ 1024 ≤ s.V.length
    omega
  · rw [(fk2_lkp h).1, e]
    show ¬ (0 ≤ a ∧ (rd_T43 s.V a).f4 < (rd_T43 s.V a).f4)
    omega
  · have := h.known a h0 h1
    unfold rangeB
    rw [this]
    decide
theorem rd_fk (h0 : 0 ≤ a) (h1 : a < s.V.length) (cl : Bool) : rd_T43 (s.V ++ [fkx s a cl]) a = rd_T43 s.V a := rd_append_left h0 h1
theorem rd_fkL (cl : Bool) : rd_T43 (s.V ++ [fkx s a cl]) (s.V.length : Int) = fkx s a cl := rd_append_new _ _ _ rfl
theorem get_new : getF (fk3 s a) (s.V.length : Int) = (fkx s a false, 0) := by
  have e := rd_fkL (s := s) (a := a) false
  rw [get_found (by omega) (by simp [fk3]; omega) (by rw [show (fk3 s a).V = s.V ++ [fkx s a false] from rfl, e]; rfl)]
  rw [show (fk3 s a).V = s.V ++ [fkx s a false] from rfl, e]
theorem good_fk3 (h : Ran n s) (hn : n ≤ 60) (h0 : 0 ≤ a) (h1 : a < s.V.length) (hc : closedB s a = false) : Good (fk2 s a) ∧ Good (fk3 s a) := by
  have g2 := h.good.fork nNew a
  rw [fork_new h hn h0 h1 hc] at g2
  have g3 := Good.publish g2 nNew 0 (rd_T43 s.V a).f4 (-1) 3
  rw [publish_new h hn h0 h1] at g3
  exact ⟨g2, g3⟩
theorem base_new (h : Ran n s) (hn : n ≤ 60) (h0 : 0 ≤ a) (h1 : a < s.V.length) (hc : closedB s a = false) : baseF (fk3 s a) (s.V.length : Int) a = (a, 0) := by
  have g3 := (good_fk3 h hn h0 h1 hc).2
  have hl : (fk3 s a).V.length = s.V.length + 1 := by simp [fk3]
  unfold baseF
  rw [if_neg (by rw [exists_of (by omega) (by omega), exists_of h0 (by omega)]; simp)]
  rw [base_anc g3 _ _ _ h0 (by omega) (.up _ _ (by omega) ?_) (by omega)]
  rw [show (rd_T43 (fk3 s a).V (s.V.length : Int)).f1 = a by rw [show (fk3 s a).V = s.V ++ [fkx s a false] from rfl, rd_fkL]; rfl]
  exact .refl _
theorem close_new : closeF (fk3 s a) (s.V.length : Int) = (0, fk4 s a) := by
  have e := rd_fkL (s := s) (a := a) false
  have hl : (fk3 s a).V.length = s.V.length + 1 := by simp [fk3]
  unfold closeF
  rw [if_neg (by rw [exists_of (by omega) (by omega)]; decide), if_neg (by unfold closedB; rw [show (fk3 s a).V = s.V ++ [fkx s a false] from rfl, e]; simp [fkx])]
  rw [show (fk3 s a).V = s.V ++ [fkx s a false] from rfl, e]
  unfold fk4 fk3
  simp only [Int.toNat_natCast]
  congr 2
  rw [List.set_append_right _ _ (Nat.le_refl _)]
  simp [fkx]
theorem fork_newer (h : Ran n s) : forkF (fk4 s a) nNewer (s.V.length : Int) = (28, fk4 s a) := by
  have hl : (fk4 s a).V.length = s.V.length + 1 := by simp [fk4]
  have hb : hasB (fk4 s a).D nNewer = false := by
    show hasB ((s.D.put (keyB nNew) (lnD a (-1))).put (keyB nNew) (lnD a (s.V.length : Int))) nNewer = false
    rw [hasB_put_other (Ne.symm new_valid.2.2), hasB_put_other (Ne.symm new_valid.2.2)]
    exact h.not_new.2
  have hcl : closedB (fk4 s a) (s.V.length : Int) = true := by
    unfold closedB
    rw [show (fk4 s a).V = s.V ++ [fkx s a true] from rfl, rd_fkL]
    rfl
  unfold forkF
  rw [if_neg (by rw [new_valid.2.1]; decide), if_neg (by rw [hb]; decide), if_neg (by rw [exists_of (by omega) (by omega)]; simp), if_pos ⟨by omega, hcl⟩]
theorem head_again (h : Ran n s) (h0 : 0 ≤ a) (h1 : a < s.V.length) (hc : closedB s a = false) : headF (fk4 s a) nNew = (a, 0) := by
  unfold headF searchF
  have e3 : lkp (fk4 s a).D nNew = (a, (s.V.length : Int)) ∧ hasB (fk4 s a).D nNew = true := fk3_lkp h
  rw [if_neg (by rw [e3.2]; decide), e3.1]
  have hl : (fk4 s a).V.length = s.V.length + 1 := by simp [fk4]
  have e : firstF (a, (s.V.length : Int)) = (s.V.length : Int) := by unfold firstF; rw [if_pos (by simp only; omega)]
  rw [e, hl]
  have e1 : rd_T43 (fk4 s a).V (s.V.length : Int) = fkx s a true := rd_fkL true
  have e2 : rd_T43 (fk4 s a).V a = rd_T43 s.V a := rd_fk h0 h1 true
  rw [show searchGo (fk4 s a) (fun _ => true) (s.V.length + 1 + 1) (s.V.length : Int) = searchGo (fk4 s a) (fun _ => true) (s.V.length + 1) a by
    conv => lhs; unfold searchGo
    rw [if_neg (by omega), e1, if_neg (by simp [fkx])]
    rfl]
  rw [search_at (fk4 s a) _ _ a h0 (by rw [e2]; exact hc) rfl, e2, (h.good.par a h0 h1).2.2]
theorem read_again (h : Ran n s) {z : ByteArray} (hz : hasB s.D z = true) (t u : Int) : readF (fk4 s a) z t u = readF (fk2 s a) z t u := by
  have hne : z ≠ nNew := by
    rintro rfl
    rw [h.not_new.1] at hz
    cases hz
  have hf := h.good.first hz
  have key : searchF (fk4 s a) z (readP t u) = searchF (fk2 s a) z (readP t u) := by
    unfold searchF
    have d4 : lkp (fk4 s a).D z = lkp s.D z ∧ hasB (fk4 s a).D z = true := by
      show lkp ((s.D.put (keyB nNew) (lnD a (-1))).put (keyB nNew) (lnD a (s.V.length : Int))) z = _ ∧ hasB ((s.D.put (keyB nNew) (lnD a (-1))).put (keyB nNew) (lnD a (s.V.length : Int))) z = true
      rw [lkp_put_other hne, lkp_put_other hne, hasB_put_other hne, hasB_put_other hne]
      exact ⟨rfl, hz⟩
    have d2 : lkp (fk2 s a).D z = lkp s.D z ∧ hasB (fk2 s a).D z = true := by
      show lkp (s.D.put (keyB nNew) (lnD a (-1))) z = _ ∧ hasB (s.D.put (keyB nNew) (lnD a (-1))) z = true
      rw [lkp_put_other hne, hasB_put_other hne]
      exact ⟨rfl, hz⟩
    rw [if_neg (by rw [d4.2]; decide), if_neg (by rw [d2.2]; decide), d4.1, d2.1]
    have hl : (fk4 s a).V.length = s.V.length + 1 := by simp [fk4]
    rw [hl]
    congr 1
    rw [search_agree h.good.ok (s.V.length : Int) (Int.le_refl _) (fun j h0 h1 => rd_append_left h0 h1) (readP t u) _ _ hf.2]
    rw [show searchGo (fk2 s a) (readP t u) ((fk2 s a).V.length + 1) (firstF (lkp s.D z)) = searchGo s (readP t u) (s.V.length + 1) (firstF (lkp s.D z)) from search_agree (s := s) (s' := fk2 s a) h.good.ok (s.V.length : Int) (Int.le_refl _) (fun j h0 h1 => rfl) (readP t u) _ _ hf.2]
    exact search_fuel h.good.ok _ _ _ _ hf.2 (by omega) (by omega)
  unfold readF
  rw [key]
end
end Go.Proofs.Ytcbkcgnigncahaa.P
