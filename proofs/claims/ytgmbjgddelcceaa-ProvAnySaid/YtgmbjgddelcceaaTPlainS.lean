import Derived.Test.YtgmbjgddelcceaaTPx0
set_option linter.unusedVariables false
set_option linter.unusedSimpArgs false
namespace Go.Proofs.Ytgmbjgddelcceaa.P
open Go.RowKit Go.Proofs.YtgmbjgddelcceaaW.PrintWords Go.Proofs.YtgmbjgddelcceaaW.PrintLast
def addI (acc : List Int) (x : Int) : List Int := if x = -1 then acc else if x ∈ acc then acc else acc ++ [x]
def uniqI (l : List Int) : List Int := l.foldl addI []
def scOf (p : S80) : Int := p.f3.f0
def uniqS (l : List S80) : List Int := uniqI (l.map scOf)
def scenesF (l : List S80) : List Int := (uniqS l).mergeSort (fun x y => decide (x ≤ y))
theorem uniq_fold : ∀ (l acc : List Int), acc.Nodup → (∀ x ∈ acc, x ≠ -1) → (l.foldl addI acc).Nodup ∧ ∀ x, x ∈ l.foldl addI acc ↔ (x ∈ acc ∨ (x ≠ -1 ∧ x ∈ l))
  | [], acc, h, h1 => ⟨h, fun x => by simp⟩
  | a :: l, acc, h, h1 => by
    simp only [List.foldl_cons]
    by_cases ha : a = -1
    · have e : addI acc a = acc := by unfold addI; rw [if_pos ha]
      rw [e]
      obtain ⟨r1, r2⟩ := uniq_fold l acc h h1
      refine ⟨r1, fun x => ?_⟩
      rw [r2 x, List.mem_cons]
      constructor
      · rintro (r | ⟨r, s⟩)
        · exact .inl r
        · exact .inr ⟨r, .inr s⟩
      · rintro (r | ⟨r, s | s⟩)
        · exact .inl r
        · exact absurd (s.trans ha) r
        · exact .inr ⟨r, s⟩
    · by_cases hm : a ∈ acc
      · have e : addI acc a = acc := by unfold addI; rw [if_neg ha, if_pos hm]
        rw [e]
        obtain ⟨r1, r2⟩ := uniq_fold l acc h h1
        refine ⟨r1, fun x => ?_⟩
        rw [r2 x, List.mem_cons]
        constructor
        · rintro (r | ⟨r, s⟩)
          · exact .inl r
          · exact .inr ⟨r, .inr s⟩
        · rintro (r | ⟨r, s | s⟩)
          · exact .inl r
          · exact .inl (s ▸ hm)
          · exact .inr ⟨r, s⟩
      · have e : addI acc a = acc ++ [a] := by unfold addI; rw [if_neg ha, if_neg hm]
        rw [e]
        have hn : (acc ++ [a]).Nodup := List.nodup_append.2 ⟨h, by simp, fun x hx y hy => by simp at hy; subst hy; exact fun e => hm (e ▸ hx)⟩
        have hn1 : ∀ x ∈ acc ++ [a], x ≠ -1 := by
          intro x hx
          rcases List.mem_append.1 hx with hx | hx
          · exact h1 x hx
          · obtain rfl := List.mem_singleton.1 hx; exact ha
        obtain ⟨r1, r2⟩ := uniq_fold l _ hn hn1
        refine ⟨r1, fun x => ?_⟩
        rw [r2 x, List.mem_cons, List.mem_append, List.mem_singleton]
        constructor
        · rintro ((r | r) | ⟨r, s⟩)
          · exact .inl r
          · exact .inr ⟨r ▸ ha, .inl r⟩
          · exact .inr ⟨r, .inr s⟩
        · rintro (r | ⟨r, s | s⟩)
          · exact .inl (.inl r)
          · exact .inl (.inr s)
          · exact .inr ⟨r, s⟩
theorem uniqI_nodup (l : List Int) : (uniqI l).Nodup := (uniq_fold l [] List.nodup_nil (fun _ h => by cases h)).1
theorem uniqI_mem (l : List Int) (x : Int) : x ∈ uniqI l ↔ (x ≠ -1 ∧ x ∈ l) := by
  rw [show (x ∈ uniqI l ↔ (x ∈ ([] : List Int) ∨ (x ≠ -1 ∧ x ∈ l))) from (uniq_fold l [] List.nodup_nil (fun _ h => by cases h)).2 x]
  simp
theorem uniqI_snoc (l : List Int) (x : Int) : uniqI (l ++ [x]) = addI (uniqI l) x := by simp [uniqI, List.foldl_append]
theorem scenesF_len (l : List S80) : (scenesF l).length = (uniqS l).length := by unfold scenesF; rw [List.length_mergeSort]
theorem scenesF_nodup (l : List S80) : (scenesF l).Nodup := (List.mergeSort_perm _ _).nodup_iff.2 (uniqI_nodup _)
theorem scenesF_sorted (l : List S80) : (scenesF l).Pairwise (fun x y => x < y) := by
  have h1 : (scenesF l).Pairwise (fun x y => decide (x ≤ y) = true) := List.pairwise_mergeSort (fun a b c h1 h2 => by simp only [decide_eq_true_eq] at *; omega) (fun a b => by simp only [Bool.or_eq_true, decide_eq_true_eq]; omega) _
  have h2 : (scenesF l).Pairwise (fun x y => x ≠ y) := scenesF_nodup l
  refine (h1.and h2).imp ?_
  rintro a b ⟨h, h'⟩
  simp only [decide_eq_true_eq] at h
  omega
theorem rdI_get (l : List Int) (i : Int) (h0 : 0 ≤ i) (h : i < l.length) : rd l i = l[i.toNat]'(by omega) := by
  simp [rd, List.getD_eq_getElem?_getD, List.getElem?_eq_getElem (show i.toNat < l.length by omega)]
theorem rdI_mem (l : List Int) (i : Int) (h0 : 0 ≤ i) (h : i < l.length) : rd l i ∈ l := by
  rw [rdI_get l i h0 h]; exact List.getElem_mem _
theorem scenesF_strict (l : List S80) (i : Int) (h0 : 0 < i) (h : i < (scenesF l).length) : rd (scenesF l) (i - 1) < rd (scenesF l) i := by
  rw [rdI_get _ _ (by omega) (by omega), rdI_get _ _ (by omega) h]
  exact List.pairwise_iff_getElem.1 (scenesF_sorted l) _ _ _ _ (by omega)
def wfScene (p : S80) : Bool := (Lit.int .i64 p.f3.f0).wf
def prov_Scenes.f (l0 : List S80) : Option (List Int) := if l0.all wfScene = true ∧ l0.length ≤ 1000000 then some (scenesF l0) else none
end Go.Proofs.Ytgmbjgddelcceaa.P
