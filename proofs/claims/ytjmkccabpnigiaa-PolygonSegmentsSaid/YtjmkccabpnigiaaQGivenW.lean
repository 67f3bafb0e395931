import Derived.Test.YtjmkccabpnigiaaQGivenU
import Derived.Test.YtjmkccabpnigiaaQWZeros
import Derived.Orders
namespace Go.Proofs.Ytjmkccabpnigiaa.P
open Go.RowKit Go.Proofs.YtjmkccabpnigiaaW.PrintWords Go.Proofs.YtjmkccabpnigiaaW.PrintLast Go.Proofs.YtjmkccabpnigiaaW.PrintMore
attribute [local go_sem] max2_int min2_int max_two min_two max_three min_three max_four min_four
set_option linter.unusedVariables false
set_option linter.unusedSimpArgs false
open Go.Proofs.YtjmkccabpnigiaaW.PrintLast
/-- What an operation waits for stands ahead of it. -/
def orderedT (T : List (List Nat × List Nat)) : Bool := (List.range T.length).all fun i => match T[i]? with
 | some r => r.1.all (fun j => decide (j < i))
 | none => true
theorem cnt_set : ∀ (l : List Bool) (i : Nat), l.getD i true = false → (l.set i true).count false + 1 = l.count false
 | [], i, h => by simp at h
 | b :: l, 0, h => by
  have hb : b = false := by simpa using h
  subst hb
  simp
 | b :: l, i + 1, h => by
  have ih := cnt_set l i (by simpa using h)
  simp only [List.set_cons_succ, List.count_cons]
  omega
theorem ready_iff {ops : Array Oper} {T : Bool × List (List Nat × List Nat)} (hT : rtab .any ops = T) (l : Array Bool) (i : Nat) : i ∈ Region.ready .any ops l ↔ i < T.2.length ∧ readyAt T.2 l.toList i = true := by
 subst hT
 rw [ready_eq]
 unfold readyT
 rw [List.mem_filter, List.mem_range]
theorem wpAny_inv {P : Program} {ops : Array Oper} {Q : Exit → Act → World → Prop} {T : Bool × List (List Nat × List Nat)} (hT : rtab .any ops = T) (hord : orderedT T.2 = true) (Inv : List Bool → Act → World → Prop)
    (hstep : ∀ i o r l a w, ops[i]? = some o → T.2[i]? = some r → Inv l a w → l.length = ops.size → l.getD i true = false → (∀ j ∈ r.1, l.getD j false = true) →
     (if Region.wanted o (yielded ops a.tmps) = true then Oper.wp P o a w (fun a' w' => Inv (l.set i true) a' w') Q else Inv (l.set i true) (a.put o.dst undef) w))
    (hdone : ∀ a w, Inv (List.replicate ops.size true) a w → Q .normal a w) :
    ∀ (fuel : Nat) (l : Array Bool) (a : Act) (w : World), l.size = ops.size → l.toList.count false ≤ fuel → Inv l.toList a w → wpAny P .any ops Q fuel l a w := by
 have hlen : T.2.length = ops.size := by rw [← hT]; exact rtab_length
 have hnil : ∀ (l : Array Bool) (a : Act) (w : World), l.size = ops.size → Inv l.toList a w → Region.ready .any ops l = [] → Q .normal a w := by
  intro l a w hs hi hr
  refine hdone a w ?_
  have hall : ∀ i, i < ops.size → l.toList.getD i true = true := by
   intro i
   induction i using Nat.strongRecOn with
   | ind i ih =>
    intro hlt
    cases hg : l.toList.getD i true with
    | true => rfl
    | false =>
     have hm : i ∈ Region.ready .any ops l := by
      rw [ready_iff hT]
      refine ⟨by omega, ?_⟩
      unfold readyAt
      rw [hg, List.getElem?_eq_getElem (show i < T.2.length by omega)]
      simp only [Bool.not_false, Bool.true_and, List.all_eq_true]
      intro j hj
      have h1 := List.all_eq_true.1 hord i (List.mem_range.2 (by omega))
      rw [List.getElem?_eq_getElem (show i < T.2.length by omega)] at h1
      have h2 := List.all_eq_true.1 h1 j hj
      have h3 : j < i := by simpa using h2
      have h4 := ih j h3 (by omega)
      rw [List.getD_eq_getElem?_getD, List.getElem?_eq_getElem (show j < l.toList.length by simp; omega)] at h4 ⊢
      exact h4
     rw [hr] at hm
     cases hm
  have : l.toList = List.replicate ops.size true := by
   apply List.ext_getElem
   ·simp [hs]
   ·intro i h1 h2
    have := hall i (by simpa using h2)
    rw [List.getD_eq_getElem?_getD, List.getElem?_eq_getElem h1] at this
    rw [List.getElem_replicate]
    exact this
  rw [← this]
  exact hi
 intro fuel
 induction fuel with
 | zero =>
  intro l a w hs hc hi
  have hr : Region.ready .any ops l = [] := by
   apply List.eq_nil_iff_forall_not_mem.2
   intro i hm
   rw [ready_iff hT] at hm
   have h1 := hm.2
   unfold readyAt at h1
   rw [Bool.and_eq_true] at h1
   have h2 : l.toList.getD i true = false := by simpa using h1.1
   have := cnt_set _ _ h2
   omega
  exact ⟨hr, hnil l a w hs hi hr⟩
 | succ fuel ih =>
  intro l a w hs hc hi
  refine ⟨hnil l a w hs hi, fun i hm => ?_⟩
  rw [ready_iff hT] at hm
  obtain ⟨hm1, hm2⟩ := hm
  unfold readyAt at hm2
  rw [Bool.and_eq_true, List.getElem?_eq_getElem hm1] at hm2
  have h2 : l.toList.getD i true = false := by simpa using hm2.1
  have h3 : ∀ j ∈ (T.2[i]).1, l.toList.getD j false = true := by
   have := hm2.2
   simp only [List.all_eq_true] at this
   exact this
  have hio : i < ops.size := by omega
  have hst := hstep i ops[i] T.2[i] l.toList a w (Array.getElem?_eq_getElem hio) (List.getElem?_eq_getElem hm1) hi (by simpa using hs) h2 h3
  have hcnt := cnt_set _ _ h2
  have key : ∀ a' w', Inv (l.toList.set i true) a' w' → wpAny P .any ops Q fuel (l.setIfInBounds i true) a' w' := by
   intro a' w' h'
   refine ih _ _ _ (by simpa using hs) ?_ ?_
   ·rw [Array.toList_setIfInBounds]; omega
   ·rw [Array.toList_setIfInBounds]; exact h'
  unfold wpOp
  rw [Array.getElem?_eq_getElem hio]
  simp only
  by_cases hw : Region.wanted ops[i] (yielded ops a.tmps) = true
  ·rw [if_pos hw] at hst ⊢
   exact .inl (Oper.wp_mono key hst)
  ·rw [if_neg hw] at hst ⊢
   exact key _ _ hst
theorem region_inv {P : Program} {id : Nat} {ops : Array Oper} {Q : Exit → Act → World → Prop} {T : Bool × List (List Nat × List Nat)} {a : Act} {w : World} (hm : P.follows .mixedOrders = true) (hT : rtab .any ops = T) (hord : orderedT T.2 = true) (Inv : List Bool → Act → World → Prop)
    (h0 : Inv (List.replicate ops.size false) a w.drew)
    (hstep : ∀ i o r l a w, ops[i]? = some o → T.2[i]? = some r → Inv l a w → l.length = ops.size → l.getD i true = false → (∀ j ∈ r.1, l.getD j false = true) →
     (if Region.wanted o (yielded ops a.tmps) = true then Oper.wp P o a w (fun a' w' => Inv (l.set i true) a' w') Q else Inv (l.set i true) (a.put o.dst undef) w))
    (hdone : ∀ a w, Inv (List.replicate ops.size true) a w → Q .normal a w) : (Code.region id ops true).wp P Q a w := by
 refine wp_region_any hm ?_
 refine wpAny_inv hT hord Inv hstep hdone ops.size _ _ _ (by simp) (by simp) ?_
 rw [Array.toList_replicate]
 exact h0
end Go.Proofs.Ytjmkccabpnigiaa.P
