import Derived.Test.YtjmkccabpnigiaaQGivenW
namespace Go.Proofs.Ytjmkccabpnigiaa.P
open Go.RowKit Go.Proofs.YtjmkccabpnigiaaW.PrintWords Go.Proofs.YtjmkccabpnigiaaW.PrintLast Go.Proofs.YtjmkccabpnigiaaW.PrintMore
attribute [local go_sem] max2_int min2_int max_two min_two max_three min_three max_four min_four
set_option linter.unusedVariables false
set_option linter.unusedSimpArgs false
open Go.Proofs.YtjmkccabpnigiaaW.PrintLast
/-- A region that draws its order, by an invariant over what has been done: each operation is walked once. -/
theorem region_by {P : Program} {id : Nat} {ops : Array Oper} {Q : Exit → Act → World → Prop} {a : Act} {w : World} (hm : P.follows .mixedOrders = true) (hord : orderedT (rtab .any ops).2 = true) (Inv : List Bool → Act → World → Prop)
    (h0 : Inv (List.replicate ops.size false) a w.drew)
    (hstep : ∀ i o l a w, ops[i]? = some o → Inv l a w → l.getD i true = false → (∀ j ∈ needsOf .any o, l.getD j false = true) →
     (if Region.wanted o (yielded ops a.tmps) = true then Oper.wp P o a w (fun a' w' => Inv (l.set i true) a' w') Q else Inv (l.set i true) (a.put o.dst undef) w))
    (hdone : ∀ a w, Inv (List.replicate ops.size true) a w → Q .normal a w) : (Code.region id ops true).wp P Q a w := by
 refine region_inv hm rfl hord Inv h0 ?_ hdone
 intro i o r l a w ho hr hi hl hb hn
 rw [rtab_some ho] at hr
 obtain rfl := Option.some.inj hr
 exact hstep i o l a w ho hi hb hn
/-- The slots that a region fills: which are filled, with what; the others stand. -/
def Tm (a : Act) (base : Array Value) (L : List (Bool × Nat × Value)) : Prop :=
 a.defers = [] ∧ a.tmps.size = base.size ∧ (∀ e ∈ L, e.1 = true → a.tmps[e.2.1]? = some e.2.2) ∧ (∀ k, (∀ e ∈ L, k ≠ e.2.1) → a.tmps[k]? = base[k]?)
theorem Tm.start (base : Array Value) (L : List (Bool × Nat × Value)) (h : L.all (fun e => !e.1) = true) : Tm ⟨base, []⟩ base L := by
 refine ⟨rfl, rfl, fun e he ht => ?_, fun _ _ => rfl⟩
 have := List.all_eq_true.1 h e he
 rw [ht] at this
 cases this
theorem Tm.put {a : Act} {base : Array Value} {L : List (Bool × Nat × Value)} (h : Tm a base L) (i d : Nat) (v : Value) (hi : (L[i]?).map (·.2.1) = some d) (hn : (L.map (·.2.1)).Nodup) (hd : d < base.size) : Tm (a.put (some d) v) base (L.set i (true, d, v)) := by
 obtain ⟨h1, h2, h3, h4⟩ := h
 have hil : i < L.length := by
  rcases Nat.lt_or_ge i L.length with h | h
  ·exact h
  ·rw [List.getElem?_eq_none h] at hi; cases hi
 have hid : L[i].2.1 = d := by rw [List.getElem?_eq_getElem hil] at hi; simpa using hi
 have hput : (a.put (some d) v).tmps = a.tmps.setIfInBounds d v := rfl
 refine ⟨h1, by rw [hput, Array.size_setIfInBounds]; exact h2, fun e he ht => ?_, fun k hk => ?_⟩
 ·obtain ⟨j, hj, rfl⟩ := List.getElem_of_mem he
  rw [List.getElem_set] at ht ⊢
  rw [hput]
  by_cases hij : i = j
  ·rw [if_pos hij]
   simp [show d < a.tmps.size by omega]
  ·rw [if_neg hij] at ht ⊢
   have hjl : j < L.length := by simpa using hj
   have hne : d ≠ L[j].2.1 := by
    intro e
    have h5 := List.pairwise_iff_getElem.1 hn
    rcases Nat.lt_or_gt_of_ne hij with hlt | hlt
    ·exact h5 i j (by simpa using hil) (by simpa using hjl) hlt (by simp [hid, e])
    ·exact h5 j i (by simpa using hjl) (by simpa using hil) hlt (by simp [hid, e])
   rw [Array.getElem?_setIfInBounds_ne hne]
   exact h3 _ (List.getElem_mem _) ht
 ·have hk2 : ∀ e ∈ L, k ≠ e.2.1 := by
    intro e he
    obtain ⟨j, hj, rfl⟩ := List.getElem_of_mem he
    by_cases hij : i = j
    ·subst hij
     rw [hid]
     exact hk (true, d, v) (by rw [List.mem_iff_getElem]; exact ⟨i, by simpa using hil, by simp⟩)
    ·exact hk L[j] (by rw [List.mem_iff_getElem]; exact ⟨j, by simpa using hj, by simp [hij]⟩)
  have hkd : d ≠ k := by
   intro e
   exact hk2 L[i] (List.getElem_mem _) (by rw [hid, e])
  rw [hput, Array.getElem?_setIfInBounds_ne hkd]
  exact h4 k hk2
theorem Tm.got {a : Act} {base : Array Value} {L : List (Bool × Nat × Value)} (h : Tm a base L) (k : Nat) (v : Value) (hm : (true, k, v) ∈ L) : a.tmps[k]? = some v := h.2.2.1 _ hm rfl
theorem Tm.base_ {a : Act} {base : Array Value} {L : List (Bool × Nat × Value)} (h : Tm a base L) (k : Nat) (v : Value) (hm : ∀ e ∈ L, k ≠ e.2.1) (hb : base[k]? = some v) : a.tmps[k]? = some v := (h.2.2.2 k hm).trans hb
def overlay (base : Array Value) (L : List (Bool × Nat × Value)) : Array Value := L.foldl (fun t e => t.setIfInBounds e.2.1 e.2.2) base
theorem overlay_far (L : List (Bool × Nat × Value)) : ∀ (base : Array Value) (k : Nat), (∀ e ∈ L, k ≠ e.2.1) → (overlay base L)[k]? = base[k]? := by
 induction L with
 | nil => intro base k _; rfl
 | cons e L ih =>
  intro base k hk
  show (overlay (base.setIfInBounds e.2.1 e.2.2) L)[k]? = _
  rw [ih _ k (fun x hx => hk x (List.mem_cons_of_mem _ hx)), Array.getElem?_setIfInBounds_ne (Ne.symm (hk e (List.mem_cons_self ..)))]
theorem overlay_at (L : List (Bool × Nat × Value)) : ∀ (base : Array Value), (L.map (·.2.1)).Nodup → ∀ e ∈ L, e.2.1 < base.size → (overlay base L)[e.2.1]? = some e.2.2 := by
 induction L with
 | nil => intro base _ e he; cases he
 | cons x L ih =>
  intro base hn e he hlt
  show (overlay (base.setIfInBounds x.2.1 x.2.2) L)[e.2.1]? = _
  rw [List.map_cons, List.nodup_cons] at hn
  cases he with
  | head =>
   rw [overlay_far L _ _ (fun y hy h => hn.1 (by rw [h]; exact List.mem_map_of_mem hy))]
   simp [hlt]
  | tail _ he => exact ih _ hn.2 e he (by rw [Array.size_setIfInBounds]; exact hlt)
theorem Tm.fin {a : Act} {base : Array Value} {L : List (Bool × Nat × Value)} (h : Tm a base L) (ht : L.all (·.1) = true) (hn : (L.map (·.2.1)).Nodup) (hb : L.all (fun e => decide (e.2.1 < base.size)) = true) : a = ⟨overlay base L, []⟩ := by
 obtain ⟨h1, h2, h3, h4⟩ := h
 cases a with
 | mk tm df =>
  simp only at h1 h2 h3 h4
  subst h1
  congr 1
  apply Array.ext_getElem?
  intro k
  by_cases hk : ∃ e ∈ L, k = e.2.1
  ·obtain ⟨e, he, rfl⟩ := hk
   rw [h3 e he (List.all_eq_true.1 ht e he), overlay_at L base hn e he (by simpa using List.all_eq_true.1 hb e he)]
  ·have hk' : ∀ e ∈ L, k ≠ e.2.1 := fun e he h => hk ⟨e, he, h⟩
   rw [h4 k hk', overlay_far L base k hk']
end Go.Proofs.Ytjmkccabpnigiaa.P
