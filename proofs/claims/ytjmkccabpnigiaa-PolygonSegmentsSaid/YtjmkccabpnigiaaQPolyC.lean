import Derived.Test.YtjmkccabpnigiaaQGivenXa
namespace Go.Proofs.Ytjmkccabpnigiaa.P
open Go.RowKit Go.Proofs.YtjmkccabpnigiaaW.PrintWords Go.Proofs.YtjmkccabpnigiaaW.PrintLast Go.Proofs.YtjmkccabpnigiaaW.PrintMore
attribute [local go_sem] max2_int min2_int max_two min_two max_three min_three max_four min_four
set_option linter.unusedVariables false
set_option linter.unusedSimpArgs false
/-- The slots' values, one by one. -/
def Got (w : World) : List (World → Value → Prop) → List Value → Prop
 | [], [] => True
 | p :: ps, v :: vs => p w v ∧ Got w ps vs
 | _, _ => False
theorem Got.cons {w : World} {p : World → Value → Prop} {ps : List (World → Value → Prop)} : ∀ {vs : List Value}, Got w (p :: ps) vs → ∃ v vs', vs = v :: vs' ∧ p w v ∧ Got w ps vs'
 | [], h => h.elim
 | v :: vs, h => ⟨v, vs, rfl, h.1, h.2⟩
theorem Got.nil {w : World} : ∀ {vs : List Value}, Got w [] vs → vs = []
 | [], _ => rfl
 | _ :: _, h => h.elim
def Mono (p : World → Value → Prop) : Prop := ∀ w w' v, Below w.heap.size w w' → p w v → p w' v
theorem mono_eq (x : Value) : Mono (fun _ v => v = x) := fun _ _ _ _ h => h
def laid (base : Array Value) (ds : List Nat) (vs : List Value) : Array Value := overlay base (List.zipWith (fun d v => (true, d, v)) ds vs)
/-- One operation of a region that writes nothing. -/
def StepOK (P : Program) (ops : Array Oper) (W : World) (B : Array Value → Prop) (ds : List Nat) (Ps : List (World → Value → Prop)) (o : Oper) (d : Nat) (p : World → Value → Prop) : Prop :=
 ∀ (Q : Exit → Act → World → Prop) (base : Array Value) (a : Act) (w : World), B base → Below W.heap.size W w → a.tmps.size = base.size →
  (∀ j ∈ needsOf .any o, ∀ dj pj, ds[j]? = some dj → Ps[j]? = some pj → ∃ v, a.tmps[dj]? = some v ∧ pj w v) → (∀ k, k ∉ ds → a.tmps[k]? = base[k]?) →
  o.dst = some d ∧ (if Region.wanted o (yielded ops a.tmps) = true then Oper.wp P o a w (fun a' w' => ∃ v, a' = a.put (some d) v ∧ p w' v ∧ Below w.heap.size w w') Q else p w undef)
def Steps (P : Program) (ops : Array Oper) (W : World) (B : Array Value → Prop) (DS : List Nat) (PS : List (World → Value → Prop)) : List Oper → List Nat → List (World → Value → Prop) → Prop
 | o :: os, d :: ds, p :: ps => (Mono p ∧ StepOK P ops W B DS PS o d p) ∧ Steps P ops W B DS PS os ds ps
 | [], [], [] => True
 | [_], [], [] => True
 | _, _, _ => False
theorem Steps.at_ {P : Program} {ops : Array Oper} {W : World} {B : Array Value → Prop} {DS : List Nat} {PS : List (World → Value → Prop)} : ∀ {os : List Oper} {ds : List Nat} {ps : List (World → Value → Prop)}, Steps P ops W B DS PS os ds ps → ∀ {i : Nat} {o : Oper} {d : Nat} {p : World → Value → Prop}, os[i]? = some o → ds[i]? = some d → ps[i]? = some p → Mono p ∧ StepOK P ops W B DS PS o d p
 | o :: os, d :: ds, p :: ps, h, 0, _, _, _, h1, h2, h3 => by
  simp at h1 h2 h3
  subst h1 h2 h3
  exact h.1
 | o :: os, d :: ds, p :: ps, h, i + 1, _, _, _, h1, h2, h3 => Steps.at_ h.2 (i := i) (by simpa using h1) (by simpa using h2) (by simpa using h3)
 | [], _, _, _, i, _, _, _, h1, _, _ => by simp at h1
 | _ :: _, [], _, _, i, _, _, _, _, h2, _ => by simp at h2
 | _ :: _, _ :: _, [], _, i, _, _, _, _, _, h3 => by simp at h3
theorem Steps.len {P : Program} {ops : Array Oper} {W : World} {B : Array Value → Prop} {DS : List Nat} {PS : List (World → Value → Prop)} : ∀ {os : List Oper} {ds : List Nat} {ps : List (World → Value → Prop)}, Steps P ops W B DS PS os ds ps → ps.length = ds.length ∧ (ds.length = os.length ∨ ds.length + 1 = os.length)
 | o :: os, d :: ds, p :: ps, h => by
  have := Steps.len h.2
  simp only [List.length_cons]
  omega
 | [], [], [], _ => by simp
 | [_], [], [], _ => by simp
 | [], _ :: _, _, h => h.elim
 | [], [], _ :: _, h => h.elim
 | [_], [], _ :: _, h => h.elim
 | _ :: _ :: _, [], _, h => h.elim
 | _ :: _, _ :: _, [], h => by
  exact absurd h (by unfold Steps; exact fun h => h)
theorem got_of {w : World} {T : Array Value} : ∀ {ds : List Nat} {Ps : List (World → Value → Prop)}, Ps.length = ds.length → (∀ (i : Nat) d p, ds[i]? = some d → Ps[i]? = some p → ∃ v, T[d]? = some v ∧ p w v) → ∃ vs, Got w Ps vs ∧ vs.length = ds.length ∧ ∀ (i : Nat) d v, ds[i]? = some d → vs[i]? = some v → T[d]? = some v
 | [], [], _, _ => ⟨[], trivial, rfl, fun i d v h _ => by simp at h⟩
 | [], _ :: _, h, _ => by simp at h
 | _ :: _, [], h, _ => by simp at h
 | d :: ds, p :: Ps, hl, h => by
  obtain ⟨vs, h1, h2, h3⟩ := got_of (T := T) (ds := ds) (Ps := Ps) (by simpa using hl) (fun i d' p' hd hp => h (i + 1) d' p' (by simpa using hd) (by simpa using hp))
  obtain ⟨v, hv, hp⟩ := h 0 d p rfl rfl
  refine ⟨v :: vs, ⟨hp, h1⟩, by simp [h2], fun i d' v' hd hv' => ?_⟩
  cases i with
  | zero => simp at hd hv'; subst hd hv'; exact hv
  | succ i => exact h3 i d' v' (by simpa using hd) (by simpa using hv')
theorem laid_eq {base T : Array Value} {ds : List Nat} {vs : List Value} (hs : T.size = base.size) (hnd : ds.Nodup) (hin : ∀ d ∈ ds, d < base.size) (hl : vs.length = ds.length) (h1 : ∀ (i : Nat) d v, ds[i]? = some d → vs[i]? = some v → T[d]? = some v) (h2 : ∀ k, k ∉ ds → T[k]? = base[k]?) : T = laid base ds vs := by
 have hmap : (List.zipWith (fun d v => (true, d, v)) ds vs).map (·.2.1) = ds := by
  apply List.ext_getElem?
  intro i
  rw [List.getElem?_map, List.getElem?_zipWith]
  cases hd : ds[i]? with
  | none => rfl
  | some d =>
   have hi : i < vs.length := by rw [hl]; exact (List.getElem?_eq_some_iff.1 hd).1
   rw [List.getElem?_eq_getElem hi]
   rfl
 apply Array.ext_getElem?
 intro k
 unfold laid
 by_cases hk : k ∈ ds
 ·obtain ⟨i, hi, rfl⟩ := List.getElem_of_mem hk
  have hiv : i < vs.length := by omega
  rw [h1 i _ _ (List.getElem?_eq_getElem hi) (List.getElem?_eq_getElem hiv)]
  refine (overlay_at _ base (by rw [hmap]; exact hnd) (true, ds[i], vs[i]) ?_ (hin _ hk)).symm
  rw [List.mem_iff_getElem]
  exact ⟨i, by simp; omega, by simp⟩
 ·rw [h2 k hk]
  refine (overlay_far _ base k ?_).symm
  intro e he hke
  apply hk
  rw [← hmap, hke]
  exact List.mem_map_of_mem he
/-- A region that writes nothing but its slots: each operation once, whatever came before it. -/
theorem region_sure {P : Program} {id : Nat} {ops : Array Oper} {Q : Exit → Act → World → Prop} {base : Array Value} {W : World} (hm : P.follows .mixedOrders = true) (hord : orderedT (rtab .any ops).2 = true) (B : Array Value → Prop) (ds : List Nat) (Ps : List (World → Value → Prop))
    (hB : B base) (hlen : ds.length = ops.size) (hnd : ds.Nodup) (hin : ds.all (fun d => decide (d < base.size)) = true)
    (hstep : Steps P ops W B ds Ps ops.toList ds Ps)
    (hdone : ∀ vs w', Got w' Ps vs → Below W.heap.size W w' → Q .normal ⟨laid base ds vs, []⟩ w') : (Code.region id ops true).wp P Q ⟨base, []⟩ W := by
 have hlp : Ps.length = ds.length := hstep.len.1
 refine region_by hm hord (fun l a w => l.length = ops.size ∧ a.defers = [] ∧ a.tmps.size = base.size ∧ Below W.heap.size W w ∧ (∀ (i : Nat) d p, l.getD i false = true → ds[i]? = some d → Ps[i]? = some p → ∃ v, a.tmps[d]? = some v ∧ p w v) ∧ (∀ k, k ∉ ds → a.tmps[k]? = base[k]?)) ?_ ?_ ?_
 ·refine ⟨by simp, rfl, rfl, below_drew1 (Below.refl _ _), fun i d p h _ _ => ?_, fun _ _ => rfl⟩
  simp [List.getD_eq_getElem?_getD, List.getElem?_replicate] at h
  split at h <;> simp at h
 ·rintro i o l a w ho ⟨h1, h2, h3, h4, h5, h6⟩ hi hn
  have hio : i < ops.size := (Array.getElem?_eq_some_iff.1 ho).1
  obtain ⟨d, hd⟩ : ∃ d, ds[i]? = some d := ⟨_, List.getElem?_eq_getElem (by omega)⟩
  obtain ⟨p, hp⟩ : ∃ p, Ps[i]? = some p := ⟨_, List.getElem?_eq_getElem (by omega)⟩
  obtain ⟨hmo, hst⟩ := hstep.at_ (i := i) (by simpa using ho) hd hp
  obtain ⟨hdst, hst⟩ := hst Q base a w hB h4 h3 (fun j hj dj pj hdj hpj => h5 j dj pj (hn j hj) hdj hpj) h6
  have hdin : d < a.tmps.size := by
   have := List.all_eq_true.1 hin d (List.mem_of_getElem? hd)
   rw [h3]
   simpa using this
  have key : ∀ (v : Value) (w' : World), p w' v → Below w.heap.size w w' → (l.set i true).length = ops.size ∧ (a.put (some d) v).defers = [] ∧ (a.put (some d) v).tmps.size = base.size ∧ Below W.heap.size W w' ∧ (∀ (i' : Nat) d' p', (l.set i true).getD i' false = true → ds[i']? = some d' → Ps[i']? = some p' → ∃ v', (a.put (some d) v).tmps[d']? = some v' ∧ p' w' v') ∧ (∀ k, k ∉ ds → (a.put (some d) v).tmps[k]? = base[k]?) := by
   intro v w' hv hb
   have hput : (a.put (some d) v).tmps = a.tmps.setIfInBounds d v := rfl
   refine ⟨by simpa using h1, h2, by rw [hput, Array.size_setIfInBounds]; exact h3, below_step h4 hb, fun i' d' p' hbit hd' hp' => ?_, fun k hk => ?_⟩
   ·rw [hput]
    by_cases hii : i = i'
    ·subst hii
     rw [hd] at hd'
     rw [hp] at hp'
     obtain rfl := Option.some.inj hd'
     obtain rfl := Option.some.inj hp'
     exact ⟨v, by simp [hdin], hv⟩
    ·have hdd : d ≠ d' := by
       intro e
       subst e
       have h7 := List.pairwise_iff_getElem.1 hnd
       obtain ⟨g1, g2⟩ := List.getElem?_eq_some_iff.1 hd
       obtain ⟨g3, g4⟩ := List.getElem?_eq_some_iff.1 hd'
       rcases Nat.lt_or_gt_of_ne hii with hlt | hlt
       ·exact h7 i i' g1 g3 hlt (g2.trans g4.symm)
       ·exact h7 i' i g3 g1 hlt (g4.trans g2.symm)
     have hbit' : l.getD i' false = true := by
      rw [List.getD_eq_getElem?_getD, List.getElem?_set_ne hii] at hbit
      rwa [List.getD_eq_getElem?_getD]
     obtain ⟨v', hv', hpv⟩ := h5 i' d' p' hbit' hd' hp'
     obtain ⟨o', ho'⟩ : ∃ o', ops[i']? = some o' := ⟨_, Array.getElem?_eq_getElem (by have := (List.getElem?_eq_some_iff.1 hd').1; omega)⟩
     exact ⟨v', by rw [Array.getElem?_setIfInBounds_ne hdd]; exact hv', (hstep.at_ (i := i') (by simpa using ho') hd' hp').1 _ _ _ hb hpv⟩
   ·rw [hput, Array.getElem?_setIfInBounds_ne (fun e => hk (by rw [← e]; exact List.mem_of_getElem? hd))]
    exact h6 k hk
  by_cases hw : Region.wanted o (yielded ops a.tmps) = true
  ·rw [if_pos hw] at hst ⊢
   refine Oper.wp_mono ?_ hst
   rintro a' w' ⟨v, rfl, hv, hb⟩
   exact key v w' hv hb
  ·rw [if_neg hw] at hst ⊢
   rw [hdst]
   exact key undef w hst (Below.refl _ _)
 ·rintro a w ⟨h1, h2, h3, h4, h5, h6⟩
  obtain ⟨vs, g1, g2, g3⟩ := got_of (T := a.tmps) (w := w) (ds := ds) (Ps := Ps) hlp (fun i d p hd hp => h5 i d p (by
   have := (List.getElem?_eq_some_iff.1 hd).1
   rw [List.getD_eq_getElem?_getD, List.getElem?_replicate, if_pos (by omega)]
   rfl) hd hp)
  have := laid_eq h3 hnd (fun d hd => by simpa using List.all_eq_true.1 hin d hd) g2 g3 h6
  have ha : a = ⟨laid base ds vs, []⟩ := by
   cases a
   simp only at h2 this
   rw [h2, this]
  rw [ha]
  exact hdone vs w g1 h4
theorem want_on {ops : Array Oper} {a : Act} {o og : Oper} {g : Nat} {t : Tmp} {u : Bool} (hg : o.guard = some (g, u)) (ho : ops[g]? = some og) (hd : og.dst = some t) (hv : a.tmps[t]? = some (.bool u)) : Region.wanted o (yielded ops a.tmps) = true := by
 simp [Region.wanted, hg, yielded, ho, hd, hv]
theorem want_off {ops : Array Oper} {a : Act} {o og : Oper} {g : Nat} {t : Tmp} {u v : Bool} (hg : o.guard = some (g, u)) (ho : ops[g]? = some og) (hd : og.dst = some t) (hv : a.tmps[t]? = some (.bool v)) (hne : v ≠ u) : Region.wanted o (yielded ops a.tmps) = false := by
 cases u <;> cases v <;> simp_all [Region.wanted, yielded]
theorem want_free {ops : Array Oper} {a : Act} {o : Oper} (hg : o.guard = none) : Region.wanted o (yielded ops a.tmps) = true := by
 simp [Region.wanted, hg]
end Go.Proofs.Ytjmkccabpnigiaa.P
