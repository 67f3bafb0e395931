import Derived.Test.YtjmkccabpnigiaaQPolyC
import Derived.OrdersIn
import Derived.RangeFuncNested
import Derived.OwnWalkIn
import Derived.TacticsInMore
import Derived.IntWalk
import Derived.Test.YtjmkccabpnigiaaQGivenN
namespace Go.Proofs.Ytjmkccabpnigiaa.P
open Go.RowKit Go.Proofs.YtjmkccabpnigiaaW.PrintWords Go.Proofs.YtjmkccabpnigiaaW.PrintLast Go.Proofs.YtjmkccabpnigiaaW.PrintMore
attribute [local go_sem] max2_int min2_int max_two min_two max_three min_three max_four min_four
set_option linter.unusedVariables false
set_option linter.unusedSimpArgs false
/-- The widest fence, in a round or not. -/
def FR (r : Option Nat) : Fence := { Fence.wide with round := r }
theorem fr_none : FR none = Fence.wide := rfl
theorem fr_some (l : Nat) : FR (some l) = Fence.wide.inRound l := rfl
theorem rows_fr {r : Option Nat} {n : Nat} {P : Program} {row : String} {args : Array Value} {w : World} {R : Value → World → Prop} (h : Rows P row args w R) : RowsIn (FR r) n P row args w R := fun c cs _ =>
 let ⟨v, w', hr, s⟩ := h c cs
 ⟨v, w', hr, stepsIn_wide.2 s⟩
theorem calls_fr {r : Option Nat} {n : Nat} {P : Program} {f : FuncId} {args : Array Value} {w : World} {R : Ending → World → Prop} (h : Calls P f args w R) : CallsIn (FR r) n P f args w R := callsIn_wide.2 h
theorem oper_fr {P : Program} {o : Oper} {a : Act} {w : World} {K : Act → World → Prop} {Q : Exit → Act → World → Prop} {n : Nat} {r : Option Nat} (hd : ∀ c, o.op ≠ .defer c) (h : Oper.wp P o a w K Q) : Oper.wpIn (FR r) n P o a w K Q := by
 refine ⟨fun _ _ => trivial, ?_⟩
 rw [Oper.semAt_eq _ _ _ hd]
 unfold Oper.wp at h
 generalize (execOp a.eval o).run P w = z at h ⊢
 cases z with
 | ok x w' =>
  cases x <;> simp only [Oper.upon, Oper.uponIn] at h ⊢ <;>
   first
    | exact h
    | exact h.elim
    | exact ⟨fun e => (by cases e), (calls_fr h).mono fun e w'' he => (by cases e <;> exact he)⟩
    | exact ⟨fun e => (by cases e), rows_fr h⟩
 | halt x w' => cases x <;> simp only [Oper.upon, Oper.uponIn] at h ⊢ <;> first | exact h | exact h.elim
def noDefer (ops : Array Oper) : Bool := ops.all fun o => match o.op with
 | .defer _ => false
 | _ => true
theorem noDefer_at {ops : Array Oper} (h : noDefer ops = true) {i : Nat} {o : Oper} (ho : ops[i]? = some o) : ∀ c, o.op ≠ .defer c := by
 intro c hc
 unfold noDefer at h
 obtain ⟨h1, h2⟩ := Array.getElem?_eq_some_iff.1 ho
 have := (Array.all_eq_true.1 h) i h1
 rw [h2, hc] at this
 cases this
theorem wpAnyIn_inv {P : Program} {ops : Array Oper} {Q : Exit → Act → World → Prop} {r : Option Nat} {n : Nat} (hord : orderedT (rtab .any ops).2 = true) (Inv : List Bool → Act → World → Prop)
    (hstep : ∀ i o l a w, ops[i]? = some o → Inv l a w → l.getD i true = false → (∀ j ∈ needsOf .any o, l.getD j false = true) →
     (if Region.wanted o (yielded ops a.tmps) = true then Oper.wpIn (FR r) n P o a w (fun a' w' => Inv (l.set i true) a' w') Q else Inv (l.set i true) (a.put o.dst undef) w))
    (hdone : ∀ a w, Inv (List.replicate ops.size true) a w → Q .normal a w) :
    ∀ (fuel : Nat) (l : Array Bool) (a : Act) (w : World), l.size = ops.size → l.toList.count false ≤ fuel → Inv l.toList a w → wpAnyIn (FR r) n P .any ops Q fuel l a w := by
 have hT : rtab .any ops = rtab .any ops := rfl
 have hlen : (rtab .any ops).2.length = ops.size := rtab_length
 have hnil : ∀ (l : Array Bool) (a : Act) (w : World), l.size = ops.size → Inv l.toList a w → Region.ready .any ops l = [] → Q .normal a w := by
  intro l a w hs hi hr
  refine hdone a w ?_
  have hall : ∀ i, i < ops.size → l.toList.getD i true = true := by
   intro i
   induction i using Nat.strongRecOn with
   | ind i ih =>
    intro hlt
    cases hg : l.toList.getD i true with
    | true => rfl
    | false =>
     have hm : i ∈ Region.ready .any ops l := by
      rw [ready_iff hT]
      refine ⟨by omega, ?_⟩
      unfold readyAt
      rw [hg, List.getElem?_eq_getElem (show i < (rtab .any ops).2.length by omega)]
      simp only [Bool.not_false, Bool.true_and, List.all_eq_true]
      intro j hj
      have h1 := List.all_eq_true.1 hord i (List.mem_range.2 (by omega))
      rw [List.getElem?_eq_getElem (show i < (rtab .any ops).2.length by omega)] at h1
      have h2 := List.all_eq_true.1 h1 j hj
      have h3 : j < i := by simpa using h2
      have h4 := ih j h3 (by omega)
      rw [List.getD_eq_getElem?_getD, List.getElem?_eq_getElem (show j < l.toList.length by simp; omega)] at h4 ⊢
      exact h4
     rw [hr] at hm
     cases hm
  have : l.toList = List.replicate ops.size true := by
   apply List.ext_getElem
   ·simp [hs]
   ·intro i h1 h2
    have := hall i (by simpa using h2)
    rw [List.getD_eq_getElem?_getD, List.getElem?_eq_getElem h1] at this
    rw [List.getElem_replicate]
    exact this
  rw [← this]
  exact hi
 intro fuel
 induction fuel with
 | zero =>
  intro l a w hs hc hi
  have hr : Region.ready .any ops l = [] := by
   apply List.eq_nil_iff_forall_not_mem.2
   intro i hm
   rw [ready_iff hT] at hm
   have h1 := hm.2
   unfold readyAt at h1
   rw [Bool.and_eq_true] at h1
   have h2 : l.toList.getD i true = false := by simpa using h1.1
   have := cnt_set _ _ h2
   omega
  exact ⟨hr, hnil l a w hs hi hr⟩
 | succ fuel ih =>
  intro l a w hs hc hi
  refine ⟨hnil l a w hs hi, fun i hm => ?_⟩
  rw [ready_iff hT] at hm
  obtain ⟨hm1, hm2⟩ := hm
  unfold readyAt at hm2
  rw [Bool.and_eq_true, List.getElem?_eq_getElem hm1] at hm2
  have h2 : l.toList.getD i true = false := by simpa using hm2.1
  have hio : i < ops.size := by omega
  have hio' : ops[i]? = some ops[i] := Array.getElem?_eq_getElem hio
  have h3 : ∀ j ∈ needsOf .any ops[i], l.toList.getD j false = true := by
   have := hm2.2
   simp only [List.all_eq_true] at this
   have he := rtab_some hio' (md := .any)
   rw [List.getElem?_eq_getElem hm1] at he
   have he := Option.some.inj he
   intro j hj
   refine this j ?_
   rw [he]
   exact hj
  have hst := hstep i ops[i] l.toList a w hio' hi h2 h3
  have hcnt := cnt_set _ _ h2
  have key : ∀ a' w', Inv (l.toList.set i true) a' w' → wpAnyIn (FR r) n P .any ops Q fuel (l.setIfInBounds i true) a' w' := by
   intro a' w' h'
   refine ih _ _ _ (by simpa using hs) ?_ ?_
   ·rw [Array.toList_setIfInBounds]; omega
   ·rw [Array.toList_setIfInBounds]; exact h'
  unfold wpOpIn
  rw [hio']
  simp only
  by_cases hw : Region.wanted ops[i] (yielded ops a.tmps) = true
  ·rw [if_pos hw] at hst ⊢
   exact Oper.wpIn_mono key hst
  ·rw [if_neg hw] at hst ⊢
   exact ⟨fun _ _ => trivial, key _ _ hst⟩
theorem regionIn_by {P : Program} {id : Nat} {ops : Array Oper} {Q : Exit → Act → World → Prop} {a : Act} {w : World} {r : Option Nat} {n : Nat} (hm : P.follows .mixedOrders = true) (hord : orderedT (rtab .any ops).2 = true) (Inv : List Bool → Act → World → Prop)
    (h0 : Inv (List.replicate ops.size false) a w.drew)
    (hstep : ∀ i o l a w, ops[i]? = some o → Inv l a w → l.getD i true = false → (∀ j ∈ needsOf .any o, l.getD j false = true) →
     (if Region.wanted o (yielded ops a.tmps) = true then Oper.wpIn (FR r) n P o a w (fun a' w' => Inv (l.set i true) a' w') Q else Inv (l.set i true) (a.put o.dst undef) w))
    (hdone : ∀ a w, Inv (List.replicate ops.size true) a w → Q .normal a w) : (Code.region id ops true).wpIn (FR r) n P Q a w := by
 refine wpIn_region_any hm ?_
 refine wpAnyIn_inv hord Inv hstep hdone ops.size _ _ _ (by simp) (by simp) ?_
 rw [Array.toList_replicate]
 exact h0
/-- Every operation before the Nth is needed by a later one of them or by the Nth. -/
def feedsTo (ops : Array Oper) (N : Nat) : Bool := (List.range N).all fun j => (List.range (N + 1)).any fun i => decide (j < i) && ((ops[i]?).any fun o => (needsOf .any o).contains j)
/-- Every operation after the Nth needs the one before it. -/
def chained (ops : Array Oper) (N : Nat) : Bool := (List.range ops.size).all fun i => decide (i ≤ N) || ((ops[i]?).any fun o => (needsOf .any o).contains (i - 1))
theorem fed {ops : Array Oper} {N : Nat} (hN : N < ops.size) (hf : feedsTo ops N = true) {l : List Bool} (hcl : ∀ (i : Nat) o, ops[i]? = some o → i < N → l.getD i false = true → ∀ j ∈ needsOf .any o, l.getD j false = true)
    {o : Oper} (ho : ops[N]? = some o) (hn : ∀ j ∈ needsOf .any o, l.getD j false = true) : ∀ j, j < N → l.getD j false = true := by
 have key : ∀ (k j : Nat), N - j ≤ k → j < N → l.getD j false = true := by
  intro k
  induction k with
  | zero => intro j h1 h2; omega
  | succ k ih =>
   intro j h1 h2
   have h3 := List.all_eq_true.1 hf j (List.mem_range.2 h2)
   obtain ⟨i, hi, h4⟩ := List.any_eq_true.1 h3
   have hi := List.mem_range.1 hi
   rw [Bool.and_eq_true] at h4
   have hji : j < i := of_decide_eq_true h4.1
   obtain ⟨oi, hoi⟩ : ∃ oi, ops[i]? = some oi := ⟨_, Array.getElem?_eq_getElem (by omega)⟩
   have h5 := h4.2
   rw [hoi] at h5
   have h6 : j ∈ needsOf .any oi := by simpa using h5
   by_cases he : i = N
   ·subst he
    rw [ho] at hoi
    obtain rfl := Option.some.inj hoi
    exact hn j h6
   ·exact hcl i oi hoi (by omega) (ih i (by omega) (by omega)) j h6
 exact fun j hj => key _ j (Nat.le_refl _) hj
theorem chain_at {ops : Array Oper} {N i : Nat} {o : Oper} (h : chained ops N = true) (ho : ops[i]? = some o) (hi : N < i) : i - 1 ∈ needsOf .any o := by
 have hio : i < ops.size := (Array.getElem?_eq_some_iff.1 ho).1
 have h1 := List.all_eq_true.1 h i (List.mem_range.2 hio)
 rw [ho, Bool.or_eq_true] at h1
 rcases h1 with h1 | h1
 ·have := of_decide_eq_true h1
  omega
 ·simpa using h1
theorem getD_flip {l : List Bool} {i : Nat} (h : l.getD i true = false) : l.getD i false = false := by
 rw [List.getD_eq_getElem?_getD] at h ⊢
 cases hx : l[i]? with
 | none => rw [hx] at h; cases h
 | some b => rw [hx] at h; exact h
theorem getD_set_other {l : List Bool} {i j : Nat} (h : i ≠ j) (b : Bool) : (l.set i b).getD j false = l.getD j false := by
 rw [List.getD_eq_getElem?_getD, List.getElem?_set_ne h, ← List.getD_eq_getElem?_getD]
theorem getD_set_up {l : List Bool} {i j : Nat} (hi : i < l.length) (h : l.getD j false = true) : (l.set i true).getD j false = true := by
 by_cases hij : i = j
 ·subst hij
  rw [List.getD_eq_getElem?_getD, List.getElem?_set_self hi]; rfl
 ·rw [getD_set_other hij]; exact h
/-- What is known while a region runs that writes nothing but its slots: the first operations, one by one. -/
def SureInv (ops : Array Oper) (W : World) (ds : List Nat) (Ps : List (World → Value → Prop)) (base : Array Value) (l : List Bool) (a : Act) (w : World) : Prop :=
 l.length = ops.size ∧ a.defers = [] ∧ a.tmps.size = base.size ∧ Below W.heap.size W w ∧ (∀ (i : Nat) d p, l.getD i false = true → ds[i]? = some d → Ps[i]? = some p → ∃ v, a.tmps[d]? = some v ∧ p w v) ∧ (∀ k, k ∉ ds → a.tmps[k]? = base[k]?)
theorem SureInv.start {ops : Array Oper} {W : World} {ds : List Nat} {Ps : List (World → Value → Prop)} {base : Array Value} : SureInv ops W ds Ps base (List.replicate ops.size false) ⟨base, []⟩ W.drew := by
 refine ⟨by simp, rfl, rfl, below_drew1 (Below.refl _ _), fun i d p h _ _ => ?_, fun _ _ => rfl⟩
 simp [List.getD_eq_getElem?_getD, List.getElem?_replicate] at h
 split at h <;> simp at h
theorem SureInv.put {P : Program} {ops : Array Oper} {W : World} {B : Array Value → Prop} {ds : List Nat} {Ps : List (World → Value → Prop)} {base : Array Value} {l : List Bool} {a : Act} {w : World} (hlen : ds.length ≤ ops.size) (hnd : ds.Nodup) (hin : ds.all (fun d => decide (d < base.size)) = true)
    (hmo : ∀ (i : Nat) p, Ps[i]? = some p → Mono p) (h : SureInv ops W ds Ps base l a w) {i d : Nat} {p : World → Value → Prop} (hd : ds[i]? = some d) (hp : Ps[i]? = some p) {v : Value} {w' : World} (hv : p w' v) (hb : Below w.heap.size w w') : SureInv ops W ds Ps base (l.set i true) (a.put (some d) v) w' := by
 obtain ⟨h1, h2, h3, h4, h5, h6⟩ := h
 have hdin : d < a.tmps.size := by
  have := List.all_eq_true.1 hin d (List.mem_of_getElem? hd)
  rw [h3]
  simpa using this
 have hput : (a.put (some d) v).tmps = a.tmps.setIfInBounds d v := rfl
 refine ⟨by simpa using h1, h2, by rw [hput, Array.size_setIfInBounds]; exact h3, below_step h4 hb, fun i' d' p' hbit hd' hp' => ?_, fun k hk => ?_⟩
 ·rw [hput]
  by_cases hii : i = i'
  ·subst hii
   rw [hd] at hd'
   rw [hp] at hp'
   obtain rfl := Option.some.inj hd'
   obtain rfl := Option.some.inj hp'
   exact ⟨v, by simp [hdin], hv⟩
  ·have hdd : d ≠ d' := by
     intro e
     subst e
     have h7 := List.pairwise_iff_getElem.1 hnd
     obtain ⟨g1, g2⟩ := List.getElem?_eq_some_iff.1 hd
     obtain ⟨g3, g4⟩ := List.getElem?_eq_some_iff.1 hd'
     rcases Nat.lt_or_gt_of_ne hii with hlt | hlt
     ·exact h7 i i' g1 g3 hlt (g2.trans g4.symm)
     ·exact h7 i' i g3 g1 hlt (g4.trans g2.symm)
   have hbit' : l.getD i' false = true := by
    rw [List.getD_eq_getElem?_getD, List.getElem?_set_ne hii] at hbit
    rwa [List.getD_eq_getElem?_getD]
   obtain ⟨v', hv', hpv⟩ := h5 i' d' p' hbit' hd' hp'
   exact ⟨v', by rw [Array.getElem?_setIfInBounds_ne hdd]; exact hv', hmo i' p' hp' _ _ _ hb hpv⟩
 ·rw [hput, Array.getElem?_setIfInBounds_ne (fun e => hk (by rw [← e]; exact List.mem_of_getElem? hd))]
  exact h6 k hk
theorem SureInv.fin {ops : Array Oper} {W : World} {ds : List Nat} {Ps : List (World → Value → Prop)} {base : Array Value} {l : List Bool} {a : Act} {w : World} (hlp : Ps.length = ds.length) (hnd : ds.Nodup) (hin : ds.all (fun d => decide (d < base.size)) = true)
    (h : SureInv ops W ds Ps base l a w) (hall : ∀ i, i < ds.length → l.getD i false = true) : ∃ vs, Got w Ps vs ∧ a = ⟨laid base ds vs, []⟩ := by
 obtain ⟨h1, h2, h3, h4, h5, h6⟩ := h
 obtain ⟨vs, g1, g2, g3⟩ := got_of (T := a.tmps) (w := w) (ds := ds) (Ps := Ps) hlp (fun i d p hd hp => h5 i d p (hall i (List.getElem?_eq_some_iff.1 hd).1) hd hp)
 have := laid_eq h3 hnd (fun d hd => by simpa using List.all_eq_true.1 hin d hd) g2 g3 h6
 refine ⟨vs, g1, ?_⟩
 cases a
 simp only at h2 this
 rw [h2, this]
theorem Steps.monos {P : Program} {ops : Array Oper} {W : World} {B : Array Value → Prop} {DS : List Nat} {PS : List (World → Value → Prop)} : ∀ {os : List Oper} {ds : List Nat} {ps : List (World → Value → Prop)}, Steps P ops W B DS PS os ds ps → ∀ (i : Nat) p, ps[i]? = some p → Mono p
 | o :: os, d :: ds, p :: ps, h, 0, q, hq => by
  simp at hq
  subst hq
  exact h.1.1
 | o :: os, d :: ds, p :: ps, h, i + 1, q, hq => Steps.monos h.2 i q (by simpa using hq)
 | [], [], [], _, i, q, hq => by simp at hq
 | [_], [], [], _, i, q, hq => by simp at hq
 | [], _ :: _, _, h, _, _, _ => h.elim
 | [], [], _ :: _, h, _, _, _ => h.elim
 | [_], [], _ :: _, h, _, _, _ => h.elim
 | _ :: _ :: _, [], _, h, _, _, _ => h.elim
 | _ :: _, _ :: _, [], h, _, _, _ => h.elim
/-- A region that writes nothing but its slots, in a round or not. -/
theorem regionIn_sure {P : Program} {id : Nat} {ops : Array Oper} {Q : Exit → Act → World → Prop} {base : Array Value} {W : World} {r : Option Nat} {n : Nat} (hm : P.follows .mixedOrders = true) (hord : orderedT (rtab .any ops).2 = true) (hdf : noDefer ops = true) (B : Array Value → Prop) (ds : List Nat) (Ps : List (World → Value → Prop))
    (hB : B base) (hlen : ds.length = ops.size) (hnd : ds.Nodup) (hin : ds.all (fun d => decide (d < base.size)) = true)
    (hstep : Steps P ops W B ds Ps ops.toList ds Ps)
    (hdone : ∀ vs w', Got w' Ps vs → Below W.heap.size W w' → Q .normal ⟨laid base ds vs, []⟩ w') : (Code.region id ops true).wpIn (FR r) n P Q ⟨base, []⟩ W := by
 have hlp : Ps.length = ds.length := hstep.len.1
 refine regionIn_by hm hord (fun l a w => SureInv ops W ds Ps base l a w) SureInv.start ?_ ?_
 ·rintro i o l a w ho HI hi hn
  have hio : i < ops.size := (Array.getElem?_eq_some_iff.1 ho).1
  obtain ⟨d, hd⟩ : ∃ d, ds[i]? = some d := ⟨_, List.getElem?_eq_getElem (by omega)⟩
  obtain ⟨p, hp⟩ : ∃ p, Ps[i]? = some p := ⟨_, List.getElem?_eq_getElem (by omega)⟩
  obtain ⟨hmo, hst⟩ := hstep.at_ (i := i) (by simpa using ho) hd hp
  obtain ⟨hdst, hst⟩ := hst Q base a w hB HI.2.2.2.1 HI.2.2.1 (fun j hj dj pj hdj hpj => HI.2.2.2.2.1 j dj pj (hn j hj) hdj hpj) HI.2.2.2.2.2
  by_cases hw : Region.wanted o (yielded ops a.tmps) = true
  ·rw [if_pos hw] at hst ⊢
   refine Oper.wpIn_mono ?_ (oper_fr (noDefer_at hdf ho) hst)
   rintro a' w' ⟨v, rfl, hv, hb⟩
   exact HI.put (B := B) (P := P) (by omega) hnd hin hstep.monos hd hp hv hb
  ·rw [if_neg hw] at hst ⊢
   rw [hdst]
   exact HI.put (B := B) (P := P) (by omega) hnd hin hstep.monos hd hp hst (Below.refl _ _)
 ·rintro a w HI
  obtain ⟨vs, g1, rfl⟩ := HI.fin hlp hnd hin (fun i hi => by
   rw [List.getD_eq_getElem?_getD, List.getElem?_replicate, if_pos (by omega)]
   rfl)
  exact hdone vs w g1 HI.2.2.2.1
/-- A region whose operations write nothing but their slots up to the Nth, which they feed; what comes after it comes in line. -/
theorem regionIn_tail {P : Program} {id : Nat} {ops : Array Oper} {Q : Exit → Act → World → Prop} {base : Array Value} {W : World} {r : Option Nat} {n : Nat} (N : Nat) (hm : P.follows .mixedOrders = true) (hord : orderedT (rtab .any ops).2 = true) (hdf : noDefer ops = true) (hfe : feedsTo ops N = true) (hch : chained ops N = true) (hN : N < ops.size) (B : Array Value → Prop) (ds : List Nat) (Ps : List (World → Value → Prop))
    (hB : B base) (hlen : ds.length = N) (hlp : Ps.length = N) (hnd : ds.Nodup) (hin : ds.all (fun d => decide (d < base.size)) = true)
    (hstep : Steps P ops W B ds Ps (ops.toList.take N) ds Ps)
    (hdone : ∀ vs w', Got w' Ps vs → Below W.heap.size W w' → wpListIn (FR r) n P ops Q (ops.toList.drop N) ⟨laid base ds vs, []⟩ w') : (Code.region id ops true).wpIn (FR r) n P Q ⟨base, []⟩ W := by
 refine regionIn_by hm hord (fun l a w => (l.length = ops.size ∧ (∀ i, N ≤ i → l.getD i false = false) ∧ SureInv ops W ds Ps base l a w ∧ (∀ (i : Nat) o, ops[i]? = some o → i < N → l.getD i false = true → ∀ j ∈ needsOf .any o, l.getD j false = true)) ∨
  (∃ m, N < m ∧ m ≤ ops.size ∧ l.length = ops.size ∧ (∀ i, i < m → l.getD i false = true) ∧ (∀ i, m ≤ i → l.getD i false = false) ∧ wpListIn (FR r) n P ops Q (ops.toList.drop m) a w)) ?_ ?_ ?_
 ·refine .inl ⟨by simp, fun i hi => ?_, SureInv.start, fun i o _ _ h => ?_⟩
  ·rw [List.getD_eq_getElem?_getD, List.getElem?_replicate]; split <;> rfl
  ·rw [List.getD_eq_getElem?_getD, List.getElem?_replicate] at h; split at h <;> cases h
 ·rintro i o l a w ho HI hi hn
  have hio : i < ops.size := (Array.getElem?_eq_some_iff.1 ho).1
  have hoi : ops.toList[i]? = some o := by simpa using ho
  have hdr : ops.toList.drop i = o :: ops.toList.drop (i + 1) := by
   rw [List.drop_eq_getElem_cons (by simpa using hio)]
   congr 1
   have := List.getElem?_eq_getElem (l := ops.toList) (i := i) (by simpa using hio)
   rw [hoi] at this
   exact (Option.some.inj this).symm
  have fin : ∀ (l : List Bool) (a : Act) (w : World), i < l.length → l.length = ops.size → N ≤ i → (∀ k, k < i → l.getD k false = true) → (∀ k, i ≤ k → l.getD k false = false) → wpListIn (FR r) n P ops Q (ops.toList.drop i) a w →
      (if Region.wanted o (yielded ops a.tmps) = true then Oper.wpIn (FR r) n P o a w (fun a' w' => (∃ m, N < m ∧ m ≤ ops.size ∧ (l.set i true).length = ops.size ∧ (∀ k, k < m → (l.set i true).getD k false = true) ∧ (∀ k, m ≤ k → (l.set i true).getD k false = false) ∧ wpListIn (FR r) n P ops Q (ops.toList.drop m) a' w')) Q
      else (∃ m, N < m ∧ m ≤ ops.size ∧ (l.set i true).length = ops.size ∧ (∀ k, k < m → (l.set i true).getD k false = true) ∧ (∀ k, m ≤ k → (l.set i true).getD k false = false) ∧ wpListIn (FR r) n P ops Q (ops.toList.drop m) (a.put o.dst undef) w)) := by
   intro l a w hil hl hNi h1 h2 h3
   rw [hdr] at h3
   unfold wpListIn at h3
   have key : ∀ a' w', wpListIn (FR r) n P ops Q (ops.toList.drop (i + 1)) a' w' → (∃ m, N < m ∧ m ≤ ops.size ∧ (l.set i true).length = ops.size ∧ (∀ k, k < m → (l.set i true).getD k false = true) ∧ (∀ k, m ≤ k → (l.set i true).getD k false = false) ∧ wpListIn (FR r) n P ops Q (ops.toList.drop m) a' w') := by
    intro a' w' h
    refine ⟨i + 1, by omega, by omega, by simpa using hl, fun k hk => ?_, fun k hk => ?_, h⟩
    ·by_cases hik : i = k
     ·subst hik
      rw [List.getD_eq_getElem?_getD, List.getElem?_set_self hil]; rfl
     ·rw [getD_set_other hik]
      exact h1 k (by omega)
    ·rw [getD_set_other (by omega)]
     exact h2 k (by omega)
   by_cases hw : Region.wanted o (yielded ops a.tmps) = true
   ·rw [if_pos hw] at h3 ⊢
    exact Oper.wpIn_mono key h3
   ·rw [if_neg hw] at h3 ⊢
    exact key _ _ h3.2
  rcases HI with ⟨hll, hNo, HI, hcl⟩ | ⟨m, hm1, hm2, hll, hdo, hno, hl⟩
  ·rcases Nat.lt_trichotomy i N with hlt | he | hgt
   ·obtain ⟨d, hd⟩ : ∃ d, ds[i]? = some d := ⟨_, List.getElem?_eq_getElem (by omega)⟩
    obtain ⟨p, hp⟩ : ∃ p, Ps[i]? = some p := ⟨_, List.getElem?_eq_getElem (by omega)⟩
    obtain ⟨hmo, hst⟩ := hstep.at_ (i := i) (by rw [List.getElem?_take, if_pos hlt]; exact hoi) hd hp
    obtain ⟨hdst, hst⟩ := hst Q base a w hB HI.2.2.2.1 HI.2.2.1 (fun j hj dj pj hdj hpj => HI.2.2.2.2.1 j dj pj (hn j hj) hdj hpj) HI.2.2.2.2.2
    have hN' : ∀ k, N ≤ k → (l.set i true).getD k false = false := fun k hk => by
     rw [getD_set_other (by omega)]
     exact hNo k hk
    have hcl' : ∀ (i' : Nat) o', ops[i']? = some o' → i' < N → (l.set i true).getD i' false = true → ∀ j ∈ needsOf .any o', (l.set i true).getD j false = true := by
     intro i' o' ho' hi' hb' j hj
     by_cases hii : i = i'
     ·subst hii
      rw [ho] at ho'
      obtain rfl := Option.some.inj ho'
      exact getD_set_up (by omega) (hn j hj)
     ·rw [getD_set_other hii] at hb'
      exact getD_set_up (by omega) (hcl i' o' ho' hi' hb' j hj)
    by_cases hw : Region.wanted o (yielded ops a.tmps) = true
    ·rw [if_pos hw] at hst ⊢
     refine Oper.wpIn_mono ?_ (oper_fr (noDefer_at hdf ho) hst)
     rintro a' w' ⟨v, rfl, hv, hb⟩
     exact .inl ⟨by simpa using hll, hN', HI.put (B := B) (P := P) (by omega) hnd hin hstep.monos hd hp hv hb, hcl'⟩
    ·rw [if_neg hw] at hst ⊢
     rw [hdst]
     exact .inl ⟨by simpa using hll, hN', HI.put (B := B) (P := P) (by omega) hnd hin hstep.monos hd hp hst (Below.refl _ _), hcl'⟩
   ·subst he
    have hfd := fed hN hfe hcl ho hn
    obtain ⟨vs, g1, rfl⟩ := HI.fin (by omega) hnd hin (fun i hi => hfd i (by omega))
    have hst := fin l _ w (by omega) hll (Nat.le_refl _) hfd hNo (hdone vs w g1 HI.2.2.2.1)
    by_cases hw : Region.wanted o (yielded ops (laid base ds vs)) = true
    ·rw [if_pos hw] at hst ⊢
     exact Oper.wpIn_mono (fun a' w' h => .inr h) hst
    ·rw [if_neg hw] at hst ⊢
     exact .inr hst
   ·have h1 := hn _ (chain_at hch ho hgt)
    rw [hNo (i - 1) (by omega)] at h1
    cases h1
  ·rcases Nat.lt_trichotomy i m with hlt | he | hgt
   ·have h1 := getD_flip hi
    rw [hdo i hlt] at h1
    cases h1
   ·subst he
    have hst := fin l a w (by omega) hll (by omega) hdo hno hl
    by_cases hw : Region.wanted o (yielded ops a.tmps) = true
    ·rw [if_pos hw] at hst ⊢
     exact Oper.wpIn_mono (fun a' w' h => .inr h) hst
    ·rw [if_neg hw] at hst ⊢
     exact .inr hst
   ·have h1 := hn _ (chain_at hch ho (by omega))
    rw [hno (i - 1) (by omega)] at h1
    cases h1
 ·rintro a w (⟨hll, hNo, _⟩ | ⟨m, hm1, hm2, hll, hdo, hno, hl⟩)
  ·have := hNo N (Nat.le_refl _)
   rw [List.getD_eq_getElem?_getD, List.getElem?_replicate, if_pos hN] at this
   cases this
  ·have hm3 : m = ops.size := by
     rcases Nat.lt_or_ge m ops.size with h | h
     ·have := hno m (Nat.le_refl _)
      rw [List.getD_eq_getElem?_getD, List.getElem?_replicate, if_pos h] at this
      cases this
     ·omega
   rw [hm3, List.drop_eq_nil_of_le (by simp)] at hl
   exact hl
end Go.Proofs.Ytjmkccabpnigiaa.P
namespace Go.Proofs.Ytjmkccabpnigiaa.P
open Go.RowKit Go.Proofs.YtjmkccabpnigiaaW.PrintWords Go.Proofs.YtjmkccabpnigiaaW.PrintLast Go.Proofs.YtjmkccabpnigiaaW.PrintMore
attribute [local go_sem] max2_int min2_int max_two min_two max_three min_three max_four min_four
set_option linter.unusedVariables false
set_option linter.unusedSimpArgs false
/-- What an operation of a region does: fills a slot; lays a box; writes a box that an operation of this region laid. -/
inductive BK where
 | sure (d : Nat) (p : World → Value → Prop)
 | box (d t : Nat) (old : Array Value) (c : World → Array Value → Prop)
 | put (i d t : Nat) (old : Array Value) (c : World → Array Value → Prop)
def BK.dst : BK → Nat
 | .sure d _ => d
 | .box d _ _ _ => d
 | .put _ _ _ _ _ => 1000000
def BK.isPut : BK → Bool
 | .put _ _ _ _ _ => true
 | _ => false
def BK.pred : BK → World → Value → Prop
 | .sure _ p => p
 | .box _ _ _ _ => fun _ v => ∃ g, v = .pointer (some ⟨g, 0, none⟩)
 | .put _ _ _ _ _ => fun _ _ => True
def dsts (ks : List BK) : List Nat := (ks.filter (fun k => !k.isPut)).map BK.dst
def bslots : List BK → List Nat
 | .box d _ _ _ :: ks => d :: bslots ks
 | _ :: ks => bslots ks
 | [] => []
def BKeep (g : Nat) (w w' : World) : Prop := w'.os = w.os ∧ w'.tape = w.tape ∧ w'.output = w.output ∧ w.heap.size ≤ w'.heap.size ∧ ∀ k, k < w.heap.size → k ≠ g → w'.heap[k]? = w.heap[k]?
/-- As StepOK, where what was waited for may be the write of a box. -/
def StepOKb (P : Program) (ops : Array Oper) (W : World) (B : Array Value → Prop) (ds : List Nat) (Ps : List (World → Value → Prop)) (o : Oper) (d : Nat) (p : World → Value → Prop) : Prop :=
 ∀ (Q : Exit → Act → World → Prop) (base : Array Value) (a : Act) (w : World), B base → Below W.heap.size W w → a.tmps.size = base.size →
  (∀ j ∈ needsOf .any o, ∀ dj pj, ds[j]? = some dj → Ps[j]? = some pj → dj < 1000000 → ∃ v, a.tmps[dj]? = some v ∧ pj w v) → (∀ k, k ∉ ds → a.tmps[k]? = base[k]?) →
  o.dst = some d ∧ (if Region.wanted o (yielded ops a.tmps) = true then Oper.wp P o a w (fun a' w' => ∃ v, a' = a.put (some d) v ∧ p w' v ∧ Below w.heap.size w w') Q else p w undef)
def PutOK (P : Program) (ops : Array Oper) (W : World) (R : World → World → Prop) (B : Array Value → Prop) (DS : List Nat) (PS : List (World → Value → Prop)) (o : Oper) (d t : Nat) (old : Array Value) (c : World → Array Value → Prop) : Prop :=
 ∀ (Q : Exit → Act → World → Prop) (base : Array Value) (a : Act) (w : World) (g : Nat), B base → Below W.heap.size W w → a.tmps.size = base.size →
  (∀ j ∈ needsOf .any o, ∀ dj pj, DS[j]? = some dj → PS[j]? = some pj → dj < 1000000 → ∃ v, a.tmps[dj]? = some v ∧ pj w v) → (∀ k, k ∉ DS → a.tmps[k]? = base[k]?) →
  a.tmps[d]? = some (.pointer (some ⟨g, 0, none⟩)) → w.heap[g]? = some (.cells old t (0, 0)) →
  o.dst = none ∧ Oper.wp P o a w (fun a' w' => a' = a ∧ (∃ cs, w'.heap[g]? = some (.cells cs t (0, 0)) ∧ c w' cs) ∧ BKeep g w w' ∧ R w w') Q
def KStep (P : Program) (ops : Array Oper) (W : World) (R : World → World → Prop) (B : Array Value → Prop) (ks : List BK) (o : Oper) : BK → Prop
 | .sure d p => (∀ w w' v, R w w' → p w v → p w' v) ∧ StepOKb P ops W B (ks.map BK.dst) (ks.map BK.pred) o d p
 | .box d t old c => (∀ w w' cs, R w w' → c w cs → c w' cs) ∧ o.guard = none ∧ o.dst = some d ∧
     (∀ (Q : Exit → Act → World → Prop) (K : Act → World → Prop) (a : Act) (w : World), K (a.put (some d) (.pointer (some ⟨w.heap.size, 0, none⟩))) (w.alloc (.cells old t)) → Oper.wp P o a w K Q)
 | .put i d t old c => o.guard = none ∧ ks[i]? = some (.box d t old c) ∧ i ∈ needsOf .any o ∧ PutOK P ops W R B (ks.map BK.dst) (ks.map BK.pred) o d t old c
def KSteps (P : Program) (ops : Array Oper) (W : World) (R : World → World → Prop) (B : Array Value → Prop) (ks : List BK) : List Oper → List BK → Prop
 | o :: os, k :: rest => KStep P ops W R B ks o k ∧ KSteps P ops W R B ks os rest
 | [], [] => True
 | _, _ => False
theorem KSteps.at_ {P : Program} {ops : Array Oper} {W : World} {R : World → World → Prop} {B : Array Value → Prop} {ks : List BK} : ∀ {os : List Oper} {rest : List BK}, KSteps P ops W R B ks os rest → ∀ {i : Nat} {o : Oper} {k : BK}, os[i]? = some o → rest[i]? = some k → KStep P ops W R B ks o k
 | o :: os, k :: rest, h, 0, _, _, h1, h2 => by
  simp at h1 h2
  subst h1 h2
  exact h.1
 | o :: os, k :: rest, h, i + 1, _, _, h1, h2 => KSteps.at_ h.2 (i := i) (by simpa using h1) (by simpa using h2)
 | [], _, _, i, _, _, h1, _ => by simp at h1
 | _ :: _, [], _, i, _, _, _, h2 => by simp at h2
theorem KSteps.len {P : Program} {ops : Array Oper} {W : World} {R : World → World → Prop} {B : Array Value → Prop} {ks : List BK} : ∀ {os : List Oper} {rest : List BK}, KSteps P ops W R B ks os rest → rest.length = os.length
 | o :: os, k :: rest, h => by simp [KSteps.len h.2]
 | [], [], _ => rfl
 | [], _ :: _, h => h.elim
 | _ :: _, [], h => h.elim
/-- Two operations never fill the same slot; what a slot's filling waits for is no write of a box. -/
def apartB (ks : List BK) : Bool := (List.range ks.length).all fun i => (List.range ks.length).all fun j => decide (i = j) || (match ks[i]?, ks[j]? with
 | some (.put _ d _ _ _), some (.put _ d' _ _ _) => d != d'
 | some (.put _ _ _ _ _), _ => true
 | _, some (.put _ _ _ _ _) => true
 | some k, some k' => k.dst != k'.dst
 | _, _ => true)
theorem apart_at {ks : List BK} (h : apartB ks = true) {i j : Nat} {k k' : BK} (hi : ks[i]? = some k) (hj : ks[j]? = some k') (hij : i ≠ j) (h1 : k.isPut = false) (h2 : k'.isPut = false) : k.dst ≠ k'.dst := by
 have g1 := List.all_eq_true.1 h i (List.mem_range.2 (List.getElem?_eq_some_iff.1 hi).1)
 have g2 := List.all_eq_true.1 g1 j (List.mem_range.2 (List.getElem?_eq_some_iff.1 hj).1)
 rw [decide_eq_false hij, Bool.false_or, hi, hj] at g2
 cases k <;> cases k' <;> first | (cases h1; done) | (cases h2; done) | simpa using g2
theorem apart_put {ks : List BK} (h : apartB ks = true) {i j a a' d t t' : Nat} {old old' : Array Value} {c c' : World → Array Value → Prop} (hi : ks[i]? = some (.put a d t old c)) (hj : ks[j]? = some (.put a' d t' old' c')) : i = j := by
 have g1 := List.all_eq_true.1 h i (List.mem_range.2 (List.getElem?_eq_some_iff.1 hi).1)
 have g2 := List.all_eq_true.1 g1 j (List.mem_range.2 (List.getElem?_eq_some_iff.1 hj).1)
 by_cases hij : i = j
 ·exact hij
 ·rw [decide_eq_false hij, Bool.false_or, hi, hj] at g2
  simp at g2
structure BInv (ops : Array Oper) (ks : List BK) (W : World) (base : Array Value) (l : List Bool) (a : Act) (w : World) (G : Nat → Nat) : Prop where
 len : l.length = ops.size
 df : a.defers = []
 sz : a.tmps.size = base.size
 bl : Below W.heap.size W w
 sure : ∀ (i : Nat) d p, l.getD i false = true → ks[i]? = some (.sure d p) → ∃ v, a.tmps[d]? = some v ∧ p w v
 box : ∀ (i : Nat) d t old c, l.getD i false = true → ks[i]? = some (.box d t old c) → a.tmps[d]? = some (.pointer (some ⟨G d, 0, none⟩)) ∧ W.heap.size ≤ G d ∧ G d < w.heap.size
 old : ∀ (i : Nat) d t old c, l.getD i false = true → ks[i]? = some (.box d t old c) → (∀ (j : Nat) i' t' old' c', ks[j]? = some (.put i' d t' old' c') → l.getD j false = false) → w.heap[G d]? = some (.cells old t (0, 0))
 new : ∀ (j : Nat) i d t old c, l.getD j false = true → ks[j]? = some (.put i d t old c) → l.getD i false = true ∧ ∃ cs, w.heap[G d]? = some (.cells cs t (0, 0)) ∧ c w cs
 inj : ∀ (i i' : Nat) d t old c d' t' old' c', l.getD i false = true → l.getD i' false = true → ks[i]? = some (.box d t old c) → ks[i']? = some (.box d' t' old' c') → i ≠ i' → G d ≠ G d'
 far : ∀ k, k ∉ dsts ks → a.tmps[k]? = base[k]?
theorem mem_dsts {ks : List BK} {i : Nat} {k : BK} (h : ks[i]? = some k) (hp : k.isPut = false) : k.dst ∈ dsts ks := by
 unfold dsts
 refine List.mem_map.2 ⟨k, List.mem_filter.2 ⟨List.mem_of_getElem? h, by rw [hp]; rfl⟩, rfl⟩
theorem BInv.start {ops : Array Oper} {ks : List BK} {W : World} {base : Array Value} : BInv ops ks W base (List.replicate ops.size false) ⟨base, []⟩ W.drew (fun _ => 0) := by
 have hno : ∀ i, (List.replicate ops.size false).getD i false ≠ true := fun i h => by
  rw [List.getD_eq_getElem?_getD, List.getElem?_replicate] at h
  split at h <;> cases h
 exact ⟨by simp, rfl, rfl, below_drew1 (Below.refl _ _), fun i _ _ h _ => absurd h (hno i), fun i _ _ _ _ h _ => absurd h (hno i), fun i _ _ _ _ h _ _ => absurd h (hno i), fun i _ _ _ _ _ h _ => absurd h (hno i), fun i _ _ _ _ _ _ _ _ _ h _ _ _ _ => absurd h (hno i), fun _ _ => rfl⟩
theorem set_true {l : List Bool} {i j : Nat} (h : (l.set i true).getD j false = true) : i = j ∨ l.getD j false = true := by
 by_cases hij : i = j
 ·exact .inl hij
 ·rw [getD_set_other hij] at h
  exact .inr h
theorem tmps_put_ne {a : Act} {d d' : Nat} {v : Value} (h : d ≠ d') : (a.put (some d) v).tmps[d']? = a.tmps[d']? := by
 show (a.tmps.setIfInBounds d v)[d']? = _
 rw [Array.getElem?_setIfInBounds_ne h]
theorem tmps_put_eq {a : Act} {d : Nat} {v : Value} (h : d < a.tmps.size) : (a.put (some d) v).tmps[d]? = some v := by
 show (a.tmps.setIfInBounds d v)[d]? = _
 simp [h]
theorem tmps_put_size {a : Act} {d : Nat} {v : Value} : (a.put (some d) v).tmps.size = a.tmps.size := by
 show (a.tmps.setIfInBounds d v).size = _
 simp
theorem BInv.fill {ops : Array Oper} {ks : List BK} {W : World} {base : Array Value} {l : List Bool} {a : Act} {w : World} {G : Nat → Nat} {R : World → World → Prop} {P : Program} {B : Array Value → Prop} (hR : ∀ w w', Below w.heap.size w w' → R w w') (hap : apartB ks = true) (hin : (dsts ks).all (fun d => decide (d < base.size)) = true)
    (hks : KSteps P ops W R B ks ops.toList ks) (h : BInv ops ks W base l a w G) {i d : Nat} {p : World → Value → Prop} (hk : ks[i]? = some (.sure d p)) {v : Value} {w' : World} (hv : p w' v) (hb : Below w.heap.size w w') : BInv ops ks W base (l.set i true) (a.put (some d) v) w' G := by
 have hd : d < base.size := by have := List.all_eq_true.1 hin d (mem_dsts hk rfl); simpa using this
 have hop : ∀ (j : Nat) k, ks[j]? = some k → ∃ o, ops.toList[j]? = some o := fun j k hj => ⟨_, List.getElem?_eq_getElem (by have := hks.len; have := (List.getElem?_eq_some_iff.1 hj).1; omega)⟩
 have hne : ∀ (j : Nat) d' t old c, ks[j]? = some (.box d' t old c) → d ≠ d' := fun j d' t old c hj => by
  refine apart_at hap hk hj (fun e => ?_) rfl rfl
  subst e
  rw [hk] at hj
  cases hj
 have hbx : ∀ (j : Nat) d' t old c, (l.set i true).getD j false = true → ks[j]? = some (.box d' t old c) → l.getD j false = true := fun j d' t old c hj hkj => by
  rcases set_true hj with e | e
  ·subst e
   rw [hk] at hkj
   cases hkj
  ·exact e
 refine ⟨by simpa using h.len, h.df, by rw [tmps_put_size]; exact h.sz, below_step h.bl hb, fun j d' p' hj hkj => ?_, fun j d' t old c hj hkj => ?_, fun j d' t old c hj hkj hno => ?_, fun j i' d' t old c hj hkj => ?_, fun j j' d1 t1 o1 c1 d2 t2 o2 c2 hj hj' hkj hkj' hne' => ?_, fun k hkk => ?_⟩
 ·by_cases hij : i = j
  ·subst hij
   rw [hk] at hkj
   cases hkj
   exact ⟨v, tmps_put_eq (by rw [h.sz]; exact hd), hv⟩
  ·rcases set_true hj with e | e
   ·exact absurd e hij
   ·obtain ⟨v', h1, h2⟩ := h.sure j d' p' e hkj
    obtain ⟨o, ho⟩ := hop j _ hkj
    exact ⟨v', (tmps_put_ne (d := d) (d' := d') (apart_at hap hk hkj hij rfl rfl)).trans h1, (hks.at_ ho hkj).1 _ _ _ (hR _ _ hb) h2⟩
 ·have e := hbx j d' t old c hj hkj
  obtain ⟨h1, h2, h3⟩ := h.box j d' t old c e hkj
  exact ⟨by rw [tmps_put_ne (hne j d' t old c hkj)]; exact h1, h2, Nat.lt_of_lt_of_le h3 hb.size⟩
 ·have e := hbx j d' t old c hj hkj
  have h4 := h.old j d' t old c e hkj (fun j2 i2 t2 o2 c2 hk2 => by
   have := hno j2 i2 t2 o2 c2 hk2
   rw [getD_set_other (fun e2 => by subst e2; rw [hk] at hk2; cases hk2)] at this
   exact this)
  exact blk_below h4 hb
 ·have e : l.getD j false = true := by
    rcases set_true hj with e | e
    ·subst e
     rw [hk] at hkj
     cases hkj
    ·exact e
  obtain ⟨h1, cs, h2, h3⟩ := h.new j i' d' t old c e hkj
  refine ⟨getD_set_up (by have := (List.getElem?_eq_some_iff.1 hk).1; have := hks.len; have := h.len; simp at *; omega) h1, cs, blk_below h2 hb, ?_⟩
  obtain ⟨o, ho⟩ := hop j _ hkj
  obtain ⟨_, hbi, _, _⟩ := hks.at_ ho hkj
  obtain ⟨o', ho'⟩ := hop i' _ hbi
  exact (hks.at_ ho' hbi).1 _ _ _ (hR _ _ hb) h3
 ·exact h.inj j j' d1 t1 o1 c1 d2 t2 o2 c2 (hbx j _ _ _ _ hj hkj) (hbx j' _ _ _ _ hj' hkj') hkj hkj' hne'
 ·rw [tmps_put_ne (fun e => hkk (by rw [← e]; exact mem_dsts hk rfl))]
  exact h.far k hkk
theorem BInv.lay {ops : Array Oper} {ks : List BK} {W : World} {base : Array Value} {l : List Bool} {a : Act} {w : World} {G : Nat → Nat} {R : World → World → Prop} {P : Program} {B : Array Value → Prop} (hR : ∀ w w', Below w.heap.size w w' → R w w') (hap : apartB ks = true) (hin : (dsts ks).all (fun d => decide (d < base.size)) = true)
    (hks : KSteps P ops W R B ks ops.toList ks) (h : BInv ops ks W base l a w G) {i d t : Nat} {old : Array Value} {c : World → Array Value → Prop} (hi : l.getD i true = false) (hk : ks[i]? = some (.box d t old c)) : BInv ops ks W base (l.set i true) (a.put (some d) (.pointer (some ⟨w.heap.size, 0, none⟩))) (w.alloc (.cells old t)) (fun x => if x = d then w.heap.size else G x) := by
 have hd : d < base.size := by have := List.all_eq_true.1 hin d (mem_dsts hk rfl); simpa using this
 have hop : ∀ (j : Nat) k, ks[j]? = some k → ∃ o, ops.toList[j]? = some o := fun j k hj => ⟨_, List.getElem?_eq_getElem (by have := hks.len; have := (List.getElem?_eq_some_iff.1 hj).1; omega)⟩
 have hb : Below w.heap.size w (w.alloc (.cells old t)) := below_alloc (Below.refl _ _) _
 have hil : i < l.length := by have := (List.getElem?_eq_some_iff.1 hk).1; have := hks.len; have := h.len; simp at *; omega
 have hif := getD_flip hi
 have hne : ∀ (j : Nat) k, ks[j]? = some k → k.isPut = false → i ≠ j → d ≠ k.dst := fun j k hj hp hij => apart_at hap hk hj hij rfl hp
 -- a write of this box has not been made: it waits for it
 have hnp : ∀ (j : Nat) i' t' old' c', ks[j]? = some (.put i' d t' old' c') → l.getD j false = false := by
  intro j i' t' old' c' hj
  cases hl : l.getD j false with
  | false => rfl
  | true =>
   obtain ⟨h1, _⟩ := h.new j i' d t' old' c' hl hj
   obtain ⟨o, ho⟩ := hop j _ hj
   obtain ⟨_, hbi, _, _⟩ := hks.at_ ho hj
   have : i = i' := by
    by_cases e : i = i'
    ·exact e
    ·exact (apart_at (k := .box d t old c) (k' := .box d t' old' c') hap hk hbi e rfl rfl rfl).elim
   subst this
   rw [hif] at h1
   cases h1
 have hG : ∀ d', d ≠ d' → (if d' = d then w.heap.size else G d') = G d' := fun d' h => if_neg (Ne.symm h)
 refine ⟨by simpa using h.len, h.df, by rw [tmps_put_size]; exact h.sz, below_step h.bl hb, fun j d' p' hj hkj => ?_, fun j d' t' old' c' hj hkj => ?_, fun j d' t' old' c' hj hkj hno => ?_, fun j i' d' t' old' c' hj hkj => ?_, fun j j' d1 t1 o1 c1 d2 t2 o2 c2 hj hj' hkj hkj' hne' => ?_, fun k hkk => ?_⟩
 ·rcases set_true hj with e | e
  ·subst e
   rw [hk] at hkj
   cases hkj
  ·have hij : i ≠ j := fun e2 => by subst e2; rw [hk] at hkj; cases hkj
   obtain ⟨v', h1, h2⟩ := h.sure j d' p' e hkj
   obtain ⟨o, ho⟩ := hop j _ hkj
   exact ⟨v', (tmps_put_ne (d := d) (d' := d') (hne j _ hkj rfl hij)).trans h1, (hks.at_ ho hkj).1 _ _ _ (hR _ _ hb) h2⟩
 ·by_cases hij : i = j
  ·subst hij
   rw [hk] at hkj
   cases hkj
   simp only [if_pos]
   exact ⟨tmps_put_eq (by rw [h.sz]; exact hd), h.bl.size, by simp⟩
  ·have e : l.getD j false = true := (set_true hj).resolve_left hij
   have hdd := hne j _ hkj rfl hij
   obtain ⟨h1, h2, h3⟩ := h.box j d' t' old' c' e hkj
   simp only [hG d' hdd]
   exact ⟨(tmps_put_ne (d := d) (d' := d') hdd).trans h1, h2, Nat.lt_of_lt_of_le h3 hb.size⟩
 ·by_cases hij : i = j
  ·subst hij
   rw [hk] at hkj
   cases hkj
   simp only [if_pos]
   exact blk_new w _
  ·have e : l.getD j false = true := (set_true hj).resolve_left hij
   have hdd := hne j _ hkj rfl hij
   simp only [hG d' hdd]
   exact blk_alloc (h.old j d' t' old' c' e hkj (fun j2 i2 t2 o2 c2 hk2 => by
    have := hno j2 i2 t2 o2 c2 hk2
    rw [getD_set_other (fun e2 => by subst e2; rw [hk] at hk2; cases hk2)] at this
    exact this)) _
 ·have hij : i ≠ j := fun e2 => by subst e2; rw [hk] at hkj; cases hkj
  have e : l.getD j false = true := (set_true hj).resolve_left hij
  obtain ⟨h1, cs, h2, h3⟩ := h.new j i' d' t' old' c' e hkj
  have hdd : d ≠ d' := fun e2 => by
   subst e2
   rw [hnp j _ _ _ _ hkj] at e
   cases e
  simp only [hG d' hdd]
  obtain ⟨o, ho⟩ := hop j _ hkj
  obtain ⟨_, hbi, _, _⟩ := hks.at_ ho hkj
  obtain ⟨o', ho'⟩ := hop i' _ hbi
  exact ⟨getD_set_up hil h1, cs, blk_alloc h2 _, (hks.at_ ho' hbi).1 _ _ _ (hR _ _ hb) h3⟩
 ·by_cases e1 : i = j
  ·have e2 : i ≠ j' := fun e => hne' (e1.symm.trans e)
   subst e1
   rw [hk] at hkj
   cases hkj
   have e3 : l.getD j' false = true := (set_true hj').resolve_left e2
   have hdd := hne j' _ hkj' rfl e2
   simp only [if_pos, hG d2 hdd]
   have := (h.box j' d2 t2 o2 c2 e3 hkj').2.2
   omega
  ·have e3 : l.getD j false = true := (set_true hj).resolve_left e1
   have hdd := hne j _ hkj rfl e1
   simp only [hG d1 hdd]
   by_cases e2 : i = j'
   ·subst e2
    rw [hk] at hkj'
    cases hkj'
    simp only [if_pos]
    have := (h.box j d1 t1 o1 c1 e3 hkj).2.2
    omega
   ·have e4 : l.getD j' false = true := (set_true hj').resolve_left e2
    simp only [hG d2 (hne j' _ hkj' rfl e2)]
    exact h.inj j j' d1 t1 o1 c1 d2 t2 o2 c2 e3 e4 hkj hkj' hne'
 ·rw [tmps_put_ne (fun e => hkk (by rw [← e]; exact mem_dsts hk rfl))]
  exact h.far k hkk
theorem BKeep.below {g : Nat} {w w' W : World} (h : BKeep g w w') (hW : Below W.heap.size W w) (hg : W.heap.size ≤ g) : Below W.heap.size W w' :=
 ⟨h.1.trans hW.os, h.2.1.trans hW.tape, h.2.2.1.trans hW.output, Nat.le_trans hW.size h.2.2.2.1, fun k hk => (h.2.2.2.2 k (Nat.lt_of_lt_of_le hk hW.size) (by omega)).trans (hW.block k hk)⟩
theorem BInv.write {ops : Array Oper} {ks : List BK} {W : World} {base : Array Value} {l : List Bool} {a : Act} {w : World} {G : Nat → Nat} {R : World → World → Prop} {P : Program} {B : Array Value → Prop} (hap : apartB ks = true)
    (hks : KSteps P ops W R B ks ops.toList ks) (h : BInv ops ks W base l a w G) {i j d t : Nat} {old : Array Value} {c : World → Array Value → Prop} (hk : ks[j]? = some (.put i d t old c)) (hbi : ks[i]? = some (.box d t old c)) (hli : l.getD i false = true)
    {w' : World} {cs : Array Value} (hw : w'.heap[G d]? = some (.cells cs t (0, 0))) (hc : c w' cs) (hb : BKeep (G d) w w') (hRw : R w w') : BInv ops ks W base (l.set j true) a w' G := by
 have hop : ∀ (j : Nat) k, ks[j]? = some k → ∃ o, ops.toList[j]? = some o := fun j k hj => ⟨_, List.getElem?_eq_getElem (by have := hks.len; have := (List.getElem?_eq_some_iff.1 hj).1; omega)⟩
 have hjl : j < l.length := by have := (List.getElem?_eq_some_iff.1 hk).1; have := hks.len; have := h.len; simp at *; omega
 have hup : ∀ k kk, ks[k]? = some kk → kk.isPut = false → (l.set j true).getD k false = true → l.getD k false = true := fun k kk hkk hp hl =>
  (set_true hl).resolve_left (fun e => by subst e; rw [hk] at hkk; cases hkk; cases hp)
 have hkeep : ∀ (k : Nat) d' t' old' c', l.getD k false = true → ks[k]? = some (.box d' t' old' c') → d ≠ d' → ∀ (x : Obj), w.heap[G d']? = some x → w'.heap[G d']? = some x := by
  intro k d' t' old' c' hl hkk hdd x hx
  have hik : i ≠ k := fun e => by subst e; rw [hbi] at hkk; cases hkk; exact hdd rfl
  exact (hb.2.2.2.2 _ (h.box k d' t' old' c' hl hkk).2.2 (Ne.symm (h.inj i k d t old c d' t' old' c' hli hl hbi hkk hik))).trans hx
 refine ⟨by simpa using h.len, h.df, h.sz, hb.below h.bl (h.box i d t old c hli hbi).2.1, fun k d' p' hj hkj => ?_, fun k d' t' old' c' hj hkj => ?_, fun k d' t' old' c' hj hkj hno => ?_, fun k i' d' t' old' c' hj hkj => ?_, fun k k' d1 t1 o1 c1 d2 t2 o2 c2 hj hj' hkj hkj' hne' => ?_, h.far⟩
 ·obtain ⟨v', h1, h2⟩ := h.sure k d' p' (hup k _ hkj rfl hj) hkj
  obtain ⟨o, ho⟩ := hop k _ hkj
  exact ⟨v', h1, (hks.at_ ho hkj).1 _ _ _ hRw h2⟩
 ·obtain ⟨h1, h2, h3⟩ := h.box k d' t' old' c' (hup k _ hkj rfl hj) hkj
  exact ⟨h1, h2, Nat.lt_of_lt_of_le h3 hb.2.2.2.1⟩
 ·have e := hup k _ hkj rfl hj
  have hdd : d ≠ d' := fun e2 => by
   subst e2
   have := hno j i t old c hk
   rw [List.getD_eq_getElem?_getD, List.getElem?_set_self hjl] at this
   cases this
  exact hkeep k d' t' old' c' e hkj hdd _ (h.old k d' t' old' c' e hkj (fun j2 i2 t2 o2 c2 hk2 => by
   have := hno j2 i2 t2 o2 c2 hk2
   rw [getD_set_other (fun e2 => by subst e2; rw [hk] at hk2; cases hk2; exact hdd rfl)] at this
   exact this))
 ·by_cases hjk : j = k
  ·subst hjk
   rw [hk] at hkj
   cases hkj
   exact ⟨getD_set_up hjl hli, cs, hw, hc⟩
  ·have e : l.getD k false = true := (set_true hj).resolve_left hjk
   obtain ⟨h1, cs', h2, h3⟩ := h.new k i' d' t' old' c' e hkj
   obtain ⟨o, ho⟩ := hop k _ hkj
   obtain ⟨_, hbi', _, _⟩ := hks.at_ ho hkj
   obtain ⟨o', ho'⟩ := hop i' _ hbi'
   have hdd : d ≠ d' := fun e2 => by subst e2; exact hjk (apart_put hap hk hkj)
   exact ⟨getD_set_up hjl h1, cs', hkeep i' d' t' old' c' h1 hbi' hdd _ h2, (hks.at_ ho' hbi').1 _ _ _ hRw h3⟩
 ·exact h.inj k k' d1 t1 o1 c1 d2 t2 o2 c2 (hup k _ hkj rfl hj) (hup k' _ hkj' rfl hj') hkj hkj' hne'
/-- What the slots hold at the end. -/
def GotB (W w : World) (G : Nat → Nat) : List BK → List Value → Prop
 | [], [] => True
 | .sure _ p :: ks, v :: vs => p w v ∧ GotB W w G ks vs
 | .box d t _ c :: ks, v :: vs => (v = .pointer (some ⟨G d, 0, none⟩) ∧ W.heap.size ≤ G d ∧ ∃ cs, w.heap[G d]? = some (.cells cs t (0, 0)) ∧ c w cs) ∧ GotB W w G ks vs
 | .put _ _ _ _ _ :: ks, vs => GotB W w G ks vs
 | _, _ => False
theorem GotB.sure_ {W w : World} {G : Nat → Nat} {d : Nat} {p : World → Value → Prop} {ks : List BK} : ∀ {vs : List Value}, GotB W w G (.sure d p :: ks) vs → ∃ v vs', vs = v :: vs' ∧ p w v ∧ GotB W w G ks vs'
 | [], h => h.elim
 | v :: vs, h => ⟨v, vs, rfl, h.1, h.2⟩
theorem GotB.box_ {W w : World} {G : Nat → Nat} {d t : Nat} {old : Array Value} {c : World → Array Value → Prop} {ks : List BK} : ∀ {vs : List Value}, GotB W w G (.box d t old c :: ks) vs → ∃ vs', vs = .pointer (some ⟨G d, 0, none⟩) :: vs' ∧ W.heap.size ≤ G d ∧ (∃ cs, w.heap[G d]? = some (.cells cs t (0, 0)) ∧ c w cs) ∧ GotB W w G ks vs'
 | [], h => h.elim
 | v :: vs, h => ⟨vs, by rw [h.1.1], h.1.2.1, h.1.2.2, h.2⟩
theorem GotB.put_ {W w : World} {G : Nat → Nat} {i d t : Nat} {old : Array Value} {c : World → Array Value → Prop} {ks : List BK} {vs : List Value} (h : GotB W w G (.put i d t old c :: ks) vs) : GotB W w G ks vs := by
 unfold GotB at h
 exact h
theorem GotB.nil_ {W w : World} {G : Nat → Nat} : ∀ {vs : List Value}, GotB W w G [] vs → vs = []
 | [], _ => rfl
 | _ :: _, h => h.elim
theorem gotB_of {W w : World} {G : Nat → Nat} {T : Array Value} : ∀ {ks : List BK}, (∀ k ∈ ks, match k with
    | .sure d p => ∃ v, T[d]? = some v ∧ p w v
    | .box d t _ c => T[d]? = some (.pointer (some ⟨G d, 0, none⟩)) ∧ W.heap.size ≤ G d ∧ ∃ cs, w.heap[G d]? = some (.cells cs t (0, 0)) ∧ c w cs
    | .put _ _ _ _ _ => True) → ∃ vs, GotB W w G ks vs ∧ vs.length = (dsts ks).length ∧ ∀ (i : Nat) d v, (dsts ks)[i]? = some d → vs[i]? = some v → T[d]? = some v
 | [], _ => ⟨[], trivial, rfl, fun i d v h _ => by simp [dsts] at h⟩
 | .put i d t old c :: ks, h => by
  obtain ⟨vs, h1, h2, h3⟩ := gotB_of (ks := ks) (fun k hk => h k (List.mem_cons_of_mem _ hk))
  exact ⟨vs, by unfold GotB; exact h1, h2, h3⟩
 | .sure d p :: ks, h => by
  obtain ⟨vs, h1, h2, h3⟩ := gotB_of (ks := ks) (fun k hk => h k (List.mem_cons_of_mem _ hk))
  obtain ⟨v, hv, hp⟩ := h (.sure d p) (List.mem_cons_self ..)
  have he : dsts (.sure d p :: ks) = d :: dsts ks := rfl
  refine ⟨v :: vs, ⟨hp, h1⟩, by rw [he]; simp [h2], fun i d' v' hd hv' => ?_⟩
  rw [he] at hd
  cases i with
  | zero => simp at hd hv'; subst hd hv'; exact hv
  | succ i => exact h3 i d' v' (by simpa using hd) (by simpa using hv')
 | .box d t old c :: ks, h => by
  obtain ⟨vs, h1, h2, h3⟩ := gotB_of (ks := ks) (fun k hk => h k (List.mem_cons_of_mem _ hk))
  obtain ⟨hv, hp⟩ := h (.box d t old c) (List.mem_cons_self ..)
  have he : dsts (.box d t old c :: ks) = d :: dsts ks := rfl
  refine ⟨_ :: vs, ⟨⟨rfl, hp⟩, h1⟩, by rw [he]; simp [h2], fun i d' v' hd hv' => ?_⟩
  rw [he] at hd
  cases i with
  | zero => simp at hd hv'; subst hd hv'; exact hv
  | succ i => exact h3 i d' v' (by simpa using hd) (by simpa using hv')
theorem bslots_mem {ks : List BK} : ∀ {d : Nat}, d ∈ bslots ks → ∃ (i : Nat) (t : Nat) (old : Array Value) (c : World → Array Value → Prop), ks[i]? = some (.box d t old c) := by
 induction ks with
 | nil => intro d h; cases h
 | cons k ks ih =>
  intro d h
  have key : d ∈ bslots ks → ∃ (i : Nat) (t : Nat) (old : Array Value) (c : World → Array Value → Prop), (k :: ks)[i]? = some (.box d t old c) := fun h => by
   obtain ⟨i, t, old, c, hi⟩ := ih h
   exact ⟨i + 1, t, old, c, by simpa using hi⟩
  cases k with
  | sure d' p => exact key h
  | put i' d' t old c => exact key h
  | box d' t old c =>
   rcases List.mem_cons.1 h with e | e
   ·subst e; exact ⟨0, t, old, c, rfl⟩
   ·exact key e
/-- Every box is written. -/
def writtenB (ks : List BK) : Bool := (List.range ks.length).all fun i => match ks[i]? with
 | some (.box _ _ _ _) => (List.range ks.length).any fun j => match ks[j]? with
  | some (.put i' _ _ _ _) => decide (i' = i)
  | _ => false
 | _ => true
/-- A region that fills slots and lays boxes, and writes each box once, in whatever order. -/
theorem regionIn_box {P : Program} {id : Nat} {ops : Array Oper} {Q : Exit → Act → World → Prop} {base : Array Value} {W : World} {r : Option Nat} {n : Nat} (hm : P.follows .mixedOrders = true) (hord : orderedT (rtab .any ops).2 = true) (hdf : noDefer ops = true) (R : World → World → Prop) (hR : ∀ w w', Below w.heap.size w w' → R w w') (B : Array Value → Prop) (ks : List BK)
    (hB : B base) (hap : apartB ks = true) (hwr : writtenB ks = true) (hnd : (dsts ks).Nodup) (hin : (dsts ks).all (fun d => decide (d < base.size)) = true)
    (hks : KSteps P ops W R B ks ops.toList ks)
    (hdone : ∀ (G : Nat → Nat) vs w', ((bslots ks).map G).Nodup → GotB W w' G ks vs → Below W.heap.size W w' → Q .normal ⟨laid base (dsts ks) vs, []⟩ w') : (Code.region id ops true).wpIn (FR r) n P Q ⟨base, []⟩ W := by
 have hl := hks.len
 have hl' : ks.length = ops.size := by simpa using hl
 refine regionIn_by hm hord (fun l a w => ∃ G, BInv ops ks W base l a w G) ⟨_, BInv.start⟩ ?_ ?_
 ·rintro i o l a w ho ⟨G, HI⟩ hi hn
  have hio : i < ops.size := (Array.getElem?_eq_some_iff.1 ho).1
  have hoi : ops.toList[i]? = some o := by simpa using ho
  obtain ⟨k, hk⟩ : ∃ k, ks[i]? = some k := ⟨_, List.getElem?_eq_getElem (by omega)⟩
  have hst := hks.at_ hoi hk
  have hneeds : ∀ j ∈ needsOf .any o, ∀ dj pj, (ks.map BK.dst)[j]? = some dj → (ks.map BK.pred)[j]? = some pj → dj < 1000000 → ∃ v, a.tmps[dj]? = some v ∧ pj w v := by
   intro j hj dj pj hdj hpj hlt
   rw [List.getElem?_map] at hdj hpj
   obtain ⟨kj, hkj, rfl⟩ := Option.map_eq_some_iff.1 hdj
   rw [hkj] at hpj
   have hpj := Option.some.inj hpj
   subst hpj
   cases kj with
   | put => exact absurd hlt (by simp [BK.dst])
   | sure d p => exact HI.sure j d p (hn j hj) hkj
   | box d t old c => exact ⟨_, (HI.box j d t old c (hn j hj) hkj).1, _, rfl⟩
  have hfar : ∀ k, k ∉ ks.map BK.dst → a.tmps[k]? = base[k]? := fun k hk => HI.far k (fun h => hk (by
   unfold dsts at h
   obtain ⟨x, hx, rfl⟩ := List.mem_map.1 h
   exact List.mem_map_of_mem (List.mem_filter.1 hx).1))
  cases k with
  | sure d p =>
   obtain ⟨_, hst⟩ := hst
   obtain ⟨hdst, hst⟩ := hst Q base a w hB HI.bl HI.sz hneeds hfar
   by_cases hw : Region.wanted o (yielded ops a.tmps) = true
   ·rw [if_pos hw] at hst ⊢
    refine Oper.wpIn_mono ?_ (oper_fr (noDefer_at hdf ho) hst)
    rintro a' w' ⟨v, rfl, hv, hb⟩
    exact ⟨G, HI.fill hR hap hin hks hk hv hb⟩
   ·rw [if_neg hw] at hst ⊢
    rw [hdst]
    exact ⟨G, HI.fill hR hap hin hks hk hst (Below.refl _ _)⟩
  | box d t old c =>
   obtain ⟨_, hg, hdst, hst⟩ := hst
   rw [if_pos (want_free hg)]
   exact oper_fr (noDefer_at hdf ho) (hst Q _ a w ⟨_, HI.lay hR hap hin hks hi hk⟩)
  | put i' d t old c =>
   obtain ⟨hg, hbi, hne, hst⟩ := hst
   have hbo := HI.box i' d t old c (hn i' hne) hbi
   obtain ⟨hdst, hst⟩ := hst Q base a w (G d) hB HI.bl HI.sz hneeds hfar hbo.1 (HI.old i' d t old c (hn i' hne) hbi (fun j i2 t2 o2 c2 hk2 => by
    obtain rfl := apart_put hap hk hk2
    exact getD_flip hi))
   rw [if_pos (want_free hg)]
   refine Oper.wpIn_mono ?_ (oper_fr (noDefer_at hdf ho) hst)
   rintro a' w' ⟨rfl, ⟨cs, hcs, hc⟩, hb, hRw⟩
   exact ⟨G, HI.write hap hks hk hbi (hn i' hne) hcs hc hb hRw⟩
 ·rintro a w ⟨G, HI⟩
  have hall : ∀ i, i < ks.length → (List.replicate ops.size true).getD i false = true := fun i hi => by
   rw [List.getD_eq_getElem?_getD, List.getElem?_replicate, if_pos (by omega)]
   rfl
  have hlt : ∀ (i : Nat) k, ks[i]? = some k → i < ks.length := fun i k h => (List.getElem?_eq_some_iff.1 h).1
  obtain ⟨vs, g1, g2, g3⟩ := gotB_of (T := a.tmps) (W := W) (w := w) (G := G) (ks := ks) (fun k hk => by
   obtain ⟨i, hi, rfl⟩ := List.getElem_of_mem hk
   have hki : ks[i]? = some ks[i] := List.getElem?_eq_getElem hi
   cases he : ks[i] with
   | sure d p => rw [he] at hki; exact HI.sure i d p (hall i hi) hki
   | put => trivial
   | box d t old c =>
    rw [he] at hki
    obtain ⟨h1, h2, h3⟩ := HI.box i d t old c (hall i hi) hki
    have hw1 := List.all_eq_true.1 hwr i (List.mem_range.2 hi)
    rw [hki] at hw1
    obtain ⟨j, hj, hw2⟩ := List.any_eq_true.1 hw1
    have hj := List.mem_range.1 hj
    have hkj : ks[j]? = some ks[j] := List.getElem?_eq_getElem hj
    rw [hkj] at hw2
    cases hej : ks[j] with
    | sure => rw [hej] at hw2; cases hw2
    | box => rw [hej] at hw2; cases hw2
    | put i2 d2 t2 o2 c2 =>
     rw [hej] at hw2 hkj
     have : i2 = i := of_decide_eq_true hw2
     subst this
     obtain ⟨o, ho⟩ : ∃ o, ops.toList[j]? = some o := ⟨_, List.getElem?_eq_getElem (by omega)⟩
     obtain ⟨_, hbi, _, _⟩ := hks.at_ ho hkj
     rw [hki] at hbi
     cases hbi
     exact ⟨h1, h2, (HI.new j i2 d t old c (hall j hj) hkj).2⟩)
  have ha : a = ⟨laid base (dsts ks) vs, []⟩ := by
   have := laid_eq HI.sz hnd (fun d hd => by simpa using List.all_eq_true.1 hin d hd) g2 g3 HI.far
   have h2 := HI.df
   cases a
   simp only at h2 this
   rw [h2, this]
  rw [ha]
  refine hdone G vs w ?_ g1 HI.bl
  -- the boxes are apart
  have key : ∀ (rest : List BK) (off : Nat), (∀ (i : Nat) k, rest[i]? = some k → ks[off + i]? = some k) → ((bslots rest).map G).Nodup := by
   intro rest
   induction rest with
   | nil => intro off _; exact List.nodup_nil
   | cons k rest ih =>
    intro off hoff
    have h1 := ih (off + 1) (fun i k' hi => by have := hoff (i + 1) k' (by simpa using hi); rwa [show off + (i + 1) = off + 1 + i from by omega] at this)
    cases k with
    | sure => exact h1
    | put => exact h1
    | box d t old c =>
     show (G d :: (bslots rest).map G).Nodup
     refine List.nodup_cons.2 ⟨fun hm => ?_, h1⟩
     obtain ⟨d', hd', he⟩ := List.mem_map.1 hm
     obtain ⟨i, t', old', c', hi⟩ := bslots_mem hd'
     have hk0 := hoff 0 _ rfl
     have hk1 := hoff (i + 1) _ (by simpa using hi)
     exact HI.inj _ _ _ _ _ _ _ _ _ _ (hall _ (hlt _ _ hk1)) (hall _ (hlt _ _ hk0)) hk1 hk0 (by omega) he
  exact key ks 0 (fun i k hi => by simpa using hi)
end Go.Proofs.Ytjmkccabpnigiaa.P
namespace Go.Proofs.Ytjmkccabpnigiaa.P
open Go.RowKit Go.Proofs.YtjmkccabpnigiaaW.PrintWords Go.Proofs.YtjmkccabpnigiaaW.PrintLast Go.Proofs.YtjmkccabpnigiaaW.PrintMore
attribute [local go_sem] max2_int min2_int max_two min_two max_three min_three max_four min_four
set_option linter.unusedVariables false
set_option linter.unusedSimpArgs false
theorem put4 {w : World} {g t : Nat} {a0 a1 a2 a3 : Value} (h : w.heap[g]? = some (.cells #[a0, a1, a2, a3] t (0, 0))) (b0 b1 b2 b3 : Value) :
    ((((w.setCell ⟨g, 0, none⟩ b0).setCell ⟨g, 1, none⟩ b1).setCell ⟨g, 2, none⟩ b2).setCell ⟨g, 3, none⟩ b3).heap[g]? = some (.cells #[b0, b1, b2, b3] t (0, 0)) ∧ BKeep g w ((((w.setCell ⟨g, 0, none⟩ b0).setCell ⟨g, 1, none⟩ b1).setCell ⟨g, 2, none⟩ b2).setCell ⟨g, 3, none⟩ b3) := by
 have h1 := blk_put h 0 b0 rfl
 have h2 := blk_put h1 1 b1 rfl
 have h3 := blk_put h2 2 b2 rfl
 have h4 := blk_put h3 3 b3 rfl
 refine ⟨h4, rfl, rfl, rfl, by simp, fun k hk hne => ?_⟩
 rw [Below.heap_setCell _ _ _ k hne, Below.heap_setCell _ _ _ k hne, Below.heap_setCell _ _ _ k hne, Below.heap_setCell _ _ _ k hne]
theorem put2 {w : World} {g t : Nat} {a0 a1 : Value} (h : w.heap[g]? = some (.cells #[a0, a1] t (0, 0))) (b0 b1 : Value) :
    ((w.setCell ⟨g, 0, none⟩ b0).setCell ⟨g, 1, none⟩ b1).heap[g]? = some (.cells #[b0, b1] t (0, 0)) ∧ BKeep g w ((w.setCell ⟨g, 0, none⟩ b0).setCell ⟨g, 1, none⟩ b1) := by
 have h1 := blk_put h 0 b0 rfl
 have h2 := blk_put h1 1 b1 rfl
 refine ⟨h2, rfl, rfl, rfl, by simp, fun k hk hne => ?_⟩
 rw [Below.heap_setCell _ _ _ k hne, Below.heap_setCell _ _ _ k hne]
def zo26 : Array Value := #[.int .i64 0, .int .i64 0]
def zo53 : Array Value := #[.int .i64 0, .int .i64 0, .int .i64 0, .int .i64 0]
def zo45 : Array Value := #[.bool false, .slice none 0 0, .bool false, .slice none 0 0]
theorem box26 {o : Oper} {d : Nat} (hop : o.op = .alloc 26) (hd : o.dst = some d) (Q : Exit → Act → World → Prop) (K : Act → World → Prop) (a : Act) (w : World) (h : K (a.put (some d) (.pointer (some ⟨w.heap.size, 0, none⟩))) (w.alloc (.cells zo26 26))) : Oper.wp Try.prog o a w K Q := by
 obtain ⟨dst, op, ty, pos, after, guard⟩ := o
 simp only at hop hd
 subst hop hd
 unfold zo26 at h
 go_simp
 exact h
theorem box53 {o : Oper} {d : Nat} (hop : o.op = .alloc 53) (hd : o.dst = some d) (Q : Exit → Act → World → Prop) (K : Act → World → Prop) (a : Act) (w : World) (h : K (a.put (some d) (.pointer (some ⟨w.heap.size, 0, none⟩))) (w.alloc (.cells zo53 53))) : Oper.wp Try.prog o a w K Q := by
 obtain ⟨dst, op, ty, pos, after, guard⟩ := o
 simp only at hop hd
 subst hop hd
 unfold zo53 at h
 go_simp
 exact h
theorem box45 {o : Oper} {d : Nat} (hop : o.op = .alloc 45) (hd : o.dst = some d) (Q : Exit → Act → World → Prop) (K : Act → World → Prop) (a : Act) (w : World) (h : K (a.put (some d) (.pointer (some ⟨w.heap.size, 0, none⟩))) (w.alloc (.cells zo45 45))) : Oper.wp Try.prog o a w K Q := by
 obtain ⟨dst, op, ty, pos, after, guard⟩ := o
 simp only at hop hd
 subst hop hd
 unfold zo45 at h
 go_simp
 exact h
def anyR : World → World → Prop := fun _ _ => True
theorem put_26 {ops : Array Oper} {W : World} {B : Array Value → Prop} {DS : List Nat} {PS : List (World → Value → Prop)} {o : Oper} {d s j : Nat} {p : World → Value → Prop} {c : World → Array Value → Prop} (hop : o.op = .store 26 (.tmp d) (.tmp s)) (hd : o.dst = none) (nj : j ∈ needsOf .any o) (dj : DS[j]? = some s) (pj : PS[j]? = some p) (hs : s < 1000000)
    (hc : ∀ w v, p w v → ∃ b0 b1 : Int, v = .agg #[.int .i64 b0, .int .i64 b1] ∧ ∀ w', c w' #[.int .i64 b0, .int .i64 b1]) : PutOK Try.prog ops W anyR B DS PS o d 26 zo26 c := by
 intro Q base a w g hB hbel hsz hn hfar hptr hblk
 obtain ⟨dst, op, ty, pos, after, guard⟩ := o
 simp only at hop hd
 subst hop hd
 refine ⟨rfl, ?_⟩
 obtain ⟨v, e1, hv⟩ := hn j nj _ _ dj pj hs
 obtain ⟨b0, b1, rfl, hcc⟩ := hc w v hv
 unfold zo26 at hblk
 have k0 : w.cell? ⟨g, 0, none⟩ = some (.int .i64 0) := blk_cell hblk 0
 have k1 : w.cell? ⟨g, 1, none⟩ = some (.int .i64 0) := blk_cell hblk 1
 have z0 : w.frozen? ⟨g, 0, none⟩ = false := blk_frozen hblk 0
 have z1 : w.frozen? ⟨g, 1, none⟩ = false := blk_frozen hblk 1
 have hp := put2 hblk (.int .i64 b0) (.int .i64 b1)
 clear hn hfar hblk
 refine Oper.wp_mono (K := fun a' w' => a' = a ∧ w' = ((w.setCell ⟨g, 0, none⟩ (.int .i64 b0)).setCell ⟨g, 1, none⟩ (.int .i64 b1))) (by rintro a' w' ⟨rfl, rfl⟩; exact ⟨rfl, ⟨_, hp.1, hcc _⟩, hp.2, trivial⟩) ?_
 clear hp
 go_simp
theorem put_53 {ops : Array Oper} {W : World} {B : Array Value → Prop} {DS : List Nat} {PS : List (World → Value → Prop)} {o : Oper} {d s j : Nat} {p : World → Value → Prop} {c : World → Array Value → Prop} (hop : o.op = .store 53 (.tmp d) (.tmp s)) (hd : o.dst = none) (nj : j ∈ needsOf .any o) (dj : DS[j]? = some s) (pj : PS[j]? = some p) (hs : s < 1000000)
    (hc : ∀ w v, p w v → ∃ b0 b1 b2 b3 : Int, v = .agg #[.int .i64 b0, .int .i64 b1, .int .i64 b2, .int .i64 b3] ∧ ∀ w', c w' #[.int .i64 b0, .int .i64 b1, .int .i64 b2, .int .i64 b3]) : PutOK Try.prog ops W anyR B DS PS o d 53 zo53 c := by
 intro Q base a w g hB hbel hsz hn hfar hptr hblk
 obtain ⟨dst, op, ty, pos, after, guard⟩ := o
 simp only at hop hd
 subst hop hd
 refine ⟨rfl, ?_⟩
 obtain ⟨v, e1, hv⟩ := hn j nj _ _ dj pj hs
 obtain ⟨b0, b1, b2, b3, rfl, hcc⟩ := hc w v hv
 unfold zo53 at hblk
 have k0 : w.cell? ⟨g, 0, none⟩ = some (.int .i64 0) := blk_cell hblk 0
 have k1 : w.cell? ⟨g, 1, none⟩ = some (.int .i64 0) := blk_cell hblk 1
 have k2 : w.cell? ⟨g, 2, none⟩ = some (.int .i64 0) := blk_cell hblk 2
 have k3 : w.cell? ⟨g, 3, none⟩ = some (.int .i64 0) := blk_cell hblk 3
 have z0 : w.frozen? ⟨g, 0, none⟩ = false := blk_frozen hblk 0
 have z1 : w.frozen? ⟨g, 1, none⟩ = false := blk_frozen hblk 1
 have z2 : w.frozen? ⟨g, 2, none⟩ = false := blk_frozen hblk 2
 have z3 : w.frozen? ⟨g, 3, none⟩ = false := blk_frozen hblk 3
 have hp := put4 hblk (.int .i64 b0) (.int .i64 b1) (.int .i64 b2) (.int .i64 b3)
 clear hn hfar hblk
 refine Oper.wp_mono (K := fun a' w' => a' = a ∧ w' = ((((w.setCell ⟨g, 0, none⟩ (.int .i64 b0)).setCell ⟨g, 1, none⟩ (.int .i64 b1)).setCell ⟨g, 2, none⟩ (.int .i64 b2)).setCell ⟨g, 3, none⟩ (.int .i64 b3))) (by rintro a' w' ⟨rfl, rfl⟩; exact ⟨rfl, ⟨_, hp.1, hcc _⟩, hp.2, trivial⟩) ?_
 clear hp
 go_simp
theorem keep45 {w : World} {g : Nat} (h : w.heap[g]? = some (.cells zo45 45 (0, 0))) (b0 : Bool) (A : Option Addr) (n c : Nat) (b1 : Bool) (A' : Option Addr) (n' c' : Nat) :
    IntKeep w ((((w.setCell ⟨g, 0, none⟩ (.bool b0)).setCell ⟨g, 1, none⟩ (.slice A n c)).setCell ⟨g, 2, none⟩ (.bool b1)).setCell ⟨g, 3, none⟩ (.slice A' n' c')) := by
 unfold zo45 at h
 have h1 := blk_put h 0 (.bool b0) rfl
 have h2 := blk_put h1 1 (.slice A n c) rfl
 have h3 := blk_put h2 2 (.bool b1) rfl
 exact (((IntKeep.set h (by simp) _).trans (IntKeep.set h1 (by simp) _)).trans (IntKeep.set h2 (by simp) _)).trans (IntKeep.set h3 (by simp) _)
theorem FI.keep {w w1 : World} {v : Value} {z : Int} (h : FI w v z) (hk : IntKeep w w1) : FI w1 v z := by
 obtain ⟨s, A, n, c, s', A', n', c', rfl, h1, h2⟩ := h
 exact ⟨s, A, n, c, s', A', n', c', rfl, h1.keep hk, h2.keep hk⟩
/-- The cells of a box of a fraction that is the integer z. -/
def CF (z : Int) (w : World) (cs : Array Value) : Prop := FI w (.agg cs) z
theorem CF.keep (z : Int) : ∀ w w' cs, IntKeep w w' → CF z w cs → CF z w' cs := fun _ _ _ hk h => FI.keep h hk
theorem put_45 {ops : Array Oper} {W : World} {B : Array Value → Prop} {DS : List Nat} {PS : List (World → Value → Prop)} {o : Oper} {d s j : Nat} {p : World → Value → Prop} {z : Int} (hop : o.op = .store 45 (.tmp d) (.tmp s)) (hd : o.dst = none) (nj : j ∈ needsOf .any o) (dj : DS[j]? = some s) (pj : PS[j]? = some p) (hs : s < 1000000)
    (hc : ∀ w v, p w v → FI w v z) : PutOK Try.prog ops W IntKeep B DS PS o d 45 zo45 (CF z) := by
 intro Q base a w g hB hbel hsz hn hfar hptr hblk
 obtain ⟨dst, op, ty, pos, after, guard⟩ := o
 simp only at hop hd
 subst hop hd
 refine ⟨rfl, ?_⟩
 obtain ⟨v, e1, hv⟩ := hn j nj _ _ dj pj hs
 have hF := hc w v hv
 obtain ⟨s, A, n, c, s', A', n', c', rfl, h1, h2⟩ := hF
 have hF := Aside0.mk (hc w _ hv)
 have hk := keep45 hblk s A n c s' A' n' c'
 unfold zo45 at hblk
 have k0 : w.cell? ⟨g, 0, none⟩ = some (.bool false) := blk_cell hblk 0
 have k1 : w.cell? ⟨g, 1, none⟩ = some (.slice none 0 0) := blk_cell hblk 1
 have k2 : w.cell? ⟨g, 2, none⟩ = some (.bool false) := blk_cell hblk 2
 have k3 : w.cell? ⟨g, 3, none⟩ = some (.slice none 0 0) := blk_cell hblk 3
 have z0 : w.frozen? ⟨g, 0, none⟩ = false := blk_frozen hblk 0
 have z1 : w.frozen? ⟨g, 1, none⟩ = false := blk_frozen hblk 1
 have z2 : w.frozen? ⟨g, 2, none⟩ = false := blk_frozen hblk 2
 have z3 : w.frozen? ⟨g, 3, none⟩ = false := blk_frozen hblk 3
 have hp := put4 hblk (.bool s) (.slice A n c) (.bool s') (.slice A' n' c')
 clear hn hfar hblk h1 h2 hv hc
 refine Oper.wp_mono (K := fun a' w' => a' = a ∧ w' = ((((w.setCell ⟨g, 0, none⟩ (.bool s)).setCell ⟨g, 1, none⟩ (.slice A n c)).setCell ⟨g, 2, none⟩ (.bool s')).setCell ⟨g, 3, none⟩ (.slice A' n' c'))) (by rintro a' w' ⟨rfl, rfl⟩; exact ⟨rfl, ⟨_, hp.1, FI.keep hF.out hk⟩, hp.2, hk⟩) ?_
 clear hp hk
 go_simp
theorem regionIn_box2 {P : Program} {id : Nat} {ops : Array Oper} {Q : Exit → Act → World → Prop} {base : Array Value} {W : World} {r : Option Nat} {n : Nat} (hm : P.follows .mixedOrders = true) (hord : orderedT (rtab .any ops).2 = true) (hdf : noDefer ops = true) (R : World → World → Prop) (hR : ∀ w w', Below w.heap.size w w' → R w w') (B : Array Value → Prop) (ks : List BK) (ds : List Nat) (hds : dsts ks = ds)
    (hB : B base) (hap : apartB ks = true) (hwr : writtenB ks = true) (hnd : ds.Nodup) (hin : ds.all (fun d => decide (d < base.size)) = true)
    (hks : KSteps P ops W R B ks ops.toList ks)
    (hdone : ∀ (G : Nat → Nat) vs w', ((bslots ks).map G).Nodup → GotB W w' G ks vs → Below W.heap.size W w' → Q .normal ⟨laid base ds vs, []⟩ w') : (Code.region id ops true).wpIn (FR r) n P Q ⟨base, []⟩ W := by
 subst hds
 exact regionIn_box hm hord hdf R hR B ks hB hap hwr hnd hin hks hdone
theorem nin {l : List Nat} {k : Nat} (h : l.contains k = false) : k ∉ l := fun hm => by
 have := List.contains_iff_mem.2 hm
 rw [h] at this
 cases this
end Go.Proofs.Ytjmkccabpnigiaa.P
