import Derived.Test.YtjmkccabpnigiaaQPolyL0
import Derived.Test.YtjmkccabpnigiaaQPolyI
namespace Go.Proofs.Ytjmkccabpnigiaa.P
open Go.RowKit Go.Proofs.YtjmkccabpnigiaaW.PrintWords Go.Proofs.YtjmkccabpnigiaaW.PrintLast Go.Proofs.YtjmkccabpnigiaaW.PrintMore
attribute [local go_sem] max2_int min2_int max_two min_two max_three min_three max_four min_four
set_option linter.unusedVariables false
set_option linter.unusedSimpArgs false
/-- What a round of around does to the world: but for its two boxes, nothing that lay there turns. -/
structure AR (g6 g7 : Nat) (W Wz : World) (s : Bool × Bool) : Prop where
 os : Wz.os = W.os
 tape : Wz.tape = W.tape
 output : Wz.output = W.output
 size : W.heap.size ≤ Wz.heap.size
 blk : ∀ k, k < W.heap.size → k ≠ g6 → k ≠ g7 → Wz.heap[k]? = W.heap[k]?
 b6 : Boxed Wz g6 4 (.bool s.1)
 b7 : Boxed Wz g7 4 (.bool s.2)
theorem AR.below {g6 g7 : Nat} {W W1 W2 : World} {s : Bool × Bool} (h : AR g6 g7 W W1 s) (hb : Below W1.heap.size W1 W2) : AR g6 g7 W W2 s :=
 ⟨hb.os.trans h.os, hb.tape.trans h.tape, hb.output.trans h.output, Nat.le_trans h.size hb.size, fun k hk h6 h7 => (hb.block k (Nat.lt_of_lt_of_le hk h.size)).trans (h.blk k hk h6 h7), blk_below h.b6 hb, blk_below h.b7 hb⟩
theorem AR.set6 {g6 g7 : Nat} (hne : g6 ≠ g7) {W W1 : World} {s : Bool × Bool} (h : AR g6 g7 W W1 s) (v : Bool) : AR g6 g7 W (W1.setCell ⟨g6, 0, none⟩ (.bool v)) (v, s.2) :=
 ⟨h.os, h.tape, h.output, by simpa using h.size, fun k hk h6 h7 => (Below.heap_setCell _ _ _ k h6).trans (h.blk k hk h6 h7), h.b6.set _, h.b7.other (Ne.symm hne) _⟩
theorem AR.set7 {g6 g7 : Nat} (hne : g6 ≠ g7) {W W1 : World} {s : Bool × Bool} (h : AR g6 g7 W W1 s) (v : Bool) : AR g6 g7 W (W1.setCell ⟨g7, 0, none⟩ (.bool v)) (s.1, v) :=
 ⟨h.os, h.tape, h.output, by simpa using h.size, fun k hk h6 h7 => (Below.heap_setCell _ _ _ k h7).trans (h.blk k hk h6 h7), h.b6.other hne _, h.b7.set _⟩
theorem AR.cast {g6 g7 : Nat} {W Wz : World} {s s' : Bool × Bool} (h : AR g6 g7 W Wz s) (e : s = s') : AR g6 g7 W Wz s' := e ▸ h
theorem ld4 {o : Oper} {d s g : Nat} {x : Bool} (hop : o.op = .load 4 (.tmp s)) (hd : o.dst = some d) {a : Act} {w : World} (hp : a.tmps[s]? = some (.pointer (some ⟨g, 0, none⟩))) (hc : Boxed w g 4 (.bool x)) (Q : Exit → Act → World → Prop) (K : Act → World → Prop) (h : K (a.put (some d) (.bool x)) w) : Oper.wp Try.prog o a w K Q := by
 obtain ⟨dst, op, ty, pos, after, guard⟩ := o
 simp only at hop hd
 subst hop hd
 have k0 := hc.cell
 clear hc
 go_simp
 exact h
theorem st4 {o : Oper} {d s g : Nat} {x y : Bool} (hop : o.op = .store 4 (.tmp d) (.tmp s)) (hd : o.dst = none) {a : Act} {w : World} (hp : a.tmps[d]? = some (.pointer (some ⟨g, 0, none⟩))) (hv : a.tmps[s]? = some (.bool y)) (hc : Boxed w g 4 (.bool x)) (Q : Exit → Act → World → Prop) (K : Act → World → Prop) (h : K a (w.setCell ⟨g, 0, none⟩ (.bool y))) : Oper.wp Try.prog o a w K Q := by
 obtain ⟨dst, op, ty, pos, after, guard⟩ := o
 simp only at hop hd
 subst hop hd
 have k0 := hc.cell
 have z0 := hc.frozen
 clear hc
 have hK := Aside0.mk h
 clear h
 go_simp
 exact hK.out
/-- Two loads of boxes and two stores into them of what was loaded. -/
theorem ar11 {g6 g7 : Nat} {i o : Bool} {id : Nat} {ops : Array Oper} {Q : Exit → Act → World → Prop} {base : Array Value} {dl : List Deferred} {W W1 : World} {r : Option Nat} {n : Nat} (o0 o1 o2 o3 : Oper) (hops : ops = #[o0, o1, o2, o3])
    (hm : Try.prog.follows .mixedOrders = true) (hord : orderedT (rtab .any ops).2 = true)
    (h0 : o0.op = .load 4 (.tmp 6)) (d0 : o0.dst = some 89) (u0 : o0.guard = none) (h1 : o1.op = .load 4 (.tmp 7)) (d1 : o1.dst = some 90) (u1 : o1.guard = none)
    (h2 : o2.op = .store 4 (.tmp 6) (.tmp 89)) (d2 : o2.dst = none) (u2 : o2.guard = none) (h3 : o3.op = .store 4 (.tmp 7) (.tmp 90)) (d3 : o3.dst = none) (u3 : o3.guard = none)
    (n2 : 0 ∈ needsOf .any o2) (n3 : 1 ∈ needsOf .any o3)
    (hsz : base.size = 91) (e6 : base[6]? = some (.pointer (some ⟨g6, 0, none⟩))) (e7 : base[7]? = some (.pointer (some ⟨g7, 0, none⟩)))
    (hne : g6 ≠ g7) (hA : AR g6 g7 W W1 (i, o))
    (hdone : ∀ w', AR g6 g7 W w' (i, o) → Q .normal ⟨laid base [89, 90] [.bool i, .bool o], dl⟩ w') : (Code.region id ops true).wpIn (FR r) n Try.prog Q ⟨base, dl⟩ W1 := by
 subst hops
 refine regionIn_by hm hord (fun l ac w => ∃ q0 q1 q2 q3 : Bool, l = [q0, q1, q2, q3] ∧ ac.defers = dl ∧ ac.tmps.size = 91 ∧ (q0 = true → ac.tmps[89]? = some (.bool i)) ∧ (q1 = true → ac.tmps[90]? = some (.bool o)) ∧
  (∀ k, k ≠ 89 → k ≠ 90 → ac.tmps[k]? = base[k]?) ∧ AR g6 g7 W w (i, o)) ?_ ?_ ?_
 ·exact ⟨false, false, false, false, rfl, rfl, hsz, fun h => (by cases h), fun h => (by cases h), fun _ _ _ => rfl, hA.below (below_drew1 (Below.refl _ _))⟩
 ·rintro j oo l ac w ho ⟨q0, q1, q2, q3, rfl, i3, i4, i5, i6, i7, i8⟩ hi hnd
  match j, ho with
  | 0, ho =>
   obtain rfl : o0 = oo := by simpa using ho
   rw [if_pos (want_free u0)]
   refine oper_fr (by rw [h0]; intro c hc; cases hc) (ld4 h0 d0 ((i7 6 (by decide) (by decide)).trans e6) i8.b6 _ _ ?_)
   exact ⟨true, q1, q2, q3, rfl, i3, by rw [tmps_put_size]; exact i4, fun _ => tmps_put_eq (by rw [i4]; decide), fun h => by rw [tmps_put_ne (by decide)]; exact i6 h, fun k hk hk' => by rw [tmps_put_ne (Ne.symm hk)]; exact i7 k hk hk', i8⟩
  | 1, ho =>
   obtain rfl : o1 = oo := by simpa using ho
   rw [if_pos (want_free u1)]
   refine oper_fr (by rw [h1]; intro c hc; cases hc) (ld4 h1 d1 ((i7 7 (by decide) (by decide)).trans e7) i8.b7 _ _ ?_)
   exact ⟨q0, true, q2, q3, rfl, i3, by rw [tmps_put_size]; exact i4, fun h => by rw [tmps_put_ne (by decide)]; exact i5 h, fun _ => tmps_put_eq (by rw [i4]; decide), fun k hk hk' => by rw [tmps_put_ne (Ne.symm hk')]; exact i7 k hk hk', i8⟩
  | 2, ho =>
   obtain rfl : o2 = oo := by simpa using ho
   rw [if_pos (want_free u2)]
   have hb0 : q0 = true := by simpa using hnd 0 n2
   refine oper_fr (by rw [h2]; intro c hc; cases hc) (st4 h2 d2 ((i7 6 (by decide) (by decide)).trans e6) (i5 hb0) i8.b6 _ _ ?_)
   exact ⟨q0, q1, true, q3, rfl, i3, i4, i5, i6, i7, i8.set6 hne i⟩
  | 3, ho =>
   obtain rfl : o3 = oo := by simpa using ho
   rw [if_pos (want_free u3)]
   have hb1 : q1 = true := by simpa using hnd 1 n3
   refine oper_fr (by rw [h3]; intro c hc; cases hc) (st4 h3 d3 ((i7 7 (by decide) (by decide)).trans e7) (i6 hb1) i8.b7 _ _ ?_)
   exact ⟨q0, q1, q2, true, rfl, i3, i4, i5, i6, i7, i8.set7 hne o⟩
  | j + 4, ho => simp at ho
 ·rintro ac w ⟨q0, q1, q2, q3, hl, i3, i4, i5, i6, i7, i8⟩
  obtain ⟨rfl, rfl, rfl, rfl⟩ : true = q0 ∧ true = q1 ∧ true = q2 ∧ true = q3 := by simpa [List.replicate] using hl
  have ht := laid_eq (T := ac.tmps) (base := base) (ds := [89, 90]) (vs := [.bool i, .bool o]) (by omega) (by decide) (by simp; omega) rfl (fun j d v hd hv => by
   match j, hd, hv with
   | 0, hd, hv => simp at hd hv; subst hd hv; exact i5 rfl
   | 1, hd, hv => simp at hd hv; subst hd hv; exact i6 rfl
   | j + 2, hd, hv => simp at hd) (fun k hk => by simp at hk; exact i7 k hk.1 hk.2)
  have ha : ac = ⟨laid base [89, 90] [.bool i, .bool o], dl⟩ := by
   cases ac
   simp only at i3 ht
   rw [i3, ht]
  rw [ha]
  exact hdone w i8
end Go.Proofs.Ytjmkccabpnigiaa.P
