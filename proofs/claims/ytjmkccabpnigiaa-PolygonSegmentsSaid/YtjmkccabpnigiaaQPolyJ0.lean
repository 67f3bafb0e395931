import Derived.Test.YtjmkccabpnigiaaQPolyT
import Derived.Test.YtjmkccabpnigiaaQPolyF
namespace Go.Proofs.Ytjmkccabpnigiaa.P
open Go.RowKit Go.Proofs.YtjmkccabpnigiaaW.PrintWords Go.Proofs.YtjmkccabpnigiaaW.PrintLast Go.Proofs.YtjmkccabpnigiaaW.PrintMore
attribute [local go_sem] max2_int min2_int max_two min_two max_three min_three max_four min_four
set_option linter.unusedVariables false
set_option linter.unusedSimpArgs false
theorem ld53 {o : Oper} {d s g : Nat} {x0 x1 x2 x3 : Int} (hop : o.op = .load 53 (.tmp s)) (hd : o.dst = some d) {a : Act} {w : World} (hp : a.tmps[s]? = some (.pointer (some ⟨g, 0, none⟩))) (hc : w.heap[g]? = some (.cells #[.int .i64 x0, .int .i64 x1, .int .i64 x2, .int .i64 x3] 53 (0, 0))) (Q : Exit → Act → World → Prop) (K : Act → World → Prop) (h : K (a.put (some d) (.agg #[.int .i64 x0, .int .i64 x1, .int .i64 x2, .int .i64 x3])) w) : Oper.wp Try.prog o a w K Q := by
 obtain ⟨dst, op, ty, pos, after, guard⟩ := o
 simp only at hop hd
 subst hop hd
 have hu26 := Try.underlying26
 have hu53 := Try.underlying53
 have k0 : w.cell? ⟨g, 0, none⟩ = some (.int .i64 x0) := blk_cell hc 0
 have k1 : w.cell? ⟨g, 1, none⟩ = some (.int .i64 x1) := blk_cell hc 1
 have k2 : w.cell? ⟨g, 2, none⟩ = some (.int .i64 x2) := blk_cell hc 2
 have k3 : w.cell? ⟨g, 3, none⟩ = some (.int .i64 x3) := blk_cell hc 3
 clear hc
 go_simp
 exact h
theorem st53 {o : Oper} {d s g : Nat} {x0 x1 x2 x3 y0 y1 y2 y3 : Int} (hop : o.op = .store 53 (.tmp d) (.tmp s)) (hd : o.dst = none) {a : Act} {w : World} (hp : a.tmps[d]? = some (.pointer (some ⟨g, 0, none⟩))) (hv : a.tmps[s]? = some (.agg #[.int .i64 y0, .int .i64 y1, .int .i64 y2, .int .i64 y3])) (hc : w.heap[g]? = some (.cells #[.int .i64 x0, .int .i64 x1, .int .i64 x2, .int .i64 x3] 53 (0, 0))) (Q : Exit → Act → World → Prop) (K : Act → World → Prop) (h : ∀ w', w'.heap[g]? = some (.cells #[.int .i64 y0, .int .i64 y1, .int .i64 y2, .int .i64 y3] 53 (0, 0)) → BKeep g w w' → K a w') : Oper.wp Try.prog o a w K Q := by
 obtain ⟨dst, op, ty, pos, after, guard⟩ := o
 simp only at hop hd
 subst hop hd
 have k0 : w.cell? ⟨g, 0, none⟩ = some (.int .i64 x0) := blk_cell hc 0
 have k1 : w.cell? ⟨g, 1, none⟩ = some (.int .i64 x1) := blk_cell hc 1
 have k2 : w.cell? ⟨g, 2, none⟩ = some (.int .i64 x2) := blk_cell hc 2
 have k3 : w.cell? ⟨g, 3, none⟩ = some (.int .i64 x3) := blk_cell hc 3
 have z0 : w.frozen? ⟨g, 0, none⟩ = false := blk_frozen hc 0
 have z1 : w.frozen? ⟨g, 1, none⟩ = false := blk_frozen hc 1
 have z2 : w.frozen? ⟨g, 2, none⟩ = false := blk_frozen hc 2
 have z3 : w.frozen? ⟨g, 3, none⟩ = false := blk_frozen hc 3
 have hp4 := put4 hc (.int .i64 y0) (.int .i64 y1) (.int .i64 y2) (.int .i64 y3)
 have hK := Aside0.mk (h _ hp4.1 hp4.2)
 clear hc hp4 h
 go_simp
 exact hK.out
/-- Two loads and two stores into boxes that stand already: the boxes change what they hold. -/
theorem sm14 {a b a2 b2 : S26} {Bx By g8 g9 : Nat} {id : Nat} {ops : Array Oper} {Q : Exit → Act → World → Prop} {base : Array Value} {W : World} {r : Option Nat} {n : Nat} (o0 o1 o2 o3 : Oper) (hops : ops = #[o0, o1, o2, o3])
    (hm : Try.prog.follows .mixedOrders = true) (hord : orderedT (rtab .any ops).2 = true)
    (h0 : o0.op = .load 53 (.tmp 7)) (d0 : o0.dst = some 50) (u0 : o0.guard = none) (h1 : o1.op = .load 53 (.tmp 5)) (d1 : o1.dst = some 51) (u1 : o1.guard = none)
    (h2 : o2.op = .store 53 (.tmp 8) (.tmp 50)) (d2 : o2.dst = none) (u2 : o2.guard = none) (h3 : o3.op = .store 53 (.tmp 9) (.tmp 51)) (d3 : o3.dst = none) (u3 : o3.guard = none)
    (n2 : 0 ∈ needsOf .any o2) (n3 : 1 ∈ needsOf .any o3) (n32 : 2 ∈ needsOf .any o3)
    (hsz : base.size = 72) (e5 : base[5]? = some (.pointer (some ⟨Bx, 0, none⟩))) (e7 : base[7]? = some (.pointer (some ⟨By, 0, none⟩))) (e8 : base[8]? = some (.pointer (some ⟨g8, 0, none⟩))) (e9 : base[9]? = some (.pointer (some ⟨g9, 0, none⟩)))
    (cx : W.heap[Bx]? = some (.cells #[.int .i64 a.f0, .int .i64 a.f1, .int .i64 b.f0, .int .i64 b.f1] 53 (0, 0))) (cy : W.heap[By]? = some (.cells #[.int .i64 a2.f0, .int .i64 a2.f1, .int .i64 b2.f0, .int .i64 b2.f1] 53 (0, 0)))
    (c8 : W.heap[g8]? = some (.cells #[.int .i64 a.f0, .int .i64 a.f1, .int .i64 b.f0, .int .i64 b.f1] 53 (0, 0))) (c9 : W.heap[g9]? = some (.cells #[.int .i64 a2.f0, .int .i64 a2.f1, .int .i64 b2.f0, .int .i64 b2.f1] 53 (0, 0)))
    (hn : g9 ≠ g8) (hx8 : Bx ≠ g8) (hx9 : Bx ≠ g9) (hy8 : By ≠ g8) (hy9 : By ≠ g9)
    (hdone : ∀ w', w'.heap[g8]? = some (.cells #[.int .i64 a2.f0, .int .i64 a2.f1, .int .i64 b2.f0, .int .i64 b2.f1] 53 (0, 0)) → w'.heap[g9]? = some (.cells #[.int .i64 a.f0, .int .i64 a.f1, .int .i64 b.f0, .int .i64 b.f1] 53 (0, 0)) → (∀ B, B ≤ g8 → B ≤ g9 → Below B W w') →
     Q .normal ⟨laid base [50, 51] [.agg #[.int .i64 a2.f0, .int .i64 a2.f1, .int .i64 b2.f0, .int .i64 b2.f1], .agg #[.int .i64 a.f0, .int .i64 a.f1, .int .i64 b.f0, .int .i64 b.f1]], []⟩ w') : (Code.region id ops true).wpIn (FR r) n Try.prog Q ⟨base, []⟩ W := by
 subst hops
 have l8 := (Array.getElem?_eq_some_iff.1 c8).1
 have l9 := (Array.getElem?_eq_some_iff.1 c9).1
 have lx := (Array.getElem?_eq_some_iff.1 cx).1
 have ly := (Array.getElem?_eq_some_iff.1 cy).1
 refine regionIn_by hm hord (fun l ac w => ∃ q0 q1 q2 q3 : Bool, l = [q0, q1, q2, q3] ∧ (q2 = true → q0 = true) ∧ (q3 = true → q1 = true ∧ q2 = true) ∧ ac.defers = [] ∧ ac.tmps.size = 72 ∧ (q0 = true → ac.tmps[50]? = some (.agg #[.int .i64 a2.f0, .int .i64 a2.f1, .int .i64 b2.f0, .int .i64 b2.f1])) ∧ (q1 = true → ac.tmps[51]? = some (.agg #[.int .i64 a.f0, .int .i64 a.f1, .int .i64 b.f0, .int .i64 b.f1])) ∧
  (∀ k, k ≠ 50 → k ≠ 51 → ac.tmps[k]? = base[k]?) ∧ (∀ B, B ≤ g8 → B ≤ g9 → Below B W w) ∧ (∀ k, k < W.heap.size → k ≠ g8 → k ≠ g9 → w.heap[k]? = W.heap[k]?) ∧
  (q2 = false → w.heap[g8]? = some (.cells #[.int .i64 a.f0, .int .i64 a.f1, .int .i64 b.f0, .int .i64 b.f1] 53 (0, 0))) ∧ (q2 = true → w.heap[g8]? = some (.cells #[.int .i64 a2.f0, .int .i64 a2.f1, .int .i64 b2.f0, .int .i64 b2.f1] 53 (0, 0))) ∧
  (q3 = false → w.heap[g9]? = some (.cells #[.int .i64 a2.f0, .int .i64 a2.f1, .int .i64 b2.f0, .int .i64 b2.f1] 53 (0, 0))) ∧ (q3 = true → w.heap[g9]? = some (.cells #[.int .i64 a.f0, .int .i64 a.f1, .int .i64 b.f0, .int .i64 b.f1] 53 (0, 0)))) ?_ ?_ ?_
 ·exact ⟨false, false, false, false, rfl, fun h => (by cases h), fun h => (by cases h), rfl, hsz, fun h => (by cases h), fun h => (by cases h), fun _ _ _ => rfl, fun B _ _ => below_drew1 (Below.refl _ _), fun _ _ _ _ => rfl, fun _ => c8, fun h => (by cases h), fun _ => c9, fun h => (by cases h)⟩
 ·rintro i o l ac w ho ⟨q0, q1, q2, q3, rfl, i1, i2, i3, i4, i5, i6, i7, i8, i9, i10, i11, i12, i13⟩ hi hnd
  match i, ho with
  | 0, ho =>
   obtain rfl : o0 = o := by simpa using ho
   rw [if_pos (want_free u0)]
   refine oper_fr (by rw [h0]; intro c hc; cases hc) (ld53 h0 d0 ((i7 7 (by decide) (by decide)).trans e7) ((i9 By ly hy8 hy9).trans cy) _ _ ?_)
   refine ⟨true, q1, q2, q3, rfl, fun _ => rfl, i2, i3, by rw [tmps_put_size]; exact i4, fun _ => tmps_put_eq (by rw [i4]; decide), fun h => by rw [tmps_put_ne (by decide)]; exact i6 h, fun k hk hk' => by rw [tmps_put_ne (Ne.symm hk)]; exact i7 k hk hk', i8, i9, i10, i11, i12, i13⟩
  | 1, ho =>
   obtain rfl : o1 = o := by simpa using ho
   rw [if_pos (want_free u1)]
   refine oper_fr (by rw [h1]; intro c hc; cases hc) (ld53 h1 d1 ((i7 5 (by decide) (by decide)).trans e5) ((i9 Bx lx hx8 hx9).trans cx) _ _ ?_)
   refine ⟨q0, true, q2, q3, rfl, i1, fun h => ⟨rfl, (i2 h).2⟩, i3, by rw [tmps_put_size]; exact i4, fun h => by rw [tmps_put_ne (by decide)]; exact i5 h, fun _ => tmps_put_eq (by rw [i4]; decide), fun k hk hk' => by rw [tmps_put_ne (Ne.symm hk')]; exact i7 k hk hk', i8, i9, i10, i11, i12, i13⟩
  | 2, ho =>
   obtain rfl : o2 = o := by simpa using ho
   rw [if_pos (want_free u2)]
   have hb0 : q0 = true := by simpa using hnd 0 n2
   have hb2 : q2 = false := by simpa using hi
   have hb3 : q3 = false := by cases q3 with
    | false => rfl
    | true => rw [hb2] at i2; cases (i2 rfl).2
   refine oper_fr (by rw [h2]; intro c hc; cases hc) (st53 h2 d2 ((i7 8 (by decide) (by decide)).trans e8) (i5 hb0) (i10 hb2) _ _ ?_)
   intro w' hw' hk
   refine ⟨q0, q1, true, q3, rfl, fun _ => hb0, fun h => (by rw [hb3] at h; cases h), i3, i4, i5, i6, i7, fun B h8 h9 => ?_, fun k hk1 hk2 hk3 => (hk.2.2.2.2 k (by have := (i8 0 (Nat.zero_le _) (Nat.zero_le _)).size; omega) hk2).trans (i9 k hk1 hk2 hk3), fun h => (by cases h), fun _ => hw', fun h => (hk.2.2.2.2 g9 (Array.getElem?_eq_some_iff.1 (i12 hb3)).1 hn).trans (i12 h), fun h => (by rw [hb3] at h; cases h)⟩
   have hb := i8 B h8 h9
   exact ⟨hk.1.trans hb.os, hk.2.1.trans hb.tape, hk.2.2.1.trans hb.output, Nat.le_trans hb.size hk.2.2.2.1, fun k hkB => (hk.2.2.2.2 k (by have := hb.size; omega) (by omega)).trans (hb.block k hkB)⟩
  | 3, ho =>
   obtain rfl : o3 = o := by simpa using ho
   rw [if_pos (want_free u3)]
   have hb1 : q1 = true := by simpa using hnd 1 n3
   have hb2 : q2 = true := by simpa using hnd 2 n32
   have hb3 : q3 = false := by simpa using hi
   refine oper_fr (by rw [h3]; intro c hc; cases hc) (st53 h3 d3 ((i7 9 (by decide) (by decide)).trans e9) (i6 hb1) (i12 hb3) _ _ ?_)
   intro w' hw' hk
   refine ⟨q0, q1, q2, true, rfl, i1, fun _ => ⟨hb1, hb2⟩, i3, i4, i5, i6, i7, fun B h8 h9 => ?_, fun k hk1 hk2 hk3 => (hk.2.2.2.2 k (by have := (i8 0 (Nat.zero_le _) (Nat.zero_le _)).size; omega) hk3).trans (i9 k hk1 hk2 hk3), fun h => (by rw [hb2] at h; cases h), fun h => (hk.2.2.2.2 g8 (Array.getElem?_eq_some_iff.1 (i11 hb2)).1 (Ne.symm hn)).trans (i11 h), fun h => (by cases h), fun _ => hw'⟩
   have hb := i8 B h8 h9
   exact ⟨hk.1.trans hb.os, hk.2.1.trans hb.tape, hk.2.2.1.trans hb.output, Nat.le_trans hb.size hk.2.2.2.1, fun k hkB => (hk.2.2.2.2 k (by have := hb.size; omega) (by omega)).trans (hb.block k hkB)⟩
  | i + 4, ho => simp at ho
 ·rintro ac w ⟨q0, q1, q2, q3, hl, i1, i2, i3, i4, i5, i6, i7, i8, i9, i10, i11, i12, i13⟩
  obtain ⟨rfl, rfl, rfl, rfl⟩ : true = q0 ∧ true = q1 ∧ true = q2 ∧ true = q3 := by simpa [List.replicate] using hl
  have ht := laid_eq (T := ac.tmps) (base := base) (ds := [50, 51]) (vs := [.agg #[.int .i64 a2.f0, .int .i64 a2.f1, .int .i64 b2.f0, .int .i64 b2.f1], .agg #[.int .i64 a.f0, .int .i64 a.f1, .int .i64 b.f0, .int .i64 b.f1]]) (by omega) (by decide) (by simp; omega) rfl (fun i d v hd hv => by
   match i, hd, hv with
   | 0, hd, hv => simp at hd hv; subst hd hv; exact i5 rfl
   | 1, hd, hv => simp at hd hv; subst hd hv; exact i6 rfl
   | i + 2, hd, hv => simp at hd) (fun k hk => by simp at hk; exact i7 k hk.1 hk.2)
  have ha : ac = ⟨laid base [50, 51] [.agg #[.int .i64 a2.f0, .int .i64 a2.f1, .int .i64 b2.f0, .int .i64 b2.f1], .agg #[.int .i64 a.f0, .int .i64 a.f1, .int .i64 b.f0, .int .i64 b.f1]], []⟩ := by
   cases ac
   simp only at i3 ht
   rw [i3, ht]
  rw [ha]
  exact hdone w (i11 rfl) (i13 rfl) i8
end Go.Proofs.Ytjmkccabpnigiaa.P
