import Derived.Test.YtjmkccabpnigiaaQPx5
import Derived.Test.YtjmkccabpnigiaaQGivenE
import Derived.Test.YtjmkccabpnigiaaQPx1
import Derived.IntWalk
namespace Go.Proofs.Ytjmkccabpnigiaa.P
open Go.RowKit Go.Proofs.YtjmkccabpnigiaaW.PrintWords Go.Proofs.YtjmkccabpnigiaaW.PrintLast Go.Proofs.YtjmkccabpnigiaaW.PrintMore
attribute [local go_sem] max2_int min2_int max_two min_two max_three min_three max_four min_four
set_option linter.unusedVariables false
set_option linter.unusedSimpArgs false
set_option maxRecDepth 100000
def farP (p : S26) : Bool := decide (p.f0 < -1048576 ∨ p.f1 < -1048576 ∨ 1048576 < p.f0 ∨ 1048576 < p.f1)
theorem far_calls (p : S26) (w : World) :
    Calls Try.prog 32 #[.agg #[.int .i64 p.f0, .int .i64 p.f1]] w fun e w' => e = .returned (.bool (farP p)) ∧ Below w.heap.size w w' := by
 have hu26 := Try.underlying26
 have HB := Aside0.mk (below_alloc (Below.refl w.heap.size w) (.cells #[.int .i64 p.f0, .int .i64 p.f1] 26))
 go_enter Try.func32, Try.ntmps32
 go_wp2
 all_goals (go_ret; refine ⟨congrArg (fun b : Bool => Ending.returned (Value.bool b)) (?_ : _ = farP p), HB.out⟩; unfold farP; rw [Bool.eq_iff_iff]; simp; omega)
def anyFar : List S26 → Bool
 | [] => false
 | p :: l => if farP p = true then true else anyFar l
theorem drop_rd (l : List S26) (i : Nat) (h : i < l.length) : l.drop i = rd_T26 l i :: l.drop (i + 1) := by
 rw [List.drop_eq_getElem_cons h]
 simp [rd_T26, List.getD_eq_getElem?_getD, List.getElem?_eq_getElem h]
set_option maxHeartbeats 1000000 in
theorem index_calls (A : Option Addr) (c : Nat) (l : List S26) (w : World) (hC : Kd.C k26 w A l.length l) :
    Calls Try.prog 49 #[.slice A l.length c, .func (.func 32) #[] #[]] w fun e w' => ∃ i, e = .returned (.int .i64 i) ∧ decide (0 ≤ i) = anyFar l ∧ Below w.heap.size w w' := by
 have hmax := Kd.C_max hC
 have HC := Aside0.mk hC
 clear hC
 go_enter Try.func49, Try.ntmps49
 go_wp2
 go_loopw [8] (fun v8 w' => ∃ i : Nat, v8 = .int .i64 i ∧ i ≤ l.length ∧ Aside0 (anyFar l = anyFar (l.drop i)) ∧ Aside0 (Below w.heap.size w w')) (fun v8 _ => (match v8 with | .int _ i => l.length - i.toNat | _ => 0))
 case atStart => exact ⟨0, rfl, Nat.zero_le _, ⟨by simp⟩, ⟨Below.refl _ _⟩⟩
 case round =>
  obtain ⟨i, rfl, hi, HQ, HB⟩ := hrel
  by_cases h : i < l.length
  ·obtain ⟨ad, rfl, h0, h1⟩ := at_T26 (Kd.C_below HC.out HB.out) (i : Int) (by omega) (by omega)
   obtain ⟨p, hp⟩ : ∃ p, rd_T26 l i = p := ⟨_, rfl⟩
   have HD := Aside0.mk (drop_rd l i h)
   rw [hp] at h0 h1 HD
   rw [Int.toNat_natCast] at h0 h1
   clear hp
   by_cases hf : farP p = true
   ·have HE := Aside0.mk (show anyFar l = true by rw [HQ.out, HD.out]; simp [anyFar, hf])
    go_wp2_with (first
     | (go_at_call 32; (with_reducible refine (far_calls p _).mono ?_); rintro e w1 ⟨rfl, hb1⟩; have HB1 := Aside0.mk (below_step HB.out hb1); clear hb1)
     | fail)
    go_ret
    exact ⟨_, rfl, by rw [HE.out]; exact decide_eq_true (Int.natCast_nonneg _), HB1.out⟩
   ·have HE := Aside0.mk (show anyFar l = anyFar (l.drop (i + 1)) by rw [HQ.out, HD.out]; simp [anyFar, hf])
    go_wp2_with (first
     | (go_at_call 32; (with_reducible refine (far_calls p _).mono ?_); rintro e w1 ⟨rfl, hb1⟩; have HB1 := Aside0.mk (below_step HB.out hb1); clear hb1)
     | fail)
    go_roundw
    case rel => exact ⟨i + 1, by push_cast; rfl, by omega, HE, HB1⟩
    case measure => simp; omega
  ·have HE := Aside0.mk (show anyFar l = false by rw [HQ.out, List.drop_eq_nil_of_le (by omega)]; rfl)
   go_wp2
   go_ret
   exact ⟨-1, rfl, by rw [HE.out]; rfl, HB.out⟩
theorem contains_calls (A : Option Addr) (c : Nat) (l : List S26) (w : World) (hC : Kd.C k26 w A l.length l) :
    Calls Try.prog 31 #[.slice A l.length c, .func (.func 32) #[] #[]] w fun e w' => e = .returned (.bool (anyFar l)) ∧ Below w.heap.size w w' := by
 go_enter Try.func31, Try.ntmps31
 go_wp2_with (first
  | (go_at_call 49; (with_reducible refine (index_calls A c l _ hC).mono ?_); rintro e w1 ⟨i, rfl, hi, hb1⟩)
  | fail)
 go_ret
 exact ⟨by first | rw [hi] | (rw [← hi]; rfl), hb1⟩
def polygon_near.f (l : List S26) : Option Bool := some (!anyFar l)
theorem polygon_near.calls (A0 : Option Addr) (c0 : Nat) (l0 : List S26) (r : Bool) (w : World) (hr0 : Kd.C k26 w A0 l0.length l0) (hc0 : l0.length ≤ c0) (h : polygon_near.f l0 = some r) :
    Calls Try.prog 17 #[.slice A0 l0.length c0] w fun e w' => e = .returned (.bool r) ∧ Below w.heap.size w w' := by
 obtain rfl := Option.some.inj h
 go_enter Try.func17, Try.ntmps17
 go_wp2_with (first
  | (go_at_call 31; (with_reducible refine (contains_calls A0 c0 l0 _ hr0).mono ?_); rintro e w1 ⟨rfl, hb1⟩)
  | fail)
 go_ret
 exact ⟨rfl, hb1⟩
end Go.Proofs.Ytjmkccabpnigiaa.P
namespace Go.Proofs.Ytjmkccabpnigiaa.P
open Go.RowKit Go.Proofs.YtjmkccabpnigiaaW.PrintWords Go.Proofs.YtjmkccabpnigiaaW.PrintLast Go.Proofs.YtjmkccabpnigiaaW.PrintMore
attribute [local go_sem] max2_int min2_int max_two min_two max_three min_three max_four min_four
set_option linter.unusedVariables false
set_option linter.unusedSimpArgs false
set_option maxHeartbeats 8000000
set_option maxRecDepth 100000
theorem near_pt {p : S26} (h : farP p = false) : -1048576 ≤ p.f0 ∧ p.f0 ≤ 1048576 ∧ -1048576 ≤ p.f1 ∧ p.f1 ≤ 1048576 := by
 unfold farP at h
 have := of_decide_eq_false h
 omega
theorem prod_small {x y : Int} (h1 : -2097152 ≤ x) (h2 : x ≤ 2097152) (h3 : -2097152 ≤ y) (h4 : y ≤ 2097152) : -4398046511104 ≤ x * y ∧ x * y ≤ 4398046511104 := by
 have a := Int.mul_nonneg (show 0 ≤ 2097152 - x by omega) (show 0 ≤ 2097152 - y by omega)
 have b := Int.mul_nonneg (show 0 ≤ 2097152 + x by omega) (show 0 ≤ 2097152 + y by omega)
 have c := Int.mul_nonneg (show 0 ≤ 2097152 - x by omega) (show 0 ≤ 2097152 + y by omega)
 have d := Int.mul_nonneg (show 0 ≤ 2097152 + x by omega) (show 0 ≤ 2097152 - y by omega)
 simp only [Int.sub_mul, Int.mul_sub, Int.add_mul, Int.mul_add] at a b c d
 omega
/-- The turn, without any bound of the numbers. -/
def turnP (a b c : S26) : Int := if (farP a || farP b || farP c) = true then 0 else cmp3 ((b.f0 - a.f0) * (c.f1 - a.f1)) ((b.f1 - a.f1) * (c.f0 - a.f0))
theorem cmp3_bound (x y : Int) : -1 ≤ cmp3 x y ∧ cmp3 x y ≤ 1 := by unfold cmp3; split <;> (try split) <;> omega
theorem turnP_bound (a b c : S26) : -1 ≤ turnP a b c ∧ turnP a b c ≤ 1 := by
 unfold turnP
 split
 ·omega
 ·exact cmp3_bound _ _
theorem compare_int (x y : Int) : cmp_Compare_int.f x y = some (cmp3 x y) := by
 have e : ∀ z : Int, (z != z) = false := fun z => by simp
 unfold cmp_Compare_int.f cmp_isNaN_int.f cmp3
 rw [e, e]
 simp only [Option.bind_some, Bool.false_eq_true, if_false]
 by_cases h : x < y
 ·simp [h]
 ·simp only [if_neg h]
  split <;> rfl
def Pt (w : World) (g : Nat) (p : S26) : Prop := w.cell? ⟨g, 0, none⟩ = some (.int .i64 p.f0) ∧ w.cell? ⟨g, 1, none⟩ = some (.int .i64 p.f1)
theorem Pt.of {w : World} {g : Nat} {p : S26} (h : w.heap[g]? = some (.cells #[.int .i64 p.f0, .int .i64 p.f1] 26 (0, 0))) : Pt w g p := ⟨blk_cell h 0, blk_cell h 1⟩
theorem Pt.step {w w' : World} {g : Nat} {p : S26} (h : Pt w g p) (hb : Below w.heap.size w w') : Pt w' g p := ⟨pw_cell_below hb h.1, pw_cell_below hb h.2⟩
def X3 (a b c : S26) (g4 g5 g6 : Nat) (w0 w : World) : Prop := (Pt w g4 a ∧ Pt w g5 b ∧ Pt w g6 c) ∧ Below w0.heap.size w0 w
theorem X3.step {a b c : S26} {g4 g5 g6 : Nat} {w0 w w' : World} (h : X3 a b c g4 g5 g6 w0 w) (hb : Below w.heap.size w w') : X3 a b c g4 g5 g6 w0 w' :=
 ⟨⟨h.1.1.step hb, h.1.2.1.step hb, h.1.2.2.step hb⟩, below_step h.2 hb⟩
theorem X3.start (a b c : S26) (w : World) : X3 a b c w.heap.size (w.heap.size + 1) (w.heap.size + 1 + 1) w (((w.alloc (.cells #[.int .i64 a.f0, .int .i64 a.f1] 26)).alloc (.cells #[.int .i64 b.f0, .int .i64 b.f1] 26)).alloc (.cells #[.int .i64 c.f0, .int .i64 c.f1] 26)) := by
 have h1 := blk_new w (.cells #[.int .i64 a.f0, .int .i64 a.f1] 26)
 have h2 := blk_new (w.alloc (.cells #[.int .i64 a.f0, .int .i64 a.f1] 26)) (.cells #[.int .i64 b.f0, .int .i64 b.f1] 26)
 have h3 := blk_new ((w.alloc (.cells #[.int .i64 a.f0, .int .i64 a.f1] 26)).alloc (.cells #[.int .i64 b.f0, .int .i64 b.f1] 26)) (.cells #[.int .i64 c.f0, .int .i64 c.f1] 26)
 simp only [World.size_alloc] at h2 h3
 exact ⟨⟨.of (blk_alloc (blk_alloc h1 _) _), .of (blk_alloc h2 _), .of h3⟩, below_alloc (below_alloc (below_alloc (Below.refl _ _) _) _) _⟩
theorem c26_three {w : World} {g : Nat} {a b c : S26} (h : w.heap[g]? = some (.cells #[.int .i64 a.f0, .int .i64 a.f1, .int .i64 b.f0, .int .i64 b.f1, .int .i64 c.f0, .int .i64 c.f1] 26 (0, 0))) : Kd.C k26 w (some ⟨g, 0, none⟩) ([a, b, c] : List S26).length [a, b, c] := by
 refine ⟨rfl, by simp, fun _ => ⟨_, rfl, ?_⟩⟩
 have ha : ∀ m, (⟨g, 0, none⟩ : Addr).add m = ⟨g, m, none⟩ := by
  intro m
  unfold Addr.add
  split
  ·next h => rw [h]
  ·simp
 intro j p hj
 have key : ∀ (q : S26) (x : Nat), w.cell? ⟨g, x, none⟩ = some (.int .i64 q.f0) → w.cell? ⟨g, x + 1, none⟩ = some (.int .i64 q.f1) → x = j * 2 → q = p → ∃ c, c.length = 2 ∧ k26.K w p c ∧ ∀ i u, c[i]? = some u → w.cell? ((⟨g, 0, none⟩ : Addr).add (j * 2 + i)) = some u := by
  rintro q x h0 h1 rfl rfl
  refine ⟨_, rfl, k26_mk w q, ?_⟩
  intro i u hi
  match i, hi with
  | 0, hi => simp at hi; subst hi; rw [ha]; exact h0
  | 1, hi => simp at hi; subst hi; rw [ha]; exact h1
  | i + 2, hi => simp at hi
 match j, hj with
 | 0, hj => exact key a 0 (blk_cell h 0) (blk_cell h 1) rfl (by simpa using hj)
 | 1, hj => exact key b 2 (blk_cell h 2) (blk_cell h 3) rfl (by simpa using hj)
 | 2, hj => exact key c 4 (blk_cell h 4) (blk_cell h 5) rfl (by simpa using hj)
 | j + 3, hj => simp at hj
theorem not_f {x : Bool} (h : (!x) = false) : x = true := by cases x <;> simp_all
theorem not_t {x : Bool} (h : (!x) = true) : x = false := by cases x <;> simp_all
theorem near3_calls (a b c : S26) (u : Bool) (hu : (!(farP a || farP b || farP c)) = u) (w : World) (g n : Nat) (hC : Kd.C k26 w (some ⟨g, 0, none⟩) ([a, b, c] : List S26).length [a, b, c]) (hn : 3 ≤ n) : Calls Try.prog 17 #[.slice (some ⟨g, 0, none⟩) 3 n] w fun e w' => e = .returned (.bool u) ∧ Below w.heap.size w w' :=
 polygon_near.calls _ n [a, b, c] u w hC hn (by unfold polygon_near.f; rw [← hu]; simp only [anyFar]; cases farP a <;> cases farP b <;> cases farP c <;> rfl)
theorem turn_form {a b c : S26} (h : (farP a || farP b || farP c) = false) : turnP a b c = cmp3 (wrap64 (wrap64 (b.f0 - a.f0) * wrap64 (c.f1 - a.f1))) (wrap64 (wrap64 (b.f1 - a.f1) * wrap64 (c.f0 - a.f0))) := by
 unfold turnP
 rw [if_neg (by rw [h]; decide)]
 obtain ⟨⟨ha, hb⟩, hc⟩ : (farP a = false ∧ farP b = false) ∧ farP c = false := by simpa [Bool.or_eq_false_iff] using h
 obtain ⟨a1, a2, a3, a4⟩ := near_pt ha
 obtain ⟨b1, b2, b3, b4⟩ := near_pt hb
 obtain ⟨c1, c2, c3, c4⟩ := near_pt hc
 rw [Go.IntWalk.wrap64_in (b.f0 - a.f0) (by omega), Go.IntWalk.wrap64_in (c.f1 - a.f1) (by omega), Go.IntWalk.wrap64_in (b.f1 - a.f1) (by omega), Go.IntWalk.wrap64_in (c.f0 - a.f0) (by omega)]
 have p1 := prod_small (x := b.f0 - a.f0) (y := c.f1 - a.f1) (by omega) (by omega) (by omega) (by omega)
 have p2 := prod_small (x := b.f1 - a.f1) (y := c.f0 - a.f0) (by omega) (by omega) (by omega) (by omega)
 rw [Go.IntWalk.wrap64_in ((b.f0 - a.f0) * (c.f1 - a.f1)) (by omega), Go.IntWalk.wrap64_in ((b.f1 - a.f1) * (c.f0 - a.f0)) (by omega)]
theorem turn_calls (a b c : S26) (w : World) : Calls Try.prog 6 #[.agg #[.int .i64 a.f0, .int .i64 a.f1], .agg #[.int .i64 b.f0, .int .i64 b.f1], .agg #[.int .i64 c.f0, .int .i64 c.f1]] w fun e w' => e = .returned (.int .i64 (turnP a b c)) ∧ Below w.heap.size w w' := by
 have hu26 := Try.underlying26
 have hu23 := Try.underlying23
 have HK := Aside0.mk (X3.start a b c w)
 obtain ⟨u, hu⟩ : ∃ u, (!(farP a || farP b || farP c)) = u := ⟨_, rfl⟩
 have HU := Aside0.mk hu
 clear hu
 go_enter Try.func6, Try.ntmps6
 go_upto_region 1 with fail
 obtain ⟨g4, hg4⟩ : ∃ g, w.heap.size = g := ⟨_, rfl⟩
 obtain ⟨g5, hg5⟩ : ∃ g, w.heap.size + 1 = g := ⟨_, rfl⟩
 obtain ⟨g6, hg6⟩ : ∃ g, w.heap.size + 1 + 1 = g := ⟨_, rfl⟩
 obtain ⟨W, hW⟩ : ∃ W, (((w.alloc (.cells #[.int .i64 a.f0, .int .i64 a.f1] 26)).alloc (.cells #[.int .i64 b.f0, .int .i64 b.f1] 26)).alloc (.cells #[.int .i64 c.f0, .int .i64 c.f1] 26)) = W := ⟨_, rfl⟩
 rw [hW, hg6, hg5, hg4] at HK ⊢
 clear hg4 hg5 hg6 hW
 obtain ⟨⟨⟨k40, k41⟩, ⟨k50, k51⟩, ⟨k60, k61⟩⟩, -⟩ := HK.out
 cases u with
 | false =>
  go_wp2_with (first
   | (go_at_call 17; (with_reducible refine (near3_calls a b c _ HU.out _ _ _ (c26_three (blk_new _ _)) (by omega)).mono ?_); rintro e w2 ⟨rfl, hb⟩; replace HK := Aside0.mk ((HK.out.step (below_alloc (Below.refl _ _) _)).step hb); clear hb k40 k41 k50 k51 k60 k61)
   | fail)
  go_ret
  exact ⟨by unfold turnP; rw [if_pos (not_f HU.out)]; rfl, HK.out.2⟩
 | true =>
  have HF := Aside0.mk (turn_form (a := a) (b := b) (c := c) (not_t HU.out))
  go_wp2_with (first
   | (go_at_call 17; (with_reducible refine (near3_calls a b c _ HU.out _ _ _ (c26_three (blk_new _ _)) (by omega)).mono ?_); rintro e w2 ⟨rfl, hb⟩; replace HK := Aside0.mk ((HK.out.step (below_alloc (Below.refl _ _) _)).step hb); clear hb k40 k41 k50 k51 k60 k61; obtain ⟨⟨⟨k40, k41⟩, ⟨k50, k51⟩, ⟨k60, k61⟩⟩, -⟩ := HK.out)
   | (go_at_call 18; (with_reducible refine (cmp_Compare_int.calls _ _ _ _ (compare_int _ _)).mono ?_); rintro e w2 ⟨rfl, hb⟩)
   | fail)
  go_ret
  exact ⟨by rw [HF.out]; rfl, below_step HK.out.2 hb.below⟩
def inBox (a b p : S26) : Bool := decide (mn a.f0 b.f0 ≤ p.f0 ∧ p.f0 ≤ mx a.f0 b.f0 ∧ mn a.f1 b.f1 ≤ p.f1 ∧ p.f1 ≤ mx a.f1 b.f1)
/-- Whether a point lies in the box: by four tests, in their order. -/
theorem inBox_form (a b p : S26) : inBox a b p = (decide (mn a.f0 b.f0 ≤ p.f0) && (decide (p.f0 ≤ mx a.f0 b.f0) && (decide (mn a.f1 b.f1 ≤ p.f1) && decide (p.f1 ≤ mx a.f1 b.f1)))) := by
 unfold inBox
 simp only [Bool.decide_and]
theorem box_calls (a b p : S26) (w : World) : Calls Try.prog 34 #[.agg #[.int .i64 a.f0, .int .i64 a.f1, .int .i64 b.f0, .int .i64 b.f1], .agg #[.int .i64 p.f0, .int .i64 p.f1]] w fun e w' => e = .returned (.bool (inBox a b p)) ∧ Below w.heap.size w w' := by
 have hu26 := Try.underlying26
 have hu53 := Try.underlying53
 have h := inBox_form a b p
 unfold mn mx at h
 obtain ⟨m0, h0⟩ : ∃ m, (if b.f0 < a.f0 then b.f0 else a.f0) = m := ⟨_, rfl⟩
 obtain ⟨m1, h1⟩ : ∃ m, (if a.f0 < b.f0 then b.f0 else a.f0) = m := ⟨_, rfl⟩
 obtain ⟨m2, h2⟩ : ∃ m, (if b.f1 < a.f1 then b.f1 else a.f1) = m := ⟨_, rfl⟩
 obtain ⟨m3, h3⟩ : ∃ m, (if a.f1 < b.f1 then b.f1 else a.f1) = m := ⟨_, rfl⟩
 rw [h0, h1, h2, h3] at h
 obtain ⟨d0, e0⟩ : ∃ d, decide (m0 ≤ p.f0) = d := ⟨_, rfl⟩
 obtain ⟨d1, e1⟩ : ∃ d, decide (p.f0 ≤ m1) = d := ⟨_, rfl⟩
 obtain ⟨d2, e2⟩ : ∃ d, decide (m2 ≤ p.f1) = d := ⟨_, rfl⟩
 rw [e0, e1, e2] at h
 have HH := Aside0.mk h
 clear h
 cases d0 <;> cases d1 <;> cases d2 <;>
  (go_enter Try.func34, Try.ntmps34; go_wp2; go_ret; exact ⟨by rw [HH.out]; first | rfl | simp, below_alloc (below_alloc (Below.refl _ _) _) _⟩)
def hasP (a b p : S26) : Bool := inBox a b p && decide (turnP a b p = 0)
theorem has_calls (a b p : S26) (w : World) : Calls Try.prog 21 #[.agg #[.int .i64 a.f0, .int .i64 a.f1, .int .i64 b.f0, .int .i64 b.f1], .agg #[.int .i64 p.f0, .int .i64 p.f1]] w fun e w' => e = .returned (.bool (hasP a b p)) ∧ Below w.heap.size w w' := by
 have hu26 := Try.underlying26
 have hu53 := Try.underlying53
 have b1 := blk_alloc (blk_new w (.cells #[.int .i64 a.f0, .int .i64 a.f1, .int .i64 b.f0, .int .i64 b.f1] 53)) (.cells #[.int .i64 p.f0, .int .i64 p.f1] 26)
 have b2 := blk_new (w.alloc (.cells #[.int .i64 a.f0, .int .i64 a.f1, .int .i64 b.f0, .int .i64 b.f1] 53)) (.cells #[.int .i64 p.f0, .int .i64 p.f1] 26)
 rw [World.size_alloc] at b2
 have HB := Aside0.mk (below_alloc (below_alloc (Below.refl w.heap.size w) (.cells #[.int .i64 a.f0, .int .i64 a.f1, .int .i64 b.f0, .int .i64 b.f1] 53)) (.cells #[.int .i64 p.f0, .int .i64 p.f1] 26))
 obtain ⟨W, hW⟩ : ∃ W, ((w.alloc (.cells #[.int .i64 a.f0, .int .i64 a.f1, .int .i64 b.f0, .int .i64 b.f1] 53)).alloc (.cells #[.int .i64 p.f0, .int .i64 p.f1] 26)) = W := ⟨_, rfl⟩
 obtain ⟨u, hu⟩ : ∃ u, inBox a b p = u := ⟨_, rfl⟩
 have HU := Aside0.mk hu
 rw [hW] at b1 b2 HB
 go_enter Try.func21, Try.ntmps21
 go_upto_region 1 with fail
 obtain ⟨g1, hg1⟩ : ∃ g, w.heap.size = g := ⟨_, rfl⟩
 obtain ⟨g2, hg2⟩ : ∃ g, w.heap.size + 1 = g := ⟨_, rfl⟩
 rw [hg1] at b1
 rw [hg2] at b2
 rw [hg2, hg1]
 have B1 := Aside0.mk b1
 have B2 := Aside0.mk b2
 have k10 : W.cell? ⟨g1, 0, none⟩ = some (.int .i64 a.f0) := blk_cell b1 0
 have k11 : W.cell? ⟨g1, 1, none⟩ = some (.int .i64 a.f1) := blk_cell b1 1
 have k12 : W.cell? ⟨g1, 2, none⟩ = some (.int .i64 b.f0) := blk_cell b1 2
 have k13 : W.cell? ⟨g1, 3, none⟩ = some (.int .i64 b.f1) := blk_cell b1 3
 have k20 : W.cell? ⟨g2, 0, none⟩ = some (.int .i64 p.f0) := blk_cell b2 0
 have k21 : W.cell? ⟨g2, 1, none⟩ = some (.int .i64 p.f1) := blk_cell b2 1
 clear b1 b2 hW hg1 hg2 hu
 have hbox := (box_calls a b p W)
 rw [HU.out] at hbox
 have HBX := Aside0.mk hbox
 clear hbox
 cases u with
 | false =>
  go_wp2_with (first
   | (go_at_call 34; (with_reducible refine HBX.out.mono ?_); rintro e w2 ⟨rfl, hb⟩; replace HB := Aside0.mk (below_step HB.out hb); clear hb)
   | fail)
  go_ret
  exact ⟨by unfold hasP; rw [HU.out]; rfl, HB.out⟩
 | true =>
  go_wp2_with (first
   | (go_at_call 34; (with_reducible refine HBX.out.mono ?_); rintro e w2 ⟨rfl, hb⟩; replace HB := Aside0.mk (below_step HB.out hb); replace B1 := Aside0.mk (blk_below B1.out hb); replace B2 := Aside0.mk (blk_below B2.out hb); clear hb k10 k11 k12 k13 k20 k21; have k10 := blk_cell B1.out 0; have k11 := blk_cell B1.out 1; have k12 := blk_cell B1.out 2; have k13 := blk_cell B1.out 3; have k20 := blk_cell B2.out 0; have k21 := blk_cell B2.out 1; simp at k10 k11 k12 k13 k20 k21)
   | (go_at_call 6; (with_reducible refine (turn_calls a b p _).mono ?_); rintro e w3 ⟨rfl, hb⟩; replace HB := Aside0.mk (below_step HB.out hb); clear hb)
   | fail)
  go_ret
  exact ⟨by unfold hasP; rw [HU.out]; rfl, HB.out⟩
end Go.Proofs.Ytjmkccabpnigiaa.P
namespace Go.Proofs.Ytjmkccabpnigiaa.P
open Go.RowKit Go.Proofs.YtjmkccabpnigiaaW.PrintWords Go.Proofs.YtjmkccabpnigiaaW.PrintLast Go.Proofs.YtjmkccabpnigiaaW.PrintMore
attribute [local go_sem] max2_int min2_int max_two min_two max_three min_three max_four min_four
set_option linter.unusedVariables false
set_option linter.unusedSimpArgs false
def crossP (a b c d : S26) : Bool := if (farP a || farP b || farP c || farP d) = true then false else
 (decide (turnP a b c * turnP a b d < 0) && decide (turnP c d a * turnP c d b < 0)) || hasP a b c || hasP a b d || hasP c d a || hasP c d b
end Go.Proofs.Ytjmkccabpnigiaa.P
