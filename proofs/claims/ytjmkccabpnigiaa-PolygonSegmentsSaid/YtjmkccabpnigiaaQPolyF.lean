import Derived.Test.YtjmkccabpnigiaaQPolyE
import Derived.Test.YtjmkccabpnigiaaQPolyT
import Derived.Test.YtjmkccabpnigiaaQGivenXb
namespace Go.Proofs.Ytjmkccabpnigiaa.P
open Go.RowKit Go.Proofs.YtjmkccabpnigiaaW.PrintWords Go.Proofs.YtjmkccabpnigiaaW.PrintLast Go.Proofs.YtjmkccabpnigiaaW.PrintMore
attribute [local go_sem] max2_int min2_int max_two min_two max_three min_three max_four min_four
set_option linter.unusedVariables false
set_option linter.unusedSimpArgs false
set_option maxHeartbeats 8000000
set_option maxRecDepth 100000
section
variable {a b c d : S26} {g4 g5 g6 g7 : Nat} {W : World} {B : Array Value → Prop} {DS : List Nat} {PS : List (World → Value → Prop)} {ops : Array Oper} {o : Oper}
theorem cr3_s0 (hop : o.op = .load 26 (.tmp 4)) (hd : o.dst = some 18) (hg : o.guard = none) (f4 : 4 ∉ DS) (b4 : ∀ base, B base → base[4]? = some (.pointer (some ⟨g4, 0, none⟩))) (k4_0 : W.cell? ⟨g4, 0, none⟩ = some (.int .i64 a.f0)) (k4_1 : W.cell? ⟨g4, 1, none⟩ = some (.int .i64 a.f1)) : StepOKb Try.prog ops W B DS PS o 18 (fun _ v => v = .agg #[.int .i64 a.f0, .int .i64 a.f1]) := by
 intro Q base ac w hB hbel hsz hn hfar
 obtain ⟨dst, op, ty, pos, after, guard⟩ := o
 simp only at hop hd hg
 subst hop hd hg
 refine ⟨rfl, ?_⟩
 have e4 := (hfar 4 f4).trans (b4 base hB)
 have ck4_0 := pw_cell_below hbel k4_0
 have ck4_1 := pw_cell_below hbel k4_1
 clear hn hfar b4
 go_simp
 exact ⟨_, rfl, (by first | with_reducible rfl | (rw [i64_w]) | (rw [Go.IntKind.wrap_i64]; rfl) | rfl), Below.refl _ _⟩
theorem cr3_s1 (hop : o.op = .load 26 (.tmp 5)) (hd : o.dst = some 19) (hg : o.guard = none) (f5 : 5 ∉ DS) (b5 : ∀ base, B base → base[5]? = some (.pointer (some ⟨g5, 0, none⟩))) (k5_0 : W.cell? ⟨g5, 0, none⟩ = some (.int .i64 b.f0)) (k5_1 : W.cell? ⟨g5, 1, none⟩ = some (.int .i64 b.f1)) : StepOKb Try.prog ops W B DS PS o 19 (fun _ v => v = .agg #[.int .i64 b.f0, .int .i64 b.f1]) := by
 intro Q base ac w hB hbel hsz hn hfar
 obtain ⟨dst, op, ty, pos, after, guard⟩ := o
 simp only at hop hd hg
 subst hop hd hg
 refine ⟨rfl, ?_⟩
 have e5 := (hfar 5 f5).trans (b5 base hB)
 have ck5_0 := pw_cell_below hbel k5_0
 have ck5_1 := pw_cell_below hbel k5_1
 clear hn hfar b5
 go_simp
 exact ⟨_, rfl, (by first | with_reducible rfl | (rw [i64_w]) | (rw [Go.IntKind.wrap_i64]; rfl) | rfl), Below.refl _ _⟩
theorem cr3_s2 (hop : o.op = .build 53 #[(0, .tmp 18), (1, .tmp 19)]) (hd : o.dst = some 20) (hg : o.guard = none) (n0 : 0 ∈ needsOf .any o) (d0 : DS[0]? = some 18) (p0 : PS[0]? = some (fun _ v => v = .agg #[.int .i64 a.f0, .int .i64 a.f1])) (n1 : 1 ∈ needsOf .any o) (d1 : DS[1]? = some 19) (p1 : PS[1]? = some (fun _ v => v = .agg #[.int .i64 b.f0, .int .i64 b.f1])) : StepOKb Try.prog ops W B DS PS o 20 (fun _ v => v = .agg #[.int .i64 a.f0, .int .i64 a.f1, .int .i64 b.f0, .int .i64 b.f1]) := by
 intro Q base ac w hB hbel hsz hn hfar
 obtain ⟨dst, op, ty, pos, after, guard⟩ := o
 simp only at hop hd hg
 subst hop hd hg
 refine ⟨rfl, ?_⟩
 obtain ⟨v0, e0, rfl⟩ := hn 0 n0 _ _ d0 p0 (by decide)
 obtain ⟨v1, e1, rfl⟩ := hn 1 n1 _ _ d1 p1 (by decide)
 clear hn hfar
 go_simp
 exact ⟨_, rfl, (by first | with_reducible rfl | (rw [i64_w]) | (rw [Go.IntKind.wrap_i64]; rfl) | rfl), Below.refl _ _⟩
theorem cr3_s3 (hop : o.op = .load 26 (.tmp 6)) (hd : o.dst = some 21) (hg : o.guard = none) (f6 : 6 ∉ DS) (b6 : ∀ base, B base → base[6]? = some (.pointer (some ⟨g6, 0, none⟩))) (k6_0 : W.cell? ⟨g6, 0, none⟩ = some (.int .i64 c.f0)) (k6_1 : W.cell? ⟨g6, 1, none⟩ = some (.int .i64 c.f1)) : StepOKb Try.prog ops W B DS PS o 21 (fun _ v => v = .agg #[.int .i64 c.f0, .int .i64 c.f1]) := by
 intro Q base ac w hB hbel hsz hn hfar
 obtain ⟨dst, op, ty, pos, after, guard⟩ := o
 simp only at hop hd hg
 subst hop hd hg
 refine ⟨rfl, ?_⟩
 have e6 := (hfar 6 f6).trans (b6 base hB)
 have ck6_0 := pw_cell_below hbel k6_0
 have ck6_1 := pw_cell_below hbel k6_1
 clear hn hfar b6
 go_simp
 exact ⟨_, rfl, (by first | with_reducible rfl | (rw [i64_w]) | (rw [Go.IntKind.wrap_i64]; rfl) | rfl), Below.refl _ _⟩
theorem cr3_s4 (hop : o.op = .load 26 (.tmp 7)) (hd : o.dst = some 22) (hg : o.guard = none) (f7 : 7 ∉ DS) (b7 : ∀ base, B base → base[7]? = some (.pointer (some ⟨g7, 0, none⟩))) (k7_0 : W.cell? ⟨g7, 0, none⟩ = some (.int .i64 d.f0)) (k7_1 : W.cell? ⟨g7, 1, none⟩ = some (.int .i64 d.f1)) : StepOKb Try.prog ops W B DS PS o 22 (fun _ v => v = .agg #[.int .i64 d.f0, .int .i64 d.f1]) := by
 intro Q base ac w hB hbel hsz hn hfar
 obtain ⟨dst, op, ty, pos, after, guard⟩ := o
 simp only at hop hd hg
 subst hop hd hg
 refine ⟨rfl, ?_⟩
 have e7 := (hfar 7 f7).trans (b7 base hB)
 have ck7_0 := pw_cell_below hbel k7_0
 have ck7_1 := pw_cell_below hbel k7_1
 clear hn hfar b7
 go_simp
 exact ⟨_, rfl, (by first | with_reducible rfl | (rw [i64_w]) | (rw [Go.IntKind.wrap_i64]; rfl) | rfl), Below.refl _ _⟩
theorem cr3_s5 (hop : o.op = .build 53 #[(0, .tmp 21), (1, .tmp 22)]) (hd : o.dst = some 23) (hg : o.guard = none) (n3 : 3 ∈ needsOf .any o) (d3 : DS[3]? = some 21) (p3 : PS[3]? = some (fun _ v => v = .agg #[.int .i64 c.f0, .int .i64 c.f1])) (n4 : 4 ∈ needsOf .any o) (d4 : DS[4]? = some 22) (p4 : PS[4]? = some (fun _ v => v = .agg #[.int .i64 d.f0, .int .i64 d.f1])) : StepOKb Try.prog ops W B DS PS o 23 (fun _ v => v = .agg #[.int .i64 c.f0, .int .i64 c.f1, .int .i64 d.f0, .int .i64 d.f1]) := by
 intro Q base ac w hB hbel hsz hn hfar
 obtain ⟨dst, op, ty, pos, after, guard⟩ := o
 simp only at hop hd hg
 subst hop hd hg
 refine ⟨rfl, ?_⟩
 obtain ⟨v3, e3, rfl⟩ := hn 3 n3 _ _ d3 p3 (by decide)
 obtain ⟨v4, e4, rfl⟩ := hn 4 n4 _ _ d4 p4 (by decide)
 clear hn hfar
 go_simp
 exact ⟨_, rfl, (by first | with_reducible rfl | (rw [i64_w]) | (rw [Go.IntKind.wrap_i64]; rfl) | rfl), Below.refl _ _⟩
end
theorem c26_four {w : World} {g : Nat} {a b c d : S26} (h : w.heap[g]? = some (.cells #[.int .i64 a.f0, .int .i64 a.f1, .int .i64 b.f0, .int .i64 b.f1, .int .i64 c.f0, .int .i64 c.f1, .int .i64 d.f0, .int .i64 d.f1] 26 (0, 0))) :
    Kd.C k26 w (some ⟨g, 0, none⟩) ([a, b, c, d] : List S26).length [a, b, c, d] := by
 refine ⟨rfl, by simp, fun _ => ⟨_, rfl, ?_⟩⟩
 have ha : ∀ m, (⟨g, 0, none⟩ : Addr).add m = ⟨g, m, none⟩ := by
  intro m
  unfold Addr.add
  split
  ·next h => rw [h]
  ·simp
 intro j p hj
 have key : ∀ (q : S26) (x : Nat), w.cell? ⟨g, x, none⟩ = some (.int .i64 q.f0) → w.cell? ⟨g, x + 1, none⟩ = some (.int .i64 q.f1) → x = j * 2 → q = p → ∃ c, c.length = 2 ∧ k26.K w p c ∧ ∀ i u, c[i]? = some u → w.cell? ((⟨g, 0, none⟩ : Addr).add (j * 2 + i)) = some u := by
  rintro q x h0 h1 rfl rfl
  refine ⟨_, rfl, k26_mk w q, ?_⟩
  intro i u hi
  match i, hi with
  | 0, hi => simp at hi; subst hi; rw [ha]; exact h0
  | 1, hi => simp at hi; subst hi; rw [ha]; exact h1
  | i + 2, hi => simp at hi
 match j, hj with
 | 0, hj => exact key a 0 (blk_cell h 0) (blk_cell h 1) rfl (by simpa using hj)
 | 1, hj => exact key b 2 (blk_cell h 2) (blk_cell h 3) rfl (by simpa using hj)
 | 2, hj => exact key c 4 (blk_cell h 4) (blk_cell h 5) rfl (by simpa using hj)
 | 3, hj => exact key d 6 (blk_cell h 6) (blk_cell h 7) rfl (by simpa using hj)
 | j + 4, hj => simp at hj
theorem near4_calls (A : Option Addr) (n : Nat) (a b c d : S26) (u v : Bool) (hu : anyFar [a, b, c, d] = u) (hv : (!u) = v) (w : World) (hC : Kd.C k26 w A ([a, b, c, d] : List S26).length [a, b, c, d]) (hn : 4 ≤ n) : Calls Try.prog 17 #[.slice A 4 n] w fun e w' => e = .returned (.bool v) ∧ Below w.heap.size w w' :=
 polygon_near.calls A n [a, b, c, d] v w hC hn (by unfold polygon_near.f; rw [hu, hv])
theorem four_boxes (w : World) (p q r s : Obj) : let W := ((((w.alloc p).alloc q).alloc r).alloc s); W.heap[w.heap.size]? = some p ∧ W.heap[w.heap.size + 1]? = some q ∧ W.heap[w.heap.size + 1 + 1]? = some r ∧ W.heap[w.heap.size + 1 + 1 + 1]? = some s ∧ Below w.heap.size w W := by
 have h1 := World.alloc_heap_new w p
 have h2 := World.alloc_heap_new (w.alloc p) q
 have h3 := World.alloc_heap_new ((w.alloc p).alloc q) r
 have h4 := World.alloc_heap_new (((w.alloc p).alloc q).alloc r) s
 simp only [World.size_alloc] at h2 h3 h4
 have k : ∀ (W : World) (o : Obj) (g : Nat) (x : Obj), W.heap[g]? = some x → (W.alloc o).heap[g]? = some x := fun W o g x hx => (Below.heap_alloc W o g (Array.getElem?_eq_some_iff.1 hx).1).trans hx
 exact ⟨k _ _ _ _ (k _ _ _ _ (k _ _ _ _ h1)), k _ _ _ _ (k _ _ _ _ h2), k _ _ _ _ h3, h4, below_alloc (below_alloc (below_alloc (below_alloc (Below.refl _ _) _) _) _) _⟩
theorem five_new (w : World) (p q r s o : Obj) : (((((w.alloc p).alloc q).alloc r).alloc s).alloc o).heap[w.heap.size + 1 + 1 + 1 + 1]? = some o := by
 have h := World.alloc_heap_new ((((w.alloc p).alloc q).alloc r).alloc s) o
 simp only [World.size_alloc] at h
 exact h
theorem cross_calls (a b c d : S26) (w : World) : Calls Try.prog 8 #[.agg #[.int .i64 a.f0, .int .i64 a.f1], .agg #[.int .i64 b.f0, .int .i64 b.f1], .agg #[.int .i64 c.f0, .int .i64 c.f1], .agg #[.int .i64 d.f0, .int .i64 d.f1]] w fun e w' => e = .returned (.bool (crossP a b c d)) ∧ Below w.heap.size w w' := by
 have hu26 := Try.underlying26
 have hu53 := Try.underlying53
 have HF := Aside0.mk (four_boxes w (.cells #[.int .i64 a.f0, .int .i64 a.f1] 26) (.cells #[.int .i64 b.f0, .int .i64 b.f1] 26) (.cells #[.int .i64 c.f0, .int .i64 c.f1] 26) (.cells #[.int .i64 d.f0, .int .i64 d.f1] 26))
 obtain ⟨u, hu⟩ : ∃ u, anyFar [a, b, c, d] = u := ⟨_, rfl⟩
 have hfar : (farP a || farP b || farP c || farP d) = u := by
  rw [← hu]
  simp only [anyFar]
  cases farP a <;> cases farP b <;> cases farP c <;> cases farP d <;> rfl
 have HP := Aside0.mk hfar
 have HU := Aside0.mk hu
 clear hfar hu
 go_enter Try.func8, Try.ntmps8
 cases u with
 | true =>
  go_wp2_with (first
   | (go_at_call 17; (with_reducible refine (near4_calls _ _ a b c d true false HU.out rfl _ ?_ (by omega)).mono ?_); (exact c26_four (five_new _ _ _ _ _ _)); rintro e w1 ⟨rfl, hb1⟩; have HB1 := Aside0.mk hb1; clear hb1)
   | fail)
  go_ret
  exact ⟨by unfold crossP; rw [if_pos HP.out]; rfl, below_step (below_alloc (below_alloc (below_alloc (below_alloc (below_alloc (Below.refl _ _) _) _) _) _) _) HB1.out⟩
 | false =>
  go_upto_region 3 with (first
   | (go_at_call 17; (with_reducible refine (near4_calls _ _ a b c d false true HU.out rfl _ ?_ (by omega)).mono ?_); (exact c26_four (five_new _ _ _ _ _ _)); rintro e w1 ⟨rfl, hb1⟩; have HB1 := Aside0.mk hb1; clear hb1)
   | fail)
  have hb1 := HB1.out
  have g4 := blk_below (blk_alloc HF.out.1 _) hb1
  have g5 := blk_below (blk_alloc HF.out.2.1 _) hb1
  have g6 := blk_below (blk_alloc HF.out.2.2.1 _) hb1
  have g7 := blk_below (blk_alloc HF.out.2.2.2.1 _) hb1
  have HB2 := Aside0.mk (below_step (below_alloc HF.out.2.2.2.2 _) hb1)
  clear hb1 HB1 HF
  obtain ⟨W, rfl⟩ : ∃ W : World, W = w1 := ⟨_, rfl⟩
  have k4_0 : W.cell? ⟨w.heap.size, 0, none⟩ = some (.int .i64 a.f0) := blk_cell g4 0
  have k4_1 : W.cell? ⟨w.heap.size, 1, none⟩ = some (.int .i64 a.f1) := blk_cell g4 1
  have k5_0 : W.cell? ⟨w.heap.size + 1, 0, none⟩ = some (.int .i64 b.f0) := blk_cell g5 0
  have k5_1 : W.cell? ⟨w.heap.size + 1, 1, none⟩ = some (.int .i64 b.f1) := blk_cell g5 1
  have k6_0 : W.cell? ⟨w.heap.size + 1 + 1, 0, none⟩ = some (.int .i64 c.f0) := blk_cell g6 0
  have k6_1 : W.cell? ⟨w.heap.size + 1 + 1, 1, none⟩ = some (.int .i64 c.f1) := blk_cell g6 1
  have k7_0 : W.cell? ⟨w.heap.size + 1 + 1 + 1, 0, none⟩ = some (.int .i64 d.f0) := blk_cell g7 0
  have k7_1 : W.cell? ⟨w.heap.size + 1 + 1 + 1, 1, none⟩ = some (.int .i64 d.f1) := blk_cell g7 1
  clear g4 g5 g6 g7
  obtain ⟨g4, hg4⟩ : ∃ g, w.heap.size = g := ⟨_, rfl⟩
  obtain ⟨g5, hg5⟩ : ∃ g, w.heap.size + 1 = g := ⟨_, rfl⟩
  obtain ⟨g6, hg6⟩ : ∃ g, w.heap.size + 1 + 1 = g := ⟨_, rfl⟩
  obtain ⟨g7, hg7⟩ : ∃ g, w.heap.size + 1 + 1 + 1 = g := ⟨_, rfl⟩
  rw [hg7, hg6, hg5, hg4]
  rw [hg4] at k4_0 k4_1
  rw [hg5] at k5_0 k5_1
  rw [hg6] at k6_0 k6_1
  rw [hg7] at k7_0 k7_1
  refine (wpIn_wide (n := 5)).1 ?_
  refine regionIn_box2 (r := none) (n := 5) (by kernel_rfl) (by kernel_rfl) (by kernel_rfl) anyR (fun _ _ _ => trivial) (fun base => base[4]? = some (.pointer (some ⟨g4, 0, none⟩)) ∧ base[5]? = some (.pointer (some ⟨g5, 0, none⟩)) ∧ base[6]? = some (.pointer (some ⟨g6, 0, none⟩)) ∧ base[7]? = some (.pointer (some ⟨g7, 0, none⟩))) [.sure 18 (fun _ v => v = .agg #[.int .i64 a.f0, .int .i64 a.f1]), .sure 19 (fun _ v => v = .agg #[.int .i64 b.f0, .int .i64 b.f1]), .sure 20 (fun _ v => v = .agg #[.int .i64 a.f0, .int .i64 a.f1, .int .i64 b.f0, .int .i64 b.f1]), .sure 21 (fun _ v => v = .agg #[.int .i64 c.f0, .int .i64 c.f1]), .sure 22 (fun _ v => v = .agg #[.int .i64 d.f0, .int .i64 d.f1]), .sure 23 (fun _ v => v = .agg #[.int .i64 c.f0, .int .i64 c.f1, .int .i64 d.f0, .int .i64 d.f1]), .box 9 53 zo53 (fun _ cs => cs = #[.int .i64 a.f0, .int .i64 a.f1, .int .i64 b.f0, .int .i64 b.f1]), .box 10 53 zo53 (fun _ cs => cs = #[.int .i64 c.f0, .int .i64 c.f1, .int .i64 d.f0, .int .i64 d.f1]), .put 6 9 53 zo53 (fun _ cs => cs = #[.int .i64 a.f0, .int .i64 a.f1, .int .i64 b.f0, .int .i64 b.f1]), .put 7 10 53 zo53 (fun _ cs => cs = #[.int .i64 c.f0, .int .i64 c.f1, .int .i64 d.f0, .int .i64 d.f1])] [18, 19, 20, 21, 22, 23, 9, 10] rfl ?hB (by kernel_rfl) (by kernel_rfl) (by decide) (by kernel_rfl) ?hks ?hdone
  case hks =>
   refine ⟨⟨(fun _ _ _ _ h => h), cr3_s0 rfl rfl rfl (nin (by rfl)) (fun _ h => h.1) k4_0 k4_1⟩, ?_⟩
   refine ⟨⟨(fun _ _ _ _ h => h), cr3_s1 rfl rfl rfl (nin (by rfl)) (fun _ h => h.2.1) k5_0 k5_1⟩, ?_⟩
   refine ⟨⟨(fun _ _ _ _ h => h), cr3_s2 rfl rfl rfl (by decide) rfl rfl (by decide) rfl rfl⟩, ?_⟩
   refine ⟨⟨(fun _ _ _ _ h => h), cr3_s3 rfl rfl rfl (nin (by rfl)) (fun _ h => h.2.2.1) k6_0 k6_1⟩, ?_⟩
   refine ⟨⟨(fun _ _ _ _ h => h), cr3_s4 rfl rfl rfl (nin (by rfl)) (fun _ h => h.2.2.2) k7_0 k7_1⟩, ?_⟩
   refine ⟨⟨(fun _ _ _ _ h => h), cr3_s5 rfl rfl rfl (by decide) rfl rfl (by decide) rfl rfl⟩, ?_⟩
   refine ⟨⟨fun _ _ _ _ h => h, rfl, rfl, box53 rfl rfl⟩, ?_⟩
   refine ⟨⟨fun _ _ _ _ h => h, rfl, rfl, box53 rfl rfl⟩, ?_⟩
   refine ⟨⟨rfl, rfl, by decide, put_53 rfl rfl (j := 2) (by decide) rfl rfl (by decide) (fun w v h => ⟨_, _, _, _, h, fun _ => rfl⟩)⟩, ?_⟩
   refine ⟨⟨rfl, rfl, by decide, put_53 rfl rfl (j := 5) (by decide) rfl rfl (by decide) (fun w v h => ⟨_, _, _, _, h, fun _ => rfl⟩)⟩, ?_⟩
   exact trivial
  case hB => exact ⟨rfl, rfl, rfl, rfl⟩
  case hdone =>
   intro G vs w2 hnd hv hb2
   obtain ⟨v0, vs1, rfl, rfl, hv1⟩ := hv.sure_
   obtain ⟨v1, vs2, rfl, rfl, hv2⟩ := hv1.sure_
   obtain ⟨v2, vs3, rfl, rfl, hv3⟩ := hv2.sure_
   obtain ⟨v3, vs4, rfl, rfl, hv4⟩ := hv3.sure_
   obtain ⟨v4, vs5, rfl, rfl, hv5⟩ := hv4.sure_
   obtain ⟨v5, vs6, rfl, rfl, hv6⟩ := hv5.sure_
   obtain ⟨vs7, rfl, ge9, ⟨cs9, cb9, cc9⟩, hv7⟩ := hv6.box_
   obtain ⟨vs8, rfl, ge10, ⟨cs10, cb10, cc10⟩, hv8⟩ := hv7.box_
   have hv9 := hv8.put_
   have hv10 := hv9.put_
   obtain rfl := hv10.nil_
   clear hv hv1 hv2 hv3 hv4 hv5 hv6 hv7 hv8 hv9 hv10
   obtain ⟨g9, hg9⟩ : ∃ g, G 9 = g := ⟨_, rfl⟩
   obtain ⟨g10, hg10⟩ : ∃ g, G 10 = g := ⟨_, rfl⟩
   rw [hg9] at cb9
   rw [hg10] at cb10
   subst cc9 cc10
   have HB3 := Aside0.mk (below_step HB2.out hb2)
   simp only [laid, overlay, List.zipWith_cons_cons, List.zipWith_nil_left, List.zipWith_nil_right, List.foldl_cons, List.foldl_nil, List.setIfInBounds_toArray, List.set_cons_zero, List.set_cons_succ, hg9, hg10]
   have m4_0 := pw_cell_below hb2 k4_0
   have m4_1 := pw_cell_below hb2 k4_1
   have m5_0 := pw_cell_below hb2 k5_0
   have m5_1 := pw_cell_below hb2 k5_1
   have m6_0 := pw_cell_below hb2 k6_0
   have m6_1 := pw_cell_below hb2 k6_1
   have m7_0 := pw_cell_below hb2 k7_0
   have m7_1 := pw_cell_below hb2 k7_1
   clear k4_0 k4_1 k5_0 k5_1 k6_0 k6_1 k7_0 k7_1 hb2 hnd ge9 ge10 hg9 hg10
   have k4_0 := m4_0
   have k4_1 := m4_1
   have k5_0 := m5_0
   have k5_1 := m5_1
   have k6_0 := m6_0
   have k6_1 := m6_1
   have k7_0 := m7_0
   have k7_1 := m7_1
   clear m4_0 m4_1 m5_0 m5_1 m6_0 m6_1 m7_0 m7_1
   have k9_0 : w2.cell? ⟨g9, 0, none⟩ = some (.int .i64 a.f0) := blk_cell cb9 0
   have k9_1 : w2.cell? ⟨g9, 1, none⟩ = some (.int .i64 a.f1) := blk_cell cb9 1
   have k9_2 : w2.cell? ⟨g9, 2, none⟩ = some (.int .i64 b.f0) := blk_cell cb9 2
   have k9_3 : w2.cell? ⟨g9, 3, none⟩ = some (.int .i64 b.f1) := blk_cell cb9 3
   have k10_0 : w2.cell? ⟨g10, 0, none⟩ = some (.int .i64 c.f0) := blk_cell cb10 0
   have k10_1 : w2.cell? ⟨g10, 1, none⟩ = some (.int .i64 c.f1) := blk_cell cb10 1
   have k10_2 : w2.cell? ⟨g10, 2, none⟩ = some (.int .i64 d.f0) := blk_cell cb10 2
   have k10_3 : w2.cell? ⟨g10, 3, none⟩ = some (.int .i64 d.f1) := blk_cell cb10 3
   clear cb9 cb10
   have hcr : crossP a b c d = (((((decide (wrap64 (turnP a b c * turnP a b d) < 0) && decide (wrap64 (turnP c d a * turnP c d b) < 0)) || hasP a b c) || hasP a b d) || hasP c d a) || hasP c d b) := by
    have w1 : ∀ x y : Int, -1 ≤ x ∧ x ≤ 1 → -1 ≤ y ∧ y ≤ 1 → wrap64 (x * y) = x * y := by
     intro x y hx hy
     have p := prod_small (x := x) (y := y) (by omega) (by omega) (by omega) (by omega)
     exact Go.IntWalk.wrap64_in _ (by omega)
    rw [w1 _ _ (turnP_bound a b c) (turnP_bound a b d), w1 _ _ (turnP_bound c d a) (turnP_bound c d b)]
    unfold crossP
    rw [if_neg (by rw [HP.out]; decide)]
   have HCR := Aside0.mk hcr
   clear hcr
   obtain ⟨q1, eq1⟩ : ∃ q, q = decide (wrap64 (turnP a b c * turnP a b d) < 0) := ⟨_, rfl⟩
   obtain ⟨q2, eq2⟩ : ∃ q, q = decide (wrap64 (turnP c d a * turnP c d b) < 0) := ⟨_, rfl⟩
   obtain ⟨h1, eh1⟩ : ∃ q, q = hasP a b c := ⟨_, rfl⟩
   obtain ⟨h2, eh2⟩ : ∃ q, q = hasP a b d := ⟨_, rfl⟩
   obtain ⟨h3, eh3⟩ : ∃ q, q = hasP c d a := ⟨_, rfl⟩
   obtain ⟨h4, eh4⟩ : ∃ q, q = hasP c d b := ⟨_, rfl⟩
   go_wp2
   refine region_sure (by kernel_rfl) (by kernel_rfl) (fun base => base[4]? = some (.pointer (some ⟨g4, 0, none⟩)) ∧ base[5]? = some (.pointer (some ⟨g5, 0, none⟩)) ∧ base[6]? = some (.pointer (some ⟨g6, 0, none⟩)) ∧ base[7]? = some (.pointer (some ⟨g7, 0, none⟩)) ∧ base[9]? = some (.pointer (some ⟨g9, 0, none⟩)) ∧ base[10]? = some (.pointer (some ⟨g10, 0, none⟩))) [24, 25, 26, 27, 28, 29, 30, 31, 32, 33, 34, 35, 36, 37, 38, 39, 40, 41, 42, 43, 44, 45, 46, 47, 48, 49, 50, 51, 52, 53, 54, 55, 56, 57, 58, 59, 60, 61, 62, 63, 64, 65, 8] [(fun _ v => v = .agg #[.int .i64 a.f0, .int .i64 a.f1]), (fun _ v => v = .agg #[.int .i64 b.f0, .int .i64 b.f1]), (fun _ v => v = .agg #[.int .i64 c.f0, .int .i64 c.f1]), (fun _ v => v = .int .i64 (turnP a b c)), (fun _ v => v = .agg #[.int .i64 a.f0, .int .i64 a.f1]), (fun _ v => v = .agg #[.int .i64 b.f0, .int .i64 b.f1]), (fun _ v => v = .agg #[.int .i64 d.f0, .int .i64 d.f1]), (fun _ v => v = .int .i64 (turnP a b d)), (fun _ v => v = .int .i64 (wrap64 (turnP a b c * turnP a b d))), (fun _ v => v = .bool q1), (fun _ v => v = .bool q1), (fun _ v => v = (if q1 = true then .agg #[.int .i64 c.f0, .int .i64 c.f1] else undef)), (fun _ v => v = (if q1 = true then .agg #[.int .i64 d.f0, .int .i64 d.f1] else undef)), (fun _ v => v = (if q1 = true then .agg #[.int .i64 a.f0, .int .i64 a.f1] else undef)), (fun _ v => v = (if q1 = true then .int .i64 (turnP c d a) else undef)), (fun _ v => v = (if q1 = true then .agg #[.int .i64 c.f0, .int .i64 c.f1] else undef)), (fun _ v => v = (if q1 = true then .agg #[.int .i64 d.f0, .int .i64 d.f1] else undef)), (fun _ v => v = (if q1 = true then .agg #[.int .i64 b.f0, .int .i64 b.f1] else undef)), (fun _ v => v = (if q1 = true then .int .i64 (turnP c d b) else undef)), (fun _ v => v = (if q1 = true then .int .i64 (wrap64 (turnP c d a * turnP c d b)) else undef)), (fun _ v => v = (if q1 = true then .bool q2 else undef)), (fun _ v => v = .bool (q1 && q2)), (fun _ v => v = .bool (q1 && q2)), (fun _ v => v = (if (q1 && q2) = false then .agg #[.int .i64 a.f0, .int .i64 a.f1, .int .i64 b.f0, .int .i64 b.f1] else undef)), (fun _ v => v = (if (q1 && q2) = false then .agg #[.int .i64 c.f0, .int .i64 c.f1] else undef)), (fun _ v => v = (if (q1 && q2) = false then .bool h1 else undef)), (fun _ v => v = .bool ((q1 && q2) || h1)), (fun _ v => v = .bool ((q1 && q2) || h1)), (fun _ v => v = (if ((q1 && q2) || h1) = false then .agg #[.int .i64 a.f0, .int .i64 a.f1, .int .i64 b.f0, .int .i64 b.f1] else undef)), (fun _ v => v = (if ((q1 && q2) || h1) = false then .agg #[.int .i64 d.f0, .int .i64 d.f1] else undef)), (fun _ v => v = (if ((q1 && q2) || h1) = false then .bool h2 else undef)), (fun _ v => v = .bool (((q1 && q2) || h1) || h2)), (fun _ v => v = .bool (((q1 && q2) || h1) || h2)), (fun _ v => v = (if (((q1 && q2) || h1) || h2) = false then .agg #[.int .i64 c.f0, .int .i64 c.f1, .int .i64 d.f0, .int .i64 d.f1] else undef)), (fun _ v => v = (if (((q1 && q2) || h1) || h2) = false then .agg #[.int .i64 a.f0, .int .i64 a.f1] else undef)), (fun _ v => v = (if (((q1 && q2) || h1) || h2) = false then .bool h3 else undef)), (fun _ v => v = .bool ((((q1 && q2) || h1) || h2) || h3)), (fun _ v => v = .bool ((((q1 && q2) || h1) || h2) || h3)), (fun _ v => v = (if ((((q1 && q2) || h1) || h2) || h3) = false then .agg #[.int .i64 c.f0, .int .i64 c.f1, .int .i64 d.f0, .int .i64 d.f1] else undef)), (fun _ v => v = (if ((((q1 && q2) || h1) || h2) || h3) = false then .agg #[.int .i64 b.f0, .int .i64 b.f1] else undef)), (fun _ v => v = (if ((((q1 && q2) || h1) || h2) || h3) = false then .bool h4 else undef)), (fun _ v => v = .bool (((((q1 && q2) || h1) || h2) || h3) || h4)), (fun _ v => v = .bool (((((q1 && q2) || h1) || h2) || h3) || h4))] ?hB rfl (by decide) (by kernel_rfl) ?hstep ?hdone
   case hstep =>
    refine ⟨⟨mono_eq _, cr4_s0 rfl rfl rfl (by decide) (fun _ h => h.1) k4_0 k4_1⟩, ?_⟩
    refine ⟨⟨mono_eq _, cr4_s1 rfl rfl rfl (by decide) (fun _ h => h.2.1) k5_0 k5_1⟩, ?_⟩
    refine ⟨⟨mono_eq _, cr4_s2 rfl rfl rfl (by decide) (fun _ h => h.2.2.1) k6_0 k6_1⟩, ?_⟩
    refine ⟨⟨mono_eq _, cr4_s3 rfl rfl rfl (by decide) rfl rfl (by decide) rfl rfl (by decide) rfl rfl⟩, ?_⟩
    refine ⟨⟨mono_eq _, cr4_s4 rfl rfl rfl (by decide) (fun _ h => h.1) k4_0 k4_1⟩, ?_⟩
    refine ⟨⟨mono_eq _, cr4_s5 rfl rfl rfl (by decide) (fun _ h => h.2.1) k5_0 k5_1⟩, ?_⟩
    refine ⟨⟨mono_eq _, cr4_s6 rfl rfl rfl (by decide) (fun _ h => h.2.2.2.1) k7_0 k7_1⟩, ?_⟩
    refine ⟨⟨mono_eq _, cr4_s7 rfl rfl rfl (by decide) rfl rfl (by decide) rfl rfl (by decide) rfl rfl⟩, ?_⟩
    refine ⟨⟨mono_eq _, cr4_s8 rfl rfl rfl (by decide) rfl rfl (by decide) rfl rfl⟩, ?_⟩
    refine ⟨⟨mono_eq _, cr4_s9 rfl rfl rfl (by decide) rfl rfl eq1⟩, ?_⟩
    refine ⟨⟨mono_eq _, cr4_s10 rfl rfl rfl (by decide) rfl rfl⟩, ?_⟩
    refine ⟨⟨mono_eq _, cr4_s11 rfl rfl rfl (by decide) rfl rfl ⟨_, rfl, rfl⟩ (by decide) (fun _ h => h.2.2.1) k6_0 k6_1⟩, ?_⟩
    refine ⟨⟨mono_eq _, cr4_s12 rfl rfl rfl (by decide) rfl rfl ⟨_, rfl, rfl⟩ (by decide) (fun _ h => h.2.2.2.1) k7_0 k7_1⟩, ?_⟩
    refine ⟨⟨mono_eq _, cr4_s13 rfl rfl rfl (by decide) rfl rfl ⟨_, rfl, rfl⟩ (by decide) (fun _ h => h.1) k4_0 k4_1⟩, ?_⟩
    refine ⟨⟨mono_eq _, cr4_s14 rfl rfl rfl (by decide) rfl rfl (by decide) rfl rfl (by decide) rfl rfl (by decide) rfl rfl ⟨_, rfl, rfl⟩⟩, ?_⟩
    refine ⟨⟨mono_eq _, cr4_s15 rfl rfl rfl (by decide) rfl rfl ⟨_, rfl, rfl⟩ (by decide) (fun _ h => h.2.2.1) k6_0 k6_1⟩, ?_⟩
    refine ⟨⟨mono_eq _, cr4_s16 rfl rfl rfl (by decide) rfl rfl ⟨_, rfl, rfl⟩ (by decide) (fun _ h => h.2.2.2.1) k7_0 k7_1⟩, ?_⟩
    refine ⟨⟨mono_eq _, cr4_s17 rfl rfl rfl (by decide) rfl rfl ⟨_, rfl, rfl⟩ (by decide) (fun _ h => h.2.1) k5_0 k5_1⟩, ?_⟩
    refine ⟨⟨mono_eq _, cr4_s18 rfl rfl rfl (by decide) rfl rfl (by decide) rfl rfl (by decide) rfl rfl (by decide) rfl rfl ⟨_, rfl, rfl⟩⟩, ?_⟩
    refine ⟨⟨mono_eq _, cr4_s19 rfl rfl rfl (by decide) rfl rfl (by decide) rfl rfl (by decide) rfl rfl ⟨_, rfl, rfl⟩⟩, ?_⟩
    refine ⟨⟨mono_eq _, cr4_s20 rfl rfl rfl (by decide) rfl rfl (by decide) rfl rfl ⟨_, rfl, rfl⟩ eq2⟩, ?_⟩
    refine ⟨⟨mono_eq _, cr4_s21 rfl rfl rfl (by decide) rfl rfl (by decide) rfl rfl⟩, ?_⟩
    refine ⟨⟨mono_eq _, cr4_s22 rfl rfl rfl (by decide) rfl rfl⟩, ?_⟩
    refine ⟨⟨mono_eq _, cr4_s23 rfl rfl rfl (by decide) rfl rfl ⟨_, rfl, rfl⟩ (by decide) (fun _ h => h.2.2.2.2.1) k9_0 k9_1 k9_2 k9_3⟩, ?_⟩
    refine ⟨⟨mono_eq _, cr4_s24 rfl rfl rfl (by decide) rfl rfl ⟨_, rfl, rfl⟩ (by decide) (fun _ h => h.2.2.1) k6_0 k6_1⟩, ?_⟩
    refine ⟨⟨mono_eq _, cr4_s25 rfl rfl rfl (by decide) rfl rfl (by decide) rfl rfl (by decide) rfl rfl ⟨_, rfl, rfl⟩ eh1⟩, ?_⟩
    refine ⟨⟨mono_eq _, cr4_s26 rfl rfl rfl (by decide) rfl rfl (by decide) rfl rfl⟩, ?_⟩
    refine ⟨⟨mono_eq _, cr4_s27 rfl rfl rfl (by decide) rfl rfl⟩, ?_⟩
    refine ⟨⟨mono_eq _, cr4_s28 rfl rfl rfl (by decide) rfl rfl ⟨_, rfl, rfl⟩ (by decide) (fun _ h => h.2.2.2.2.1) k9_0 k9_1 k9_2 k9_3⟩, ?_⟩
    refine ⟨⟨mono_eq _, cr4_s29 rfl rfl rfl (by decide) rfl rfl ⟨_, rfl, rfl⟩ (by decide) (fun _ h => h.2.2.2.1) k7_0 k7_1⟩, ?_⟩
    refine ⟨⟨mono_eq _, cr4_s30 rfl rfl rfl (by decide) rfl rfl (by decide) rfl rfl (by decide) rfl rfl ⟨_, rfl, rfl⟩ eh2⟩, ?_⟩
    refine ⟨⟨mono_eq _, cr4_s31 rfl rfl rfl (by decide) rfl rfl (by decide) rfl rfl⟩, ?_⟩
    refine ⟨⟨mono_eq _, cr4_s32 rfl rfl rfl (by decide) rfl rfl⟩, ?_⟩
    refine ⟨⟨mono_eq _, cr4_s33 rfl rfl rfl (by decide) rfl rfl ⟨_, rfl, rfl⟩ (by decide) (fun _ h => h.2.2.2.2.2) k10_0 k10_1 k10_2 k10_3⟩, ?_⟩
    refine ⟨⟨mono_eq _, cr4_s34 rfl rfl rfl (by decide) rfl rfl ⟨_, rfl, rfl⟩ (by decide) (fun _ h => h.1) k4_0 k4_1⟩, ?_⟩
    refine ⟨⟨mono_eq _, cr4_s35 rfl rfl rfl (by decide) rfl rfl (by decide) rfl rfl (by decide) rfl rfl ⟨_, rfl, rfl⟩ eh3⟩, ?_⟩
    refine ⟨⟨mono_eq _, cr4_s36 rfl rfl rfl (by decide) rfl rfl (by decide) rfl rfl⟩, ?_⟩
    refine ⟨⟨mono_eq _, cr4_s37 rfl rfl rfl (by decide) rfl rfl⟩, ?_⟩
    refine ⟨⟨mono_eq _, cr4_s38 rfl rfl rfl (by decide) rfl rfl ⟨_, rfl, rfl⟩ (by decide) (fun _ h => h.2.2.2.2.2) k10_0 k10_1 k10_2 k10_3⟩, ?_⟩
    refine ⟨⟨mono_eq _, cr4_s39 rfl rfl rfl (by decide) rfl rfl ⟨_, rfl, rfl⟩ (by decide) (fun _ h => h.2.1) k5_0 k5_1⟩, ?_⟩
    refine ⟨⟨mono_eq _, cr4_s40 rfl rfl rfl (by decide) rfl rfl (by decide) rfl rfl (by decide) rfl rfl ⟨_, rfl, rfl⟩ eh4⟩, ?_⟩
    refine ⟨⟨mono_eq _, cr4_s41 rfl rfl rfl (by decide) rfl rfl (by decide) rfl rfl⟩, ?_⟩
    refine ⟨⟨mono_eq _, cr4_s42 rfl rfl rfl (by decide) rfl rfl⟩, ?_⟩
    exact trivial
   case hB => exact ⟨rfl, rfl, rfl, rfl, rfl, rfl⟩
   case hdone =>
    intro vs w3 hv hb3
    obtain ⟨v0, vs1, rfl, rfl, hv1⟩ := hv.cons
    obtain ⟨v1, vs2, rfl, rfl, hv2⟩ := hv1.cons
    obtain ⟨v2, vs3, rfl, rfl, hv3⟩ := hv2.cons
    obtain ⟨v3, vs4, rfl, rfl, hv4⟩ := hv3.cons
    obtain ⟨v4, vs5, rfl, rfl, hv5⟩ := hv4.cons
    obtain ⟨v5, vs6, rfl, rfl, hv6⟩ := hv5.cons
    obtain ⟨v6, vs7, rfl, rfl, hv7⟩ := hv6.cons
    obtain ⟨v7, vs8, rfl, rfl, hv8⟩ := hv7.cons
    obtain ⟨v8, vs9, rfl, rfl, hv9⟩ := hv8.cons
    obtain ⟨v9, vs10, rfl, rfl, hv10⟩ := hv9.cons
    obtain ⟨v10, vs11, rfl, rfl, hv11⟩ := hv10.cons
    obtain ⟨v11, vs12, rfl, -, hv12⟩ := hv11.cons
    obtain ⟨v12, vs13, rfl, -, hv13⟩ := hv12.cons
    obtain ⟨v13, vs14, rfl, -, hv14⟩ := hv13.cons
    obtain ⟨v14, vs15, rfl, -, hv15⟩ := hv14.cons
    obtain ⟨v15, vs16, rfl, -, hv16⟩ := hv15.cons
    obtain ⟨v16, vs17, rfl, -, hv17⟩ := hv16.cons
    obtain ⟨v17, vs18, rfl, -, hv18⟩ := hv17.cons
    obtain ⟨v18, vs19, rfl, -, hv19⟩ := hv18.cons
    obtain ⟨v19, vs20, rfl, -, hv20⟩ := hv19.cons
    obtain ⟨v20, vs21, rfl, -, hv21⟩ := hv20.cons
    obtain ⟨v21, vs22, rfl, rfl, hv22⟩ := hv21.cons
    obtain ⟨v22, vs23, rfl, rfl, hv23⟩ := hv22.cons
    obtain ⟨v23, vs24, rfl, -, hv24⟩ := hv23.cons
    obtain ⟨v24, vs25, rfl, -, hv25⟩ := hv24.cons
    obtain ⟨v25, vs26, rfl, -, hv26⟩ := hv25.cons
    obtain ⟨v26, vs27, rfl, rfl, hv27⟩ := hv26.cons
    obtain ⟨v27, vs28, rfl, rfl, hv28⟩ := hv27.cons
    obtain ⟨v28, vs29, rfl, -, hv29⟩ := hv28.cons
    obtain ⟨v29, vs30, rfl, -, hv30⟩ := hv29.cons
    obtain ⟨v30, vs31, rfl, -, hv31⟩ := hv30.cons
    obtain ⟨v31, vs32, rfl, rfl, hv32⟩ := hv31.cons
    obtain ⟨v32, vs33, rfl, rfl, hv33⟩ := hv32.cons
    obtain ⟨v33, vs34, rfl, -, hv34⟩ := hv33.cons
    obtain ⟨v34, vs35, rfl, -, hv35⟩ := hv34.cons
    obtain ⟨v35, vs36, rfl, -, hv36⟩ := hv35.cons
    obtain ⟨v36, vs37, rfl, rfl, hv37⟩ := hv36.cons
    obtain ⟨v37, vs38, rfl, rfl, hv38⟩ := hv37.cons
    obtain ⟨v38, vs39, rfl, -, hv39⟩ := hv38.cons
    obtain ⟨v39, vs40, rfl, -, hv40⟩ := hv39.cons
    obtain ⟨v40, vs41, rfl, -, hv41⟩ := hv40.cons
    obtain ⟨v41, vs42, rfl, rfl, hv42⟩ := hv41.cons
    obtain ⟨v42, vs43, rfl, rfl, hv43⟩ := hv42.cons
    obtain rfl := hv43.nil
    simp only [laid, overlay, List.zipWith_cons_cons, List.zipWith_nil_left, List.zipWith_nil_right, List.foldl_cons, List.foldl_nil, List.setIfInBounds_toArray, List.set_cons_zero, List.set_cons_succ]
    have hz := HCR.out
    rw [← eq1, ← eq2, ← eh1, ← eh2, ← eh3, ← eh4] at hz
    obtain ⟨z1, hz1⟩ : ∃ z, (q1 && q2) = z := ⟨_, rfl⟩
    rw [hz1] at hz ⊢
    obtain ⟨z2, hz2⟩ : ∃ z, (z1 || h1) = z := ⟨_, rfl⟩
    rw [hz2] at hz ⊢
    obtain ⟨z3, hz3⟩ : ∃ z, (z2 || h2) = z := ⟨_, rfl⟩
    rw [hz3] at hz ⊢
    obtain ⟨z4, hz4⟩ : ∃ z, (z3 || h3) = z := ⟨_, rfl⟩
    rw [hz4] at hz ⊢
    obtain ⟨z5, hz5⟩ : ∃ z, (z4 || h4) = z := ⟨_, rfl⟩
    rw [hz5] at hz ⊢
    have HZ := Aside0.mk hz
    clear eq1 eq2 eh1 eh2 eh3 eh4 hz hz1 hz2 hz3 hz4 hz5 HCR
    have HB4 := Aside0.mk (below_step HB3.out hb3)
    go_wp2
    go_ret
    exact ⟨by rw [HZ.out]; rfl, by rw [← hg4]; exact HB4.out⟩
end Go.Proofs.Ytjmkccabpnigiaa.P
