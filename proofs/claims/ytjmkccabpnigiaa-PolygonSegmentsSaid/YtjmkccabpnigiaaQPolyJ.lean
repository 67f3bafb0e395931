import Derived.Test.YtjmkccabpnigiaaQPolyI
import Derived.Test.YtjmkccabpnigiaaQPolyJ0
import Derived.Test.YtjmkccabpnigiaaQWNEv
namespace Go.Proofs.Ytjmkccabpnigiaa.P
open Go.RowKit Go.Proofs.YtjmkccabpnigiaaW.PrintWords Go.Proofs.YtjmkccabpnigiaaW.PrintLast Go.Proofs.YtjmkccabpnigiaaW.PrintMore
attribute [local go_sem] max2_int min2_int max_two min_two max_three min_three max_four min_four
set_option linter.unusedVariables false
set_option linter.unusedSimpArgs false
set_option maxHeartbeats 8000000
set_option maxRecDepth 100000
section
variable {a b a2 b2 : S26} {Bx By : Nat} {W : World} {B : Array Value → Prop} {DS : List Nat} {PS : List (World → Value → Prop)} {ops : Array Oper} {o : Oper}
theorem sm12_s0 (hop : o.op = .load 53 (.tmp 5)) (hd : o.dst = some 44) (hg : o.guard = none) (f5 : 5 ∉ DS) (b5 : ∀ base, B base → base[5]? = some (.pointer (some ⟨Bx, 0, none⟩))) (kx0 : W.cell? ⟨Bx, 0, none⟩ = some (.int .i64 a.f0)) (kx1 : W.cell? ⟨Bx, 1, none⟩ = some (.int .i64 a.f1)) (kx2 : W.cell? ⟨Bx, 2, none⟩ = some (.int .i64 b.f0)) (kx3 : W.cell? ⟨Bx, 3, none⟩ = some (.int .i64 b.f1)) : StepOKb Try.prog ops W B DS PS o 44 (fun _ v => v = .agg #[.int .i64 a.f0, .int .i64 a.f1, .int .i64 b.f0, .int .i64 b.f1]) := by
 intro Q base ac w hB hbel hsz hn hfar
 obtain ⟨dst, op, ty, pos, after, guard⟩ := o
 simp only at hop hd hg
 subst hop hd hg
 refine ⟨rfl, ?_⟩
 have e5 := (hfar 5 f5).trans (b5 base hB)
 have ckx0 := pw_cell_below hbel kx0
 have ckx1 := pw_cell_below hbel kx1
 have ckx2 := pw_cell_below hbel kx2
 have ckx3 := pw_cell_below hbel kx3
 clear hn hfar b5
 go_simp
 exact ⟨_, rfl, (by first | with_reducible rfl | (rw [i64_w]) | (rw [Go.IntKind.wrap_i64]; rfl) | rfl), Below.refl _ _⟩
theorem sm12_s1 (hop : o.op = .load 53 (.tmp 7)) (hd : o.dst = some 45) (hg : o.guard = none) (f7 : 7 ∉ DS) (b7 : ∀ base, B base → base[7]? = some (.pointer (some ⟨By, 0, none⟩))) (ky0 : W.cell? ⟨By, 0, none⟩ = some (.int .i64 a2.f0)) (ky1 : W.cell? ⟨By, 1, none⟩ = some (.int .i64 a2.f1)) (ky2 : W.cell? ⟨By, 2, none⟩ = some (.int .i64 b2.f0)) (ky3 : W.cell? ⟨By, 3, none⟩ = some (.int .i64 b2.f1)) : StepOKb Try.prog ops W B DS PS o 45 (fun _ v => v = .agg #[.int .i64 a2.f0, .int .i64 a2.f1, .int .i64 b2.f0, .int .i64 b2.f1]) := by
 intro Q base ac w hB hbel hsz hn hfar
 obtain ⟨dst, op, ty, pos, after, guard⟩ := o
 simp only at hop hd hg
 subst hop hd hg
 refine ⟨rfl, ?_⟩
 have e7 := (hfar 7 f7).trans (b7 base hB)
 have cky0 := pw_cell_below hbel ky0
 have cky1 := pw_cell_below hbel ky1
 have cky2 := pw_cell_below hbel ky2
 have cky3 := pw_cell_below hbel ky3
 clear hn hfar b7
 go_simp
 exact ⟨_, rfl, (by first | with_reducible rfl | (rw [i64_w]) | (rw [Go.IntKind.wrap_i64]; rfl) | rfl), Below.refl _ _⟩
end
attribute [local go_sem] Oper.semAt_some
def badE (n : Nat) (x y : Nat × S26 × S26) : Bool :=
 if (y.1 : Int) ≤ (x.1 : Int) then false else if (y.1 : Int) = wrap64 ((x.1 : Int) + 1) then hasP x.2.1 x.2.2 y.2.2 || hasP y.2.1 y.2.2 x.2.1 else if (x.1 : Int) = 0 ∧ (y.1 : Int) = wrap64 ((n : Int) - 1) then hasP y.2.1 y.2.2 x.2.2 || hasP x.2.1 x.2.2 y.2.1 else crossE x y
def sameI (x0 x1 y0 y1 : Int) : Bool := x0 == y0 && (x1 == y1)
theorem eqA26 (d : Nat) (w : World) (x0 y0 : Int) (x1 y1 : Int) :
    (Op.equalIn (d + 2) 26 (.agg #[.int .i64 x0, .int .i64 x1]) (.agg #[.int .i64 y0, .int .i64 y1])).run Try.prog w = .ok (sameI x0 x1 y0 y1) w := by
 refine eqA_of Try.underlying26 (by kernel_rfl) ?_
 refine eqf_cons (by rfl) (by go_simp; rfl) (by go_simp; rfl) (by go_simp) ?_
 exact eqf_last (by rfl) (by go_simp; rfl) (by go_simp; rfl) (by go_simp)
attribute [local go_sem high] eqA26
def samePt (a b : S26) : Bool := sameI a.f0 a.f1 b.f0 b.f1
def simpleP (ps : List S26) : Bool := (edgesOf ps).all fun x => !samePt x.2.1 x.2.2 && (edgesOf ps).all fun y => !badE ps.length x y
/-- No edge of m spoils x. -/
def NoB (n : Nat) (x : Nat × S26 × S26) (m : List (Nat × S26 × S26)) : Prop := ∀ y ∈ m, badE n x y = false
def HasB (n : Nat) (x : Nat × S26 × S26) (m : List (Nat × S26 × S26)) : Prop := ∃ y ∈ m, badE n x y = true
def GoodX (n : Nat) (l m : List (Nat × S26 × S26)) : Prop := ∀ x ∈ l, samePt x.2.1 x.2.2 = false ∧ NoB n x m
def BadX (n : Nat) (l m : List (Nat × S26 × S26)) : Prop := ∃ x ∈ l, samePt x.2.1 x.2.2 = true ∨ HasB n x m
theorem NoB.nil (n : Nat) (x : Nat × S26 × S26) : NoB n x [] := fun y h => by cases h
theorem NoB.snoc {n : Nat} {x y : Nat × S26 × S26} {l : List (Nat × S26 × S26)} (h : NoB n x l) (hy : badE n x y = false) : NoB n x (l ++ [y]) := fun z hz => by
 rcases List.mem_append.1 hz with h1 | h1
 ·exact h z h1
 ·rw [List.mem_singleton.1 h1]; exact hy
theorem HasB.last {n : Nat} {x y : Nat × S26 × S26} {l : List (Nat × S26 × S26)} (hy : badE n x y = true) : HasB n x (l ++ [y]) := ⟨y, List.mem_append.2 (.inr (List.mem_singleton.2 rfl)), hy⟩
theorem HasB.pre {n : Nat} {x : Nat × S26 × S26} {l m : List (Nat × S26 × S26)} (h : HasB n x l) (hp : l <+: m) : HasB n x m := by
 obtain ⟨y, hy, hc⟩ := h
 exact ⟨y, hp.subset hy, hc⟩
theorem GoodX.nil (n : Nat) (m : List (Nat × S26 × S26)) : GoodX n [] m := fun y h => by cases h
theorem GoodX.snoc {n : Nat} {l m : List (Nat × S26 × S26)} {x : Nat × S26 × S26} (h : GoodX n l m) (hs : samePt x.2.1 x.2.2 = false) (hx : NoB n x m) : GoodX n (l ++ [x]) m := fun z hz => by
 rcases List.mem_append.1 hz with h1 | h1
 ·exact h z h1
 ·rw [List.mem_singleton.1 h1]; exact ⟨hs, hx⟩
theorem BadX.last {n : Nat} {l m : List (Nat × S26 × S26)} {x : Nat × S26 × S26} (hx : samePt x.2.1 x.2.2 = true ∨ HasB n x m) : BadX n (l ++ [x]) m := ⟨x, List.mem_append.2 (.inr (List.mem_singleton.2 rfl)), hx⟩
theorem simple_yes {ps : List S26} (h : GoodX ps.length (edgesOf ps) (edgesOf ps)) : simpleP ps = true := by
 unfold simpleP
 rw [List.all_eq_true]
 intro x hx
 obtain ⟨h1, h2⟩ := h x hx
 rw [h1, Bool.not_false, Bool.true_and, List.all_eq_true]
 intro y hy
 rw [h2 y hy]
 rfl
theorem simple_no {ps : List S26} {l : List (Nat × S26 × S26)} (h : BadX ps.length l (edgesOf ps)) (hp : l <+: edgesOf ps) : simpleP ps = false := by
 obtain ⟨x, hx, hc⟩ := h
 rw [← Bool.not_eq_true]
 intro ht
 unfold simpleP at ht
 have h1 := List.all_eq_true.1 ht x (hp.subset hx)
 rw [Bool.and_eq_true] at h1
 rcases hc with hc | ⟨y, hy, hc⟩
 ·rw [hc] at h1; cases h1.1
 ·have h2 := List.all_eq_true.1 h1.2 y hy
  rw [hc] at h2
  cases h2
/-- How a round of simple's inner loop ends. -/
def EndS (w W' : World) (z : Bool) : Exit → Act → World → Prop
 | .normal, _, Wz => Below W'.heap.size W' Wz ∧ z = false
 | .ret, _, Wz => ∃ Wf, Below W'.heap.size W' Wf ∧ z = true ∧ Wz = Wf.setCell ⟨w.heap.size + 1, 0, none⟩ (.bool false)
 | _, _, _ => False
theorem four_new (w : World) (o1 o2 o3 o4 : Obj) : ((((w.alloc o1).alloc o2).alloc o3).alloc o4).heap[w.heap.size]? = some o1 ∧ ((((w.alloc o1).alloc o2).alloc o3).alloc o4).heap[w.heap.size + 1]? = some o2 ∧ ((((w.alloc o1).alloc o2).alloc o3).alloc o4).heap[w.heap.size + 1 + 1]? = some o3 ∧ ((((w.alloc o1).alloc o2).alloc o3).alloc o4).heap[w.heap.size + 1 + 1 + 1]? = some o4 :=
 ⟨(four_boxes w o1 o2 o3 o4).1, (four_boxes w o1 o2 o3 o4).2.1, (four_boxes w o1 o2 o3 o4).2.2.1, (four_boxes w o1 o2 o3 o4).2.2.2.1⟩
theorem simple_calls (A : Option Addr) (c : Nat) (ps : List S26) (w : World) (hC : Kd.C k26 w A ps.length ps) : Calls Try.prog 37 #[.slice A ps.length c] w fun e w' => e = .returned (.bool (simpleP ps)) ∧ Below w.heap.size w w' := by
 have hu26 := Try.underlying26
 have hu53 := Try.underlying53
 have HC := Aside0.mk hC
 have HM := Aside0.mk (Kd.C_max hC)
 clear hC
 refine (callsIn_wide (n := 9)).1 ?_
 refine callsIn_of_wp_marks Try.func37 rfl trivial ?_ rfl
 simp only [Try.ntmps37, List.size_toArray, List.length_cons, List.length_nil, Nat.reduceAdd, Nat.reduceSub, Array.replicate_succ, Array.replicate_zero, List.push_toArray, List.append_toArray, List.nil_append, List.cons_append]
 refine wpIn_wide.2 ?_
 go_wp2_with (first
  | (go_at_call 43; (with_reducible refine (edges_calls _ _ _ _).mono ?_); rintro e w3 ⟨rfl, rfl⟩)
  | fail)
 refine (wpIn_wide (n := 9)).1 ?_
 have h3 := four_new w (.cells #[.slice A ps.length c] 23) (.cells #[.bool false] 4) (.cells #[.int .i64 (ps.length : Int)] 3) (.cells #[.slice A ps.length c] 23)
 have hB0 := below_alloc (below_alloc (below_alloc (below_alloc (Below.refl w.heap.size w) (.cells #[.slice A ps.length c] 23)) (.cells #[.bool false] 4)) (.cells #[.int .i64 (ps.length : Int)] 3)) (.cells #[.slice A ps.length c] 23)
 have hsz : ((((w.alloc (.cells #[.slice A ps.length c] 23)).alloc (.cells #[.bool false] 4)).alloc (.cells #[.int .i64 (ps.length : Int)] 3)).alloc (.cells #[.slice A ps.length c] 23)).heap.size = w.heap.size + 4 := by simp
 obtain ⟨W0, hW0⟩ : ∃ W0, (((w.alloc (.cells #[.slice A ps.length c] 23)).alloc (.cells #[.bool false] 4)).alloc (.cells #[.int .i64 (ps.length : Int)] 3)).alloc (.cells #[.slice A ps.length c] 23) = W0 := ⟨_, rfl⟩
 rw [hW0] at h3 hB0 hsz ⊢
 clear hW0
 obtain ⟨bQ, bR, bN, bS⟩ := h3
 refine wpIn_rangeFunc_ownH (n := 9) rfl (by omega) (gf := 53) (lb := #[.pointer (some ⟨w.heap.size + 1 + 1 + 1, 0, none⟩)]) rfl trivial (enters_of Try.func53 (by kernel_rfl) rfl)
  (edges_stops 8 (w.heap.size + 1 + 1 + 1) A c ps w W0 HC.out hB0 bS w.heap.size (Nat.le_refl _) (by omega)) KpE.trans (KpE.put (by omega) (by omega)) (Below.refl _ _) (fun _ => rfl)
  (fun pre W => ((((GoodX ps.length pre (edgesOf ps) ∧ Boxed W (w.heap.size + 1) 4 (.bool false)) ∧ Boxed W w.heap.size 23 (.slice A ps.length c)) ∧ Boxed W (w.heap.size + 1 + 1) 3 (.int .i64 (ps.length : Int))) ∧ Boxed W (w.heap.size + 1 + 1 + 1) 23 (.slice A ps.length c)) ∧ Below w.heap.size W0 W)
  (fun cc pre W => ((cc = .ret ∧ BadX ps.length pre (edgesOf ps)) ∧ Boxed W (w.heap.size + 1) 4 (.bool false)) ∧ Below w.heap.size W0 W)
  (OwnFrom.and (OwnFrom.and (OwnFrom.and (OwnFrom.and (OwnFrom.and (ownFrom_pure _ _) (Own.from (boxed_own _ _ _) _)) (Own.from (boxed_own _ _ _) _)) (Own.from (boxed_own _ _ _) _)) (Own.from (boxed_own _ _ _) _)) (ownFrom_below (by omega) (by omega)))
  (fun cc => OwnFrom.and (OwnFrom.and (ownFrom_pure _ _) (Own.from (boxed_own _ _ _) _)) (ownFrom_below (by omega) (by omega)))
  ⟨⟨⟨⟨⟨GoodX.nil _ _, bR⟩, bQ⟩, bN⟩, bS⟩, Below.refl _ _⟩
  (fun x a' W => ∃ Bk Bx, (W0.heap.size ≤ Bk ∧ W0.heap.size ≤ Bx) ∧ (Boxed W Bk 3 (.int .i64 (x.1 : Int)) ∧ W.heap[Bx]? = some (.cells (edCells x) 53 (0, 0))) ∧ a' = { tmps := #[.slice A ps.length c, .pointer (some ⟨w.heap.size, 0, none⟩), .pointer (some ⟨w.heap.size + 1, 0, none⟩), .pointer (some ⟨w.heap.size + 1 + 1, 0, none⟩), .pointer (some ⟨Bk, 0, none⟩), .pointer (some ⟨Bx, 0, none⟩), undef, undef, undef, undef, .slice A ps.length c, .int .i64 (ps.length : Int), .slice A ps.length c, .func (.func 53) #[] #[.pointer (some ⟨w.heap.size + 1 + 1 + 1, 0, none⟩)], .int .i64 (x.1 : Int), .agg (edCells x), undef, undef, undef, undef, undef, undef, undef, undef, undef, undef, undef, undef, undef, undef, undef, undef, undef, undef, undef, undef, undef, undef, undef, undef, undef, undef, undef, undef, undef, undef, undef, undef, undef, undef, undef, undef, undef, undef, undef, undef, undef, undef, undef, undef, undef, undef, undef, undef, undef, undef, undef, undef, undef, undef, undef, undef], defers := [] })
  (fun x a' _ X Y row hs hg hr => by obtain ⟨Bk, Bx, e1, ⟨e0, e2⟩, e3⟩ := hs; exact ⟨Bk, Bx, e1, ⟨boxed_own Bk 3 (fun (_ : Unit) => Value.int .i64 (x.1 : Int)) () X Y row e0 hg (fun r e => (hr r e).2), cells_own Bx 53 (fun (_ : Unit) => edCells x) () X Y row e2 hg (fun r e => (hr r e).2)⟩, e3⟩)
  ?assign ?body ?done ?stop
 case assign =>
  rintro l pre ⟨k, a, b⟩ W K ⟨⟨⟨⟨⟨hp, bR1⟩, bQ1⟩, bN1⟩, bS1⟩, hB⟩ hK
  unfold edEnc
  gi_wp2
  have h2 := blk_new (W.alloc (.cells #[.int .i64 (k : Int)] 3)) (.cells (edCells (k, a, b)) 53)
  rw [World.size_alloc] at h2
  exact hK _ _ (((KeepsOthers.alloc _ _).from _).trans ((KeepsOthers.alloc _ _).from _)) (KpE.below (by have := hB.size; omega) (by have := hB.size; omega) (below_alloc (below_alloc (Below.refl _ _) _) _)) ⟨⟨⟨⟨⟨hp, (bR1.alloc _).alloc _⟩, (bQ1.alloc _).alloc _⟩, (bN1.alloc _).alloc _⟩, (bS1.alloc _).alloc _⟩, (hB.alloc (by have := hB.size; omega) _).alloc (by have := hB.size; simp; omega) _⟩ ⟨W.heap.size, W.heap.size + 1, by have := hB.size; omega, ⟨blk_alloc (blk_new W _) _, h2⟩, rfl⟩
 case body =>
  rintro l pre ⟨k, a, b⟩ a' W hl ⟨r, hr⟩ ⟨⟨⟨⟨⟨hp, bR1⟩, bQ1⟩, bN1⟩, bS1⟩, hB⟩ ⟨Bk, Bx, ⟨hBk, hBx⟩, ⟨bK, bX⟩, rfl⟩ hlt
  have hWs := hB.size
  have cQ := bQ1.cell
  have cR := bR1.cell
  have fR := bR1.frozen
  have bX' := bX
  unfold edCells at bX' ⊢
  dsimp only at bX'
  have cX0 : W.cell? ⟨Bx, 0, none⟩ = some (.int .i64 a.f0) := blk_cell bX' 0
  have cX1 : W.cell? ⟨Bx, 1, none⟩ = some (.int .i64 a.f1) := blk_cell bX' 1
  have cX2 : W.cell? ⟨Bx, 2, none⟩ = some (.int .i64 b.f0) := blk_cell bX' 2
  have cX3 : W.cell? ⟨Bx, 3, none⟩ = some (.int .i64 b.f1) := blk_cell bX' 3
  clear bX'
  have HSZ := Aside0.mk hsz
  clear hsz
  have HSX := Aside0.mk (And.intro hWs (And.intro hBk hBx))
  clear hWs hBk hBx
  cases hs : sameI a.f0 a.f1 b.f0 b.f1 with
  | true =>
   have hfin := bR1.set (.bool false)
   have hset := hB.setCell (p := ⟨w.heap.size + 1, 0, none⟩) (by show w.heap.size ≤ w.heap.size + 1; omega) (.bool false)
   gi_wp2
   exact ⟨(KeepsOthers.setCell _ _ _).from _, ⟨⟨rfl, BadX.last (.inl hs)⟩, hfin⟩, hset⟩
  | false =>
   gi_wp2
   refine ⟨trivial, ?_⟩
   refine (CallsIn.inRound l (callsIn_wide.2 (edges_calls _ _ _ _))).mono ?_
   rintro e w' ⟨rfl, rfl⟩
   gi_wp2
   have bN' := blk_new W (.cells #[.slice A ps.length c] 23)
   have hr' : (W.alloc (.cells #[.slice A ps.length c] 23)).heap[l]? = some (.loop r) := (Below.heap_alloc W _ l (Array.getElem?_eq_some_iff.1 hr).1).trans hr
   have bRi := bR1.alloc (.cells #[.slice A ps.length c] 23)
   have bQi := bQ1.alloc (.cells #[.slice A ps.length c] 23)
   have bNi := bN1.alloc (.cells #[.slice A ps.length c] 23)
   have bSi := bS1.alloc (.cells #[.slice A ps.length c] 23)
   have bKi := bK.alloc (.cells #[.slice A ps.length c] 23)
   have bXi := blk_alloc bX (.cells #[.slice A ps.length c] 23)
   obtain ⟨hWs, hBk, hBx⟩ := HSX.out
   have hsz := HSZ.out
   have hbi : Below w.heap.size W (W.alloc (.cells #[.slice A ps.length c] 23)) := (Below.refl _ W).alloc (by omega) _
   have hki : KeepsFrom W0.heap.size W (W.alloc (.cells #[.slice A ps.length c] 23)) := (KeepsOthers.alloc _ _).from _
   have hsi : (W.alloc (.cells #[.slice A ps.length c] 23)).heap.size = W.heap.size + 1 := by simp
   obtain ⟨WI, hWI⟩ : ∃ WI, W.alloc (.cells #[.slice A ps.length c] 23) = WI := ⟨_, rfl⟩
   rw [hWI] at bN' hr' bRi bQi bNi bSi bKi bXi hbi hki hsi ⊢
   clear hWI cQ cR fR cX0 cX1 cX2 cX3
   refine wpIn_rangeFunc_ownN (n := 9 - 1 - 1) (l₀ := l) (r₀ := r) rfl hr' (by decide) (gf := 53) (lb := #[.pointer (some ⟨W.heap.size, 0, none⟩)]) rfl trivial (enters_of Try.func53 (by kernel_rfl) rfl)
    ((edges_stops (9 - 1 - 1 - 1) W.heap.size A c ps w WI HC.out ((hB0.trans hB).trans hbi) bN' w.heap.size (Nat.le_refl _) (by omega)).inRound l) KpE.trans (KpE.put (by omega) (by omega)) (Below.refl _ _) (fun _ => rfl)
    (fun pre' W' => (((((((NoB ps.length (k, a, b) pre' ∧ Boxed W' (w.heap.size + 1) 4 (.bool false)) ∧ Boxed W' Bk 3 (.int .i64 (k : Int))) ∧ W'.heap[Bx]? = some (.cells (edCells (k, a, b)) 53 (0, 0))) ∧ Boxed W' w.heap.size 23 (.slice A ps.length c)) ∧ Boxed W' (w.heap.size + 1 + 1) 3 (.int .i64 (ps.length : Int))) ∧ Boxed W' (w.heap.size + 1 + 1 + 1) 23 (.slice A ps.length c))) ∧ (Below w.heap.size WI W' ∧ KeepsFrom W0.heap.size WI W'))
    (fun cc pre' W' => ((cc = .ret ∧ HasB ps.length (k, a, b) pre') ∧ Boxed W' (w.heap.size + 1) 4 (.bool false)) ∧ (Below w.heap.size WI W' ∧ KeepsFrom W0.heap.size WI W'))
    (OwnFrom.and (OwnFrom.and (OwnFrom.and (OwnFrom.and (OwnFrom.and (OwnFrom.and (OwnFrom.and (ownFrom_pure _ _) (Own.from (boxed_own _ _ _) _)) (Own.from (boxed_own _ _ _) _)) (Own.from (cells_own Bx 53 (fun _ => edCells (k, a, b))) _)) (Own.from (boxed_own _ _ _) _)) (Own.from (boxed_own _ _ _) _)) (Own.from (boxed_own _ _ _) _)) (OwnFrom.and (ownFrom_below (by omega) (by omega)) (ownFrom_keepsFrom (Nat.le_refl _))))
    (fun cc => OwnFrom.and (OwnFrom.and (ownFrom_pure _ _) (Own.from (boxed_own _ _ _) _)) (OwnFrom.and (ownFrom_below (by omega) (by omega)) (ownFrom_keepsFrom (Nat.le_refl _))))
    ⟨⟨⟨⟨⟨⟨⟨NoB.nil _ _, bRi⟩, bKi⟩, bXi⟩, bQi⟩, bNi⟩, bSi⟩, Below.refl _ _, KeepsFrom.refl _ _⟩
    (fun y a'' W' => ∃ By, WI.heap.size ≤ By ∧ W'.heap[By]? = some (.cells (edCells y) 53 (0, 0)) ∧ a'' = { tmps := #[.slice A ps.length c, .pointer (some ⟨w.heap.size, 0, none⟩), .pointer (some ⟨w.heap.size + 1, 0, none⟩), .pointer (some ⟨w.heap.size + 1 + 1, 0, none⟩), .pointer (some ⟨Bk, 0, none⟩), .pointer (some ⟨Bx, 0, none⟩), .int .i64 (y.1 : Int), .pointer (some ⟨By, 0, none⟩), undef, undef, .slice A ps.length c, .int .i64 (ps.length : Int), .slice A ps.length c, .func (.func 53) #[] #[.pointer (some ⟨w.heap.size + 1 + 1 + 1, 0, none⟩)], .int .i64 (k : Int), .agg #[.int .i64 a.f0, .int .i64 a.f1, .int .i64 b.f0, .int .i64 b.f1], .pointer (some ⟨Bx, 0, none⟩), .agg #[.int .i64 a.f0, .int .i64 a.f1], .pointer (some ⟨Bx, 2, none⟩), .agg #[.int .i64 b.f0, .int .i64 b.f1], .bool false, .slice A ps.length c, .func (.func 53) #[] #[.pointer (some ⟨W.heap.size, 0, none⟩)], .int .i64 (y.1 : Int), .agg (edCells y), undef, undef, undef, undef, undef, undef, undef, undef, undef, undef, undef, undef, undef, undef, undef, undef, undef, undef, undef, undef, undef, undef, undef, undef, undef, undef, undef, undef, undef, undef, undef, undef, undef, undef, undef, undef, undef, undef, undef, undef, undef, undef, undef, undef, undef, undef, undef], defers := [] })
    (fun y a'' _ X Y row hs hg hr => by obtain ⟨By, e1, e2, e3⟩ := hs; exact ⟨By, e1, cells_own By 53 (fun (_ : Unit) => edCells y) () X Y row e2 hg (fun r e => (hr r e).2), e3⟩)
    ?assign2 ?body2 ?done2 ?stop2
   case assign2 =>
    rintro l2 pre' ⟨k', a2, b2⟩ W' K ⟨⟨⟨⟨⟨⟨⟨hq, bR2⟩, bK2⟩, bX2⟩, bQ2⟩, bN2⟩, bS2⟩, hBW, hKF⟩ hK
    have hW's := hBW.size
    unfold edEnc
    gi_wp2
    exact hK _ _ ((KeepsOthers.alloc _ _).from _) (KpE.below (by omega) (by omega) (below_alloc (Below.refl _ _) _)) ⟨⟨⟨⟨⟨⟨⟨hq, bR2.alloc _⟩, bK2.alloc _⟩, blk_alloc bX2 _⟩, bQ2.alloc _⟩, bN2.alloc _⟩, bS2.alloc _⟩, hBW.alloc (by omega) _, hKF.trans ((KeepsOthers.alloc _ _).from _)⟩ ⟨W'.heap.size, by omega, blk_new W' _, rfl⟩
   case body2 =>
    rintro l2 pre' ⟨k', a2, b2⟩ a'' W' hl2 hr2 ⟨⟨⟨⟨⟨⟨⟨hq, bR2⟩, bK2⟩, bX2⟩, bQ2⟩, bN2⟩, bS2⟩, hBW, hKF⟩ ⟨By, hBy, bY, rfl⟩ _
    have hW's := hBW.size
    obtain ⟨z, hz⟩ : ∃ z, badE ps.length (k, a, b) (k', a2, b2) = z := ⟨_, rfl⟩
    refine wpIn_mono (Q := EndS w W' z) ?walk ?conv
    case conv =>
     intro e a3 Wz hE
     cases e with
     | normal =>
      obtain ⟨hb, rfl⟩ := hE
      exact ⟨⟨hb.size, fun z o _ hk _ => (hb.block z (Array.getElem?_eq_some_iff.1 hk).1).trans hk⟩, KpE.below (by omega) (by omega) hb, ⟨⟨⟨⟨⟨⟨NoB.snoc hq hz, blk_below bR2 hb⟩, blk_below bK2 hb⟩, blk_below bX2 hb⟩, blk_below bQ2 hb⟩, blk_below bN2 hb⟩, blk_below bS2 hb⟩, hBW.trans (hb.mono (by omega)), hKF.trans ⟨hb.size, fun z o _ hk _ => (hb.block z (Array.getElem?_eq_some_iff.1 hk).1).trans hk⟩⟩
     | ret =>
      obtain ⟨Wf, hb, rfl, rfl⟩ := hE
      have hR : Boxed Wf (w.heap.size + 1) 4 (.bool false) := blk_below bR2 hb
      have hks : ∀ B, KeepsFrom B W' (Wf.setCell ⟨w.heap.size + 1, 0, none⟩ (.bool false)) := fun B => (show KeepsFrom B W' Wf from ⟨hb.size, fun z o _ hk _ => (hb.block z (Array.getElem?_eq_some_iff.1 hk).1).trans hk⟩).trans ((KeepsOthers.setCell _ _ _).from _)
      exact ⟨hks _, ⟨⟨rfl, HasB.last hz⟩, hR.set _⟩, (hBW.trans (hb.mono (by omega))).setCell (p := ⟨w.heap.size + 1, 0, none⟩) (by show w.heap.size ≤ w.heap.size + 1; omega) _, hKF.trans (hks _)⟩
     | exit => exact hE.elim
     | goto => exact hE.elim
     | panic => exact hE.elim
     | outgrown => exact hE.elim
    have finR : Aside0 (∀ Wf, Below W'.heap.size W' Wf → Wf.cell? ⟨w.heap.size + 1, 0, none⟩ = some (.bool false) ∧ Wf.frozen? ⟨w.heap.size + 1, 0, none⟩ = false) := ⟨fun Wf hb => by
     have hR : Boxed Wf (w.heap.size + 1) 4 (.bool false) := blk_below bR2 hb
     exact ⟨hR.cell, hR.frozen⟩⟩
    unfold edCells at bX2 bY ⊢
    dsimp only at bX2 bY
    have kx0 : W'.cell? ⟨Bx, 0, none⟩ = some (.int .i64 a.f0) := blk_cell bX2 0
    have kx1 : W'.cell? ⟨Bx, 1, none⟩ = some (.int .i64 a.f1) := blk_cell bX2 1
    have kx2 : W'.cell? ⟨Bx, 2, none⟩ = some (.int .i64 b.f0) := blk_cell bX2 2
    have kx3 : W'.cell? ⟨Bx, 3, none⟩ = some (.int .i64 b.f1) := blk_cell bX2 3
    have ky0 : W'.cell? ⟨By, 0, none⟩ = some (.int .i64 a2.f0) := blk_cell bY 0
    have ky1 : W'.cell? ⟨By, 1, none⟩ = some (.int .i64 a2.f1) := blk_cell bY 1
    have ky2 : W'.cell? ⟨By, 2, none⟩ = some (.int .i64 b2.f0) := blk_cell bY 2
    have ky3 : W'.cell? ⟨By, 3, none⟩ = some (.int .i64 b2.f1) := blk_cell bY 3
    have ck := bK2.cell
    have cn := bN2.cell
    have HXY := Aside0.mk (And.intro bX2 bY)
    have HWS := Aside0.mk (And.intro hsz (And.intro hWs (And.intro hsi (And.intro hW's (And.intro hBk (And.intro hBx hBy))))))
    clear hsz hWs hsi hW's hBk hBx hBy bX2 bY bK2 bN2 bR2 bQ2 bS2 hq hBW hKF bRi bQi bNi bSi bKi bXi hbi hki bN' hr' hl2 hr2 hB0 bQ bR bN bS bR1 bQ1 bN1 bS1 hB bK bX hp hl hr hlt
    obtain ⟨i, hi⟩ : ∃ i : Int, (k : Int) = i := ⟨_, rfl⟩
    obtain ⟨j, hj⟩ : ∃ j : Int, (k' : Int) = j := ⟨_, rfl⟩
    obtain ⟨m, hm⟩ : ∃ m : Int, (ps.length : Int) = m := ⟨_, rfl⟩
    have hbE : Aside0 (z = (if j ≤ i then false else if j = wrap64 (i + 1) then hasP a b b2 || hasP a2 b2 a else if i = 0 ∧ j = wrap64 (m - 1) then hasP a2 b2 b || hasP a b a2 else crossP a b a2 b2)) := ⟨by rw [← hz, ← hi, ← hj, ← hm]; rfl⟩
    dsimp only
    rw [hi] at ck ⊢
    rw [hm] at cn ⊢
    rw [hj]
    clear hi hj hm hz
    by_cases hA : j ≤ i
    ·have hz0 : z = false := by rw [hbE.out, if_pos hA]
     have HZ := Aside0.mk hz0
     clear hz0
     gi_wp2
     exact ⟨Below.refl _ _, HZ.out⟩
    ·by_cases hB' : j = wrap64 (i + 1)
     ·have hz0 : z = (hasP a b b2 || hasP a2 b2 a) := by rw [hbE.out, if_neg hA, if_pos hB']
      have HZ := Aside0.mk hz0
      clear hz0 hbE
      subst hB'
      gi_wp2
      refine regionIn_box2 (r := (some l2)) (n := 5) (by kernel_rfl) (by kernel_rfl) (by kernel_rfl) anyR (fun _ _ _ => trivial) (fun base => base[5]? = some (.pointer (some ⟨Bx, 0, none⟩)) ∧ base[7]? = some (.pointer (some ⟨By, 0, none⟩))) [.sure 44 (fun _ v => v = .agg #[.int .i64 a.f0, .int .i64 a.f1, .int .i64 b.f0, .int .i64 b.f1]), .sure 45 (fun _ v => v = .agg #[.int .i64 a2.f0, .int .i64 a2.f1, .int .i64 b2.f0, .int .i64 b2.f1]), .box 8 53 zo53 (fun _ cs => cs = #[.int .i64 a.f0, .int .i64 a.f1, .int .i64 b.f0, .int .i64 b.f1]), .box 9 53 zo53 (fun _ cs => cs = #[.int .i64 a2.f0, .int .i64 a2.f1, .int .i64 b2.f0, .int .i64 b2.f1]), .put 2 8 53 zo53 (fun _ cs => cs = #[.int .i64 a.f0, .int .i64 a.f1, .int .i64 b.f0, .int .i64 b.f1]), .put 3 9 53 zo53 (fun _ cs => cs = #[.int .i64 a2.f0, .int .i64 a2.f1, .int .i64 b2.f0, .int .i64 b2.f1])] [44, 45, 8, 9] rfl ?hB (by kernel_rfl) (by kernel_rfl) (by decide) (by kernel_rfl) ?hks ?hdone
      case hks =>
       refine ⟨⟨(fun _ _ _ _ h => h), sm12_s0 rfl rfl rfl (nin (by rfl)) (fun _ h => h.1) kx0 kx1 kx2 kx3⟩, ?_⟩
       refine ⟨⟨(fun _ _ _ _ h => h), sm12_s1 rfl rfl rfl (nin (by rfl)) (fun _ h => h.2) ky0 ky1 ky2 ky3⟩, ?_⟩
       refine ⟨⟨fun _ _ _ _ h => h, rfl, rfl, box53 rfl rfl⟩, ?_⟩
       refine ⟨⟨fun _ _ _ _ h => h, rfl, rfl, box53 rfl rfl⟩, ?_⟩
       refine ⟨⟨rfl, rfl, by decide, put_53 rfl rfl (j := 0) (by decide) rfl rfl (by decide) (fun w v h => ⟨_, _, _, _, h, fun _ => rfl⟩)⟩, ?_⟩
       refine ⟨⟨rfl, rfl, by decide, put_53 rfl rfl (j := 1) (by decide) rfl rfl (by decide) (fun w v h => ⟨_, _, _, _, h, fun _ => rfl⟩)⟩, ?_⟩
       exact trivial
      case hB => exact ⟨rfl, rfl⟩
      case hdone =>
       intro G vs W3 hnd hv hb3
       obtain ⟨v0, vs1, rfl, rfl, hv1⟩ := hv.sure_
       obtain ⟨v1, vs2, rfl, rfl, hv2⟩ := hv1.sure_
       obtain ⟨vs3, rfl, ge8, ⟨cs8, cb8, cc8⟩, hv3⟩ := hv2.box_
       obtain ⟨vs4, rfl, ge9, ⟨cs9, cb9, cc9⟩, hv4⟩ := hv3.box_
       have hv5 := hv4.put_
       have hv6 := hv5.put_
       obtain rfl := hv6.nil_
       clear hv hv1 hv2 hv3 hv4 hv5 hv6
       obtain ⟨g8, hg8⟩ : ∃ g, G 8 = g := ⟨_, rfl⟩
       obtain ⟨g9, hg9⟩ : ∃ g, G 9 = g := ⟨_, rfl⟩
       have hne : g9 ≠ g8 := by
        simp only [bslots, List.map_cons, List.map_nil, hg8, hg9] at hnd
        intro e
        rw [e] at hnd
        simp at hnd
       rw [hg8] at cb8 ge8
       rw [hg9] at cb9 ge9
       subst cc8 cc9
       simp only [laid, overlay, List.zipWith_cons_cons, List.zipWith_nil_left, List.zipWith_nil_right, List.foldl_cons, List.foldl_nil, List.setIfInBounds_toArray, List.set_cons_zero, List.set_cons_succ, List.drop_succ_cons, List.drop_zero, hg8, hg9]
       have HB3 := Aside0.mk hb3
       have qx0 := pw_cell_below hb3 kx0
       have qx1 := pw_cell_below hb3 kx1
       have qx2 := pw_cell_below hb3 kx2
       have qx3 := pw_cell_below hb3 kx3
       have qy0 := pw_cell_below hb3 ky0
       have qy1 := pw_cell_below hb3 ky1
       have qy2 := pw_cell_below hb3 ky2
       have qy3 := pw_cell_below hb3 ky3
       have qck := pw_cell_below hb3 ck
       clear hnd hg8 hg9 hb3 kx0 kx1 kx2 kx3 ky0 ky1 ky2 ky3 ck cn
       have n8_0 : W3.cell? ⟨g8, 0, none⟩ = some (.int .i64 a.f0) := blk_cell cb8 0
       have n8_1 : W3.cell? ⟨g8, 1, none⟩ = some (.int .i64 a.f1) := blk_cell cb8 1
       have n8_2 : W3.cell? ⟨g8, 2, none⟩ = some (.int .i64 b.f0) := blk_cell cb8 2
       have n8_3 : W3.cell? ⟨g8, 3, none⟩ = some (.int .i64 b.f1) := blk_cell cb8 3
       have n9_0 : W3.cell? ⟨g9, 0, none⟩ = some (.int .i64 a2.f0) := blk_cell cb9 0
       have n9_1 : W3.cell? ⟨g9, 1, none⟩ = some (.int .i64 a2.f1) := blk_cell cb9 1
       have n9_2 : W3.cell? ⟨g9, 2, none⟩ = some (.int .i64 b2.f0) := blk_cell cb9 2
       have n9_3 : W3.cell? ⟨g9, 3, none⟩ = some (.int .i64 b2.f1) := blk_cell cb9 3
       have HB5 := HB3
       clear cb8 cb9 HB3 qx0 qx1 qx2 qx3 qy0 qy1 qy2 qy3 hne ge8 ge9
       gi_wp2
       refine ⟨trivial, ?_⟩
       refine (CallsIn.inRound l2 (callsIn_wide.2 (has_calls a b b2 _))).mono ?_
       rintro e W6 ⟨rfl, hb6⟩
       have HB6 := Aside0.mk (below_step HB5.out hb6)
       have m8_0 := pw_cell_below hb6 n8_0
       have m8_1 := pw_cell_below hb6 n8_1
       have m9_0 := pw_cell_below hb6 n9_0
       have m9_1 := pw_cell_below hb6 n9_1
       have m9_2 := pw_cell_below hb6 n9_2
       have m9_3 := pw_cell_below hb6 n9_3
       clear hb6 n8_0 n8_1 n8_2 n8_3 n9_0 n9_1 n9_2 n9_3 HB5
       cases h1 : hasP a b b2 with
       | true =>
        have HR := Aside0.mk (show z = true by rw [HZ.out, h1]; rfl)
        obtain ⟨cR, fR⟩ := finR.out W6 HB6.out
        gi_wp2
        refine ⟨trivial, ?_⟩
        gi_wp2
        exact ⟨W6, HB6.out, HR.out, rfl⟩
       | false =>
        gi_wp2
        refine ⟨trivial, ?_⟩
        refine (CallsIn.inRound l2 (callsIn_wide.2 (has_calls a2 b2 a _))).mono ?_
        rintro e W7 ⟨rfl, hb7⟩
        have HB7 := Aside0.mk (below_step HB6.out hb7)
        clear hb7 m8_0 m8_1 m9_0 m9_1 m9_2 m9_3 HB6
        cases h2 : hasP a2 b2 a with
        | true =>
         have HR := Aside0.mk (show z = true by rw [HZ.out, h1, h2]; rfl)
         obtain ⟨cR, fR⟩ := finR.out W7 HB7.out
         gi_wp2
         exact ⟨W7, HB7.out, HR.out, rfl⟩
        | false =>
         have HR := Aside0.mk (show z = false by rw [HZ.out, h1, h2]; rfl)
         gi_wp2
         exact ⟨HB7.out, HR.out⟩
     ·by_cases hC' : i = 0 ∧ j = wrap64 (m - 1)
      ·obtain ⟨hC0, hC1⟩ := hC'
       have hz0 : z = (hasP a2 b2 b || hasP a b a2) := by rw [hbE.out, if_neg hA, if_neg hB', if_pos ⟨hC0, hC1⟩]
       have HZ := Aside0.mk hz0
       clear hz0 hbE
       subst hC0 hC1
       rw [show wrap64 (0 + 1) = 1 from Go.IntWalk.wrap64_in 1 (by omega)] at hB'
       gi_wp2
       refine regionIn_box2 (r := (some l2)) (n := 5) (by kernel_rfl) (by kernel_rfl) (by kernel_rfl) anyR (fun _ _ _ => trivial) (fun base => base[5]? = some (.pointer (some ⟨Bx, 0, none⟩)) ∧ base[7]? = some (.pointer (some ⟨By, 0, none⟩))) [.sure 44 (fun _ v => v = .agg #[.int .i64 a.f0, .int .i64 a.f1, .int .i64 b.f0, .int .i64 b.f1]), .sure 45 (fun _ v => v = .agg #[.int .i64 a2.f0, .int .i64 a2.f1, .int .i64 b2.f0, .int .i64 b2.f1]), .box 8 53 zo53 (fun _ cs => cs = #[.int .i64 a.f0, .int .i64 a.f1, .int .i64 b.f0, .int .i64 b.f1]), .box 9 53 zo53 (fun _ cs => cs = #[.int .i64 a2.f0, .int .i64 a2.f1, .int .i64 b2.f0, .int .i64 b2.f1]), .put 2 8 53 zo53 (fun _ cs => cs = #[.int .i64 a.f0, .int .i64 a.f1, .int .i64 b.f0, .int .i64 b.f1]), .put 3 9 53 zo53 (fun _ cs => cs = #[.int .i64 a2.f0, .int .i64 a2.f1, .int .i64 b2.f0, .int .i64 b2.f1])] [44, 45, 8, 9] rfl ?hB (by kernel_rfl) (by kernel_rfl) (by decide) (by kernel_rfl) ?hks ?hdone
       case hks =>
        refine ⟨⟨(fun _ _ _ _ h => h), sm12_s0 rfl rfl rfl (nin (by rfl)) (fun _ h => h.1) kx0 kx1 kx2 kx3⟩, ?_⟩
        refine ⟨⟨(fun _ _ _ _ h => h), sm12_s1 rfl rfl rfl (nin (by rfl)) (fun _ h => h.2) ky0 ky1 ky2 ky3⟩, ?_⟩
        refine ⟨⟨fun _ _ _ _ h => h, rfl, rfl, box53 rfl rfl⟩, ?_⟩
        refine ⟨⟨fun _ _ _ _ h => h, rfl, rfl, box53 rfl rfl⟩, ?_⟩
        refine ⟨⟨rfl, rfl, by decide, put_53 rfl rfl (j := 0) (by decide) rfl rfl (by decide) (fun w v h => ⟨_, _, _, _, h, fun _ => rfl⟩)⟩, ?_⟩
        refine ⟨⟨rfl, rfl, by decide, put_53 rfl rfl (j := 1) (by decide) rfl rfl (by decide) (fun w v h => ⟨_, _, _, _, h, fun _ => rfl⟩)⟩, ?_⟩
        exact trivial
       case hB => exact ⟨rfl, rfl⟩
       case hdone =>
        intro G vs W3 hnd hv hb3
        obtain ⟨v0, vs1, rfl, rfl, hv1⟩ := hv.sure_
        obtain ⟨v1, vs2, rfl, rfl, hv2⟩ := hv1.sure_
        obtain ⟨vs3, rfl, ge8, ⟨cs8, cb8, cc8⟩, hv3⟩ := hv2.box_
        obtain ⟨vs4, rfl, ge9, ⟨cs9, cb9, cc9⟩, hv4⟩ := hv3.box_
        have hv5 := hv4.put_
        have hv6 := hv5.put_
        obtain rfl := hv6.nil_
        clear hv hv1 hv2 hv3 hv4 hv5 hv6
        obtain ⟨g8, hg8⟩ : ∃ g, G 8 = g := ⟨_, rfl⟩
        obtain ⟨g9, hg9⟩ : ∃ g, G 9 = g := ⟨_, rfl⟩
        have hne : g9 ≠ g8 := by
         simp only [bslots, List.map_cons, List.map_nil, hg8, hg9] at hnd
         intro e
         rw [e] at hnd
         simp at hnd
        rw [hg8] at cb8 ge8
        rw [hg9] at cb9 ge9
        subst cc8 cc9
        simp only [laid, overlay, List.zipWith_cons_cons, List.zipWith_nil_left, List.zipWith_nil_right, List.foldl_cons, List.foldl_nil, List.setIfInBounds_toArray, List.set_cons_zero, List.set_cons_succ, List.drop_succ_cons, List.drop_zero, hg8, hg9]
        have HB3 := Aside0.mk hb3
        have qx0 := pw_cell_below hb3 kx0
        have qx1 := pw_cell_below hb3 kx1
        have qx2 := pw_cell_below hb3 kx2
        have qx3 := pw_cell_below hb3 kx3
        have qy0 := pw_cell_below hb3 ky0
        have qy1 := pw_cell_below hb3 ky1
        have qy2 := pw_cell_below hb3 ky2
        have qy3 := pw_cell_below hb3 ky3
        have qck := pw_cell_below hb3 ck
        clear hnd hg8 hg9 hb3 kx0 kx1 kx2 kx3 ky0 ky1 ky2 ky3 ck cn
        gi_wp2
        have bx3 := blk_below HXY.out.1 HB3.out
        have by3 := blk_below HXY.out.2 HB3.out
        have lx := (Array.getElem?_eq_some_iff.1 HXY.out.1).1
        have ly := (Array.getElem?_eq_some_iff.1 HXY.out.2).1
        refine sm14 (r := some l2) (n := 5) (a := a) (b := b) (a2 := a2) (b2 := b2) (Bx := Bx) (By := By) (g8 := g8) (g9 := g9) _ _ _ _ rfl (by kernel_rfl) (by kernel_rfl) rfl rfl rfl rfl rfl rfl rfl rfl rfl rfl rfl rfl (by decide) (by decide) (by decide) rfl rfl rfl rfl rfl bx3 by3 cb8 cb9 hne (by omega) (by omega) (by omega) (by omega) ?_
        intro W5 c8 c9 hb5
        have HB5 := Aside0.mk (HB3.out.trans (hb5 _ ge8 ge9))
        simp only [laid, overlay, List.zipWith_cons_cons, List.zipWith_nil_left, List.zipWith_nil_right, List.foldl_cons, List.foldl_nil, List.setIfInBounds_toArray, List.set_cons_zero, List.set_cons_succ, List.drop_succ_cons, List.drop_zero]
        clear hb5 HB3 cb8 cb9 bx3 by3 lx ly qx0 qx1 qx2 qx3 qy0 qy1 qy2 qy3 hne ge8 ge9
        have n8_0 : W5.cell? ⟨g8, 0, none⟩ = some (.int .i64 a2.f0) := blk_cell c8 0
        have n8_1 : W5.cell? ⟨g8, 1, none⟩ = some (.int .i64 a2.f1) := blk_cell c8 1
        have n8_2 : W5.cell? ⟨g8, 2, none⟩ = some (.int .i64 b2.f0) := blk_cell c8 2
        have n8_3 : W5.cell? ⟨g8, 3, none⟩ = some (.int .i64 b2.f1) := blk_cell c8 3
        have n9_0 : W5.cell? ⟨g9, 0, none⟩ = some (.int .i64 a.f0) := blk_cell c9 0
        have n9_1 : W5.cell? ⟨g9, 1, none⟩ = some (.int .i64 a.f1) := blk_cell c9 1
        have n9_2 : W5.cell? ⟨g9, 2, none⟩ = some (.int .i64 b.f0) := blk_cell c9 2
        have n9_3 : W5.cell? ⟨g9, 3, none⟩ = some (.int .i64 b.f1) := blk_cell c9 3
        clear c8 c9
        gi_wp2
        refine ⟨trivial, ?_⟩
        refine (CallsIn.inRound l2 (callsIn_wide.2 (has_calls a2 b2 b _))).mono ?_
        rintro e W6 ⟨rfl, hb6⟩
        have HB6 := Aside0.mk (below_step HB5.out hb6)
        have m8_0 := pw_cell_below hb6 n8_0
        have m8_1 := pw_cell_below hb6 n8_1
        have m9_0 := pw_cell_below hb6 n9_0
        have m9_1 := pw_cell_below hb6 n9_1
        have m9_2 := pw_cell_below hb6 n9_2
        have m9_3 := pw_cell_below hb6 n9_3
        clear hb6 n8_0 n8_1 n8_2 n8_3 n9_0 n9_1 n9_2 n9_3 HB5
        cases h1 : hasP a2 b2 b with
        | true =>
         have HR := Aside0.mk (show z = true by rw [HZ.out, h1]; rfl)
         obtain ⟨cR, fR⟩ := finR.out W6 HB6.out
         gi_wp2
         refine ⟨trivial, ?_⟩
         gi_wp2
         exact ⟨W6, HB6.out, HR.out, rfl⟩
        | false =>
         gi_wp2
         refine ⟨trivial, ?_⟩
         refine (CallsIn.inRound l2 (callsIn_wide.2 (has_calls a b a2 _))).mono ?_
         rintro e W7 ⟨rfl, hb7⟩
         have HB7 := Aside0.mk (below_step HB6.out hb7)
         clear hb7 m8_0 m8_1 m9_0 m9_1 m9_2 m9_3 HB6
         cases h2 : hasP a b a2 with
         | true =>
          have HR := Aside0.mk (show z = true by rw [HZ.out, h1, h2]; rfl)
          obtain ⟨cR, fR⟩ := finR.out W7 HB7.out
          gi_wp2
          exact ⟨W7, HB7.out, HR.out, rfl⟩
         | false =>
          have HR := Aside0.mk (show z = false by rw [HZ.out, h1, h2]; rfl)
          gi_wp2
          exact ⟨HB7.out, HR.out⟩
      ·have hz0 : z = crossP a b a2 b2 := by rw [hbE.out, if_neg hA, if_neg hB', if_neg hC']
       have HZ := Aside0.mk hz0
       clear hz0 hbE
       by_cases hC0 : i = 0
       ·have hC1 : ¬ j = wrap64 (m - 1) := fun h => hC' ⟨hC0, h⟩
        clear hC'
        subst hC0
        rw [show wrap64 (0 + 1) = 1 from Go.IntWalk.wrap64_in 1 (by omega)] at hB'
        have hq1 : (j == 1) = false := beq_eq_false_iff_ne.mpr hB'
        have hq2 : (j == wrap64 (m - 1)) = false := beq_eq_false_iff_ne.mpr hC1
        gi_wp2
        refine ⟨trivial, ?_⟩
        refine (CallsIn.inRound l2 (callsIn_wide.2 (cross_calls a b a2 b2 _))).mono ?_
        rintro e W6 ⟨rfl, hb6⟩
        have HB6 := Aside0.mk hb6
        clear hb6 kx0 kx1 kx2 kx3 ky0 ky1 ky2 ky3 ck cn
        cases h1 : crossP a b a2 b2 with
        | true =>
         have HR := Aside0.mk (show z = true by rw [HZ.out, h1])
         obtain ⟨cR, fR⟩ := finR.out W6 HB6.out
         gi_wp2
         exact ⟨W6, HB6.out, HR.out, rfl⟩
        | false =>
         have HR := Aside0.mk (show z = false by rw [HZ.out, h1])
         gi_wp2
         exact ⟨HB6.out, HR.out⟩
       ·clear hC'
        gi_wp2
        refine ⟨trivial, ?_⟩
        refine (CallsIn.inRound l2 (callsIn_wide.2 (cross_calls a b a2 b2 _))).mono ?_
        rintro e W6 ⟨rfl, hb6⟩
        have HB6 := Aside0.mk hb6
        clear hb6 kx0 kx1 kx2 kx3 ky0 ky1 ky2 ky3 ck cn
        cases h1 : crossP a b a2 b2 with
        | true =>
         have HR := Aside0.mk (show z = true by rw [HZ.out, h1])
         obtain ⟨cR, fR⟩ := finR.out W6 HB6.out
         gi_wp2
         exact ⟨W6, HB6.out, HR.out, rfl⟩
        | false =>
         have HR := Aside0.mk (show z = false by rw [HZ.out, h1])
         gi_wp2
         exact ⟨HB6.out, HR.out⟩
   case done2 =>
    rintro ys' W' rfl ⟨⟨⟨⟨⟨⟨⟨hq, bR2⟩, bK2⟩, bX2⟩, bQ2⟩, bN2⟩, bS2⟩, hBW, hKF⟩
    clear hsz hsi
    gi_wp2
    exact ⟨hki.trans hKF, ⟨hbi.trans hBW, boxed_eq bS1 bS2⟩, ⟨⟨⟨⟨GoodX.snoc hp hs hq, bR2⟩, bQ2⟩, bN2⟩, bS2⟩, (hB.trans hbi).trans hBW⟩
   case stop2 =>
    rintro cc pre' W' hpre ⟨⟨⟨rfl, hc⟩, bR2⟩, hBW, hKF⟩
    clear hsz hsi
    gi_wp2
    exact ⟨hki.trans hKF, ⟨⟨rfl, BadX.last (.inr (hc.pre hpre))⟩, bR2⟩, (hB.trans hbi).trans hBW⟩
 case done =>
  rintro D ys W hD rfl ⟨⟨⟨⟨⟨hp, bR1⟩, bQ1⟩, bN1⟩, bS1⟩, hB⟩ hK
  have cR := bR1.cell
  have fR := bR1.frozen
  have hK' := (KeepsOthers.setCell W ⟨w.heap.size + 1, 0, none⟩ (.bool true)).same D _ hK rfl
  have hc5 := cell_kept (bR1.set (.bool true)).cell (grownBy_putObj' _ D (.deferred none)) (fun r e => by cases e; exact ⟨_, hK', rfl⟩)
  have hfin := ((hB0.trans hB).setCell (p := ⟨w.heap.size + 1, 0, none⟩) (by show w.heap.size ≤ w.heap.size + 1; omega) (.bool true)).trans (belowK_b (w := w) (Nat.le_refl _) _ D _ (.deferred none) (by omega) hK' rfl rfl)
  go_wp2
  refine ⟨by simp, .inl ⟨_, _, rfl, run_takeDeferred hK', ?_⟩⟩
  refine ⟨.bool true, ?_, ?_, hfin⟩
  ·simp [results, Try.f37, go_sem, hc5]
  ·rw [simple_yes hp]
 case stop =>
  rintro D cc pre W hD hpre ⟨⟨⟨rfl, hc⟩, bR1⟩, hB⟩ hK
  have hc5 := cell_kept bR1.cell (grownBy_putObj' _ D (.deferred none)) (fun r e => by cases e; exact ⟨_, hK, rfl⟩)
  have hfin := (hB0.trans hB).trans (belowK_b (w := w) (Nat.le_refl _) _ D _ (.deferred none) (by omega) hK rfl rfl)
  refine wpIn_wide.2 ?_
  go_wp2
  refine ⟨by simp, .inl ⟨_, _, rfl, run_takeDeferred hK, ?_⟩⟩
  refine ⟨.bool false, ?_, ?_, hfin⟩
  ·simp [results, Try.f37, go_sem, hc5]
  ·rw [simple_no hc hpre]
end Go.Proofs.Ytjmkccabpnigiaa.P
