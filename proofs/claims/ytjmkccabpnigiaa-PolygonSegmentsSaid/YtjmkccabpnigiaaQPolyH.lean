import Derived.Test.YtjmkccabpnigiaaQPolyG
import Derived.Shelf.Abstract
namespace Go.Proofs.Ytjmkccabpnigiaa.P
open Go.RowKit Go.Proofs.YtjmkccabpnigiaaW.PrintWords Go.Proofs.YtjmkccabpnigiaaW.PrintLast Go.Proofs.YtjmkccabpnigiaaW.PrintMore
attribute [local go_sem] max2_int min2_int max_two min_two max_three min_three max_four min_four
set_option linter.unusedVariables false
set_option linter.unusedSimpArgs false
attribute [local go_sem] Oper.semAt_some
theorem cells_own {β : Type} (B t : Nat) (f : β → Array Value) : Own (fun s W => W.heap[B]? = some (.cells (f s) t (0, 0))) := fun s X Y row hs hg hrow =>
 (hg.block B (Array.getElem?_eq_some_iff.1 (show X.heap[B]? = some (.cells (f s) t (0, 0)) from hs)).1 (fun e => by
  obtain ⟨o, ho, hc⟩ := hrow B e.symm
  rw [show X.heap[B]? = some (.cells (f s) t (0, 0)) from hs] at ho
  cases ho
  cases hc)).trans hs
/-- The cells of an edge. -/
def edCells (x : Nat × S26 × S26) : Array Value := #[.int .i64 x.2.1.f0, .int .i64 x.2.1.f1, .int .i64 x.2.2.f0, .int .i64 x.2.2.f1]
def twStep (s : Int) (x : Nat × S26 × S26) : Int := wrap64 (s + wrap64 (wrap64 (x.2.1.f0 * x.2.2.f1) - wrap64 (x.2.2.f0 * x.2.1.f1)))
def twiceP (ps : List S26) : Int := (edgesOf ps).foldl twStep 0
set_option maxRecDepth 100000 in
set_option maxHeartbeats 4000000 in
theorem twice_calls (A : Option Addr) (c : Nat) (ps : List S26) (w : World) (hC : Kd.C k26 w A ps.length ps) : Calls Try.prog 28 #[.slice A ps.length c] w fun e w' => e = .returned (.int .i64 (twiceP ps)) ∧ Below w.heap.size w w' := by
 have hu26 := Try.underlying26
 have hu53 := Try.underlying53
 have HC := Aside0.mk hC
 clear hC
 refine (callsIn_wide (n := 5)).1 ?_
 refine callsIn_of_wp_marks Try.func28 rfl trivial ?_ rfl
 simp only [Try.ntmps28, List.size_toArray, List.length_cons, List.length_nil, Nat.reduceAdd, Nat.reduceSub, Array.replicate_succ, Array.replicate_zero, List.push_toArray, List.append_toArray, List.nil_append, List.cons_append]
 refine wpIn_wide.2 ?_
 go_wp2_with (first
  | (go_at_call 43; (with_reducible refine (edges_calls _ _ _ _).mono ?_); rintro e w3 ⟨rfl, rfl⟩)
  | fail)
 refine (wpIn_wide (n := 5)).1 ?_
 have b3 := blk_alloc (blk_new w (.cells #[.int .i64 0] 3)) (.cells #[.slice A ps.length c] 23)
 have bs := blk_new (w.alloc (.cells #[.int .i64 0] 3)) (.cells #[.slice A ps.length c] 23)
 rw [World.size_alloc] at bs
 have hB0 := below_alloc (below_alloc (Below.refl w.heap.size w) (.cells #[.int .i64 0] 3)) (.cells #[.slice A ps.length c] 23)
 have hsz : ((w.alloc (.cells #[.int .i64 0] 3)).alloc (.cells #[.slice A ps.length c] 23)).heap.size = w.heap.size + 2 := by simp
 obtain ⟨W0, hW0⟩ : ∃ W0, (w.alloc (.cells #[.int .i64 0] 3)).alloc (.cells #[.slice A ps.length c] 23) = W0 := ⟨_, rfl⟩
 rw [hW0] at b3 bs hB0 hsz ⊢
 clear hW0
 refine wpIn_rangeFunc_ownH (n := 5) rfl (by omega) (gf := 53) (lb := #[.pointer (some ⟨w.heap.size + 1, 0, none⟩)]) rfl trivial (enters_of Try.func53 (by kernel_rfl) rfl)
  (edges_stops 4 (w.heap.size + 1) A c ps w W0 HC.out hB0 bs w.heap.size (Nat.le_refl _) (by omega)) KpE.trans (KpE.put (by omega) (by omega)) (Below.refl _ _) (fun _ => rfl)
  (fun pre W => Boxed W w.heap.size 3 (.int .i64 (pre.foldl twStep 0)) ∧ Below w.heap.size W0 W)
  (fun _ _ _ => False)
  (OwnFrom.and (Own.from (boxed_own w.heap.size 3 (fun pre : List (Nat × S26 × S26) => Value.int .i64 (pre.foldl twStep 0))) _) (ownFrom_below (by omega) (by omega)))
  (fun _ _ _ _ _ hs _ _ => hs)
  ⟨b3, Below.refl _ _⟩
  (fun x a' W => ∃ Bx, W0.heap.size ≤ Bx ∧ W.heap[Bx]? = some (.cells (edCells x) 53 (0, 0)) ∧ a' = { tmps := #[.slice A ps.length c, undef, .int .i64 0, .pointer (some ⟨w.heap.size, 0, none⟩), undef, .pointer (some ⟨Bx, 0, none⟩), .slice A ps.length c, .func (.func 53) #[] #[.pointer (some ⟨w.heap.size + 1, 0, none⟩)], .int .i64 (x.1 : Int), .agg (edCells x), undef, undef, undef, undef, undef, undef, undef, undef, undef, undef, undef, undef, undef, undef, undef, undef, undef, undef], defers := [] })
  (fun x a' _ X Y row hs hg hr => by obtain ⟨Bx, e1, e2, e3⟩ := hs; exact ⟨Bx, e1, cells_own Bx 53 (fun (_ : Unit) => edCells x) () X Y row e2 hg (fun r e => (hr r e).2), e3⟩)
  ?assign ?body ?done ?stop
 case assign =>
  rintro l pre ⟨k, a, b⟩ W K ⟨hp, hB⟩ hK
  unfold edEnc
  gi_wp2
  refine hK _ _ ((KeepsOthers.alloc _ _).from _) (KpE.below (by have := hB.size; omega) (by have := hB.size; omega) (below_alloc (Below.refl _ _) _)) ⟨hp.alloc _, hB.alloc (by have := hB.size; omega) _⟩ ⟨W.heap.size, by have := hB.size; omega, blk_new W _, rfl⟩
 case body =>
  rintro l pre ⟨k, a, b⟩ a' W hl ⟨r, hr⟩ ⟨bN, hB⟩ ⟨Bx, hBx, bX, rfl⟩ hlt
  obtain ⟨s, hs⟩ : ∃ s, pre.foldl twStep 0 = s := ⟨_, rfl⟩
  rw [hs] at bN
  unfold edCells at bX
  dsimp only at bX
  have cN := bN.cell
  have fN := bN.frozen
  have cX0 : W.cell? ⟨Bx, 0, none⟩ = some (.int .i64 a.f0) := blk_cell bX 0
  have cX1 : W.cell? ⟨Bx, 1, none⟩ = some (.int .i64 a.f1) := blk_cell bX 1
  have cX2 : W.cell? ⟨Bx, 2, none⟩ = some (.int .i64 b.f0) := blk_cell bX 2
  have cX3 : W.cell? ⟨Bx, 3, none⟩ = some (.int .i64 b.f1) := blk_cell bX 3
  have hfin := bN.set (.int .i64 (twStep s (k, a, b)))
  unfold edCells
  gi_wp2
  refine ⟨(KeepsOthers.setCell _ _ _).from _, ⟨(Below.refl w.heap.size W).setCell (p := ⟨w.heap.size, 0, none⟩) (Nat.le_refl _) _, Below.heap_setCell _ _ _ _ (by show w.heap.size + 1 ≠ w.heap.size; omega)⟩, ?_, hB.setCell (p := ⟨w.heap.size, 0, none⟩) (Nat.le_refl _) _⟩
  rw [List.foldl_append, hs]
  exact hfin
 case done =>
  rintro D ys W hD rfl ⟨bN, hB⟩ hK
  have cN := bN.cell
  have hfin := (hB0.trans hB).trans (belowK_b (w := w) (Nat.le_refl _) W D _ (.deferred none) (by omega) hK rfl rfl)
  go_wp2
  refine ⟨by simp, .inl ⟨_, _, rfl, run_takeDeferred hK, ?_⟩⟩
  exact ⟨_, results_tmp rfl _ _ _, rfl, hfin⟩
 case stop =>
  rintro D c pre W _ _ h _
  exact h.elim
end Go.Proofs.Ytjmkccabpnigiaa.P
