import Derived.RangeFuncNested
import Derived.RangeFuncBound
import Derived.RangeFuncCalls
import Derived.RangeFuncLeaves
import Derived.Shelf.Abstract
import Derived.Shelf.RegionOpen
import Derived.WalkKit
import Derived.OwnWalkIn
import Derived.TacticsInMore
import Derived.LoopNIn
import Derived.LoopIn
import Derived.Test.YtcbkcgnigncahaaVGivenM
namespace Go.Proofs.Ytcbkcgnigncahaa.P
open Go.RowKit Go.Maps Go.Proofs.YtcbkcgnigncahaaW.PrintWords Go.Proofs.YtcbkcgnigncahaaW.PrintLast Go.Proofs.YtcbkcgnigncahaaW.PrintMore
attribute [local go_sem] max2_int min2_int max_two min_two max_three min_three max_four min_four
attribute [local go_sem] Oper.semAt_some
set_option linter.unusedVariables false
set_option linter.unusedSimpArgs false
def readP (t k : Int) (x : S43) : Bool := decide (x.f3 ≤ t) && decide (x.f4 ≤ k)
set_option maxHeartbeats 2000000 in
theorem read1_calls (Bt Bk : Nat) (t k : Int) (x : S43) (w : World) (ht : w.heap[Bt]? = some (.cells #[.int .i64 t] 3 (0, 0))) (hk : w.heap[Bk]? = some (.cells #[.int .i64 k] 3 (0, 0))) :
    Calls Try.prog 47 (#[agg43 x] ++ #[.pointer (some ⟨Bt, 0, none⟩), .pointer (some ⟨Bk, 0, none⟩)]) w fun e w' => e = .returned (.bool (readP t k x)) ∧ Below w.heap.size w w' := by
  have c1 : w.cell? ⟨Bt, 0, none⟩ = some (.int .i64 t) := blk_cell ht 0
  have c2 : w.cell? ⟨Bk, 0, none⟩ = some (.int .i64 k) := blk_cell hk 0
  have l1 : Bt < w.heap.size := blk_lt ht
  have l2 : Bk < w.heap.size := blk_lt hk
  unfold agg43
  clear ht hk
  by_cases h1 : x.f3 ≤ t
  · have hr : readP t k x = decide (x.f4 ≤ k) := by unfold readP; simp [h1]
    rw [hr]
    clear hr
    go_enter Try.func47, Try.ntmps47
    go_wp2
    go_ret
    exact ⟨rfl, below_alloc (Below.refl _ _) _⟩
  · have hr : readP t k x = false := by unfold readP; simp [h1]
    rw [hr]
    clear hr
    go_enter Try.func47, Try.ntmps47
    go_wp2
    go_ret
    exact ⟨rfl, below_alloc (Below.refl _ _) _⟩
theorem head1_calls (x : S43) (w : World) : Calls Try.prog 48 (#[agg43 x] ++ #[]) w fun e w' => e = .returned (.bool true) ∧ Below w.heap.size w w' := by
  unfold agg43
  go_enter Try.func48, Try.ntmps48
  go_wp2
  go_ret
  exact ⟨rfl, below_alloc (Below.refl _ _) _⟩
theorem from_calls (g : Nat) (i : Int) (w : World) : Calls Try.prog 85 #[.pointer (some ⟨g, 0, none⟩), .int .i64 i] w fun e w' => e = .returned (.func (.func 95) #[] #[.pointer (some ⟨w.heap.size + 1, 0, none⟩), .pointer (some ⟨w.heap.size, 0, none⟩)]) ∧ w' = (w.alloc (.cells #[.pointer (some ⟨g, 0, none⟩)] 22)).alloc (.cells #[.int .i64 i] 3) := by
  go_enter Try.func85, Try.ntmps85
  go_wp2
  go_ret
  exact ⟨by simp, rfl⟩
end Go.Proofs.Ytcbkcgnigncahaa.P
