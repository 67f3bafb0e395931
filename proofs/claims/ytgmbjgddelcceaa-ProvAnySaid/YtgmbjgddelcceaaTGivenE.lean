import Derived.RangeFuncNested
import Derived.RangeFuncBound
import Derived.RangeFuncCalls
import Derived.RangeFuncLeaves
import Derived.Shelf.Abstract
import Derived.Shelf.RegionOpen
import Derived.WalkKit
import Derived.OwnWalkIn
import Derived.TacticsInMore
import Derived.LoopNIn
import Derived.LoopIn
import Derived.Test.YtgmbjgddelcceaaTGivenD
namespace Go.Proofs.Ytgmbjgddelcceaa.P
open Go.RowKit Go.Proofs.YtgmbjgddelcceaaW.PrintWords Go.Proofs.YtgmbjgddelcceaaW.PrintLast Go.Proofs.YtgmbjgddelcceaaW.PrintMore
attribute [local go_sem] max2_int min2_int max_two min_two max_three min_three max_four min_four
attribute [local go_sem high] eqA71
attribute [local go_sem] Oper.semAt_some
set_option linter.unusedVariables false
set_option linter.unusedSimpArgs false
/-- What a round of the body keeps: every block of pieces. -/
def Keep80 (W W' : World) : Prop := ∀ (i : Nat) (cs : Array Value), W.heap[i]? = some (Obj.cells cs 80 (0, 0)) → W'.heap[i]? = some (Obj.cells cs 80 (0, 0))
theorem Keep80.trans {A B C : World} (h : Keep80 A B) (k : Keep80 B C) : Keep80 A C := fun i cs hi => k i cs (h i cs hi)
theorem Keep80.of_below {A B : World} (h : Below A.heap.size A B) : Keep80 A B := fun i cs hi => blk_below hi h
/-- The sources of the first k pixels of a piece. -/
def pixs (p : S80) (k : Nat) : List S71 := (List.range k).map fun (i : Nat) => atS p (i : Int)
theorem pixs_length (p : S80) (k : Nat) : (pixs p k).length = k := by simp [pixs]
end Go.Proofs.Ytgmbjgddelcceaa.P
