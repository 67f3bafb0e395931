import Derived.Test.YtcbkcgnigncahaaDGivenS
import Derived.Test.YtcbkcgnigncahaaDPlainC
import Derived.Test.YtcbkcgnigncahaaDPlainD
import Derived.Deep.QuietTactic
import Derived.Deep.RegionLaw
import Derived.Deep.RegionHeld3
namespace Go.Proofs.Ytcbkcgnigncahaa.P
open Go.RowKit Go.Maps Go.Proofs.YtcbkcgnigncahaaW.PrintWords Go.Proofs.YtcbkcgnigncahaaW.PrintLast Go.Proofs.YtcbkcgnigncahaaW.PrintMore
attribute [local go_sem] max2_int min2_int max_two min_two max_three min_three max_four min_four
set_option linter.unusedVariables false
set_option linter.unusedSimpArgs false
/-- The lines that the first i operations lead to. -/
def runL (s : Ln) (ops : List S38) : Ln := ops.foldl (fun s o => (doF s o).2.2) s
theorem Good.run {s : Ln} (h : Good s) (ops : List S38) : Good (runL s ops) := by
  unfold runL
  induction ops generalizing s with
  | nil => exact h
  | cons o ops ih => exact ih (h.do_ o)
theorem runL_snoc (s : Ln) (ops : List S38) (o : S38) : runL s (ops ++ [o]) = (doF (runL s ops) o).2.2 := by unfold runL; rw [List.foldl_append]; rfl
theorem take_rd38 (ops : List S38) (i : Nat) (h : i < ops.length) : ops.take (i + 1) = ops.take i ++ [rd_T38 ops (i : Int)] := by
  rw [List.take_succ_eq_append_getElem h]
  unfold rd_T38
  rw [Int.toNat_natCast, List.getD_eq_getElem?_getD, List.getElem?_eq_getElem h]
  rfl
theorem mem_rd38 (ops : List S38) (i : Nat) (h : i < ops.length) : rd_T38 ops (i : Int) ∈ ops := by
  unfold rd_T38
  rw [Int.toNat_natCast, List.getD_eq_getElem?_getD, List.getElem?_eq_getElem h]
  exact List.getElem_mem h
end Go.Proofs.Ytcbkcgnigncahaa.P
