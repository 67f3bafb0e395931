import Derived.Test.YtcbkcgnigncahaaEGivenI
import Derived.Maps.Views
import Derived.RangeFuncNested
import Derived.RangeFuncBound
import Derived.RangeFuncCalls
import Derived.RangeFuncLeaves
import Derived.Shelf.Abstract
import Derived.Shelf.RegionOpen
import Derived.WalkKit
import Derived.OwnWalkIn
import Derived.TacticsInMore
import Derived.LoopNIn
import Derived.LoopIn
namespace Go.Proofs.Ytcbkcgnigncahaa.P
open Go.RowKit Go.Maps Go.Proofs.YtcbkcgnigncahaaW.PrintWords Go.Proofs.YtcbkcgnigncahaaW.PrintLast Go.Proofs.YtcbkcgnigncahaaW.PrintMore
attribute [local go_sem] max2_int min2_int max_two min_two max_three min_three max_four min_four
set_option linter.unusedVariables false
set_option linter.unusedSimpArgs false
end Go.Proofs.Ytcbkcgnigncahaa.P
namespace Go.Proofs.Ytcbkcgnigncahaa.P
open Go.RowKit Go.Maps Go.Proofs.YtcbkcgnigncahaaW.PrintWords Go.Proofs.YtcbkcgnigncahaaW.PrintLast Go.Proofs.YtcbkcgnigncahaaW.PrintMore
set_option linter.unusedVariables false
set_option linter.unusedSimpArgs false
theorem publish_calls (base g b n : Nat) (s : Ln) (name : ByteArray) (a2 a3 a4 a5 : Int) (w : World) (hs0 : LS base g b n s w) (hbase : base ≤ w.heap.size) (hs : name.size ≤ maxLen) (hn : n < maxLen) (hV : s.V.length ≤ 1024) (hfst : hasB s.D name = true → firstF (lkp s.D name) < s.V.length) :
    Calls Try.prog 13 #[.pointer (some ⟨g, 0, none⟩), .string name, .int .i64 a2, .int .i64 a3, .int .i64 a4, .int .u64 a5] w fun e w' => e = .returned (.tuple #[.int .i64 (publishF s name a2 a3 a4 a5).1, .int .i64 (publishF s name a2 a3 a4 a5).2.1]) ∧ LS base g b (n + 1) (publishF s name a2 a3 a4 a5).2.2 w' ∧ Below base w w' ∧ KeepO g b w w' := by
  by_cases h : (publishF s name a2 a3 a4 a5).2.1 ≠ 0
  · exact publish_no base g b n s name a2 a3 a4 a5 w hs0 hbase hs hV hfst h
  · have h' := h
    unfold publishF at h
    by_cases c1 : hasB s.D name = false
    · rw [if_pos c1] at h; exact absurd (by intro e; cases e) h
    rw [if_neg c1] at h
    by_cases c2 : rangeB a2 a3 a4 = false
    · rw [if_pos c2] at h; exact absurd (by intro e; cases e) h
    rw [if_neg c2] at h
    by_cases c3 : 0 ≤ firstF (lkp s.D name) ∧ a3 < (rd_T43 s.V (firstF (lkp s.D name))).f4
    · rw [if_pos c3] at h; exact absurd (by intro e; cases e) h
    rw [if_neg c3] at h
    by_cases c4 : 1024 ≤ s.V.length
    · rw [if_pos c4] at h; exact absurd (by intro e; cases e) h
    have hf : publishF s name a2 a3 a4 a5 = ((s.V.length : Int), 0, ⟨s.D.put (keyB name) (lnD (lkp s.D name).1 (s.V.length : Int)), s.V ++ [⟨(s.V.length : Int), firstF (lkp s.D name), name, a2, a3, a4, a5, false⟩]⟩) := by
      unfold publishF
      rw [if_neg c1, if_neg c2, if_neg c3, if_neg c4]
    rw [hf]
    exact publish_yes base g b n s name a2 a3 a4 a5 w hs0 hbase hs hn (by omega) (firstF (lkp s.D name)) rfl (hfst (by simpa using c1)) (by simpa using c1) (by simpa using c2) (by omega) _ rfl
end Go.Proofs.Ytcbkcgnigncahaa.P
namespace Go.Proofs.Ytcbkcgnigncahaa.P
open Go.RowKit Go.Maps Go.Proofs.YtcbkcgnigncahaaW.PrintWords Go.Proofs.YtcbkcgnigncahaaW.PrintLast Go.Proofs.YtcbkcgnigncahaaW.PrintMore
set_option linter.unusedVariables false
set_option linter.unusedSimpArgs false
def b1 : ByteArray := ByteArray.mk #[98, 49]
theorem key_lit (x : ByteArray) : WideAt.IsKeyLit (keyB x) := trivial
/-- The line after j publishes of b1. -/
structure Pub (j : Nat) (s : Ln) : Prop where
  map : IsMap s.D
  has : hasB s.D b1 = true
  at1 : lkp s.D b1 = (-1, (j : Int) - 1)
  len : s.V.length = j
  f4 : ∀ i : Nat, i < j → (rd_T43 s.V (i : Int)).f4 = i
theorem Pub.first {j : Nat} {s : Ln} (h : Pub j s) : firstF (lkp s.D b1) = (j : Int) - 1 := by
  rw [h.at1]
  unfold firstF
  simp only
  split <;> omega
theorem Pub.next {j : Nat} {s : Ln} (h : Pub j s) (hj : j < 1024) : publishF s b1 ((j : Int) % 3) j (-1) 5 = ((j : Int), 0, (publishF s b1 ((j : Int) % 3) j (-1) 5).2.2) ∧ Pub (j + 1) (publishF s b1 ((j : Int) % 3) j (-1) 5).2.2 := by
  have hr : rangeB ((j : Int) % 3) j (-1) = true := by
    unfold rangeB tickB
    have : 0 ≤ (j : Int) % 3 := by omega
    have : (j : Int) % 3 ≤ 1099511627776 := by omega
    have : (j : Int) ≤ 1099511627776 := by omega
    simp [*]
  have ho : ¬ (0 ≤ firstF (lkp s.D b1) ∧ (j : Int) < (rd_T43 s.V (firstF (lkp s.D b1))).f4) := by
    rw [h.first]
    rintro ⟨h0, h1⟩
    have := h.f4 (j - 1) (by omega)
    rw [show ((j - 1 : Nat) : Int) = (j : Int) - 1 by omega] at this
    omega
  have hl : ¬ 1024 ≤ s.V.length := by rw [h.len]; omega
  have hf : publishF s b1 ((j : Int) % 3) j (-1) 5 = ((s.V.length : Int), 0, ⟨s.D.put (keyB b1) (lnD (lkp s.D b1).1 (s.V.length : Int)), s.V ++ [⟨(s.V.length : Int), firstF (lkp s.D b1), b1, (j : Int) % 3, j, -1, 5, false⟩]⟩) := by
    unfold publishF
    rw [if_neg (by rw [h.has]; decide), if_neg (by rw [hr]; decide), if_neg ho, if_neg hl]
  rw [hf]
  refine ⟨by rw [h.len], ⟨h.map.put _ _, has_put_same h.map (key_lit _) _, ?_, by simp [h.len], ?_⟩⟩
  · unfold lkp
    simp only
    rw [atKey_put_same h.map (key_lit _)]
    have := h.at1
    unfold lkp at this
    rw [this, h.len]
    simp [lkD, lnD]
  · intro i hi
    unfold rd_T43
    simp only [Int.toNat_natCast]
    rw [List.getD_eq_getElem?_getD]
    by_cases hlt : i < j
    · rw [List.getElem?_append_left (by rw [h.len]; exact hlt), ← List.getD_eq_getElem?_getD]
      have := h.f4 i hlt
      unfold rd_T43 at this
      simpa using this
    · have : i = j := by omega
      subst this
      rw [List.getElem?_append_right (by rw [h.len]; exact Nat.le_refl _), h.len]
      simp
end Go.Proofs.Ytcbkcgnigncahaa.P
namespace Go.Proofs.Ytcbkcgnigncahaa.P
open Go.RowKit Go.Maps Go.Proofs.YtcbkcgnigncahaaW.PrintWords Go.Proofs.YtcbkcgnigncahaaW.PrintLast Go.Proofs.YtcbkcgnigncahaaW.PrintMore
attribute [local go_sem] max2_int min2_int max_two min_two max_three min_three max_four min_four
set_option linter.unusedVariables false
set_option linter.unusedSimpArgs false
end Go.Proofs.Ytcbkcgnigncahaa.P
namespace Go.Proofs.Ytcbkcgnigncahaa.P
open Go.RowKit Go.Maps Go.Proofs.YtcbkcgnigncahaaW.PrintWords Go.Proofs.YtcbkcgnigncahaaW.PrintLast Go.Proofs.YtcbkcgnigncahaaW.PrintMore
attribute [local go_sem] max2_int min2_int max_two min_two max_three min_three max_four min_four
attribute [local go_sem] Oper.semAt_some
set_option linter.unusedVariables false
set_option linter.unusedSimpArgs false
def readP (t k : Int) (x : S43) : Bool := decide (x.f3 ≤ t) && decide (x.f4 ≤ k)
set_option maxHeartbeats 2000000 in
theorem read1_calls (Bt Bk : Nat) (t k : Int) (x : S43) (w : World) (ht : w.heap[Bt]? = some (.cells #[.int .i64 t] 3 (0, 0))) (hk : w.heap[Bk]? = some (.cells #[.int .i64 k] 3 (0, 0))) :
    Calls Try.prog 47 (#[agg43 x] ++ #[.pointer (some ⟨Bt, 0, none⟩), .pointer (some ⟨Bk, 0, none⟩)]) w fun e w' => e = .returned (.bool (readP t k x)) ∧ Below w.heap.size w w' := by
  have c1 : w.cell? ⟨Bt, 0, none⟩ = some (.int .i64 t) := blk_cell ht 0
  have c2 : w.cell? ⟨Bk, 0, none⟩ = some (.int .i64 k) := blk_cell hk 0
  have l1 : Bt < w.heap.size := blk_lt ht
  have l2 : Bk < w.heap.size := blk_lt hk
  unfold agg43
  clear ht hk
  by_cases h1 : x.f3 ≤ t
  · have hr : readP t k x = decide (x.f4 ≤ k) := by unfold readP; simp [h1]
    rw [hr]
    clear hr
    go_enter Try.func47, Try.ntmps47
    go_wp2
    go_ret
    exact ⟨rfl, below_alloc (Below.refl _ _) _⟩
  · have hr : readP t k x = false := by unfold readP; simp [h1]
    rw [hr]
    clear hr
    go_enter Try.func47, Try.ntmps47
    go_wp2
    go_ret
    exact ⟨rfl, below_alloc (Below.refl _ _) _⟩
theorem head1_calls (x : S43) (w : World) : Calls Try.prog 48 (#[agg43 x] ++ #[]) w fun e w' => e = .returned (.bool true) ∧ Below w.heap.size w w' := by
  unfold agg43
  go_enter Try.func48, Try.ntmps48
  go_wp2
  go_ret
  exact ⟨rfl, below_alloc (Below.refl _ _) _⟩
theorem from_calls (g : Nat) (i : Int) (w : World) : Calls Try.prog 85 #[.pointer (some ⟨g, 0, none⟩), .int .i64 i] w fun e w' => e = .returned (.func (.func 95) #[] #[.pointer (some ⟨w.heap.size + 1, 0, none⟩), .pointer (some ⟨w.heap.size, 0, none⟩)]) ∧ w' = (w.alloc (.cells #[.pointer (some ⟨g, 0, none⟩)] 22)).alloc (.cells #[.int .i64 i] 3) := by
  go_enter Try.func85, Try.ntmps85
  go_wp2
  go_ret
  exact ⟨by simp, rfl⟩
end Go.Proofs.Ytcbkcgnigncahaa.P
