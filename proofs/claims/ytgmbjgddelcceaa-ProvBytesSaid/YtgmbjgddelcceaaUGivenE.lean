import Derived.RangeFuncNested
import Derived.RangeFuncBound
import Derived.RangeFuncCalls
import Derived.RangeFuncLeaves
import Derived.Shelf.Abstract
import Derived.Shelf.RegionOpen
import Derived.WalkKit
import Derived.OwnWalkIn
import Derived.TacticsInMore
import Derived.LoopNIn
import Derived.LoopIn
import Derived.Test.YtgmbjgddelcceaaUGivenD
namespace Go.Proofs.Ytgmbjgddelcceaa.P
open Go.RowKit Go.Proofs.YtgmbjgddelcceaaW.PrintWords Go.Proofs.YtgmbjgddelcceaaW.PrintLast Go.Proofs.YtgmbjgddelcceaaW.PrintMore
attribute [local go_sem] max2_int min2_int max_two min_two max_three min_three max_four min_four
attribute [local go_sem high] eqA71
attribute [local go_sem] Oper.semAt_some
set_option linter.unusedVariables false
set_option linter.unusedSimpArgs false
/-- What a round of the body keeps: every block of pieces. -/
def Keep80 (W W' : World) : Prop := ∀ (i : Nat) (cs : Array Value), W.heap[i]? = some (Obj.cells cs 80 (0, 0)) → W'.heap[i]? = some (Obj.cells cs 80 (0, 0))
theorem Keep80.trans {A B C : World} (h : Keep80 A B) (k : Keep80 B C) : Keep80 A C := fun i cs hi => k i cs (h i cs hi)
theorem Keep80.of_below {A B : World} (h : Below A.heap.size A B) : Keep80 A B := fun i cs hi => blk_below hi h
theorem Keep80.putObj (W : World) (l : Nat) (o o' : Obj) (hl : W.heap[l]? = some o) (ho : o.isCells = false) : Keep80 W (W.putObj l o') := fun i cs hi => by
  have hne : l ≠ i := by
    rintro rfl
    rw [hl] at hi
    injection hi with hi
    subst hi
    cases ho
  exact (World.putObj_heap_other (Ne.symm hne)).trans hi
/-- The sources of the first k pixels of a piece. -/
def pixs (p : S80) (k : Nat) : List S71 := (List.range k).map fun (i : Nat) => atS p (i : Int)
theorem pixs_succ (p : S80) (k : Nat) : pixs p (k + 1) = pixs p k ++ [atS p (k : Int)] := by simp [pixs, List.range_succ]
theorem pixs_length (p : S80) (k : Nat) : (pixs p k).length = k := by simp [pixs]
theorem pixels_calls (A : Option Addr) (n c : Nat) (w : World) : Calls Try.prog 43 #[.slice A n c] w fun e w' => e = .returned (.func (.func 63) #[] #[.pointer (some ⟨w.heap.size, 0, none⟩)]) ∧ w' = w.alloc (.cells #[.slice A n c] 27) := by
  go_enter Try.func43, Try.ntmps43
  go_wp2
  go_ret
  exact ⟨rfl, rfl⟩
set_option maxRecDepth 100000 in
set_option maxHeartbeats 2000000 in
theorem pixels1_in (n l Bs gs : Nat) (p : S80) (N : Nat) (hN : wrap64 (p.f2 - p.f1) = (N : Int)) (hN16 : N ≤ 16) (J Jx : List S71 → World → Prop)
    (W : World) (hJ : AbidesFrom W.heap.size J)
    (hY : ∀ pre x W1, J pre W1 → pre.length < N → YieldAt Fence.wide (n - 1) Try.prog l #[.agg #[.int .i64 x.f0, .int .i64 x.f1, .int .i64 x.f2, .int .u64 x.f3]] W1 fun e W' =>
      (e = .returned (.bool true) ∧ J (pre ++ [x]) W' ∧ Keep80 W1 W') ∨ (e = .returned (.bool false) ∧ Jx (pre ++ [x]) W'))
    (hBs : W.cell? ⟨Bs, 0, none⟩ = some (.slice (some ⟨gs, 0, none⟩) 1 1)) (hgs : W.heap[gs]? = some (.cells (cellsP p) 80 (0, 0))) (h0 : J [] W) :
    CallsIn Fence.wide n Try.prog 63 #[.func (.yield l) #[] #[], .pointer (some ⟨Bs, 0, none⟩)] W fun e W' => (∃ v, e = .returned v) ∧
      ((∃ xs, xs = pixs p N ∧ J xs W') ∨ (∃ pre, (∃ k, k ≤ N ∧ pre = pixs p k) ∧ Jx pre W')) := by
  have hu80 := Try.underlying80
  have hu71 := Try.underlying71
  refine callsIn_of_wp Try.func63 rfl trivial ?_ rfl
  simp only [Try.ntmps63, List.size_toArray, List.length_cons, List.length_nil, Nat.reduceAdd, Nat.reduceSub, Array.replicate_succ, Array.replicate_zero, List.push_toArray, List.append_toArray, List.nil_append, List.cons_append]
  have HN := Aside0.mk hN
  have HG := Aside0.mk hgs
  clear hN hgs
  gi_wp2
  gi_loopw [8] (fun i wr => (i = .int .i64 0 ∧ Aside0 (wr = W)) ∨ (i = .int .i64 1 ∧ Aside0 (J (pixs p N) wr))) (fun i _ => 1 - (intOf i).toNat)
  case atStart => exact .inl ⟨rfl, ⟨rfl⟩⟩
  case round =>
    rcases hrel with ⟨rfl, HW⟩ | ⟨rfl, HW⟩
    · obtain rfl := HW.out
      obtain ⟨w0, rfl⟩ : ∃ w0 : World, w0 = wr := ⟨_, rfl⟩
      obtain ⟨c0, c1, c2, c3, c4, c5, c6, c7, c8⟩ := at_PT (p := p) (t := p.f2) HG.out
      have hN := HN.out
      gi_wp2
      have g1 := blk_new w0 (.cells (cellsP p) 80)
      have j1 := hJ [] w0 _ none h0 (World.grownBy_alloc w0 (.cells (cellsP p) 80) none) (fun r e => by cases e)
      clear c0 c1 c2 c3 c4 c5 c6 c7 c8
      clear hN
      gi_loopw [17] (fun i wx => ∃ k : Nat, i = .int .i64 k ∧ Aside0 (k ≤ N ∧ J (pixs p k) wx ∧ wx.heap[w0.heap.size]? = some (.cells (cellsP p) 80 (0, 0)))) (fun i _ => N - (intOf i).toNat)
      case atStart => exact ⟨0, rfl, ⟨Nat.zero_le _, j1, g1⟩⟩
      case round =>
        obtain ⟨k, rfl, HK⟩ := hrel
        by_cases hlt : k < N
        · obtain ⟨c0, c1, c2, c3, c4, c5, c6, c7, c8⟩ := at_PT (p := p) (t := p.f2) HK.out.2.2
          gi_wp2_with fail
          refine ⟨trivial, (fun h => (by cases h)), ?_⟩
          refine (callsIn_wide.2 (at_calls2 p p.f2 k _)).mono ?_
          rintro e w' ⟨rfl, hb⟩
          obtain ⟨fn, tmps, assign, body, hy, hR⟩ := hY (pixs p k) (atS p k) w' (hJ _ _ _ none HK.out.2.1 (grown_of_below hb none) (fun r e => by cases e)) (by rw [pixs_length]; exact hlt)
          dsimp only [atS] at hy
          have hgk := Aside0.mk (blk_below HK.out.2.2 hb)
          clear hb
          gi_wp2
          refine ⟨(fun h => (by cases h)), hR.mono ?_⟩
          rintro e W3 (⟨rfl, hJ3, hk3⟩ | ⟨rfl, hJx3⟩)
          · gi_wp2
            go_roundw
            case rel => exact ⟨k + 1, by simp, ⟨hlt, by rw [pixs_succ]; exact hJ3, hk3 _ _ hgk.out⟩⟩
            case measure => simp [intOf]; omega
          · gi_wp2
            refine bodyPost_ret (results_none rfl _ _ _) rfl ?_
            exact ⟨⟨_, rfl⟩, .inr ⟨_, ⟨k + 1, hlt, (pixs_succ _ _).symm⟩, hJx3⟩⟩
        · gi_wp2
          have hk := HK.out
          obtain rfl : k = N := by omega
          exact ⟨.inr ⟨rfl, ⟨hk.2.1⟩⟩, by simp [intOf]⟩
    · gi_wp2
      go_end0
      exact ⟨⟨_, rfl⟩, .inl ⟨_, rfl, HW.out⟩⟩
theorem pixels_stops (n Bs gs : Nat) (p : S80) (N : Nat) (hN : wrap64 (p.f2 - p.f1) = (N : Int)) (hN16 : N ≤ 16) (w : World) (hBs : w.cell? ⟨Bs, 0, none⟩ = some (.slice (some ⟨gs, 0, none⟩) 1 1)) (hgs : w.heap[gs]? = some (.cells (cellsP p) 80 (0, 0))) :
    SeqStopsK Fence.wide n Try.prog 63 #[.pointer (some ⟨Bs, 0, none⟩)] (fun x : S71 => #[.agg #[.int .i64 x.f0, .int .i64 x.f1, .int .i64 x.f2, .int .u64 x.f3]]) Keep80 (fun ys => ys = pixs p N) (fun pre => ∃ k, k ≤ N ∧ pre = pixs p k) N w := fun l J Jx W hW hJ _ hY h0 =>
  pixels1_in n l Bs gs p N hN hN16 J Jx W hJ hY (pw_cell_below hW hBs) (blk_below hgs hW) h0
end Go.Proofs.Ytgmbjgddelcceaa.P
