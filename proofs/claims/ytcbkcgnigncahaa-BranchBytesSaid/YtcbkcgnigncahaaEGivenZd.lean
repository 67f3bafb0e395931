import Derived.Test.YtcbkcgnigncahaaEPlainR
import Derived.Test.YtcbkcgnigncahaaEGivenS
namespace Go.Proofs.Ytcbkcgnigncahaa.P
open Go.RowKit Go.Maps Go.Sort Go.Proofs.YtcbkcgnigncahaaW.PrintWords Go.Proofs.YtcbkcgnigncahaaW.PrintLast Go.Proofs.YtcbkcgnigncahaaW.PrintMore
open Wr (WS KeepTy uintB intB boolB uintB_len intB_len U8s zig_range initWS wint_calls uint_calls text_calls wbool_calls done_calls)
attribute [local go_sem] max2_int min2_int max_two min_two max_three min_three max_four min_four
set_option linter.unusedVariables false
set_option linter.unusedSimpArgs false
section
variable (w : World) {ops : Array Oper} {rest : List Oper} {o : Oper} {a : Act} {Q : Exit → Act → World → Prop}
/-- 'l.branches[name]'. -/
theorem lookup_line1 (hg : o.guard = none) (m x : Operand) (hop : o.op = Op.lookup 76 m x false) (b n : Nat) (D : DataW Unit) (s : ByteArray)
    (hm : a.eval m = .map (some b)) (hx : a.eval x = .string s) (hown : w.ownsMap Try.prog 9 lineR b n D) (hs : s.size ≤ maxLen)
    (hK : wpList Try.prog ops Q rest (a.put o.dst (.agg #[.int .i64 (lkp D s).1, .int .i64 (lkp D s).2])) w) :
    wpList Try.prog ops Q (o :: rest) a w := by
  refine wpList_plain hg fun K' hK' => ?_
  obtain ⟨v, ps, hrun, hv⟩ := hown.lookup (string_keyed Try.underlying9) Try.underlying76 (zero80 w) (lineR_mk 0 0) (keyOf_str Try.underlying9 hs)
  obtain ⟨c, d, rfl, hz⟩ := lineR_inv hv
  have h1 : D.atKey (keyB s) (lnD 0 0) = lnD c d := congrArg Prod.fst hz
  have h2 : lkp D s = (c, d) := by unfold lkp; rw [h1]; rfl
  rw [h2] at hK
  unfold Oper.wp
  simp [execOp, hop, hm, hx, hrun, Result.andThen]
  exact hK' _ _ hK
theorem field80 (hg : o.guard = none) (x : Operand) (hop : o.op = Op.field 80 x 0) (u v : Value) (hx : a.eval x = .agg #[u, v]) (hK : wpList Try.prog ops Q rest (a.put o.dst u) w) : wpList Try.prog ops Q (o :: rest) a w := by
  refine wpList_plain hg fun K' hK' => ?_
  have hrun : (Instr.field 80 (.agg #[u, v]) 0).run Try.prog w = .ok u w := by kernel_rfl
  unfold Oper.wp
  simp [execOp, hop, hx, hrun, Result.andThen]
  exact hK' _ _ hK
end
set_option maxHeartbeats 4000000 in
set_option maxRecDepth 100000 in
theorem ints_calls (base g k : Nat) (bs xs : List Int) (w : World) (hs : WS base g bs w) (hbase : base ≤ w.heap.size) (hl : bs.length + 10 * xs.length ≤ 1000000000) (hx : w.heap[k]? = some (.cells (xs.map (Value.int .i64)).toArray 3 (0, 0))) (hkg : k ≠ g) :
    Calls Try.prog 62 #[.slice (some ⟨k, 0, none⟩) xs.length xs.length, .pointer (some ⟨g, 0, none⟩)] w fun e w' => e = .returned (.tuple #[]) ∧ WS base g (bs ++ xs.flatMap intB) w' ∧ Below base w w' ∧ KeepTy g w w' := by
  have HS := Aside0.mk hs
  have HX := Aside0.mk hx
  clear hs hx
  go_enter Try.func62, Try.ntmps62
  go_wp2
  go_loopw [7] (fun v7 wr => ∃ j : Nat, v7 = .int .i64 j ∧ Aside0 (j ≤ xs.length) ∧ Aside0 (WS base g (bs ++ (xs.take j).flatMap intB) wr) ∧ Aside0 (Below base w wr) ∧ Aside0 (KeepTy g w wr)) (fun v _ => xs.length - (intOf v).toNat)
  case atStart => exact ⟨0, rfl, ⟨Nat.zero_le _⟩, by simpa using HS, ⟨Below.refl _ _⟩, ⟨KeepTy.refl _ _⟩⟩
  case round =>
    obtain ⟨j, rfl, HJ, HW, HB, HK⟩ := hrel
    obtain ⟨y, rfl⟩ : ∃ y : World, y = wr := ⟨_, rfl⟩
    have hj := HJ.out
    by_cases hlt : j < xs.length
    · have hc : y.cell? ⟨k, j, none⟩ = some (.int .i64 (xs[j])) := by
        have h1 := HK.out k _ 3 HX.out (by decide) hkg
        rw [blk_cell h1 j]
        simp [hlt]
      have HT := Aside0.mk (flat_take intB xs j hlt)
      have hfl := flat_len intB 10 (xs.take j) (fun x _ => intB_len x)
      have hlb : (bs ++ (xs.take j).flatMap intB).length ≤ 1000000000 := by
        rw [List.length_append]
        rw [List.length_take] at hfl
        omega
      have hbz := HB.out.size
      clear hfl
      go_wp2_with (first
        | (go_at_call 63; (with_reducible refine (wint_calls base g (bs ++ (xs.take j).flatMap intB) (xs[j]) (zig_range _) _ HW.out (Nat.le_trans hbase hbz) hlb).mono ?_); rintro e w3 ⟨rfl, hW, hB, hK⟩; have HH := Aside0.mk (And.intro hW (And.intro hB hK)); clear hW hB hK)
        | fail)
      go_roundw
      case rel => exact ⟨j + 1, by simp, ⟨by omega⟩, ⟨by rw [HT.out, ← List.append_assoc]; exact HH.out.1⟩, ⟨HB.out.trans HH.out.2.1⟩, ⟨HK.out.trans HH.out.2.2⟩⟩
      case measure => simp [intOf]; omega
    · obtain rfl : j = xs.length := by omega
      rw [List.take_length] at HW
      go_wp2_with fail
      first | go_end0 | ((try simp only [Exit.inBlock, Exit.then]); refine bodyPost_ret (results_none rfl _ _ _) rfl ?_)
      exact ⟨rfl, HW.out, HB.out, HK.out⟩
theorem ws_ne {base g : Nat} {bs : List Int} {W : World} (h : WS base g bs W) : W.heap.size ≠ g := by
  obtain ⟨_, _, h2, _⟩ := h
  have := blk_lt h2
  omega
theorem i1_calls (base g k : Nat) (bs : List Int) (x : Int) (w : World) (hs : WS base g bs w) (hbase : base ≤ w.heap.size) (hl : bs.length ≤ 999999000) (hx : w.heap[k]? = some (.cells #[.int .i64 x] 3 (0, 0))) (hkg : k ≠ g) :
    Calls Try.prog 62 #[.slice (some ⟨k, 0, none⟩) 1 1, .pointer (some ⟨g, 0, none⟩)] w fun e w' => e = .returned (.tuple #[]) ∧ WS base g (bs ++ intB x) w' ∧ Below base w w' ∧ KeepTy g w w' := by
  refine (ints_calls base g k bs [x] w hs hbase (by simp only [List.length_singleton]; omega) hx hkg).mono ?_
  rintro e w' ⟨h1, h2, h3⟩
  exact ⟨h1, by simpa using h2, h3⟩
theorem i3_calls (base g k : Nat) (bs : List Int) (x y z : Int) (w : World) (hs : WS base g bs w) (hbase : base ≤ w.heap.size) (hl : bs.length ≤ 999999000) (hx : w.heap[k]? = some (.cells #[.int .i64 x, .int .i64 y, .int .i64 z] 3 (0, 0))) (hkg : k ≠ g) :
    Calls Try.prog 62 #[.slice (some ⟨k, 0, none⟩) 3 3, .pointer (some ⟨g, 0, none⟩)] w fun e w' => e = .returned (.tuple #[]) ∧ WS base g (bs ++ (intB x ++ (intB y ++ intB z))) w' ∧ Below base w w' ∧ KeepTy g w w' := by
  refine (ints_calls base g k bs [x, y, z] w hs hbase (by simp only [List.length_cons, List.length_nil]; omega) hx hkg).mono ?_
  rintro e w' ⟨h1, h2, h3⟩
  exact ⟨h1, by simpa using h2, h3⟩
theorem tx_calls (base g : Nat) (bs : List Int) (y : ByteArray) (w : World) (hs : WS base g bs w) (hbase : base ≤ w.heap.size) (hl : bs.length ≤ 999999000) (hy : y.size ≤ 16) :
    Calls Try.prog 64 #[.pointer (some ⟨g, 0, none⟩), .string y] w fun e w' => e = .returned (.tuple #[]) ∧ WS base g (bs ++ txtB y) w' ∧ Below base w w' ∧ KeepTy g w w' := by
  refine (text_calls base g bs y w hs hbase (by omega) (by omega)).mono ?_
  rintro e w' ⟨h1, h2, h3⟩
  exact ⟨h1, by unfold txtB; rw [← List.append_assoc]; exact h2, h3⟩
theorem un_calls (base g : Nat) (bs : List Int) (n : Int) (hn : 0 ≤ n ∧ n < 18446744073709551616) (w : World) (hs : WS base g bs w) (hbase : base ≤ w.heap.size) (hl : bs.length ≤ 999999000) :
    Calls Try.prog 65 #[.pointer (some ⟨g, 0, none⟩), .int .u64 n] w fun e w' => e = .returned (.tuple #[]) ∧ WS base g (bs ++ uintB 9 n) w' ∧ Below base w w' ∧ KeepTy g w w' :=
  uint_calls base g bs n hn.1 hn.2 w hs hbase (by omega)
theorem bo_calls (base g : Nat) (bs : List Int) (b : Bool) (w : World) (hs : WS base g bs w) (hbase : base ≤ w.heap.size) (hl : bs.length ≤ 999999000) :
    Calls Try.prog 66 #[.pointer (some ⟨g, 0, none⟩), .bool b] w fun e w' => e = .returned (.tuple #[]) ∧ WS base g (bs ++ boolB b) w' ∧ Below base w w' ∧ KeepTy g w w' :=
  wbool_calls base g bs b w hs hbase (by omega)
theorem keepTy_row {α : Type} {d : Kd α} {e base base2 g : Nat} {ok : Nat → Prop} {v : Value} {xs : List α} {bs : List Int} {A B : World} (h : KeepTy g A B) (hw : WS base2 g bs A) (hr : Kd.R d e A base ok v xs) (ht : ∀ q, q ∈ e :: d.E → q ≠ 5 ∧ q ≠ 66) : Kd.R d e B base ok v xs := by
  refine Kd.R_mono (Kd.R_move (Kd.R_bound hr) (fun k hk => ?_)) (fun k hk => hk.1)
  obtain ⟨_, _, _, q, hq, cells, hc⟩ := hk
  rw [hc]
  refine h k cells q hc (ht q hq).1 ?_
  rintro rfl
  obtain ⟨_, _, h2, _⟩ := hw
  rw [hc] at h2
  injection h2 with h2
  injection h2 with _ h2
  exact (ht q hq).2 h2
def box43 (x : S43) : Array Value := #[.int .i64 x.f0, .int .i64 x.f1, .string x.f2, .int .i64 x.f3, .int .i64 x.f4, .int .i64 x.f5, .int .u64 x.f6, .bool x.f7]
theorem at_B43 {w : World} {k : Nat} {x : S43} (h : w.heap[k]? = some (.cells (box43 x) 43 (0, 0))) :
    w.cell? ⟨k, 1, none⟩ = some (.int .i64 x.f1) ∧ w.cell? ⟨k, 2, none⟩ = some (.string x.f2) ∧ w.cell? ⟨k, 3, none⟩ = some (.int .i64 x.f3) ∧ w.cell? ⟨k, 4, none⟩ = some (.int .i64 x.f4) ∧ w.cell? ⟨k, 5, none⟩ = some (.int .i64 x.f5) ∧ w.cell? ⟨k, 6, none⟩ = some (.int .u64 x.f6) ∧ w.cell? ⟨k, 7, none⟩ = some (.bool x.f7) := by
  have hc := blk_cell h
  exact ⟨hc 1, hc 2, hc 3, hc 4, hc 5, hc 6, hc 7⟩
end Go.Proofs.Ytcbkcgnigncahaa.P
