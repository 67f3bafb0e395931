import Derived.Test.YtgmbjgddelcceaaUPx9
import Derived.Lib.SliceRun
namespace Go.Proofs.Ytgmbjgddelcceaa.P
open Go.RowKit Go.Proofs.YtgmbjgddelcceaaW.PrintWords Go.Proofs.YtgmbjgddelcceaaW.PrintLast Go.Proofs.YtgmbjgddelcceaaW.PrintMore
attribute [local go_sem] max2_int min2_int max_two min_two max_three min_three max_four min_four
attribute [local go_sem] Go.Lib.run_eql_slice_nil
set_option linter.unusedVariables false
set_option linter.unusedSimpArgs false
/-- The writer at g has these bytes. -/
def WS (base g : Nat) (bs : List Int) (W : World) : Prop :=
  base ≤ g ∧ ∃ v, W.heap[g]? = some (.cells #[v] 58 (0, 0)) ∧ Kd.R (Kd.int .u8) 5 W base (fun k => k ≠ g) v bs
/-- Blocks of other types than bytes stay as they are, but for g's. -/
def KeepTy (g : Nat) (w w' : World) : Prop := ∀ (k : Nat) (cs : Array Value) (t : TypeId), w.heap[k]? = some (.cells cs t (0, 0)) → t ≠ 5 → k ≠ g → w'.heap[k]? = some (.cells cs t (0, 0))
theorem KeepTy.refl (g : Nat) (w : World) : KeepTy g w w := fun _ _ _ h _ _ => h
theorem KeepTy.trans {g : Nat} {w w1 w2 : World} (h : KeepTy g w w1) (k : KeepTy g w1 w2) : KeepTy g w w2 := fun i cs t hi ht hg => k i cs t (h i cs t hi ht hg) ht hg
theorem KeepTy.alloc {g : Nat} {w w1 : World} (h : KeepTy g w w1) (o : Obj) : KeepTy g w (w1.alloc o) := fun i cs t hi ht hg => blk_alloc (h i cs t hi ht hg) o
theorem KeepTy.set {g : Nat} {w w1 : World} (h : KeepTy g w w1) (u : Value) : KeepTy g w (w1.setCell ⟨g, 0, none⟩ u) := fun i cs t hi ht hg => blk_far (h i cs t hi ht hg) (by simpa using hg) u
theorem KeepTy.grown {g : Nat} {w w1 w2 : World} {base : Nat} {ok : Nat → Prop} {v : Value} {bs : List Int} (h : KeepTy g w w1) (hR : Kd.R (Kd.int .u8) 5 w1 base ok v bs) (hg : w1.grownBy w2 v.ownBlock) : KeepTy g w w2 := fun i cs t hi ht hgi =>
  blk_grown (h i cs t hi ht hgi) hg (Kd.R_ne hR (h i cs t hi ht hgi) (fun e => ht e.symm))
theorem KeepTy.below {g : Nat} {w w1 : World} (h : Below w.heap.size w w1) : KeepTy g w w1 := fun i cs t hi ht hg => blk_below hi h
theorem WS.drawn {base g : Nat} {bs : List Int} {W : World} (h : WS base g bs W) (n : Nat) : WS base g bs (W.drewN n) := by
  obtain ⟨h0, v, h1, h2⟩ := h
  exact ⟨h0, v, blk_drewN h1 n, Kd.R_drewN h2 n⟩
theorem WS.below {base g : Nat} {bs : List Int} {W W' : World} (h : WS base g bs W) (hb : Below W.heap.size W W') : WS base g bs W' := by
  obtain ⟨h0, v, h1, h2⟩ := h
  exact ⟨h0, v, blk_below h1 hb, Kd.R_below h2 hb⟩
def moreB (n : Int) : Int := Go.bits .or .u8 (n % 256) 128
def uintB : Nat → Int → List Int
  | 0, n => [n % 256]
  | k + 1, n => if 128 ≤ n then moreB n :: uintB k (n / 128) else [n % 256]
theorem uintB_end (k : Nat) (n : Int) (h : ¬ 128 ≤ n) : uintB k n = [n % 256] := by
  cases k with
  | zero => rfl
  | succ k => simp only [uintB]; rw [if_neg h]
theorem WS.put {base g : Nat} {bs : List Int} {W : World} {v1 v : Value} (h0 : base ≤ g) (hg : W.heap[g]? = some (.cells #[v] 58 (0, 0))) (hR : Kd.R (Kd.int .u8) 5 W base (fun k => k ≠ g) v1 bs) : WS base g bs (W.setCell ⟨g, 0, none⟩ v1) :=
  ⟨h0, v1, blk_put hg 0 v1 rfl, Kd.R_keep hR ((KeepBut.refl W g none).set_ 0 v1) (fun _ h => h)⟩
set_option maxHeartbeats 2000000 in
set_option maxRecDepth 100000 in
theorem uint_calls (base g : Nat) (bs : List Int) (n : Int) (h0 : 0 ≤ n) (h1 : n < 18446744073709551616) (w : World) (hs : WS base g bs w) (hbase : base ≤ w.heap.size) (hl : bs.length ≤ 1000000000) :
    Calls Try.prog 47 #[.pointer (some ⟨g, 0, none⟩), .int .u64 n] w fun e w' => e = .returned (.tuple #[]) ∧ WS base g (bs ++ uintB 9 n) w' ∧ Below base w w' ∧ KeepTy g w w' := by
  have HS := Aside0.mk hs
  clear hs
  go_enter Try.func47, Try.ntmps47
  go_wp2
  go_loopg [1] 9 (fun kq v1 wr => ∃ (m : Int) (cs : List Int), v1 = .int .u64 m ∧ Aside0 (0 ≤ m ∧ m < 18446744073709551616 ∧ m < 128 * 128 ^ kq ∧ cs ++ uintB kq m = bs ++ uintB 9 n ∧ cs.length + kq = bs.length + 9) ∧ Aside0 (WS base g cs wr) ∧ Aside0 (Below base w wr ∧ base ≤ wr.heap.size) ∧ Aside0 (KeepTy g w wr))
  case atStart => exact ⟨n, bs, rfl, ⟨h0, h1, Int.lt_of_lt_of_le h1 (by decide), rfl, rfl⟩, HS, ⟨Below.refl _ _, hbase⟩, ⟨KeepTy.refl _ _⟩⟩
  case round =>
    obtain ⟨m, cs, rfl, HI, HW, HB, HK⟩ := hrel
    obtain ⟨W, rfl⟩ : ∃ W : World, W = wr := ⟨_, rfl⟩
    obtain ⟨hbg, v, hv, hR⟩ := HW.out
    have HV := Aside0.mk hv
    have HRR := Aside0.mk hR
    have c0 : W.cell? ⟨g, 0, none⟩ = some v := blk_cell hv 0
    have hgl : g < W.heap.size := blk_lt hv
    clear hv hR
    have m0 := HI.out.1
    have m1 := HI.out.2.1
    by_cases hlt : 128 ≤ m
    · obtain ⟨k', rfl⟩ : ∃ k', gk = k' + 1 := by
        cases gk with
        | zero => have := HI.out.2.2.1; omega
        | succ k' => exact ⟨k', rfl⟩
      go_wp2_with (at_builtin; refine Kd.R_append (Kd.int .u8) (w0 := w) base rfl (.tmp 12) (.tmp 16) 51 5 (.int .u8 0) 1 rfl Try.underlying51 info5 rfl (by decide) (by omega) v cs (moreB m) [.int .u8 (moreB m)] (fun k => k ≠ g) (fun _ => False) rfl rfl ?aP (fun _ hk => hk.elim) ?aF HRR.out HB.out.1 HB.out.2 ?aL ?_; (case aP => exact rfl); (case aF => exact fun k hk => by omega); (case aL => have := HI.out; omega); intro v1 w2 ho hb hg hat; have HO := Aside0.mk ho; have HB4 := Aside0.mk hb; have HK4 := Aside0.mk (HK.out.grown HRR.out hg); have HG4 := Aside0.mk (blk_grown HV.out hg (Kd.R_away HRR.out (fun _ hk => hk))); have hsz := Aside0.mk hg.size; clear ho hb hg hat; have d0 : w2.cell? ⟨g, 0, none⟩ = some v := blk_cell HG4.out 0; have f0 := blk_frozen HG4.out 0; obtain ⟨A1, c1, rfl⟩ := Kd.R_slice HO.out)
      go_roundg k'
      case measure => omega
      case rel =>
        obtain ⟨i0, i1, i2, i3, i4⟩ := HI.out
        simp only [uintB] at i3
        rw [if_pos hlt] at i3
        have hq : (128 : Int) ^ (k' + 1) = 128 ^ k' * 128 := Int.pow_succ _ _
        rw [hq] at i2
        generalize (128 : Int) ^ k' = q at i2 ⊢
        refine ⟨m / 128, cs ++ [moreB m], rfl, ⟨by omega, by omega, by omega, by rw [List.append_assoc]; exact i3, by simp; omega⟩, ⟨WS.put hbg HG4.out (by simpa using HO.out)⟩, ⟨HB4.out.setCell hbg _, by have := HB.out.2; have := hsz.out; simp; omega⟩, ⟨HK4.out.set _⟩⟩
    · go_wp2_with (at_builtin; refine Kd.R_append (Kd.int .u8) (w0 := w) base rfl (.tmp 24) (.tmp 27) 51 5 (.int .u8 0) 1 rfl Try.underlying51 info5 rfl (by decide) (by omega) v cs m [.int .u8 m] (fun k => k ≠ g) (fun _ => False) rfl rfl ?aP (fun _ hk => hk.elim) ?aF HRR.out HB.out.1 HB.out.2 ?aL ?_; (case aP => exact rfl); (case aF => exact fun k hk => by omega); (case aL => have := HI.out; omega); intro v1 w2 ho hb hg hat; have HO := Aside0.mk ho; have HB4 := Aside0.mk hb; have HK4 := Aside0.mk (HK.out.grown HRR.out hg); have HG4 := Aside0.mk (blk_grown HV.out hg (Kd.R_away HRR.out (fun _ hk => hk))); have hsz := Aside0.mk hg.size; clear ho hb hg hat; have d0 : w2.cell? ⟨g, 0, none⟩ = some v := blk_cell HG4.out 0; have f0 := blk_frozen HG4.out 0; obtain ⟨A1, c1, rfl⟩ := Kd.R_slice HO.out)
      first | go_end0 | ((try simp only [Exit.inBlock, Exit.then]); refine bodyPost_ret (results_none rfl _ _ _) rfl ?_)
      obtain ⟨i0, i1, i2, i3, i4⟩ := HI.out
      rw [uintB_end gk m (by omega), show m % 256 = m from Int.emod_eq_of_lt m0 (by omega)] at i3
      rw [← i3]
      exact ⟨rfl, WS.put hbg HG4.out (by simpa using HO.out), HB4.out.setCell hbg _, HK4.out.set _⟩
def zigF (n : Int) : Int := Go.bits .xor .u64 (IntKind.u64.wrap ((IntKind.u64.wrap n) * 2)) (IntKind.u64.wrap (n / 9223372036854775808))
def intB (n : Int) : List Int := uintB 9 (zigF n)
set_option maxHeartbeats 2000000 in
set_option maxRecDepth 100000 in
theorem wint_calls (base g : Nat) (bs : List Int) (n : Int) (hz : 0 ≤ zigF n ∧ zigF n < 18446744073709551616) (w : World) (hs : WS base g bs w) (hbase : base ≤ w.heap.size) (hl : bs.length ≤ 1000000000) :
    Calls Try.prog 46 #[.pointer (some ⟨g, 0, none⟩), .int .i64 n] w fun e w' => e = .returned (.tuple #[]) ∧ WS base g (bs ++ intB n) w' ∧ Below base w w' ∧ KeepTy g w w' := by
  have HS := Aside0.mk hs
  clear hs
  go_enter Try.func46, Try.ntmps46
  go_wp2_with (first | (go_at_call 65; refine (wire_zigzag.calls n (zigF n) _ rfl).mono ?_; rintro e w1 ⟨rfl, ⟨nd, rfl⟩⟩) | (go_at_call 47; refine (uint_calls base g bs (zigF n) hz.1 hz.2 _ (HS.out.drawn _) hbase hl).mono ?_; rintro e w2 ⟨rfl, hW, hB, hK⟩))
  first | go_end0 | ((try simp only [Exit.inBlock, Exit.then]); refine bodyPost_ret (results_none rfl _ _ _) rfl ?_)
  exact ⟨rfl, hW, ⟨hB.os, hB.tape, hB.output, hB.size, hB.block⟩, hK⟩
theorem emptyR (w : World) : Kd.R (Kd.int .u8) 5 (w.alloc (.cells #[] 5)) w.heap.size (fun _ => True) (.slice (some ⟨w.heap.size, 0, none⟩) 0 0) [] := by
  refine ⟨fun _ _ => trivial, [], ?_, ?_⟩
  · have := World.ownsRow_lit (base := w.heap.size) (e := 5) (size := 1) w #[] 0 (Nat.le_refl _) (by simp) (by simp)
    exact this
  · exact Reps.none _ _
set_option maxHeartbeats 2000000 in
set_option maxRecDepth 100000 in
theorem clone_calls (A : Option Addr) (n c : Nat) (bs : List Int) (base : Nat) (ok : Nat → Prop) (w : World) (hR : Kd.R (Kd.int .u8) 5 w base ok (.slice A n c) bs) (hl : bs.length ≤ 1000000000) :
    Calls Try.prog 51 #[.slice A n c] w fun e w' => ∃ v, e = .returned v ∧ Kd.R (Kd.int .u8) 5 w' w.heap.size (fun _ => True) v bs ∧ Below w.heap.size w w' := by
  have hu51 := Try.underlying51
  obtain ⟨hn, hc, hC⟩ := Kd.R_reads' hR
  subst hn
  have HC := Aside0.mk hC
  clear hR hC
  cases A with
  | none =>
    have h0 : bs = [] := by
      cases bs with
      | nil => rfl
      | cons b bs =>
        obtain ⟨ad, e, _⟩ := HC.out.2.2 (by simp)
        cases e
    subst h0
    go_enter Try.func51, Try.ntmps51
    go_wp2
    go_ret
    exact ⟨_, rfl, Kd.R_nil _ _ _ _ _, Below.refl _ _⟩
  | some ad =>
    go_enter Try.func51, Try.ntmps51
    go_wp2_with (at_builtin; refine Kd.R_append_rows (Kd.int .u8) (w0 := w) w.heap.size rfl (.tmp 5) (.tmp 6) 51 5 (.int .u8 0) 1 rfl Try.underlying51 info5 rfl (by decide) (by omega) _ [] bs _ _ _ (fun _ => True) (fun _ => False) rfl rfl ?aO ?aR (fun _ _ h => h) (fun _ h => h.elim) (fun _ _ => trivial) ?aB ?aS ?aL ?_; (case aO => exact emptyR w); (case aR => exact Kd.C_alloc HC.out _); (case aB => exact below_alloc (Below.refl _ _) _); (case aS => simp); (case aL => simp; omega); intro v1 w2 ho hb hg hat; obtain ⟨A1, c1, rfl⟩ := Kd.R_slice ho)
    go_ret
    exact ⟨_, rfl, ho, hb⟩
set_option maxHeartbeats 2000000 in
set_option maxRecDepth 100000 in
theorem done_calls (base g : Nat) (bs : List Int) (w : World) (hs : WS base g bs w) (hl : bs.length ≤ 1000000000) :
    Calls Try.prog 29 #[.pointer (some ⟨g, 0, none⟩)] w fun e w' => ∃ v, e = .returned v ∧ Kd.R (Kd.int .u8) 5 w' w.heap.size (fun _ => True) v bs ∧ Below w.heap.size w w' := by
  obtain ⟨hbg, v, hv, hR⟩ := hs
  have HR := Aside0.mk hR
  clear hR
  obtain ⟨A, c, rfl⟩ := Kd.R_slice HR.out
  have c0 : w.cell? ⟨g, 0, none⟩ = some (.slice A bs.length c) := blk_cell hv 0
  have hgl : g < w.heap.size := blk_lt hv
  clear hv
  go_enter Try.func29, Try.ntmps29
  go_wp2_with (first | (go_at_call 51; refine (clone_calls A bs.length c bs base _ _ HR.out hl).mono ?_; rintro e w1 ⟨v1, rfl, hR1, hB1⟩))
  go_ret
  exact ⟨_, rfl, hR1, hB1⟩
end Go.Proofs.Ytgmbjgddelcceaa.P
