import Derived.Test.YtcbkcgnigncahaaEPx9
import Derived.Lib.SliceRun
import Derived.OpenShut
namespace Go.Proofs.Ytcbkcgnigncahaa.P.Wr
open Go.RowKit Go.Proofs.YtcbkcgnigncahaaW.PrintWords Go.Proofs.YtcbkcgnigncahaaW.PrintLast Go.Proofs.YtcbkcgnigncahaaW.PrintMore
attribute [local go_sem] max2_int min2_int max_two min_two max_three min_three max_four min_four
attribute [local go_sem] Go.Lib.run_eql_slice_nil
set_option linter.unusedVariables false
set_option linter.unusedSimpArgs false
/-- The writer at g has these bytes. -/
def WS (base g : Nat) (bs : List Int) (W : World) : Prop :=
  base ≤ g ∧ ∃ v, W.heap[g]? = some (.cells #[v] 66 (0, 0)) ∧ Kd.R (Kd.int .u8) 5 W base (fun k => k ≠ g) v bs
/-- Blocks of other types than bytes stay as they are, but for g's. -/
def KeepTy (g : Nat) (w w' : World) : Prop := ∀ (k : Nat) (cs : Array Value) (t : TypeId), w.heap[k]? = some (.cells cs t (0, 0)) → t ≠ 5 → k ≠ g → w'.heap[k]? = some (.cells cs t (0, 0))
theorem KeepTy.refl (g : Nat) (w : World) : KeepTy g w w := fun _ _ _ h _ _ => h
theorem KeepTy.trans {g : Nat} {w w1 w2 : World} (h : KeepTy g w w1) (k : KeepTy g w1 w2) : KeepTy g w w2 := fun i cs t hi ht hg => k i cs t (h i cs t hi ht hg) ht hg
theorem KeepTy.alloc {g : Nat} {w w1 : World} (h : KeepTy g w w1) (o : Obj) : KeepTy g w (w1.alloc o) := fun i cs t hi ht hg => blk_alloc (h i cs t hi ht hg) o
theorem KeepTy.set {g : Nat} {w w1 : World} (h : KeepTy g w w1) (u : Value) : KeepTy g w (w1.setCell ⟨g, 0, none⟩ u) := fun i cs t hi ht hg => blk_far (h i cs t hi ht hg) (by simpa using hg) u
theorem KeepTy.grown {g : Nat} {w w1 w2 : World} {base : Nat} {ok : Nat → Prop} {v : Value} {bs : List Int} (h : KeepTy g w w1) (hR : Kd.R (Kd.int .u8) 5 w1 base ok v bs) (hg : w1.grownBy w2 v.ownBlock) : KeepTy g w w2 := fun i cs t hi ht hgi =>
  blk_grown (h i cs t hi ht hgi) hg (Kd.R_ne hR (h i cs t hi ht hgi) (fun e => ht e.symm))
theorem KeepTy.below {g : Nat} {w w1 : World} (h : Below w.heap.size w w1) : KeepTy g w w1 := fun i cs t hi ht hg => blk_below hi h
theorem WS.drawn {base g : Nat} {bs : List Int} {W : World} (h : WS base g bs W) (n : Nat) : WS base g bs (W.drewN n) := by
  obtain ⟨h0, v, h1, h2⟩ := h
  exact ⟨h0, v, blk_drewN h1 n, Kd.R_drewN h2 n⟩
theorem WS.below {base g : Nat} {bs : List Int} {W W' : World} (h : WS base g bs W) (hb : Below W.heap.size W W') : WS base g bs W' := by
  obtain ⟨h0, v, h1, h2⟩ := h
  exact ⟨h0, v, blk_below h1 hb, Kd.R_below h2 hb⟩
def moreB (n : Int) : Int := Go.bits .or .u8 (n % 256) 128
def uintB : Nat → Int → List Int
  | 0, n => [n % 256]
  | k + 1, n => if 128 ≤ n then moreB n :: uintB k (n / 128) else [n % 256]
theorem uintB_end (k : Nat) (n : Int) (h : ¬ 128 ≤ n) : uintB k n = [n % 256] := by
  cases k with
  | zero => rfl
  | succ k => simp only [uintB]; rw [if_neg h]
theorem WS.put {base g : Nat} {bs : List Int} {W : World} {v1 v : Value} (h0 : base ≤ g) (hg : W.heap[g]? = some (.cells #[v] 66 (0, 0))) (hR : Kd.R (Kd.int .u8) 5 W base (fun k => k ≠ g) v1 bs) : WS base g bs (W.setCell ⟨g, 0, none⟩ v1) :=
  ⟨h0, v1, blk_put hg 0 v1 rfl, Kd.R_keep hR ((KeepBut.refl W g none).set_ 0 v1) (fun _ h => h)⟩
set_option maxHeartbeats 2000000 in
set_option maxRecDepth 100000 in
theorem uint_calls (base g : Nat) (bs : List Int) (n : Int) (h0 : 0 ≤ n) (h1 : n < 18446744073709551616) (w : World) (hs : WS base g bs w) (hbase : base ≤ w.heap.size) (hl : bs.length ≤ 1000000000) :
    Calls Try.prog 65 #[.pointer (some ⟨g, 0, none⟩), .int .u64 n] w fun e w' => e = .returned (.tuple #[]) ∧ WS base g (bs ++ uintB 9 n) w' ∧ Below base w w' ∧ KeepTy g w w' := by
  have HS := Aside0.mk hs
  clear hs
  go_enter Try.func65, Try.ntmps65
  go_wp2
  go_loopg [1] 9 (fun kq v1 wr => ∃ (m : Int) (cs : List Int), v1 = .int .u64 m ∧ Aside0 (0 ≤ m ∧ m < 18446744073709551616 ∧ m < 128 * 128 ^ kq ∧ cs ++ uintB kq m = bs ++ uintB 9 n ∧ cs.length + kq = bs.length + 9) ∧ Aside0 (WS base g cs wr) ∧ Aside0 (Below base w wr ∧ base ≤ wr.heap.size) ∧ Aside0 (KeepTy g w wr))
  case atStart => exact ⟨n, bs, rfl, ⟨h0, h1, Int.lt_of_lt_of_le h1 (by decide), rfl, rfl⟩, HS, ⟨Below.refl _ _, hbase⟩, ⟨KeepTy.refl _ _⟩⟩
  case round =>
    obtain ⟨m, cs, rfl, HI, HW, HB, HK⟩ := hrel
    obtain ⟨W, rfl⟩ : ∃ W : World, W = wr := ⟨_, rfl⟩
    obtain ⟨hbg, v, hv, hR⟩ := HW.out
    have HV := Aside0.mk hv
    have HRR := Aside0.mk hR
    have c0 : W.cell? ⟨g, 0, none⟩ = some v := blk_cell hv 0
    have hgl : g < W.heap.size := blk_lt hv
    clear hv hR
    have m0 := HI.out.1
    have m1 := HI.out.2.1
    by_cases hlt : 128 ≤ m
    · obtain ⟨k', rfl⟩ : ∃ k', gk = k' + 1 := by
        cases gk with
        | zero => have := HI.out.2.2.1; omega
        | succ k' => exact ⟨k', rfl⟩
      go_wp2_with (at_builtin; refine Kd.R_append (Kd.int .u8) (w0 := w) base rfl (.tmp 12) (.tmp 16) 63 5 (.int .u8 0) 1 rfl Try.underlying63 info5 rfl (by decide) (by omega) v cs (moreB m) [.int .u8 (moreB m)] (fun k => k ≠ g) (fun _ => False) rfl rfl ?aP (fun _ hk => hk.elim) ?aF HRR.out HB.out.1 HB.out.2 ?aL ?_; (case aP => exact rfl); (case aF => exact fun k hk => by omega); (case aL => have := HI.out; omega); intro v1 w2 ho hb hg hat; have HO := Aside0.mk ho; have HB4 := Aside0.mk hb; have HK4 := Aside0.mk (HK.out.grown HRR.out hg); have HG4 := Aside0.mk (blk_grown HV.out hg (Kd.R_away HRR.out (fun _ hk => hk))); have hsz := Aside0.mk hg.size; clear ho hb hg hat; have d0 : w2.cell? ⟨g, 0, none⟩ = some v := blk_cell HG4.out 0; have f0 := blk_frozen HG4.out 0; obtain ⟨A1, c1, rfl⟩ := Kd.R_slice HO.out)
      go_roundg k'
      case measure => omega
      case rel =>
        obtain ⟨i0, i1, i2, i3, i4⟩ := HI.out
        simp only [uintB] at i3
        rw [if_pos hlt] at i3
        have hq : (128 : Int) ^ (k' + 1) = 128 ^ k' * 128 := Int.pow_succ _ _
        rw [hq] at i2
        generalize (128 : Int) ^ k' = q at i2 ⊢
        refine ⟨m / 128, cs ++ [moreB m], rfl, ⟨by omega, by omega, by omega, by rw [List.append_assoc]; exact i3, by simp; omega⟩, ⟨WS.put hbg HG4.out (by simpa using HO.out)⟩, ⟨HB4.out.setCell hbg _, by have := HB.out.2; have := hsz.out; simp; omega⟩, ⟨HK4.out.set _⟩⟩
    · go_wp2_with (at_builtin; refine Kd.R_append (Kd.int .u8) (w0 := w) base rfl (.tmp 24) (.tmp 27) 63 5 (.int .u8 0) 1 rfl Try.underlying63 info5 rfl (by decide) (by omega) v cs m [.int .u8 m] (fun k => k ≠ g) (fun _ => False) rfl rfl ?aP (fun _ hk => hk.elim) ?aF HRR.out HB.out.1 HB.out.2 ?aL ?_; (case aP => exact rfl); (case aF => exact fun k hk => by omega); (case aL => have := HI.out; omega); intro v1 w2 ho hb hg hat; have HO := Aside0.mk ho; have HB4 := Aside0.mk hb; have HK4 := Aside0.mk (HK.out.grown HRR.out hg); have HG4 := Aside0.mk (blk_grown HV.out hg (Kd.R_away HRR.out (fun _ hk => hk))); have hsz := Aside0.mk hg.size; clear ho hb hg hat; have d0 : w2.cell? ⟨g, 0, none⟩ = some v := blk_cell HG4.out 0; have f0 := blk_frozen HG4.out 0; obtain ⟨A1, c1, rfl⟩ := Kd.R_slice HO.out)
      first | go_end0 | ((try simp only [Exit.inBlock, Exit.then]); refine bodyPost_ret (results_none rfl _ _ _) rfl ?_)
      obtain ⟨i0, i1, i2, i3, i4⟩ := HI.out
      rw [uintB_end gk m (by omega), show m % 256 = m from Int.emod_eq_of_lt m0 (by omega)] at i3
      rw [← i3]
      exact ⟨rfl, WS.put hbg HG4.out (by simpa using HO.out), HB4.out.setCell hbg _, HK4.out.set _⟩
def wire_zigzag.f (a0 : Int) : Option (Int) := some (Go.bits .xor .u64 (IntKind.u64.wrap ((IntKind.u64.wrap (a0)) * 2)) (IntKind.u64.wrap (a0 / 9223372036854775808)))
set_option maxHeartbeats 8000000 in
set_option maxRecDepth 100000 in
theorem wire_zigzag.calls (a0 : Int) (r : Int) (w : World) (h : wire_zigzag.f a0 = some r) :
    Calls Try.prog 88 #[.int .i64 a0] w fun e w' => e = .returned (.int .u64 r) ∧ Drawn0 w w' := by
  have H : (some (Go.bits .xor .u64 (IntKind.u64.wrap ((IntKind.u64.wrap (a0)) * 2)) (IntKind.u64.wrap (a0 / 9223372036854775808)))) = some r := h
  clear h
  obtain rfl := Option.some.inj H
  go_enter Try.func88, Try.ntmps88
  go_wp2
  go_ret
  exact ⟨by first | rfl | (simp; done) | (simp [*]; done), by repeat (first | exact Drawn0.refl _ | apply Drawn0.step)⟩
def zigF (n : Int) : Int := Go.bits .xor .u64 (IntKind.u64.wrap ((IntKind.u64.wrap n) * 2)) (IntKind.u64.wrap (n / 9223372036854775808))
def intB (n : Int) : List Int := uintB 9 (zigF n)
set_option maxHeartbeats 2000000 in
set_option maxRecDepth 100000 in
theorem wint_calls (base g : Nat) (bs : List Int) (n : Int) (hz : 0 ≤ zigF n ∧ zigF n < 18446744073709551616) (w : World) (hs : WS base g bs w) (hbase : base ≤ w.heap.size) (hl : bs.length ≤ 1000000000) :
    Calls Try.prog 63 #[.pointer (some ⟨g, 0, none⟩), .int .i64 n] w fun e w' => e = .returned (.tuple #[]) ∧ WS base g (bs ++ intB n) w' ∧ Below base w w' ∧ KeepTy g w w' := by
  have HS := Aside0.mk hs
  clear hs
  go_enter Try.func63, Try.ntmps63
  go_wp2_with (first | (go_at_call 88; refine (wire_zigzag.calls n (zigF n) _ rfl).mono ?_; rintro e w1 ⟨rfl, ⟨nd, rfl⟩⟩) | (go_at_call 65; refine (uint_calls base g bs (zigF n) hz.1 hz.2 _ (HS.out.drawn _) hbase hl).mono ?_; rintro e w2 ⟨rfl, hW, hB, hK⟩))
  first | go_end0 | ((try simp only [Exit.inBlock, Exit.then]); refine bodyPost_ret (results_none rfl _ _ _) rfl ?_)
  exact ⟨rfl, hW, ⟨hB.os, hB.tape, hB.output, hB.size, hB.block⟩, hK⟩
theorem emptyR (w : World) : Kd.R (Kd.int .u8) 5 (w.alloc (.cells #[] 5)) w.heap.size (fun _ => True) (.slice (some ⟨w.heap.size, 0, none⟩) 0 0) [] := by
  refine ⟨fun _ _ => trivial, [], ?_, ?_⟩
  · have := World.ownsRow_lit (base := w.heap.size) (e := 5) (size := 1) w #[] 0 (Nat.le_refl _) (by simp) (by simp)
    exact this
  · exact Reps.none _ _
set_option maxHeartbeats 2000000 in
set_option maxRecDepth 100000 in
theorem clone_calls (A : Option Addr) (n c : Nat) (bs : List Int) (base : Nat) (ok : Nat → Prop) (w : World) (hR : Kd.R (Kd.int .u8) 5 w base ok (.slice A n c) bs) (hl : bs.length ≤ 1000000000) :
    Calls Try.prog 67 #[.slice A n c] w fun e w' => ∃ v, e = .returned v ∧ Kd.R (Kd.int .u8) 5 w' w.heap.size (fun _ => True) v bs ∧ Below w.heap.size w w' := by
  have hu63 := Try.underlying63
  obtain ⟨hn, hc, hC⟩ := Kd.R_reads' hR
  subst hn
  have HC := Aside0.mk hC
  clear hR hC
  cases A with
  | none =>
    have h0 : bs = [] := by
      cases bs with
      | nil => rfl
      | cons b bs =>
        obtain ⟨ad, e, _⟩ := HC.out.2.2 (by simp)
        cases e
    subst h0
    go_enter Try.func67, Try.ntmps67
    go_wp2
    go_ret
    exact ⟨_, rfl, Kd.R_nil _ _ _ _ _, Below.refl _ _⟩
  | some ad =>
    go_enter Try.func67, Try.ntmps67
    go_wp2_with (at_builtin; refine Kd.R_append_rows (Kd.int .u8) (w0 := w) w.heap.size rfl (.tmp 5) (.tmp 6) 63 5 (.int .u8 0) 1 rfl Try.underlying63 info5 rfl (by decide) (by omega) _ [] bs _ _ _ (fun _ => True) (fun _ => False) rfl rfl ?aO ?aR (fun _ _ h => h) (fun _ h => h.elim) (fun _ _ => trivial) ?aB ?aS ?aL ?_; (case aO => exact emptyR w); (case aR => exact Kd.C_alloc HC.out _); (case aB => exact below_alloc (Below.refl _ _) _); (case aS => simp); (case aL => simp; omega); intro v1 w2 ho hb hg hat; obtain ⟨A1, c1, rfl⟩ := Kd.R_slice ho)
    go_ret
    exact ⟨_, rfl, ho, hb⟩
set_option maxHeartbeats 2000000 in
set_option maxRecDepth 100000 in
theorem done_calls (base g : Nat) (bs : List Int) (w : World) (hs : WS base g bs w) (hl : bs.length ≤ 1000000000) :
    Calls Try.prog 34 #[.pointer (some ⟨g, 0, none⟩)] w fun e w' => ∃ v, e = .returned v ∧ Kd.R (Kd.int .u8) 5 w' w.heap.size (fun _ => True) v bs ∧ Below w.heap.size w w' := by
  obtain ⟨hbg, v, hv, hR⟩ := hs
  have HR := Aside0.mk hR
  clear hR
  obtain ⟨A, c, rfl⟩ := Kd.R_slice HR.out
  have c0 : w.cell? ⟨g, 0, none⟩ = some (.slice A bs.length c) := blk_cell hv 0
  have hgl : g < w.heap.size := blk_lt hv
  clear hv
  go_enter Try.func34, Try.ntmps34
  go_wp2_with (first | (go_at_call 67; refine (clone_calls A bs.length c bs base _ _ HR.out hl).mono ?_; rintro e w1 ⟨v1, rfl, hR1, hB1⟩))
  go_ret
  exact ⟨_, rfl, hR1, hB1⟩
theorem zig_range (n : Int) : 0 ≤ zigF n ∧ zigF n < 18446744073709551616 := by
  have h : (Lit.int .u64 (zigF n)).wf = true := wf_bits _ _ _ _
  simp [Lit.wf, IntKind.min, IntKind.max, IntKind.signed, IntKind.bits] at h
  omega
theorem uintB_len : ∀ (k : Nat) (n : Int), (uintB k n).length ≤ k + 1
  | 0, n => by simp [uintB]
  | k + 1, n => by
    simp only [uintB]
    split
    · have := uintB_len k (n / 128); simp; omega
    · simp
theorem intB_len (n : Int) : (intB n).length ≤ 10 := uintB_len 9 _
theorem initWS (w1 : World) : WS w1.heap.size w1.heap.size [] (w1.alloc (.cells #[.slice none 0 0] 66)) := ⟨Nat.le_refl _, _, blk_new _ _, Kd.R_nil _ _ _ _ _⟩
theorem rowU8 {w : World} {base : Nat} {v : Value} {xs : List Int} (h : w.ownsRow base 5 1 v xs.length (Go.Proofs.YtcbkcgnigncahaaW.PrintWords.nums .u8 xs)) (ok : Nat → Prop) (hok : ∀ k, v.ownBlock = some k → ok k) : Kd.R (Kd.int .u8) 5 w base ok v xs := by
  refine ⟨hok, Go.Proofs.YtcbkcgnigncahaaW.PrintWords.nums .u8 xs, h, ?_⟩
  refine ⟨by simp [Go.Proofs.YtcbkcgnigncahaaW.PrintWords.nums]; exact (Nat.mul_one _).symm, fun j p hj => ?_⟩
  have hjl : j < xs.length := (List.getElem?_eq_some_iff.1 hj).1
  have hp : xs[j] = p := (List.getElem?_eq_some_iff.1 hj).2
  have : ((Go.Proofs.YtcbkcgnigncahaaW.PrintWords.nums .u8 xs).drop (j * 1)).take 1 = [.int .u8 p] := by
    unfold Go.Proofs.YtcbkcgnigncahaaW.PrintWords.nums
    rw [Nat.mul_one, List.drop_eq_getElem_cons (by simpa using hjl)]
    simp [hp]
  show Kd.M _ _ _ _ _ (((Go.Proofs.YtcbkcgnigncahaaW.PrintWords.nums .u8 xs).drop (j * 1)).take 1)
  rw [this]
  exact rfl
theorem rowU8_inv {w : World} {base : Nat} {ok : Nat → Prop} {v : Value} {xs : List Int} (h : Kd.R (Kd.int .u8) 5 w base ok v xs) : w.ownsRow base 5 1 v xs.length (Go.Proofs.YtcbkcgnigncahaaW.PrintWords.nums .u8 xs) := by
  obtain ⟨_, inner, ho, hr⟩ := h
  have e : inner = Go.Proofs.YtcbkcgnigncahaaW.PrintWords.nums .u8 xs := by
    obtain ⟨hlen, hr⟩ := hr
    have hlen : inner.length = xs.length := by rw [hlen]; exact Nat.mul_one _
    refine List.ext_getElem (by rw [hlen]; simp [Go.Proofs.YtcbkcgnigncahaaW.PrintWords.nums]) ?_
    intro j h1 h2
    have := hr j (xs[j]'(by omega)) (List.getElem?_eq_getElem _)
    have h3 : (inner.drop (j * 1)).take 1 = [.int .u8 (xs[j]'(by omega))] := this
    rw [Nat.mul_one, List.drop_eq_getElem_cons h1] at h3
    simp only [List.take_succ_cons, List.take_zero, List.cons.injEq, and_true] at h3
    rw [h3]
    simp [Go.Proofs.YtcbkcgnigncahaaW.PrintWords.nums]
  rw [← e]
  exact ho
set_option maxHeartbeats 2000000 in
set_option maxRecDepth 100000 in
theorem text_calls (base g : Nat) (bs : List Int) (y : ByteArray) (w : World) (hs : WS base g bs w) (hbase : base ≤ w.heap.size) (hl : bs.length ≤ 1000000000 - 10) (hy : y.size ≤ 1000000000) :
    Calls Try.prog 64 #[.pointer (some ⟨g, 0, none⟩), .string y] w fun e w' => e = .returned (.tuple #[]) ∧ WS base g (bs ++ uintB 9 (y.size : Int) ++ bytesOf y) w' ∧ Below base w w' ∧ KeepTy g w w' := by
  have HS := Aside0.mk hs
  clear hs
  have hul := uintB_len 9 (y.size : Int)
  have hwl : IntKind.u64.wrap (y.size : Int) = (y.size : Int) := by
    have : IntKind.u64.wrap (y.size : Int) = (y.size : Int) % 18446744073709551616 := by simp [IntKind.wrap, IntKind.signed, IntKind.bits]
    rw [this]; omega
  go_enter Try.func64, Try.ntmps64
  go_wp2_with fail
  refine (uint_calls base g bs (y.size : Int) (by omega) (by omega) _ HS.out hbase (by omega)).mono ?_
  rintro e w1 ⟨rfl, hW, hB, hK⟩
  have HW := Aside0.mk hW
  have HB := Aside0.mk hB
  have HK := Aside0.mk hK
  obtain ⟨hbg, v, hv, hR⟩ := hW
  have HV := Aside0.mk hv
  have HRR := Aside0.mk hR
  have c0 : w1.cell? ⟨g, 0, none⟩ = some v := blk_cell hv 0
  have hb1 : base ≤ w1.heap.size := Nat.le_trans hbase hB.size
  clear hv hR hB hK
  go_wp2_with (at_builtin; refine print_append_str (w0 := w1) base rfl (.tmp 13) (.tmp 14) 63 9 5 rfl Try.underlying63 Try.underlying9 info5 v (bs ++ uintB 9 (y.size : Int)) y rfl rfl (rowU8_inv HRR.out) (Below.refl _ _) hb1 ?aL ?_; (case aL => rw [List.length_append]; omega); intro v1 w2 ho hb hg; have HO := Aside0.mk ho; have HB4 := Aside0.mk hb; have HK4 := Aside0.mk ((KeepTy.refl g w1).grown HRR.out hg); have HG4 := Aside0.mk (blk_grown HV.out hg (Kd.R_away HRR.out (fun _ hk => hk))); have hsz := Aside0.mk hg.size; clear ho hb hg; have d0 : w2.cell? ⟨g, 0, none⟩ = some v := blk_cell HG4.out 0; have f0 := blk_frozen HG4.out 0; obtain ⟨A1, c1, rfl⟩ : ∃ A1 c1, v1 = .slice A1 (bs ++ uintB 9 (y.size : Int) ++ bytesOf y).length c1 := Kd.R_slice (rowU8 HO.out (fun _ => True) (fun _ _ => trivial)))
  first | go_end0 | ((try simp only [Exit.inBlock, Exit.then]); refine bodyPost_ret (results_none rfl _ _ _) rfl ?_)
  refine ⟨rfl, WS.put hbg HG4.out ?_, (HB.out.trans HB4.out).setCell hbg _, (HK.out.trans HK4.out).set _⟩
  have h1 := rowU8 HO.out (fun k => k ≠ g) (fun k hk e => by
    obtain ⟨cells, hc⟩ := own_typed HO.out k hk
    rw [e, HG4.out] at hc
    injection hc with hc
    injection hc with _ hc
    exact absurd hc (by decide))
  simpa using h1
def U8s (xs : List Int) : Prop := ∀ x ∈ xs, 0 ≤ x ∧ x < 256
theorem bytes_back (xs : List Int) (h : U8s xs) : bytesOf (strOfNums xs) = xs := by
  unfold Go.Proofs.YtcbkcgnigncahaaW.PrintWords.bytesOf
  rw [strOfNums_data, List.map_map]
  refine (List.map_congr_left fun x hx => ?_).trans (List.map_id xs)
  have := h x hx
  show (((UInt8.ofNat x.toNat).toNat : Nat) : Int) = x
  rw [UInt8.toNat_ofNat']
  omega
set_option maxHeartbeats 1000000 in
theorem wraw_calls (base g : Nat) (bs : List Int) (A : Option Addr) (c : Nat) (ys : List Int) (w : World) (hs : WS base g bs w) (hbase : base ≤ w.heap.size) (hl : bs.length ≤ 1000000000 - 10) (hC : Kd.C (Kd.int .u8) w A ys.length ys) (hc : ys.length ≤ c) (hy : ys.length ≤ 1000000000) (hu : U8s ys) :
    Calls Try.prog 32 #[.pointer (some ⟨g, 0, none⟩), .slice A ys.length c] w fun e w' => e = .returned (.tuple #[]) ∧ WS base g (bs ++ uintB 9 (ys.length : Int) ++ ys) w' ∧ Below base w w' ∧ KeepTy g w w' := by
  have HS := Aside0.mk hs
  have hcv := Kd.C_string (P := Try.prog) (c := c) Try.underlying63 Try.underlying5 Try.underlying9 hC
  clear hs
  have hsz : (strOfNums ys).size = ys.length := strOfNums_size ys
  have HSZ := Aside0.mk hsz
  have HB := Aside0.mk (bytes_back ys hu)
  obtain ⟨y, hy2⟩ : ∃ y, y = strOfNums ys := ⟨_, rfl⟩
  rw [← hy2] at hcv HSZ HB
  clear hsz hy2 hC
  have hys : y.size ≤ 1000000000 := by rw [HSZ.out]; exact hy
  go_enter Try.func32, Try.ntmps32
  go_wp2_with (go_at_call 64; (with_reducible refine (text_calls base g bs y _ HS.out hbase hl hys).mono ?_); rintro e w1 ⟨rfl, hW, hB, hK⟩; have HH := Aside0.mk (And.intro hW (And.intro hB hK)); clear hW hB hK)
  first | go_end0 | ((try simp only [Exit.inBlock, Exit.then]); refine bodyPost_ret (results_none rfl _ _ _) rfl ?_)
  obtain ⟨h1, h2, h3⟩ := HH.out
  rw [HSZ.out, HB.out] at h1
  exact ⟨rfl, h1, h2, h3⟩
set_option maxHeartbeats 1000000 in
set_option maxRecDepth 100000 in
theorem few_calls (A : Option Addr) (c : Nat) (bs : List Int) (m : Int) (w : World) (hC : Kd.C (Kd.int .u8) w A bs.length bs) (hc : bs.length ≤ c) (hl : bs.length ≤ 140737488351232) (hm : 0 ≤ m) :
    Calls Try.prog 39 #[.slice A bs.length c, .int .i64 m] w fun e w' => ∃ v, e = .returned v ∧ Kd.R (Kd.int .u8) 5 w' w.heap.size (fun _ => True) v (bs.take m.toNat) ∧ Below w.heap.size w w' := by
  have HC := Aside0.mk hC
  clear hC
  obtain ⟨q0, hq0, _, hqsz, _⟩ := info_parts info5
  by_cases hlt : m < (bs.length : Int)
  · have hcut := cut_to (P := Try.prog) 63 5 .i64 Try.underlying63 hq0 A bs.length c m hm (by omega) hc
    have htl : (bs.take m.toNat).length = m.toNat := by rw [List.length_take]; omega
    have HT := Aside0.mk (Kd.C_take (m := m.toNat) HC.out (by omega))
    rw [htl] at HT
    clear htl hqsz hq0
    go_enter Try.func39, Try.ntmps39
    go_wp2_with (at_builtin; refine Kd.R_append_rows (Kd.int .u8) (w0 := w) w.heap.size rfl (.tmp 6) (.tmp 12) 63 5 (.int .u8 0) 1 rfl Try.underlying63 info5 rfl (by decide) (by omega) (.slice none 0 0) ([] : List Int) (bs.take m.toNat) A m.toNat c (fun _ => True) (fun _ => False) rfl rfl ?aO ?aR (fun _ _ h => h) (fun _ h => h.elim) (fun _ _ => trivial) ?aB ?aS ?aL ?_; (case aO => exact Kd.R_nil _ _ _ _ _); (case aR => exact HT.out); (case aB => exact Below.refl _ _); (case aS => exact Nat.le_refl _); (case aL => simp; omega); intro v1 w2 ho hb hg hat; rw [List.nil_append] at ho; obtain ⟨A1, c1, rfl⟩ := Kd.R_slice ho)
    go_ret
    exact ⟨_, rfl, by simpa using ho, hb⟩
  · have hcut := cut_to (P := Try.prog) 63 5 .i64 Try.underlying63 hq0 A bs.length c (bs.length : Int) (by omega) (by omega) hc
    have HT : Aside0 (bs.take m.toNat = bs) := ⟨List.take_of_length_le (by omega)⟩
    clear hqsz hq0
    go_enter Try.func39, Try.ntmps39
    go_wp2_with (at_builtin; refine Kd.R_append_rows (Kd.int .u8) (w0 := w) w.heap.size rfl (.tmp 6) (.tmp 12) 63 5 (.int .u8 0) 1 rfl Try.underlying63 info5 rfl (by decide) (by omega) (.slice none 0 0) ([] : List Int) bs A bs.length c (fun _ => True) (fun _ => False) rfl rfl ?aO ?aR (fun _ _ h => h) (fun _ h => h.elim) (fun _ _ => trivial) ?aB ?aS ?aL ?_; (case aO => exact Kd.R_nil _ _ _ _ _); (case aR => exact HC.out); (case aB => exact Below.refl _ _); (case aS => exact Nat.le_refl _); (case aL => simp; omega); intro v1 w2 ho hb hg hat; rw [List.nil_append] at ho; obtain ⟨A1, c1, rfl⟩ := Kd.R_slice ho)
    go_ret
    rw [HT.out]
    exact ⟨_, rfl, ho, hb⟩
def boolB (b : Bool) : List Int := uintB 9 (if b then 1 else 0)
set_option maxHeartbeats 2000000 in
theorem wbool_calls (base g : Nat) (bs : List Int) (b : Bool) (w : World) (hs : WS base g bs w) (hbase : base ≤ w.heap.size) (hl : bs.length ≤ 1000000000) :
    Calls Try.prog 66 #[.pointer (some ⟨g, 0, none⟩), .bool b] w fun e w' => e = .returned (.tuple #[]) ∧ WS base g (bs ++ boolB b) w' ∧ Below base w w' ∧ KeepTy g w w' := by
  have HS := Aside0.mk hs
  clear hs
  cases b with
  | true =>
    go_enter Try.func66, Try.ntmps66
    go_wp2_with (go_at_call 65; (with_reducible refine (uint_calls base g bs 1 (by omega) (by omega) _ HS.out hbase hl).mono ?_); rintro e w1 ⟨rfl, hW, hB, hK⟩; have HH := Aside0.mk (And.intro hW (And.intro hB hK)); clear hW hB hK)
    first | go_end0 | ((try simp only [Exit.inBlock, Exit.then]); refine bodyPost_ret (results_none rfl _ _ _) rfl ?_)
    obtain ⟨h1, h2, h3⟩ := HH.out
    exact ⟨rfl, h1, h2, h3⟩
  | false =>
    go_enter Try.func66, Try.ntmps66
    go_wp2_with (go_at_call 65; (with_reducible refine (uint_calls base g bs 0 (by omega) (by omega) _ HS.out hbase hl).mono ?_); rintro e w1 ⟨rfl, hW, hB, hK⟩; have HH := Aside0.mk (And.intro hW (And.intro hB hK)); clear hW hB hK)
    first | go_end0 | ((try simp only [Exit.inBlock, Exit.then]); refine bodyPost_ret (results_none rfl _ _ _) rfl ?_)
    obtain ⟨h1, h2, h3⟩ := HH.out
    exact ⟨rfl, h1, h2, h3⟩
end Go.Proofs.Ytcbkcgnigncahaa.P.Wr
