import Derived.Test.YtcbkcgnigncahaaEGivenZb
import Derived.Test.YtcbkcgnigncahaaEPx9
import Derived.OpenShut
import Derived.Maps.Range
namespace Go.Proofs.Ytcbkcgnigncahaa.P.Wr
open Go.RowKit Go.Proofs.YtcbkcgnigncahaaW.PrintWords Go.Proofs.YtcbkcgnigncahaaW.PrintLast Go.Proofs.YtcbkcgnigncahaaW.PrintMore
attribute [local go_sem] max2_int min2_int max_two min_two max_three min_three max_four min_four
attribute [local go_sem] Go.Lib.run_eql_slice_nil
set_option linter.unusedVariables false
set_option linter.unusedSimpArgs false
theorem grown_drewN {w w1 : World} {row : Option Nat} (h : w.grownBy w1 row) (n : Nat) : w.grownBy (w1.drewN n) row := ⟨h.os, h.tape, h.output, h.size, h.block⟩
def unzigF (z : Int) : Int := Go.bits .xor .i64 (wrap64 (z / 2)) (wrap64 (-(wrap64 (Go.bits .and .u64 z 1))))
def rintF (s : Rd) : Int × Rd := (unzigF (uintF s).1, (uintF s).2)
set_option maxHeartbeats 1000000 in
theorem rint_calls {ok : Nat → Prop} (g : Nat) (s : Rd) (w : World) (hs : RS ok g s w) :
    Calls Try.prog 72 #[.pointer (some ⟨g, 0, none⟩)] w fun e w' => e = .returned (.int .i64 (rintF s).1) ∧ RS ok g (rintF s).2 w' ∧ w.grownBy w' (some g) := by
  have HS := Aside0.mk hs
  clear hs
  go_enter Try.func72, Try.ntmps72
  go_wp2_with (first | (go_at_call 74; (with_reducible refine (ruint_calls g s _ HS.out).mono ?_); rintro e w1 ⟨rfl, hs1, hg1⟩; have HS1 := Aside0.mk (And.intro hs1 hg1); clear hs1 hg1) | (go_at_call 90; (with_reducible refine (wire_unzigzag.calls (uintF s).1 (unzigF (uintF s).1) _ rfl).mono ?_); rintro e w2 ⟨rfl, ⟨nd, rfl⟩⟩))
  go_ret
  exact ⟨rfl, HS1.out.1.drawn _, grown_drewN HS1.out.2 _⟩
theorem RS.narrow {ok : Nat → Prop} {g : Nat} {s : Rd} {W : World} (h : RS ok g s W) : RS (fun k => ok k ∧ k < W.heap.size) g s W := by
  obtain ⟨A, c, h1, h2, h3, h4⟩ := h
  refine ⟨A, c, h1, h2, h3, fun ad e hp => ⟨⟨(h4 ad e hp).1, ?_⟩, (h4 ad e hp).2⟩⟩
  obtain ⟨ad', e', hc⟩ := Kd.at_int h3 0 (by omega) (by omega)
  rw [e] at e'
  obtain rfl := Option.some.inj e'
  have := World.block_lt_of_cell? _ _ hc
  simpa [Addr.add] using this
theorem RS.mono {ok ok' : Nat → Prop} {g : Nat} {s : Rd} {W : World} (h : RS ok g s W) (hk : ∀ k, ok k → ok' k) : RS ok' g s W := by
  obtain ⟨A, c, h1, h2, h3, h4⟩ := h
  exact ⟨A, c, h1, h2, h3, fun ad e hp => ⟨hk _ (h4 ad e hp).1, (h4 ad e hp).2⟩⟩
theorem RS.grown {ok : Nat → Prop} {g : Nat} {s : Rd} {W W1 : World} {row : Option Nat} (h : RS ok g s W) (hg : W.grownBy W1 row) (hne : some g ≠ row) (hok : ∀ k, ok k → some k ≠ row) : RS ok g s W1 := by
  obtain ⟨A, c, h1, h2, h3, h4⟩ := h
  refine ⟨A, c, (hg.block g (blk_lt h1) hne).trans h1, h2, ?_, h4⟩
  cases row with
  | none => exact Kd.C_keep (W := W1) (g := W.heap.size) 0 h3 ⟨hg.size, fun k hk _ _ => hg.block k hk (by simp)⟩ (fun ad e hp => by
      obtain ⟨ad', e', hc⟩ := Kd.at_int h3 0 (by omega) (by omega)
      rw [e] at e'
      obtain rfl := Option.some.inj e'
      have := World.block_lt_of_cell? _ _ hc
      simp [Addr.add] at this
      omega)
  | some r => exact Kd.C_keep (W := W1) (g := r) 0 h3 ⟨hg.size, fun k hk hne _ => hg.block k hk (fun e => hne (Option.some.inj e))⟩ (fun ad e hp => fun e' => hok _ (h4 ad e hp).1 (by rw [e']))
def lenBad (z : Int) (s : Rd) : Bool := decide (z > (s.b.length : Int))
def listF (s : Rd) : List Int × Rd :=
  if (if lenBad (uintF s).1 (uintF s).2 then (uintF s).2.fail 3 else (uintF s).2).e = 0 then ((uintF s).2.b.take (uintF s).1.toNat, ⟨(uintF s).2.b.drop (uintF s).1.toNat, 0⟩)
  else ([], if lenBad (uintF s).1 (uintF s).2 then (uintF s).2.fail 3 else (uintF s).2)
theorem R_below_ne {w : World} {base : Nat} {ok : Nat → Prop} {v : Value} {bs : List Int} (h : Kd.R (Kd.int .u8) 5 w base ok v bs) (k : Nat) (hk : k < base) : some k ≠ v.ownBlock := by
  obtain ⟨inner, ho⟩ := Kd.R_own h
  intro e
  have := own_base ho k e.symm
  omega
theorem uintL_nn : ∀ (k : Nat) (i n : Int) (s : Rd), 0 ≤ n → 0 ≤ (uintL k i n s).1
  | 0, _, _, _, _ => Int.le_refl _
  | k + 1, i, n, s, h => by
    have hb : 0 ≤ accN n i (nextF s).1 := by
      have h : (Lit.int .u64 (accN n i (nextF s).1)).wf = true := wf_bits _ _ _ _
      simp [Lit.wf, IntKind.min, IntKind.max, IntKind.signed, IntKind.bits] at h
      omega
    simp only [uintL]
    generalize (if badB i (nextF s).1 then (nextF s).2.fail 2 else (nextF s).2) = s2
    split
    · split
      · exact hb
      · exact uintL_nn k _ _ _ hb
    · exact Int.le_refl _
set_option maxHeartbeats 4000000 in
set_option maxRecDepth 100000 in
theorem list_calls {ok : Nat → Prop} (g : Nat) (s : Rd) (w : World) (hs : RS ok g s w) (hl : s.b.length ≤ 1000000000) (hul : (uintF s).2.b.length ≤ 1000000000) :
    Calls Try.prog 79 #[.pointer (some ⟨g, 0, none⟩), .func (.func 80) #[.pointer (some ⟨g, 0, none⟩)] #[]] w fun e w' => ∃ v, e = .returned v ∧ Kd.R (Kd.int .u8) 5 w' w.heap.size (fun k => k ≠ g) v (listF s).1 ∧ RS (fun k => ok k ∧ k < w.heap.size) g (listF s).2 w' ∧ w.grownBy w' (some g) := by
  have HS := Aside0.mk hs.narrow
  have hgl := hs.lt
  clear hs
  go_enter Try.func79, Try.ntmps79
  go_wp2_with fail
  refine (ruint_calls g s _ HS.out).mono ?_
  rintro e w1 ⟨rfl, hs1, hg1⟩
  have HS1 := Aside0.mk hs1
  have HG1 := Aside0.mk hg1
  have HQ : Aside0 (listF s = if (if lenBad (uintF s).1 (uintF s).2 then (uintF s).2.fail 3 else (uintF s).2).e = 0 then ((uintF s).2.b.take (uintF s).1.toNat, ⟨(uintF s).2.b.drop (uintF s).1.toNat, 0⟩)
    else ([], if lenBad (uintF s).1 (uintF s).2 then (uintF s).2.fail 3 else (uintF s).2)) := ⟨rfl⟩
  have hnn : 0 ≤ (uintF s).1 := uintL_nn 11 0 0 s (by omega)
  clear hs1 hg1
  generalize uintF s = r at HS1 HQ hnn hul
  obtain ⟨n, b1, e1⟩ := r
  simp only at HS1 HQ hnn hul
  obtain ⟨A, c, q1, q2, q3, q4⟩ := HS1.out
  have c0 : w1.cell? ⟨g, 0, none⟩ = some (.slice A b1.length c) := blk_cell q1 0
  clear q1 q2 q3 q4
  have hwl : IntKind.u64.wrap (b1.length : Int) = (b1.length : Int) := by
    have : IntKind.u64.wrap (b1.length : Int) = (b1.length : Int) % 18446744073709551616 := by simp [IntKind.wrap, IntKind.signed, IntKind.bits]
    rw [this]; omega
  obtain ⟨s2, hs2⟩ : ∃ s2 : Rd, s2 = if lenBad n ⟨b1, e1⟩ then Rd.fail ⟨b1, e1⟩ 3 else ⟨b1, e1⟩ := ⟨_, rfl⟩
  rw [← hs2] at HQ
  have HS2 := Aside0.mk hs2
  clear hs2
  go_upto_if 17 with fail
  go_cut [] (fun wx => Aside0 (RS (fun k => ok k ∧ k < w.heap.size) g s2 wx) ∧ Aside0 (w.grownBy wx (some g)))
  case first =>
    by_cases hlt : (b1.length : Int) < n
    · have hb : lenBad n ⟨b1, e1⟩ = true := decide_eq_true hlt
      rw [hb] at HS2
      clear hb
      go_wp2_with (go_at_call 91; (with_reducible refine (fail_calls g ⟨b1, e1⟩ 3 _ HS1.out).mono ?_); rintro e w2 ⟨rfl, hs3, hg3⟩)
      go_meet
      exact ⟨⟨by rw [HS2.out]; exact hs3⟩, ⟨HG1.out.trans hg3⟩⟩
    · have hb : lenBad n ⟨b1, e1⟩ = false := decide_eq_false hlt
      rw [hb] at HS2
      clear hb
      go_wp2
      go_meet
      exact ⟨⟨by rw [HS2.out]; exact HS1.out⟩, HG1⟩
  case rest =>
    obtain ⟨HS3, HG3⟩ := hcut
    have HN : Aside0 (s2.e = 0 → n ≤ b1.length ∧ s2.b = b1) := ⟨by
      intro he
      have h := HS2.out
      cases hb : lenBad n ⟨b1, e1⟩ with
      | true =>
        rw [hb] at h
        simp only [if_true] at h
        have := fail_e ⟨b1, e1⟩ 3 (by decide)
        rw [← h] at this
        exact absurd he this
      | false =>
        rw [hb] at h
        simp only [Bool.false_eq_true, if_false] at h
        have := of_decide_eq_false hb
        rw [h]
        exact ⟨by simp only at this; omega, rfl⟩⟩
    clear HS1 HG1 c0 HS2
    obtain ⟨b2, e2⟩ := s2
    obtain ⟨w3, rfl⟩ : ∃ w3 : World, w3 = wc := ⟨_, rfl⟩
    by_cases he : e2 = 0
    · subst he
      obtain ⟨hn, rfl⟩ := HN.out rfl
      have HQ2 : Aside0 (listF s = (b2.take n.toNat, ⟨b2.drop n.toNat, 0⟩)) := ⟨by have := HQ.out; rwa [if_pos rfl] at this⟩
      clear HQ HN
      go_wp2
      go_loopw [6, 7] (fun v6 v7 wr => ∃ (i : Int) (A6 : Option Addr) (m6 c6 : Nat), v6 = .slice A6 m6 c6 ∧ v7 = .int .u64 i ∧ Aside0 (0 ≤ i ∧ i ≤ n) ∧ Aside0 (Kd.R (Kd.int .u8) 5 wr w.heap.size (fun k => k ≠ g) (.slice A6 m6 c6) (b2.take i.toNat)) ∧ Aside0 (RS (fun k => ok k ∧ k < w.heap.size) g ⟨b2.drop i.toNat, 0⟩ wr) ∧ Aside0 (w.grownBy wr (some g))) (fun _ v7 _ => (n - intOf v7).toNat)
      case atStart => exact ⟨0, none, 0, 0, rfl, rfl, ⟨by omega, hnn⟩, ⟨Kd.R_nil _ _ _ _ _⟩, HS3, HG3⟩
      case round =>
        obtain ⟨i, A6, m6, c6, rfl, rfl, HI, HO, HR, HW⟩ := hrel
        obtain ⟨W, rfl⟩ : ∃ W : World, W = wr := ⟨_, rfl⟩
        have i0 := HI.out.1
        have d1 : W.cell? ⟨g, 1, none⟩ = some (.int .i64 0) := by obtain ⟨A, c, q1, q2, q3, q4⟩ := HR.out; exact blk_cell q1 1
        by_cases hlt : i < n
        · have hdr : b2.drop i.toNat = rd b2 i :: b2.drop (i + 1).toNat := by
            rw [show (i + 1).toNat = i.toNat + 1 from by omega, List.drop_eq_getElem_cons (show i.toNat < b2.length by omega)]
            congr 1
            simp [rd, List.getD_eq_getElem?_getD, List.getElem?_eq_getElem (show i.toNat < b2.length by omega)]
          have htk : b2.take (i + 1).toNat = b2.take i.toNat ++ [rd b2 i] := by
            rw [show (i + 1).toNat = i.toNat + 1 from by omega, List.take_succ_eq_append_getElem (show i.toNat < b2.length by omega)]
            congr 1
            simp [rd, List.getD_eq_getElem?_getD, List.getElem?_eq_getElem (show i.toNat < b2.length by omega)]
          have hnx : nextF ⟨b2.drop i.toNat, 0⟩ = (rd b2 i, ⟨b2.drop (i + 1).toNat, 0⟩) := by rw [hdr]; simp [nextF]
          have HTK := Aside0.mk htk
          have HNX := Aside0.mk hnx
          clear hdr htk hnx
          have hwi : IntKind.u64.wrap (i + 1) = i + 1 := by
            have : IntKind.u64.wrap (i + 1) = (i + 1) % 18446744073709551616 := by simp [IntKind.wrap, IntKind.signed, IntKind.bits]
            rw [this]; omega
          go_wp2_with fail
          refine (next_calls g ⟨b2.drop i.toNat, 0⟩ _ HR.out).mono ?_
          rw [HNX.out]
          rintro e w4 ⟨rfl, hs4, hg4⟩
          have HS4 := Aside0.mk hs4
          have HG4 := Aside0.mk hg4
          have HO4 := Aside0.mk (Kd.R_grown HO.out hg4 (fun k hk e => hk (Option.some.inj e)))
          have hsz := Aside0.mk hg4.size
          clear hs4 hg4
          have hbase : w.heap.size ≤ w4.heap.size := Nat.le_trans HW.out.size hsz.out
          go_wp2_with (at_builtin; refine Kd.R_append (Kd.int .u8) (w0 := w4) w.heap.size rfl (.tmp 32) (.tmp 35) 63 5 (.int .u8 0) 1 rfl Try.underlying63 info5 rfl (by decide) (by omega) (.slice A6 m6 c6) (b2.take i.toNat) (rd b2 i) [.int .u8 (rd b2 i)] (fun k => k ≠ g) (fun _ => False) rfl rfl ?aP (fun _ hk => hk.elim) ?aF HO4.out ?aB ?aS ?aL ?_; (case aP => exact rfl); (case aF => exact fun k hk => by omega); (case aB => exact Below.refl _ _); (case aS => exact hbase); (case aL => rw [List.length_take]; omega); intro v1 w5 ho hb hg hat; have HO5 := Aside0.mk ho; have HG5 := Aside0.mk hg; have hne := Aside0.mk (fun k (hk : k < w.heap.size) => R_below_ne HO4.out k hk); clear ho hb hg hat; obtain ⟨A7, c7, rfl⟩ := Kd.R_slice HO5.out)
          go_roundw
          case rel =>
            refine ⟨i + 1, A7, _, c7, rfl, rfl, ⟨by omega, by omega⟩, ⟨by rw [HTK.out]; simpa using HO5.out⟩, ⟨HS4.out.grown HG5.out (hne.out g hgl) (fun k hk => hne.out k hk.2)⟩, ⟨?_⟩⟩
            refine (HW.out.trans HG4.out).andThen HG5.out (fun j hj => .inl ?_)
            have := R_below_ne HO4.out j
            rcases Nat.lt_or_ge j w.heap.size with h | h
            · exact absurd hj.symm (this h)
            · exact h
          case measure => simp [intOf, hwi]; omega
        · have hi : i = n := by have := HI.out; omega
          subst hi
          go_wp2
          go_ret
          rw [HQ2.out]
          exact ⟨_, rfl, HO.out, HR.out, HW.out⟩
    · have he' : (e2 == 0) = false := beq_eq_false_iff_ne.mpr he
      have he2 : (e2 != 0) = true := by rw [bne, he']; rfl
      have HQ2 : Aside0 (listF s = ([], ⟨b2, e2⟩)) := ⟨by have := HQ.out; rwa [if_neg he] at this⟩
      have d1 : w3.cell? ⟨g, 1, none⟩ = some (.int .i64 e2) := by obtain ⟨A, c, q1, q2, q3, q4⟩ := HS3.out; exact blk_cell q1 1
      clear he HQ HN
      go_wp2
      refine wp_loop_rounds 1 ?_
      rw [rounds_succ]
      go_wp2
      all_goals
        go_ret
        rw [HQ2.out]
        exact ⟨_, rfl, Kd.R_nil _ _ _ _ _, HS3.out, HG3.out⟩
def endF (s : Rd) : Int := if s.e = 0 ∧ 0 < s.b.length then 2 else s.e
set_option maxHeartbeats 2000000 in
set_option maxRecDepth 100000 in
theorem clone_calls2 (A : Option Addr) (c : Nat) (bs : List Int) (w : World) (hC : Kd.C (Kd.int .u8) w A bs.length bs) (hc : bs.length ≤ c) (hl : bs.length ≤ 1000000000) :
    Calls Try.prog 67 #[.slice A bs.length c] w fun e w' => ∃ v, e = .returned v ∧ Kd.R (Kd.int .u8) 5 w' w.heap.size (fun _ => True) v bs ∧ Below w.heap.size w w' := by
  have hu63 := Try.underlying63
  have HC := Aside0.mk hC
  clear hC
  cases A with
  | none =>
    have h0 : bs = [] := by
      cases bs with
      | nil => rfl
      | cons b bs =>
        obtain ⟨ad, e, _⟩ := HC.out.2.2 (by simp)
        cases e
    subst h0
    go_enter Try.func67, Try.ntmps67
    go_wp2
    go_ret
    exact ⟨_, rfl, Kd.R_nil _ _ _ _ _, Below.refl _ _⟩
  | some ad =>
    go_enter Try.func67, Try.ntmps67
    go_wp2_with (at_builtin; refine Kd.R_append_rows (Kd.int .u8) (w0 := w) w.heap.size rfl (.tmp 5) (.tmp 6) 63 5 (.int .u8 0) 1 rfl Try.underlying63 info5 rfl (by decide) (by omega) _ [] bs _ _ _ (fun _ => True) (fun _ => False) rfl rfl ?aO ?aR (fun _ _ h => h) (fun _ h => h.elim) (fun _ _ => trivial) ?aB ?aS ?aL ?_; (case aO => exact emptyR w); (case aR => exact Kd.C_alloc HC.out _); (case aB => exact below_alloc (Below.refl _ _) _); (case aS => simp); (case aL => simp; omega); intro v1 w2 ho hb hg hat; obtain ⟨A1, c1, rfl⟩ := Kd.R_slice ho)
    go_ret
    exact ⟨_, rfl, ho, hb⟩
set_option maxHeartbeats 1000000 in
theorem raw_calls {ok : Nat → Prop} (g : Nat) (s : Rd) (w : World) (hs : RS ok g s w) (hl : s.b.length ≤ 1000000000) (hul : (uintF s).2.b.length ≤ 1000000000) :
    Calls Try.prog 38 #[.pointer (some ⟨g, 0, none⟩)] w fun e w' => ∃ v, e = .returned v ∧ Kd.R (Kd.int .u8) 5 w' w.heap.size (fun k => k ≠ g) v (listF s).1 ∧ RS (fun k => ok k ∧ k < w.heap.size) g (listF s).2 w' ∧ w.grownBy w' (some g) := by
  have HS := Aside0.mk hs
  clear hs
  go_enter Try.func38, Try.ntmps38
  go_wp2_with (go_at_call 79; (with_reducible refine (list_calls g s _ HS.out hl hul).mono ?_); rintro e w1 ⟨v, rfl, hR, hS, hG⟩; have HH := Aside0.mk (And.intro hR (And.intro hS hG)); clear hR hS hG)
  go_ret
  exact ⟨_, rfl, HH.out.1, HH.out.2.1, HH.out.2.2⟩
set_option maxHeartbeats 1000000 in
theorem read_calls (A : Option Addr) (c : Nat) (bs : List Int) (w : World) (hR : Kd.C (Kd.int .u8) w A bs.length bs) (hc : bs.length ≤ c) (hl : bs.length ≤ 1000000000) :
    Calls Try.prog 33 #[.slice A bs.length c] w fun e w' => ∃ g, e = .returned (.pointer (some ⟨g, 0, none⟩)) ∧ RS (fun k => w.heap.size ≤ k) g ⟨bs, 0⟩ w' ∧ w.heap.size ≤ g ∧ Below w.heap.size w w' := by
  have HR := Aside0.mk hR
  clear hR
  go_enter Try.func33, Try.ntmps33
  go_wp2_with (go_at_call 67; (with_reducible refine (clone_calls2 A c bs _ HR.out hc hl).mono ?_); rintro e w1 ⟨v, rfl, hR, hB⟩; have HH := Aside0.mk (And.intro hR hB); clear hR hB; obtain ⟨A1, c1, rfl⟩ := Kd.R_slice HH.out.1)
  go_ret
  obtain ⟨hR, hB⟩ := HH.out
  obtain ⟨_, hcc, hC⟩ := Kd.R_reads' hR
  refine ⟨_, rfl, ⟨A1, c1, blk_new _ _, hcc, Kd.C_alloc hC _, fun ad e hp => ?_⟩, hB.size, hB.alloc hB.size _⟩
  subst e
  obtain ⟨gg, cap, hv, hg1, hg2, _⟩ := Kd.R_form hR hp
  have e1 : ad = ⟨gg, 0, none⟩ := by injection hv with h1; exact Option.some.inj h1
  rw [e1]
  exact ⟨hg1, by show gg ≠ _; omega⟩
set_option maxHeartbeats 1000000 in
theorem end_calls {ok : Nat → Prop} (g : Nat) (s : Rd) (w : World) (hs : RS ok g s w) :
    Calls Try.prog 76 #[.pointer (some ⟨g, 0, none⟩)] w fun e w' => e = .returned (.int .i64 (endF s)) ∧ w = w' := by
  obtain ⟨b, er⟩ := s
  obtain ⟨A, c, q1, q2, q3, q4⟩ := hs
  have c0 : w.cell? ⟨g, 0, none⟩ = some (.slice A b.length c) := blk_cell q1 0
  have c1 : w.cell? ⟨g, 1, none⟩ = some (.int .i64 er) := blk_cell q1 1
  clear q1 q2 q3 q4
  by_cases he : er = 0
  · subst he
    by_cases hb : 0 < b.length
    · have hf : endF ⟨b, 0⟩ = 2 := by simp [endF, hb]
      rw [hf]
      clear hf
      go_enter Try.func76, Try.ntmps76
      go_wp2
      go_ret
      exact ⟨rfl, rfl⟩
    · have hf : endF ⟨b, 0⟩ = 0 := by simp [endF, hb]
      have h0 : b.length = 0 := by omega
      rw [h0] at c0
      rw [hf]
      clear hf hb h0
      go_enter Try.func76, Try.ntmps76
      go_wp2
      go_ret
      exact ⟨rfl, rfl⟩
  · have hf : endF ⟨b, er⟩ = er := by simp [endF, he]
    have he' : (er == 0) = false := beq_eq_false_iff_ne.mpr he
    rw [hf]
    clear hf he
    go_enter Try.func76, Try.ntmps76
    go_wp2
    go_ret
    exact ⟨rfl, rfl⟩
set_option maxHeartbeats 2000000 in
theorem rtext_calls {ok : Nat → Prop} (g : Nat) (s : Rd) (w : World) (hs : RS ok g s w) (hl : s.b.length ≤ 1000000000) (hul : (uintF s).2.b.length ≤ 1000000000) :
    Calls Try.prog 73 #[.pointer (some ⟨g, 0, none⟩)] w fun e w' => e = .returned (.string (strOfNums (listF s).1)) ∧ RS (fun k => ok k ∧ k < w.heap.size) g (listF s).2 w' ∧ w.grownBy w' (some g) := by
  have HS := Aside0.mk hs
  clear hs
  go_enter Try.func73, Try.ntmps73
  go_wp2_with (go_at_call 38; (with_reducible refine (raw_calls g s _ HS.out hl hul).mono ?_); rintro e w1 ⟨v, rfl, hR, hS, hG⟩; obtain ⟨A, c, rfl⟩ := Kd.R_slice hR; have hcv := Kd.C_string (P := Try.prog) (c := c) Try.underlying63 Try.underlying5 Try.underlying9 (Kd.R_reads' hR).2.2; have HH := Aside0.mk (And.intro hS hG); clear hR hS hG)
  go_ret
  exact ⟨rfl, HH.out.1, HH.out.2⟩
def rboolF (s : Rd) : Bool × Rd := ((nextF s).1 == 1, if 1 < (nextF s).1 then (nextF s).2.fail 2 else (nextF s).2)
set_option maxHeartbeats 2000000 in
theorem rbool_calls {ok : Nat → Prop} (g : Nat) (s : Rd) (w : World) (hs : RS ok g s w) :
    Calls Try.prog 75 #[.pointer (some ⟨g, 0, none⟩)] w fun e w' => e = .returned (.bool (rboolF s).1) ∧ RS ok g (rboolF s).2 w' ∧ w.grownBy w' (some g) := by
  have HS := Aside0.mk hs
  clear hs
  obtain ⟨c, s2, hn⟩ : ∃ c s2, nextF s = (c, s2) := ⟨_, _, rfl⟩
  have HN := Aside0.mk hn
  by_cases h1 : 1 < c
  · have hq : rboolF s = (c == 1, s2.fail 2) := by unfold rboolF; rw [hn]; simp only; rw [if_pos h1]
    rw [hq]
    clear hn hq
    go_enter Try.func75, Try.ntmps75
    go_wp2_with (first
      | (go_at_call 80; (with_reducible refine (next_calls g s _ HS.out).mono ?_); rw [HN.out]; rintro e w1 ⟨rfl, hS, hG⟩; have HS1 := Aside0.mk hS; have HG1 := Aside0.mk hG; clear hS hG)
      | (go_at_call 91; (with_reducible refine (fail_calls g s2 2 _ HS1.out).mono ?_); rintro e w2 ⟨rfl, hS, hG⟩; have HS2 := Aside0.mk hS; have HG2 := Aside0.mk hG; clear hS hG)
      | fail)
    go_ret
    exact ⟨rfl, HS2.out, HG1.out.trans HG2.out⟩
  · have hq : rboolF s = (c == 1, s2) := by unfold rboolF; rw [hn]; simp only; rw [if_neg h1]
    rw [hq]
    clear hn hq
    go_enter Try.func75, Try.ntmps75
    go_wp2_with (first
      | (go_at_call 80; (with_reducible refine (next_calls g s _ HS.out).mono ?_); rw [HN.out]; rintro e w1 ⟨rfl, hS, hG⟩; have HS1 := Aside0.mk hS; have HG1 := Aside0.mk hG; clear hS hG)
      | fail)
    go_ret
    exact ⟨rfl, HS1.out, HG1.out⟩
end Go.Proofs.Ytcbkcgnigncahaa.P.Wr
