import Derived.Test.YtgmbjgddelcceaaRPx4
import Derived.StillTailTactics
import Derived.IntWalk
namespace Go.Proofs.Ytgmbjgddelcceaa.P
open Go.RowKit Go.Proofs.YtgmbjgddelcceaaW.PrintWords Go.Proofs.YtgmbjgddelcceaaW.PrintLast Go.Proofs.YtgmbjgddelcceaaW.PrintMore
attribute [local go_sem] max2_int min2_int max_two min_two max_three min_three max_four min_four
set_option linter.unusedVariables false
set_option linter.unusedSimpArgs false
def cells74 (x : S74) : List Value := [.int .i64 x.f0, .int .i64 x.f1, .int .i64 x.f2, .int .i64 x.f3.f0, .int .i64 x.f3.f1, .int .i64 x.f3.f2, .int .u64 x.f3.f3, .int .i64 x.f4, .int .i64 x.f5]
theorem put74 {W : World} {base g n cap : Nat} {ok : Nat → Prop} {xs : List S74} (h : Kd.R k74 74 W base ok (.slice (some ⟨g, 0, none⟩) n cap) xs) (i : Int) (h0 : 0 ≤ i) (h1 : i < n) (j : Nat) (hj : j < 9) (u : Value) (x' : S74)
    (hx : (cells74 (rd_T74 xs i)).take j ++ [u] ++ (cells74 (rd_T74 xs i)).drop (j + 1) = cells74 x') :
    Kd.R k74 74 (W.setCell ⟨g, i.toNat * 9 + j, none⟩ u) base ok (.slice (some ⟨g, 0, none⟩) n cap) (xs.set i.toNat x') ∧ W.grownBy (W.setCell ⟨g, i.toNat * 9 + j, none⟩ u) (some g) := by
  obtain ⟨c, hcl, hM, hcc, hfr⟩ := Kd.R_elem h z74 i h0 h1
  obtain rfl := k74_openM hM
  have h2 := Kd.R_seg h i h0 h1 (seg := [u]) (j := j) hcl hcc (by have : k74.sz = 9 := rfl; simp; omega) (x' := x') (okp := fun k => ok k ∧ k ≠ g) (by
    have := k74_mkM W base (fun k => ok k ∧ k ≠ g) x'
    have e : cells74 x' = [.int .i64 x'.f0, .int .i64 x'.f1, .int .i64 x'.f2, .int .i64 x'.f3.f0, .int .i64 x'.f3.f1, .int .i64 x'.f3.f2, .int .u64 x'.f3.f3, .int .i64 x'.f4, .int .i64 x'.f5] := rfl
    rw [← e, ← hx] at this
    exact this) (fun _ hk => hk)
  exact h2
theorem cell74 {W : World} {base g n cap : Nat} {ok : Nat → Prop} {xs : List S74} (h : Kd.R k74 74 W base ok (.slice (some ⟨g, 0, none⟩) n cap) xs) (i : Int) (h0 : 0 ≤ i) (h1 : i < n) (j : Nat) (u : Value) (hu : (cells74 (rd_T74 xs i))[j]? = some u) :
    W.cell? ⟨g, i.toNat * 9 + j, none⟩ = some u ∧ W.frozen? ⟨g, i.toNat * 9 + j, none⟩ = false := by
  obtain ⟨c, hcl, hM, hcc, hfr⟩ := Kd.R_elem h z74 i h0 h1
  obtain rfl := k74_openM hM
  exact ⟨hcc j u hu, hfr j⟩
def bentF (l : List S74) (i c v : Int) : List S74 :=
  if c = 0 then l.set i.toNat ⟨v, (rd_T74 l i).f1, (rd_T74 l i).f2, (rd_T74 l i).f3, (rd_T74 l i).f4, (rd_T74 l i).f5⟩
  else if c = 1 then l.set i.toNat ⟨(rd_T74 l i).f0, v, (rd_T74 l i).f2, (rd_T74 l i).f3, (rd_T74 l i).f4, (rd_T74 l i).f5⟩
  else if c = 2 then l.set i.toNat ⟨(rd_T74 l i).f0, (rd_T74 l i).f1, v, (rd_T74 l i).f3, (rd_T74 l i).f4, (rd_T74 l i).f5⟩
  else if c = 3 then l.set i.toNat ⟨(rd_T74 l i).f0, (rd_T74 l i).f1, (rd_T74 l i).f2, ⟨v, (rd_T74 l i).f3.f1, (rd_T74 l i).f3.f2, (rd_T74 l i).f3.f3⟩, (rd_T74 l i).f4, (rd_T74 l i).f5⟩
  else if c = 4 then l.set i.toNat ⟨(rd_T74 l i).f0, (rd_T74 l i).f1, (rd_T74 l i).f2, ⟨(rd_T74 l i).f3.f0, v, (rd_T74 l i).f3.f2, (rd_T74 l i).f3.f3⟩, (rd_T74 l i).f4, (rd_T74 l i).f5⟩
  else if c = 5 then l.set i.toNat ⟨(rd_T74 l i).f0, (rd_T74 l i).f1, (rd_T74 l i).f2, ⟨(rd_T74 l i).f3.f0, (rd_T74 l i).f3.f1, (rd_T74 l i).f3.f2, IntKind.u64.wrap v⟩, (rd_T74 l i).f4, (rd_T74 l i).f5⟩
  else if c = 6 then l.set i.toNat ⟨(rd_T74 l i).f0, (rd_T74 l i).f1, (rd_T74 l i).f2, (rd_T74 l i).f3, v, (rd_T74 l i).f5⟩
  else if c = 7 then l.set i.toNat ⟨(rd_T74 l i).f0, (rd_T74 l i).f1, (rd_T74 l i).f2, (rd_T74 l i).f3, (rd_T74 l i).f4, v⟩
  else if c = 8 then l.take i.toNat ++ l.drop (i + 1).toNat
  else l ++ [rd_T74 l i]
set_option maxHeartbeats 4000000 in
set_option maxRecDepth 100000 in
theorem bent_calls (A0 : Option Addr) (c0 : Nat) (l0 : List S74) (a1 a2 a3 i c : Int) (w : World) (hr0 : Kd.C k74 w A0 l0.length l0) (hc0 : l0.length ≤ c0) (hl : l0.length ≤ 1000000) (hi : skymosaicref01_Around.f a1 (l0.length : Int) = some i) (hc : skymosaicref01_Around.f a2 10 = some c) (i0 : 0 ≤ i) (i1 : i < l0.length) :
    Calls Try.prog 22 #[.slice A0 l0.length c0, .int .i64 a1, .int .i64 a2, .int .i64 a3] w fun e w' => ∃ v0_ : Value, e = .returned v0_ ∧ Kd.R k74 74 w' w.heap.size (fun _ => True) v0_ (bentF l0 i c a3) ∧ Below w.heap.size w w' := by
  have hu74 := Try.underlying74
  have hu71 := Try.underlying71
  have HR := Aside0.mk hr0
  clear hr0
  go_enter Try.func22, Try.ntmps22
  go_upto_region 2 with fail
  go_cut [9] (fun s9 wx => ∃ g cp : Nat, s9 = .slice (some ⟨g, 0, none⟩) l0.length cp ∧ Aside0 (Kd.R k74 74 wx w.heap.size (fun _ => True) (.slice (some ⟨g, 0, none⟩) l0.length cp) l0 ∧ Below w.heap.size w wx ∧ w.heap.size ≤ g))
  case first =>
    go_wp2_with (at_builtin; refine Kd.R_append_rows k74 (w0 := w) w.heap.size rfl (.tmp 11) (.tmp 12) 31 74 (.agg #[(.int .i64 0), (.int .i64 0), (.int .i64 0), (.int .i64 0), (.int .i64 0), (.int .i64 0), (.int .u64 0), (.int .i64 0), (.int .i64 0)]) 72 rfl Try.underlying31 info74 rfl (by decide) (by omega) (.slice none 0 0) ([] : List S74) l0 _ _ _ (fun _ => True) (fun _ => False) rfl rfl ?aO ?aR (fun _ _ h => h) (fun _ h => h.elim) (fun _ _ => trivial) ?aB ?aS ?aL ?_; (case aO => exact Kd.R_nil _ _ _ _ _); (case aR => exact HR.out); (case aB => exact Below.refl _ _); (case aS => exact Nat.le_refl _); (case aL => simp; omega); intro v1 w2 ho hb hg hat; rw [List.nil_append] at ho; obtain ⟨g, cp, rfl, hgb, hgl, hcl⟩ := Kd.R_form ho (by omega))
    go_meet
    exact ⟨g, cp, rfl, ⟨ho, hb, hgb⟩⟩
  case rest =>
    obtain ⟨g, cp, rfl, HO⟩ := hcut
    obtain ⟨w1, rfl⟩ : ∃ w1 : World, w1 = wc := ⟨_, rfl⟩
    go_upto_region 6 with (first | (go_at_call 18; (with_reducible refine (skymosaicref01_Around.calls a1 (l0.length : Int) i _ hi).mono ?_); rintro e w2 ⟨rfl, ⟨nd, rfl⟩⟩) | (go_at_call 18; (with_reducible refine (skymosaicref01_Around.calls a2 10 c _ hc).mono ?_); rintro e w3 ⟨rfl, ⟨nd2, rfl⟩⟩))
    obtain ⟨w2, hw2⟩ : ∃ w2 : World, w2 = w1.drewN (nd + nd2) := ⟨_, rfl⟩
    rw [← hw2]
    have HO2 : Aside0 (Kd.R k74 74 w2 w.heap.size (fun _ => True) (.slice (some ⟨g, 0, none⟩) l0.length cp) l0) := ⟨by rw [hw2]; exact Kd.R_drewN HO.out.1 _⟩
    have HB2 : Aside0 (Below w.heap.size w w2) := ⟨by rw [hw2]; exact pw_below_drewN HO.out.2.1 _⟩
    have HG := Aside0.mk HO.out.2.2
    have HGL : Aside0 (g < w2.heap.size) := ⟨by rw [hw2]; exact Kd.R_lt HO.out.1 g rfl⟩
    clear hw2 HO
    have i2 : i < ((l0.length : Nat) : Int) := i1
    by_cases k0 : c = 0
    · subst k0
      obtain ⟨q, fz⟩ := cell74 HO2.out i i0 i1 0 _ rfl
      rw [Nat.add_zero] at q fz
      have hp := Aside0.mk (put74 HO2.out i i0 i1 0 (by decide) (.int .i64 a3) ⟨a3, (rd_T74 l0 i).f1, (rd_T74 l0 i).f2, (rd_T74 l0 i).f3, (rd_T74 l0 i).f4, (rd_T74 l0 i).f5⟩ rfl).1
      go_wp2
      go_ret
      exact ⟨_, rfl, hp.out, below_set HB2.out HG.out⟩
    have b0 : (c == 0) = false := beq_eq_false_iff_ne.mpr k0
    by_cases k1 : c = 1
    · subst k1
      obtain ⟨q, fz⟩ := cell74 HO2.out i i0 i1 1 _ rfl
      have hp := Aside0.mk (put74 HO2.out i i0 i1 1 (by decide) (.int .i64 a3) ⟨(rd_T74 l0 i).f0, a3, (rd_T74 l0 i).f2, (rd_T74 l0 i).f3, (rd_T74 l0 i).f4, (rd_T74 l0 i).f5⟩ rfl).1
      go_wp2
      go_ret
      exact ⟨_, rfl, hp.out, below_set HB2.out HG.out⟩
    have b1 : (c == 1) = false := beq_eq_false_iff_ne.mpr k1
    by_cases k2 : c = 2
    · subst k2
      obtain ⟨q, fz⟩ := cell74 HO2.out i i0 i1 2 _ rfl
      have hp := Aside0.mk (put74 HO2.out i i0 i1 2 (by decide) (.int .i64 a3) ⟨(rd_T74 l0 i).f0, (rd_T74 l0 i).f1, a3, (rd_T74 l0 i).f3, (rd_T74 l0 i).f4, (rd_T74 l0 i).f5⟩ rfl).1
      go_wp2
      go_ret
      exact ⟨_, rfl, hp.out, below_set HB2.out HG.out⟩
    have b2 : (c == 2) = false := beq_eq_false_iff_ne.mpr k2
    by_cases k3 : c = 3
    · subst k3
      obtain ⟨q, fz⟩ := cell74 HO2.out i i0 i1 3 _ rfl
      have hp := Aside0.mk (put74 HO2.out i i0 i1 3 (by decide) (.int .i64 a3) ⟨(rd_T74 l0 i).f0, (rd_T74 l0 i).f1, (rd_T74 l0 i).f2, ⟨a3, (rd_T74 l0 i).f3.f1, (rd_T74 l0 i).f3.f2, (rd_T74 l0 i).f3.f3⟩, (rd_T74 l0 i).f4, (rd_T74 l0 i).f5⟩ rfl).1
      go_wp2
      go_ret
      exact ⟨_, rfl, hp.out, below_set HB2.out HG.out⟩
    have b3 : (c == 3) = false := beq_eq_false_iff_ne.mpr k3
    by_cases k4 : c = 4
    · subst k4
      obtain ⟨q, fz⟩ := cell74 HO2.out i i0 i1 4 _ rfl
      have hp := Aside0.mk (put74 HO2.out i i0 i1 4 (by decide) (.int .i64 a3) ⟨(rd_T74 l0 i).f0, (rd_T74 l0 i).f1, (rd_T74 l0 i).f2, ⟨(rd_T74 l0 i).f3.f0, a3, (rd_T74 l0 i).f3.f2, (rd_T74 l0 i).f3.f3⟩, (rd_T74 l0 i).f4, (rd_T74 l0 i).f5⟩ rfl).1
      go_wp2
      go_ret
      exact ⟨_, rfl, hp.out, below_set HB2.out HG.out⟩
    have b4 : (c == 4) = false := beq_eq_false_iff_ne.mpr k4
    by_cases k5 : c = 5
    · subst k5
      obtain ⟨q, fz⟩ := cell74 HO2.out i i0 i1 6 _ rfl
      have hp := Aside0.mk (put74 HO2.out i i0 i1 6 (by decide) (.int .u64 (IntKind.u64.wrap a3)) ⟨(rd_T74 l0 i).f0, (rd_T74 l0 i).f1, (rd_T74 l0 i).f2, ⟨(rd_T74 l0 i).f3.f0, (rd_T74 l0 i).f3.f1, (rd_T74 l0 i).f3.f2, IntKind.u64.wrap a3⟩, (rd_T74 l0 i).f4, (rd_T74 l0 i).f5⟩ rfl).1
      go_wp2
      go_ret
      exact ⟨_, rfl, hp.out, below_set HB2.out HG.out⟩
    have b5 : (c == 5) = false := beq_eq_false_iff_ne.mpr k5
    by_cases k6 : c = 6
    · subst k6
      obtain ⟨q, fz⟩ := cell74 HO2.out i i0 i1 7 _ rfl
      have hp := Aside0.mk (put74 HO2.out i i0 i1 7 (by decide) (.int .i64 a3) ⟨(rd_T74 l0 i).f0, (rd_T74 l0 i).f1, (rd_T74 l0 i).f2, (rd_T74 l0 i).f3, a3, (rd_T74 l0 i).f5⟩ rfl).1
      go_wp2
      go_ret
      exact ⟨_, rfl, hp.out, below_set HB2.out HG.out⟩
    have b6 : (c == 6) = false := beq_eq_false_iff_ne.mpr k6
    by_cases k7 : c = 7
    · subst k7
      obtain ⟨q, fz⟩ := cell74 HO2.out i i0 i1 8 _ rfl
      have hp := Aside0.mk (put74 HO2.out i i0 i1 8 (by decide) (.int .i64 a3) ⟨(rd_T74 l0 i).f0, (rd_T74 l0 i).f1, (rd_T74 l0 i).f2, (rd_T74 l0 i).f3, (rd_T74 l0 i).f4, a3⟩ rfl).1
      go_wp2
      go_ret
      exact ⟨_, rfl, hp.out, below_set HB2.out HG.out⟩
    have b7 : (c == 7) = false := beq_eq_false_iff_ne.mpr k7
    by_cases k8 : c = 8
    · subst k8
      go_upto_region 23 with fail
      obtain ⟨q0, hq0, _, hqsz, _⟩ := info_parts info74
      have hcut1 := cut_to (P := Try.prog) 31 74 .i64 Try.underlying31 hq0 (some ⟨g, 0, none⟩) l0.length cp i i0 (by omega) (Kd.R_reads' HO2.out).2.1
      have hcut2 := cut_from (P := Try.prog) 31 74 .i64 Try.underlying31 hq0 9 hqsz A0 l0.length c0 (i + 1) (by omega) (by omega)
      have hws : IntKind.i64.wrap (i + 1) = i + 1 := IntWalk.i64_in _ (by omega)
      obtain ⟨B, hB⟩ : ∃ B : Option Addr, B = (if c0 = (i + 1).toNat then A0 else A0.map (·.add ((i + 1).toNat * 9))) := ⟨_, rfl⟩
      rw [← hB] at hcut2
      have hdl : (l0.drop (i + 1).toNat).length = l0.length - (i + 1).toNat := List.length_drop
      have HC : Aside0 (Kd.C k74 w2.drew B (l0.length - (i + 1).toNat) (l0.drop (i + 1).toNat)) := ⟨by rw [hB, ← hdl]; exact Kd.C_drew (Kd.C_drop (Kd.C_below HR.out HB2.out) (by omega) hc0)⟩
      have HT := Aside0.mk (Kd.R_drew (Kd.R_take HO2.out (m := i.toNat) (by omega)))
      have HBd := Aside0.mk (below_drew1 HB2.out)
      clear hB
      go_still_tail 7, (by kernel_rfl)
      change wpList _ _ _ _ _ w2.drew
      generalize w2.drew = w3 at HC HT HBd ⊢
      clear hcut1 hcut2 hws
      go_wp2_with (at_builtin; go_loud (refine Kd.R_append_rows k74 (w0 := w) w.heap.size rfl (.tmp 91) (.tmp 95) 31 74 (.agg #[(.int .i64 0), (.int .i64 0), (.int .i64 0), (.int .i64 0), (.int .i64 0), (.int .i64 0), (.int .u64 0), (.int .i64 0), (.int .i64 0)]) 72 rfl Try.underlying31 info74 rfl (by decide) (by omega) (.slice (some ⟨g, 0, none⟩) i.toNat cp) (l0.take i.toNat) (l0.drop (i + 1).toNat) B _ _ (fun _ => True) (fun _ => False) rfl rfl ?aO ?aR (fun _ _ h => h) (fun _ h => h.elim) (fun _ _ => trivial) ?aB ?aS ?aL ?_); (case aO => exact HT.out); (case aR => exact HC.out); (case aB => exact HBd.out); (case aS => exact HBd.out.size); (case aL => rw [List.length_take]; omega); intro v1 w4 ho hb hg hat; obtain ⟨A9, c9, rfl⟩ := Kd.R_slice ho)
      go_ret
      have hq : bentF l0 i 8 a3 = l0.take i.toNat ++ l0.drop (i + 1).toNat := rfl
      rw [hq]
      rw [List.length_append, List.length_take, List.length_drop] at ho
      exact ⟨_, rfl, ho, hb⟩
    have b8 : (c == 8) = false := beq_eq_false_iff_ne.mpr k8
    obtain ⟨ad, e, z0, z1, z2, z3, z4, z5, z6, z7, z8⟩ := at_T74 (Kd.C_below HR.out HB2.out) i i0 i2
    cases e
    have hq : bentF l0 i c a3 = l0 ++ [rd_T74 l0 i] := by
      unfold bentF
      rw [if_neg k0, if_neg k1, if_neg k2, if_neg k3, if_neg k4, if_neg k5, if_neg k6, if_neg k7, if_neg k8]
    have HQ := Aside0.mk hq
    clear hq k0 k1 k2 k3 k4 k5 k6 k7 k8
    go_wp2_with (at_builtin; refine Kd.R_append k74 (w0 := w) w.heap.size rfl (.tmp 20) (.tmp 25) 31 74 (.agg #[(.int .i64 0), (.int .i64 0), (.int .i64 0), (.int .i64 0), (.int .i64 0), (.int .i64 0), (.int .u64 0), (.int .i64 0), (.int .i64 0)]) 72 rfl Try.underlying31 info74 rfl (by decide) (by omega) (.slice (some ⟨g, 0, none⟩) l0.length cp) l0 (rd_T74 l0 i) (cells74 (rd_T74 l0 i)) (fun _ => True) (fun _ => False) rfl rfl ?aP (fun _ hk => hk.elim) (fun _ _ => trivial) HO2.out HB2.out HB2.out.size ?aL ?_; (case aP => exact k74_mkM _ _ _ _); (case aL => omega); intro v1 w3 ho hb hg hat; obtain ⟨A9, c9, rfl⟩ := Kd.R_slice ho)
    go_ret
    rw [HQ.out]
    exact ⟨_, rfl, by simpa using ho, hb⟩
def ref36_Bent.f (l0 : List S74) (a1 a2 a3 : Int) : Option (List S74) := (skymosaicref01_Around.f a1 (l0.length : Int)).bind fun i => (skymosaicref01_Around.f a2 10).bind fun c => if l0.length ≤ 1000000 ∧ 0 ≤ i ∧ i < l0.length then some (bentF l0 i c a3) else none
theorem ref36_Bent.calls (A0 : Option Addr) (c0 : Nat) (l0 : List S74) (a1 a2 a3 : Int) (r : List S74) (w : World) (hr0 : Kd.C k74 w A0 l0.length l0) (hc0 : l0.length ≤ c0) (h : ref36_Bent.f l0 a1 a2 a3 = some r) :
    Calls Try.prog 22 #[.slice A0 l0.length c0, .int .i64 a1, .int .i64 a2, .int .i64 a3] w fun e w' => ∃ v0_ : Value, e = .returned v0_ ∧ Kd.R k74 74 w' w.heap.size (fun _ => True) v0_ r ∧ Below w.heap.size w w' := by
  obtain ⟨i, hi, h⟩ := Option.bind_eq_some_iff.mp h
  obtain ⟨c, hc, h⟩ := Option.bind_eq_some_iff.mp h
  by_cases hb : l0.length ≤ 1000000 ∧ 0 ≤ i ∧ i < l0.length
  · rw [if_pos hb] at h
    obtain rfl := Option.some.inj h
    exact bent_calls A0 c0 l0 a1 a2 a3 i c w hr0 hc0 hb.1 hi hc hb.2.1 hb.2.2
  · rw [if_neg hb] at h; cases h
end Go.Proofs.Ytgmbjgddelcceaa.P
