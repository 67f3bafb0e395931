import Derived.Test.YtgmbjgddelcceaaUGivenB
import Derived.BigRegion
import Derived.Deep.DeepCutAuto
import Derived.Deep.RegionHeld3
namespace Go.Proofs.Ytgmbjgddelcceaa.P
open Go.RowKit Go.Proofs.YtgmbjgddelcceaaW.PrintWords Go.Proofs.YtgmbjgddelcceaaW.PrintLast Go.Proofs.YtgmbjgddelcceaaW.PrintMore
attribute [local go_sem] max2_int min2_int max_two min_two max_three min_three max_four min_four
attribute [local go_sem high] eqA71
set_option linter.unusedVariables false
set_option linter.unusedSimpArgs false
def atS (p : S80) (n : Int) : S71 := ⟨p.f3.f0, wrap64 (p.f3.f1 + (wrap64 (n * p.f4))), wrap64 (p.f3.f2 + (wrap64 (n * p.f5))), p.f3.f3⟩
def eqS (a b : S71) : Bool := a.f0 == b.f0 && (a.f1 == b.f1 && (a.f2 == b.f2 && (a.f3 == b.f3)))
def extTo (xs : List S71) (p : S80) (fr : Int) : Nat → Int → Int
  | 0, t => t
  | k + 1, t => if t < 16 then if eqS (rd_T71 xs t) (atS p (t - fr)) then extTo xs p fr k (t + 1) else t else t
def likeB (xs : List S71) (fr : Int) : Bool := decide (fr + 1 < 16) && ((rd_T71 xs (fr + 1)).f0 == (rd_T71 xs fr).f0 && (rd_T71 xs (fr + 1)).f3 == (rd_T71 xs fr).f3)
def begin0 (row : Int) (xs : List S71) (fr : Int) : S80 :=
  if likeB xs fr then ⟨row, fr, fr + 1, rd_T71 xs fr, wrap64 ((rd_T71 xs (fr + 1)).f1 - (rd_T71 xs fr).f1), wrap64 ((rd_T71 xs (fr + 1)).f2 - (rd_T71 xs fr).f2)⟩
  else ⟨row, fr, fr + 1, rd_T71 xs fr, 0, 0⟩
def beginF (row : Int) (xs : List S71) (fr : Int) : S80 := { begin0 row xs fr with f2 := extTo xs (begin0 row xs fr) fr 16 (fr + 1) }
def pv (p : S80) : Value := .agg #[.int .i64 p.f0, .int .i64 p.f1, .int .i64 p.f2, .int .i64 p.f3.f0, .int .i64 p.f3.f1, .int .i64 p.f3.f2, .int .u64 p.f3.f3, .int .i64 p.f4, .int .i64 p.f5]
theorem at_T71_blk {w : World} {ad : Addr} {n : Nat} {xs : List S71} (h : Kd.C k71 w (some ad) n xs) (i : Int) (h0 : 0 ≤ i) (h1 : i < n) : w.cell? (ad.add (i.toNat * 4)) = some (.int .i64 (rd_T71 xs i).f0) := by
  obtain ⟨ad', e, hx0, _⟩ := at_T71 h i h0 h1
  cases e
  exact hx0
theorem ext_step {xs : List S71} {p : S80} {fr t : Int} {b : Bool} (k : Nat) (hl : t < 16) (heq : ((rd_T71 xs t).f0 == p.f3.f0 && ((rd_T71 xs t).f1 == wrap64 (p.f3.f1 + (wrap64 ((t - fr) * p.f4))) && ((rd_T71 xs t).f2 == wrap64 (p.f3.f2 + (wrap64 ((t - fr) * p.f5))) && ((rd_T71 xs t).f3 == p.f3.f3)))) = b) :
    extTo xs p fr (k + 1) t = if b then extTo xs p fr k (t + 1) else t := by
  subst heq
  simp only [extTo]
  rw [if_pos hl]
  rfl
theorem ext_end {xs : List S71} {p : S80} {fr t : Int} (k : Nat) (hl : ¬ t < 16) : extTo xs p fr k t = t := by
  cases k with
  | zero => rfl
  | succ k => simp only [extTo]; rw [if_neg hl]
theorem blk_put9 {w : World} {g : Nat} {t : TypeId} {u0 u1 u2 u3 u4 u5 u6 u7 u8 v0 v1 v2 v3 v4 v5 v6 v7 v8 : Value} (h : w.heap[g]? = some (.cells #[v0, v1, v2, v3, v4, v5, v6, v7, v8] t (0, 0))) : (((((((((w.setCell ⟨g, 0, none⟩ u0).setCell ⟨g, 1, none⟩ u1).setCell ⟨g, 2, none⟩ u2).setCell ⟨g, 3, none⟩ u3).setCell ⟨g, 4, none⟩ u4).setCell ⟨g, 5, none⟩ u5).setCell ⟨g, 6, none⟩ u6).setCell ⟨g, 7, none⟩ u7).setCell ⟨g, 8, none⟩ u8).heap[g]? = some (.cells #[u0, u1, u2, u3, u4, u5, u6, u7, u8] t (0, 0)) := by
  have h0 := blk_put (cs' := #[u0, v1, v2, v3, v4, v5, v6, v7, v8]) h 0 u0 rfl
  have h1 := blk_put (cs' := #[u0, u1, v2, v3, v4, v5, v6, v7, v8]) h0 1 u1 rfl
  have h2 := blk_put (cs' := #[u0, u1, u2, v3, v4, v5, v6, v7, v8]) h1 2 u2 rfl
  have h3 := blk_put (cs' := #[u0, u1, u2, u3, v4, v5, v6, v7, v8]) h2 3 u3 rfl
  have h4 := blk_put (cs' := #[u0, u1, u2, u3, u4, v5, v6, v7, v8]) h3 4 u4 rfl
  have h5 := blk_put (cs' := #[u0, u1, u2, u3, u4, u5, v6, v7, v8]) h4 5 u5 rfl
  have h6 := blk_put (cs' := #[u0, u1, u2, u3, u4, u5, u6, v7, v8]) h5 6 u6 rfl
  have h7 := blk_put (cs' := #[u0, u1, u2, u3, u4, u5, u6, u7, v8]) h6 7 u7 rfl
  have h8 := blk_put (cs' := #[u0, u1, u2, u3, u4, u5, u6, u7, u8]) h7 8 u8 rfl
  exact h8
theorem below_put9 {w0 w : World} {g : Nat} {u0 u1 u2 u3 u4 u5 u6 u7 u8 : Value} (hb : Below w0.heap.size w0 w) (hg : w0.heap.size ≤ g) : Below w0.heap.size w0 (((((((((w.setCell ⟨g, 0, none⟩ u0).setCell ⟨g, 1, none⟩ u1).setCell ⟨g, 2, none⟩ u2).setCell ⟨g, 3, none⟩ u3).setCell ⟨g, 4, none⟩ u4).setCell ⟨g, 5, none⟩ u5).setCell ⟨g, 6, none⟩ u6).setCell ⟨g, 7, none⟩ u7).setCell ⟨g, 8, none⟩ u8) := (below_set (below_set (below_set (below_set (below_set (below_set (below_set (below_set (below_set hb hg) hg) hg) hg) hg) hg) hg) hg) hg)
def sv (s : S71) : Value := .agg #[.int .i64 s.f0, .int .i64 s.f1, .int .i64 s.f2, .int .u64 s.f3]
set_option maxHeartbeats 2000000 in
set_option maxRecDepth 100000 in
theorem at_calls0 (a b c s r l q x y n : Int) (w : World) : Calls Try.prog 64 #[.agg #[.int .i64 a, .int .i64 b, .int .i64 c, .int .i64 s, .int .i64 r, .int .i64 l, .int .u64 q, .int .i64 x, .int .i64 y], .int .i64 n] w fun e w' => e = .returned (.agg #[.int .i64 s, .int .i64 (wrap64 (r + (wrap64 (n * x)))), .int .i64 (wrap64 (l + (wrap64 (n * y)))), .int .u64 q]) ∧ Below w.heap.size w w' := by
  have hu80 := Try.underlying80
  have hu71 := Try.underlying71
  go_enter Try.func64, Try.ntmps64
  go_wp2
  refine bodyPost_ret (results_cell_row rfl _ _ (w.heap.size + 1) 71 #[.int .i64 s, .int .i64 (wrap64 (r + (wrap64 (n * x)))), .int .i64 (wrap64 (l + (wrap64 (n * y)))), .int .u64 q] (0, 0) _ rfl (by
    rw [← World.size_alloc w (.cells #[.int .i64 a, .int .i64 b, .int .i64 c, .int .i64 s, .int .i64 r, .int .i64 l, .int .u64 q, .int .i64 x, .int .i64 y] 80)]
    exact blk_alloc (blk_new _ _) _) Try.underlying71 rfl (by kernel_rfl)) rfl ?_
  exact ⟨rfl, below_alloc (below_alloc (below_alloc (Below.refl _ _) _) _) _⟩
theorem at_calls (p : S80) (n : Int) (w : World) : Calls Try.prog 64 #[pv p, .int .i64 n] w fun e w' => e = .returned (sv (atS p n)) ∧ Below w.heap.size w w' := at_calls0 _ _ _ _ _ _ _ _ _ n w
theorem at_calls2 (p : S80) (t n : Int) (w : World) : Calls Try.prog 64 #[pv { p with f2 := t }, .int .i64 n] w fun e w' => e = .returned (.agg #[.int .i64 p.f3.f0, .int .i64 (wrap64 (p.f3.f1 + (wrap64 (n * p.f4)))), .int .i64 (wrap64 (p.f3.f2 + (wrap64 (n * p.f5)))), .int .u64 p.f3.f3]) ∧ Below w.heap.size w w' := at_calls { p with f2 := t } n w
def cellsP (p : S80) : Array Value := #[.int .i64 p.f0, .int .i64 p.f1, .int .i64 p.f2, .int .i64 p.f3.f0, .int .i64 p.f3.f1, .int .i64 p.f3.f2, .int .u64 p.f3.f3, .int .i64 p.f4, .int .i64 p.f5]
theorem at_PT {w : World} {g : Nat} {p : S80} {t : Int} (h : w.heap[g]? = some (.cells (cellsP { p with f2 := t }) 80 (0, 0))) :
    w.cell? ⟨g, 0, none⟩ = some (.int .i64 p.f0) ∧ w.cell? ⟨g, 1, none⟩ = some (.int .i64 p.f1) ∧ w.cell? ⟨g, 2, none⟩ = some (.int .i64 t) ∧ w.cell? ⟨g, 3, none⟩ = some (.int .i64 p.f3.f0) ∧ w.cell? ⟨g, 4, none⟩ = some (.int .i64 p.f3.f1) ∧ w.cell? ⟨g, 5, none⟩ = some (.int .i64 p.f3.f2) ∧ w.cell? ⟨g, 6, none⟩ = some (.int .u64 p.f3.f3) ∧ w.cell? ⟨g, 7, none⟩ = some (.int .i64 p.f4) ∧ w.cell? ⟨g, 8, none⟩ = some (.int .i64 p.f5) :=
  ⟨blk_cell h 0, blk_cell h 1, blk_cell h 2, blk_cell h 3, blk_cell h 4, blk_cell h 5, blk_cell h 6, blk_cell h 7, blk_cell h 8⟩
set_option maxHeartbeats 2000000 in
set_option maxRecDepth 100000 in
theorem begin_calls (row : Int) (A : Option Addr) (c : Nat) (xs : List S71) (fr : Int) (w : World) (hr : Kd.C k71 w A 16 xs) (hc : 16 ≤ c) (hf0 : 0 ≤ fr) (hf1 : fr < 16) :
    Calls Try.prog 62 #[.int .i64 row, .slice A 16 c, .int .i64 fr] w fun e w' => e = .returned (pv (beginF row xs fr)) ∧ Below w.heap.size w w' := by
  have hu80 := Try.underlying80
  have hu71 := Try.underlying71
  have HR := Aside0.mk hr
  clear hr
  go_enter Try.func62, Try.ntmps62
  go_upto_region 0 with fail
  go_cut [6] (fun s6 wx => ∃ g6 : Nat, s6 = .pointer (some ⟨g6, 0, none⟩) ∧ Aside0 (wx.heap[g6]? = some (.cells #[.int .i64 0, .int .i64 0, .int .i64 0, .int .i64 0, .int .i64 0, .int .i64 0, .int .u64 0, .int .i64 0, .int .i64 0] 80 (0, 0)) ∧ w.heap.size ≤ g6 ∧ Below w.heap.size w wx))
  case first =>
    go_wp2
    go_meet
    exact ⟨_, rfl, ⟨blk_new _ _, Nat.le_refl _, below_alloc (Below.refl _ _) _⟩⟩
  case rest =>
    obtain ⟨g6, rfl, H6⟩ := hcut
    obtain ⟨w1, rfl⟩ : ∃ w1 : World, w1 = wc := ⟨_, rfl⟩
    obtain ⟨ad, e, hx0, hx1, hx2, hx3⟩ := at_T71 (Kd.C_below HR.out H6.out.2.2) fr hf0 hf1
    cases e
    have hw : wrap64 (fr + 1) = fr + 1 := by unfold wrap64; omega
    go_upto_region 1 with fail
    go_cut [7] (fun s7 wx => ∃ g : Nat, s7 = .pointer (some ⟨g, 0, none⟩) ∧ Aside0 (wx.heap[g]? = some (.cells #[.int .i64 row, .int .i64 fr, .int .i64 (fr + 1), .int .i64 (rd_T71 xs fr).f0, .int .i64 (rd_T71 xs fr).f1, .int .i64 (rd_T71 xs fr).f2, .int .u64 (rd_T71 xs fr).f3, .int .i64 0, .int .i64 0] 80 (0, 0)) ∧ g6 < g ∧ Below w1.heap.size w1 wx))
    case first =>
      go_wp2
      go_meet
      exact ⟨_, rfl, ⟨blk_new _ _, blk_lt H6.out.1, below_alloc (Below.refl _ _) _⟩⟩
    case rest =>
      obtain ⟨g7, rfl, H7⟩ := hcut
      obtain ⟨w2, rfl⟩ : ∃ w2 : World, w2 = wc := ⟨_, rfl⟩
      have HB := Aside0.mk (below_step H6.out.2.2 H7.out.2.2)
      have HX := Aside0.mk (Kd.C_below HR.out HB.out)
      clear hx0 hx1 hx2 hx3
      have hp0 := (blk_cell H7.out.1 0).trans rfl
      have hp2 := (blk_cell H7.out.1 2).trans rfl
      have hp3 := (blk_cell H7.out.1 3).trans rfl
      have hp6 := (blk_cell H7.out.1 6).trans rfl
      go_upto_region 2 with fail
      go_cut [43] (fun s43 wx => s43 = .bool (likeB xs fr) ∧ Drawn0 w2 wx)
      case first =>
        by_cases hl : fr + 1 < 16
        · obtain ⟨ad', e, hy0, hy1, hy2, hy3⟩ := at_T71 HX.out (fr + 1) (by omega) hl
          cases e
          have hlb : decide (fr + 1 < 16) = true := decide_eq_true hl
          have hlp : decide (0 ≤ fr + 1) = true := decide_eq_true (by omega)
          cases h1 : ((rd_T71 xs (fr + 1)).f0 == (rd_T71 xs fr).f0) with
          | false =>
            have hf : likeB xs fr = false := by simp [likeB, h1]
            have Hf := Aside0.mk hf
            clear hf
            go_quiet (fail)
            go_wp2
            go_meet
            exact ⟨by rw [Hf.out], Drawn0.step (Drawn0.refl _) _⟩
          | true =>
            cases h2 : ((rd_T71 xs (fr + 1)).f3 == (rd_T71 xs fr).f3) with
            | false =>
              have hf : likeB xs fr = false := by simp [likeB, h2]
              have Hf := Aside0.mk hf
              clear hf
              go_quiet (fail)
              go_wp2
              go_meet
              exact ⟨by rw [Hf.out], Drawn0.step (Drawn0.refl _) _⟩
            | true =>
              have hf : likeB xs fr = true := by simp [likeB, h1, h2, hl]
              have Hf := Aside0.mk hf
              clear hf
              go_quiet (fail)
              go_wp2
              go_meet
              exact ⟨by rw [Hf.out], Drawn0.step (Drawn0.refl _) _⟩
        · have hlb : decide (fr + 1 < 16) = false := decide_eq_false hl
          have hf : likeB xs fr = false := by simp [likeB, hlb]
          have Hf := Aside0.mk hf
          clear hf
          go_quiet (fail)
          go_wp2
          go_meet
          exact ⟨by rw [Hf.out], Drawn0.step (Drawn0.refl _) _⟩
      case rest =>
        obtain ⟨rfl, hd⟩ := hcut
        obtain ⟨w3, rfl⟩ : ∃ w3 : World, w3 = wc := ⟨_, rfl⟩
        have H7b := Aside0.mk (blk_below H7.out.1 hd.below)
        have H6b := Aside0.mk (blk_below (blk_below H6.out.1 H7.out.2.2) hd.below)
        have HB3 := Aside0.mk (below_step HB.out hd.below)
        have HX3 := Aside0.mk (Kd.C_below HR.out HB3.out)
        clear hd hp0 hp2 hp3 hp6
        clear HX
        go_upto_if 43 with fail
        go_cut [] (fun wx => Aside0 (wx.heap[g7]? = some (.cells (cellsP (begin0 row xs fr)) 80 (0, 0)) ∧ wx.heap[g6]? = some (.cells #[.int .i64 0, .int .i64 0, .int .i64 0, .int .i64 0, .int .i64 0, .int .i64 0, .int .u64 0, .int .i64 0, .int .i64 0] 80 (0, 0)) ∧ Below w.heap.size w wx))
        case first =>
          cases hlk : likeB xs fr with
          | false =>
            have hf : begin0 row xs fr = ⟨row, fr, fr + 1, rd_T71 xs fr, 0, 0⟩ := by simp [begin0, hlk]
            have Hf := Aside0.mk hf
            clear hf hlk
            go_wp2
            go_meet
            exact ⟨by rw [Hf.out]; exact H7b.out, H6b.out, HB3.out⟩
          | true =>
            have hf : begin0 row xs fr = ⟨row, fr, fr + 1, rd_T71 xs fr, wrap64 ((rd_T71 xs (fr + 1)).f1 - (rd_T71 xs fr).f1), wrap64 ((rd_T71 xs (fr + 1)).f2 - (rd_T71 xs fr).f2)⟩ := by simp [begin0, hlk]
            have hl : fr + 1 < 16 := by simp [likeB] at hlk; omega
            have Hf := Aside0.mk hf
            clear hf hlk
            obtain ⟨ad', e, hy0, hy1, hy2, hy3⟩ := at_T71 HX3.out (fr + 1) (by omega) hl
            cases e
            have hlp : decide (0 ≤ fr + 1) = true := decide_eq_true (by omega)
            have hp2 := (blk_cell H7b.out 2).trans rfl
            have hp4 := (blk_cell H7b.out 4).trans rfl
            have hp5 := (blk_cell H7b.out 5).trans rfl
            have hp7 := (blk_cell H7b.out 7).trans rfl
            have hp8 := (blk_cell H7b.out 8).trans rfl
            have hz7 := blk_frozen H7b.out 7
            have hne1 : (ad.add ((fr + 1).toNat * 4)).block ≠ g7 := by
              have h1 := World.block_lt_of_cell? _ _ (at_T71_blk HR.out (fr + 1) (by omega) hl)
              have h2 := blk_lt H6b.out
              have := H6.out.2.1
              have := H7.out.2.1
              omega
            have hne2 := Ne.symm hne1
            have hz8 := blk_frozen H7b.out 8
            go_wp2
            go_region
            go_wp2
            go_meet
            have e6 : g6 < g7 := H7.out.2.1
            have e7 : w.heap.size ≤ g6 := H6.out.2.1
            exact ⟨by rw [Hf.out]; exact blk_drew (blk_put (blk_put H7b.out 7 _ rfl) 8 _ rfl), blk_drew (blk_far (blk_far H6b.out (by simp; omega) _) (by simp; omega) _), below_drew (below_set (below_set HB3.out (by omega)) (by omega))⟩
        case rest =>
          have HC := hcut
          clear hcut
          obtain ⟨w4, rfl⟩ : ∃ w4 : World, w4 = wc := ⟨_, rfl⟩
          have hG := Aside0.mk (H7.out.2.1)
          have hG6 := Aside0.mk (H6.out.2.1)
          have hP : ∃ p : S80, Aside0 (p = begin0 row xs fr) := ⟨_, ⟨rfl⟩⟩
          obtain ⟨p, HP⟩ := hP
          rw [← HP.out] at HC
          have hp2 : Aside0 (p.f2 = fr + 1) := ⟨by rw [HP.out]; unfold begin0; split <;> rfl⟩
          clear H7 H7b H6b HB HB3 HX3 hw H6
          go_wp2
          go_loopg [] 16 (fun gk w' => ∃ t : Int, Aside0 (fr + 1 ≤ t ∧ t ≤ 16 ∧ 16 - t ≤ gk ∧ extTo xs p fr gk t = extTo xs p fr 16 (fr + 1)) ∧ Aside0 (w'.heap[g7]? = some (.cells (cellsP { p with f2 := t }) 80 (0, 0)) ∧ w'.heap[g6]? = some (.cells #[.int .i64 0, .int .i64 0, .int .i64 0, .int .i64 0, .int .i64 0, .int .i64 0, .int .u64 0, .int .i64 0, .int .i64 0] 80 (0, 0)) ∧ Below w.heap.size w w'))
          case atStart =>
            refine ⟨fr + 1, ⟨by omega, by omega, by omega, rfl⟩, ⟨?_, HC.out.2⟩⟩
            have : ({ p with f2 := fr + 1 } : S80) = p := by rw [← hp2.out]
            rw [this]; exact HC.out.1
          case round =>
            obtain ⟨t, HT, HW⟩ := hrel
            have hB := Aside0.mk HW.out.2.2
            by_cases hl : t < 16
            · obtain ⟨ad', e, y0, y1, y2, y3⟩ := at_T71 (Kd.C_below HR.out HW.out.2.2) t (by have := HT.out; omega) hl
              cases e
              obtain ⟨c0, c1, c2, c3, c4, c5, c6, c7, c8⟩ := at_PT HW.out.1
              have hlb : decide (t < 16) = true := decide_eq_true hl
              have ht0 : 0 ≤ t := by have := HT.out; omega
              have hws : IntKind.i64.wrap (t - fr) = t - fr := IntWalk.i64_in _ (by have := HT.out; omega)
              obtain ⟨b, heq⟩ : ∃ b, ((rd_T71 xs t).f0 == p.f3.f0 && ((rd_T71 xs t).f1 == wrap64 (p.f3.f1 + (wrap64 ((t - fr) * p.f4))) && ((rd_T71 xs t).f2 == wrap64 (p.f3.f2 + (wrap64 ((t - fr) * p.f5))) && ((rd_T71 xs t).f3 == p.f3.f3)))) = b := ⟨_, rfl⟩
              go_upto_region 4 with fail
              go_cut [82] (fun s82 wx => s82 = .bool b ∧ Below wr.heap.size wr wx)
              case first =>
                go_region_held3 (fun w' => w'.cell? ⟨g7, 0, none⟩ = some (.int .i64 p.f0) ∧ w'.cell? ⟨g7, 1, none⟩ = some (.int .i64 p.f1) ∧ w'.cell? ⟨g7, 2, none⟩ = some (.int .i64 t) ∧ w'.cell? ⟨g7, 3, none⟩ = some (.int .i64 p.f3.f0) ∧ w'.cell? ⟨g7, 4, none⟩ = some (.int .i64 p.f3.f1) ∧ w'.cell? ⟨g7, 5, none⟩ = some (.int .i64 p.f3.f2) ∧ w'.cell? ⟨g7, 6, none⟩ = some (.int .u64 p.f3.f3) ∧ w'.cell? ⟨g7, 7, none⟩ = some (.int .i64 p.f4) ∧ w'.cell? ⟨g7, 8, none⟩ = some (.int .i64 p.f5) ∧ w'.cell? (ad.add (t.toNat * 4)) = some (.int .i64 (rd_T71 xs t).f0) ∧ w'.cell? ⟨(ad.add (t.toNat * 4)).block, (ad.add (t.toNat * 4)).off + 1, none⟩ = some (.int .i64 (rd_T71 xs t).f1) ∧ w'.cell? ⟨(ad.add (t.toNat * 4)).block, (ad.add (t.toNat * 4)).off + 2, none⟩ = some (.int .i64 (rd_T71 xs t).f2) ∧ w'.cell? ⟨(ad.add (t.toNat * 4)).block, (ad.add (t.toNat * 4)).off + 3, none⟩ = some (.int .u64 (rd_T71 xs t).f3))
                  (first | exact ⟨c0, c1, c2, c3, c4, c5, c6, c7, c8, y0, y1, y2, y3⟩ | exact ⟨k0, k1, k2, k3, k4, k5, k6, k7, k8, l0, l1, l2, l3⟩)
                  (first | (go_at_call 64; refine (at_calls2 p t (t - fr) _).mono ?_; rintro e w' ⟨rfl, hb⟩; have k0 := pw_cell_below hb c0; have k1 := pw_cell_below hb c1; have k2 := pw_cell_below hb c2; have k3 := pw_cell_below hb c3; have k4 := pw_cell_below hb c4; have k5 := pw_cell_below hb c5; have k6 := pw_cell_below hb c6; have k7 := pw_cell_below hb c7; have k8 := pw_cell_below hb c8; have l0 := pw_cell_below hb y0; have l1 := pw_cell_below hb y1; have l2 := pw_cell_below hb y2; have l3 := pw_cell_below hb y3))
                all_goals go_wp2
                all_goals go_meet
                all_goals exact ⟨rfl, below_step (below_drew1 (Below.refl _ _)) hb⟩
              case rest =>
                obtain ⟨rfl, hb⟩ := hcut
                have hE : Aside0 (extTo xs p fr (gk - 1 + 1) t = if b then extTo xs p fr (gk - 1) (t + 1) else t) := ⟨ext_step _ hl heq⟩
                have hgk : gk - 1 + 1 = gk := by have := HT.out; omega
                obtain ⟨w5, rfl⟩ : ∃ w5 : World, w5 = wc := ⟨_, rfl⟩
                have HW5 := Aside0.mk (blk_below HW.out.1 hb)
                have HZ5 := Aside0.mk (blk_below HW.out.2.1 hb)
                have HB5 := Aside0.mk (below_step hB.out hb)
                clear hb heq y0 y1 y2 y3 c0 c1 c2 c3 c4 c5 c6 c7 c8 hws
                obtain ⟨c0, c1, c2, c3, c4, c5, c6, c7, c8⟩ := at_PT HW5.out
                cases b with
                | true =>
                  have hz2 := blk_frozen HW5.out 2
                  have hw : wrap64 (t + 1) = t + 1 := by unfold wrap64; omega
                  go_wp2
                  go_roundg (gk - 1)
                  case measure => omega
                  case rel =>
                    have a1 := HT.out
                    have a2 := hG.out
                    have a3 := hG6.out
                    have a4 := hE.out
                    rw [hgk] at a4
                    refine ⟨t + 1, ⟨by omega, by omega, by omega, ?_⟩, ⟨blk_put HW5.out 2 _ rfl, blk_far HZ5.out (by simp; omega) _, below_set HB5.out (by omega)⟩⟩
                    rw [← a1.2.2.2, a4]; rfl
                | false =>
                  have z0 := blk_frozen HZ5.out 0
                  have z1 := blk_frozen HZ5.out 1
                  have z2 := blk_frozen HZ5.out 2
                  have z3 := blk_frozen HZ5.out 3
                  have z4 := blk_frozen HZ5.out 4
                  have z5 := blk_frozen HZ5.out 5
                  have z6 := blk_frozen HZ5.out 6
                  have z7 := blk_frozen HZ5.out 7
                  have z8 := blk_frozen HZ5.out 8
                  have d0 := blk_cell HZ5.out 0
                  have d1 := blk_cell HZ5.out 1
                  have d2 := blk_cell HZ5.out 2
                  have d3 := blk_cell HZ5.out 3
                  have d4 := blk_cell HZ5.out 4
                  have d5 := blk_cell HZ5.out 5
                  have d6 := blk_cell HZ5.out 6
                  have d7 := blk_cell HZ5.out 7
                  have d8 := blk_cell HZ5.out 8
                  go_wp2
                  refine bodyPost_ret (results_cell_row rfl _ _ g6 80 (cellsP { p with f2 := t }) (0, 0) _ rfl (blk_put9 HZ5.out) Try.underlying80 rfl (by kernel_rfl)) rfl ?_
                  have a1 := HT.out
                  have a4 := hE.out
                  rw [hgk] at a4
                  have a4' : extTo xs p fr gk t = t := a4
                  refine ⟨?_, below_put9 HB5.out hG6.out⟩
                  have e1 : beginF row xs fr = { p with f2 := t } := by
                    unfold beginF; rw [← HP.out, ← a1.2.2.2, a4']
                  rw [e1]; rfl
            · have hlb : decide (t < 16) = false := decide_eq_false hl
              obtain ⟨c0, c1, c2, c3, c4, c5, c6, c7, c8⟩ := at_PT HW.out.1
              have z0 := blk_frozen HW.out.2.1 0
              have d0 := blk_cell HW.out.2.1 0
              have z1 := blk_frozen HW.out.2.1 1
              have d1 := blk_cell HW.out.2.1 1
              have z2 := blk_frozen HW.out.2.1 2
              have d2 := blk_cell HW.out.2.1 2
              have z3 := blk_frozen HW.out.2.1 3
              have d3 := blk_cell HW.out.2.1 3
              have z4 := blk_frozen HW.out.2.1 4
              have d4 := blk_cell HW.out.2.1 4
              have z5 := blk_frozen HW.out.2.1 5
              have d5 := blk_cell HW.out.2.1 5
              have z6 := blk_frozen HW.out.2.1 6
              have d6 := blk_cell HW.out.2.1 6
              have z7 := blk_frozen HW.out.2.1 7
              have d7 := blk_cell HW.out.2.1 7
              have z8 := blk_frozen HW.out.2.1 8
              have d8 := blk_cell HW.out.2.1 8
              go_wp2
              go_quiet (fail)
              go_wp2
              refine bodyPost_ret (results_cell_row rfl _ _ g6 80 (cellsP { p with f2 := t }) (0, 0) _ rfl (blk_put9 (blk_drewN HW.out.2.1 _)) Try.underlying80 rfl (by kernel_rfl)) rfl ?_
              have a1 := HT.out
              refine ⟨?_, below_put9 (pw_below_drewN hB.out _) hG6.out⟩
              have e1 : beginF row xs fr = { p with f2 := t } := by
                unfold beginF; rw [← HP.out, ← a1.2.2.2, ext_end _ (by omega)]
              rw [e1]; rfl
end Go.Proofs.Ytgmbjgddelcceaa.P
