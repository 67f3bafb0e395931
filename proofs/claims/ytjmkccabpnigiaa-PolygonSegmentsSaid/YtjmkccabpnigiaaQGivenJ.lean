import Derived.Test.YtjmkccabpnigiaaQGivenE
import Derived.Test.YtjmkccabpnigiaaQPx4
import Derived.Deep.RegionHeld3
import Derived.BigRegion
import Derived.Deep.DeepCutAuto
namespace Go.Proofs.Ytjmkccabpnigiaa.P
open Go.RowKit Go.Proofs.YtjmkccabpnigiaaW.PrintWords Go.Proofs.YtjmkccabpnigiaaW.PrintLast Go.Proofs.YtjmkccabpnigiaaW.PrintMore
attribute [local go_sem] max2_int min2_int max_two min_two max_three min_three max_four min_four
set_option linter.unusedVariables false
set_option linter.unusedSimpArgs false
theorem times_in {b : List Int} {w : Int} (hb : Dg b) (hw : 0 ≤ w ∧ w < 4294967296) (a : List Int) (la i : Nat) (hm : i + b.length ≤ 1000000) : ∀ (m : Nat) (k : Nat) (j : Nat) (rd0 os : List Int) (c : Int) (x19 x20 : Int), b.length - j = m → j ≤ b.length → m < k → rd0.length = i + j → b.length - j < os.length → Dg os → 0 ≤ c ∧ c < 4294967296 →
    wide_times.l1 k b (rd0 ++ os) (i : Int) w c a x19 x20 b (b.length : Int) (j : Int) = wide_times.l0 (k - 1 - m) b (rd0 ++ rowGo w (b.drop j) os c) a x19 (wrap64 (x20 + 1)) := by
 intro m
 induction m with
 | zero =>
  intro k j rd0 os c x19 x20 hj hjl hk hrd hos hdo hc
  obtain ⟨k, rfl⟩ : ∃ m, k = m + 1 := ⟨k - 1, by omega⟩
  obtain rfl : j = b.length := by omega
  have hwi := Aside0.mk (show wrap64 ((i : Int) + (b.length : Int)) = ((i + b.length : Nat) : Int) from by unfold wrap64; omega)
  simp only [wide_times.l1]
  rw [if_neg (by omega), hwi.out, if_pos (by omega), if_pos (by rw [List.length_append]; omega), Int.toNat_natCast, Int.emod_eq_of_lt hc.1 hc.2, List.drop_length, rowGo]
  congr 1
  rw [List.set_append_right _ _ (by omega), show i + b.length - rd0.length = 0 from by omega]
  cases os with
  | nil => simp at hos
  | cons o os => rfl
 | succ m ih =>
  intro k j rd0 os c x19 x20 hj hjl hk hrd hos hdo hc
  obtain ⟨k, rfl⟩ : ∃ m, k = m + 1 := ⟨k - 1, by omega⟩
  have hjb : j < b.length := by omega
  have hwi := Aside0.mk (show wrap64 ((i : Int) + (j : Int)) = ((i + j : Nat) : Int) from by unfold wrap64; omega)
  have hwj := Aside0.mk (show wrap64 ((j : Int) + 1) = ((j + 1 : Nat) : Int) from by unfold wrap64; omega)
  cases os with
  | nil => simp at hos
  | cons o os =>
   have hx : 0 ≤ b[j] ∧ b[j] < 4294967296 := hb _ (List.getElem_mem _)
   have ho := hdo.head
   have hst := row_step hw hx ho hc
   have hmb := mul_bound hw hx
   have hro : rd (rd0 ++ o :: os) ((i + j : Nat) : Int) = o := by
    simp only [rd, Int.toNat_natCast, List.getD_eq_getElem?_getD]
    rw [List.getElem?_append_right (by omega), show i + j - rd0.length = 0 from by omega]
    rfl
   have u1 := Aside0.mk (show IntKind.u64.wrap w = w from IntWalk.u64_in _ (by omega))
   have u2 := Aside0.mk (show IntKind.u64.wrap b[j] = b[j] from IntWalk.u64_in _ (by omega))
   have u3 := Aside0.mk (show IntKind.u64.wrap o = o from IntWalk.u64_in _ (by omega))
   have u4 := Aside0.mk (show IntKind.u64.wrap (w * b[j]) = w * b[j] from IntWalk.u64_in _ (by omega))
   have u5 := Aside0.mk (show IntKind.u64.wrap (w * b[j] + o) = w * b[j] + o from IntWalk.u64_in _ (by omega))
   have u6 := Aside0.mk (show IntKind.u64.wrap (w * b[j] + o + c) = w * b[j] + o + c from IntWalk.u64_in _ (by omega))
   simp only [wide_times.l1]
   rw [if_pos (by omega), if_pos (by omega), if_pos (by omega), hwi.out, if_pos (by omega), if_pos (by rw [List.length_append]; simp; omega), hro, rd_get b j hjb, u1.out, u2.out, u3.out, u4.out, u5.out, u6.out, hwj.out]
   have hset : (rd0 ++ o :: os).set ((i + j : Nat) : Int).toNat ((w * b[j] + o + c) % 4294967296) = (rd0 ++ [(w * b[j] + o + c) % 4294967296]) ++ os := by
    rw [Int.toNat_natCast, List.set_append_right _ _ (by omega), show i + j - rd0.length = 0 from by omega, List.set_cons_zero, List.append_assoc]
    rfl
   rw [hset, ih k (j + 1) _ os _ x19 x20 (by omega) (by omega) (by omega) (by simp; omega) (by simp at hos; omega) hdo.tail ⟨hst.1, hst.2.1⟩]
   rw [show k + 1 - 1 - (m + 1) = k - 1 - m from by omega]
   congr 1
   rw [List.drop_eq_getElem_cons hjb, rowGo, List.append_assoc]
   rfl
theorem times_out {a b : List Int} (ha : Dg a) (hb : Dg b) (hm : a.length + b.length ≤ 1000000) : ∀ (m : Nat) (k : Nat) (i : Nat) (done os : List Int), a.length - i = m → i ≤ a.length → m * (b.length + 2) < k → done.length = i → os.length = a.length - i + b.length → Dg os →
    wide_times.l0 k b (done ++ os) a (a.length : Int) (i : Int) = some (done ++ timesGo (a.drop i) b os) := by
 intro m
 induction m with
 | zero =>
  intro k i done os hi hil hk hd hos hdo
  obtain ⟨k, rfl⟩ : ∃ m, k = m + 1 := ⟨k - 1, by omega⟩
  simp only [wide_times.l0]
  rw [if_neg (by omega), List.drop_eq_nil_of_le (by omega), timesGo]
 | succ m ih =>
  intro k i done os hi hil hk hd hos hdo
  obtain ⟨k, rfl⟩ : ∃ m, k = m + 1 := ⟨k - 1, by omega⟩
  have hia : i < a.length := by omega
  have hx : 0 ≤ a[i] ∧ a[i] < 4294967296 := ha _ (List.getElem_mem _)
  rw [Nat.succ_mul] at hk
  have hwj := Aside0.mk (show wrap64 ((i : Int) + 1) = ((i + 1 : Nat) : Int) from by unfold wrap64; omega)
  simp only [wide_times.l0]
  rw [if_pos (by omega), if_pos (by omega), if_pos (by omega), rd_get a i hia]
  have h1 := times_in hb hx a a.length i (by omega) b.length k 0 done os 0 (a.length : Int) (i : Int) (by omega) (by omega) (by omega) (by omega) (by omega) hdo ⟨by omega, by omega⟩
  rw [show ((0 : Nat) : Int) = 0 from rfl] at h1
  rw [h1, hwj.out, List.drop_zero]
  have hlen := rowGo_length a[i] b os 0 (by omega)
  have hdg := rowGo_dg hx b os 0 hb hdo ⟨by omega, by omega⟩
  obtain ⟨x, xs, hr⟩ : ∃ x xs, rowGo a[i] b os 0 = x :: xs := by
   cases h : rowGo a[i] b os 0 with
   | nil => rw [h] at hlen; simp at hlen; omega
   | cons x xs => exact ⟨x, xs, rfl⟩
  rw [hr] at hlen hdg ⊢
  have h2 := ih (k - 1 - b.length) (i + 1) (done ++ [x]) xs (by omega) (by omega) (by omega) (by simp [hd]) (by simp at hlen; omega) hdg.tail
  rw [List.append_assoc] at h2
  rw [show done ++ x :: xs = done ++ ([x] ++ xs) from rfl, h2, List.drop_eq_getElem_cons hia, timesGo, hr, List.append_assoc]
  rfl
theorem times_f {a b : List Int} (ha : Dg a) (hb : Dg b) (hm : a.length + b.length ≤ 1000000) : wide_times.f (a.length * (b.length + 2) + 1) a b = some (timesGo a b (List.replicate (a.length + b.length) 0)) := by
 unfold wide_times.f
 have hw := Aside0.mk (show wrap64 ((a.length : Int) + (b.length : Int)) = ((a.length + b.length : Nat) : Int) from by unfold wrap64; omega)
 rw [hw.out, if_pos (by omega), if_pos (by omega), Int.toNat_natCast]
 have h := times_out ha hb hm a.length (a.length * (b.length + 2) + 1) 0 [] (List.replicate (a.length + b.length) 0) (by omega) (by omega) (by omega) rfl (by simp) (Dg.replicate _)
 simpa using h
theorem times_calls (A0 : Option Addr) (n0 c0 : Nat) (a : List Int) (A1 : Option Addr) (n1 c1 : Nat) (b : List Int) (w : World) (ha : MgC w A0 n0 c0 a) (hb : MgC w A1 n1 c1 b) (hm : a.length + b.length ≤ 1000000) :
    Calls Try.prog 88 #[.slice A0 n0 c0, .slice A1 n1 c1] w fun e w' => ∃ (A' : Option Addr) (c' : Nat) (r : List Int), e = .returned (.slice A' r.length c') ∧ MgC w' A' r.length c' r ∧ val r = val a * val b ∧ r.length = a.length + b.length ∧ Below w.heap.size w w' := by
 obtain ⟨h1, rfl, h2, h3⟩ := ha
 obtain ⟨k1, rfl, k2, k3⟩ := hb
 refine (wide_times.calls _ A0 c0 a A1 c1 b _ w h1 h2 k1 k2 (times_f h3 k3 hm)).mono ?_
 rintro e w' ⟨v, rfl, hR, hb⟩
 obtain ⟨A', c', rfl, hc, hC⟩ := Kd.R_reads hR
 refine ⟨A', c', _, rfl, ⟨hC, rfl, hc, timesGo_dg _ _ _ h3 k3 (Dg.replicate _)⟩, ?_, ?_, hb⟩
 ·rw [timesGo_val _ _ _ (by intro k _; simp [List.getD_eq_getElem?_getD, List.getElem?_replicate]; split <;> rfl), val_replicate]; omega
 ·rw [timesGo_length _ _ _ (by simp), List.length_replicate]
end Go.Proofs.Ytjmkccabpnigiaa.P
namespace Go.Proofs.Ytjmkccabpnigiaa.P
open Go.RowKit Go.Proofs.YtjmkccabpnigiaaW.PrintWords Go.Proofs.YtjmkccabpnigiaaW.PrintLast Go.Proofs.YtjmkccabpnigiaaW.PrintMore
attribute [local go_sem] max2_int min2_int max_two min_two max_three min_three max_four min_four
set_option linter.unusedVariables false
set_option linter.unusedSimpArgs false
/-- How great a number is. -/
def magn (z : Int) : Int := if z < 0 then -z else z
theorem magn_nonneg (z : Int) : 0 ≤ magn z := by unfold magn; split <;> omega
theorem magn_zero {z : Int} : magn z = 0 ↔ z = 0 := by unfold magn; split <;> omega
/-- An integer of package wide. -/
def WI (w : World) (v : Value) (z : Int) : Prop := ∃ (A : Option Addr) (n c : Nat) (ds : List Int), v = .agg #[.bool (decide (z < 0)), .slice A n c] ∧ MgC w A n c ds ∧ Nz ds ∧ val ds = magn z
theorem WI.below {w w1 : World} {v : Value} {z : Int} (h : WI w v z) (hb : Below w.heap.size w w1) : WI w1 v z := by
 obtain ⟨A, n, c, ds, rfl, h1, h2⟩ := h
 exact ⟨A, n, c, ds, rfl, h1.below hb, h2⟩
/-- The digits fit into 512 words. -/
def Fit (z : Int) : Prop := magn z < 4294967296 ^ 512
theorem Fit.len {z : Int} {ds : List Int} (h : Fit z) (hd : Dg ds) (hn : Nz ds) (hv : val ds = magn z) : ds.length ≤ 512 := length_le hd hn (by rw [hv]; exact h)
theorem pow512 : (340282366920938463463374607431768211456 : Int) ≤ 4294967296 ^ 512 := by
 have := pow_le (show 4 ≤ 512 by omega)
 have e : (4294967296 : Int) ^ 4 = 340282366920938463463374607431768211456 := by decide
 omega
theorem Fit.small {z : Int} (h0 : -340282366920938463463374607431768211456 < z) (h1 : z < 340282366920938463463374607431768211456) : Fit z := by
 have := pow512
 unfold Fit magn
 split <;> omega
theorem results_ct {fn : Func} {p p' : Tmp} (h : fn.results = #[.cell p 43, .tmp p']) (tmps : Array Value) (W : World) (g : Nat) (u0 u1 e : Value)
    (hp : tmps[p]?.getD undef = .pointer (some ⟨g, 0, none⟩)) (hp' : tmps[p']?.getD undef = e) (hg : W.heap[g]? = some (.cells #[u0, u1] 43 (0, 0))) :
    (results fn tmps).run Try.prog W = .ok (.tuple #[.agg #[u0, u1], e]) W := by
 have hu43 := Try.underlying43
 have c0 : W.cell? ⟨g, 0, none⟩ = some u0 := blk_cell hg 0
 have c1 : W.cell? ⟨g, 1, none⟩ = some u1 := blk_cell hg 1
 simp only [results, h]
 go_simp
theorem signed_z (ng : Bool) {r : List Int} (hd : Dg r) (hn : Nz r) (x : Int) (hx : val r = x) : (ng && decide (0 < r.length)) = decide ((if ng then -x else x) < 0) ∧ val r = magn (if ng then -x else x) := by
 have h0 := val_nonneg hd
 cases r with
 | nil => subst hx; cases ng <;> simp [val, magn]
 | cons d ds =>
  have h1 := val_pos hd hn (by simp)
  rw [hx] at h0 h1
  cases ng with
  | true =>
   simp only [Bool.true_and, if_true]
   refine ⟨?_, by unfold magn; rw [if_pos (by omega)]; omega⟩
   rw [decide_eq_true (by simp), decide_eq_true (by omega)]
  | false =>
   simp only [Bool.false_and, Bool.false_eq_true, if_false]
   refine ⟨?_, by unfold magn; rw [if_neg (by omega)]; omega⟩
   rw [decide_eq_false (by omega)]
/-- Cells that hold numbers stay. -/
def IntKeep (w w1 : World) : Prop := ∀ a k x, w.cell? a = some (.int k x) → w1.cell? a = some (.int k x)
theorem IntKeep.refl (w : World) : IntKeep w w := fun _ _ _ h => h
theorem IntKeep.trans {w w1 w2 : World} (h : IntKeep w w1) (k : IntKeep w1 w2) : IntKeep w w2 := fun a q x hx => k a q x (h a q x hx)
theorem IntKeep.below {w w1 : World} (hb : Below w.heap.size w w1) : IntKeep w w1 := fun a q x hx => pw_cell_below hb hx
theorem IntKeep.set {w : World} {g j : Nat} {cs : Array Value} {t : TypeId} (hg : w.heap[g]? = some (.cells cs t (0, 0))) (hj : ∀ k x, cs[j]? ≠ some (.int k x)) (v : Value) : IntKeep w (w.setCell ⟨g, j, none⟩ v) := by
 intro a k x h
 by_cases e : (⟨g, j, none⟩ : Addr) = a
 ·subst e
  rw [blk_cell hg] at h
  exact absurd h (hj k x)
 ·rw [World.cell?_setCell_other (h := e)]
  exact h
theorem IntKeep.C {w w1 : World} {q : IntKind} {A : Option Addr} {n : Nat} {xs : List Int} (hk : IntKeep w w1) (h : (Kd.int q).C w A n xs) : (Kd.int q).C w1 A n xs :=
 ⟨h.1, h.2.1, fun hn => by
  obtain ⟨ad, e, hc⟩ := h.2.2 hn
  refine ⟨ad, e, fun j p hj => ?_⟩
  obtain ⟨c, hs, hr, hcell⟩ := hc j p hj
  refine ⟨c, hs, hr, fun i u hu => ?_⟩
  have h1 := hcell i u hu
  have hr' : c = [Value.int q p] := hr
  subst hr'
  cases i with
  | zero =>
   have : Value.int q p = u := by simpa using hu
   subst this
   exact hk _ _ _ h1
  | succ i => simp at hu⟩
theorem IntKeep.set2 {w : World} {g : Nat} {b0 : Bool} {A0 : Option Addr} {n0 c0 : Nat} {t : TypeId} (hg : w.heap[g]? = some (.cells #[.bool b0, .slice A0 n0 c0] t (0, 0))) (b : Bool) (A : Option Addr) (n c : Nat) :
    IntKeep w ((w.setCell ⟨g, 0, none⟩ (.bool b)).setCell ⟨g, 1, none⟩ (.slice A n c)) := by
 have h1 := IntKeep.set (j := 0) hg (fun k x => by simp) (.bool b)
 have hg1 : (w.setCell ⟨g, 0, none⟩ (.bool b)).heap[g]? = some (.cells #[.bool b, .slice A0 n0 c0] t (0, 0)) := blk_put hg 0 _ rfl
 exact h1.trans (IntKeep.set (j := 1) hg1 (fun k x => by simp) (.slice A n c))
theorem MgC.keep {w w1 : World} {A : Option Addr} {n c : Nat} {ds : List Int} (h : MgC w A n c ds) (hk : IntKeep w w1) : MgC w1 A n c ds := ⟨hk.C h.1, h.2⟩
theorem WI.keep {w w1 : World} {v : Value} {z : Int} (h : WI w v z) (hk : IntKeep w w1) : WI w1 v z := by
 obtain ⟨A, n, c, ds, rfl, h1, h2⟩ := h
 exact ⟨A, n, c, ds, rfl, h1.keep hk, h2⟩
set_option maxHeartbeats 2000000 in
set_option maxRecDepth 100000 in
theorem signed_calls (ng : Bool) (A : Option Addr) (n c : Nat) (ds : List Int) (w : World) (h : MgC w A n c ds) (hl : ds.length ≤ 1000000) (x : Int) (hx : val ds = x) (hf : Fit x) :
    Calls Try.prog 63 #[.bool ng, .slice A n c] w fun e w' => ∃ v, e = .returned (.tuple #[v, .int .i64 0]) ∧ WI w' v (if ng then -x else x) ∧ Below w.heap.size w w' := by
 have hu43 := Try.underlying43
 have H := Aside0.mk h
 go_enter Try.func63, Try.ntmps63
 go_upto_region 2 with (first | (go_at_call 73; refine (normal_calls A n c ds _ (H.out.below (below_alloc (Below.refl _ _) _)) hl).mono ?_; rintro e w1 ⟨A', c', r, rfl, hM, hN, hv, hl, hb⟩) | fail)
 have HM := Aside0.mk hM
 have HN := Aside0.mk hN
 have HV := Aside0.mk (hv.trans hx)
 have hr : Aside0 (r.length ≤ 512) := ⟨hf.len hM.2.2.2 hN (by rw [hv, hx]; unfold magn; rw [if_neg (by have := val_nonneg H.out.2.2.2; omega)])⟩
 have hg := blk_below (blk_new w (.cells #[.bool false, .slice none 0 0] 43)) hb
 have HB := Aside0.mk (below_step (below_alloc (Below.refl w.heap.size w) _) hb)
 have q1 : decide (512 < (r.length : Int)) = false := decide_eq_false (by have := hr.out; omega)
 have HZ := Aside0.mk (signed_z ng hM.2.2.2 hN x (hv.trans hx))
 have HG := Aside0.mk hg
 have HC := Aside0.mk (fun (b : Bool) => (IntKeep.set2 hg b A' r.length c').C hM.1)
 clear hM hN hv hl hb hx
 have f0 := blk_frozen hg 0
 have f1 := blk_frozen hg 1
 have c0 := (blk_cell hg 0).trans rfl
 have c1 := (blk_cell hg 1).trans rfl
 clear hg
 have hend : ∀ (b : Bool), b = (ng && decide (0 < r.length)) → (∃ v, Ending.returned (.tuple #[.agg #[.bool b, .slice A' r.length c'], .int .i64 0]) = Ending.returned (.tuple #[v, .int .i64 0]) ∧ WI ((w1.setCell ⟨w.heap.size, 0, none⟩ (.bool b)).setCell ⟨w.heap.size, 1, none⟩ (.slice A' r.length c')) v (if ng then -x else x) ∧ Below w.heap.size w ((w1.setCell ⟨w.heap.size, 0, none⟩ (.bool b)).setCell ⟨w.heap.size, 1, none⟩ (.slice A' r.length c'))) := by
  intro b hb
  have hB2 : Below w.heap.size w ((w1.setCell ⟨w.heap.size, 0, none⟩ (.bool b)).setCell ⟨w.heap.size, 1, none⟩ (.slice A' r.length c')) := below_set (below_set HB.out (Nat.le_refl _)) (Nat.le_refl _)
  refine ⟨_, rfl, ⟨A', r.length, c', r, by rw [hb, HZ.out.1], ⟨?_, rfl, HM.out.2.2.1, HM.out.2.2.2⟩, HN.out, HZ.out.2⟩, hB2⟩
  exact HC.out b
 have HE := Aside0.mk hend
 clear hend
 cases ng with
 | true =>
  go_wp2
  refine bodyPost_ret (results_ct rfl _ _ w.heap.size _ _ _ rfl rfl (blk_put (blk_put HG.out 0 _ rfl) 1 _ rfl)) rfl ?_
  exact HE.out _ rfl
 | false =>
  go_wp2
  refine bodyPost_ret (results_ct rfl _ _ w.heap.size _ _ _ rfl rfl (blk_put (blk_put HG.out 0 _ rfl) 1 _ rfl)) rfl ?_
  exact HE.out _ rfl
end Go.Proofs.Ytjmkccabpnigiaa.P
namespace Go.Proofs.Ytjmkccabpnigiaa.P
open Go.RowKit Go.Proofs.YtjmkccabpnigiaaW.PrintWords Go.Proofs.YtjmkccabpnigiaaW.PrintLast Go.Proofs.YtjmkccabpnigiaaW.PrintMore
attribute [local go_sem] max2_int min2_int max_two min_two max_three min_three max_four min_four
set_option linter.unusedVariables false
set_option linter.unusedSimpArgs false
set_option maxHeartbeats 2000000
set_option maxRecDepth 100000
theorem neg_calls (v : Value) (z : Int) (w : World) (h : WI w v z) :
    Calls Try.prog 55 #[v] w fun e w' => ∃ v', e = .returned v' ∧ WI w' v' (-z) ∧ Below w.heap.size w w' := by
 have hu43 := Try.underlying43
 obtain ⟨A, n, c, ds, rfl, hM, hN, hV⟩ := h
 have HM := Aside0.mk hM
 have HN := Aside0.mk hN
 have HV := Aside0.mk hV
 have hn : n = ds.length := hM.2.1
 have hz : Aside0 ((!(decide (z < 0)) && decide (0 < n)) = decide (-z < 0) ∧ val ds = magn (-z)) := by
  refine ⟨?_, by rw [hV]; unfold magn; split <;> split <;> omega⟩
  have h1 : ds = [] ↔ z = 0 := by
   constructor
   ·rintro rfl; exact magn_zero.1 hV.symm
   ·rintro rfl; exact val_zero hM.2.2.2 hN (by rw [hV]; rfl)
  by_cases h0 : z < 0
  ·rw [decide_eq_true h0]
   simp
   omega
  ·rw [decide_eq_false h0]
   by_cases h2 : z = 0
   ·rw [h1.2 h2] at hn; subst hn; subst h2; rfl
   ·have h3 : ds ≠ [] := fun e => h2 (h1.1 e)
    have h4 : 0 < ds.length := List.length_pos_iff.2 h3
    rw [decide_eq_true (show 0 < n by omega), decide_eq_true (show -z < 0 by omega)]; rfl
 obtain ⟨s, hs⟩ : ∃ s, decide (z < 0) = s := ⟨_, rfl⟩
 rw [hs] at hz ⊢
 clear hM hN hV hn hs
 have hend : Aside0 (∀ (b : Bool), b = (!s && decide (0 < n)) → (∃ v, Ending.returned (.agg #[.bool b, .slice A n c]) = Ending.returned v ∧ WI ((w.alloc (.cells #[.bool s, .slice A n c] 43)).alloc (.cells #[.bool b, .slice A n c] 43)) v (-z) ∧ Below w.heap.size w ((w.alloc (.cells #[.bool s, .slice A n c] 43)).alloc (.cells #[.bool b, .slice A n c] 43)))) := by
  refine ⟨fun b hb => ?_⟩
  have hB : Below w.heap.size w ((w.alloc (.cells #[.bool s, .slice A n c] 43)).alloc (.cells #[.bool b, .slice A n c] 43)) := below_alloc (below_alloc (Below.refl _ _) _) _
  exact ⟨_, rfl, ⟨A, n, c, ds, by rw [hb, hz.out.1], HM.out.below hB, HN.out, hz.out.2⟩, hB⟩
 have hg : Aside0 (∀ b : Bool, ((w.alloc (.cells #[.bool s, .slice A n c] 43)).alloc (.cells #[.bool b, .slice A n c] 43)).heap[w.heap.size + 1]? = some (.cells #[.bool b, .slice A n c] 43 (0, 0))) := ⟨fun b => by
  have := blk_new (w.alloc (.cells #[.bool s, .slice A n c] 43)) (.cells #[.bool b, .slice A n c] 43)
  rwa [World.size_alloc] at this⟩
 clear hz
 cases s with
 | true =>
  go_enter Try.func55, Try.ntmps55
  go_wp2
  refine bodyPost_ret (results_cell_row rfl _ _ (w.heap.size + 1) 43 #[.bool false, .slice A n c] (0, 0) _ rfl (hg.out _) Try.underlying43 rfl (by kernel_rfl)) rfl ?_
  exact hend.out _ rfl
 | false =>
  go_enter Try.func55, Try.ntmps55
  go_wp2
  refine bodyPost_ret (results_cell_row rfl _ _ (w.heap.size + 1) 43 #[.bool (decide (0 < n)), .slice A n c] (0, 0) _ rfl (hg.out _) Try.underlying43 rfl (by kernel_rfl)) rfl ?_
  exact hend.out _ rfl
theorem from_val (n : Int) (h0 : -9223372036854775808 ≤ n) (h1 : n ≤ 9223372036854775807) (u : Int) (hu : u = magn n) : val [u % 4294967296, (u / 4294967296) % 4294967296] = magn n ∧ Dg [u % 4294967296, (u / 4294967296) % 4294967296] := by
 have hm : 0 ≤ magn n ∧ magn n ≤ 9223372036854775808 := by unfold magn; split <;> omega
 refine ⟨?_, Dg.cons (by omega) (by omega) (Dg.cons (by omega) (by omega) Dg.nil)⟩
 simp only [val]
 omega
theorem lit2 (w : World) (x y : Int) : (Kd.int .u32).C (w.alloc (.cells #[.int .u32 x, .int .u32 y] 100)) (some ⟨w.heap.size, 0, none⟩) 2 [x, y] := by
 have hb := blk_new w (.cells #[.int .u32 x, .int .u32 y] 100)
 refine ⟨rfl, by omega, fun _ => ⟨_, rfl, fun j p hj => ⟨[.int .u32 p], rfl, rfl, fun i u hu => ?_⟩⟩⟩
 cases i with
 | succ i => simp at hu
 | zero =>
  have hu : Value.int .u32 p = u := by simpa using hu
  subst hu
  match j with
  | 0 => have : x = p := by simpa using hj
         subst this
         exact blk_cell hb 0
  | 1 => have : y = p := by simpa using hj
         subst this
         exact blk_cell hb 1
  | j + 2 => simp at hj
theorem from_calls (n : Int) (h0 : -9223372036854775808 ≤ n) (h1 : n ≤ 9223372036854775807) (w : World) :
    Calls Try.prog 48 #[.int .i64 n] w fun e w' => ∃ v, e = .returned v ∧ WI w' v n ∧ Below w.heap.size w w' := by
 have hu43 := Try.underlying43
 have HF := Aside0.mk (from_val n h0 h1 _ rfl)
 have hfit : Aside0 (Fit (magn n)) := ⟨Fit.small (by have := magn_nonneg n; omega) (by unfold magn; split <;> omega)⟩
 have hz : Aside0 ((if decide (n < 0) then -(magn n) else magn n) = n) := ⟨by by_cases h : n < 0 <;> simp [h, magn]⟩
 have HL := Aside0.mk (fun (x y : Int) (h : Dg [x, y]) => (show MgC ((w.alloc (.cells #[.bool false, .slice none 0 0] 43)).alloc (.cells #[.int .u32 x, .int .u32 y] 100)) (some ⟨w.heap.size + 1, 0, none⟩) 2 2 [x, y] from ⟨by
  have := lit2 (w.alloc (.cells #[.bool false, .slice none 0 0] 43)) x y
  rwa [World.size_alloc] at this, rfl, Nat.le_refl _, h⟩))
 by_cases hn : n < 0
 ·have hd : decide (n < 0) = true := decide_eq_true hn
  have hm : Aside0 (-n = magn n) := ⟨by unfold magn; rw [if_pos hn]⟩
  rw [hd] at hz
  obtain ⟨u, hu⟩ : ∃ u, magn n = u := ⟨_, rfl⟩
  rw [hu] at HF hfit hz hm
  have hv1 : IntKind.u64.wrap n = n + 18446744073709551616 := by rw [IntKind.wrap_u64]; omega
  have hv2 : IntKind.u64.wrap (-(n + 18446744073709551616)) = u := by rw [← hm.out, IntKind.wrap_u64]; omega
  have hv3 : IntKind.u64.wrap n = n + 18446744073709551616 := hv1
  clear h0 h1 hn hu
  go_enter Try.func48, Try.ntmps48
  go_wp2_with (first | (go_at_call 63; (with_reducible refine (signed_calls true _ 2 2 _ _ (HL.out _ _ HF.out.2) (by simp) u HF.out.1 hfit.out).mono ?_); rintro e w1 ⟨v, rfl, hW, hb⟩; have hz1 := hz.out; rw [if_pos rfl] at hW hz1; rw [hz1] at hW; obtain ⟨A, n1, c1, ds, rfl, hM, hN, hV⟩ := hW; have HW := Aside0.mk (show MgC w1 A n1 c1 ds ∧ Nz ds ∧ val ds = magn n from ⟨hM, hN, hV⟩); have hg := Aside0.mk (blk_below (blk_alloc (blk_new w (.cells #[.bool false, .slice none 0 0] 43)) _) hb); have hB := Aside0.mk (below_step (below_alloc (below_alloc (Below.refl _ _) _) _) hb); clear hM hN hV hb hz1; have f0 := blk_frozen hg.out 0; have f1 := blk_frozen hg.out 1; have c0 : w1.cell? ⟨w.heap.size, 0, none⟩ = some (.bool false) := blk_cell hg.out 0; have c1 : w1.cell? ⟨w.heap.size, 1, none⟩ = some (.slice none 0 0) := blk_cell hg.out 1; have hlt : w.heap.size < w1.heap.size := blk_lt hg.out) | fail)
  refine bodyPost_ret (results_cell_row rfl _ _ w.heap.size 43 #[.bool true, .slice A n1 _] (0, 0) _ rfl (blk_alloc (blk_put (blk_put hg.out 0 _ rfl) 1 _ rfl) _) Try.underlying43 rfl (by kernel_rfl)) rfl ?_
  exact ⟨_, rfl, ⟨A, n1, _, ds, by rw [hd], ((HW.out.1.keep (IntKeep.set2 hg.out _ _ _ _)).below (below_alloc (Below.refl _ _) _)), HW.out.2.1, HW.out.2.2⟩, below_alloc (below_set (below_set hB.out (Nat.le_refl _)) (Nat.le_refl _)) _⟩
 ·have hd : decide (n < 0) = false := decide_eq_false hn
  have hm : Aside0 (n = magn n) := ⟨by unfold magn; rw [if_neg hn]⟩
  rw [hd] at hz
  obtain ⟨u, hu⟩ : ∃ u, magn n = u := ⟨_, rfl⟩
  rw [hu] at HF hfit hz hm
  have hv1 : IntKind.u64.wrap n = u := by rw [← hm.out, IntKind.wrap_u64]; omega
  clear h0 h1 hn hu
  go_enter Try.func48, Try.ntmps48
  go_wp2_with (first | (go_at_call 63; (with_reducible refine (signed_calls false _ 2 2 _ _ (HL.out _ _ HF.out.2) (by simp) u HF.out.1 hfit.out).mono ?_); rintro e w1 ⟨v, rfl, hW, hb⟩; have hz1 := hz.out; rw [if_neg (by decide)] at hW hz1; rw [hz1] at hW; obtain ⟨A, n1, c1, ds, rfl, hM, hN, hV⟩ := hW; have HW := Aside0.mk (show MgC w1 A n1 c1 ds ∧ Nz ds ∧ val ds = magn n from ⟨hM, hN, hV⟩); have hg := Aside0.mk (blk_below (blk_alloc (blk_new w (.cells #[.bool false, .slice none 0 0] 43)) _) hb); have hB := Aside0.mk (below_step (below_alloc (below_alloc (Below.refl _ _) _) _) hb); clear hM hN hV hb hz1; have f0 := blk_frozen hg.out 0; have f1 := blk_frozen hg.out 1; have c0 : w1.cell? ⟨w.heap.size, 0, none⟩ = some (.bool false) := blk_cell hg.out 0; have c1 : w1.cell? ⟨w.heap.size, 1, none⟩ = some (.slice none 0 0) := blk_cell hg.out 1; have hlt : w.heap.size < w1.heap.size := blk_lt hg.out) | fail)
  refine bodyPost_ret (results_cell_row rfl _ _ w.heap.size 43 #[.bool false, .slice A n1 _] (0, 0) _ rfl (blk_alloc (blk_put (blk_put hg.out 0 _ rfl) 1 _ rfl) _) Try.underlying43 rfl (by kernel_rfl)) rfl ?_
  exact ⟨_, rfl, ⟨A, n1, _, ds, by rw [hd], ((HW.out.1.keep (IntKeep.set2 hg.out _ _ _ _)).below (below_alloc (Below.refl _ _) _)), HW.out.2.1, HW.out.2.2⟩, below_alloc (below_set (below_set hB.out (Nat.le_refl _)) (Nat.le_refl _)) _⟩
end Go.Proofs.Ytjmkccabpnigiaa.P
namespace Go.Proofs.Ytjmkccabpnigiaa.P
open Go.RowKit Go.Proofs.YtjmkccabpnigiaaW.PrintWords Go.Proofs.YtjmkccabpnigiaaW.PrintLast Go.Proofs.YtjmkccabpnigiaaW.PrintMore
attribute [local go_sem] max2_int min2_int max_two min_two max_three min_three max_four min_four
set_option linter.unusedVariables false
set_option linter.unusedSimpArgs false
theorem cell_set2 {w : World} {a : Addr} {v : Value} {g : Nat} {x y : Value} (h : w.cell? a = some v) (hne : a.block ≠ g) : ((w.setCell ⟨g, 0, none⟩ x).setCell ⟨g, 1, none⟩ y).cell? a = some v := by
 rw [World.cell?_setCell_other (h := fun e => hne (by rw [← e])), World.cell?_setCell_other (h := fun e => hne (by rw [← e]))]
 exact h
theorem magn_magn (z : Int) : magn (magn z) = magn z := by
 have h := magn_nonneg z
 rw [show magn (magn z) = (if magn z < 0 then -(magn z) else magn z) from rfl, if_neg (by omega)]
theorem Fit.magn {z : Int} (h : Fit z) : Fit (magn z) := by
 unfold Fit at h ⊢
 rw [magn_magn]
 exact h
theorem wi_set {w w2 : World} {g base : Nat} {b0 : Bool} {A0 : Option Addr} {n0 c0 : Nat} {t : TypeId} (hg : w2.heap[g]? = some (.cells #[.bool b0, .slice A0 n0 c0] t (0, 0))) (hB : Below base w w2) (hb : base ≤ g)
    {A : Option Addr} {n c : Nat} {ds : List Int} {z : Int} (h : MgC w2 A n c ds ∧ Nz ds ∧ val ds = magn z) :
    WI ((w2.setCell ⟨g, 0, none⟩ (.bool (decide (z < 0)))).setCell ⟨g, 1, none⟩ (.slice A n c)) (.agg #[.bool (decide (z < 0)), .slice A n c]) z ∧ Below base w ((w2.setCell ⟨g, 0, none⟩ (.bool (decide (z < 0)))).setCell ⟨g, 1, none⟩ (.slice A n c)) :=
 ⟨⟨A, n, c, ds, rfl, h.1.keep (IntKeep.set2 hg _ _ _ _), h.2.1, h.2.2⟩, (hB.setCell (p := ⟨g, 0, none⟩) hb _).setCell (p := ⟨g, 1, none⟩) hb _⟩
theorem magn_mul (x y : Int) : magn x * magn y = magn (x * y) := by
 unfold magn
 by_cases hx : x < 0 <;> by_cases hy : y < 0
 ·rw [if_pos hx, if_pos hy, Int.neg_mul_neg, if_neg (by have := Int.mul_pos_of_neg_of_neg hx hy; omega)]
 ·rw [if_pos hx, if_neg hy]
  by_cases h0 : y = 0
  ·subst h0; simp
  ·rw [if_pos (Int.mul_neg_of_neg_of_pos hx (by omega)), Int.neg_mul]
 ·rw [if_neg hx, if_pos hy]
  by_cases h0 : x = 0
  ·subst h0; simp
  ·rw [if_pos (Int.mul_neg_of_pos_of_neg (by omega) hy), Int.mul_neg]
 ·rw [if_neg hx, if_neg hy, if_neg (by have := Int.mul_nonneg (show 0 ≤ x by omega) (show 0 ≤ y by omega); omega)]
theorem mul_sign (x y : Int) : (if (decide (x < 0) != decide (y < 0)) then -(magn (x * y)) else magn (x * y)) = x * y := by
 unfold magn
 by_cases hx : x < 0 <;> by_cases hy : y < 0
 ·have := Int.mul_pos_of_neg_of_neg hx hy
  simp [hx, hy]; omega
 ·by_cases h0 : y = 0
  ·subst h0; simp
  ·have := Int.mul_neg_of_neg_of_pos hx (show 0 < y by omega)
   simp [hx, hy]; omega
 ·by_cases h0 : x = 0
  ·subst h0; simp
  ·have := Int.mul_neg_of_pos_of_neg (show 0 < x by omega) hy
   simp [hx, hy]; omega
 ·have := Int.mul_nonneg (show 0 ≤ x by omega) (show 0 ≤ y by omega)
  simp [hx, hy]; omega
set_option maxHeartbeats 4000000 in
set_option maxRecDepth 100000 in
theorem mul_calls (u v : Value) (x y : Int) (w : World) (hu : WI w u x) (hv : WI w v y) (hfx : Fit x) (hfy : Fit y) (hf : Fit (x * y)) :
    Calls Try.prog 84 #[u, v] w fun e w' => ∃ r, e = .returned (.tuple #[r, .int .i64 0]) ∧ WI w' r (x * y) ∧ Below w.heap.size w w' := by
 have hu43 := Try.underlying43
 obtain ⟨A, n, c, ds, rfl, hM, hN, hV⟩ := hu
 obtain ⟨A', n', c', ds', rfl, hM', hN', hV'⟩ := hv
 have hl := hfx.len hM.2.2.2 hN hV
 have hl' := hfy.len hM'.2.2.2 hN' hV'
 have hval : Aside0 (val ds * val ds' = magn (x * y)) := ⟨by rw [hV, hV', magn_mul]⟩
 have HM := Aside0.mk hM
 have HM' := Aside0.mk hM'
 have HS := Aside0.mk (mul_sign x y)
 have hfit : Aside0 (Fit (magn (x * y))) := ⟨hf.magn⟩
 have HL := Aside0.mk (show ds.length + ds'.length ≤ 1000000 from by omega)
 obtain ⟨s, hs⟩ : ∃ s, decide (x < 0) = s := ⟨_, rfl⟩
 obtain ⟨s', hs'⟩ : ∃ s, decide (y < 0) = s := ⟨_, rfl⟩
 rw [hs, hs'] at HS
 rw [hs, hs']
 have HS' : Aside0 ((if (!(s == s')) = true then -(magn (x * y)) else magn (x * y)) = x * y) := HS
 clear HS
 clear hM hN hV hM' hN' hV' hl hl' hs hs' hf hfx hfy
 have hb3 := below_alloc (below_alloc (below_alloc (Below.refl w.heap.size w) (.cells #[.bool s, .slice A n c] 43)) (.cells #[.bool s', .slice A' n' c'] 43)) (.cells #[.bool false, .slice none 0 0] 43)
 have b2 := blk_alloc (blk_alloc (blk_new w (.cells #[.bool s, .slice A n c] 43)) (.cells #[.bool s', .slice A' n' c'] 43)) (.cells #[.bool false, .slice none 0 0] 43)
 have b3 := blk_alloc (blk_new (w.alloc (.cells #[.bool s, .slice A n c] 43)) (.cells #[.bool s', .slice A' n' c'] 43)) (.cells #[.bool false, .slice none 0 0] 43)
 have b4 := blk_new ((w.alloc (.cells #[.bool s, .slice A n c] 43)).alloc (.cells #[.bool s', .slice A' n' c'] 43)) (.cells #[.bool false, .slice none 0 0] 43)
 simp only [World.size_alloc] at b3 b4
 go_enter Try.func84, Try.ntmps84
 go_upto_region 1 with fail
 obtain ⟨W, hW⟩ : ∃ W, ((w.alloc (.cells #[.bool s, .slice A n c] 43)).alloc (.cells #[.bool s', .slice A' n' c'] 43)).alloc (.cells #[.bool false, .slice none 0 0] 43) = W := ⟨_, rfl⟩
 rw [hW] at hb3 b2 b3 b4 ⊢
 have HB := Aside0.mk hb3
 have B4 := Aside0.mk b4
 have B2 := Aside0.mk b2
 have B3 := Aside0.mk b3
 clear hW hb3
 have c0 : W.cell? ⟨w.heap.size, 0, none⟩ = some (.bool s) := blk_cell b2 0
 have c1 : W.cell? ⟨w.heap.size, 1, none⟩ = some (.slice A n c) := blk_cell b2 1
 have c2 : W.cell? ⟨w.heap.size + 1, 0, none⟩ = some (.bool s') := blk_cell b3 0
 have c3 : W.cell? ⟨w.heap.size + 1, 1, none⟩ = some (.slice A' n' c') := blk_cell b3 1
 clear b2 b3 b4
 have hq0 : w.heap.size ≠ w.heap.size + 1 + 1 := by omega
 have hq1 : w.heap.size + 1 ≠ w.heap.size + 1 + 1 := by omega
 go_region_held3 (fun w' => w'.cell? ⟨w.heap.size, 0, none⟩ = some (.bool s) ∧ w'.cell? ⟨w.heap.size, 1, none⟩ = some (.slice A n c) ∧ w'.cell? ⟨w.heap.size + 1, 0, none⟩ = some (.bool s') ∧ w'.cell? ⟨w.heap.size + 1, 1, none⟩ = some (.slice A' n' c'))
  (first | exact ⟨c0, c1, c2, c3⟩ | exact ⟨k0, k1, k2, k3⟩ | exact ⟨l0, l1, l2, l3⟩ | exact ⟨cell_set2 l0 hq0, cell_set2 l1 hq0, cell_set2 l2 hq1, cell_set2 l3 hq1⟩ | fail)
  (first
   | (go_at_call 88; (with_reducible refine (times_calls _ _ _ ds _ _ _ ds' _ (HM.out.below ?_) (HM'.out.below ?_) HL.out).mono ?_); (iterate 2 exact below_drew1 HB.out); rintro e w1 ⟨A1, c1', r, rfl, hR, hval2, hlr, hb1⟩; have HR1 := Aside0.mk (show MgC w1 A1 r.length c1' r ∧ val r = magn (x * y) ∧ r.length ≤ 1000000 from ⟨hR, hval2.trans hval.out, by have := HL.out; omega⟩); have HB1 := Aside0.mk (below_step (below_drew1 HB.out) hb1); have B41 := Aside0.mk (blk_below (blk_drew B4.out) hb1); have k0 := pw_cell_below hb1 c0; have k1 := pw_cell_below hb1 c1; have k2 := pw_cell_below hb1 c2; have k3 := pw_cell_below hb1 c3; clear hR hval2 hlr hb1)
   | (go_at_call 63; (with_reducible refine (signed_calls (!(s == s')) _ _ _ r _ HR1.out.1 HR1.out.2.2 (magn (x * y)) HR1.out.2.1 hfit.out).mono ?_); rintro e w2 ⟨v2, rfl, hW2, hb2⟩; rw [HS'.out] at hW2; obtain ⟨A2, n2, c2', d2, rfl, hM2, hN2, hV2⟩ := hW2; have HW2 := Aside0.mk (show MgC w2 A2 n2 c2' d2 ∧ Nz d2 ∧ val d2 = magn (x * y) from ⟨hM2, hN2, hV2⟩); have HB2 := Aside0.mk (below_step HB1.out hb2); have B42 := Aside0.mk (blk_below B41.out hb2); have l0 := pw_cell_below hb2 k0; have l1 := pw_cell_below hb2 k1; have l2 := pw_cell_below hb2 k2; have l3 := pw_cell_below hb2 k3; have f0 := blk_frozen B42.out 0; have f1 := blk_frozen B42.out 1; have m0 : w2.cell? ⟨w.heap.size + 1 + 1, 0, none⟩ = some (.bool false) := blk_cell B42.out 0; have m1 : w2.cell? ⟨w.heap.size + 1 + 1, 1, none⟩ = some (.slice none 0 0) := blk_cell B42.out 1; clear hM2 hN2 hV2 hb2)
   | fail)
 go_wp2
 refine bodyPost_ret (results_ct rfl _ _ (w.heap.size + 1 + 1) _ _ _ rfl rfl (blk_put (blk_put B42.out 0 _ rfl) 1 _ rfl)) rfl ?_
 have hend := wi_set B42.out HB2.out (by omega) HW2.out
 exact ⟨_, rfl, hend.1, hend.2⟩
end Go.Proofs.Ytjmkccabpnigiaa.P
namespace Go.Proofs.Ytjmkccabpnigiaa.P
open Go.RowKit Go.Proofs.YtjmkccabpnigiaaW.PrintWords Go.Proofs.YtjmkccabpnigiaaW.PrintLast Go.Proofs.YtjmkccabpnigiaaW.PrintMore
attribute [local go_sem] max2_int min2_int max_two min_two max_three min_three max_four min_four
set_option linter.unusedVariables false
set_option linter.unusedSimpArgs false
theorem info100s : (Try.prog.info? 100).map (·.size) = some 1 := by kernel_rfl
set_option maxHeartbeats 2000000 in
set_option maxRecDepth 100000 in
theorem difference_calls (A0 : Option Addr) (n0 c0 : Nat) (a : List Int) (A1 : Option Addr) (n1 c1 : Nat) (b : List Int) (w : World) (ha : MgC w A0 n0 c0 a) (hb : MgC w A1 n1 c1 b) (hpos : 0 < a.length) (hla : a.length ≤ 100000) (hlb : b.length ≤ a.length) (hle : val b ≤ val a) :
    Calls Try.prog 70 #[.slice A0 n0 c0, .slice A1 n1 c1] w fun e w' => ∃ (A' : Option Addr) (c' : Nat) (r : List Int), e = .returned (.slice A' r.length c') ∧ MgC w' A' r.length c' r ∧ val r = val a - val b ∧ r.length ≤ 100000 ∧ Below w.heap.size w w' := by
 have HA := Aside0.mk ha
 have HB := Aside0.mk hb
 obtain ⟨_, rfl, _, _⟩ := ha
 obtain ⟨_, rfl, _, _⟩ := hb
 have HL := Aside0.mk (show a.length ≤ 100000 ∧ b.length ≤ a.length ∧ val b ≤ val a ∧ 0 < a.length from ⟨hla, hlb, hle, hpos⟩)
 have h0 : decide (0 ≤ (a.length : Int)) = true := decide_eq_true (by omega)
 have HN := Aside0.mk (show (a.length : Int).toNat ≤ 70368744177664 from by omega)
 have HDA := Aside0.mk (show Dg a from HA.out.2.2.2)
 clear hle hpos hlb hla
 go_enter Try.func70, Try.ntmps70
 go_wp2_with (first
  | (refine Kd.R_make (Kd.int .u32) _ 100 rfl (N := 8) rfl 41 _ _ rfl (a.length : Int) rfl rfl Try.underlying41 (.int .u32 0) 4 info100 rfl (by decide) (by omega) 0 (ok := fun _ => True) (okp := fun _ => True) rfl (fun _ hk => hk) trivial (by omega) (by have := HN.out; omega) (Below.refl w.heap.size w) (Nat.le_refl _) ?_; intro v5 w5 hR hb5 hg5 hn5; clear hg5 hn5; rw [Int.toNat_natCast] at hR; obtain ⟨g5, cap5, rfl, hg5, hg5l, _⟩ := Kd.R_form hR (by simp only [List.length_replicate]; exact HL.out.2.2.2); rw [List.length_replicate] at hR; have hR5 := Aside0.mk hR; have hB5 := Aside0.mk hb5; have hG5 := Aside0.mk hg5; clear hR hb5 hg5 hg5l)
  | (refine Kd.R_copy (enc := Value.int .u32) (h1 := fun _ => rfl) 0 (w0 := w) w.heap.size rfl (.tmp 9) (.tmp 10) 41 41 100 rfl Try.underlying41 info100s (.slice (some ⟨g5, 0, none⟩) a.length cap5) (List.replicate a.length 0) a A0 a.length c0 (fun _ => True) rfl rfl hR5.out (HA.out.below hB5.out).1 hB5.out hB5.out.size ?_; intro w6 hR6 hb6 _; rw [List.length_replicate, Nat.min_self, List.take_length, List.drop_eq_nil_of_le (by simp), List.append_nil] at hR6; have HR6 := Aside0.mk (show (Kd.int .u32).R 100 w6 w.heap.size (fun _ => True) (.slice (some ⟨g5, 0, none⟩) a.length cap5) a from hR6); have HB6 := Aside0.mk hb6; clear hR6 hb6)
  | (go_at_call 79; (with_reducible refine (subtract_calls g5 cap5 a A1 b.length c1 b w _ HB6.out HR6.out hG5.out HDA.out HB.out HL.out.1).mono ?_); rintro e w7 ⟨⟨r, rfl⟩, hR7, hB7⟩)
  | fail)
 go_ret
 have hlen := subGo_length a b 0
 obtain ⟨hc, hc2, hC⟩ := Kd.R_reads' hR7
 refine ⟨some ⟨g5, 0, none⟩, cap5, subGo a b 0, by rw [hlen]; rfl, ⟨hC, rfl, by omega, subGo_dg _ _ _ HDA.out HB.out.2.2.2 (by omega) (by omega)⟩, ?_, by rw [hlen]; exact HL.out.1, hB7⟩
 have := subGo_val a b 0 HDA.out HB.out.2.2.2 (by omega) (by omega) (by have := HL.out.2.2.1; omega) HL.out.2.1
 omega
end Go.Proofs.Ytjmkccabpnigiaa.P
