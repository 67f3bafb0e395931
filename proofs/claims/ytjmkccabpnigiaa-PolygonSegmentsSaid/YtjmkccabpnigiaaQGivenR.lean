import Derived.Test.YtjmkccabpnigiaaQGivenN
namespace Go.Proofs.Ytjmkccabpnigiaa.P
open Go.RowKit Go.Proofs.YtjmkccabpnigiaaW.PrintWords Go.Proofs.YtjmkccabpnigiaaW.PrintLast Go.Proofs.YtjmkccabpnigiaaW.PrintMore
attribute [local go_sem] max2_int min2_int max_two min_two max_three min_three max_four min_four
set_option linter.unusedVariables false
set_option linter.unusedSimpArgs false
theorem div_pure (x y : Int) (h0 : 0 < y) : (¬ x < 0 → magn (x / y) = magn x / y ∧ x % y = magn x % y) ∧
    (x < 0 → magn x % y = 0 → magn (x / y) = magn x / y ∧ x % y = magn x % y) ∧ (x < 0 → 0 < magn x % y → magn (x / y) = magn x / y + 1 ∧ x % y = y - magn x % y) := by
 have hq := Int.mul_ediv_add_emod (magn x) y
 have hr0 := Int.emod_nonneg (magn x) (show y ≠ 0 by omega)
 have hr1 := Int.emod_lt_of_pos (magn x) h0
 have hm := magn_nonneg x
 have hq0 : 0 ≤ magn x / y := Int.ediv_nonneg hm (by omega)
 refine ⟨fun hx => ?_, fun hx hr => ?_, fun hx hr => ?_⟩
 ·have e : magn x = x := by unfold magn; rw [if_neg hx]
  rw [e] at hq0 ⊢
  refine ⟨?_, rfl⟩
  unfold magn
  rw [if_neg (by omega)]
 ·have e : magn x = -x := by unfold magn; rw [if_pos hx]
  rw [hr] at hq ⊢
  obtain ⟨e1, e2⟩ := (Int.ediv_emod_unique (a := x) (b := y) (r := 0) (q := -(magn x / y)) h0).2 ⟨by rw [Int.mul_neg]; omega, by omega, by omega⟩
  refine ⟨?_, e2⟩
  rw [e1]
  generalize magn x / y = q at *
  unfold magn
  split <;> omega
 ·have e : magn x = -x := by unfold magn; rw [if_pos hx]
  obtain ⟨e1, e2⟩ := (Int.ediv_emod_unique (a := x) (b := y) (r := y - magn x % y) (q := -(magn x / y + 1)) h0).2 ⟨by rw [Int.mul_neg, Int.mul_add]; omega, by omega, by omega⟩
  refine ⟨?_, e2⟩
  rw [e1]
  generalize magn x / y = q at *
  unfold magn
  split <;> omega
theorem div_sign (x y : Int) (h0 : 0 < y) : (if decide (x < 0) then -(magn (x / y)) else magn (x / y)) = x / y := by
 by_cases hx : x < 0
 ·have := Int.ediv_neg_of_neg_of_pos hx h0
  rw [decide_eq_true hx, if_pos rfl]
  unfold magn
  rw [if_pos this]; omega
 ·have := Int.ediv_nonneg (show 0 ≤ x by omega) (show 0 ≤ y by omega)
  rw [decide_eq_false hx, if_neg (by decide)]
  unfold magn
  rw [if_neg (by omega)]
theorem results_cct {fn : Func} {p p1 p' : Tmp} (h : fn.results = #[.cell p 43, .cell p1 43, .tmp p']) (tmps : Array Value) (W : World) (g g1 : Nat) (u0 u1 v0 v1 e : Value)
    (hp : tmps[p]?.getD undef = .pointer (some ⟨g, 0, none⟩)) (hp1 : tmps[p1]?.getD undef = .pointer (some ⟨g1, 0, none⟩)) (hp' : tmps[p']?.getD undef = e) (hg : W.heap[g]? = some (.cells #[u0, u1] 43 (0, 0))) (hg1 : W.heap[g1]? = some (.cells #[v0, v1] 43 (0, 0))) :
    (results fn tmps).run Try.prog W = .ok (.tuple #[.agg #[u0, u1], .agg #[v0, v1], e]) W := by
 have hu43 := Try.underlying43
 have c0 : W.cell? ⟨g, 0, none⟩ = some u0 := blk_cell hg 0
 have c1 : W.cell? ⟨g, 1, none⟩ = some u1 := blk_cell hg 1
 have c2 : W.cell? ⟨g1, 0, none⟩ = some v0 := blk_cell hg1 0
 have c3 : W.cell? ⟨g1, 1, none⟩ = some v1 := blk_cell hg1 1
 simp only [results, h]
 go_simp
def DivM (w W : World) (s : Bool) (A : Option Addr) (n c : Nat) (A' : Option Addr) (c' : Nat) : Prop :=
 W.heap[w.heap.size]? = some (.cells #[.bool s, .slice A n c] 43 (0, 0)) ∧ W.heap[w.heap.size + 1]? = some (.cells #[.bool false, .slice A' 1 c'] 43 (0, 0)) ∧ W.heap[w.heap.size + 1 + 1]? = some (.cells #[.bool false, .slice none 0 0] 43 (0, 0)) ∧ W.heap[w.heap.size + 1 + 1 + 1]? = some (.cells #[.bool false, .slice none 0 0] 43 (0, 0)) ∧ Below w.heap.size w W
theorem DivM.below {w W W' : World} {s : Bool} {A : Option Addr} {n c : Nat} {A' : Option Addr} {c' : Nat} (h : DivM w W s A n c A' c') (hb : Below W.heap.size W W') : DivM w W' s A n c A' c' :=
 ⟨blk_below h.1 hb, blk_below h.2.1 hb, blk_below h.2.2.1 hb, blk_below h.2.2.2.1 hb, below_step h.2.2.2.2 hb⟩
theorem DivM.cells {w W : World} {s : Bool} {A : Option Addr} {n c : Nat} {A' : Option Addr} {c' : Nat} (h : DivM w W s A n c A' c') :
    W.cell? ⟨w.heap.size, 0, none⟩ = some (.bool s) ∧ W.cell? ⟨w.heap.size, 1, none⟩ = some (.slice A n c) ∧ W.cell? ⟨w.heap.size + 1, 0, none⟩ = some (.bool false) ∧ W.cell? ⟨w.heap.size + 1, 1, none⟩ = some (.slice A' 1 c') :=
 ⟨blk_cell h.1 0, blk_cell h.1 1, blk_cell h.2.1 0, blk_cell h.2.1 1⟩
set_option maxHeartbeats 8000000 in
set_option maxRecDepth 100000 in
theorem div_calls (u v : Value) (x y : Int) (w : World) (hu : WI w u x) (hv : WI w v y) (hfx : Fit x) (h0 : 0 < y) (h1 : y < 4294967296) :
    Calls Try.prog 64 #[u, v] w fun e w' => ∃ q r, e = .returned (.tuple #[q, r, .int .i64 0]) ∧ WI w' q (x / y) ∧ WI w' r (x % y) ∧ Below w.heap.size w w' := by
 have hu43 := Try.underlying43
 obtain ⟨A, n, c, ds, rfl, hM, hN, hV⟩ := hu
 obtain ⟨A', n', c', ds', rfl, hM', hN', hV'⟩ := hv
 have hy : magn y = y := by unfold magn; rw [if_neg (by omega)]
 rw [hy] at hV'
 obtain rfl := one_digit hM'.2.2.2 hN' hV' h0 h1
 obtain ⟨_, rfl, _, _⟩ := hM'
 have hl := hfx.len hM.2.2.2 hN hV
 have HM := Aside0.mk (show MgC w A n c ds ∧ Nz ds ∧ val ds = magn x ∧ ds.length ≤ 512 from ⟨hM, hN, hV, hl⟩)
 have HM' := Aside0.mk (show MgC w A' 1 c' [y] ∧ Nz [y] ∧ val [y] = y ∧ 0 < y ∧ y < 4294967296 from ⟨⟨by assumption, rfl, by assumption, by assumption⟩, hN', hV', h0, h1⟩)
 have HP := Aside0.mk (div_pure x y h0)
 have HS := Aside0.mk (div_sign x y h0)
 have HX := Aside0.mk (show x < 0 ∨ ¬ x < 0 from Classical.em _)
 have hsn : Aside0 (decide (y < 0) = false) := ⟨decide_eq_false (by omega)⟩
 rw [hsn.out]
 have HR := Aside0.mk (show 0 ≤ x % y ∧ x % y < y from ⟨Int.emod_nonneg _ (by omega), Int.emod_lt_of_pos _ h0⟩)
 have hfq : Aside0 (Fit (magn (x / y)) ∧ Fit (x % y)) := by
  refine ⟨?_, ?_⟩
  ·have h2 : magn (x / y) ≤ magn x := by
     have := Int.ediv_nonneg (magn_nonneg x) (show 0 ≤ y by omega)
     have h3 : magn x / y ≤ magn x := Int.ediv_le_self _ (magn_nonneg x)
     by_cases hx : x < 0
     ·by_cases hr : magn x % y = 0
      ·rw [(HP.out.2.1 hx hr).1]; exact h3
      ·have hr0 := Int.emod_nonneg (magn x) (show y ≠ 0 by omega)
       rw [(HP.out.2.2 hx (by omega)).1]
       have hq := Int.mul_ediv_add_emod (magn x) y
       have h4 : 1 * (magn x / y) ≤ y * (magn x / y) := Int.mul_le_mul_of_nonneg_right (by omega) (by omega)
       omega
     ·rw [(HP.out.1 hx).1]; exact h3
   unfold Fit at hfx ⊢
   rw [magn_magn]
   omega
  ·exact Fit.small (by have := HR.out; omega) (by have := HR.out; omega)
 obtain ⟨s, hs⟩ : ∃ s, decide (x < 0) = s := ⟨_, rfl⟩
 have HSX := Aside0.mk hs
 rw [hs] at HS ⊢
 clear hM hN hV hN' hV' hl hs h0 h1 hfx hy hsn HX
 have hdm : DivM w ((((w.alloc (.cells #[.bool s, .slice A n c] 43)).alloc (.cells #[.bool false, .slice A' 1 c'] 43)).alloc (.cells #[.bool false, .slice none 0 0] 43)).alloc (.cells #[.bool false, .slice none 0 0] 43)) s A n c A' c' := by
  have e1 := blk_new (w.alloc (.cells #[.bool s, .slice A n c] 43)) (.cells #[.bool false, .slice A' 1 c'] 43)
  have e2 := blk_new ((w.alloc (.cells #[.bool s, .slice A n c] 43)).alloc (.cells #[.bool false, .slice A' 1 c'] 43)) (.cells #[.bool false, .slice none 0 0] 43)
  have e3 := blk_new (((w.alloc (.cells #[.bool s, .slice A n c] 43)).alloc (.cells #[.bool false, .slice A' 1 c'] 43)).alloc (.cells #[.bool false, .slice none 0 0] 43)) (.cells #[.bool false, .slice none 0 0] 43)
  simp only [World.size_alloc] at e1 e2 e3
  exact ⟨blk_alloc (blk_alloc (blk_alloc (blk_new w _) _) _) _, blk_alloc (blk_alloc e1 _) _, blk_alloc e2 _, e3, below_alloc (below_alloc (below_alloc (below_alloc (Below.refl _ _) _) _) _) _⟩
 go_enter Try.func64, Try.ntmps64
 go_upto_region 3 with fail
 obtain ⟨W, hW⟩ : ∃ W, (((w.alloc (.cells #[.bool s, .slice A n c] 43)).alloc (.cells #[.bool false, .slice A' 1 c'] 43)).alloc (.cells #[.bool false, .slice none 0 0] 43)).alloc (.cells #[.bool false, .slice none 0 0] 43) = W := ⟨_, rfl⟩
 rw [hW] at hdm ⊢
 have HD := Aside0.mk hdm
 clear hdm hW
 obtain ⟨c0, c1, c2, c3⟩ := HD.out.cells
 go_cut [7, 8] (fun s7 s8 wx => ∃ (Aq : Option Addr) (cq : Nat) (q : List Int) (Ar : Option Addr) (cr : Nat) (r : List Int), s7 = .slice Aq q.length cq ∧ s8 = .slice Ar r.length cr ∧ Aside0 (MgC wx Aq q.length cq q ∧ MgC wx Ar r.length cr r ∧ Nz r ∧ val q = magn x / y ∧ val r = magn x % y ∧ q.length ≤ 512 ∧ DivM w wx s A n c A' c'))
 case first =>
  go_wp2_with (first | (go_at_call 71; (with_reducible refine (divide_calls A n c ds A' 1 c' [y] y _ (HM.out.1.below ?_) (HM'.out.1.below ?_) HM.out.2.1 HM'.out.2.1 ?_ HM'.out.2.2.1 HM'.out.2.2.2.1 HM'.out.2.2.2.2).mono ?_); (iterate 2 exact HD.out.2.2.2.2); (have := HM.out.2.2.2; omega); rintro e w2 ⟨Aq, cq, q, Ar, cr, r, rfl, g1, g2, g3, g4, g5, g6, g7, hb2⟩) | fail)
  go_meet
  exact ⟨Aq, cq, q, Ar, cr, r, rfl, rfl, ⟨g1, g2, g4, by rw [g5, HM.out.2.2.1], by rw [g6, HM.out.2.2.1], by have := HM.out.2.2.2; omega, HD.out.below hb2⟩⟩
 case rest =>
  obtain ⟨Aq, cq, q, Ar, cr, r, rfl, rfl, HQ⟩ := hcut
  clear c0 c1 c2 c3 HD
  obtain ⟨W, rfl⟩ : ∃ W : World, W = wc := ⟨_, rfl⟩
  obtain ⟨c0, c1, c2, c3⟩ := HQ.out.2.2.2.2.2.2.cells
  go_upto_region 4 with fail
  go_cut [33] (fun s33 wx => s33 = .bool (s && decide (0 < r.length)) ∧ wx = W)
  case first =>
   cases s with
   | true =>
    go_wp2
    go_meet
    exact ⟨by simp, rfl⟩
   | false =>
    go_wp2
    go_meet
    exact ⟨by simp, rfl⟩
  case rest =>
   obtain ⟨rfl, rfl⟩ := hcut
   obtain ⟨W, rfl⟩ : ∃ W : World, W = wc := ⟨_, rfl⟩
   obtain ⟨b, hb⟩ : ∃ b, (s && decide (0 < r.length)) = b := ⟨_, rfl⟩
   rw [hb]
   have HBB := Aside0.mk hb
   clear hb
   go_upto_if 33 with fail
   go_cut [7, 8] (fun s7 s8 wx => ∃ (Aq : Option Addr) (cq : Nat) (q : List Int) (Ar : Option Addr) (cr : Nat) (r : List Int), s7 = .slice Aq q.length cq ∧ s8 = .slice Ar r.length cr ∧ Aside0 (MgC wx Aq q.length cq q ∧ MgC wx Ar r.length cr r ∧ val q = magn (x / y) ∧ val r = x % y ∧ q.length ≤ 1000000 ∧ r.length ≤ 1000000 ∧ DivM w wx s A n c A' c'))
   case first =>
    have hr0 := val_nonneg HQ.out.2.1.2.2.2
    have hrl : r.length ≤ 1 := length_le HQ.out.2.1.2.2.2 HQ.out.2.2.1 (by rw [HQ.out.2.2.2.2.1]; have h5 := Int.emod_lt_of_pos (magn x) HM'.out.2.2.2.1; have h6 := HM'.out.2.2.2.2; simp; omega)
    cases b with
    | true =>
     have hb := HBB.out
     rw [Bool.and_eq_true, decide_eq_true_eq] at hb
     obtain ⟨hst, hrp⟩ := hb
     have hsx := HSX.out
     rw [hst] at hsx
     have hx : x < 0 := of_decide_eq_true hsx
     have hrpos : 0 < magn x % y := by
      rw [← HQ.out.2.2.2.2.1]
      exact val_pos HQ.out.2.1.2.2.2 HQ.out.2.2.1 (List.length_pos_iff.1 hrp)
     have HPP := Aside0.mk (HP.out.2.2 hx hrpos)
     have HLE := Aside0.mk (show q.length ≤ 100000 ∧ r.length ≤ 1 ∧ val r ≤ val [y] ∧ r.length ≤ [y].length ∧ ([1] : List Int).length ≤ 100000 ∧ 0 < [y].length ∧ [y].length ≤ 100000 from ⟨by have := HQ.out.2.2.2.2.2.1; omega, hrl, by
      rw [HQ.out.2.2.2.2.1, HM'.out.2.2.1]
      have h5 := Int.emod_lt_of_pos (magn x) HM'.out.2.2.2.1
      omega, by simpa using hrl, by simp, by simp, by simp⟩)
     have HW := Aside0.mk (HQ.out.2.2.2.2.2.2.2.2.2.2)
     clear hrp hx hrpos hr0 hrl hst hsx
     go_wp2_with (first
      | (go_at_call 69; (with_reducible refine (sum_calls Aq q.length cq q _ 1 1 [1] _ (HQ.out.1.below ?_) (lit1M _ 1 (by decide)) HLE.out.1 HLE.out.2.2.2.2.1).mono ?_); (exact below_alloc (Below.refl _ _) _); rintro e w2 ⟨v1, r1, rfl, hR, hdr, hval2, hlr, hb2⟩; obtain ⟨A1, c1', rfl, hcc, hC⟩ := Kd.R_reads hR; have hb3 := below_step (below_alloc (Below.refl W.heap.size W) (.cells #[.int .u32 1] 100)) hb2; have HQ1 := Aside0.mk (show MgC w2 A1 r1.length c1' r1 ∧ val r1 = magn x / y + 1 ∧ r1.length ≤ 1000000 from ⟨⟨hC, rfl, hcc, hdr⟩, by rw [hval2, HQ.out.2.2.2.1]; simp [val], by omega⟩); have HB2 := Aside0.mk hb3; have HD2 := Aside0.mk (HQ.out.2.2.2.2.2.2.below hb3); obtain ⟨k0, k1, k2, k3⟩ := HD2.out.cells; clear hR hdr hval2 hlr hb2 hcc hC hb3 c0 c1 c2 c3)
      | (go_at_call 70; (with_reducible refine (difference_calls A' 1 c' [y] Ar r.length cr r _ (HM'.out.1.below ?_) (HQ.out.2.1.below ?_) HLE.out.2.2.2.2.2.1 HLE.out.2.2.2.2.2.2 HLE.out.2.2.2.1 HLE.out.2.2.1).mono ?_); (exact HD2.out.2.2.2.2); (exact HB2.out); rintro e w3 ⟨A3, c3', r3, rfl, hR3, hv3, hl3, hb3⟩)
      | fail)
     go_meet
     refine ⟨A1, c1', r1, A3, c3', r3, rfl, rfl, ⟨HQ1.out.1.below hb3, hR3, ?_, ?_, HQ1.out.2.2, by omega, HD2.out.below hb3⟩⟩
     ·rw [HQ1.out.2.1, HPP.out.1]
     ·rw [hv3, HPP.out.2, HM'.out.2.2.1, HQ.out.2.2.2.2.1]
    | false =>
     have hadj : ¬ (s = true ∧ 0 < r.length) := fun h => by
      have hb := HBB.out
      rw [h.1, decide_eq_true h.2] at hb
      cases hb
     have HPP : Aside0 (magn (x / y) = magn x / y ∧ x % y = magn x % y) := by
      by_cases hx : x < 0
      ·have hst : s = true := by rw [← HSX.out]; exact decide_eq_true hx
       have hrn : r = [] := List.eq_nil_of_length_eq_zero (by have : ¬ 0 < r.length := fun h => hadj ⟨hst, h⟩; omega)
       exact ⟨HP.out.2.1 hx (by rw [← HQ.out.2.2.2.2.1, hrn]; rfl)⟩
      ·exact ⟨HP.out.1 hx⟩
     clear hadj hr0
     go_wp2
     go_meet
     exact ⟨Aq, cq, q, Ar, cr, r, rfl, rfl, ⟨HQ.out.1, HQ.out.2.1, by rw [HQ.out.2.2.2.1, HPP.out.1], by rw [HQ.out.2.2.2.2.1, HPP.out.2], by have := HQ.out.2.2.2.2.2.1; omega, by omega, HQ.out.2.2.2.2.2.2⟩⟩
   case rest =>
    clear HQ c0 c1 c2 c3
    obtain ⟨Aq, cq, q, Ar, cr, r, rfl, rfl, HQ⟩ := hcut
    obtain ⟨W, rfl⟩ : ∃ W : World, W = wc := ⟨_, rfl⟩
    obtain ⟨c0, c1, c2, c3⟩ := HQ.out.2.2.2.2.2.2.cells
    go_upto_region 9 with (first
     | (go_at_call 63; (with_reducible refine (signed_calls s Aq q.length cq q _ HQ.out.1 HQ.out.2.2.2.2.1 (magn (x / y)) HQ.out.2.2.1 hfq.out.1).mono ?_); rintro e w2 ⟨v2, rfl, hW2, hb2⟩; rw [HS.out] at hW2; obtain ⟨s2, A2, n2, c2', rfl, HW2⟩ := hW2.parts; have HB2 := Aside0.mk hb2; have HD2 := Aside0.mk (HQ.out.2.2.2.2.2.2.below hb2); clear hW2 hb2 c0 c1 c2 c3)
     | (go_at_call 63; (with_reducible refine (signed_calls false Ar r.length cr r _ (HQ.out.2.1.below ?_) HQ.out.2.2.2.2.2.1 (x % y) HQ.out.2.2.2.1 hfq.out.2).mono ?_); (exact below_step HB2.out (below_alloc (Below.refl _ _) _)); rintro e w3 ⟨v3, rfl, hW3, hb3⟩; rw [if_neg (by decide)] at hW3; obtain ⟨s3, A3, n3, c3', rfl, HW3⟩ := hW3.parts; have HB3 := Aside0.mk hb3; clear hW3 hb3)
     | fail)
    have hq : w.heap.size + 1 + 1 < w2.heap.size ∧ w.heap.size + 1 + 1 + 1 < w2.heap.size := ⟨blk_lt HD2.out.2.2.1, blk_lt HD2.out.2.2.2.1⟩
    have hw3 : w2.heap.size < w3.heap.size := by have := HB3.out.size; rw [World.size_alloc] at this; omega
    have b9 := blk_alloc (blk_below (blk_new w2 (.cells #[.bool s2, .slice A2 n2 c2'] 43)) HB3.out) (.cells #[.bool s3, .slice A3 n3 c3'] 43)
    have b11 := blk_new w3 (.cells #[.bool s3, .slice A3 n3 c3'] 43)
    have hb4 := below_alloc (below_step (below_alloc (Below.refl w2.heap.size w2) (.cells #[.bool s2, .slice A2 n2 c2'] 43)) HB3.out) (.cells #[.bool s3, .slice A3 n3 c3'] 43)
    have HD4 := HD2.out.below hb4
    have HW4 := HW2.out.below hb4
    have HW5 := HW3.out.below (below_alloc (Below.refl w3.heap.size w3) (.cells #[.bool s3, .slice A3 n3 c3'] 43))
    obtain ⟨W4, hW4⟩ : ∃ W4, w3.alloc (.cells #[.bool s3, .slice A3 n3 c3'] 43) = W4 := ⟨_, rfl⟩
    rw [hW4] at b9 b11 HD4 HW4 HW5 ⊢
    obtain ⟨g9, hg9⟩ : ∃ g, w2.heap.size = g := ⟨_, rfl⟩
    obtain ⟨g11, hg11⟩ : ∃ g, w3.heap.size = g := ⟨_, rfl⟩
    rw [hg9] at b9 hq hw3 ⊢
    rw [hg11] at b11 hw3 ⊢
    have HDD := Aside0.mk HD4
    have HWA := Aside0.mk HW4
    have HWB := Aside0.mk HW5
    have HQQ := Aside0.mk hq
    have c0 : W4.cell? ⟨g9, 0, none⟩ = some (.bool s2) := blk_cell b9 0
    have c1 : W4.cell? ⟨g9, 1, none⟩ = some (.slice A2 n2 c2') := blk_cell b9 1
    have c2 : W4.cell? ⟨g11, 0, none⟩ = some (.bool s3) := blk_cell b11 0
    have c3 : W4.cell? ⟨g11, 1, none⟩ = some (.slice A3 n3 c3') := blk_cell b11 1
    have m0 : W4.cell? ⟨w.heap.size + 1 + 1, 0, none⟩ = some (.bool false) := blk_cell HD4.2.2.1 0
    have m1 : W4.cell? ⟨w.heap.size + 1 + 1, 1, none⟩ = some (.slice none 0 0) := blk_cell HD4.2.2.1 1
    have m2 : W4.cell? ⟨w.heap.size + 1 + 1 + 1, 0, none⟩ = some (.bool false) := blk_cell HD4.2.2.2.1 0
    have m3 : W4.cell? ⟨w.heap.size + 1 + 1 + 1, 1, none⟩ = some (.slice none 0 0) := blk_cell HD4.2.2.2.1 1
    have f0 := blk_frozen HD4.2.2.1 0
    have f1 := blk_frozen HD4.2.2.1 1
    have f2 := blk_frozen HD4.2.2.2.1 0
    have f3 := blk_frozen HD4.2.2.2.1 1
    have ne1 : g9 ≠ w.heap.size + 1 + 1 := by omega
    have ne2 : g9 ≠ w.heap.size + 1 + 1 + 1 := by omega
    have ne3 : g11 ≠ w.heap.size + 1 + 1 := by omega
    have ne4 : g11 ≠ w.heap.size + 1 + 1 + 1 := by omega
    have ne5 : w.heap.size + 1 + 1 ≠ w.heap.size + 1 + 1 + 1 := by omega
    have ne6 := Ne.symm ne5
    clear b9 b11 HD4 HW4 HW5 hq hw3 hW4 hg9 hg11 HB3 HW3 HW2 HD2 HB2
    go_region_held3 (fun w' => w'.cell? ⟨g9, 0, none⟩ = some (.bool s2) ∧ w'.cell? ⟨g9, 1, none⟩ = some (.slice A2 n2 c2') ∧ w'.cell? ⟨g11, 0, none⟩ = some (.bool s3) ∧ w'.cell? ⟨g11, 1, none⟩ = some (.slice A3 n3 c3'))
     (first | exact ⟨c0, c1, c2, c3⟩ | exact ⟨cell_set2 c0 ne1, cell_set2 c1 ne1, cell_set2 c2 ne3, cell_set2 c3 ne3⟩ | exact ⟨cell_set2 c0 ne2, cell_set2 c1 ne2, cell_set2 c2 ne4, cell_set2 c3 ne4⟩ | exact ⟨cell_set2 (cell_set2 c0 ne1) ne2, cell_set2 (cell_set2 c1 ne1) ne2, cell_set2 (cell_set2 c2 ne3) ne4, cell_set2 (cell_set2 c3 ne3) ne4⟩ | exact ⟨cell_set2 (cell_set2 c0 ne2) ne1, cell_set2 (cell_set2 c1 ne2) ne1, cell_set2 (cell_set2 c2 ne4) ne3, cell_set2 (cell_set2 c3 ne4) ne3⟩ | fail)
     (fail)
    all_goals go_wp2
    have h4 := HDD.out.2.2.1
    have h5 := HDD.out.2.2.2.1
    have h5' := blk_far (blk_far h5 (p := ⟨w.heap.size + 1 + 1, 0, none⟩) ne6 (.bool s2)) (p := ⟨w.heap.size + 1 + 1, 1, none⟩) ne6 (.slice A2 n2 c2')
    have k4 := blk_drew (blk_far (blk_far (blk_put (blk_put h4 0 (.bool s2) rfl) 1 (.slice A2 n2 c2') rfl) (p := ⟨w.heap.size + 1 + 1 + 1, 0, none⟩) ne5 (.bool s3)) (p := ⟨w.heap.size + 1 + 1 + 1, 1, none⟩) ne5 (.slice A3 n3 c3'))
    have k5 := blk_drew (blk_put (blk_put h5' 0 (.bool s3) rfl) 1 (.slice A3 n3 c3') rfl)
    have e1 := (IntKeep.set2 h4 s2 A2 n2 c2').trans (IntKeep.set2 h5' s3 A3 n3 c3')
    refine bodyPost_ret (results_cct rfl _ _ (w.heap.size + 1 + 1) (w.heap.size + 1 + 1 + 1) _ _ _ _ _ rfl rfl rfl k4 k5) rfl ?_
    refine ⟨_, _, rfl, (HWA.out.keep e1).below (below_drew1 (Below.refl _ _)), (HWB.out.keep e1).below (below_drew1 (Below.refl _ _)), below_drew1 ?_⟩
    exact (((HDD.out.2.2.2.2.setCell (p := ⟨w.heap.size + 1 + 1, 0, none⟩) (by show w.heap.size ≤ w.heap.size + 1 + 1; omega) _).setCell (p := ⟨w.heap.size + 1 + 1, 1, none⟩) (by show w.heap.size ≤ w.heap.size + 1 + 1; omega) _).setCell (p := ⟨w.heap.size + 1 + 1 + 1, 0, none⟩) (by show w.heap.size ≤ w.heap.size + 1 + 1 + 1; omega) _).setCell (p := ⟨w.heap.size + 1 + 1 + 1, 1, none⟩) (by show w.heap.size ≤ w.heap.size + 1 + 1 + 1; omega) _
end Go.Proofs.Ytjmkccabpnigiaa.P
namespace Go.Proofs.Ytjmkccabpnigiaa.P
open Go.RowKit Go.Proofs.YtjmkccabpnigiaaW.PrintWords Go.Proofs.YtjmkccabpnigiaaW.PrintLast Go.Proofs.YtjmkccabpnigiaaW.PrintMore
attribute [local go_sem] max2_int min2_int max_two min_two max_three min_three max_four min_four
set_option linter.unusedVariables false
set_option linter.unusedSimpArgs false
set_option maxHeartbeats 8000000 in
set_option maxRecDepth 100000 in
theorem gcd_calls (u v : Value) (x : Int) (w : World) (hu : WI w u x) (hv : WI w v 1) (hfx : Fit x) :
    Calls Try.prog 60 #[u, v] w fun e w' => ∃ r, e = .returned r ∧ WI w' r 1 ∧ Below w.heap.size w w' := by
 have hu43 := Try.underlying43
 obtain ⟨A, n, c, ds, rfl, hM, hN, hV⟩ := hu
 obtain ⟨A', n', c', ds', rfl, hM', hN', hV'⟩ := hv
 rw [show magn 1 = 1 from rfl] at hV'
 obtain rfl := one_digit hM'.2.2.2 hN' hV' (by omega) (by omega)
 obtain ⟨hc1, rfl, hc2, hc3⟩ := hM'
 have hl := hfx.len hM.2.2.2 hN hV
 obtain ⟨_, hnl, _, _⟩ := id hM
 obtain rfl := hnl
 have HM := Aside0.mk (show MgC w A ds.length c ds ∧ Nz ds ∧ val ds = magn x ∧ ds.length ≤ 512 from ⟨hM, hN, hV, hl⟩)
 have HM' := Aside0.mk (show MgC w A' 1 c' [1] ∧ Nz [1] from ⟨⟨hc1, rfl, hc2, hc3⟩, hN'⟩)
 rw [show decide ((1 : Int) < 0) = false from rfl]
 obtain ⟨s, hs⟩ : ∃ s, decide (x < 0) = s := ⟨_, rfl⟩
 obtain ⟨s', hs'⟩ : ∃ s, false = s := ⟨_, rfl⟩
 rw [hs, hs']
 obtain ⟨n, hn⟩ : ∃ n, ds.length = n := ⟨_, rfl⟩
 obtain ⟨n', hn'⟩ : ∃ n, [(1 : Int)].length = n := ⟨_, rfl⟩
 rw [hn']
 have hn1 : n' = 1 := hn'.symm
 rw [hn]
 have HMn := Aside0.mk (show MgC w A n c ds from hn ▸ HM.out.1)
 have HMn' := Aside0.mk (show MgC w A' n' c' [1] from by rw [hn1]; exact HM'.out.1)
 have HNN := Aside0.mk (show ds.length = n ∧ n' = 1 from ⟨hn, hn1⟩)
 clear hM hN hV hN' hV' hl hs hs' hc1 hc2 hc3 hn hn' hn1
 have hb3 := below_alloc (below_alloc (below_alloc (Below.refl w.heap.size w) (.cells #[.bool s, .slice A n c] 43)) (.cells #[.bool s', .slice A' n' c'] 43)) (.cells #[.bool false, .slice none 0 0] 43)
 have b2 := blk_alloc (blk_alloc (blk_new w (.cells #[.bool s, .slice A n c] 43)) (.cells #[.bool s', .slice A' n' c'] 43)) (.cells #[.bool false, .slice none 0 0] 43)
 have b3 := blk_alloc (blk_new (w.alloc (.cells #[.bool s, .slice A n c] 43)) (.cells #[.bool s', .slice A' n' c'] 43)) (.cells #[.bool false, .slice none 0 0] 43)
 have b4 := blk_new ((w.alloc (.cells #[.bool s, .slice A n c] 43)).alloc (.cells #[.bool s', .slice A' n' c'] 43)) (.cells #[.bool false, .slice none 0 0] 43)
 simp only [World.size_alloc] at b3 b4
 have hq0 : w.heap.size ≠ w.heap.size + 1 + 1 := by omega
 have hq1 : w.heap.size + 1 ≠ w.heap.size + 1 + 1 := by omega
 go_enter Try.func60, Try.ntmps60
 go_upto_region 1 with fail
 obtain ⟨W, hW⟩ : ∃ W, ((w.alloc (.cells #[.bool s, .slice A n c] 43)).alloc (.cells #[.bool s', .slice A' n' c'] 43)).alloc (.cells #[.bool false, .slice none 0 0] 43) = W := ⟨_, rfl⟩
 rw [hW] at hb3 b2 b3 b4 ⊢
 have HB := Aside0.mk hb3
 have B4 := Aside0.mk b4
 have B2 := Aside0.mk b2
 have B3 := Aside0.mk b3
 clear hW hb3
 have c0 : W.cell? ⟨w.heap.size, 0, none⟩ = some (.bool s) := blk_cell b2 0
 have c1 : W.cell? ⟨w.heap.size, 1, none⟩ = some (.slice A n c) := blk_cell b2 1
 have c2 : W.cell? ⟨w.heap.size + 1, 0, none⟩ = some (.bool s') := blk_cell b3 0
 have c3 : W.cell? ⟨w.heap.size + 1, 1, none⟩ = some (.slice A' n' c') := blk_cell b3 1
 clear b2 b3 b4
 go_region_held3 (fun w' => w'.cell? ⟨w.heap.size, 1, none⟩ = some (.slice A n c) ∧ w'.cell? ⟨w.heap.size + 1, 1, none⟩ = some (.slice A' n' c'))
  (first | exact ⟨c1, c3⟩ | fail)
  (fail)
 all_goals go_wp2
 go_loopg [5, 6] 2 (fun kq v5 v6 w' => ∃ (Aa : Option Addr) (ca : Nat) (da : List Int) (Ab : Option Addr) (cb : Nat) (db : List Int), v5 = .slice Aa da.length ca ∧ v6 = .slice Ab db.length cb ∧ Aside0 (MgC w' Aa da.length ca da ∧ MgC w' Ab db.length cb db ∧ Nz da ∧ Nz db ∧ da.length ≤ 512) ∧ Aside0 ((kq = 2 ∧ val db = 1) ∨ (kq = 1 ∧ db = [] ∧ val da = 1)) ∧ Aside0 (Below w.heap.size w w' ∧ w'.heap[w.heap.size + 1 + 1]? = some (.cells #[.bool false, .slice none 0 0] 43 (0, 0))))
 case atStart =>
  refine ⟨A, c, ds, A', c', [1], by rw [HNN.out.1], by rw [HNN.out.2]; rfl, ⟨?_, ?_, HM.out.2.1, HM'.out.2, HM.out.2.2.2⟩, ⟨.inl ⟨rfl, rfl⟩⟩, ⟨below_drew1 HB.out, blk_drew B4.out⟩⟩
  ·rw [HNN.out.1]; exact HMn.out.below (below_drew1 HB.out)
  ·exact HM'.out.1.below (below_drew1 HB.out)
 case round =>
  obtain ⟨Aa, ca, da, Ab, cb, db, rfl, rfl, HD, HK, HW⟩ := hrel
  clear c0 c1 c2 c3 HB B2 B3 B4
  obtain ⟨W, rfl⟩ : ∃ W : World, W = wr := ⟨_, rfl⟩
  rcases HK.out with ⟨hk, hdb⟩ | ⟨hk, hdb, hda⟩
  ·have hp : 0 < db.length := pos_of_val (by omega)
   have q1 : decide (0 < (db.length : Int)) = true := decide_eq_true (by omega)
   have q2 : decide (0 < db.length) = true := decide_eq_true (by omega)
   have HDB := Aside0.mk hdb
   have HGK := Aside0.mk hk
   clear hp hk hdb
   go_wp2_with (first | (go_at_call 71; (with_reducible refine (divide_calls Aa _ ca da Ab _ cb db 1 _ HD.out.1 HD.out.2.1 HD.out.2.2.1 HD.out.2.2.2.1 ?_ HDB.out (by decide) (by decide)).mono ?_); (have := HD.out.2.2.2.2; omega); rintro e w2 ⟨Aq, cq, q, Ar, cr, r, rfl, g1, g2, g3, g4, g5, g6, g7, hb2⟩) | fail)
   go_roundg 1
   case measure => have := HGK.out; omega
   case rel =>
    have hr : r = [] := val_zero g2.2.2.2 g4 (by rw [g6]; omega)
    exact ⟨Ab, cb, db, Ar, cr, r, rfl, rfl, ⟨HD.out.2.1.below hb2, g2, HD.out.2.2.2.1, g4, length_le HD.out.2.1.2.2.2 HD.out.2.2.2.1 (by rw [HDB.out]; have := pow512; omega)⟩, ⟨.inr ⟨rfl, hr, HDB.out⟩⟩, ⟨below_step HW.out.1 hb2, blk_below HW.out.2 hb2⟩⟩
  ·subst hdb
   have HDA := Aside0.mk hda
   clear hda hk
   have f0 := blk_frozen HW.out.2 0
   go_wp2_with (first | (go_at_call 63; (with_reducible refine (signed_calls false Aa da.length ca da _ HD.out.1 ?_ 1 HDA.out (Fit.small (by decide) (by decide))).mono ?_); (have := HD.out.2.2.2.2; omega); rintro e w2 ⟨v2, rfl, hW2, hb2⟩; rw [if_neg (by decide)] at hW2; obtain ⟨s2, A2, n2, c2', rfl, HW2⟩ := hW2.parts; have HB2 := Aside0.mk (below_step HW.out.1 hb2); have B42 := Aside0.mk (blk_below HW.out.2 hb2); have f0 := blk_frozen B42.out 0; have f1 := blk_frozen B42.out 1; have m0 : w2.cell? ⟨w.heap.size + 1 + 1, 0, none⟩ = some (.bool false) := blk_cell B42.out 0; have m1 : w2.cell? ⟨w.heap.size + 1 + 1, 1, none⟩ = some (.slice none 0 0) := blk_cell B42.out 1; have hlt : w.heap.size + 1 + 1 < w2.heap.size := blk_lt B42.out; clear hW2 hb2) | fail)
   refine bodyPost_ret (results_cell_row rfl _ _ (w.heap.size + 1 + 1) 43 #[.bool s2, .slice A2 n2 c2'] (0, 0) _ rfl (blk_alloc (blk_put (blk_put B42.out 0 _ rfl) 1 _ rfl) _) Try.underlying43 rfl (by kernel_rfl)) rfl ?_
   have hend := wi_put B42.out HB2.out (by omega) HW2.out
   exact ⟨_, rfl, hend.1.below (below_alloc (Below.refl _ _) _), below_alloc hend.2 _⟩
end Go.Proofs.Ytjmkccabpnigiaa.P
namespace Go.Proofs.Ytjmkccabpnigiaa.P
open Go.RowKit Go.Proofs.YtjmkccabpnigiaaW.PrintWords Go.Proofs.YtjmkccabpnigiaaW.PrintLast Go.Proofs.YtjmkccabpnigiaaW.PrintMore
attribute [local go_sem] max2_int min2_int max_two min_two max_three min_three max_four min_four
set_option linter.unusedVariables false
set_option linter.unusedSimpArgs false
set_option maxHeartbeats 4000000
set_option maxRecDepth 100000
/-- The result's cells, when it is a fraction. -/
theorem results_ct5 {fn : Func} {p p' : Tmp} (h : fn.results = #[.cell p 45, .tmp p']) (tmps : Array Value) (W : World) (g : Nat) (u0 u1 u2 u3 e : Value)
    (hp : tmps[p]?.getD undef = .pointer (some ⟨g, 0, none⟩)) (hp' : tmps[p']?.getD undef = e) (hg : W.heap[g]? = some (.cells #[u0, u1, u2, u3] 45 (0, 0))) :
    (results fn tmps).run Try.prog W = .ok (.tuple #[.agg #[u0, u1, u2, u3], e]) W := by
 have hu43 := Try.underlying43
 have hu45 := Try.underlying45
 have c0 : W.cell? ⟨g, 0, none⟩ = some u0 := blk_cell hg 0
 have c1 : W.cell? ⟨g, 1, none⟩ = some u1 := blk_cell hg 1
 have c2 : W.cell? ⟨g, 2, none⟩ = some u2 := blk_cell hg 2
 have c3 : W.cell? ⟨g, 3, none⟩ = some u3 := blk_cell hg 3
 simp only [results, h]
 go_simp
theorem over_calls (u v : Value) (x y : Int) (w : World) (hu : WI w u x) (hv : WI w v y) (hfx : Fit x) (h0 : 0 < y) (h1 : y < 4294967296) :
    Calls Try.prog 62 #[u, v] w fun e w' => ∃ r, e = .returned r ∧ WI w' r (x / y) ∧ Below w.heap.size w w' := by
 have hu43 := Try.underlying43
 have HU := Aside0.mk hu
 have HV := Aside0.mk hv
 obtain ⟨A, n, c, ds, rfl, hM, hN, hV⟩ := hu
 obtain ⟨A', n', c', ds', rfl, hM', hN', hV'⟩ := hv
 have HM := Aside0.mk (show MgC w A n c ds ∧ Nz ds ∧ val ds = magn x from ⟨hM, hN, hV⟩)
 have HM' := Aside0.mk (show MgC w A' n' c' ds' ∧ Nz ds' ∧ val ds' = magn y from ⟨hM', hN', hV'⟩)
 obtain ⟨s, hs⟩ : ∃ s, decide (x < 0) = s := ⟨_, rfl⟩
 obtain ⟨s', hs'⟩ : ∃ s, decide (y < 0) = s := ⟨_, rfl⟩
 rw [hs] at HU
 rw [hs'] at HV
 rw [hs, hs']
 clear hM hN hV hM' hN' hV'
 have HF := Aside0.mk (show Fit x ∧ 0 < y ∧ y < 4294967296 from ⟨hfx, h0, h1⟩)
 clear hfx h0 h1 hs hs' HM HM'
 have hb3 := below_alloc (below_alloc (below_alloc (Below.refl w.heap.size w) (.cells #[.bool s, .slice A n c] 43)) (.cells #[.bool s', .slice A' n' c'] 43)) (.cells #[.bool false, .slice none 0 0] 43)
 have b2 := blk_alloc (blk_alloc (blk_new w (.cells #[.bool s, .slice A n c] 43)) (.cells #[.bool s', .slice A' n' c'] 43)) (.cells #[.bool false, .slice none 0 0] 43)
 have b3 := blk_alloc (blk_new (w.alloc (.cells #[.bool s, .slice A n c] 43)) (.cells #[.bool s', .slice A' n' c'] 43)) (.cells #[.bool false, .slice none 0 0] 43)
 have b4 := blk_new ((w.alloc (.cells #[.bool s, .slice A n c] 43)).alloc (.cells #[.bool s', .slice A' n' c'] 43)) (.cells #[.bool false, .slice none 0 0] 43)
 simp only [World.size_alloc] at b3 b4
 have hq0 : w.heap.size ≠ w.heap.size + 1 + 1 := by omega
 have hq1 : w.heap.size + 1 ≠ w.heap.size + 1 + 1 := by omega
 go_enter Try.func62, Try.ntmps62
 go_upto_region 1 with fail
 obtain ⟨W, hW⟩ : ∃ W, ((w.alloc (.cells #[.bool s, .slice A n c] 43)).alloc (.cells #[.bool s', .slice A' n' c'] 43)).alloc (.cells #[.bool false, .slice none 0 0] 43) = W := ⟨_, rfl⟩
 rw [hW] at hb3 b2 b3 b4 ⊢
 have HB := Aside0.mk hb3
 have B4 := Aside0.mk b4
 have B2 := Aside0.mk b2
 have B3 := Aside0.mk b3
 clear hW hb3
 have c0 : W.cell? ⟨w.heap.size, 0, none⟩ = some (.bool s) := blk_cell b2 0
 have c1 : W.cell? ⟨w.heap.size, 1, none⟩ = some (.slice A n c) := blk_cell b2 1
 have c2 : W.cell? ⟨w.heap.size + 1, 0, none⟩ = some (.bool s') := blk_cell b3 0
 have c3 : W.cell? ⟨w.heap.size + 1, 1, none⟩ = some (.slice A' n' c') := blk_cell b3 1
 clear b2 b3 b4
 go_wp2_with (first
  | (go_at_call 64; (with_reducible refine (div_calls _ _ x y _ (HU.out.below ?_) (HV.out.below ?_) HF.out.1 HF.out.2.1 HF.out.2.2).mono ?_); (iterate 2 exact HB.out); rintro e w2 ⟨q, r, rfl, hW2, hW3, hb2⟩; obtain ⟨s2, A2, n2, c2', rfl, HW2⟩ := hW2.parts; obtain ⟨s3, A3, n3, c3', rfl, HW3⟩ := hW3.parts; have HB2 := Aside0.mk (below_step HB.out hb2); have B42 := Aside0.mk (blk_below B4.out hb2); have f0 := blk_frozen B42.out 0; have f1 := blk_frozen B42.out 1; have m0 : w2.cell? ⟨w.heap.size + 1 + 1, 0, none⟩ = some (.bool false) := blk_cell B42.out 0; have m1 : w2.cell? ⟨w.heap.size + 1 + 1, 1, none⟩ = some (.slice none 0 0) := blk_cell B42.out 1; have hlt : w.heap.size + 1 + 1 < w2.heap.size := blk_lt B42.out; have hlt2 : w.heap.size + 1 + 1 < w2.heap.size + 1 := Nat.lt_succ_of_lt hlt; clear hW2 hW3 hb2)
  | fail)
 refine bodyPost_ret (results_cell_row rfl _ _ (w.heap.size + 1 + 1) 43 #[.bool s2, .slice A2 n2 c2'] (0, 0) _ rfl (blk_alloc (blk_alloc (blk_put (blk_put B42.out 0 _ rfl) 1 _ rfl) _) _) Try.underlying43 rfl (by kernel_rfl)) rfl ?_
 have hend := wi_put B42.out HB2.out (by omega) HW2.out
 exact ⟨_, rfl, (hend.1.below (below_alloc (Below.refl _ _) _)).below (below_alloc (Below.refl _ _) _), below_alloc (below_alloc hend.2 _) _⟩
theorem Den_calls (v : Value) (z : Int) (w : World) (hv : FI w v z) :
    Calls Try.prog 46 #[v] w fun e w' => ∃ r, e = .returned r ∧ WI w' r 1 ∧ Below w.heap.size w w' := by
 have hu43 := Try.underlying43
 have hu45 := Try.underlying45
 obtain ⟨s, A, n, c, s', A', n', c', rfl, h1, h2⟩ := hv
 have H2 := Aside0.mk h2
 clear h1 h2
 have hb2 := below_alloc (below_alloc (Below.refl w.heap.size w) (.cells #[.bool s, .slice A n c, .bool s', .slice A' n' c'] 45)) (.cells #[.bool false, .slice none 0 0] 43)
 have b1 := blk_alloc (blk_new w (.cells #[.bool s, .slice A n c, .bool s', .slice A' n' c'] 45)) (.cells #[.bool false, .slice none 0 0] 43)
 have b2 := blk_new (w.alloc (.cells #[.bool s, .slice A n c, .bool s', .slice A' n' c'] 45)) (.cells #[.bool false, .slice none 0 0] 43)
 rw [World.size_alloc] at b2
 have hq0 : w.heap.size ≠ w.heap.size + 1 := by omega
 go_enter Try.func46, Try.ntmps46
 go_upto_region 1 with fail
 obtain ⟨W, hW⟩ : ∃ W, ((w.alloc (.cells #[.bool s, .slice A n c, .bool s', .slice A' n' c'] 45)).alloc (.cells #[.bool false, .slice none 0 0] 43)) = W := ⟨_, rfl⟩
 rw [hW] at hb2 b1 b2 ⊢
 have HB := Aside0.mk hb2
 have B2 := Aside0.mk b2
 have c2 : W.cell? ⟨w.heap.size, 2, none⟩ = some (.bool s') := blk_cell b1 2
 have c3 : W.cell? ⟨w.heap.size, 3, none⟩ = some (.slice A' n' c') := blk_cell b1 3
 clear hW hb2 b1 b2
 have HF := Aside0.mk (show Fit 0 ∧ Fit 1 ∧ Fit (0 + 1) from ⟨Fit.small (by decide) (by decide), Fit.small (by decide) (by decide), Fit.small (by decide) (by decide)⟩)
 go_region_held3 (fun w' => w'.cell? ⟨w.heap.size, 2, none⟩ = some (.bool s') ∧ w'.cell? ⟨w.heap.size, 3, none⟩ = some (.slice A' n' c'))
  (first | exact ⟨c2, c3⟩ | exact ⟨k2, k3⟩ | exact ⟨l2, l3⟩ | exact ⟨j2, j3⟩ | exact ⟨cell_set2 j2 hq0, cell_set2 j3 hq0⟩ | fail)
  (first
   | (go_at_call 48; (with_reducible refine (from_calls 1 (by decide) (by decide) _).mono ?_); rintro e w1 ⟨v1, rfl, hW1, hb1⟩; obtain ⟨s1, A1, n1, c1', rfl, HW1⟩ := hW1.parts; have HB1 := Aside0.mk (below_step (below_drew1 HB.out) hb1); have B21 := Aside0.mk (blk_below (blk_drew B2.out) hb1); have k2 := pw_cell_below hb1 c2; have k3 := pw_cell_below hb1 c3; clear hW1 hb1)
   | (go_at_call 59; (with_reducible refine (add_calls _ _ 0 1 _ (H2.out.below ?_) HW1.out HF.out.1 HF.out.2.1 HF.out.2.2).mono ?_); (exact HB1.out); rintro e w2 ⟨v2, rfl, hW2, hb2⟩; rw [show (0 : Int) + 1 = 1 from rfl] at hW2; obtain ⟨s2, A2, n2, c2', rfl, HW2⟩ := hW2.parts; have HB2 := Aside0.mk (below_step HB1.out hb2); have B22 := Aside0.mk (blk_below B21.out hb2); have l2 := pw_cell_below hb2 k2; have l3 := pw_cell_below hb2 k3; clear hW2 hb2)
   | (go_at_call 58; (with_reducible refine (must_calls _ 1 0 _ HW2.out).mono ?_); rintro e w3 ⟨v3, rfl, hW3, hb3⟩; obtain ⟨s3, A3, n3, c3', rfl, HW3⟩ := hW3.parts; have HB3 := Aside0.mk (below_step HB2.out hb3); have B23 := Aside0.mk (blk_below B22.out hb3); have j2 := pw_cell_below hb3 l2; have j3 := pw_cell_below hb3 l3; have f0 := blk_frozen B23.out 0; have f1 := blk_frozen B23.out 1; have m0 : w3.cell? ⟨w.heap.size + 1, 0, none⟩ = some (.bool false) := blk_cell B23.out 0; have m1 : w3.cell? ⟨w.heap.size + 1, 1, none⟩ = some (.slice none 0 0) := blk_cell B23.out 1; clear hW3 hb3)
   | fail)
 all_goals go_wp2
 refine bodyPost_ret (results_cell_row rfl _ _ (w.heap.size + 1) 43 #[.bool s3, .slice A3 n3 c3'] (0, 0) _ rfl (blk_put (blk_put B23.out 0 _ rfl) 1 _ rfl) Try.underlying43 rfl (by kernel_rfl)) rfl ?_
 have hend := wi_put B23.out HB3.out (by omega) HW3.out
 exact ⟨_, rfl, hend.1, hend.2⟩
end Go.Proofs.Ytjmkccabpnigiaa.P
namespace Go.Proofs.Ytjmkccabpnigiaa.P
open Go.RowKit Go.Proofs.YtjmkccabpnigiaaW.PrintWords Go.Proofs.YtjmkccabpnigiaaW.PrintLast Go.Proofs.YtjmkccabpnigiaaW.PrintMore
attribute [local go_sem] max2_int min2_int max_two min_two max_three min_three max_four min_four
set_option linter.unusedVariables false
set_option linter.unusedSimpArgs false
theorem cell_set4 {w : World} {a : Addr} {v : Value} {g : Nat} {x y x' y' : Value} (h : w.cell? a = some v) (hne : a.block ≠ g) : ((((w.setCell ⟨g, 0, none⟩ x).setCell ⟨g, 1, none⟩ y).setCell ⟨g, 2, none⟩ x').setCell ⟨g, 3, none⟩ y').cell? a = some v := by
 rw [World.cell?_setCell_other (h := fun e => hne (by rw [← e])), World.cell?_setCell_other (h := fun e => hne (by rw [← e])), World.cell?_setCell_other (h := fun e => hne (by rw [← e])), World.cell?_setCell_other (h := fun e => hne (by rw [← e]))]
 exact h
theorem fi_put {w w2 : World} {g base : Nat} (hg : w2.heap[g]? = some (.cells #[.bool false, .slice none 0 0, .bool false, .slice none 0 0] 45 (0, 0))) (hB : Below base w w2) (hb : base ≤ g)
    {s : Bool} {A : Option Addr} {n c : Nat} {s' : Bool} {A' : Option Addr} {n' c' : Nat} {z : Int} (h : WI w2 (.agg #[.bool s, .slice A n c]) z) (h' : WI w2 (.agg #[.bool s', .slice A' n' c']) 0) :
    FI ((((w2.setCell ⟨g, 0, none⟩ (.bool s)).setCell ⟨g, 1, none⟩ (.slice A n c)).setCell ⟨g, 2, none⟩ (.bool s')).setCell ⟨g, 3, none⟩ (.slice A' n' c')) (.agg #[.bool s, .slice A n c, .bool s', .slice A' n' c']) z ∧ Below base w ((((w2.setCell ⟨g, 0, none⟩ (.bool s)).setCell ⟨g, 1, none⟩ (.slice A n c)).setCell ⟨g, 2, none⟩ (.bool s')).setCell ⟨g, 3, none⟩ (.slice A' n' c')) ∧
    ((((w2.setCell ⟨g, 0, none⟩ (.bool s)).setCell ⟨g, 1, none⟩ (.slice A n c)).setCell ⟨g, 2, none⟩ (.bool s')).setCell ⟨g, 3, none⟩ (.slice A' n' c')).heap[g]? = some (.cells #[.bool s, .slice A n c, .bool s', .slice A' n' c'] 45 (0, 0)) := by
 have g1 := blk_put hg 0 (.bool s) rfl
 have g2 := blk_put g1 1 (.slice A n c) rfl
 have g3 := blk_put g2 2 (.bool s') rfl
 have g4 := blk_put g3 3 (.slice A' n' c') rfl
 have k := (((IntKeep.set (j := 0) hg (fun k x => by simp) (.bool s)).trans (IntKeep.set (j := 1) g1 (fun k x => by simp) (.slice A n c))).trans (IntKeep.set (j := 2) g2 (fun k x => by simp) (.bool s'))).trans (IntKeep.set (j := 3) g3 (fun k x => by simp) (.slice A' n' c'))
 exact ⟨⟨s, A, n, c, s', A', n', c', rfl, h.keep k, h'.keep k⟩, (((hB.setCell (p := ⟨g, 0, none⟩) hb _).setCell (p := ⟨g, 1, none⟩) hb _).setCell (p := ⟨g, 2, none⟩) hb _).setCell (p := ⟨g, 3, none⟩) hb _, g4⟩
set_option maxHeartbeats 4000000 in
set_option maxRecDepth 100000 in
theorem lowest_calls (u v : Value) (x : Int) (w : World) (hu : WI w u x) (hv : WI w v 1) :
    Calls Try.prog 61 #[u, v, .int .i64 0, .int .i64 0] w fun e w' => ∃ r, e = .returned (.tuple #[r, .int .i64 0]) ∧ FI w' r x ∧ Below w.heap.size w w' := by
 have hu45 := Try.underlying45
 have hu43 := Try.underlying43
 have HU := Aside0.mk hu
 have HV := Aside0.mk hv
 obtain ⟨A, n, c, ds, rfl, hM, hN, hV⟩ := hu
 obtain ⟨A', n', c', ds', rfl, hM', hN', hV'⟩ := hv
 have HM := Aside0.mk (show MgC w A n c ds ∧ Nz ds ∧ val ds = magn x from ⟨hM, hN, hV⟩)
 have HM' := Aside0.mk (show MgC w A' n' c' ds' ∧ Nz ds' ∧ val ds' = magn (1 : Int) from ⟨hM', hN', hV'⟩)
 obtain ⟨s, hs⟩ : ∃ s, decide (x < 0) = s := ⟨_, rfl⟩
 obtain ⟨s', hs'⟩ : ∃ s, decide ((1 : Int) < 0) = s := ⟨_, rfl⟩
 rw [hs] at HU
 rw [hs'] at HV
 rw [hs, hs']
 clear hM hN hV hM' hN' hV'
 clear hs hs' HM HM'
 have hb3 := below_alloc (below_alloc (below_alloc (Below.refl w.heap.size w) (.cells #[.bool s, .slice A n c] 43)) (.cells #[.bool s', .slice A' n' c'] 43)) (.cells #[.bool false, .slice none 0 0, .bool false, .slice none 0 0] 45)
 have b2 := blk_alloc (blk_alloc (blk_new w (.cells #[.bool s, .slice A n c] 43)) (.cells #[.bool s', .slice A' n' c'] 43)) (.cells #[.bool false, .slice none 0 0, .bool false, .slice none 0 0] 45)
 have b3 := blk_alloc (blk_new (w.alloc (.cells #[.bool s, .slice A n c] 43)) (.cells #[.bool s', .slice A' n' c'] 43)) (.cells #[.bool false, .slice none 0 0, .bool false, .slice none 0 0] 45)
 have b4 := blk_new ((w.alloc (.cells #[.bool s, .slice A n c] 43)).alloc (.cells #[.bool s', .slice A' n' c'] 43)) (.cells #[.bool false, .slice none 0 0, .bool false, .slice none 0 0] 45)
 simp only [World.size_alloc] at b3 b4
 have hq0 : w.heap.size ≠ w.heap.size + 1 + 1 := by omega
 have hq1 : w.heap.size + 1 ≠ w.heap.size + 1 + 1 := by omega
 have HF := Aside0.mk (show Fit 1 ∧ Fit (1 - 1) from ⟨Fit.small (by decide) (by decide), Fit.small (by decide) (by decide)⟩)
 go_enter Try.func61, Try.ntmps61
 go_upto_region 3 with fail
 obtain ⟨W, hW⟩ : ∃ W, ((w.alloc (.cells #[.bool s, .slice A n c] 43)).alloc (.cells #[.bool s', .slice A' n' c'] 43)).alloc (.cells #[.bool false, .slice none 0 0, .bool false, .slice none 0 0] 45) = W := ⟨_, rfl⟩
 rw [hW] at hb3 b2 b3 b4 ⊢
 have HB := Aside0.mk hb3
 have B4 := Aside0.mk b4
 have B2 := Aside0.mk b2
 have B3 := Aside0.mk b3
 clear hW hb3
 have c0 : W.cell? ⟨w.heap.size, 0, none⟩ = some (.bool s) := blk_cell b2 0
 have c1 : W.cell? ⟨w.heap.size, 1, none⟩ = some (.slice A n c) := blk_cell b2 1
 have c2 : W.cell? ⟨w.heap.size + 1, 0, none⟩ = some (.bool s') := blk_cell b3 0
 have c3 : W.cell? ⟨w.heap.size + 1, 1, none⟩ = some (.slice A' n' c') := blk_cell b3 1
 clear b2 b3 b4
 go_region_held3 (fun w' => w'.cell? ⟨w.heap.size, 0, none⟩ = some (.bool s) ∧ w'.cell? ⟨w.heap.size, 1, none⟩ = some (.slice A n c) ∧ w'.cell? ⟨w.heap.size + 1, 0, none⟩ = some (.bool s') ∧ w'.cell? ⟨w.heap.size + 1, 1, none⟩ = some (.slice A' n' c'))
  (first | exact ⟨c0, c1, c2, c3⟩ | exact ⟨k0, k1, k2, k3⟩ | exact ⟨l0, l1, l2, l3⟩ | exact ⟨j0, j1, j2, j3⟩ | exact ⟨cell_set4 j0 hq0, cell_set4 j1 hq0, cell_set4 j2 hq1, cell_set4 j3 hq1⟩ | fail)
  (first
   | (go_at_call 48; (with_reducible refine (from_calls 1 (by decide) (by decide) _).mono ?_); rintro e w1 ⟨v1, rfl, hW1, hb1⟩; obtain ⟨s1, A1, n1, c1', rfl, HW1⟩ := hW1.parts; have HB1 := Aside0.mk (below_step (below_drew1 HB.out) hb1); have B41 := Aside0.mk (blk_below (blk_drew B4.out) hb1); have k0 := pw_cell_below hb1 c0; have k1 := pw_cell_below hb1 c1; have k2 := pw_cell_below hb1 c2; have k3 := pw_cell_below hb1 c3; clear hW1 hb1)
   | (go_at_call 72; (with_reducible refine (sub_calls _ _ 1 1 _ (HV.out.below ?_) HW1.out HF.out.1 HF.out.1 HF.out.2).mono ?_); (exact HB1.out); rintro e w2 ⟨v2, rfl, hW2, hb2⟩; rw [show (1 : Int) - 1 = 0 from rfl] at hW2; obtain ⟨s2, A2, n2, c2', rfl, HW2⟩ := hW2.parts; have HB2 := Aside0.mk (below_step HB1.out hb2); have B42 := Aside0.mk (blk_below B41.out hb2); have l0 := pw_cell_below hb2 k0; have l1 := pw_cell_below hb2 k1; have l2 := pw_cell_below hb2 k2; have l3 := pw_cell_below hb2 k3; clear hW2 hb2)
   | (go_at_call 58; (with_reducible refine (must_calls _ 0 0 _ HW2.out).mono ?_); rintro e w3 ⟨v3, rfl, hW3, hb3⟩; obtain ⟨s3, A3, n3, c3', rfl, HW3⟩ := hW3.parts; have HB3 := Aside0.mk (below_step HB2.out hb3); have B43 := Aside0.mk (blk_below B42.out hb3); have j0 := pw_cell_below hb3 l0; have j1 := pw_cell_below hb3 l1; have j2 := pw_cell_below hb3 l2; have j3 := pw_cell_below hb3 l3; have f0 := blk_frozen B43.out 0; have f1 := blk_frozen B43.out 1; have f2 := blk_frozen B43.out 2; have f3 := blk_frozen B43.out 3; have m0 : w3.cell? ⟨w.heap.size + 1 + 1, 0, none⟩ = some (.bool false) := blk_cell B43.out 0; have m1 : w3.cell? ⟨w.heap.size + 1 + 1, 1, none⟩ = some (.slice none 0 0) := blk_cell B43.out 1; have m2 : w3.cell? ⟨w.heap.size + 1 + 1, 2, none⟩ = some (.bool false) := blk_cell B43.out 2; have m3 : w3.cell? ⟨w.heap.size + 1 + 1, 3, none⟩ = some (.slice none 0 0) := blk_cell B43.out 3; clear hW3 hb3)
   | fail)
 all_goals go_wp2
 have hend := fi_put B43.out HB3.out (by omega) (HU.out.below HB3.out) HW3.out
 refine bodyPost_ret (results_ct5 rfl _ _ (w.heap.size + 1 + 1) _ _ _ _ _ rfl rfl hend.2.2) rfl ?_
 exact ⟨_, rfl, hend.1, hend.2.1⟩
end Go.Proofs.Ytjmkccabpnigiaa.P
