import Derived.Test.YtjmkccabpnigiaaQPolyN
import Derived.Test.YtjmkccabpnigiaaQGivenZf
import Derived.Handy
namespace Go.Proofs.Ytjmkccabpnigiaa.P
open Go.RowKit Go.Proofs.YtjmkccabpnigiaaW.PrintWords Go.Proofs.YtjmkccabpnigiaaW.PrintLast Go.Proofs.YtjmkccabpnigiaaW.PrintMore
attribute [local go_sem] max2_int min2_int max_two min_two max_three min_three max_four min_four
set_option linter.unusedVariables false
set_option linter.unusedSimpArgs false
set_option maxHeartbeats 8000000
set_option maxRecDepth 100000
theorem valid1_near {r : List S26} (h : valid1P r = 0) : anyFar r = false := by
 unfold valid1P at h
 split at h
 ·cases h
 ·split at h
  ·cases h
  ·split at h
   ·cases h
   ·rename_i hf
    cases hx : anyFar r with
    | false => rfl
    | true => exact absurd hx hf
theorem area1_calls (A : Option Addr) (c : Nat) (r : List S26) (w : World) (hC : Kd.C (Kd.slice 26 k26) w A 1 [r]) (hc : 1 ≤ c) (hT : r.length ≤ 1000000) (hv : valid1P r = 0) (t : Int) (ht : twiceP r = t) (h0 : 0 ≤ t) (h1 : t ≤ 4611686018427387904) :
    Calls Try.prog 13 #[.agg #[.slice A 1 c]] w fun e w' => e = .returned (.tuple #[.int .i64 t, .int .i64 0]) ∧ Below w.heap.size w w' := by
 have hu23 := Try.underlying23
 have hu26 := Try.underlying26
 have hu31 := Try.underlying31
 have hu33 := Try.underlying33
 obtain ⟨ad, A0, c0, rfl, g0, g1, g2⟩ := at_L2 hC 0 (by omega) (by omega)
 have hr0 : rd_L2 [r] 0 = r := rfl
 rw [hr0] at g0 g1 g2
 have had : ad.add (Int.toNat 0) = ad := by unfold Addr.add; simp
 rw [had] at g0
 have HC := Aside0.mk hC
 have HR := Aside0.mk g2
 have HA := Aside0.mk g0
 have hB := below_alloc (Below.refl w.heap.size w) (.cells #[.slice (some ad) 1 c] 33)
 have b1 := blk_new w (.cells #[.slice (some ad) 1 c] 33)
 have hm : wrap64 (-t) = -t := Go.IntWalk.wrap64_in _ (by omega)
 have hx : mx t (-t) = t := by unfold mx; split <;> omega
 have hlt : (if t < -t then -t else t) = t := by split <;> omega
 have hw : wrap64 (0 + t) = t := by rw [Int.zero_add]; exact Go.IntWalk.wrap64_in _ (by omega)
 have hw2 : wrap64 t = t := Go.IntWalk.wrap64_in _ (by omega)
 have HT := Aside0.mk (And.intro hT (And.intro hv ht))
 clear hC g0 g1 g2 hr0 had hT hv ht h0 h1
 go_enter Try.func13, Try.ntmps13
 obtain ⟨W1, hW1⟩ : ∃ W1, w.alloc (.cells #[.slice (some ad) 1 c] 33) = W1 := ⟨_, rfl⟩
 rw [hW1] at hB b1
 have HB := Aside0.mk hB
 have k1 : W1.cell? ⟨w.heap.size, 0, none⟩ = some (.slice (some ad) 1 c) := blk_cell b1 0
 clear hB b1
 go_wp2_with (first
  | (go_at_call 25; (with_reducible refine (valid1_calls (some ad) c r W1 (Kd.C_below HC.out HB.out) hc HT.out.1).mono ?_); rintro e w2 ⟨rfl, hb2⟩; rw [HT.out.2.1]; have HB2 := Aside0.mk (below_step HB.out hb2); have k2 := pw_cell_below hb2 k1; clear hb2 k1 hW1)
  | fail)
 go_loopw [5, 17] (fun v5 v w' => (v5 = .int .i64 0 ∧ v = .int .i64 0 ∨ v5 = .int .i64 t ∧ v = .int .i64 1) ∧ Aside0 (Below w.heap.size w w')) (fun _ v _ => (match v with | .int _ i => 1 - i.toNat | _ => 0))
 case atStart => exact ⟨.inl ⟨rfl, rfl⟩, HB2⟩
 case round =>
  obtain ⟨hv, HBi⟩ := hrel
  rcases hv with ⟨rfl, rfl⟩ | ⟨rfl, rfl⟩
  ·have kk := pw_cell_below HBi.out HA.out
   have HRi := Aside0.mk (Kd.C_below HR.out HBi.out)
   go_wp2_with (first
    | (go_at_call 28; (with_reducible refine (twice_calls A0 c0 r wr HRi.out).mono ?_); rintro e w5 ⟨rfl, hb5⟩; rw [HT.out.2.2]; have HB5 := Aside0.mk (below_step HBi.out hb5); have HR5 := Aside0.mk (Kd.C_below HRi.out hb5); clear hb5)
    | (go_at_call 28; (with_reducible refine (twice_calls A0 c0 r w5 HR5.out).mono ?_); rintro e w6 ⟨rfl, hb6⟩; rw [HT.out.2.2]; have HB6 := Aside0.mk (below_step HB5.out hb6); clear hb6)
    | fail)
   go_roundw
   case rel => exact ⟨.inr ⟨by simp [hm, hlt, hw2], rfl⟩, HB6⟩
   case measure => simp
  ·go_wp2
   go_ret2
   exact ⟨rfl, HBi.out⟩
theorem two1024_small {z : Int} (h0 : -4294967296 ≤ z) (h1 : z ≤ 4294967296) : decide (two1024 ≤ magn z) = false := by
 refine decide_eq_false ?_
 have key : ∀ k : Nat, 64 ≤ k → (18446744073709551616 : Int) ≤ 2 ^ k := fun k hk => by
  have h := Nat.pow_le_pow_right (n := 2) (by omega) hk
  have e : (2 : Nat) ^ 64 = 18446744073709551616 := by decide
  rw [e] at h
  rw [show (2 : Int) ^ k = ((2 ^ k : Nat) : Int) from (Int.natCast_pow 2 k).symm, show (18446744073709551616 : Int) = ((18446744073709551616 : Nat) : Int) from rfl]
  exact Int.ofNat_le.mpr h
 have h2 : (18446744073709551616 : Int) ≤ two1024 := key 1024 (by omega)
 have h3 : magn z ≤ 4294967296 := by unfold magn; split <;> omega
 omega
theorem around1_calls (A : Option Addr) (c : Nat) (ps : List S26) (u v : Value) (U V : Int) (w : World) (hC : Kd.C k26 w A ps.length ps) (hu : FI w u U) (hv : FI w v V) (hnear : ∀ p ∈ ps, farP p = false) (hU : -4294967296 ≤ U ∧ U ≤ 4294967296) (hV : -4294967296 ≤ V ∧ V ≤ 4294967296) (i o : Bool) (h : aroundP ps U V = (i, o)) :
    Calls Try.prog 40 #[.slice A ps.length c, u, v] w fun e w' => e = .returned (.tuple #[.bool i, .bool o]) ∧ Below w.heap.size w w' := by
 have hh := around_calls A c ps u v U V w hC hu hv hnear hU hV
 rw [h] at hh
 exact hh
theorem find1_calls (A : Option Addr) (c : Nat) (r : List S26) (u v : Value) (U V : Int) (w : World) (hC : Kd.C (Kd.slice 26 k26) w A 1 [r]) (hc : 1 ≤ c) (hT : r.length ≤ 1000000) (hval : valid1P r = 0) (hu : FI w u U) (hv : FI w v V) (hU : -4294967296 ≤ U ∧ U ≤ 4294967296) (hV : -4294967296 ≤ V ∧ V ≤ 4294967296) (i o : Bool) (hio : aroundP r U V = (i, o)) :
    Calls Try.prog 29 #[.agg #[.slice A 1 c], u, v] w fun e w' => e = .returned (.tuple #[.bool i, .bool o, .int .i64 0]) ∧ Below w.heap.size w w' := by
 have hu23 := Try.underlying23
 have hu26 := Try.underlying26
 have hu31 := Try.underlying31
 have hu33 := Try.underlying33
 have hu45 := Try.underlying45
 have hu80 := Try.underlying80
 obtain ⟨ad, A0, c0, rfl, g0, g1, g2⟩ := at_L2 hC 0 (by omega) (by omega)
 have hr0 : rd_L2 [r] 0 = r := rfl
 rw [hr0] at g0 g1 g2
 have had : ad.add (Int.toNat 0) = ad := by unfold Addr.add; simp
 rw [had] at g0
 have HC := Aside0.mk hC
 have HR := Aside0.mk g2
 have HA := Aside0.mk g0
 have HFu := Aside0.mk hu
 have HFv := Aside0.mk hv
 obtain ⟨su, Au, nu, cu, tu, Bu, mu, du, rfl, _, _⟩ := hu
 obtain ⟨sv, Av, nv, cv, tv, Bv, mv, dv, rfl, _, _⟩ := hv
 have HX := Aside0.mk (And.intro hT (And.intro hval (And.intro (anyFar_false (valid1_near hval)) (And.intro hU (And.intro hV hio)))))
 have h3 := three_new w (.cells #[.slice (some ad) 1 c] 33) (.cells #[.bool su, .slice Au nu cu, .bool tu, .slice Bu mu du] 45) (.cells #[.bool sv, .slice Av nv cv, .bool tv, .slice Bv mv dv] 45)
 have hB := below_alloc (below_alloc (below_alloc (Below.refl w.heap.size w) (.cells #[.slice (some ad) 1 c] 33)) (.cells #[.bool su, .slice Au nu cu, .bool tu, .slice Bu mu du] 45)) (.cells #[.bool sv, .slice Av nv cv, .bool tv, .slice Bv mv dv] 45)
 clear hC g0 g1 g2 hr0 had hT hval hU hV hio
 go_enter Try.func29, Try.ntmps29
 obtain ⟨W1, hW1⟩ : ∃ W1, ((w.alloc (.cells #[.slice (some ad) 1 c] 33)).alloc (.cells #[.bool su, .slice Au nu cu, .bool tu, .slice Bu mu du] 45)).alloc (.cells #[.bool sv, .slice Av nv cv, .bool tv, .slice Bv mv dv] 45) = W1 := ⟨_, rfl⟩
 rw [hW1] at h3 hB
 have HB := Aside0.mk hB
 have HK := Aside0.mk h3.2
 have k1 : W1.cell? ⟨w.heap.size, 0, none⟩ = some (.slice (some ad) 1 c) := blk_cell h3.2.1 0
 clear hB h3
 go_upto_region 4 with (first
  | (go_at_call 25; (with_reducible refine (valid1_calls (some ad) c r W1 (Kd.C_below HC.out HB.out) hc HX.out.1).mono ?_); rintro e w2 ⟨rfl, hb2⟩; rw [HX.out.2.1]; have HB2 := Aside0.mk (below_step HB.out hb2); have HK2 := Aside0.mk (And.intro (blk_below HK.out.1 hb2) (And.intro (blk_below HK.out.2.1 hb2) (blk_below HK.out.2.2 hb2))); clear hb2 k1 hW1 HK)
  | fail)
 have kU := HK2.out.2.1
 have kV := HK2.out.2.2
 have ku_0 : w2.cell? ⟨w.heap.size + 1, 0, none⟩ = some (.bool su) := blk_cell kU 0
 have ku_1 : w2.cell? ⟨w.heap.size + 1, 1, none⟩ = some (.slice Au nu cu) := blk_cell kU 1
 have ku_2 : w2.cell? ⟨w.heap.size + 1, 2, none⟩ = some (.bool tu) := blk_cell kU 2
 have ku_3 : w2.cell? ⟨w.heap.size + 1, 3, none⟩ = some (.slice Bu mu du) := blk_cell kU 3
 have kv_0 : w2.cell? ⟨w.heap.size + 1 + 1, 0, none⟩ = some (.bool sv) := blk_cell kV 0
 have kv_1 : w2.cell? ⟨w.heap.size + 1 + 1, 1, none⟩ = some (.slice Av nv cv) := blk_cell kV 1
 have kv_2 : w2.cell? ⟨w.heap.size + 1 + 1, 2, none⟩ = some (.bool tv) := blk_cell kV 2
 have kv_3 : w2.cell? ⟨w.heap.size + 1 + 1, 3, none⟩ = some (.slice Bv mv dv) := blk_cell kV 3
 clear kU kV
 go_wp2
 clear ku_0 ku_1 ku_2 ku_3 kv_0 kv_1 kv_2 kv_3
 have hb8 := blk_new w2 (.cells #[.bool su, .slice Au nu cu, .bool tu, .slice Bu mu du, .bool sv, .slice Av nv cv, .bool tv, .slice Bv mv dv] 45)
 have hba := below_alloc (Below.refl w2.heap.size w2) (.cells #[.bool su, .slice Au nu cu, .bool tu, .slice Bu mu du, .bool sv, .slice Av nv cv, .bool tv, .slice Bv mv dv] 45)
 have HL := Aside0.mk (And.intro hb8 (And.intro (below_step HB2.out hba) (And.intro (blk_below HK2.out.1 hba) (And.intro (blk_below HK2.out.2.1 hba) (blk_below HK2.out.2.2 hba)))))
 obtain ⟨W3, hW3⟩ : ∃ W3, w2.alloc (.cells #[.bool su, .slice Au nu cu, .bool tu, .slice Bu mu du, .bool sv, .slice Av nv cv, .bool tv, .slice Bv mv dv] 45) = W3 := ⟨_, rfl⟩
 obtain ⟨gl, hgl⟩ : ∃ g, w2.heap.size = g := ⟨_, rfl⟩
 rw [hW3, hgl] at HL
 rw [hW3, hgl]
 clear hb8 hba hW3 hgl HB2 HK2
 obtain ⟨FI3, hFI3⟩ : ∃ F : World → Prop, F = fun W => W.heap[gl]? = some (.cells #[.bool su, .slice Au nu cu, .bool tu, .slice Bu mu du, .bool sv, .slice Av nv cv, .bool tv, .slice Bv mv dv] 45 (0, 0)) ∧ Below w.heap.size w W ∧ W.heap[w.heap.size]? = some (.cells #[.slice (some ad) 1 c] 33 (0, 0)) ∧ W.heap[w.heap.size + 1]? = some (.cells #[.bool su, .slice Au nu cu, .bool tu, .slice Bu mu du] 45 (0, 0)) ∧ W.heap[w.heap.size + 1 + 1]? = some (.cells #[.bool sv, .slice Av nv cv, .bool tv, .slice Bv mv dv] 45 (0, 0)) := ⟨_, rfl⟩
 have HFI := Aside0.mk (show ∀ W W', FI3 W → Below W.heap.size W W' → FI3 W' by
  rw [hFI3]
  rintro W W' ⟨h1, h2, h3, h4, h5⟩ hb
  exact ⟨blk_below h1 hb, below_step h2 hb, blk_below h3 hb, blk_below h4 hb, blk_below h5 hb⟩)
 have HL3 := Aside0.mk (show FI3 W3 by rw [hFI3]; exact HL.out)
 have HOP := Aside0.mk hFI3
 clear HL hFI3
 go_loopw [6, 7, 25] (fun v6 v7 v w' => v6 = .bool false ∧ v7 = .bool false ∧ (v = .int .i64 0 ∨ v = .int .i64 1 ∨ v = .int .i64 2) ∧ Aside0 (FI3 w')) (fun _ _ v _ => (match v with | .int _ i => 2 - i.toNat | _ => 0))
 case atStart => exact ⟨rfl, rfl, .inl rfl, HL3⟩
 case round =>
  obtain ⟨rfl, rfl, hvv, HI⟩ := hrel
  have hI := HI.out
  rw [HOP.out] at hI
  obtain ⟨h8, hBi, h33, h4, h5⟩ := hI
  rcases hvv with rfl | rfl | rfl
  ·have y0 : wr.cell? ⟨gl, 0, none⟩ = some (.bool su) := blk_cell h8 0
   have y1 : wr.cell? ⟨gl, 1, none⟩ = some (.slice Au nu cu) := blk_cell h8 1
   have y2 : wr.cell? ⟨gl, 2, none⟩ = some (.bool tu) := blk_cell h8 2
   have y3 : wr.cell? ⟨gl, 3, none⟩ = some (.slice Bu mu du) := blk_cell h8 3
   have bX := blk_new wr (.cells #[.bool su, .slice Au nu cu, .bool tu, .slice Bu mu du] 45)
   have hBX := below_alloc hBi (.cells #[.bool su, .slice Au nu cu, .bool tu, .slice Bu mu du] 45)
   have HBX := Aside0.mk (And.intro bX (And.intro hBX (HFI.out _ _ HI.out (below_alloc (Below.refl _ _) (.cells #[.bool su, .slice Au nu cu, .bool tu, .slice Bu mu du] 45)))))
   have hfit : Fit U := Fit.small (by have := HX.out.2.2.2.1; omega) (by have := HX.out.2.2.2.1; omega)
   have hlong := two1024_small HX.out.2.2.2.1.1 HX.out.2.2.2.1.2
   have hlong1 := two1024_small (z := 1) (by omega) (by omega)
   have hfit1 : Fit 1 := Fit.small (by omega) (by omega)
   clear bX hBX h8 h33 h4 h5 hBi
   go_wp2_with (first
    | (go_at_call 45; (with_reducible refine (Num_calls _ U _ (HFu.out.below HBX.out.2.1)).mono ?_); rintro e w5 ⟨r5, rfl, hW5, hb5⟩; have HW5 := Aside0.mk hW5; have HB5 := Aside0.mk (And.intro (blk_below HBX.out.1 hb5) (And.intro (below_step HBX.out.2.1 hb5) (HFI.out _ _ HBX.out.2.2 hb5))); clear hW5 hb5)
    | (go_at_call 44; (with_reducible refine (long_calls r5 U w5 HW5.out hfit).mono ?_); rintro e w6 ⟨rfl, hb6⟩; rw [hlong]; have HB6 := Aside0.mk (And.intro (below_step HB5.out.2.1 hb6) (HFI.out _ _ HB5.out.2.2 hb6)); have hbb := blk_below HB5.out.1 hb6; have d0 : w6.cell? ⟨wr.heap.size, 0, none⟩ = some (.bool su) := blk_cell hbb 0; have d1 : w6.cell? ⟨wr.heap.size, 1, none⟩ = some (.slice Au nu cu) := blk_cell hbb 1; have d2 : w6.cell? ⟨wr.heap.size, 2, none⟩ = some (.bool tu) := blk_cell hbb 2; have d3 : w6.cell? ⟨wr.heap.size, 3, none⟩ = some (.slice Bu mu du) := blk_cell hbb 3; clear hbb hb6)
    | (go_at_call 46; (with_reducible refine (Den_calls _ U _ (HFu.out.below HB6.out.1)).mono ?_); rintro e w7 ⟨r7, rfl, hW7, hb7⟩; have HW7 := Aside0.mk hW7; have HB7 := Aside0.mk (HFI.out _ _ HB6.out.2 hb7); clear hW7 hb7)
    | (go_at_call 44; (with_reducible refine (long_calls r7 1 w7 HW7.out hfit1).mono ?_); rintro e w8 ⟨rfl, hb8⟩; rw [hlong1]; have HB8 := Aside0.mk (HFI.out _ _ HB7.out hb8); clear hb8)
    | fail)
   go_roundw
   case rel => exact ⟨rfl, rfl, .inr (.inl rfl), HB8⟩
   case measure => simp
  ·have y0 : wr.cell? ⟨gl, 4, none⟩ = some (.bool sv) := blk_cell h8 4
   have y1 : wr.cell? ⟨gl, 5, none⟩ = some (.slice Av nv cv) := blk_cell h8 5
   have y2 : wr.cell? ⟨gl, 6, none⟩ = some (.bool tv) := blk_cell h8 6
   have y3 : wr.cell? ⟨gl, 7, none⟩ = some (.slice Bv mv dv) := blk_cell h8 7
   have bX := blk_new wr (.cells #[.bool sv, .slice Av nv cv, .bool tv, .slice Bv mv dv] 45)
   have hBX := below_alloc hBi (.cells #[.bool sv, .slice Av nv cv, .bool tv, .slice Bv mv dv] 45)
   have HBX := Aside0.mk (And.intro bX (And.intro hBX (HFI.out _ _ HI.out (below_alloc (Below.refl _ _) (.cells #[.bool sv, .slice Av nv cv, .bool tv, .slice Bv mv dv] 45)))))
   have hfit : Fit V := Fit.small (by have := HX.out.2.2.2.2.1; omega) (by have := HX.out.2.2.2.2.1; omega)
   have hlong := two1024_small HX.out.2.2.2.2.1.1 HX.out.2.2.2.2.1.2
   have hlong1 := two1024_small (z := 1) (by omega) (by omega)
   have hfit1 : Fit 1 := Fit.small (by omega) (by omega)
   clear bX hBX h8 h33 h4 h5 hBi
   go_wp2_with (first
    | (go_at_call 45; (with_reducible refine (Num_calls _ V _ (HFv.out.below HBX.out.2.1)).mono ?_); rintro e w5 ⟨r5, rfl, hW5, hb5⟩; have HW5 := Aside0.mk hW5; have HB5 := Aside0.mk (And.intro (blk_below HBX.out.1 hb5) (And.intro (below_step HBX.out.2.1 hb5) (HFI.out _ _ HBX.out.2.2 hb5))); clear hW5 hb5)
    | (go_at_call 44; (with_reducible refine (long_calls r5 V w5 HW5.out hfit).mono ?_); rintro e w6 ⟨rfl, hb6⟩; rw [hlong]; have HB6 := Aside0.mk (And.intro (below_step HB5.out.2.1 hb6) (HFI.out _ _ HB5.out.2.2 hb6)); have hbb := blk_below HB5.out.1 hb6; have d0 : w6.cell? ⟨wr.heap.size, 0, none⟩ = some (.bool sv) := blk_cell hbb 0; have d1 : w6.cell? ⟨wr.heap.size, 1, none⟩ = some (.slice Av nv cv) := blk_cell hbb 1; have d2 : w6.cell? ⟨wr.heap.size, 2, none⟩ = some (.bool tv) := blk_cell hbb 2; have d3 : w6.cell? ⟨wr.heap.size, 3, none⟩ = some (.slice Bv mv dv) := blk_cell hbb 3; clear hbb hb6)
    | (go_at_call 46; (with_reducible refine (Den_calls _ V _ (HFv.out.below HB6.out.1)).mono ?_); rintro e w7 ⟨r7, rfl, hW7, hb7⟩; have HW7 := Aside0.mk hW7; have HB7 := Aside0.mk (HFI.out _ _ HB6.out.2 hb7); clear hW7 hb7)
    | (go_at_call 44; (with_reducible refine (long_calls r7 1 w7 HW7.out hfit1).mono ?_); rintro e w8 ⟨rfl, hb8⟩; rw [hlong1]; have HB8 := Aside0.mk (HFI.out _ _ HB7.out hb8); clear hb8)
    | fail)
   go_roundw
   case rel => exact ⟨rfl, rfl, .inr (.inr rfl), HB8⟩
   case measure => simp
  ·have kk := blk_cell h33 0
   clear h8 h33 h4 h5 hBi
   go_wp2
   go_loopw [6, 7, 41] (fun v6 v7 v w' => (v6 = .bool false ∧ v7 = .bool false ∧ v = .int .i64 0 ∨ v6 = .bool i ∧ v7 = .bool o ∧ v = .int .i64 1) ∧ Aside0 (FI3 w')) (fun _ _ v _ => (match v with | .int _ i => 1 - i.toNat | _ => 0))
   case atStart => exact ⟨.inl ⟨rfl, rfl, rfl⟩, HI⟩
   case round =>
    obtain ⟨hvv, HI2⟩ := hrel
    clear kk HI
    have hI := HI2.out
    rw [HOP.out] at hI
    obtain ⟨h8, hBi, h33, h4, h5⟩ := hI
    rcases hvv with ⟨rfl, rfl, rfl⟩ | ⟨rfl, rfl, rfl⟩
    ·have kk := pw_cell_below hBi HA.out
     have HRi := Aside0.mk (Kd.C_below HR.out hBi)
     have HU := Aside0.mk (And.intro (HFu.out.below hBi) (HFv.out.below hBi))
     have y0 : wr.cell? ⟨w.heap.size + 1, 0, none⟩ = some (.bool su) := blk_cell h4 0
     have y1 : wr.cell? ⟨w.heap.size + 1, 1, none⟩ = some (.slice Au nu cu) := blk_cell h4 1
     have y2 : wr.cell? ⟨w.heap.size + 1, 2, none⟩ = some (.bool tu) := blk_cell h4 2
     have y3 : wr.cell? ⟨w.heap.size + 1, 3, none⟩ = some (.slice Bu mu du) := blk_cell h4 3
     have e0 : wr.cell? ⟨w.heap.size + 1 + 1, 0, none⟩ = some (.bool sv) := blk_cell h5 0
     have e1 : wr.cell? ⟨w.heap.size + 1 + 1, 1, none⟩ = some (.slice Av nv cv) := blk_cell h5 1
     have e2 : wr.cell? ⟨w.heap.size + 1 + 1, 2, none⟩ = some (.bool tv) := blk_cell h5 2
     have e3 : wr.cell? ⟨w.heap.size + 1 + 1, 3, none⟩ = some (.slice Bv mv dv) := blk_cell h5 3
     clear h8 h33 h4 h5 hBi
     cases i <;> cases o <;>
      (go_wp2_with (first
       | (go_at_call 40; (with_reducible refine (around1_calls A0 c0 r _ _ U V wr HRi.out HU.out.1 HU.out.2 HX.out.2.2.1 HX.out.2.2.2.1 HX.out.2.2.2.2.1 _ _ HX.out.2.2.2.2.2).mono ?_); rintro e w5 ⟨rfl, hb5⟩; have HB5 := Aside0.mk (HFI.out _ _ HI2.out hb5); clear hb5)
       | fail)
       go_roundw
       case rel => exact ⟨.inr ⟨rfl, rfl, rfl⟩, HB5⟩
       case measure => simp)
    ·have HBf := Aside0.mk hBi
     clear h8 h33 h4 h5 hBi
     go_wp2
     go_returns
     exact ⟨rfl, HBf.out⟩
end Go.Proofs.Ytjmkccabpnigiaa.P
namespace Go.Proofs.Ytjmkccabpnigiaa.P
open Go.RowKit Go.Proofs.YtjmkccabpnigiaaW.PrintWords Go.Proofs.YtjmkccabpnigiaaW.PrintLast Go.Proofs.YtjmkccabpnigiaaW.PrintMore
attribute [local go_sem] max2_int min2_int max_two min_two max_three min_three max_four min_four
set_option linter.unusedVariables false
set_option linter.unusedSimpArgs false
set_option maxHeartbeats 8000000
set_option maxRecDepth 100000
theorem has1_calls (A : Option Addr) (c : Nat) (r : List S26) (u v : Value) (U V : Int) (w : World) (hC : Kd.C (Kd.slice 26 k26) w A 1 [r]) (hc : 1 ≤ c) (hT : r.length ≤ 1000000) (hval : valid1P r = 0) (hu : FI w u U) (hv : FI w v V) (hU : -4294967296 ≤ U ∧ U ≤ 4294967296) (hV : -4294967296 ≤ V ∧ V ≤ 4294967296) (i o : Bool) (hio : aroundP r U V = (i, o)) :
    Calls Try.prog 24 #[.agg #[.slice A 1 c], u, v] w fun e w' => e = .returned (.tuple #[.bool i, .int .i64 0]) ∧ Below w.heap.size w w' := by
 have hu31 := Try.underlying31
 have hu33 := Try.underlying33
 have hu45 := Try.underlying45
 have HFu := Aside0.mk hu
 have HFv := Aside0.mk hv
 obtain ⟨su, Au, nu, cu, tu, Bu, mu, du, rfl, _, _⟩ := hu
 obtain ⟨sv, Av, nv, cv, tv, Bv, mv, dv, rfl, _, _⟩ := hv
 have HC := Aside0.mk hC
 have HX := Aside0.mk (And.intro hT (And.intro hval (And.intro hU (And.intro hV hio))))
 have h3 := three_new w (.cells #[.slice A 1 c] 33) (.cells #[.bool su, .slice Au nu cu, .bool tu, .slice Bu mu du] 45) (.cells #[.bool sv, .slice Av nv cv, .bool tv, .slice Bv mv dv] 45)
 have hB := below_alloc (below_alloc (below_alloc (Below.refl w.heap.size w) (.cells #[.slice A 1 c] 33)) (.cells #[.bool su, .slice Au nu cu, .bool tu, .slice Bu mu du] 45)) (.cells #[.bool sv, .slice Av nv cv, .bool tv, .slice Bv mv dv] 45)
 clear hC hT hval hU hV hio
 go_enter Try.func24, Try.ntmps24
 obtain ⟨W1, hW1⟩ : ∃ W1, ((w.alloc (.cells #[.slice A 1 c] 33)).alloc (.cells #[.bool su, .slice Au nu cu, .bool tu, .slice Bu mu du] 45)).alloc (.cells #[.bool sv, .slice Av nv cv, .bool tv, .slice Bv mv dv] 45) = W1 := ⟨_, rfl⟩
 rw [hW1] at h3 hB
 have HB := Aside0.mk hB
 have HK := Aside0.mk h3.2
 have k1 : W1.cell? ⟨w.heap.size, 0, none⟩ = some (.slice A 1 c) := blk_cell h3.2.1 0
 have c1_0 : W1.cell? ⟨w.heap.size + 1, 0, none⟩ = some (.bool su) := blk_cell h3.2.2.1 0
 have c1_1 : W1.cell? ⟨w.heap.size + 1, 1, none⟩ = some (.slice Au nu cu) := blk_cell h3.2.2.1 1
 have c1_2 : W1.cell? ⟨w.heap.size + 1, 2, none⟩ = some (.bool tu) := blk_cell h3.2.2.1 2
 have c1_3 : W1.cell? ⟨w.heap.size + 1, 3, none⟩ = some (.slice Bu mu du) := blk_cell h3.2.2.1 3
 have c2_0 : W1.cell? ⟨w.heap.size + 1 + 1, 0, none⟩ = some (.bool sv) := blk_cell h3.2.2.2 0
 have c2_1 : W1.cell? ⟨w.heap.size + 1 + 1, 1, none⟩ = some (.slice Av nv cv) := blk_cell h3.2.2.2 1
 have c2_2 : W1.cell? ⟨w.heap.size + 1 + 1, 2, none⟩ = some (.bool tv) := blk_cell h3.2.2.2 2
 have c2_3 : W1.cell? ⟨w.heap.size + 1 + 1, 3, none⟩ = some (.slice Bv mv dv) := blk_cell h3.2.2.2 3
 clear hB h3
 go_wp2_with (first
  | (go_at_call 29; (with_reducible refine (find1_calls A c r _ _ U V W1 (Kd.C_below HC.out HB.out) hc HX.out.1 HX.out.2.1 (HFu.out.below HB.out) (HFv.out.below HB.out) HX.out.2.2.1 HX.out.2.2.2.1 _ _ HX.out.2.2.2.2).mono ?_); rintro e w2 ⟨rfl, hb2⟩; have HB2 := Aside0.mk (below_step HB.out hb2); clear hb2)
  | fail)
 go_ret2
 exact ⟨rfl, HB2.out⟩
theorem side1_calls (A : Option Addr) (c : Nat) (r : List S26) (u v : Value) (U V : Int) (w : World) (hC : Kd.C (Kd.slice 26 k26) w A 1 [r]) (hc : 1 ≤ c) (hT : r.length ≤ 1000000) (hval : valid1P r = 0) (hu : FI w u U) (hv : FI w v V) (hU : -4294967296 ≤ U ∧ U ≤ 4294967296) (hV : -4294967296 ≤ V ∧ V ≤ 4294967296) (i o : Bool) (hio : aroundP r U V = (i, o)) :
    Calls Try.prog 14 #[.agg #[.slice A 1 c], u, v] w fun e w' => e = .returned (.tuple #[.int .i64 (if o then 0 else if i then 1 else -1), .int .i64 0]) ∧ Below w.heap.size w w' := by
 have hu31 := Try.underlying31
 have hu33 := Try.underlying33
 have hu45 := Try.underlying45
 have HFu := Aside0.mk hu
 have HFv := Aside0.mk hv
 obtain ⟨su, Au, nu, cu, tu, Bu, mu, du, rfl, _, _⟩ := hu
 obtain ⟨sv, Av, nv, cv, tv, Bv, mv, dv, rfl, _, _⟩ := hv
 have HC := Aside0.mk hC
 have HX := Aside0.mk (And.intro hT (And.intro hval (And.intro hU (And.intro hV hio))))
 have h3 := three_new w (.cells #[.slice A 1 c] 33) (.cells #[.bool su, .slice Au nu cu, .bool tu, .slice Bu mu du] 45) (.cells #[.bool sv, .slice Av nv cv, .bool tv, .slice Bv mv dv] 45)
 have hB := below_alloc (below_alloc (below_alloc (Below.refl w.heap.size w) (.cells #[.slice A 1 c] 33)) (.cells #[.bool su, .slice Au nu cu, .bool tu, .slice Bu mu du] 45)) (.cells #[.bool sv, .slice Av nv cv, .bool tv, .slice Bv mv dv] 45)
 clear hC hT hval hU hV hio
 go_enter Try.func14, Try.ntmps14
 obtain ⟨W1, hW1⟩ : ∃ W1, ((w.alloc (.cells #[.slice A 1 c] 33)).alloc (.cells #[.bool su, .slice Au nu cu, .bool tu, .slice Bu mu du] 45)).alloc (.cells #[.bool sv, .slice Av nv cv, .bool tv, .slice Bv mv dv] 45) = W1 := ⟨_, rfl⟩
 rw [hW1] at h3 hB
 have HB := Aside0.mk hB
 have HK := Aside0.mk h3.2
 have k1 : W1.cell? ⟨w.heap.size, 0, none⟩ = some (.slice A 1 c) := blk_cell h3.2.1 0
 have c1_0 : W1.cell? ⟨w.heap.size + 1, 0, none⟩ = some (.bool su) := blk_cell h3.2.2.1 0
 have c1_1 : W1.cell? ⟨w.heap.size + 1, 1, none⟩ = some (.slice Au nu cu) := blk_cell h3.2.2.1 1
 have c1_2 : W1.cell? ⟨w.heap.size + 1, 2, none⟩ = some (.bool tu) := blk_cell h3.2.2.1 2
 have c1_3 : W1.cell? ⟨w.heap.size + 1, 3, none⟩ = some (.slice Bu mu du) := blk_cell h3.2.2.1 3
 have c2_0 : W1.cell? ⟨w.heap.size + 1 + 1, 0, none⟩ = some (.bool sv) := blk_cell h3.2.2.2 0
 have c2_1 : W1.cell? ⟨w.heap.size + 1 + 1, 1, none⟩ = some (.slice Av nv cv) := blk_cell h3.2.2.2 1
 have c2_2 : W1.cell? ⟨w.heap.size + 1 + 1, 2, none⟩ = some (.bool tv) := blk_cell h3.2.2.2 2
 have c2_3 : W1.cell? ⟨w.heap.size + 1 + 1, 3, none⟩ = some (.slice Bv mv dv) := blk_cell h3.2.2.2 3
 clear hB h3
 cases o <;> cases i <;>
  (go_wp2_with (first
   | (go_at_call 29; (with_reducible refine (find1_calls A c r _ _ U V W1 (Kd.C_below HC.out HB.out) hc HX.out.1 HX.out.2.1 (HFu.out.below HB.out) (HFv.out.below HB.out) HX.out.2.2.1 HX.out.2.2.2.1 _ _ HX.out.2.2.2.2).mono ?_); rintro e w2 ⟨rfl, hb2⟩; have HB2 := Aside0.mk (below_step HB.out hb2); clear hb2)
   | fail)
   go_ret2
   exact ⟨rfl, HB2.out⟩)
end Go.Proofs.Ytjmkccabpnigiaa.P
