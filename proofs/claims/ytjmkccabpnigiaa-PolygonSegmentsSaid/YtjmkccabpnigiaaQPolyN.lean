import Derived.Test.YtjmkccabpnigiaaQPolyM
namespace Go.Proofs.Ytjmkccabpnigiaa.P
open Go.RowKit Go.Proofs.YtjmkccabpnigiaaW.PrintWords Go.Proofs.YtjmkccabpnigiaaW.PrintLast Go.Proofs.YtjmkccabpnigiaaW.PrintMore
attribute [local go_sem] max2_int min2_int max_two min_two max_three min_three max_four min_four
set_option linter.unusedVariables false
set_option linter.unusedSimpArgs false
def valid1P (r : List S26) : Int := if r.length < 3 then 1 else if 256 < r.length then 4 else if anyFar r = true then 5 else if simpleP r = true then 0 else 10
theorem anyFar_false : ∀ {l : List S26}, anyFar l = false → ∀ p ∈ l, farP p = false
 | [], _, p, h => by cases h
 | q :: l, h, p, hp => by
  unfold anyFar at h
  cases hq : farP q with
  | true => rw [hq] at h; cases h
  | false =>
   rw [hq, if_neg (by decide)] at h
   rcases List.mem_cons.1 hp with rfl | hp
   ·exact hq
   ·exact anyFar_false h p hp
theorem shortL1 (r : List S26) : anyShort [r] = decide (r.length < 3) := by
 unfold anyShort anyShort
 by_cases h : r.length < 3
 ·rw [if_pos h, decide_eq_true h]
 ·rw [if_neg h, decide_eq_false h]
theorem concat1_calls (A : Option Addr) (c : Nat) (r : List S26) (w : World) (hC : Kd.C (Kd.slice 26 k26) w A 1 [r]) (hT : r.length ≤ 1000000) :
    Calls Try.prog 27 #[.slice A 1 c] w fun e w' => ∃ A2 c2, e = .returned (.slice A2 r.length c2) ∧ (r.length ≤ c2 ∧ Kd.C k26 w' A2 r.length r) ∧ Below w.heap.size w w' := by
 refine (concat_calls A c [r] w hC (by simpa using hT) (by simp)).mono ?_
 rintro e w2 ⟨v, rfl, HO, hb2⟩
 rw [show ([r] : List (List S26)).flatten = r by simp] at HO
 obtain ⟨A2, c2, rfl⟩ := Kd.R_slice HO
 exact ⟨A2, c2, rfl, (Kd.R_reads' HO).2, hb2⟩
theorem contains1_calls (A : Option Addr) (c : Nat) (r : List S26) (b : Bool) (hb : decide (r.length < 3) = b) (w : World) (hC : Kd.C (Kd.slice 26 k26) w A 1 [r]) :
    Calls Try.prog 35 #[.slice A 1 c, .func (.func 36) #[] #[]] w fun e w' => e = .returned (.bool b) ∧ Below w.heap.size w w' := by
 have h := containsL_calls A c [r] w hC
 rw [shortL1, hb] at h
 exact h
theorem near1_calls (A : Option Addr) (c : Nat) (r : List S26) (b : Bool) (hb : anyFar r = b) (w : World) (hC : Kd.C k26 w A r.length r) (hc : r.length ≤ c) :
    Calls Try.prog 17 #[.slice A r.length c] w fun e w' => e = .returned (.bool (!b)) ∧ Below w.heap.size w w' :=
 polygon_near.calls A c r (!b) w hC hc (by unfold polygon_near.f; rw [hb])
set_option maxRecDepth 100000 in
set_option maxHeartbeats 8000000 in
theorem valid1_calls (A : Option Addr) (c : Nat) (r : List S26) (w : World) (hC : Kd.C (Kd.slice 26 k26) w A 1 [r]) (hc : 1 ≤ c) (hT : r.length ≤ 1000000) :
    Calls Try.prog 25 #[.agg #[.slice A 1 c]] w fun e w' => e = .returned (.int .i64 (valid1P r)) ∧ Below w.heap.size w w' := by
 have hu23 := Try.underlying23
 have hu26 := Try.underlying26
 have hu31 := Try.underlying31
 have hu33 := Try.underlying33
 obtain ⟨ad, A0, c0, rfl, h0, h1, h2⟩ := at_L2 hC 0 (by omega) (by omega)
 have hr0 : rd_L2 [r] 0 = r := rfl
 rw [hr0] at h0 h1 h2
 have had : ad.add (Int.toNat 0) = ad := by unfold Addr.add; simp
 rw [had] at h0
 have HC := Aside0.mk hC
 have HR := Aside0.mk (And.intro h1 h2)
 have hB := below_alloc (Below.refl w.heap.size w) (.cells #[.slice (some ad) 1 c] 33)
 have b1 := blk_new w (.cells #[.slice (some ad) 1 c] 33)
 have hf1 : ([r] : List (List S26)).flatten = r := by simp
 have hT' : ([r] : List (List S26)).flatten.length ≤ 1000000 := by rw [hf1]; exact hT
 clear hC h1 h2 hr0 had
 go_enter Try.func25, Try.ntmps25
 obtain ⟨W1, hW1⟩ : ∃ W1, w.alloc (.cells #[.slice (some ad) 1 c] 33) = W1 := ⟨_, rfl⟩
 rw [hW1] at hB b1
 have HB := Aside0.mk hB
 have HB1 := Aside0.mk b1
 have k1 : W1.cell? ⟨w.heap.size, 0, none⟩ = some (.slice (some ad) 1 c) := blk_cell b1 0
 have HA := Aside0.mk h0
 clear hB b1 h0
 go_upto_region 3 with fail
 clear hW1
 go_upto_region 4 with (first
  | (go_at_call 27; (with_reducible refine (concat1_calls (some ad) c r W1 (Kd.C_below HC.out HB.out) hT).mono ?_); rintro e w2 ⟨A2, c2, rfl, HO, hb2⟩; have HO2 := Aside0.mk HO; have HB2 := Aside0.mk (below_step HB.out hb2); have k2 := pw_cell_below hb2 k1; clear HO hb2 k1)
  | fail)
 cases hS : decide (r.length < 3) with
 | true =>
  have HV := Aside0.mk (show valid1P r = 1 by unfold valid1P; rw [if_pos (of_decide_eq_true hS)])
  go_wp2_with (first
   | (go_at_call 35; (with_reducible refine (contains1_calls (some ad) c r true hS w2 (Kd.C_below HC.out HB2.out)).mono ?_); rintro e w3 ⟨rfl, hb3⟩; have HB3 := Aside0.mk (below_step HB2.out hb3); clear hb3)
   | fail)
  go_ret
  exact ⟨by rw [HV.out]; rfl, HB3.out⟩
 | false =>
  have h3 : ¬ r.length < 3 := of_decide_eq_false hS
  by_cases h256 : 256 < r.length
  ·have HV := Aside0.mk (show valid1P r = 4 by unfold valid1P; rw [if_neg h3, if_pos h256])
   go_wp2_with (first
    | (go_at_call 35; (with_reducible refine (contains1_calls (some ad) c r false hS w2 (Kd.C_below HC.out HB2.out)).mono ?_); rintro e w3 ⟨rfl, hb3⟩; have HB3 := Aside0.mk (below_step HB2.out hb3); clear hb3)
    | fail)
   go_ret
   exact ⟨by rw [HV.out]; rfl, HB3.out⟩
  ·cases hF : anyFar r with
   | true =>
    have HV := Aside0.mk (show valid1P r = 5 by unfold valid1P; rw [if_neg h3, if_neg h256, if_pos hF])
    go_wp2_with (first
     | (go_at_call 35; (with_reducible refine (contains1_calls (some ad) c r false hS w2 (Kd.C_below HC.out HB2.out)).mono ?_); rintro e w3 ⟨rfl, hb3⟩; have HB3 := Aside0.mk (below_step HB2.out hb3); have HO3 := Aside0.mk (And.intro HO2.out.1 (Kd.C_below HO2.out.2 hb3)); clear hb3)
     | (go_at_call 17; (with_reducible refine (near1_calls A2 c2 r true hF w3 HO3.out.2 HO3.out.1).mono ?_); rintro e w4 ⟨rfl, hb4⟩; have HB4 := Aside0.mk (below_step HB3.out hb4); clear hb4)
     | fail)
    go_ret
    exact ⟨by rw [HV.out]; rfl, HB4.out⟩
   | false =>
    go_wp2_with (first
     | (go_at_call 35; (with_reducible refine (contains1_calls (some ad) c r false hS w2 (Kd.C_below HC.out HB2.out)).mono ?_); rintro e w3 ⟨rfl, hb3⟩; have HB3 := Aside0.mk (below_step HB2.out hb3); have HO3 := Aside0.mk (And.intro HO2.out.1 (Kd.C_below HO2.out.2 hb3)); have k3 := pw_cell_below hb3 k2; clear hb3 k2)
     | (go_at_call 17; (with_reducible refine (near1_calls A2 c2 r false hF w3 HO3.out.2 HO3.out.1).mono ?_); rintro e w4 ⟨rfl, hb4⟩; have HB4 := Aside0.mk (below_step HB3.out hb4); have k4 := pw_cell_below hb4 k3; clear hb4 k3)
     | fail)
    have hnear := anyFar_false hF
    cases hP : simpleP r with
    | false =>
     have HV := Aside0.mk (show valid1P r = 10 by unfold valid1P; rw [if_neg h3, if_neg h256, hF, if_neg (by decide), hP, if_neg (by decide)])
     go_loopw [44] (fun v w' => v = .int .i64 0 ∧ Aside0 (Below w.heap.size w w')) (fun _ _ => 0)
     case atStart => exact ⟨rfl, HB4⟩
     case round =>
      obtain ⟨rfl, HBi⟩ := hrel
      have kk := pw_cell_below HBi.out HA.out
      have HRi := Aside0.mk (Kd.C_below HR.out.2 HBi.out)
      go_wp2_with (first
       | (go_at_call 37; (with_reducible refine (simple_calls A0 c0 r _ HRi.out).mono ?_); rintro e w5 ⟨rfl, hb5⟩; have HB5 := Aside0.mk (below_step HBi.out hb5); clear hb5; rw [hP])
       | fail)
      go_ret
      exact ⟨by rw [HV.out]; rfl, HB5.out⟩
    | true =>
     have HV := Aside0.mk (show valid1P r = 0 by unfold valid1P; rw [if_neg h3, if_neg h256, hF, if_neg (by decide), hP, if_pos rfl])
     go_loopw [44] (fun v w' => (v = .int .i64 0 ∨ v = .int .i64 1) ∧ w'.cell? ⟨w.heap.size, 0, none⟩ = some (.slice (some ad) 1 c) ∧ Aside0 (Below w.heap.size w w')) (fun v _ => (match v with | .int _ i => 1 - i.toNat | _ => 0))
     case atStart => exact ⟨.inl rfl, k4, HB4⟩
     case round =>
      obtain ⟨hv, ki, HBi⟩ := hrel
      rcases hv with rfl | rfl
      ·have kk := pw_cell_below HBi.out HA.out
       have HRi := Aside0.mk (Kd.C_below HR.out.2 HBi.out)
       go_wp2_with (first
        | (go_at_call 37; (with_reducible refine (simple_calls A0 c0 r _ HRi.out).mono ?_); rintro e w5 ⟨rfl, hb5⟩; have HB5 := Aside0.mk (below_step HBi.out hb5); have k5 := pw_cell_below hb5 ki; clear hb5; rw [hP])
        | fail)
       all_goals
        go_loopw [57] (fun v w' => v = .int .i64 0 ∧ w'.cell? ⟨w.heap.size, 0, none⟩ = some (.slice (some ad) 1 c) ∧ Aside0 (Below w.heap.size w w')) (fun _ _ => 0)
        case atStart => exact ⟨rfl, k5, HB5⟩
        case round =>
         obtain ⟨rfl, kj, HBj⟩ := hrel
         go_wp2
         go_roundw
         case rel => exact ⟨.inr rfl, kj, HBj⟩
         case measure => simp
      ·go_wp2
       all_goals
        go_loopw [70] (fun v w' => v = .int .i64 0 ∧ Aside0 (Below w.heap.size w w')) (fun _ _ => 0)
        case atStart => exact ⟨rfl, HBi⟩
        case round =>
         obtain ⟨rfl, HBj⟩ := hrel
         go_wp2
         go_ret
         exact ⟨by rw [HV.out]; rfl, HBj.out⟩
end Go.Proofs.Ytjmkccabpnigiaa.P
