import Derived.Test.YtjmkccabpnigiaaQPolyL
import Derived.Test.YtjmkccabpnigiaaQWZeros
namespace Go.Proofs.Ytjmkccabpnigiaa.P
open Go.RowKit Go.Proofs.YtjmkccabpnigiaaW.PrintWords Go.Proofs.YtjmkccabpnigiaaW.PrintLast Go.Proofs.YtjmkccabpnigiaaW.PrintMore
attribute [local go_sem] max2_int min2_int max_two min_two max_three min_three max_four min_four
set_option linter.unusedVariables false
set_option linter.unusedSimpArgs false
set_option maxHeartbeats 4000000
set_option maxRecDepth 100000
theorem ringlen_calls (A : Option Addr) (n c : Nat) (w : World) : Calls Try.prog 36 #[.slice A n c] w fun e w' => e = .returned (.bool (decide (n < 3))) ∧ Below w.heap.size w w' := by
 go_enter Try.func36, Try.ntmps36
 go_wp2
 all_goals (go_ret; refine ⟨?_, Below.refl _ _⟩; first | rfl | (congr 2; simp; omega) | (congr 2; rw [decide_eq_decide]; omega))
def anyShort : List (List S26) → Bool
 | [] => false
 | p :: l => if p.length < 3 then true else anyShort l
theorem drop_rdL (l : List (List S26)) (i : Nat) (h : i < l.length) : l.drop i = rd_L2 l i :: l.drop (i + 1) := by
 rw [List.drop_eq_getElem_cons h]
 simp [rd_L2, List.getD_eq_getElem?_getD, List.getElem?_eq_getElem h]
theorem indexL_calls (A : Option Addr) (c : Nat) (l : List (List S26)) (w : World) (hC : Kd.C (Kd.slice 26 k26) w A l.length l) :
    Calls Try.prog 50 #[.slice A l.length c, .func (.func 36) #[] #[]] w fun e w' => ∃ i, e = .returned (.int .i64 i) ∧ decide (0 ≤ i) = anyShort l ∧ Below w.heap.size w w' := by
 have hmax := Kd.C_max hC
 have HC := Aside0.mk hC
 clear hC
 go_enter Try.func50, Try.ntmps50
 go_wp2
 go_loopw [8] (fun v8 w' => ∃ i : Nat, v8 = .int .i64 i ∧ i ≤ l.length ∧ Aside0 (anyShort l = anyShort (l.drop i)) ∧ Aside0 (Below w.heap.size w w')) (fun v8 _ => (match v8 with | .int _ i => l.length - i.toNat | _ => 0))
 case atStart => exact ⟨0, rfl, Nat.zero_le _, ⟨by simp⟩, ⟨Below.refl _ _⟩⟩
 case round =>
  obtain ⟨i, rfl, hi, HQ, HB⟩ := hrel
  by_cases h : i < l.length
  ·obtain ⟨ad, A0, c0, rfl, h0, h1, h2⟩ := at_L2 (Kd.C_below HC.out HB.out) (i : Int) (by omega) (by omega)
   obtain ⟨p, hp⟩ : ∃ p, rd_L2 l i = p := ⟨_, rfl⟩
   have HD := Aside0.mk (drop_rdL l i h)
   rw [hp] at h0 h1 HD
   rw [Int.toNat_natCast] at h0
   clear hp h2
   by_cases hf : p.length < 3
   ·have HE := Aside0.mk (show anyShort l = true by rw [HQ.out, HD.out]; simp [anyShort, hf])
    have hd : decide (p.length < 3) = true := decide_eq_true hf
    go_wp2_with (first
     | (go_at_call 36; (with_reducible refine (ringlen_calls A0 p.length c0 _).mono ?_); rintro e w1 ⟨rfl, hb1⟩; have HB1 := Aside0.mk (below_step HB.out hb1); clear hb1; rw [hd])
     | fail)
    go_ret
    exact ⟨_, rfl, by rw [HE.out]; exact decide_eq_true (Int.natCast_nonneg _), HB1.out⟩
   ·have HE := Aside0.mk (show anyShort l = anyShort (l.drop (i + 1)) by rw [HQ.out, HD.out]; simp [anyShort, hf])
    have hd : decide (p.length < 3) = false := decide_eq_false hf
    go_wp2_with (first
     | (go_at_call 36; (with_reducible refine (ringlen_calls A0 p.length c0 _).mono ?_); rintro e w1 ⟨rfl, hb1⟩; have HB1 := Aside0.mk (below_step HB.out hb1); clear hb1; rw [hd])
     | fail)
    go_roundw
    case rel => exact ⟨i + 1, by push_cast; rfl, by omega, HE, HB1⟩
    case measure => simp; omega
  ·have HE := Aside0.mk (show anyShort l = false by rw [HQ.out, List.drop_eq_nil_of_le (by omega)]; rfl)
   go_wp2
   go_ret
   exact ⟨-1, rfl, by rw [HE.out]; rfl, HB.out⟩
theorem containsL_calls (A : Option Addr) (c : Nat) (l : List (List S26)) (w : World) (hC : Kd.C (Kd.slice 26 k26) w A l.length l) :
    Calls Try.prog 35 #[.slice A l.length c, .func (.func 36) #[] #[]] w fun e w' => e = .returned (.bool (anyShort l)) ∧ Below w.heap.size w w' := by
 go_enter Try.func35, Try.ntmps35
 go_wp2_with (first
  | (go_at_call 50; (with_reducible refine (indexL_calls A c l _ hC).mono ?_); rintro e w1 ⟨i, rfl, hi, hb1⟩)
  | fail)
 go_ret
 exact ⟨by first | rw [hi] | (rw [← hi]; rfl), hb1⟩
theorem grow_calls (n : Nat) (hn : n ≤ 1000000) (w : World) : Calls Try.prog 42 #[.slice none 0 0, .int .i64 (n : Int)] w fun e w' => ∃ v, e = .returned v ∧ Kd.R k26 26 w' w.heap.size (fun _ => True) v [] ∧ Below w.heap.size w w' := by
 have hu23 := Try.underlying23
 have hu26 := Try.underlying26
 go_enter Try.func42, Try.ntmps42
 cases n with
 | zero =>
  go_wp2
  go_ret
  exact ⟨_, rfl, Kd.R_nil _ _ _ _ _, Below.refl _ _⟩
 | succ n =>
  go_wp2_with (first
   | (at_builtin; refine Kd.R_append_zeros k26 (w0 := w) w.heap.size rfl (.tmp 20) (.tmp 21) 23 3 26 (.agg #[(.int .i64 0), (.int .i64 0)]) 16 rfl Try.underlying23 Try.underlying3 info26 rfl (by decide) (by omega) (.slice none 0 0) [] ⟨0, 0⟩ ((n + 1 : Nat) : Int) (fun _ => True) rfl rfl (k26_mkM _ _ _ _) (fun _ _ => trivial) (Kd.R_nil _ _ _ _ _) (by omega) (Below.refl _ _) (Nat.le_refl _) (by simp; omega) ?_; intro v1 w1 HO hb1 _ _; obtain ⟨A1, c1, rfl⟩ := Kd.R_slice HO; have HO1 := Aside0.mk HO; have HB1 := Aside0.mk hb1; clear HO hb1)
   | fail)
  go_ret
  have h0 := Kd.R_take (m := 0) HO1.out (Nat.zero_le _)
  rw [List.take_zero] at h0
  exact ⟨_, rfl, h0, HB1.out⟩
theorem flatten_take_succ (l : List (List S26)) (i : Nat) (h : i < l.length) : (l.take (i + 1)).flatten = (l.take i).flatten ++ rd_L2 l i := by
 rw [List.take_succ_eq_append_getElem h, List.flatten_append]
 simp [rd_L2, List.getD_eq_getElem?_getD, List.getElem?_eq_getElem h]
theorem flatten_take_le (l : List (List S26)) (i : Nat) : (l.take i).flatten.length ≤ l.flatten.length := by
 conv => rhs; rw [← List.take_append_drop i l, List.flatten_append, List.length_append]
 omega
theorem concat_calls (A : Option Addr) (c : Nat) (rs : List (List S26)) (w : World) (hC : Kd.C (Kd.slice 26 k26) w A rs.length rs) (hT : rs.flatten.length ≤ 1000000) (hL : rs.length ≤ 1000000) :
    Calls Try.prog 27 #[.slice A rs.length c] w fun e w' => ∃ v, e = .returned v ∧ Kd.R k26 26 w' w.heap.size (fun _ => True) v rs.flatten ∧ Below w.heap.size w w' := by
 have hu23 := Try.underlying23
 have hu26 := Try.underlying26
 have hu31 := Try.underlying31
 have HC := Aside0.mk hC
 have HT := Aside0.mk hT
 clear hC hT
 go_enter Try.func27, Try.ntmps27
 go_wp2
 go_loopw [3, 11] (fun v3 v11 w' => ∃ i : Nat, v3 = .int .i64 ((rs.take i).flatten.length : Int) ∧ v11 = .int .i64 (i : Int) ∧ i ≤ rs.length ∧ Aside0 (Below w.heap.size w w')) (fun _ v11 _ => (match v11 with | .int _ i => rs.length - i.toNat | _ => 0))
 case atStart => exact ⟨0, by simp, rfl, Nat.zero_le _, ⟨Below.refl _ _⟩⟩
 case round =>
  obtain ⟨i, rfl, rfl, hi, HB⟩ := hrel
  by_cases h : i < rs.length
  ·obtain ⟨ad, A0, c0, rfl, h0, h1, h2⟩ := at_L2 (Kd.C_below HC.out HB.out) (i : Int) (by omega) (by omega)
   rw [Int.toNat_natCast] at h0
   have hsum : (rs.take (i + 1)).flatten.length = (rs.take i).flatten.length + (rd_L2 rs i).length := by rw [flatten_take_succ rs i h, List.length_append]
   have hle := flatten_take_le rs (i + 1)
   have hT := HT.out
   obtain ⟨s, hs⟩ : ∃ s, (rs.take i).flatten.length = s := ⟨_, rfl⟩
   obtain ⟨m, hm⟩ : ∃ m, (rd_L2 rs i).length = m := ⟨_, rfl⟩
   rw [hs, hm] at hsum
   rw [hs]
   rw [hm] at h0
   have hw : wrap64 ((s : Int) + (m : Int)) = (s : Int) + m := Go.IntWalk.wrap64_in _ (by omega)
   have hpos : ¬ ((s : Int) + m < 0) := by omega
   clear h2 hs hm h1
   have HS := Aside0.mk (And.intro hsum (And.intro hle hT))
   clear hsum hle hT
   go_wp2
   go_roundw
   case rel => exact ⟨i + 1, by rw [hw, HS.out.1]; push_cast; rfl, by push_cast; rfl, by omega, HB⟩
   case measure => simp; omega
  ·obtain rfl : i = rs.length := by omega
   have hT := HT.out
   have htl : (rs.take rs.length).flatten.length = rs.flatten.length := by rw [List.take_length]
   rw [htl]
   obtain ⟨N, hN⟩ : ∃ N, rs.flatten.length = N := ⟨_, rfl⟩
   rw [hN] at hT ⊢
   clear htl hN
   go_upto_region 9 with fail
   go_wp2_with (first
    | (go_at_call 42; (with_reducible refine (grow_calls N hT _).mono ?_); rintro e w1 ⟨v, rfl, HO, hb1⟩; have HO1 := Aside0.mk (Kd.R_lower HO HB.out.size); have HB1 := Aside0.mk (below_step HB.out hb1); clear HO hb1)
    | fail)
   go_loopw [6, 27] (fun v6 v27 w' => ∃ i : Nat, v27 = .int .i64 (i : Int) ∧ i ≤ rs.length ∧ Aside0 (Kd.R k26 26 w' w.heap.size (fun _ => True) v6 (rs.take i).flatten) ∧ Aside0 (Below w.heap.size w w')) (fun _ v27 _ => (match v27 with | .int _ i => rs.length - i.toNat | _ => 0))
   case atStart => exact ⟨0, rfl, Nat.zero_le _, HO1, HB1⟩
   case round =>
    obtain ⟨i, rfl, hi, HOi, HBi⟩ := hrel
    by_cases h : i < rs.length
    ·obtain ⟨ad, A0, c0, rfl, h0, h1, h2⟩ := at_L2 (Kd.C_below HC.out HBi.out) (i : Int) (by omega) (by omega)
     rw [Int.toNat_natCast] at h0
     have hsum := flatten_take_succ rs i h
     have hle := flatten_take_le rs (i + 1)
     have hlen : (rs.take (i + 1)).flatten.length = (rs.take i).flatten.length + (rd_L2 rs i).length := by rw [hsum, List.length_append]
     have hT := HT.out
     obtain ⟨ys, hys⟩ : ∃ ys, rd_L2 rs i = ys := ⟨_, rfl⟩
     obtain ⟨xs, hxs⟩ : ∃ xs, (rs.take i).flatten = xs := ⟨_, rfl⟩
     rw [hys] at h0 h2 hsum hlen
     rw [hxs] at hsum hlen HOi
     have HS := Aside0.mk (And.intro hsum (And.intro (show (xs.length + ys.length) * 16 ≤ 140737488355328 by omega) h2))
     clear hsum hle hlen hT h1 h2 hys hxs
     obtain ⟨w0, rfl⟩ : ∃ w0 : World, w0 = wr := ⟨_, rfl⟩
     go_wp2_with (first
      | (at_builtin; refine Kd.R_append_rows k26 (Rr := k26.K w0) (w0 := w) w.heap.size rfl (.tmp 31) (.tmp 32) 23 26 (.agg #[(.int .i64 0), (.int .i64 0)]) 16 rfl Try.underlying23 info26 rfl (by decide) (by omega) _ xs ys A0 ys.length c0 (fun _ => True) (fun _ => False) rfl rfl HOi.out HS.out.2.2 (fun x cs hx => by obtain rfl := k26_open hx; exact k26_mkM _ _ _ _) (fun _ h => h.elim) (fun _ _ => trivial) HBi.out HBi.out.size HS.out.2.1 ?_; intro v1 w1 HO1' hb1 _ _; have HO2 := Aside0.mk HO1'; have HB2 := Aside0.mk hb1; clear HO1' hb1)
      | fail)
     go_roundw
     case rel => exact ⟨i + 1, by push_cast; rfl, by omega, ⟨by rw [HS.out.1]; exact HO2.out⟩, HB2⟩
     case measure => simp; omega
    ·obtain rfl : i = rs.length := by omega
     have hh := HOi.out
     rw [List.take_length] at hh
     have HO2 := Aside0.mk hh
     clear HOi hh
     go_wp2
     go_ret
     exact ⟨_, rfl, HO2.out, HBi.out⟩
end Go.Proofs.Ytjmkccabpnigiaa.P
