import Derived.Test.YtjmkccabpnigiaaQPolyQ
namespace Go.Proofs.Ytjmkccabpnigiaa.P
open Go.RowKit Go.Proofs.YtjmkccabpnigiaaW.PrintWords Go.Proofs.YtjmkccabpnigiaaW.PrintLast Go.Proofs.YtjmkccabpnigiaaW.PrintMore
attribute [local go_sem] max2_int min2_int max_two min_two max_three min_three max_four min_four
set_option linter.unusedVariables false
set_option linter.unusedSimpArgs false
def sqP : List S26 := [⟨0, 0⟩, ⟨2, 0⟩, ⟨2, 2⟩, ⟨0, 2⟩]
def bowP : List S26 := [⟨0, 0⟩, ⟨2, 2⟩, ⟨2, 0⟩, ⟨0, 2⟩]
theorem sq_valid : valid1P sqP = 0 := by kernel_rfl
theorem bow_valid : valid1P bowP = 10 := by kernel_rfl
theorem sq_twice : twiceP sqP = 8 := by kernel_rfl
theorem sq_0 : aroundP sqP 0 0 = (true, true) := by kernel_rfl
theorem sq_1 : aroundP sqP 0 1 = (true, true) := by kernel_rfl
theorem sq_2 : aroundP sqP 2 1 = (false, true) := by kernel_rfl
theorem sq_3 : aroundP sqP 1 2 = (false, true) := by kernel_rfl
theorem cL1 {w : World} {A : Option Addr} {c g t : Nat} {xs : List S26} (h : w.heap[g]? = some (.cells #[.slice A xs.length c] t (0, 0))) (hc : xs.length ≤ c) (hC : Kd.C k26 w A xs.length xs) : Kd.C (Kd.slice 26 k26) w (some ⟨g, 0, none⟩) 1 [xs] := by
 refine ⟨rfl, by omega, fun _ => ⟨_, rfl, ?_⟩⟩
 intro j p hj
 match j, hj with
 | 0, hj =>
  obtain rfl : xs = p := by simpa using hj
  refine ⟨[.slice A xs.length c], rfl, ⟨A, c, rfl, hc, hC⟩, ?_⟩
  intro i u hi
  match i, hi with
  | 0, hi =>
   simp at hi
   subst hi
   have ha : (⟨g, 0, none⟩ : Addr).add (0 * (Kd.slice 26 k26).sz + 0) = ⟨g, 0, none⟩ := by
    rw [Nat.zero_mul]
    rfl
   rw [ha]
   exact blk_cell h 0
  | i + 1, hi => simp at hi
 | j + 1, hj => simp at hj
theorem rect_calls (w : World) : Calls Try.prog 23 #[.int .i64 0, .int .i64 0, .int .i64 2, .int .i64 2] w fun e w' => ∃ A c, e = .returned (.agg #[.slice (some A) 1 c]) ∧ 1 ≤ c ∧ Kd.C (Kd.slice 26 k26) w' (some A) 1 [sqP] ∧ Below w.heap.size w w' := by
 refine (polygon_Rect.calls 0 0 2 2 [sqP] w (by kernel_rfl)).mono ?_
 rintro e w' ⟨v, rfl, hN, hb⟩
 obtain ⟨A, c, rfl, hc, hC⟩ := Kd.N_reads hN
 have hC1 : Kd.C (Kd.slice 26 k26) w' A 1 [sqP] := hC
 obtain ⟨ad, A0, c0, rfl, _, _, _⟩ := at_L2 hC1 0 (by omega) (by omega)
 exact ⟨ad, c, rfl, hc, hC1, hb⟩
theorem bow_C (w5 : World) : Kd.C (Kd.slice 26 k26) ((w5.alloc (.cells #[.int .i64 0, .int .i64 0, .int .i64 2, .int .i64 2, .int .i64 2, .int .i64 0, .int .i64 0, .int .i64 2] 26)).alloc (.cells #[.slice (some ⟨w5.heap.size, 0, none⟩) 4 4] 23)) (some ⟨w5.heap.size + 1, 0, none⟩) 1 [bowP] := by
 have h1 := blk_alloc (blk_new w5 (.cells #[.int .i64 0, .int .i64 0, .int .i64 2, .int .i64 2, .int .i64 2, .int .i64 0, .int .i64 0, .int .i64 2] 26)) (.cells #[.slice (some ⟨w5.heap.size, 0, none⟩) 4 4] 23)
 have h2 := blk_new (w5.alloc (.cells #[.int .i64 0, .int .i64 0, .int .i64 2, .int .i64 2, .int .i64 2, .int .i64 0, .int .i64 0, .int .i64 2] 26)) (.cells #[.slice (some ⟨w5.heap.size, 0, none⟩) 4 4] 23)
 rw [World.size_alloc] at h2
 exact cL1 (xs := bowP) (c := 4) h2 (by decide) (c26_four (a := ⟨0, 0⟩) (b := ⟨2, 2⟩) (c := ⟨2, 0⟩) (d := ⟨0, 2⟩) h1)
set_option maxRecDepth 100000 in
set_option maxHeartbeats 16000000 in
theorem lives_calls (w : World) : Calls Try.prog 10 #[] w fun e w' => e = .returned (.bool true) ∧ Below w.heap.size w w' := by
 have hu23 := Try.underlying23
 have hu26 := Try.underlying26
 have hu31 := Try.underlying31
 have hu33 := Try.underlying33
 have hu45 := Try.underlying45
 have hu56 := Try.underlying56
 have hu57 := Try.underlying57
 go_enter Try.func10, Try.ntmps10
 go_upto_region 3 with (first
  | (go_at_call 23; (with_reducible refine (rect_calls _).mono ?_); rintro e w1 ⟨A, c, rfl, hc, hC1, hb1⟩)
  | fail)
 have b1 := blk_alloc (blk_new w1 (.cells #[.slice (some A) 1 c] 33)) (.cells #[.int .i64 0, .int .i64 0, .int .i64 1, .int .i64 0, .int .i64 1, .int .i64 1, .int .i64 2, .int .i64 1, .int .i64 0, .int .i64 1, .int .i64 2, .int .i64 0] 56)
 have b2 := blk_new (w1.alloc (.cells #[.slice (some A) 1 c] 33)) (.cells #[.int .i64 0, .int .i64 0, .int .i64 1, .int .i64 0, .int .i64 1, .int .i64 1, .int .i64 2, .int .i64 1, .int .i64 0, .int .i64 1, .int .i64 2, .int .i64 0] 56)
 rw [World.size_alloc] at b2
 have hbb := below_alloc (below_alloc (Below.refl w1.heap.size w1) (.cells #[.slice (some A) 1 c] 33)) (.cells #[.int .i64 0, .int .i64 0, .int .i64 1, .int .i64 0, .int .i64 1, .int .i64 1, .int .i64 2, .int .i64 1, .int .i64 0, .int .i64 1, .int .i64 2, .int .i64 0] 56)
 have hC2 := Kd.C_below hC1 hbb
 have hb2 := below_step hb1 hbb
 obtain ⟨W2, hW2⟩ : ∃ W2, (w1.alloc (.cells #[.slice (some A) 1 c] 33)).alloc (.cells #[.int .i64 0, .int .i64 0, .int .i64 1, .int .i64 0, .int .i64 1, .int .i64 1, .int .i64 2, .int .i64 1, .int .i64 0, .int .i64 1, .int .i64 2, .int .i64 0] 56) = W2 := ⟨_, rfl⟩
 rw [hW2] at b1 b2 hC2 hb2
 rw [hW2]
 obtain ⟨gp, hgp⟩ : ∃ g, w1.heap.size = g := ⟨_, rfl⟩
 obtain ⟨gl, hgl⟩ : ∃ g, w1.heap.size + 1 = g := ⟨_, rfl⟩
 rw [hgp] at b1
 rw [hgl] at b2
 rw [hgl, hgp]
 obtain ⟨LI, hLI⟩ : ∃ F : World → Prop, F = fun W => W.heap[gp]? = some (.cells #[.slice (some A) 1 c] 33 (0, 0)) ∧ W.heap[gl]? = some (.cells #[.int .i64 0, .int .i64 0, .int .i64 1, .int .i64 0, .int .i64 1, .int .i64 1, .int .i64 2, .int .i64 1, .int .i64 0, .int .i64 1, .int .i64 2, .int .i64 0] 56 (0, 0)) ∧ Kd.C (Kd.slice 26 k26) W (some A) 1 [sqP] ∧ Below w.heap.size w W := ⟨_, rfl⟩
 have HK := Aside0.mk (show ∀ W W', LI W → Below W.heap.size W W' → LI W' by
  rw [hLI]
  rintro W W' ⟨h1, h2, h3, h4⟩ hb
  exact ⟨blk_below h1 hb, blk_below h2 hb, Kd.C_below h3 hb, below_step h4 hb⟩)
 have HL2 := Aside0.mk (show LI W2 by rw [hLI]; exact ⟨b1, b2, hC2, hb2⟩)
 have HOP := Aside0.mk hLI
 clear hLI b1 b2 hC2 hb2 hbb hC1 hb1 hW2 hgp hgl
 go_wp2
 go_loopw [0, 3] (fun v0 v w' => v0 = .bool false ∧ (∃ i : Int, v = .int .i64 i ∧ 0 ≤ i ∧ i ≤ 4) ∧ Aside0 (LI w')) (fun _ v _ => 4 - (intOf v).toNat)
 case atStart => exact ⟨rfl, ⟨0, rfl, by omega, by omega⟩, HL2⟩
 case round =>
  obtain ⟨rfl, ⟨i, rfl, hi0, hi5⟩, HI⟩ := hrel
  have hI := HI.out
  rw [HOP.out] at hI
  by_cases hi4 : i < 4
  ·have kp : wr.cell? ⟨gp, 0, none⟩ = some (.slice (some A) 1 c) := blk_cell hI.1 0
   have hL := hI.2.1
   have hC := hI.2.2.1
   obtain ⟨X, Y, z, q, kx, ky, kz, hz, hio, rx0, rx1, ry0, ry1⟩ : ∃ (X Y z : Int) (q : Bool), wr.cell? ((⟨gl, 0, none⟩ : Addr).add (i.toNat * 3)) = some (.int .i64 X) ∧ wr.cell? ⟨((⟨gl, 0, none⟩ : Addr).add (i.toNat * 3)).block, ((⟨gl, 0, none⟩ : Addr).add (i.toNat * 3)).off + 1, none⟩ = some (.int .i64 Y) ∧ wr.cell? ⟨gl, i.toNat * 3 + 2, none⟩ = some (.int .i64 z) ∧ (z == 1) = q ∧ aroundP sqP X Y = (q, true) ∧ -4294967296 ≤ X ∧ X ≤ 4294967296 ∧ -4294967296 ≤ Y ∧ Y ≤ 4294967296 := by
    rcases (show i = 0 ∨ i = 1 ∨ i = 2 ∨ i = 3 by omega) with rfl | rfl | rfl | rfl
    ·exact ⟨0, 0, 1, true, blk_cell hL 0, blk_cell hL 1, blk_cell hL 2, rfl, sq_0, by omega, by omega, by omega, by omega⟩
    ·exact ⟨0, 1, 1, true, blk_cell hL 3, blk_cell hL 4, blk_cell hL 5, rfl, sq_1, by omega, by omega, by omega, by omega⟩
    ·exact ⟨2, 1, 0, false, blk_cell hL 6, blk_cell hL 7, blk_cell hL 8, rfl, sq_2, by omega, by omega, by omega, by omega⟩
    ·exact ⟨1, 2, 0, false, blk_cell hL 9, blk_cell hL 10, blk_cell hL 11, rfl, sq_3, by omega, by omega, by omega, by omega⟩
   have hT : sqP.length ≤ 1000000 := by decide
   have hv := sq_valid
   clear hL
   clear hI
   go_wp2
   refine region_sure (by kernel_rfl) (by kernel_rfl) (fun base => base[1]? = some (.pointer (some ⟨gp, 0, none⟩)) ∧ base[2]? = some (.slice (some ⟨gl, 0, none⟩) 4 4) ∧ base[3]? = some (.int .i64 i)) [21, 22, 23, 24, 25, 26, 27, 28, 29, 30, 31, 32, 33, 34, 20, 35, 36, 4, 5] [(fun _ v => v = .agg #[.slice (some A) 1 c]), (fun _ v => v = .slice (some ⟨gl, 0, none⟩) 4 4), (fun _ v => v = .int .i64 i), (fun _ v => v = .pointer (some ((⟨gl, 0, none⟩ : Addr).add (i.toNat * 3)))), (fun _ v => v = .pointer (some ((⟨gl, 0, none⟩ : Addr).add (i.toNat * 3)))), (fun _ v => v = .int .i64 X), (fun w v => FI w v X), (fun _ v => v = .slice (some ⟨gl, 0, none⟩) 4 4), (fun _ v => v = .int .i64 i), (fun _ v => v = .pointer (some ((⟨gl, 0, none⟩ : Addr).add (i.toNat * 3)))), (fun _ v => v = .pointer (some ⟨((⟨gl, 0, none⟩ : Addr).add (i.toNat * 3)).block, ((⟨gl, 0, none⟩ : Addr).add (i.toNat * 3)).off + 1, none⟩)), (fun _ v => v = .int .i64 Y), (fun w v => FI w v Y), (fun _ v => v = .tuple #[.bool q, .int .i64 0]), (fun _ v => v = .tuple #[.bool q, .int .i64 0]), (fun _ v => v = .bool q), (fun _ v => v = .int .i64 0), (fun _ v => v = .bool q), (fun _ v => v = .int .i64 0)] ?hB rfl (by decide) (by kernel_rfl) ?hstep ?hdone
   case hstep =>
    refine ⟨⟨mono_eq _, lv6_s0 rfl rfl rfl (by decide) (fun _ h => h.1) kp⟩, ?_⟩
    refine ⟨⟨mono_eq _, lv6_s1 rfl rfl rfl (by decide) (fun _ h => h.2.1)⟩, ?_⟩
    refine ⟨⟨mono_eq _, lv6_s2 rfl rfl rfl (by decide) (fun _ h => h.2.2)⟩, ?_⟩
    refine ⟨⟨mono_eq _, lv6_s3 rfl rfl rfl (by decide) rfl rfl (by decide) rfl rfl hi0 hi4⟩, ?_⟩
    refine ⟨⟨mono_eq _, lv6_s4 rfl rfl rfl (by decide) rfl rfl⟩, ?_⟩
    refine ⟨⟨mono_eq _, lv6_s5 rfl rfl rfl (by decide) rfl rfl kx⟩, ?_⟩
    refine ⟨⟨(fun _ _ _ hk h => FI.below h hk), lv6_s6 rfl rfl rfl (by decide) rfl rfl rx0 rx1⟩, ?_⟩
    refine ⟨⟨mono_eq _, lv6_s7 rfl rfl rfl (by decide) (fun _ h => h.2.1)⟩, ?_⟩
    refine ⟨⟨mono_eq _, lv6_s8 rfl rfl rfl (by decide) (fun _ h => h.2.2)⟩, ?_⟩
    refine ⟨⟨mono_eq _, lv6_s9 rfl rfl rfl (by decide) rfl rfl (by decide) rfl rfl hi0 hi4⟩, ?_⟩
    refine ⟨⟨mono_eq _, lv6_s10 rfl rfl rfl (by decide) rfl rfl⟩, ?_⟩
    refine ⟨⟨mono_eq _, lv6_s11 rfl rfl rfl (by decide) rfl rfl ky⟩, ?_⟩
    refine ⟨⟨(fun _ _ _ hk h => FI.below h hk), lv6_s12 rfl rfl rfl (by decide) rfl rfl ry0 ry1⟩, ?_⟩
    refine ⟨⟨mono_eq _, lv6_s13 (q := q) (q2 := true) rfl rfl rfl (by decide) rfl rfl (by decide) rfl rfl (by decide) rfl rfl hC hc hT hv rx0 rx1 ry0 ry1 hio⟩, ?_⟩
    refine ⟨⟨mono_eq _, lv6_s14 rfl rfl rfl (by decide) rfl rfl⟩, ?_⟩
    refine ⟨⟨mono_eq _, lv6_s15 rfl rfl rfl (by decide) rfl rfl⟩, ?_⟩
    refine ⟨⟨mono_eq _, lv6_s16 rfl rfl rfl (by decide) rfl rfl⟩, ?_⟩
    refine ⟨⟨mono_eq _, lv6_s17 rfl rfl rfl (by decide) rfl rfl⟩, ?_⟩
    refine ⟨⟨mono_eq _, lv6_s18 rfl rfl rfl (by decide) rfl rfl⟩, ?_⟩
    exact trivial
   case hB => exact ⟨rfl, rfl, rfl⟩
   case hdone =>
    intro vs W6 hv6 hb6
    obtain ⟨v0, vs1, rfl, rfl, hv61⟩ := hv6.cons
    obtain ⟨v1, vs2, rfl, rfl, hv62⟩ := hv61.cons
    obtain ⟨v2, vs3, rfl, rfl, hv63⟩ := hv62.cons
    obtain ⟨v3, vs4, rfl, rfl, hv64⟩ := hv63.cons
    obtain ⟨v4, vs5, rfl, rfl, hv65⟩ := hv64.cons
    obtain ⟨v5, vs6, rfl, rfl, hv66⟩ := hv65.cons
    obtain ⟨v6, vs7, rfl, q6, hv67⟩ := hv66.cons
    obtain ⟨v7, vs8, rfl, rfl, hv68⟩ := hv67.cons
    obtain ⟨v8, vs9, rfl, rfl, hv69⟩ := hv68.cons
    obtain ⟨v9, vs10, rfl, rfl, hv610⟩ := hv69.cons
    obtain ⟨v10, vs11, rfl, rfl, hv611⟩ := hv610.cons
    obtain ⟨v11, vs12, rfl, rfl, hv612⟩ := hv611.cons
    obtain ⟨v12, vs13, rfl, q12, hv613⟩ := hv612.cons
    obtain ⟨v13, vs14, rfl, rfl, hv614⟩ := hv613.cons
    obtain ⟨v14, vs15, rfl, rfl, hv615⟩ := hv614.cons
    obtain ⟨v15, vs16, rfl, rfl, hv616⟩ := hv615.cons
    obtain ⟨v16, vs17, rfl, rfl, hv617⟩ := hv616.cons
    obtain ⟨v17, vs18, rfl, rfl, hv618⟩ := hv617.cons
    obtain ⟨v18, vs19, rfl, rfl, hv619⟩ := hv618.cons
    obtain rfl := hv619.nil
    simp only [laid, overlay, List.zipWith_cons_cons, List.zipWith_nil_left, List.zipWith_nil_right, List.foldl_cons, List.foldl_nil, List.setIfInBounds_toArray, List.set_cons_zero, List.set_cons_succ]
    have HI6 := Aside0.mk (HK.out _ _ HI.out hb6)
    have mp := pw_cell_below hb6 kp
    have mx := pw_cell_below hb6 kx
    have my := pw_cell_below hb6 ky
    have mz := pw_cell_below hb6 kz
    have mC := Kd.C_below hC hb6
    clear hb6 kp kx ky kz hC q6 q12
    have kp := mp
    have kx := mx
    have ky := my
    have kz := mz
    have hC := mC
    clear mp mx my mz mC
    go_wp2
    refine region_sure (by kernel_rfl) (by kernel_rfl) (fun base => base[1]? = some (.pointer (some ⟨gp, 0, none⟩)) ∧ base[2]? = some (.slice (some ⟨gl, 0, none⟩) 4 4) ∧ base[3]? = some (.int .i64 i)) [38, 39, 40, 41, 42, 43, 44, 45, 46, 47, 48, 49, 50, 51, 37, 52, 53, 6, 7] [(fun _ v => v = .agg #[.slice (some A) 1 c]), (fun _ v => v = .slice (some ⟨gl, 0, none⟩) 4 4), (fun _ v => v = .int .i64 i), (fun _ v => v = .pointer (some ((⟨gl, 0, none⟩ : Addr).add (i.toNat * 3)))), (fun _ v => v = .pointer (some ((⟨gl, 0, none⟩ : Addr).add (i.toNat * 3)))), (fun _ v => v = .int .i64 X), (fun w v => FI w v X), (fun _ v => v = .slice (some ⟨gl, 0, none⟩) 4 4), (fun _ v => v = .int .i64 i), (fun _ v => v = .pointer (some ((⟨gl, 0, none⟩ : Addr).add (i.toNat * 3)))), (fun _ v => v = .pointer (some ⟨((⟨gl, 0, none⟩ : Addr).add (i.toNat * 3)).block, ((⟨gl, 0, none⟩ : Addr).add (i.toNat * 3)).off + 1, none⟩)), (fun _ v => v = .int .i64 Y), (fun w v => FI w v Y), (fun _ v => v = .tuple #[.int .i64 (if true then 0 else if false then 1 else -1), .int .i64 0]), (fun _ v => v = .tuple #[.int .i64 (if true then 0 else if false then 1 else -1), .int .i64 0]), (fun _ v => v = .int .i64 (if true then 0 else if false then 1 else -1)), (fun _ v => v = .int .i64 0), (fun _ v => v = .int .i64 (if true then 0 else if false then 1 else -1)), (fun _ v => v = .int .i64 0)] ?hB rfl (by decide) (by kernel_rfl) ?hstep ?hdone
    case hstep =>
     refine ⟨⟨mono_eq _, lv7_s0 rfl rfl rfl (by decide) (fun _ h => h.1) kp⟩, ?_⟩
     refine ⟨⟨mono_eq _, lv7_s1 rfl rfl rfl (by decide) (fun _ h => h.2.1)⟩, ?_⟩
     refine ⟨⟨mono_eq _, lv7_s2 rfl rfl rfl (by decide) (fun _ h => h.2.2)⟩, ?_⟩
     refine ⟨⟨mono_eq _, lv7_s3 rfl rfl rfl (by decide) rfl rfl (by decide) rfl rfl hi0 hi4⟩, ?_⟩
     refine ⟨⟨mono_eq _, lv7_s4 rfl rfl rfl (by decide) rfl rfl⟩, ?_⟩
     refine ⟨⟨mono_eq _, lv7_s5 rfl rfl rfl (by decide) rfl rfl kx⟩, ?_⟩
     refine ⟨⟨(fun _ _ _ hk h => FI.below h hk), lv7_s6 rfl rfl rfl (by decide) rfl rfl rx0 rx1⟩, ?_⟩
     refine ⟨⟨mono_eq _, lv7_s7 rfl rfl rfl (by decide) (fun _ h => h.2.1)⟩, ?_⟩
     refine ⟨⟨mono_eq _, lv7_s8 rfl rfl rfl (by decide) (fun _ h => h.2.2)⟩, ?_⟩
     refine ⟨⟨mono_eq _, lv7_s9 rfl rfl rfl (by decide) rfl rfl (by decide) rfl rfl hi0 hi4⟩, ?_⟩
     refine ⟨⟨mono_eq _, lv7_s10 rfl rfl rfl (by decide) rfl rfl⟩, ?_⟩
     refine ⟨⟨mono_eq _, lv7_s11 rfl rfl rfl (by decide) rfl rfl ky⟩, ?_⟩
     refine ⟨⟨(fun _ _ _ hk h => FI.below h hk), lv7_s12 rfl rfl rfl (by decide) rfl rfl ry0 ry1⟩, ?_⟩
     refine ⟨⟨mono_eq _, lv7_s13 (q := q) (q2 := true) rfl rfl rfl (by decide) rfl rfl (by decide) rfl rfl (by decide) rfl rfl hC hc hT hv rx0 rx1 ry0 ry1 hio⟩, ?_⟩
     refine ⟨⟨mono_eq _, lv7_s14 rfl rfl rfl (by decide) rfl rfl⟩, ?_⟩
     refine ⟨⟨mono_eq _, lv7_s15 rfl rfl rfl (by decide) rfl rfl⟩, ?_⟩
     refine ⟨⟨mono_eq _, lv7_s16 rfl rfl rfl (by decide) rfl rfl⟩, ?_⟩
     refine ⟨⟨mono_eq _, lv7_s17 rfl rfl rfl (by decide) rfl rfl⟩, ?_⟩
     refine ⟨⟨mono_eq _, lv7_s18 rfl rfl rfl (by decide) rfl rfl⟩, ?_⟩
     exact trivial
    case hB => exact ⟨rfl, rfl, rfl⟩
    case hdone =>
     intro vs W7 hv7 hb7
     obtain ⟨v0, vs1, rfl, rfl, hv71⟩ := hv7.cons
     obtain ⟨v1, vs2, rfl, rfl, hv72⟩ := hv71.cons
     obtain ⟨v2, vs3, rfl, rfl, hv73⟩ := hv72.cons
     obtain ⟨v3, vs4, rfl, rfl, hv74⟩ := hv73.cons
     obtain ⟨v4, vs5, rfl, rfl, hv75⟩ := hv74.cons
     obtain ⟨v5, vs6, rfl, rfl, hv76⟩ := hv75.cons
     obtain ⟨v6, vs7, rfl, q6, hv77⟩ := hv76.cons
     obtain ⟨v7, vs8, rfl, rfl, hv78⟩ := hv77.cons
     obtain ⟨v8, vs9, rfl, rfl, hv79⟩ := hv78.cons
     obtain ⟨v9, vs10, rfl, rfl, hv710⟩ := hv79.cons
     obtain ⟨v10, vs11, rfl, rfl, hv711⟩ := hv710.cons
     obtain ⟨v11, vs12, rfl, rfl, hv712⟩ := hv711.cons
     obtain ⟨v12, vs13, rfl, q12, hv713⟩ := hv712.cons
     obtain ⟨v13, vs14, rfl, rfl, hv714⟩ := hv713.cons
     obtain ⟨v14, vs15, rfl, rfl, hv715⟩ := hv714.cons
     obtain ⟨v15, vs16, rfl, rfl, hv716⟩ := hv715.cons
     obtain ⟨v16, vs17, rfl, rfl, hv717⟩ := hv716.cons
     obtain ⟨v17, vs18, rfl, rfl, hv718⟩ := hv717.cons
     obtain ⟨v18, vs19, rfl, rfl, hv719⟩ := hv718.cons
     obtain rfl := hv719.nil
     simp only [laid, overlay, List.zipWith_cons_cons, List.zipWith_nil_left, List.zipWith_nil_right, List.foldl_cons, List.foldl_nil, List.setIfInBounds_toArray, List.set_cons_zero, List.set_cons_succ]
     have HI7 := Aside0.mk (HK.out _ _ HI6.out hb7)
     have mz := pw_cell_below hb7 kz
     clear hb7 kp kx ky kz hC q6 q12
     go_wp2
     go_roundw
     case rel => exact ⟨rfl, ⟨i + 1, by first | rfl | rw [Go.IntWalk.wrap64_in _ (by omega)], by omega, by omega⟩, HI7⟩
     case measure => simp [intOf]; omega
  ·obtain rfl : i = 4 := by omega
   have kp : wr.cell? ⟨gp, 0, none⟩ = some (.slice (some A) 1 c) := blk_cell hI.1 0
   have hC := Aside0.mk hI.2.2.1
   have hBi := Aside0.mk hI.2.2.2
   have hT : sqP.length ≤ 1000000 := by decide
   clear hI
   go_upto_region 10 with fail
   go_wp2_with (first
    | (go_at_call 13; (with_reducible refine (area1_calls (some A) c sqP _ hC.out hc hT sq_valid 8 sq_twice (by omega) (by omega)).mono ?_); rintro e w5 ⟨rfl, hb5⟩; have HB5 := Aside0.mk (below_step hBi.out hb5); clear hb5)
    | (go_at_call 25; (with_reducible refine (valid1_calls (some ⟨w5.heap.size + 1, 0, none⟩) 1 bowP _ (bow_C w5) (by omega) (by decide)).mono ?_); rintro e w6 ⟨rfl, hb6⟩; rw [bow_valid]; have HB6 := Aside0.mk (below_step (below_alloc (below_alloc HB5.out _) _) hb6); clear hb6)
    | fail)
   go_ret
   exact ⟨rfl, HB6.out⟩
end Go.Proofs.Ytjmkccabpnigiaa.P
