import Derived.Test.YtjmkccabpnigiaaQGivenZc
namespace Go.Proofs.Ytjmkccabpnigiaa.P
open Go.RowKit Go.Proofs.YtjmkccabpnigiaaW.PrintWords Go.Proofs.YtjmkccabpnigiaaW.PrintLast Go.Proofs.YtjmkccabpnigiaaW.PrintMore
attribute [local go_sem] max2_int min2_int max_two min_two max_three min_three max_four min_four
set_option linter.unusedVariables false
set_option linter.unusedSimpArgs false
open Go.Proofs.YtjmkccabpnigiaaW.PrintLast
set_option maxHeartbeats 8000000 in
set_option maxRecDepth 100000 in
theorem fmul_calls (u v : Value) (x y : Int) (w0 : World) (hu : FI w0 u x) (hv : FI w0 v y) (hfx : Fit x) (hfy : Fit y) (hf : Fit (x * y)) :
    Calls Try.prog 66 #[u, v] w0 fun e w' => ∃ r, e = .returned (.tuple #[r, .int .i64 0]) ∧ FI w' r (x * y) ∧ Below w0.heap.size w0 w' := by
 have hu43 := Try.underlying43
 have hu45 := Try.underlying45
 obtain ⟨s, A, n, c, s', A', n', c', rfl, HU⟩ := hu.parts
 obtain ⟨t, B, m, d, t', B', m', d', rfl, HV⟩ := hv.parts
 have HFA := Aside0.mk (fi_mk HU.out)
 have HFB := Aside0.mk (fi_mk HV.out)
 have HF1 := Aside0.mk (show Fit 1 from Fit.small (by decide) (by decide))
 clear hu hv
 have HF := Aside0.mk (show Fit x ∧ Fit y ∧ Fit (x * y) ∧ Fit (1 * 1) from ⟨hfx, hfy, hf, Fit.small (by decide) (by decide)⟩)
 clear hfx hfy hf
 go_enter Try.func66, Try.ntmps66
 go_upto_region 1 with fail
 have hfr := frb_new w0 #[.bool s, .slice A n c, .bool s', .slice A' n' c'] #[.bool t, .slice B m d, .bool t', .slice B' m' d']
 obtain ⟨W, hW⟩ : ∃ W, ((w0.alloc (.cells #[.bool s, .slice A n c, .bool s', .slice A' n' c'] 45)).alloc (.cells #[.bool t, .slice B m d, .bool t', .slice B' m' d'] 45)).alloc (.cells #[.bool false, .slice none 0 0, .bool false, .slice none 0 0] 45) = W := ⟨_, rfl⟩
 rw [hW] at hfr ⊢
 have HB := Aside0.mk hfr
 clear hfr hW
 go_cut [6, 7] (fun s6 s7 wx => ∃ g6 g7 : Nat, s6 = .pointer (some ⟨g6, 0, none⟩) ∧ s7 = .pointer (some ⟨g7, 0, none⟩) ∧ Aside0 (Bx wx g6 1 ∧ Bx wx g7 1 ∧ FrB w0 wx #[.bool s, .slice A n c, .bool s', .slice A' n' c'] #[.bool t, .slice B m d, .bool t', .slice B' m' d']))
 case first =>
  have HBW := Aside0.mk HB.out.2.2.2
  have c0 := Aside0.mk (show W.cell? ⟨w0.heap.size, 0, none⟩ = some (.bool s) from blk_cell HB.out.1 0)
  have c1 := Aside0.mk (show W.cell? ⟨w0.heap.size, 1, none⟩ = some (.slice A n c) from blk_cell HB.out.1 1)
  have c2 := Aside0.mk (show W.cell? ⟨w0.heap.size, 2, none⟩ = some (.bool s') from blk_cell HB.out.1 2)
  have c3 := Aside0.mk (show W.cell? ⟨w0.heap.size, 3, none⟩ = some (.slice A' n' c') from blk_cell HB.out.1 3)
  have c4 := Aside0.mk (show W.cell? ⟨w0.heap.size + 1, 0, none⟩ = some (.bool t) from blk_cell HB.out.2.1 0)
  have c5 := Aside0.mk (show W.cell? ⟨w0.heap.size + 1, 1, none⟩ = some (.slice B m d) from blk_cell HB.out.2.1 1)
  have c6 := Aside0.mk (show W.cell? ⟨w0.heap.size + 1, 2, none⟩ = some (.bool t') from blk_cell HB.out.2.1 2)
  have c7 := Aside0.mk (show W.cell? ⟨w0.heap.size + 1, 3, none⟩ = some (.slice B' m' d') from blk_cell HB.out.2.1 3)
  refine region_at (by kernel_rfl) (by kernel_rfl) (InvM1 x y w0 W s A n c s' A' n' c' t B m d t' B' m' d') ?h0 ?hstep ?hdone
  case h0 =>
   exact ⟨false, false, false, false, false, false, false, false, false, false, false, false, false, false, false, none, 0, 0, false, none, 0, 0, false, none, 0, 0, false, none, 0, 0, 0, 0, ⟨rfl, Tm.start _ _ rfl, rfl, rfl, rfl, below_drew1 (Below.refl _ _), (fun h => by cases h), (fun h => by cases h), (fun h => by cases h), (fun h => by cases h), (fun h => by cases h), (fun h => by cases h), (fun h => by cases h), (fun h => by cases h), (fun h => by cases h)⟩⟩
  case hstep =>
   intro Q base i o l a w ho hI hb hn
   have hi : i < 14 := by
    have h1 := (Array.getElem?_eq_some_iff.1 ho).1
    simpa using h1
   rcases (by omega : i = 0 ∨ i = 1 ∨ i = 2 ∨ i = 3 ∨ i = 4 ∨ i = 5 ∨ i = 6 ∨ i = 7 ∨ i = 8 ∨ i = 9 ∨ i = 10 ∨ i = 11 ∨ i = 12 ∨ i = 13) with rfl | rfl | rfl | rfl | rfl | rfl | rfl | rfl | rfl | rfl | rfl | rfl | rfl | rfl
   ·simp only [List.getElem?_toArray, List.getElem?_cons_succ, List.getElem?_cons_zero, Option.some.injEq] at ho
    subst ho
    exact InvM1_s0 ⟨HU, HV, HFA, HFB, HF1, HF, HBW, c0, c1, c2, c3, c4, c5, c6, c7⟩ rfl rfl rfl hI hb
   ·simp only [List.getElem?_toArray, List.getElem?_cons_succ, List.getElem?_cons_zero, Option.some.injEq] at ho
    subst ho
    exact InvM1_s1 ⟨HU, HV, HFA, HFB, HF1, HF, HBW, c0, c1, c2, c3, c4, c5, c6, c7⟩ rfl rfl rfl hI hb (hn 0 (by decide))
   ·simp only [List.getElem?_toArray, List.getElem?_cons_succ, List.getElem?_cons_zero, Option.some.injEq] at ho
    subst ho
    exact InvM1_s2 ⟨HU, HV, HFA, HFB, HF1, HF, HBW, c0, c1, c2, c3, c4, c5, c6, c7⟩ rfl rfl rfl hI hb
   ·simp only [List.getElem?_toArray, List.getElem?_cons_succ, List.getElem?_cons_zero, Option.some.injEq] at ho
    subst ho
    exact InvM1_s3 ⟨HU, HV, HFA, HFB, HF1, HF, HBW, c0, c1, c2, c3, c4, c5, c6, c7⟩ rfl rfl rfl hI hb (hn 2 (by decide))
   ·simp only [List.getElem?_toArray, List.getElem?_cons_succ, List.getElem?_cons_zero, Option.some.injEq] at ho
    subst ho
    exact InvM1_s4 ⟨HU, HV, HFA, HFB, HF1, HF, HBW, c0, c1, c2, c3, c4, c5, c6, c7⟩ rfl rfl rfl hI hb (hn 1 (by decide)) (hn 3 (by decide))
   ·simp only [List.getElem?_toArray, List.getElem?_cons_succ, List.getElem?_cons_zero, Option.some.injEq] at ho
    subst ho
    exact InvM1_s5 ⟨HU, HV, HFA, HFB, HF1, HF, HBW, c0, c1, c2, c3, c4, c5, c6, c7⟩ rfl rfl rfl hI hb
   ·simp only [List.getElem?_toArray, List.getElem?_cons_succ, List.getElem?_cons_zero, Option.some.injEq] at ho
    subst ho
    exact InvM1_s6 ⟨HU, HV, HFA, HFB, HF1, HF, HBW, c0, c1, c2, c3, c4, c5, c6, c7⟩ rfl rfl rfl hI hb (hn 5 (by decide))
   ·simp only [List.getElem?_toArray, List.getElem?_cons_succ, List.getElem?_cons_zero, Option.some.injEq] at ho
    subst ho
    exact InvM1_s7 ⟨HU, HV, HFA, HFB, HF1, HF, HBW, c0, c1, c2, c3, c4, c5, c6, c7⟩ rfl rfl rfl hI hb
   ·simp only [List.getElem?_toArray, List.getElem?_cons_succ, List.getElem?_cons_zero, Option.some.injEq] at ho
    subst ho
    exact InvM1_s8 ⟨HU, HV, HFA, HFB, HF1, HF, HBW, c0, c1, c2, c3, c4, c5, c6, c7⟩ rfl rfl rfl hI hb (hn 7 (by decide))
   ·simp only [List.getElem?_toArray, List.getElem?_cons_succ, List.getElem?_cons_zero, Option.some.injEq] at ho
    subst ho
    exact InvM1_s9 ⟨HU, HV, HFA, HFB, HF1, HF, HBW, c0, c1, c2, c3, c4, c5, c6, c7⟩ rfl rfl rfl hI hb (hn 6 (by decide)) (hn 8 (by decide))
   ·simp only [List.getElem?_toArray, List.getElem?_cons_succ, List.getElem?_cons_zero, Option.some.injEq] at ho
    subst ho
    exact InvM1_s10 ⟨HU, HV, HFA, HFB, HF1, HF, HBW, c0, c1, c2, c3, c4, c5, c6, c7⟩ rfl rfl rfl hI hb
   ·simp only [List.getElem?_toArray, List.getElem?_cons_succ, List.getElem?_cons_zero, Option.some.injEq] at ho
    subst ho
    exact InvM1_s11 ⟨HU, HV, HFA, HFB, HF1, HF, HBW, c0, c1, c2, c3, c4, c5, c6, c7⟩ rfl rfl rfl hI hb
   ·simp only [List.getElem?_toArray, List.getElem?_cons_succ, List.getElem?_cons_zero, Option.some.injEq] at ho
    subst ho
    exact InvM1_s12 ⟨HU, HV, HFA, HFB, HF1, HF, HBW, c0, c1, c2, c3, c4, c5, c6, c7⟩ rfl rfl rfl hI hb (hn 4 (by decide)) (hn 10 (by decide))
   ·simp only [List.getElem?_toArray, List.getElem?_cons_succ, List.getElem?_cons_zero, Option.some.injEq] at ho
    subst ho
    exact InvM1_s13 ⟨HU, HV, HFA, HFB, HF1, HF, HBW, c0, c1, c2, c3, c4, c5, c6, c7⟩ rfl rfl rfl hI hb (hn 9 (by decide)) (hn 11 (by decide))
  case hdone =>
   have HB0 := HB
   clear HB
   intro a w hI
   obtain ⟨b0, b1, b2, b3, b4, b5, b6, b7, b8, b9, b10, b11, b12, b13, sv3, Av3, nv3, cv3, sv4, Av4, nv4, cv4, sv8, Av8, nv8, cv8, sv9, Av9, nv9, cv9, p10, p11, ⟨hl, HT, HS, E2, E3, HB, FW3, FW4, FW8, FW9, FB10, FB11, FC12, FC13, FD10_11⟩⟩ := hI
   obtain ⟨rfl, rfl, rfl, rfl, rfl, rfl, rfl, rfl, rfl, rfl, rfl, rfl, rfl, rfl⟩ : true = b0 ∧ true = b1 ∧ true = b2 ∧ true = b3 ∧ true = b4 ∧ true = b5 ∧ true = b6 ∧ true = b7 ∧ true = b8 ∧ true = b9 ∧ true = b10 ∧ true = b11 ∧ true = b12 ∧ true = b13 := by simpa [List.replicate] using hl
   obtain rfl := HT.fin (by rfl) (show ([12, 13, 14, 15, 16, 17, 18, 19, 20, 21, 6, 7] : List Nat).Nodup from by decide) (by simp)
   simp only [overlay, List.foldl_cons, List.foldl_nil, List.setIfInBounds_toArray, List.set_cons_zero, List.set_cons_succ]
   have HE := Aside0.mk (show Bx w p10 1 ∧ Bx w p11 1 ∧ FrB w0 w #[.bool s, .slice A n c, .bool s', .slice A' n' c'] #[.bool t, .slice B m d, .bool t', .slice B' m' d'] from ⟨⟨_, _, _, _, (FB10 rfl).2, FW4 rfl⟩, ⟨_, _, _, _, (FB11 rfl).2, FW9 rfl⟩, HB0.out.below HB⟩)
   clear FW3 FW4 FW8 FW9 FB10 FB11 FC12 FC13 FD10_11 HT hl
   go_wp2
   go_meet
   exact ⟨p10, p11, rfl, rfl, HE⟩
 case rest =>
  obtain ⟨g6, g7, rfl, rfl, HC⟩ := hcut
  clear HB
  obtain ⟨W, rfl⟩ : ∃ W : World, W = wc := ⟨_, rfl⟩
  have HB := Aside0.mk HC.out.2.2
  have HG6 := Aside0.mk HC.out.1
  have HG7 := Aside0.mk HC.out.2.1
  clear HC
  go_upto_region 2 with fail
  go_cut [8, 9] (fun s8 s9 wx => ∃ g8 : Nat, s8 = .pointer (some ⟨g8, 0, none⟩) ∧ s9 = .int .i64 0 ∧ Aside0 (Bx wx g8 (x * y) ∧ Bx wx g6 1 ∧ Bx wx g7 1 ∧ FrB w0 wx #[.bool s, .slice A n c, .bool s', .slice A' n' c'] #[.bool t, .slice B m d, .bool t', .slice B' m' d']))
  case first =>
   have HBW := Aside0.mk HB.out.2.2.2
   have c0 := Aside0.mk (show W.cell? ⟨w0.heap.size, 0, none⟩ = some (.bool s) from blk_cell HB.out.1 0)
   have c1 := Aside0.mk (show W.cell? ⟨w0.heap.size, 1, none⟩ = some (.slice A n c) from blk_cell HB.out.1 1)
   have c2 := Aside0.mk (show W.cell? ⟨w0.heap.size, 2, none⟩ = some (.bool s') from blk_cell HB.out.1 2)
   have c3 := Aside0.mk (show W.cell? ⟨w0.heap.size, 3, none⟩ = some (.slice A' n' c') from blk_cell HB.out.1 3)
   have c4 := Aside0.mk (show W.cell? ⟨w0.heap.size + 1, 0, none⟩ = some (.bool t) from blk_cell HB.out.2.1 0)
   have c5 := Aside0.mk (show W.cell? ⟨w0.heap.size + 1, 1, none⟩ = some (.slice B m d) from blk_cell HB.out.2.1 1)
   have c6 := Aside0.mk (show W.cell? ⟨w0.heap.size + 1, 2, none⟩ = some (.bool t') from blk_cell HB.out.2.1 2)
   have c7 := Aside0.mk (show W.cell? ⟨w0.heap.size + 1, 3, none⟩ = some (.slice B' m' d') from blk_cell HB.out.2.1 3)
   obtain ⟨sg, Ag, ng, cg, HG⟩ := HG6.out.parts
   have c8 := Aside0.mk (show W.cell? ⟨g6, 0, none⟩ = some (.bool sg) from blk_cell HG.out.1 0)
   have c9 := Aside0.mk (show W.cell? ⟨g6, 1, none⟩ = some (.slice Ag ng cg) from blk_cell HG.out.1 1)
   obtain ⟨sh, Ah, nh, ch, HH⟩ := HG7.out.parts
   have c10 := Aside0.mk (show W.cell? ⟨g7, 0, none⟩ = some (.bool sh) from blk_cell HH.out.1 0)
   have c11 := Aside0.mk (show W.cell? ⟨g7, 1, none⟩ = some (.slice Ah nh ch) from blk_cell HH.out.1 1)
   refine region_at (by kernel_rfl) (by kernel_rfl) (InvM2 x y w0 W s A n c s' A' n' c' t B m d t' B' m' d' g6 sg Ag ng cg g7 sh Ah nh ch) ?h0 ?hstep ?hdone
   case h0 =>
    exact ⟨false, false, false, false, false, false, false, false, false, false, false, false, false, false, false, false, false, none, 0, 0, false, none, 0, 0, 0, false, none, 0, 0, undef, undef, 0, ⟨rfl, Tm.start _ _ rfl, rfl, rfl, rfl, rfl, rfl, below_drew1 (Below.refl _ _), (fun h => by cases h), (fun h => by cases h), (fun h => by cases h), (fun h => by cases h), (fun h => by cases h), (fun h => by cases h), (fun h => by cases h), (fun h => by cases h), (fun h => by cases h), (fun h => by cases h), (fun h => by cases h), (fun h => by cases h)⟩⟩
   case hstep =>
    intro Q base i o l a w ho hI hb hn
    have hi : i < 16 := by
     have h1 := (Array.getElem?_eq_some_iff.1 ho).1
     simpa using h1
    rcases (by omega : i = 0 ∨ i = 1 ∨ i = 2 ∨ i = 3 ∨ i = 4 ∨ i = 5 ∨ i = 6 ∨ i = 7 ∨ i = 8 ∨ i = 9 ∨ i = 10 ∨ i = 11 ∨ i = 12 ∨ i = 13 ∨ i = 14 ∨ i = 15) with rfl | rfl | rfl | rfl | rfl | rfl | rfl | rfl | rfl | rfl | rfl | rfl | rfl | rfl | rfl | rfl
    ·simp only [List.getElem?_toArray, List.getElem?_cons_succ, List.getElem?_cons_zero, Option.some.injEq] at ho
     subst ho
     exact InvM2_s0 ⟨HU, HV, HFA, HFB, HF1, HF, HBW, c0, c1, c2, c3, c4, c5, c6, c7, HG, c8, c9, HH, c10, c11⟩ rfl rfl rfl hI hb
    ·simp only [List.getElem?_toArray, List.getElem?_cons_succ, List.getElem?_cons_zero, Option.some.injEq] at ho
     subst ho
     exact InvM2_s1 ⟨HU, HV, HFA, HFB, HF1, HF, HBW, c0, c1, c2, c3, c4, c5, c6, c7, HG, c8, c9, HH, c10, c11⟩ rfl rfl rfl hI hb (hn 0 (by decide))
    ·simp only [List.getElem?_toArray, List.getElem?_cons_succ, List.getElem?_cons_zero, Option.some.injEq] at ho
     subst ho
     exact InvM2_s2 ⟨HU, HV, HFA, HFB, HF1, HF, HBW, c0, c1, c2, c3, c4, c5, c6, c7, HG, c8, c9, HH, c10, c11⟩ rfl rfl rfl hI hb
    ·simp only [List.getElem?_toArray, List.getElem?_cons_succ, List.getElem?_cons_zero, Option.some.injEq] at ho
     subst ho
     exact InvM2_s3 ⟨HU, HV, HFA, HFB, HF1, HF, HBW, c0, c1, c2, c3, c4, c5, c6, c7, HG, c8, c9, HH, c10, c11⟩ rfl rfl rfl hI hb (hn 1 (by decide)) (hn 2 (by decide))
    ·simp only [List.getElem?_toArray, List.getElem?_cons_succ, List.getElem?_cons_zero, Option.some.injEq] at ho
     subst ho
     exact InvM2_s4 ⟨HU, HV, HFA, HFB, HF1, HF, HBW, c0, c1, c2, c3, c4, c5, c6, c7, HG, c8, c9, HH, c10, c11⟩ rfl rfl rfl hI hb
    ·simp only [List.getElem?_toArray, List.getElem?_cons_succ, List.getElem?_cons_zero, Option.some.injEq] at ho
     subst ho
     exact InvM2_s5 ⟨HU, HV, HFA, HFB, HF1, HF, HBW, c0, c1, c2, c3, c4, c5, c6, c7, HG, c8, c9, HH, c10, c11⟩ rfl rfl rfl hI hb (hn 4 (by decide))
    ·simp only [List.getElem?_toArray, List.getElem?_cons_succ, List.getElem?_cons_zero, Option.some.injEq] at ho
     subst ho
     exact InvM2_s6 ⟨HU, HV, HFA, HFB, HF1, HF, HBW, c0, c1, c2, c3, c4, c5, c6, c7, HG, c8, c9, HH, c10, c11⟩ rfl rfl rfl hI hb
    ·simp only [List.getElem?_toArray, List.getElem?_cons_succ, List.getElem?_cons_zero, Option.some.injEq] at ho
     subst ho
     exact InvM2_s7 ⟨HU, HV, HFA, HFB, HF1, HF, HBW, c0, c1, c2, c3, c4, c5, c6, c7, HG, c8, c9, HH, c10, c11⟩ rfl rfl rfl hI hb (hn 5 (by decide)) (hn 6 (by decide))
    ·simp only [List.getElem?_toArray, List.getElem?_cons_succ, List.getElem?_cons_zero, Option.some.injEq] at ho
     subst ho
     exact InvM2_s8 ⟨HU, HV, HFA, HFB, HF1, HF, HBW, c0, c1, c2, c3, c4, c5, c6, c7, HG, c8, c9, HH, c10, c11⟩ rfl rfl rfl hI hb (hn 3 (by decide)) (hn 7 (by decide))
    ·simp only [List.getElem?_toArray, List.getElem?_cons_succ, List.getElem?_cons_zero, Option.some.injEq] at ho
     subst ho
     exact InvM2_s9 ⟨HU, HV, HFA, HFB, HF1, HF, HBW, c0, c1, c2, c3, c4, c5, c6, c7, HG, c8, c9, HH, c10, c11⟩ rfl rfl rfl hI hb (hn 8 (by decide))
    ·simp only [List.getElem?_toArray, List.getElem?_cons_succ, List.getElem?_cons_zero, Option.some.injEq] at ho
     subst ho
     exact InvM2_s10 ⟨HU, HV, HFA, HFB, HF1, HF, HBW, c0, c1, c2, c3, c4, c5, c6, c7, HG, c8, c9, HH, c10, c11⟩ rfl rfl rfl hI hb (hn 9 (by decide))
    ·simp only [List.getElem?_toArray, List.getElem?_cons_succ, List.getElem?_cons_zero, Option.some.injEq] at ho
     subst ho
     exact InvM2_s11 ⟨HU, HV, HFA, HFB, HF1, HF, HBW, c0, c1, c2, c3, c4, c5, c6, c7, HG, c8, c9, HH, c10, c11⟩ rfl rfl rfl hI hb (hn 10 (by decide))
    ·simp only [List.getElem?_toArray, List.getElem?_cons_succ, List.getElem?_cons_zero, Option.some.injEq] at ho
     subst ho
     exact InvM2_s12 ⟨HU, HV, HFA, HFB, HF1, HF, HBW, c0, c1, c2, c3, c4, c5, c6, c7, HG, c8, c9, HH, c10, c11⟩ rfl rfl rfl hI hb (hn 10 (by decide))
    ·simp only [List.getElem?_toArray, List.getElem?_cons_succ, List.getElem?_cons_zero, Option.some.injEq] at ho
     subst ho
     exact InvM2_s13 ⟨HU, HV, HFA, HFB, HF1, HF, HBW, c0, c1, c2, c3, c4, c5, c6, c7, HG, c8, c9, HH, c10, c11⟩ rfl rfl rfl hI hb
    ·simp only [List.getElem?_toArray, List.getElem?_cons_succ, List.getElem?_cons_zero, Option.some.injEq] at ho
     subst ho
     exact InvM2_s14 ⟨HU, HV, HFA, HFB, HF1, HF, HBW, c0, c1, c2, c3, c4, c5, c6, c7, HG, c8, c9, HH, c10, c11⟩ rfl rfl rfl hI hb (hn 11 (by decide)) (hn 13 (by decide))
    ·simp only [List.getElem?_toArray, List.getElem?_cons_succ, List.getElem?_cons_zero, Option.some.injEq] at ho
     subst ho
     exact InvM2_s15 ⟨HU, HV, HFA, HFB, HF1, HF, HBW, c0, c1, c2, c3, c4, c5, c6, c7, HG, c8, c9, HH, c10, c11⟩ rfl rfl rfl hI hb (hn 12 (by decide))
   case hdone =>
    have HB0 := HB
    clear HB
    intro a w hI
    obtain ⟨b0, b1, b2, b3, b4, b5, b6, b7, b8, b9, b10, b11, b12, b13, b14, b15, sv3, Av3, nv3, cv3, sv7, Av7, nv7, cv7, p8, sv9, Av9, nv9, cv9, v10, v11, p13, ⟨hl, HT, HS, E2, E3, E6, E7, HB, FW3, FW7, FS8, FW9, FV10, FV11, FB13, FC8, FC10, FC11, FC14, FD8_13⟩⟩ := hI
    obtain ⟨rfl, rfl, rfl, rfl, rfl, rfl, rfl, rfl, rfl, rfl, rfl, rfl, rfl, rfl, rfl, rfl⟩ : true = b0 ∧ true = b1 ∧ true = b2 ∧ true = b3 ∧ true = b4 ∧ true = b5 ∧ true = b6 ∧ true = b7 ∧ true = b8 ∧ true = b9 ∧ true = b10 ∧ true = b11 ∧ true = b12 ∧ true = b13 ∧ true = b14 ∧ true = b15 := by simpa [List.replicate] using hl
    obtain rfl := HT.fin (by rfl) (show ([23, 24, 25, 26, 27, 28, 29, 30, 31, 32, 22, 33, 34, 8, 9] : List Nat).Nodup from by decide) (by simp)
    simp only [overlay, List.foldl_cons, List.foldl_nil, List.setIfInBounds_toArray, List.set_cons_zero, List.set_cons_succ]
    have HE := Aside0.mk (show Bx w p13 (x * y) ∧ Bx w g6 1 ∧ Bx w g7 1 ∧ FrB w0 w #[.bool s, .slice A n c, .bool s', .slice A' n' c'] #[.bool t, .slice B m d, .bool t', .slice B' m' d'] from ⟨⟨_, _, _, _, (FB13 rfl).2, FW9 rfl⟩, HG6.out.below HB, HG7.out.below HB, HB0.out.below HB⟩)
    clear FW3 FW7 FS8 FW9 FV10 FV11 FB13 FC8 FC10 FC11 FC14 FD8_13 HT hl
    go_wp2
    go_meet
    exact ⟨p13, rfl, rfl, HE⟩
  case rest =>
   obtain ⟨g8, rfl, rfl, HC⟩ := hcut
   clear HB HG6 HG7
   obtain ⟨W, rfl⟩ : ∃ W : World, W = wc := ⟨_, rfl⟩
   have HB := Aside0.mk HC.out.2.2.2
   have HG6 := Aside0.mk HC.out.2.1
   have HG7 := Aside0.mk HC.out.2.2.1
   have HG8 := Aside0.mk HC.out.1
   clear HC
   go_upto_region 3 with fail
   go_cut [10, 11] (fun s10 s11 wx => ∃ g10 : Nat, s10 = .pointer (some ⟨g10, 0, none⟩) ∧ s11 = .int .i64 0 ∧ Aside0 (Bx wx g10 1 ∧ Bx wx g8 (x * y) ∧ FrB w0 wx #[.bool s, .slice A n c, .bool s', .slice A' n' c'] #[.bool t, .slice B m d, .bool t', .slice B' m' d']))
   case first =>
    have HBW := Aside0.mk HB.out.2.2.2
    have c0 := Aside0.mk (show W.cell? ⟨w0.heap.size, 0, none⟩ = some (.bool s) from blk_cell HB.out.1 0)
    have c1 := Aside0.mk (show W.cell? ⟨w0.heap.size, 1, none⟩ = some (.slice A n c) from blk_cell HB.out.1 1)
    have c2 := Aside0.mk (show W.cell? ⟨w0.heap.size, 2, none⟩ = some (.bool s') from blk_cell HB.out.1 2)
    have c3 := Aside0.mk (show W.cell? ⟨w0.heap.size, 3, none⟩ = some (.slice A' n' c') from blk_cell HB.out.1 3)
    have c4 := Aside0.mk (show W.cell? ⟨w0.heap.size + 1, 0, none⟩ = some (.bool t) from blk_cell HB.out.2.1 0)
    have c5 := Aside0.mk (show W.cell? ⟨w0.heap.size + 1, 1, none⟩ = some (.slice B m d) from blk_cell HB.out.2.1 1)
    have c6 := Aside0.mk (show W.cell? ⟨w0.heap.size + 1, 2, none⟩ = some (.bool t') from blk_cell HB.out.2.1 2)
    have c7 := Aside0.mk (show W.cell? ⟨w0.heap.size + 1, 3, none⟩ = some (.slice B' m' d') from blk_cell HB.out.2.1 3)
    obtain ⟨sg, Ag, ng, cg, HG⟩ := HG6.out.parts
    have c8 := Aside0.mk (show W.cell? ⟨g6, 0, none⟩ = some (.bool sg) from blk_cell HG.out.1 0)
    have c9 := Aside0.mk (show W.cell? ⟨g6, 1, none⟩ = some (.slice Ag ng cg) from blk_cell HG.out.1 1)
    obtain ⟨sh, Ah, nh, ch, HH⟩ := HG7.out.parts
    have c10 := Aside0.mk (show W.cell? ⟨g7, 0, none⟩ = some (.bool sh) from blk_cell HH.out.1 0)
    have c11 := Aside0.mk (show W.cell? ⟨g7, 1, none⟩ = some (.slice Ah nh ch) from blk_cell HH.out.1 1)
    refine region_at (by kernel_rfl) (by kernel_rfl) (InvM3 x y w0 W s A n c s' A' n' c' t B m d t' B' m' d' g6 sg Ag ng cg g7 sh Ah nh ch) ?h0 ?hstep ?hdone
    case h0 =>
     exact ⟨false, false, false, false, false, false, false, false, false, false, false, false, false, false, false, false, false, none, 0, 0, false, none, 0, 0, false, none, 0, 0, false, none, 0, 0, 0, false, none, 0, 0, undef, undef, 0, ⟨rfl, Tm.start _ _ rfl, rfl, rfl, rfl, rfl, rfl, below_drew1 (Below.refl _ _), (fun h => by cases h), (fun h => by cases h), (fun h => by cases h), (fun h => by cases h), (fun h => by cases h), (fun h => by cases h), (fun h => by cases h), (fun h => by cases h), (fun h => by cases h), (fun h => by cases h), (fun h => by cases h), (fun h => by cases h), (fun h => by cases h), (fun h => by cases h)⟩⟩
    case hstep =>
     intro Q base i o l a w ho hI hb hn
     have hi : i < 16 := by
      have h1 := (Array.getElem?_eq_some_iff.1 ho).1
      simpa using h1
     rcases (by omega : i = 0 ∨ i = 1 ∨ i = 2 ∨ i = 3 ∨ i = 4 ∨ i = 5 ∨ i = 6 ∨ i = 7 ∨ i = 8 ∨ i = 9 ∨ i = 10 ∨ i = 11 ∨ i = 12 ∨ i = 13 ∨ i = 14 ∨ i = 15) with rfl | rfl | rfl | rfl | rfl | rfl | rfl | rfl | rfl | rfl | rfl | rfl | rfl | rfl | rfl | rfl
     ·simp only [List.getElem?_toArray, List.getElem?_cons_succ, List.getElem?_cons_zero, Option.some.injEq] at ho
      subst ho
      exact InvM3_s0 ⟨HU, HV, HFA, HFB, HF1, HF, HBW, c0, c1, c2, c3, c4, c5, c6, c7, HG, c8, c9, HH, c10, c11⟩ rfl rfl rfl hI hb
     ·simp only [List.getElem?_toArray, List.getElem?_cons_succ, List.getElem?_cons_zero, Option.some.injEq] at ho
      subst ho
      exact InvM3_s1 ⟨HU, HV, HFA, HFB, HF1, HF, HBW, c0, c1, c2, c3, c4, c5, c6, c7, HG, c8, c9, HH, c10, c11⟩ rfl rfl rfl hI hb (hn 0 (by decide))
     ·simp only [List.getElem?_toArray, List.getElem?_cons_succ, List.getElem?_cons_zero, Option.some.injEq] at ho
      subst ho
      exact InvM3_s2 ⟨HU, HV, HFA, HFB, HF1, HF, HBW, c0, c1, c2, c3, c4, c5, c6, c7, HG, c8, c9, HH, c10, c11⟩ rfl rfl rfl hI hb
     ·simp only [List.getElem?_toArray, List.getElem?_cons_succ, List.getElem?_cons_zero, Option.some.injEq] at ho
      subst ho
      exact InvM3_s3 ⟨HU, HV, HFA, HFB, HF1, HF, HBW, c0, c1, c2, c3, c4, c5, c6, c7, HG, c8, c9, HH, c10, c11⟩ rfl rfl rfl hI hb (hn 1 (by decide)) (hn 2 (by decide))
     ·simp only [List.getElem?_toArray, List.getElem?_cons_succ, List.getElem?_cons_zero, Option.some.injEq] at ho
      subst ho
      exact InvM3_s4 ⟨HU, HV, HFA, HFB, HF1, HF, HBW, c0, c1, c2, c3, c4, c5, c6, c7, HG, c8, c9, HH, c10, c11⟩ rfl rfl rfl hI hb
     ·simp only [List.getElem?_toArray, List.getElem?_cons_succ, List.getElem?_cons_zero, Option.some.injEq] at ho
      subst ho
      exact InvM3_s5 ⟨HU, HV, HFA, HFB, HF1, HF, HBW, c0, c1, c2, c3, c4, c5, c6, c7, HG, c8, c9, HH, c10, c11⟩ rfl rfl rfl hI hb (hn 4 (by decide))
     ·simp only [List.getElem?_toArray, List.getElem?_cons_succ, List.getElem?_cons_zero, Option.some.injEq] at ho
      subst ho
      exact InvM3_s6 ⟨HU, HV, HFA, HFB, HF1, HF, HBW, c0, c1, c2, c3, c4, c5, c6, c7, HG, c8, c9, HH, c10, c11⟩ rfl rfl rfl hI hb
     ·simp only [List.getElem?_toArray, List.getElem?_cons_succ, List.getElem?_cons_zero, Option.some.injEq] at ho
      subst ho
      exact InvM3_s7 ⟨HU, HV, HFA, HFB, HF1, HF, HBW, c0, c1, c2, c3, c4, c5, c6, c7, HG, c8, c9, HH, c10, c11⟩ rfl rfl rfl hI hb (hn 5 (by decide)) (hn 6 (by decide))
     ·simp only [List.getElem?_toArray, List.getElem?_cons_succ, List.getElem?_cons_zero, Option.some.injEq] at ho
      subst ho
      exact InvM3_s8 ⟨HU, HV, HFA, HFB, HF1, HF, HBW, c0, c1, c2, c3, c4, c5, c6, c7, HG, c8, c9, HH, c10, c11⟩ rfl rfl rfl hI hb (hn 3 (by decide)) (hn 7 (by decide))
     ·simp only [List.getElem?_toArray, List.getElem?_cons_succ, List.getElem?_cons_zero, Option.some.injEq] at ho
      subst ho
      exact InvM3_s9 ⟨HU, HV, HFA, HFB, HF1, HF, HBW, c0, c1, c2, c3, c4, c5, c6, c7, HG, c8, c9, HH, c10, c11⟩ rfl rfl rfl hI hb (hn 8 (by decide))
     ·simp only [List.getElem?_toArray, List.getElem?_cons_succ, List.getElem?_cons_zero, Option.some.injEq] at ho
      subst ho
      exact InvM3_s10 ⟨HU, HV, HFA, HFB, HF1, HF, HBW, c0, c1, c2, c3, c4, c5, c6, c7, HG, c8, c9, HH, c10, c11⟩ rfl rfl rfl hI hb (hn 9 (by decide))
     ·simp only [List.getElem?_toArray, List.getElem?_cons_succ, List.getElem?_cons_zero, Option.some.injEq] at ho
      subst ho
      exact InvM3_s11 ⟨HU, HV, HFA, HFB, HF1, HF, HBW, c0, c1, c2, c3, c4, c5, c6, c7, HG, c8, c9, HH, c10, c11⟩ rfl rfl rfl hI hb (hn 10 (by decide))
     ·simp only [List.getElem?_toArray, List.getElem?_cons_succ, List.getElem?_cons_zero, Option.some.injEq] at ho
      subst ho
      exact InvM3_s12 ⟨HU, HV, HFA, HFB, HF1, HF, HBW, c0, c1, c2, c3, c4, c5, c6, c7, HG, c8, c9, HH, c10, c11⟩ rfl rfl rfl hI hb (hn 10 (by decide))
     ·simp only [List.getElem?_toArray, List.getElem?_cons_succ, List.getElem?_cons_zero, Option.some.injEq] at ho
      subst ho
      exact InvM3_s13 ⟨HU, HV, HFA, HFB, HF1, HF, HBW, c0, c1, c2, c3, c4, c5, c6, c7, HG, c8, c9, HH, c10, c11⟩ rfl rfl rfl hI hb
     ·simp only [List.getElem?_toArray, List.getElem?_cons_succ, List.getElem?_cons_zero, Option.some.injEq] at ho
      subst ho
      exact InvM3_s14 ⟨HU, HV, HFA, HFB, HF1, HF, HBW, c0, c1, c2, c3, c4, c5, c6, c7, HG, c8, c9, HH, c10, c11⟩ rfl rfl rfl hI hb (hn 11 (by decide)) (hn 13 (by decide))
     ·simp only [List.getElem?_toArray, List.getElem?_cons_succ, List.getElem?_cons_zero, Option.some.injEq] at ho
      subst ho
      exact InvM3_s15 ⟨HU, HV, HFA, HFB, HF1, HF, HBW, c0, c1, c2, c3, c4, c5, c6, c7, HG, c8, c9, HH, c10, c11⟩ rfl rfl rfl hI hb (hn 12 (by decide))
    case hdone =>
     have HB0 := HB
     clear HB
     intro a w hI
     obtain ⟨b0, b1, b2, b3, b4, b5, b6, b7, b8, b9, b10, b11, b12, b13, b14, b15, sv1, Av1, nv1, cv1, sv3, Av3, nv3, cv3, sv5, Av5, nv5, cv5, sv7, Av7, nv7, cv7, p8, sv9, Av9, nv9, cv9, v10, v11, p13, ⟨hl, HT, HS, E2, E3, E6, E7, HB, FW1, FW3, FW5, FW7, FS8, FW9, FV10, FV11, FB13, FC8, FC10, FC11, FC14, FD8_13⟩⟩ := hI
     obtain ⟨rfl, rfl, rfl, rfl, rfl, rfl, rfl, rfl, rfl, rfl, rfl, rfl, rfl, rfl, rfl, rfl⟩ : true = b0 ∧ true = b1 ∧ true = b2 ∧ true = b3 ∧ true = b4 ∧ true = b5 ∧ true = b6 ∧ true = b7 ∧ true = b8 ∧ true = b9 ∧ true = b10 ∧ true = b11 ∧ true = b12 ∧ true = b13 ∧ true = b14 ∧ true = b15 := by simpa [List.replicate] using hl
     obtain rfl := HT.fin (by rfl) (show ([36, 37, 38, 39, 40, 41, 42, 43, 44, 45, 35, 46, 47, 10, 11] : List Nat).Nodup from by decide) (by simp)
     simp only [overlay, List.foldl_cons, List.foldl_nil, List.setIfInBounds_toArray, List.set_cons_zero, List.set_cons_succ]
     have HE := Aside0.mk (show Bx w p13 1 ∧ Bx w g8 (x * y) ∧ FrB w0 w #[.bool s, .slice A n c, .bool s', .slice A' n' c'] #[.bool t, .slice B m d, .bool t', .slice B' m' d'] from ⟨⟨_, _, _, _, (FB13 rfl).2, FW9 rfl⟩, HG8.out.below HB, HB0.out.below HB⟩)
     clear FW1 FW3 FW5 FW7 FS8 FW9 FV10 FV11 FB13 FC8 FC10 FC11 FC14 FD8_13 HT hl
     go_wp2
     go_meet
     exact ⟨p13, rfl, rfl, HE⟩
   case rest =>
    obtain ⟨g10, rfl, rfl, HC⟩ := hcut
    clear HB HG6 HG7 HG8
    obtain ⟨W, rfl⟩ : ∃ W : World, W = wc := ⟨_, rfl⟩
    obtain ⟨s7, A7, n7, d7, H7⟩ := HC.out.2.1.parts
    obtain ⟨s9, A9, n9, d9, H9⟩ := HC.out.1.parts
    have k0 : W.cell? ⟨g8, 0, none⟩ = some (.bool s7) := blk_cell H7.out.1 0
    have k1 : W.cell? ⟨g8, 1, none⟩ = some (.slice A7 n7 d7) := blk_cell H7.out.1 1
    have k2 : W.cell? ⟨g10, 0, none⟩ = some (.bool s9) := blk_cell H9.out.1 0
    have k3 : W.cell? ⟨g10, 1, none⟩ = some (.slice A9 n9 d9) := blk_cell H9.out.1 1
    have B4 := Aside0.mk HC.out.2.2.2.2.1
    go_wp2_with (first
     | (go_at_call 61; (with_reducible refine (lowest_calls _ _ (x * y) _ H7.out.2 H9.out.2).mono ?_); rintro e w3 ⟨v3, rfl, hW3, hb3⟩; obtain ⟨s3, A3, n3, c3, s4, A4, n4, c4, rfl, HW3⟩ := hW3.parts; have HB3 := Aside0.mk (below_step HC.out.2.2.2.2.2 hb3); have B3 := Aside0.mk (blk_below B4.out hb3); have f0 := blk_frozen B3.out 0; have f1 := blk_frozen B3.out 1; have f2 := blk_frozen B3.out 2; have f3 := blk_frozen B3.out 3; have m0 : w3.cell? ⟨w0.heap.size + 1 + 1, 0, none⟩ = some (.bool false) := blk_cell B3.out 0; have m1 : w3.cell? ⟨w0.heap.size + 1 + 1, 1, none⟩ = some (.slice none 0 0) := blk_cell B3.out 1; have m2 : w3.cell? ⟨w0.heap.size + 1 + 1, 2, none⟩ = some (.bool false) := blk_cell B3.out 2; have m3 : w3.cell? ⟨w0.heap.size + 1 + 1, 3, none⟩ = some (.slice none 0 0) := blk_cell B3.out 3; clear hW3 hb3)
     | fail)
    have hend := fi_put B3.out HB3.out (by omega) HW3.out.1 HW3.out.2
    refine bodyPost_ret (results_ct5 rfl _ _ (w0.heap.size + 1 + 1) _ _ _ _ _ rfl rfl hend.2.2) rfl ?_
    exact ⟨_, rfl, hend.1, hend.2.1⟩
end Go.Proofs.Ytjmkccabpnigiaa.P
