import Derived.Test.YtjmkccabpnigiaaQGivenZb
namespace Go.Proofs.Ytjmkccabpnigiaa.P
open Go.RowKit Go.Proofs.YtjmkccabpnigiaaW.PrintWords Go.Proofs.YtjmkccabpnigiaaW.PrintLast Go.Proofs.YtjmkccabpnigiaaW.PrintMore
attribute [local go_sem] max2_int min2_int max_two min_two max_three min_three max_four min_four
set_option linter.unusedVariables false
set_option linter.unusedSimpArgs false
set_option maxHeartbeats 4000000
set_option maxRecDepth 100000
open Go.Proofs.YtjmkccabpnigiaaW.PrintLast
structure InvM1F (x y : Int) (w0 W : World) (s : Bool) (A : Option Addr) (n c : Nat) (s' : Bool) (A' : Option Addr) (n' c' : Nat) (t : Bool) (B : Option Addr) (m d : Nat) (t' : Bool) (B' : Option Addr) (m' d' : Nat) (b0 b1 b2 b3 b4 b5 b6 b7 b8 b9 b10 b11 b12 b13 : Bool) (sv3 : Bool) (Av3 : Option Addr) (nv3 cv3 : Nat) (sv4 : Bool) (Av4 : Option Addr) (nv4 cv4 : Nat) (sv8 : Bool) (Av8 : Option Addr) (nv8 cv8 : Nat) (sv9 : Bool) (Av9 : Option Addr) (nv9 cv9 : Nat) (p10 : Nat) (p11 : Nat) (base : Array Value) (l : List Bool) (a : Act) (w : World) : Prop where
 hl : l = [b0, b1, b2, b3, b4, b5, b6, b7, b8, b9, b10, b11, b12, b13]
 HT : Tm a base [(b0, 12, .pointer (some ⟨w0.heap.size, 0, none⟩)), (b1, 13, .agg #[.bool s, .slice A n c]), (b2, 14, .agg #[.bool t, .slice B m d, .bool t', .slice B' m' d']), (b3, 15, .agg #[.bool sv3, .slice Av3 nv3 cv3]), (b4, 16, .agg #[.bool sv4, .slice Av4 nv4 cv4]), (b5, 17, .pointer (some ⟨w0.heap.size + 1, 0, none⟩)), (b6, 18, .agg #[.bool t, .slice B m d]), (b7, 19, .agg #[.bool s, .slice A n c, .bool s', .slice A' n' c']), (b8, 20, .agg #[.bool sv8, .slice Av8 nv8 cv8]), (b9, 21, .agg #[.bool sv9, .slice Av9 nv9 cv9]), (b10, 6, .pointer (some ⟨p10, 0, none⟩)), (b11, 7, .pointer (some ⟨p11, 0, none⟩))]
 HS : base.size = 55
 E2 : base[2]? = some (.pointer (some ⟨w0.heap.size, 0, none⟩))
 E3 : base[3]? = some (.pointer (some ⟨w0.heap.size + 1, 0, none⟩))
 HB : Below W.heap.size W w
 FW3 : (b3 = true → WI w (.agg #[.bool sv3, .slice Av3 nv3 cv3]) (1))
 FW4 : (b4 = true → WI w (.agg #[.bool sv4, .slice Av4 nv4 cv4]) (1))
 FW8 : (b8 = true → WI w (.agg #[.bool sv8, .slice Av8 nv8 cv8]) (1))
 FW9 : (b9 = true → WI w (.agg #[.bool sv9, .slice Av9 nv9 cv9]) (1))
 FB10 : (b10 = true → W.heap.size ≤ p10 ∧ w.heap[p10]? = some (.cells (if b12 then #[.bool sv4, .slice Av4 nv4 cv4] else #[.bool false, .slice none 0 0]) 43 (0, 0)))
 FB11 : (b11 = true → W.heap.size ≤ p11 ∧ w.heap[p11]? = some (.cells (if b13 then #[.bool sv9, .slice Av9 nv9 cv9] else #[.bool false, .slice none 0 0]) 43 (0, 0)))
 FC12 : (b12 = true → b4 = true ∧ b10 = true)
 FC13 : (b13 = true → b9 = true ∧ b11 = true)
 FD10_11 : (b10 = true → b11 = true → p10 ≠ p11)
def InvM1 (x y : Int) (w0 W : World) (s : Bool) (A : Option Addr) (n c : Nat) (s' : Bool) (A' : Option Addr) (n' c' : Nat) (t : Bool) (B : Option Addr) (m d : Nat) (t' : Bool) (B' : Option Addr) (m' d' : Nat) (base : Array Value) (l : List Bool) (a : Act) (w : World) : Prop := ∃ (b0 b1 b2 b3 b4 b5 b6 b7 b8 b9 b10 b11 b12 b13 : Bool) (sv3 : Bool) (Av3 : Option Addr) (nv3 cv3 : Nat) (sv4 : Bool) (Av4 : Option Addr) (nv4 cv4 : Nat) (sv8 : Bool) (Av8 : Option Addr) (nv8 cv8 : Nat) (sv9 : Bool) (Av9 : Option Addr) (nv9 cv9 : Nat) (p10 : Nat) (p11 : Nat), InvM1F x y w0 W s A n c s' A' n' c' t B m d t' B' m' d' b0 b1 b2 b3 b4 b5 b6 b7 b8 b9 b10 b11 b12 b13 sv3 Av3 nv3 cv3 sv4 Av4 nv4 cv4 sv8 Av8 nv8 cv8 sv9 Av9 nv9 cv9 p10 p11 base l a w
structure InvM1H (x y : Int) (w0 W : World) (s : Bool) (A : Option Addr) (n c : Nat) (s' : Bool) (A' : Option Addr) (n' c' : Nat) (t : Bool) (B : Option Addr) (m d : Nat) (t' : Bool) (B' : Option Addr) (m' d' : Nat) : Prop where
 HU : Aside0 (WI w0 (.agg #[.bool s, .slice A n c]) x ∧ WI w0 (.agg #[.bool s', .slice A' n' c']) 0)
 HV : Aside0 (WI w0 (.agg #[.bool t, .slice B m d]) y ∧ WI w0 (.agg #[.bool t', .slice B' m' d']) 0)
 HFA : Aside0 (FI w0 (.agg #[.bool s, .slice A n c, .bool s', .slice A' n' c']) x)
 HFB : Aside0 (FI w0 (.agg #[.bool t, .slice B m d, .bool t', .slice B' m' d']) y)
 HF1 : Aside0 (Fit 1)
 HF : Aside0 (Fit x ∧ Fit y ∧ Fit (x * y) ∧ Fit (1 * 1))
 HBW : Aside0 (Below w0.heap.size w0 W)
 c0 : Aside0 (W.cell? ⟨w0.heap.size, 0, none⟩ = some (.bool s))
 c1 : Aside0 (W.cell? ⟨w0.heap.size, 1, none⟩ = some (.slice A n c))
 c2 : Aside0 (W.cell? ⟨w0.heap.size, 2, none⟩ = some (.bool s'))
 c3 : Aside0 (W.cell? ⟨w0.heap.size, 3, none⟩ = some (.slice A' n' c'))
 c4 : Aside0 (W.cell? ⟨w0.heap.size + 1, 0, none⟩ = some (.bool t))
 c5 : Aside0 (W.cell? ⟨w0.heap.size + 1, 1, none⟩ = some (.slice B m d))
 c6 : Aside0 (W.cell? ⟨w0.heap.size + 1, 2, none⟩ = some (.bool t'))
 c7 : Aside0 (W.cell? ⟨w0.heap.size + 1, 3, none⟩ = some (.slice B' m' d'))
variable {x y : Int} {w0 W : World} {s : Bool} {A : Option Addr} {n c : Nat} {s' : Bool} {A' : Option Addr} {n' c' : Nat} {t : Bool} {B : Option Addr} {m d : Nat} {t' : Bool} {B' : Option Addr} {m' d' : Nat} {Q : Exit → Act → World → Prop} {ops : Array Oper} {base : Array Value} {o : Oper} {l : List Bool} {a : Act} {w : World}
theorem InvM1_s0 (HH : InvM1H x y w0 W s A n c s' A' n' c' t B m d t' B' m' d') (hop : o.op = .fieldAddr 45 (.tmp 2) 0) (hd : o.dst = some 12) (hg : o.guard = none) (hI : InvM1 x y w0 W s A n c s' A' n' c' t B m d t' B' m' d' base l a w) (hb : l.getD 0 true = false) : InvStep (InvM1 x y w0 W s A n c s' A' n' c' t B m d t' B' m' d' base) 0 o ops Q l a w := by
 obtain ⟨HU, HV, HFA, HFB, HF1, HF, HBW, c0, c1, c2, c3, c4, c5, c6, c7⟩ := HH
 unfold InvStep
 have hu43 := Try.underlying43
 have hu45 := Try.underlying45
 obtain ⟨dst, op, ty, pos, after, guard⟩ := o
 simp only at hop hd hg
 subst hop hd hg
 obtain ⟨b0, b1, b2, b3, b4, b5, b6, b7, b8, b9, b10, b11, b12, b13, sv3, Av3, nv3, cv3, sv4, Av4, nv4, cv4, sv8, Av8, nv8, cv8, sv9, Av9, nv9, cv9, p10, p11, ⟨hl, HT, HS, E2, E3, HB, FW3, FW4, FW8, FW9, FB10, FB11, FC12, FC13, FD10_11⟩⟩ := hI
 subst hl
 obtain rfl : b0 = false := hb
 have e2 := HT.base_ 2 _ (by simp) E2
 go_simp
 exact ⟨true, b1, b2, b3, b4, b5, b6, b7, b8, b9, b10, b11, b12, b13, sv3, Av3, nv3, cv3, sv4, Av4, nv4, cv4, sv8, Av8, nv8, cv8, sv9, Av9, nv9, cv9, p10, p11, ⟨rfl, HT.put 0 12 _ rfl (show ([12, 13, 14, 15, 16, 17, 18, 19, 20, 21, 6, 7] : List Nat).Nodup from by decide) (by rw [HS]; decide), HS, E2, E3, HB, FW3, FW4, FW8, FW9, FB10, FB11, FC12, FC13, FD10_11⟩⟩
theorem InvM1_s1 (HH : InvM1H x y w0 W s A n c s' A' n' c' t B m d t' B' m' d') (hop : o.op = .load 43 (.tmp 12)) (hd : o.dst = some 13) (hg : o.guard = none) (hI : InvM1 x y w0 W s A n c s' A' n' c' t B m d t' B' m' d' base l a w) (hb : l.getD 1 true = false) (hn0 : l.getD 0 false = true) : InvStep (InvM1 x y w0 W s A n c s' A' n' c' t B m d t' B' m' d' base) 1 o ops Q l a w := by
 obtain ⟨HU, HV, HFA, HFB, HF1, HF, HBW, c0, c1, c2, c3, c4, c5, c6, c7⟩ := HH
 unfold InvStep
 have hu43 := Try.underlying43
 have hu45 := Try.underlying45
 obtain ⟨dst, op, ty, pos, after, guard⟩ := o
 simp only at hop hd hg
 subst hop hd hg
 obtain ⟨b0, b1, b2, b3, b4, b5, b6, b7, b8, b9, b10, b11, b12, b13, sv3, Av3, nv3, cv3, sv4, Av4, nv4, cv4, sv8, Av8, nv8, cv8, sv9, Av9, nv9, cv9, p10, p11, ⟨hl, HT, HS, E2, E3, HB, FW3, FW4, FW8, FW9, FB10, FB11, FC12, FC13, FD10_11⟩⟩ := hI
 subst hl
 obtain rfl : b1 = false := hb
 obtain rfl : b0 = true := hn0
 have e12 := HT.got 12 (.pointer (some ⟨w0.heap.size, 0, none⟩)) (by repeat (first | exact List.mem_cons_self .. | apply List.mem_cons_of_mem))
 have kc0 := pw_cell_below HB c0.out
 have kc1 := pw_cell_below HB c1.out
 go_simp
 exact ⟨true, true, b2, b3, b4, b5, b6, b7, b8, b9, b10, b11, b12, b13, sv3, Av3, nv3, cv3, sv4, Av4, nv4, cv4, sv8, Av8, nv8, cv8, sv9, Av9, nv9, cv9, p10, p11, ⟨rfl, HT.put 1 13 _ rfl (show ([12, 13, 14, 15, 16, 17, 18, 19, 20, 21, 6, 7] : List Nat).Nodup from by decide) (by rw [HS]; decide), HS, E2, E3, HB, FW3, FW4, FW8, FW9, FB10, FB11, FC12, FC13, FD10_11⟩⟩
theorem InvM1_s2 (HH : InvM1H x y w0 W s A n c s' A' n' c' t B m d t' B' m' d') (hop : o.op = .load 45 (.tmp 3)) (hd : o.dst = some 14) (hg : o.guard = none) (hI : InvM1 x y w0 W s A n c s' A' n' c' t B m d t' B' m' d' base l a w) (hb : l.getD 2 true = false) : InvStep (InvM1 x y w0 W s A n c s' A' n' c' t B m d t' B' m' d' base) 2 o ops Q l a w := by
 obtain ⟨HU, HV, HFA, HFB, HF1, HF, HBW, c0, c1, c2, c3, c4, c5, c6, c7⟩ := HH
 unfold InvStep
 have hu43 := Try.underlying43
 have hu45 := Try.underlying45
 obtain ⟨dst, op, ty, pos, after, guard⟩ := o
 simp only at hop hd hg
 subst hop hd hg
 obtain ⟨b0, b1, b2, b3, b4, b5, b6, b7, b8, b9, b10, b11, b12, b13, sv3, Av3, nv3, cv3, sv4, Av4, nv4, cv4, sv8, Av8, nv8, cv8, sv9, Av9, nv9, cv9, p10, p11, ⟨hl, HT, HS, E2, E3, HB, FW3, FW4, FW8, FW9, FB10, FB11, FC12, FC13, FD10_11⟩⟩ := hI
 subst hl
 obtain rfl : b2 = false := hb
 have e3 := HT.base_ 3 _ (by simp) E3
 have kc4 := pw_cell_below HB c4.out
 have kc5 := pw_cell_below HB c5.out
 have kc6 := pw_cell_below HB c6.out
 have kc7 := pw_cell_below HB c7.out
 go_simp
 exact ⟨b0, b1, true, b3, b4, b5, b6, b7, b8, b9, b10, b11, b12, b13, sv3, Av3, nv3, cv3, sv4, Av4, nv4, cv4, sv8, Av8, nv8, cv8, sv9, Av9, nv9, cv9, p10, p11, ⟨rfl, HT.put 2 14 _ rfl (show ([12, 13, 14, 15, 16, 17, 18, 19, 20, 21, 6, 7] : List Nat).Nodup from by decide) (by rw [HS]; decide), HS, E2, E3, HB, FW3, FW4, FW8, FW9, FB10, FB11, FC12, FC13, FD10_11⟩⟩
theorem InvM1_s3 (HH : InvM1H x y w0 W s A n c s' A' n' c' t B m d t' B' m' d') (hop : o.op = .call { callee := .value (.func 46), args := #[.tmp 14], argTypes := #[45] }) (hd : o.dst = some 15) (hg : o.guard = none) (hI : InvM1 x y w0 W s A n c s' A' n' c' t B m d t' B' m' d' base l a w) (hb : l.getD 3 true = false) (hn2 : l.getD 2 false = true) : InvStep (InvM1 x y w0 W s A n c s' A' n' c' t B m d t' B' m' d' base) 3 o ops Q l a w := by
 obtain ⟨HU, HV, HFA, HFB, HF1, HF, HBW, c0, c1, c2, c3, c4, c5, c6, c7⟩ := HH
 unfold InvStep
 have hu43 := Try.underlying43
 have hu45 := Try.underlying45
 obtain ⟨dst, op, ty, pos, after, guard⟩ := o
 simp only at hop hd hg
 subst hop hd hg
 obtain ⟨b0, b1, b2, b3, b4, b5, b6, b7, b8, b9, b10, b11, b12, b13, sv3, Av3, nv3, cv3, sv4, Av4, nv4, cv4, sv8, Av8, nv8, cv8, sv9, Av9, nv9, cv9, p10, p11, ⟨hl, HT, HS, E2, E3, HB, FW3, FW4, FW8, FW9, FB10, FB11, FC12, FC13, FD10_11⟩⟩ := hI
 subst hl
 obtain rfl : b3 = false := hb
 obtain rfl : b2 = true := hn2
 have e14 := HT.got 14 (.agg #[.bool t, .slice B m d, .bool t', .slice B' m' d']) (by repeat (first | exact List.mem_cons_self .. | apply List.mem_cons_of_mem))
 go_simp
 go_at_call 46
 refine (Den_calls _ y _ ((HFB.out.below HBW.out).below HB)).mono ?_
 rintro e w2 ⟨v2, rfl, hX, hb2⟩
 obtain ⟨sn, An, nn, cn, rfl, HX⟩ := hX.parts
 exact ⟨b0, b1, true, true, b4, b5, b6, b7, b8, b9, b10, b11, b12, b13, sn, An, nn, cn, sv4, Av4, nv4, cv4, sv8, Av8, nv8, cv8, sv9, Av9, nv9, cv9, p10, p11, ⟨rfl, HT.put 3 15 _ rfl (show ([12, 13, 14, 15, 16, 17, 18, 19, 20, 21, 6, 7] : List Nat).Nodup from by decide) (by rw [HS]; decide), HS, E2, E3, below_step HB hb2, (fun _ => HX.out), (fun h => (FW4 h).below hb2), (fun h => (FW8 h).below hb2), (fun h => (FW9 h).below hb2), (fun h => ⟨(FB10 h).1, blk_below (FB10 h).2 hb2⟩), (fun h => ⟨(FB11 h).1, blk_below (FB11 h).2 hb2⟩), FC12, FC13, FD10_11⟩⟩
theorem InvM1_s4 (HH : InvM1H x y w0 W s A n c s' A' n' c' t B m d t' B' m' d') (hop : o.op = .call { callee := .value (.func 60), args := #[.tmp 13, .tmp 15], argTypes := #[43, 43] }) (hd : o.dst = some 16) (hg : o.guard = none) (hI : InvM1 x y w0 W s A n c s' A' n' c' t B m d t' B' m' d' base l a w) (hb : l.getD 4 true = false) (hn1 : l.getD 1 false = true) (hn3 : l.getD 3 false = true) : InvStep (InvM1 x y w0 W s A n c s' A' n' c' t B m d t' B' m' d' base) 4 o ops Q l a w := by
 obtain ⟨HU, HV, HFA, HFB, HF1, HF, HBW, c0, c1, c2, c3, c4, c5, c6, c7⟩ := HH
 unfold InvStep
 have hu43 := Try.underlying43
 have hu45 := Try.underlying45
 obtain ⟨dst, op, ty, pos, after, guard⟩ := o
 simp only at hop hd hg
 subst hop hd hg
 obtain ⟨b0, b1, b2, b3, b4, b5, b6, b7, b8, b9, b10, b11, b12, b13, sv3, Av3, nv3, cv3, sv4, Av4, nv4, cv4, sv8, Av8, nv8, cv8, sv9, Av9, nv9, cv9, p10, p11, ⟨hl, HT, HS, E2, E3, HB, FW3, FW4, FW8, FW9, FB10, FB11, FC12, FC13, FD10_11⟩⟩ := hI
 subst hl
 obtain rfl : b4 = false := hb
 obtain rfl : b1 = true := hn1
 obtain rfl : b3 = true := hn3
 obtain rfl : b12 = false := by
  cases b12 with
  | true => exact absurd (FC12 rfl).1 (by decide)
  | false => rfl
 have e13 := HT.got 13 (.agg #[.bool s, .slice A n c]) (by repeat (first | exact List.mem_cons_self .. | apply List.mem_cons_of_mem))
 have e15 := HT.got 15 (.agg #[.bool sv3, .slice Av3 nv3 cv3]) (by repeat (first | exact List.mem_cons_self .. | apply List.mem_cons_of_mem))
 go_simp
 go_at_call 60
 refine (gcd_calls _ _ x _ ((HU.out.1.below HBW.out).below HB) (FW3 rfl) HF.out.1).mono ?_
 rintro e w2 ⟨v2, rfl, hX, hb2⟩
 obtain ⟨sn, An, nn, cn, rfl, HX⟩ := hX.parts
 exact ⟨b0, true, b2, true, true, b5, b6, b7, b8, b9, b10, b11, false, b13, sv3, Av3, nv3, cv3, sn, An, nn, cn, sv8, Av8, nv8, cv8, sv9, Av9, nv9, cv9, p10, p11, ⟨rfl, HT.put 4 16 _ rfl (show ([12, 13, 14, 15, 16, 17, 18, 19, 20, 21, 6, 7] : List Nat).Nodup from by decide) (by rw [HS]; decide), HS, E2, E3, below_step HB hb2, (fun h => (FW3 h).below hb2), (fun _ => HX.out), (fun h => (FW8 h).below hb2), (fun h => (FW9 h).below hb2), (fun h => ⟨(FB10 h).1, blk_below (FB10 h).2 hb2⟩), (fun h => ⟨(FB11 h).1, blk_below (FB11 h).2 hb2⟩), (fun h => absurd h (by decide)), FC13, FD10_11⟩⟩
theorem InvM1_s5 (HH : InvM1H x y w0 W s A n c s' A' n' c' t B m d t' B' m' d') (hop : o.op = .fieldAddr 45 (.tmp 3) 0) (hd : o.dst = some 17) (hg : o.guard = none) (hI : InvM1 x y w0 W s A n c s' A' n' c' t B m d t' B' m' d' base l a w) (hb : l.getD 5 true = false) : InvStep (InvM1 x y w0 W s A n c s' A' n' c' t B m d t' B' m' d' base) 5 o ops Q l a w := by
 obtain ⟨HU, HV, HFA, HFB, HF1, HF, HBW, c0, c1, c2, c3, c4, c5, c6, c7⟩ := HH
 unfold InvStep
 have hu43 := Try.underlying43
 have hu45 := Try.underlying45
 obtain ⟨dst, op, ty, pos, after, guard⟩ := o
 simp only at hop hd hg
 subst hop hd hg
 obtain ⟨b0, b1, b2, b3, b4, b5, b6, b7, b8, b9, b10, b11, b12, b13, sv3, Av3, nv3, cv3, sv4, Av4, nv4, cv4, sv8, Av8, nv8, cv8, sv9, Av9, nv9, cv9, p10, p11, ⟨hl, HT, HS, E2, E3, HB, FW3, FW4, FW8, FW9, FB10, FB11, FC12, FC13, FD10_11⟩⟩ := hI
 subst hl
 obtain rfl : b5 = false := hb
 have e3 := HT.base_ 3 _ (by simp) E3
 go_simp
 exact ⟨b0, b1, b2, b3, b4, true, b6, b7, b8, b9, b10, b11, b12, b13, sv3, Av3, nv3, cv3, sv4, Av4, nv4, cv4, sv8, Av8, nv8, cv8, sv9, Av9, nv9, cv9, p10, p11, ⟨rfl, HT.put 5 17 _ rfl (show ([12, 13, 14, 15, 16, 17, 18, 19, 20, 21, 6, 7] : List Nat).Nodup from by decide) (by rw [HS]; decide), HS, E2, E3, HB, FW3, FW4, FW8, FW9, FB10, FB11, FC12, FC13, FD10_11⟩⟩
theorem InvM1_s6 (HH : InvM1H x y w0 W s A n c s' A' n' c' t B m d t' B' m' d') (hop : o.op = .load 43 (.tmp 17)) (hd : o.dst = some 18) (hg : o.guard = none) (hI : InvM1 x y w0 W s A n c s' A' n' c' t B m d t' B' m' d' base l a w) (hb : l.getD 6 true = false) (hn5 : l.getD 5 false = true) : InvStep (InvM1 x y w0 W s A n c s' A' n' c' t B m d t' B' m' d' base) 6 o ops Q l a w := by
 obtain ⟨HU, HV, HFA, HFB, HF1, HF, HBW, c0, c1, c2, c3, c4, c5, c6, c7⟩ := HH
 unfold InvStep
 have hu43 := Try.underlying43
 have hu45 := Try.underlying45
 obtain ⟨dst, op, ty, pos, after, guard⟩ := o
 simp only at hop hd hg
 subst hop hd hg
 obtain ⟨b0, b1, b2, b3, b4, b5, b6, b7, b8, b9, b10, b11, b12, b13, sv3, Av3, nv3, cv3, sv4, Av4, nv4, cv4, sv8, Av8, nv8, cv8, sv9, Av9, nv9, cv9, p10, p11, ⟨hl, HT, HS, E2, E3, HB, FW3, FW4, FW8, FW9, FB10, FB11, FC12, FC13, FD10_11⟩⟩ := hI
 subst hl
 obtain rfl : b6 = false := hb
 obtain rfl : b5 = true := hn5
 have e17 := HT.got 17 (.pointer (some ⟨w0.heap.size + 1, 0, none⟩)) (by repeat (first | exact List.mem_cons_self .. | apply List.mem_cons_of_mem))
 have kc4 := pw_cell_below HB c4.out
 have kc5 := pw_cell_below HB c5.out
 go_simp
 exact ⟨b0, b1, b2, b3, b4, true, true, b7, b8, b9, b10, b11, b12, b13, sv3, Av3, nv3, cv3, sv4, Av4, nv4, cv4, sv8, Av8, nv8, cv8, sv9, Av9, nv9, cv9, p10, p11, ⟨rfl, HT.put 6 18 _ rfl (show ([12, 13, 14, 15, 16, 17, 18, 19, 20, 21, 6, 7] : List Nat).Nodup from by decide) (by rw [HS]; decide), HS, E2, E3, HB, FW3, FW4, FW8, FW9, FB10, FB11, FC12, FC13, FD10_11⟩⟩
theorem InvM1_s7 (HH : InvM1H x y w0 W s A n c s' A' n' c' t B m d t' B' m' d') (hop : o.op = .load 45 (.tmp 2)) (hd : o.dst = some 19) (hg : o.guard = none) (hI : InvM1 x y w0 W s A n c s' A' n' c' t B m d t' B' m' d' base l a w) (hb : l.getD 7 true = false) : InvStep (InvM1 x y w0 W s A n c s' A' n' c' t B m d t' B' m' d' base) 7 o ops Q l a w := by
 obtain ⟨HU, HV, HFA, HFB, HF1, HF, HBW, c0, c1, c2, c3, c4, c5, c6, c7⟩ := HH
 unfold InvStep
 have hu43 := Try.underlying43
 have hu45 := Try.underlying45
 obtain ⟨dst, op, ty, pos, after, guard⟩ := o
 simp only at hop hd hg
 subst hop hd hg
 obtain ⟨b0, b1, b2, b3, b4, b5, b6, b7, b8, b9, b10, b11, b12, b13, sv3, Av3, nv3, cv3, sv4, Av4, nv4, cv4, sv8, Av8, nv8, cv8, sv9, Av9, nv9, cv9, p10, p11, ⟨hl, HT, HS, E2, E3, HB, FW3, FW4, FW8, FW9, FB10, FB11, FC12, FC13, FD10_11⟩⟩ := hI
 subst hl
 obtain rfl : b7 = false := hb
 have e2 := HT.base_ 2 _ (by simp) E2
 have kc0 := pw_cell_below HB c0.out
 have kc1 := pw_cell_below HB c1.out
 have kc2 := pw_cell_below HB c2.out
 have kc3 := pw_cell_below HB c3.out
 go_simp
 exact ⟨b0, b1, b2, b3, b4, b5, b6, true, b8, b9, b10, b11, b12, b13, sv3, Av3, nv3, cv3, sv4, Av4, nv4, cv4, sv8, Av8, nv8, cv8, sv9, Av9, nv9, cv9, p10, p11, ⟨rfl, HT.put 7 19 _ rfl (show ([12, 13, 14, 15, 16, 17, 18, 19, 20, 21, 6, 7] : List Nat).Nodup from by decide) (by rw [HS]; decide), HS, E2, E3, HB, FW3, FW4, FW8, FW9, FB10, FB11, FC12, FC13, FD10_11⟩⟩
theorem InvM1_s8 (HH : InvM1H x y w0 W s A n c s' A' n' c' t B m d t' B' m' d') (hop : o.op = .call { callee := .value (.func 46), args := #[.tmp 19], argTypes := #[45] }) (hd : o.dst = some 20) (hg : o.guard = none) (hI : InvM1 x y w0 W s A n c s' A' n' c' t B m d t' B' m' d' base l a w) (hb : l.getD 8 true = false) (hn7 : l.getD 7 false = true) : InvStep (InvM1 x y w0 W s A n c s' A' n' c' t B m d t' B' m' d' base) 8 o ops Q l a w := by
 obtain ⟨HU, HV, HFA, HFB, HF1, HF, HBW, c0, c1, c2, c3, c4, c5, c6, c7⟩ := HH
 unfold InvStep
 have hu43 := Try.underlying43
 have hu45 := Try.underlying45
 obtain ⟨dst, op, ty, pos, after, guard⟩ := o
 simp only at hop hd hg
 subst hop hd hg
 obtain ⟨b0, b1, b2, b3, b4, b5, b6, b7, b8, b9, b10, b11, b12, b13, sv3, Av3, nv3, cv3, sv4, Av4, nv4, cv4, sv8, Av8, nv8, cv8, sv9, Av9, nv9, cv9, p10, p11, ⟨hl, HT, HS, E2, E3, HB, FW3, FW4, FW8, FW9, FB10, FB11, FC12, FC13, FD10_11⟩⟩ := hI
 subst hl
 obtain rfl : b8 = false := hb
 obtain rfl : b7 = true := hn7
 have e19 := HT.got 19 (.agg #[.bool s, .slice A n c, .bool s', .slice A' n' c']) (by repeat (first | exact List.mem_cons_self .. | apply List.mem_cons_of_mem))
 go_simp
 go_at_call 46
 refine (Den_calls _ x _ ((HFA.out.below HBW.out).below HB)).mono ?_
 rintro e w2 ⟨v2, rfl, hX, hb2⟩
 obtain ⟨sn, An, nn, cn, rfl, HX⟩ := hX.parts
 exact ⟨b0, b1, b2, b3, b4, b5, b6, true, true, b9, b10, b11, b12, b13, sv3, Av3, nv3, cv3, sv4, Av4, nv4, cv4, sn, An, nn, cn, sv9, Av9, nv9, cv9, p10, p11, ⟨rfl, HT.put 8 20 _ rfl (show ([12, 13, 14, 15, 16, 17, 18, 19, 20, 21, 6, 7] : List Nat).Nodup from by decide) (by rw [HS]; decide), HS, E2, E3, below_step HB hb2, (fun h => (FW3 h).below hb2), (fun h => (FW4 h).below hb2), (fun _ => HX.out), (fun h => (FW9 h).below hb2), (fun h => ⟨(FB10 h).1, blk_below (FB10 h).2 hb2⟩), (fun h => ⟨(FB11 h).1, blk_below (FB11 h).2 hb2⟩), FC12, FC13, FD10_11⟩⟩
theorem InvM1_s9 (HH : InvM1H x y w0 W s A n c s' A' n' c' t B m d t' B' m' d') (hop : o.op = .call { callee := .value (.func 60), args := #[.tmp 18, .tmp 20], argTypes := #[43, 43] }) (hd : o.dst = some 21) (hg : o.guard = none) (hI : InvM1 x y w0 W s A n c s' A' n' c' t B m d t' B' m' d' base l a w) (hb : l.getD 9 true = false) (hn6 : l.getD 6 false = true) (hn8 : l.getD 8 false = true) : InvStep (InvM1 x y w0 W s A n c s' A' n' c' t B m d t' B' m' d' base) 9 o ops Q l a w := by
 obtain ⟨HU, HV, HFA, HFB, HF1, HF, HBW, c0, c1, c2, c3, c4, c5, c6, c7⟩ := HH
 unfold InvStep
 have hu43 := Try.underlying43
 have hu45 := Try.underlying45
 obtain ⟨dst, op, ty, pos, after, guard⟩ := o
 simp only at hop hd hg
 subst hop hd hg
 obtain ⟨b0, b1, b2, b3, b4, b5, b6, b7, b8, b9, b10, b11, b12, b13, sv3, Av3, nv3, cv3, sv4, Av4, nv4, cv4, sv8, Av8, nv8, cv8, sv9, Av9, nv9, cv9, p10, p11, ⟨hl, HT, HS, E2, E3, HB, FW3, FW4, FW8, FW9, FB10, FB11, FC12, FC13, FD10_11⟩⟩ := hI
 subst hl
 obtain rfl : b9 = false := hb
 obtain rfl : b6 = true := hn6
 obtain rfl : b8 = true := hn8
 obtain rfl : b13 = false := by
  cases b13 with
  | true => exact absurd (FC13 rfl).1 (by decide)
  | false => rfl
 have e18 := HT.got 18 (.agg #[.bool t, .slice B m d]) (by repeat (first | exact List.mem_cons_self .. | apply List.mem_cons_of_mem))
 have e20 := HT.got 20 (.agg #[.bool sv8, .slice Av8 nv8 cv8]) (by repeat (first | exact List.mem_cons_self .. | apply List.mem_cons_of_mem))
 go_simp
 go_at_call 60
 refine (gcd_calls _ _ y _ ((HV.out.1.below HBW.out).below HB) (FW8 rfl) HF.out.2.1).mono ?_
 rintro e w2 ⟨v2, rfl, hX, hb2⟩
 obtain ⟨sn, An, nn, cn, rfl, HX⟩ := hX.parts
 exact ⟨b0, b1, b2, b3, b4, b5, true, b7, true, true, b10, b11, b12, false, sv3, Av3, nv3, cv3, sv4, Av4, nv4, cv4, sv8, Av8, nv8, cv8, sn, An, nn, cn, p10, p11, ⟨rfl, HT.put 9 21 _ rfl (show ([12, 13, 14, 15, 16, 17, 18, 19, 20, 21, 6, 7] : List Nat).Nodup from by decide) (by rw [HS]; decide), HS, E2, E3, below_step HB hb2, (fun h => (FW3 h).below hb2), (fun h => (FW4 h).below hb2), (fun h => (FW8 h).below hb2), (fun _ => HX.out), (fun h => ⟨(FB10 h).1, blk_below (FB10 h).2 hb2⟩), (fun h => ⟨(FB11 h).1, blk_below (FB11 h).2 hb2⟩), FC12, (fun h => absurd h (by decide)), FD10_11⟩⟩
theorem InvM1_s10 (HH : InvM1H x y w0 W s A n c s' A' n' c' t B m d t' B' m' d') (hop : o.op = .alloc 43) (hd : o.dst = some 6) (hg : o.guard = none) (hI : InvM1 x y w0 W s A n c s' A' n' c' t B m d t' B' m' d' base l a w) (hb : l.getD 10 true = false) : InvStep (InvM1 x y w0 W s A n c s' A' n' c' t B m d t' B' m' d' base) 10 o ops Q l a w := by
 obtain ⟨HU, HV, HFA, HFB, HF1, HF, HBW, c0, c1, c2, c3, c4, c5, c6, c7⟩ := HH
 unfold InvStep
 have hu43 := Try.underlying43
 have hu45 := Try.underlying45
 obtain ⟨dst, op, ty, pos, after, guard⟩ := o
 simp only at hop hd hg
 subst hop hd hg
 obtain ⟨b0, b1, b2, b3, b4, b5, b6, b7, b8, b9, b10, b11, b12, b13, sv3, Av3, nv3, cv3, sv4, Av4, nv4, cv4, sv8, Av8, nv8, cv8, sv9, Av9, nv9, cv9, p10, p11, ⟨hl, HT, HS, E2, E3, HB, FW3, FW4, FW8, FW9, FB10, FB11, FC12, FC13, FD10_11⟩⟩ := hI
 subst hl
 obtain rfl : b10 = false := hb
 obtain rfl : b12 = false := by
  cases b12 with
  | true => exact absurd (FC12 rfl).2 (by decide)
  | false => rfl
 go_simp
 exact ⟨b0, b1, b2, b3, b4, b5, b6, b7, b8, b9, true, b11, false, b13, sv3, Av3, nv3, cv3, sv4, Av4, nv4, cv4, sv8, Av8, nv8, cv8, sv9, Av9, nv9, cv9, w.heap.size, p11, ⟨rfl, HT.put 10 6 _ rfl (show ([12, 13, 14, 15, 16, 17, 18, 19, 20, 21, 6, 7] : List Nat).Nodup from by decide) (by rw [HS]; decide), HS, E2, E3, below_alloc HB _, (fun h => (FW3 h).below (below_alloc (Below.refl _ _) _)), (fun h => (FW4 h).below (below_alloc (Below.refl _ _) _)), (fun h => (FW8 h).below (below_alloc (Below.refl _ _) _)), (fun h => (FW9 h).below (below_alloc (Below.refl _ _) _)), (fun _ => ⟨HB.size, blk_new w _⟩), (fun h => ⟨(FB11 h).1, blk_below (FB11 h).2 (below_alloc (Below.refl _ _) _)⟩), (fun h => absurd h (by decide)), FC13, (fun _ h => Nat.ne_of_gt (blk_lt (FB11 h).2))⟩⟩
theorem InvM1_s11 (HH : InvM1H x y w0 W s A n c s' A' n' c' t B m d t' B' m' d') (hop : o.op = .alloc 43) (hd : o.dst = some 7) (hg : o.guard = none) (hI : InvM1 x y w0 W s A n c s' A' n' c' t B m d t' B' m' d' base l a w) (hb : l.getD 11 true = false) : InvStep (InvM1 x y w0 W s A n c s' A' n' c' t B m d t' B' m' d' base) 11 o ops Q l a w := by
 obtain ⟨HU, HV, HFA, HFB, HF1, HF, HBW, c0, c1, c2, c3, c4, c5, c6, c7⟩ := HH
 unfold InvStep
 have hu43 := Try.underlying43
 have hu45 := Try.underlying45
 obtain ⟨dst, op, ty, pos, after, guard⟩ := o
 simp only at hop hd hg
 subst hop hd hg
 obtain ⟨b0, b1, b2, b3, b4, b5, b6, b7, b8, b9, b10, b11, b12, b13, sv3, Av3, nv3, cv3, sv4, Av4, nv4, cv4, sv8, Av8, nv8, cv8, sv9, Av9, nv9, cv9, p10, p11, ⟨hl, HT, HS, E2, E3, HB, FW3, FW4, FW8, FW9, FB10, FB11, FC12, FC13, FD10_11⟩⟩ := hI
 subst hl
 obtain rfl : b11 = false := hb
 obtain rfl : b13 = false := by
  cases b13 with
  | true => exact absurd (FC13 rfl).2 (by decide)
  | false => rfl
 go_simp
 exact ⟨b0, b1, b2, b3, b4, b5, b6, b7, b8, b9, b10, true, b12, false, sv3, Av3, nv3, cv3, sv4, Av4, nv4, cv4, sv8, Av8, nv8, cv8, sv9, Av9, nv9, cv9, p10, w.heap.size, ⟨rfl, HT.put 11 7 _ rfl (show ([12, 13, 14, 15, 16, 17, 18, 19, 20, 21, 6, 7] : List Nat).Nodup from by decide) (by rw [HS]; decide), HS, E2, E3, below_alloc HB _, (fun h => (FW3 h).below (below_alloc (Below.refl _ _) _)), (fun h => (FW4 h).below (below_alloc (Below.refl _ _) _)), (fun h => (FW8 h).below (below_alloc (Below.refl _ _) _)), (fun h => (FW9 h).below (below_alloc (Below.refl _ _) _)), (fun h => ⟨(FB10 h).1, blk_below (FB10 h).2 (below_alloc (Below.refl _ _) _)⟩), (fun _ => ⟨HB.size, blk_new w _⟩), FC12, (fun h => absurd h (by decide)), (fun h _ => Ne.symm (Nat.ne_of_gt (blk_lt (FB10 h).2)))⟩⟩
theorem InvM1_s12 (HH : InvM1H x y w0 W s A n c s' A' n' c' t B m d t' B' m' d') (hop : o.op = .store 43 (.tmp 6) (.tmp 16)) (hd : o.dst = none) (hg : o.guard = none) (hI : InvM1 x y w0 W s A n c s' A' n' c' t B m d t' B' m' d' base l a w) (hb : l.getD 12 true = false) (hn4 : l.getD 4 false = true) (hn10 : l.getD 10 false = true) : InvStep (InvM1 x y w0 W s A n c s' A' n' c' t B m d t' B' m' d' base) 12 o ops Q l a w := by
 obtain ⟨HU, HV, HFA, HFB, HF1, HF, HBW, c0, c1, c2, c3, c4, c5, c6, c7⟩ := HH
 unfold InvStep
 have hu43 := Try.underlying43
 have hu45 := Try.underlying45
 obtain ⟨dst, op, ty, pos, after, guard⟩ := o
 simp only at hop hd hg
 subst hop hd hg
 obtain ⟨b0, b1, b2, b3, b4, b5, b6, b7, b8, b9, b10, b11, b12, b13, sv3, Av3, nv3, cv3, sv4, Av4, nv4, cv4, sv8, Av8, nv8, cv8, sv9, Av9, nv9, cv9, p10, p11, ⟨hl, HT, HS, E2, E3, HB, FW3, FW4, FW8, FW9, FB10, FB11, FC12, FC13, FD10_11⟩⟩ := hI
 subst hl
 obtain rfl : b12 = false := hb
 obtain rfl : b4 = true := hn4
 obtain rfl : b10 = true := hn10
 have e6 := HT.got 6 (.pointer (some ⟨p10, 0, none⟩)) (by repeat (first | exact List.mem_cons_self .. | apply List.mem_cons_of_mem))
 have e16 := HT.got 16 (.agg #[.bool sv4, .slice Av4 nv4 cv4]) (by repeat (first | exact List.mem_cons_self .. | apply List.mem_cons_of_mem))
 have hbk := (FB10 rfl).2
 have hge := (FB10 rfl).1
 have m0 : w.cell? ⟨p10, 0, none⟩ = some (.bool false) := blk_cell hbk 0
 have m1 : w.cell? ⟨p10, 1, none⟩ = some (.slice none 0 0) := blk_cell hbk 1
 have f0 := blk_frozen hbk 0
 have f1 := blk_frozen hbk 1
 have hk := IntKeep.set2 hbk sv4 Av4 nv4 cv4
 go_simp
 exact ⟨b0, b1, b2, b3, true, b5, b6, b7, b8, b9, true, b11, true, b13, sv3, Av3, nv3, cv3, sv4, Av4, nv4, cv4, sv8, Av8, nv8, cv8, sv9, Av9, nv9, cv9, p10, p11, ⟨rfl, HT, HS, E2, E3, ((HB.setCell (p := ⟨p10, 0, none⟩) hge _).setCell (p := ⟨p10, 1, none⟩) hge _), (fun h => (FW3 h).keep hk), (fun h => (FW4 h).keep hk), (fun h => (FW8 h).keep hk), (fun h => (FW9 h).keep hk), (fun _ => ⟨hge, blk_put (blk_put hbk 0 _ rfl) 1 _ rfl⟩), (fun h => ⟨(FB11 h).1, blk_far (blk_far (FB11 h).2 (p := ⟨p10, 0, none⟩) (Ne.symm (FD10_11 rfl h)) _) (p := ⟨p10, 1, none⟩) (Ne.symm (FD10_11 rfl h)) _⟩), (fun _ => ⟨rfl, rfl⟩), FC13, FD10_11⟩⟩
theorem InvM1_s13 (HH : InvM1H x y w0 W s A n c s' A' n' c' t B m d t' B' m' d') (hop : o.op = .store 43 (.tmp 7) (.tmp 21)) (hd : o.dst = none) (hg : o.guard = none) (hI : InvM1 x y w0 W s A n c s' A' n' c' t B m d t' B' m' d' base l a w) (hb : l.getD 13 true = false) (hn9 : l.getD 9 false = true) (hn11 : l.getD 11 false = true) : InvStep (InvM1 x y w0 W s A n c s' A' n' c' t B m d t' B' m' d' base) 13 o ops Q l a w := by
 obtain ⟨HU, HV, HFA, HFB, HF1, HF, HBW, c0, c1, c2, c3, c4, c5, c6, c7⟩ := HH
 unfold InvStep
 have hu43 := Try.underlying43
 have hu45 := Try.underlying45
 obtain ⟨dst, op, ty, pos, after, guard⟩ := o
 simp only at hop hd hg
 subst hop hd hg
 obtain ⟨b0, b1, b2, b3, b4, b5, b6, b7, b8, b9, b10, b11, b12, b13, sv3, Av3, nv3, cv3, sv4, Av4, nv4, cv4, sv8, Av8, nv8, cv8, sv9, Av9, nv9, cv9, p10, p11, ⟨hl, HT, HS, E2, E3, HB, FW3, FW4, FW8, FW9, FB10, FB11, FC12, FC13, FD10_11⟩⟩ := hI
 subst hl
 obtain rfl : b13 = false := hb
 obtain rfl : b9 = true := hn9
 obtain rfl : b11 = true := hn11
 have e7 := HT.got 7 (.pointer (some ⟨p11, 0, none⟩)) (by repeat (first | exact List.mem_cons_self .. | apply List.mem_cons_of_mem))
 have e21 := HT.got 21 (.agg #[.bool sv9, .slice Av9 nv9 cv9]) (by repeat (first | exact List.mem_cons_self .. | apply List.mem_cons_of_mem))
 have hbk := (FB11 rfl).2
 have hge := (FB11 rfl).1
 have m0 : w.cell? ⟨p11, 0, none⟩ = some (.bool false) := blk_cell hbk 0
 have m1 : w.cell? ⟨p11, 1, none⟩ = some (.slice none 0 0) := blk_cell hbk 1
 have f0 := blk_frozen hbk 0
 have f1 := blk_frozen hbk 1
 have hk := IntKeep.set2 hbk sv9 Av9 nv9 cv9
 go_simp
 exact ⟨b0, b1, b2, b3, b4, b5, b6, b7, b8, true, b10, true, b12, true, sv3, Av3, nv3, cv3, sv4, Av4, nv4, cv4, sv8, Av8, nv8, cv8, sv9, Av9, nv9, cv9, p10, p11, ⟨rfl, HT, HS, E2, E3, ((HB.setCell (p := ⟨p11, 0, none⟩) hge _).setCell (p := ⟨p11, 1, none⟩) hge _), (fun h => (FW3 h).keep hk), (fun h => (FW4 h).keep hk), (fun h => (FW8 h).keep hk), (fun h => (FW9 h).keep hk), (fun h => ⟨(FB10 h).1, blk_far (blk_far (FB10 h).2 (p := ⟨p11, 0, none⟩) (FD10_11 h rfl) _) (p := ⟨p11, 1, none⟩) (FD10_11 h rfl) _⟩), (fun _ => ⟨hge, blk_put (blk_put hbk 0 _ rfl) 1 _ rfl⟩), FC12, (fun _ => ⟨rfl, rfl⟩), FD10_11⟩⟩
structure InvM2F (x y : Int) (w0 W : World) (s : Bool) (A : Option Addr) (n c : Nat) (s' : Bool) (A' : Option Addr) (n' c' : Nat) (t : Bool) (B : Option Addr) (m d : Nat) (t' : Bool) (B' : Option Addr) (m' d' : Nat) (g6 : Nat) (sg : Bool) (Ag : Option Addr) (ng cg : Nat) (g7 : Nat) (sh : Bool) (Ah : Option Addr) (nh ch : Nat) (b0 b1 b2 b3 b4 b5 b6 b7 b8 b9 b10 b11 b12 b13 b14 b15 : Bool) (sv3 : Bool) (Av3 : Option Addr) (nv3 cv3 : Nat) (sv7 : Bool) (Av7 : Option Addr) (nv7 cv7 : Nat) (p8 : Nat) (sv9 : Bool) (Av9 : Option Addr) (nv9 cv9 : Nat) (v10 : Value) (v11 : Value) (p13 : Nat) (base : Array Value) (l : List Bool) (a : Act) (w : World) : Prop where
 hl : l = [b0, b1, b2, b3, b4, b5, b6, b7, b8, b9, b10, b11, b12, b13, b14, b15]
 HT : Tm a base [(b0, 23, .pointer (some ⟨w0.heap.size, 0, none⟩)), (b1, 24, .agg #[.bool s, .slice A n c]), (b2, 25, .agg #[.bool sg, .slice Ag ng cg]), (b3, 26, .agg #[.bool sv3, .slice Av3 nv3 cv3]), (b4, 27, .pointer (some ⟨w0.heap.size + 1, 0, none⟩)), (b5, 28, .agg #[.bool t, .slice B m d]), (b6, 29, .agg #[.bool sh, .slice Ah nh ch]), (b7, 30, .agg #[.bool sv7, .slice Av7 nv7 cv7]), (b8, 31, .slice (some ⟨p8, 0, none⟩) 2 2), (b9, 32, .tuple #[.agg #[.bool sv9, .slice Av9 nv9 cv9], .int .i64 0]), (b10, 22, v10), (b11, 33, v11), (b12, 34, .int .i64 0), (b13, 8, .pointer (some ⟨p13, 0, none⟩)), (b15, 9, .int .i64 0)]
 HS : base.size = 55
 E2 : base[2]? = some (.pointer (some ⟨w0.heap.size, 0, none⟩))
 E3 : base[3]? = some (.pointer (some ⟨w0.heap.size + 1, 0, none⟩))
 E6 : base[6]? = some (.pointer (some ⟨g6, 0, none⟩))
 E7 : base[7]? = some (.pointer (some ⟨g7, 0, none⟩))
 HB : Below W.heap.size W w
 FW3 : (b3 = true → WI w (.agg #[.bool sv3, .slice Av3 nv3 cv3]) (x))
 FW7 : (b7 = true → WI w (.agg #[.bool sv7, .slice Av7 nv7 cv7]) (y))
 FS8 : (b8 = true → W.heap.size ≤ p8 ∧ w.heap[p8]? = some (.cells #[.bool sv3, .slice Av3 nv3 cv3, .bool sv7, .slice Av7 nv7 cv7] 43 (0, 0)))
 FW9 : (b9 = true → WI w (.agg #[.bool sv9, .slice Av9 nv9 cv9]) (x * y))
 FV10 : (b10 = true → v10 = .tuple #[.agg #[.bool sv9, .slice Av9 nv9 cv9], .int .i64 0])
 FV11 : (b11 = true → v11 = .agg #[.bool sv9, .slice Av9 nv9 cv9])
 FB13 : (b13 = true → W.heap.size ≤ p13 ∧ w.heap[p13]? = some (.cells (if b14 then #[.bool sv9, .slice Av9 nv9 cv9] else #[.bool false, .slice none 0 0]) 43 (0, 0)))
 FC8 : (b8 = true → b3 = true ∧ b7 = true)
 FC10 : (b10 = true → b9 = true)
 FC11 : (b11 = true → b9 = true ∧ b10 = true)
 FC14 : (b14 = true → b9 = true ∧ b11 = true ∧ b13 = true)
 FD8_13 : (b8 = true → b13 = true → p8 ≠ p13)
def InvM2 (x y : Int) (w0 W : World) (s : Bool) (A : Option Addr) (n c : Nat) (s' : Bool) (A' : Option Addr) (n' c' : Nat) (t : Bool) (B : Option Addr) (m d : Nat) (t' : Bool) (B' : Option Addr) (m' d' : Nat) (g6 : Nat) (sg : Bool) (Ag : Option Addr) (ng cg : Nat) (g7 : Nat) (sh : Bool) (Ah : Option Addr) (nh ch : Nat) (base : Array Value) (l : List Bool) (a : Act) (w : World) : Prop := ∃ (b0 b1 b2 b3 b4 b5 b6 b7 b8 b9 b10 b11 b12 b13 b14 b15 : Bool) (sv3 : Bool) (Av3 : Option Addr) (nv3 cv3 : Nat) (sv7 : Bool) (Av7 : Option Addr) (nv7 cv7 : Nat) (p8 : Nat) (sv9 : Bool) (Av9 : Option Addr) (nv9 cv9 : Nat) (v10 : Value) (v11 : Value) (p13 : Nat), InvM2F x y w0 W s A n c s' A' n' c' t B m d t' B' m' d' g6 sg Ag ng cg g7 sh Ah nh ch b0 b1 b2 b3 b4 b5 b6 b7 b8 b9 b10 b11 b12 b13 b14 b15 sv3 Av3 nv3 cv3 sv7 Av7 nv7 cv7 p8 sv9 Av9 nv9 cv9 v10 v11 p13 base l a w
structure InvM2H (x y : Int) (w0 W : World) (s : Bool) (A : Option Addr) (n c : Nat) (s' : Bool) (A' : Option Addr) (n' c' : Nat) (t : Bool) (B : Option Addr) (m d : Nat) (t' : Bool) (B' : Option Addr) (m' d' : Nat) (g6 : Nat) (sg : Bool) (Ag : Option Addr) (ng cg : Nat) (g7 : Nat) (sh : Bool) (Ah : Option Addr) (nh ch : Nat) : Prop where
 HU : Aside0 (WI w0 (.agg #[.bool s, .slice A n c]) x ∧ WI w0 (.agg #[.bool s', .slice A' n' c']) 0)
 HV : Aside0 (WI w0 (.agg #[.bool t, .slice B m d]) y ∧ WI w0 (.agg #[.bool t', .slice B' m' d']) 0)
 HFA : Aside0 (FI w0 (.agg #[.bool s, .slice A n c, .bool s', .slice A' n' c']) x)
 HFB : Aside0 (FI w0 (.agg #[.bool t, .slice B m d, .bool t', .slice B' m' d']) y)
 HF1 : Aside0 (Fit 1)
 HF : Aside0 (Fit x ∧ Fit y ∧ Fit (x * y) ∧ Fit (1 * 1))
 HBW : Aside0 (Below w0.heap.size w0 W)
 c0 : Aside0 (W.cell? ⟨w0.heap.size, 0, none⟩ = some (.bool s))
 c1 : Aside0 (W.cell? ⟨w0.heap.size, 1, none⟩ = some (.slice A n c))
 c2 : Aside0 (W.cell? ⟨w0.heap.size, 2, none⟩ = some (.bool s'))
 c3 : Aside0 (W.cell? ⟨w0.heap.size, 3, none⟩ = some (.slice A' n' c'))
 c4 : Aside0 (W.cell? ⟨w0.heap.size + 1, 0, none⟩ = some (.bool t))
 c5 : Aside0 (W.cell? ⟨w0.heap.size + 1, 1, none⟩ = some (.slice B m d))
 c6 : Aside0 (W.cell? ⟨w0.heap.size + 1, 2, none⟩ = some (.bool t'))
 c7 : Aside0 (W.cell? ⟨w0.heap.size + 1, 3, none⟩ = some (.slice B' m' d'))
 HG : Aside0 (W.heap[g6]? = some (.cells #[.bool sg, .slice Ag ng cg] 43 (0, 0)) ∧ WI W (.agg #[.bool sg, .slice Ag ng cg]) 1)
 c8 : Aside0 (W.cell? ⟨g6, 0, none⟩ = some (.bool sg))
 c9 : Aside0 (W.cell? ⟨g6, 1, none⟩ = some (.slice Ag ng cg))
 HH : Aside0 (W.heap[g7]? = some (.cells #[.bool sh, .slice Ah nh ch] 43 (0, 0)) ∧ WI W (.agg #[.bool sh, .slice Ah nh ch]) 1)
 c10 : Aside0 (W.cell? ⟨g7, 0, none⟩ = some (.bool sh))
 c11 : Aside0 (W.cell? ⟨g7, 1, none⟩ = some (.slice Ah nh ch))
variable {g6 : Nat} {sg : Bool} {Ag : Option Addr} {ng cg : Nat} {g7 : Nat} {sh : Bool} {Ah : Option Addr} {nh ch : Nat}
theorem InvM2_s0 (HH : InvM2H x y w0 W s A n c s' A' n' c' t B m d t' B' m' d' g6 sg Ag ng cg g7 sh Ah nh ch) (hop : o.op = .fieldAddr 45 (.tmp 2) 0) (hd : o.dst = some 23) (hg : o.guard = none) (hI : InvM2 x y w0 W s A n c s' A' n' c' t B m d t' B' m' d' g6 sg Ag ng cg g7 sh Ah nh ch base l a w) (hb : l.getD 0 true = false) : InvStep (InvM2 x y w0 W s A n c s' A' n' c' t B m d t' B' m' d' g6 sg Ag ng cg g7 sh Ah nh ch base) 0 o ops Q l a w := by
 obtain ⟨HU, HV, HFA, HFB, HF1, HF, HBW, c0, c1, c2, c3, c4, c5, c6, c7, HG, c8, c9, HH, c10, c11⟩ := HH
 unfold InvStep
 have hu43 := Try.underlying43
 have hu45 := Try.underlying45
 obtain ⟨dst, op, ty, pos, after, guard⟩ := o
 simp only at hop hd hg
 subst hop hd hg
 obtain ⟨b0, b1, b2, b3, b4, b5, b6, b7, b8, b9, b10, b11, b12, b13, b14, b15, sv3, Av3, nv3, cv3, sv7, Av7, nv7, cv7, p8, sv9, Av9, nv9, cv9, v10, v11, p13, ⟨hl, HT, HS, E2, E3, E6, E7, HB, FW3, FW7, FS8, FW9, FV10, FV11, FB13, FC8, FC10, FC11, FC14, FD8_13⟩⟩ := hI
 subst hl
 obtain rfl : b0 = false := hb
 have e2 := HT.base_ 2 _ (by simp) E2
 go_simp
 exact ⟨true, b1, b2, b3, b4, b5, b6, b7, b8, b9, b10, b11, b12, b13, b14, b15, sv3, Av3, nv3, cv3, sv7, Av7, nv7, cv7, p8, sv9, Av9, nv9, cv9, v10, v11, p13, ⟨rfl, HT.put 0 23 _ rfl (show ([23, 24, 25, 26, 27, 28, 29, 30, 31, 32, 22, 33, 34, 8, 9] : List Nat).Nodup from by decide) (by rw [HS]; decide), HS, E2, E3, E6, E7, HB, FW3, FW7, FS8, FW9, FV10, FV11, FB13, FC8, FC10, FC11, FC14, FD8_13⟩⟩
theorem InvM2_s1 (HH : InvM2H x y w0 W s A n c s' A' n' c' t B m d t' B' m' d' g6 sg Ag ng cg g7 sh Ah nh ch) (hop : o.op = .load 43 (.tmp 23)) (hd : o.dst = some 24) (hg : o.guard = none) (hI : InvM2 x y w0 W s A n c s' A' n' c' t B m d t' B' m' d' g6 sg Ag ng cg g7 sh Ah nh ch base l a w) (hb : l.getD 1 true = false) (hn0 : l.getD 0 false = true) : InvStep (InvM2 x y w0 W s A n c s' A' n' c' t B m d t' B' m' d' g6 sg Ag ng cg g7 sh Ah nh ch base) 1 o ops Q l a w := by
 obtain ⟨HU, HV, HFA, HFB, HF1, HF, HBW, c0, c1, c2, c3, c4, c5, c6, c7, HG, c8, c9, HH, c10, c11⟩ := HH
 unfold InvStep
 have hu43 := Try.underlying43
 have hu45 := Try.underlying45
 obtain ⟨dst, op, ty, pos, after, guard⟩ := o
 simp only at hop hd hg
 subst hop hd hg
 obtain ⟨b0, b1, b2, b3, b4, b5, b6, b7, b8, b9, b10, b11, b12, b13, b14, b15, sv3, Av3, nv3, cv3, sv7, Av7, nv7, cv7, p8, sv9, Av9, nv9, cv9, v10, v11, p13, ⟨hl, HT, HS, E2, E3, E6, E7, HB, FW3, FW7, FS8, FW9, FV10, FV11, FB13, FC8, FC10, FC11, FC14, FD8_13⟩⟩ := hI
 subst hl
 obtain rfl : b1 = false := hb
 obtain rfl : b0 = true := hn0
 have e23 := HT.got 23 (.pointer (some ⟨w0.heap.size, 0, none⟩)) (by repeat (first | exact List.mem_cons_self .. | apply List.mem_cons_of_mem))
 have kc0 := pw_cell_below HB c0.out
 have kc1 := pw_cell_below HB c1.out
 go_simp
 exact ⟨true, true, b2, b3, b4, b5, b6, b7, b8, b9, b10, b11, b12, b13, b14, b15, sv3, Av3, nv3, cv3, sv7, Av7, nv7, cv7, p8, sv9, Av9, nv9, cv9, v10, v11, p13, ⟨rfl, HT.put 1 24 _ rfl (show ([23, 24, 25, 26, 27, 28, 29, 30, 31, 32, 22, 33, 34, 8, 9] : List Nat).Nodup from by decide) (by rw [HS]; decide), HS, E2, E3, E6, E7, HB, FW3, FW7, FS8, FW9, FV10, FV11, FB13, FC8, FC10, FC11, FC14, FD8_13⟩⟩
theorem InvM2_s2 (HH : InvM2H x y w0 W s A n c s' A' n' c' t B m d t' B' m' d' g6 sg Ag ng cg g7 sh Ah nh ch) (hop : o.op = .load 43 (.tmp 6)) (hd : o.dst = some 25) (hg : o.guard = none) (hI : InvM2 x y w0 W s A n c s' A' n' c' t B m d t' B' m' d' g6 sg Ag ng cg g7 sh Ah nh ch base l a w) (hb : l.getD 2 true = false) : InvStep (InvM2 x y w0 W s A n c s' A' n' c' t B m d t' B' m' d' g6 sg Ag ng cg g7 sh Ah nh ch base) 2 o ops Q l a w := by
 obtain ⟨HU, HV, HFA, HFB, HF1, HF, HBW, c0, c1, c2, c3, c4, c5, c6, c7, HG, c8, c9, HH, c10, c11⟩ := HH
 unfold InvStep
 have hu43 := Try.underlying43
 have hu45 := Try.underlying45
 obtain ⟨dst, op, ty, pos, after, guard⟩ := o
 simp only at hop hd hg
 subst hop hd hg
 obtain ⟨b0, b1, b2, b3, b4, b5, b6, b7, b8, b9, b10, b11, b12, b13, b14, b15, sv3, Av3, nv3, cv3, sv7, Av7, nv7, cv7, p8, sv9, Av9, nv9, cv9, v10, v11, p13, ⟨hl, HT, HS, E2, E3, E6, E7, HB, FW3, FW7, FS8, FW9, FV10, FV11, FB13, FC8, FC10, FC11, FC14, FD8_13⟩⟩ := hI
 subst hl
 obtain rfl : b2 = false := hb
 have e6 := HT.base_ 6 _ (by simp) E6
 have kc8 := pw_cell_below HB c8.out
 have kc9 := pw_cell_below HB c9.out
 go_simp
 exact ⟨b0, b1, true, b3, b4, b5, b6, b7, b8, b9, b10, b11, b12, b13, b14, b15, sv3, Av3, nv3, cv3, sv7, Av7, nv7, cv7, p8, sv9, Av9, nv9, cv9, v10, v11, p13, ⟨rfl, HT.put 2 25 _ rfl (show ([23, 24, 25, 26, 27, 28, 29, 30, 31, 32, 22, 33, 34, 8, 9] : List Nat).Nodup from by decide) (by rw [HS]; decide), HS, E2, E3, E6, E7, HB, FW3, FW7, FS8, FW9, FV10, FV11, FB13, FC8, FC10, FC11, FC14, FD8_13⟩⟩
theorem InvM2_s3 (HH : InvM2H x y w0 W s A n c s' A' n' c' t B m d t' B' m' d' g6 sg Ag ng cg g7 sh Ah nh ch) (hop : o.op = .call { callee := .value (.func 62), args := #[.tmp 24, .tmp 25], argTypes := #[43, 43] }) (hd : o.dst = some 26) (hg : o.guard = none) (hI : InvM2 x y w0 W s A n c s' A' n' c' t B m d t' B' m' d' g6 sg Ag ng cg g7 sh Ah nh ch base l a w) (hb : l.getD 3 true = false) (hn1 : l.getD 1 false = true) (hn2 : l.getD 2 false = true) : InvStep (InvM2 x y w0 W s A n c s' A' n' c' t B m d t' B' m' d' g6 sg Ag ng cg g7 sh Ah nh ch base) 3 o ops Q l a w := by
 obtain ⟨HU, HV, HFA, HFB, HF1, HF, HBW, c0, c1, c2, c3, c4, c5, c6, c7, HG, c8, c9, HH, c10, c11⟩ := HH
 unfold InvStep
 have hu43 := Try.underlying43
 have hu45 := Try.underlying45
 obtain ⟨dst, op, ty, pos, after, guard⟩ := o
 simp only at hop hd hg
 subst hop hd hg
 obtain ⟨b0, b1, b2, b3, b4, b5, b6, b7, b8, b9, b10, b11, b12, b13, b14, b15, sv3, Av3, nv3, cv3, sv7, Av7, nv7, cv7, p8, sv9, Av9, nv9, cv9, v10, v11, p13, ⟨hl, HT, HS, E2, E3, E6, E7, HB, FW3, FW7, FS8, FW9, FV10, FV11, FB13, FC8, FC10, FC11, FC14, FD8_13⟩⟩ := hI
 subst hl
 obtain rfl : b3 = false := hb
 obtain rfl : b1 = true := hn1
 obtain rfl : b2 = true := hn2
 obtain rfl : b8 = false := by
  cases b8 with
  | true => exact absurd (FC8 rfl).1 (by decide)
  | false => rfl
 have e24 := HT.got 24 (.agg #[.bool s, .slice A n c]) (by repeat (first | exact List.mem_cons_self .. | apply List.mem_cons_of_mem))
 have e25 := HT.got 25 (.agg #[.bool sg, .slice Ag ng cg]) (by repeat (first | exact List.mem_cons_self .. | apply List.mem_cons_of_mem))
 go_simp
 go_at_call 62
 refine (over_calls _ _ x 1 _ ((HU.out.1.below HBW.out).below HB) (HG.out.2.below HB) HF.out.1 (by decide) (by decide)).mono ?_
 rintro e w2 ⟨v2, rfl, hX, hb2⟩
 rw [Int.ediv_one] at hX
 obtain ⟨sn, An, nn, cn, rfl, HX⟩ := hX.parts
 exact ⟨b0, true, true, true, b4, b5, b6, b7, false, b9, b10, b11, b12, b13, b14, b15, sn, An, nn, cn, sv7, Av7, nv7, cv7, p8, sv9, Av9, nv9, cv9, v10, v11, p13, ⟨rfl, HT.put 3 26 _ rfl (show ([23, 24, 25, 26, 27, 28, 29, 30, 31, 32, 22, 33, 34, 8, 9] : List Nat).Nodup from by decide) (by rw [HS]; decide), HS, E2, E3, E6, E7, below_step HB hb2, (fun _ => HX.out), (fun h => (FW7 h).below hb2), (fun h => absurd h (by decide)), (fun h => (FW9 h).below hb2), FV10, FV11, (fun h => ⟨(FB13 h).1, blk_below (FB13 h).2 hb2⟩), (fun h => absurd h (by decide)), FC10, FC11, FC14, FD8_13⟩⟩
theorem InvM2_s4 (HH : InvM2H x y w0 W s A n c s' A' n' c' t B m d t' B' m' d' g6 sg Ag ng cg g7 sh Ah nh ch) (hop : o.op = .fieldAddr 45 (.tmp 3) 0) (hd : o.dst = some 27) (hg : o.guard = none) (hI : InvM2 x y w0 W s A n c s' A' n' c' t B m d t' B' m' d' g6 sg Ag ng cg g7 sh Ah nh ch base l a w) (hb : l.getD 4 true = false) : InvStep (InvM2 x y w0 W s A n c s' A' n' c' t B m d t' B' m' d' g6 sg Ag ng cg g7 sh Ah nh ch base) 4 o ops Q l a w := by
 obtain ⟨HU, HV, HFA, HFB, HF1, HF, HBW, c0, c1, c2, c3, c4, c5, c6, c7, HG, c8, c9, HH, c10, c11⟩ := HH
 unfold InvStep
 have hu43 := Try.underlying43
 have hu45 := Try.underlying45
 obtain ⟨dst, op, ty, pos, after, guard⟩ := o
 simp only at hop hd hg
 subst hop hd hg
 obtain ⟨b0, b1, b2, b3, b4, b5, b6, b7, b8, b9, b10, b11, b12, b13, b14, b15, sv3, Av3, nv3, cv3, sv7, Av7, nv7, cv7, p8, sv9, Av9, nv9, cv9, v10, v11, p13, ⟨hl, HT, HS, E2, E3, E6, E7, HB, FW3, FW7, FS8, FW9, FV10, FV11, FB13, FC8, FC10, FC11, FC14, FD8_13⟩⟩ := hI
 subst hl
 obtain rfl : b4 = false := hb
 have e3 := HT.base_ 3 _ (by simp) E3
 go_simp
 exact ⟨b0, b1, b2, b3, true, b5, b6, b7, b8, b9, b10, b11, b12, b13, b14, b15, sv3, Av3, nv3, cv3, sv7, Av7, nv7, cv7, p8, sv9, Av9, nv9, cv9, v10, v11, p13, ⟨rfl, HT.put 4 27 _ rfl (show ([23, 24, 25, 26, 27, 28, 29, 30, 31, 32, 22, 33, 34, 8, 9] : List Nat).Nodup from by decide) (by rw [HS]; decide), HS, E2, E3, E6, E7, HB, FW3, FW7, FS8, FW9, FV10, FV11, FB13, FC8, FC10, FC11, FC14, FD8_13⟩⟩
theorem InvM2_s5 (HH : InvM2H x y w0 W s A n c s' A' n' c' t B m d t' B' m' d' g6 sg Ag ng cg g7 sh Ah nh ch) (hop : o.op = .load 43 (.tmp 27)) (hd : o.dst = some 28) (hg : o.guard = none) (hI : InvM2 x y w0 W s A n c s' A' n' c' t B m d t' B' m' d' g6 sg Ag ng cg g7 sh Ah nh ch base l a w) (hb : l.getD 5 true = false) (hn4 : l.getD 4 false = true) : InvStep (InvM2 x y w0 W s A n c s' A' n' c' t B m d t' B' m' d' g6 sg Ag ng cg g7 sh Ah nh ch base) 5 o ops Q l a w := by
 obtain ⟨HU, HV, HFA, HFB, HF1, HF, HBW, c0, c1, c2, c3, c4, c5, c6, c7, HG, c8, c9, HH, c10, c11⟩ := HH
 unfold InvStep
 have hu43 := Try.underlying43
 have hu45 := Try.underlying45
 obtain ⟨dst, op, ty, pos, after, guard⟩ := o
 simp only at hop hd hg
 subst hop hd hg
 obtain ⟨b0, b1, b2, b3, b4, b5, b6, b7, b8, b9, b10, b11, b12, b13, b14, b15, sv3, Av3, nv3, cv3, sv7, Av7, nv7, cv7, p8, sv9, Av9, nv9, cv9, v10, v11, p13, ⟨hl, HT, HS, E2, E3, E6, E7, HB, FW3, FW7, FS8, FW9, FV10, FV11, FB13, FC8, FC10, FC11, FC14, FD8_13⟩⟩ := hI
 subst hl
 obtain rfl : b5 = false := hb
 obtain rfl : b4 = true := hn4
 have e27 := HT.got 27 (.pointer (some ⟨w0.heap.size + 1, 0, none⟩)) (by repeat (first | exact List.mem_cons_self .. | apply List.mem_cons_of_mem))
 have kc4 := pw_cell_below HB c4.out
 have kc5 := pw_cell_below HB c5.out
 go_simp
 exact ⟨b0, b1, b2, b3, true, true, b6, b7, b8, b9, b10, b11, b12, b13, b14, b15, sv3, Av3, nv3, cv3, sv7, Av7, nv7, cv7, p8, sv9, Av9, nv9, cv9, v10, v11, p13, ⟨rfl, HT.put 5 28 _ rfl (show ([23, 24, 25, 26, 27, 28, 29, 30, 31, 32, 22, 33, 34, 8, 9] : List Nat).Nodup from by decide) (by rw [HS]; decide), HS, E2, E3, E6, E7, HB, FW3, FW7, FS8, FW9, FV10, FV11, FB13, FC8, FC10, FC11, FC14, FD8_13⟩⟩
theorem InvM2_s6 (HH : InvM2H x y w0 W s A n c s' A' n' c' t B m d t' B' m' d' g6 sg Ag ng cg g7 sh Ah nh ch) (hop : o.op = .load 43 (.tmp 7)) (hd : o.dst = some 29) (hg : o.guard = none) (hI : InvM2 x y w0 W s A n c s' A' n' c' t B m d t' B' m' d' g6 sg Ag ng cg g7 sh Ah nh ch base l a w) (hb : l.getD 6 true = false) : InvStep (InvM2 x y w0 W s A n c s' A' n' c' t B m d t' B' m' d' g6 sg Ag ng cg g7 sh Ah nh ch base) 6 o ops Q l a w := by
 obtain ⟨HU, HV, HFA, HFB, HF1, HF, HBW, c0, c1, c2, c3, c4, c5, c6, c7, HG, c8, c9, HH, c10, c11⟩ := HH
 unfold InvStep
 have hu43 := Try.underlying43
 have hu45 := Try.underlying45
 obtain ⟨dst, op, ty, pos, after, guard⟩ := o
 simp only at hop hd hg
 subst hop hd hg
 obtain ⟨b0, b1, b2, b3, b4, b5, b6, b7, b8, b9, b10, b11, b12, b13, b14, b15, sv3, Av3, nv3, cv3, sv7, Av7, nv7, cv7, p8, sv9, Av9, nv9, cv9, v10, v11, p13, ⟨hl, HT, HS, E2, E3, E6, E7, HB, FW3, FW7, FS8, FW9, FV10, FV11, FB13, FC8, FC10, FC11, FC14, FD8_13⟩⟩ := hI
 subst hl
 obtain rfl : b6 = false := hb
 have e7 := HT.base_ 7 _ (by simp) E7
 have kc10 := pw_cell_below HB c10.out
 have kc11 := pw_cell_below HB c11.out
 go_simp
 exact ⟨b0, b1, b2, b3, b4, b5, true, b7, b8, b9, b10, b11, b12, b13, b14, b15, sv3, Av3, nv3, cv3, sv7, Av7, nv7, cv7, p8, sv9, Av9, nv9, cv9, v10, v11, p13, ⟨rfl, HT.put 6 29 _ rfl (show ([23, 24, 25, 26, 27, 28, 29, 30, 31, 32, 22, 33, 34, 8, 9] : List Nat).Nodup from by decide) (by rw [HS]; decide), HS, E2, E3, E6, E7, HB, FW3, FW7, FS8, FW9, FV10, FV11, FB13, FC8, FC10, FC11, FC14, FD8_13⟩⟩
theorem InvM2_s7 (HH : InvM2H x y w0 W s A n c s' A' n' c' t B m d t' B' m' d' g6 sg Ag ng cg g7 sh Ah nh ch) (hop : o.op = .call { callee := .value (.func 62), args := #[.tmp 28, .tmp 29], argTypes := #[43, 43] }) (hd : o.dst = some 30) (hg : o.guard = none) (hI : InvM2 x y w0 W s A n c s' A' n' c' t B m d t' B' m' d' g6 sg Ag ng cg g7 sh Ah nh ch base l a w) (hb : l.getD 7 true = false) (hn5 : l.getD 5 false = true) (hn6 : l.getD 6 false = true) : InvStep (InvM2 x y w0 W s A n c s' A' n' c' t B m d t' B' m' d' g6 sg Ag ng cg g7 sh Ah nh ch base) 7 o ops Q l a w := by
 obtain ⟨HU, HV, HFA, HFB, HF1, HF, HBW, c0, c1, c2, c3, c4, c5, c6, c7, HG, c8, c9, HH, c10, c11⟩ := HH
 unfold InvStep
 have hu43 := Try.underlying43
 have hu45 := Try.underlying45
 obtain ⟨dst, op, ty, pos, after, guard⟩ := o
 simp only at hop hd hg
 subst hop hd hg
 obtain ⟨b0, b1, b2, b3, b4, b5, b6, b7, b8, b9, b10, b11, b12, b13, b14, b15, sv3, Av3, nv3, cv3, sv7, Av7, nv7, cv7, p8, sv9, Av9, nv9, cv9, v10, v11, p13, ⟨hl, HT, HS, E2, E3, E6, E7, HB, FW3, FW7, FS8, FW9, FV10, FV11, FB13, FC8, FC10, FC11, FC14, FD8_13⟩⟩ := hI
 subst hl
 obtain rfl : b7 = false := hb
 obtain rfl : b5 = true := hn5
 obtain rfl : b6 = true := hn6
 obtain rfl : b8 = false := by
  cases b8 with
  | true => exact absurd (FC8 rfl).2 (by decide)
  | false => rfl
 have e28 := HT.got 28 (.agg #[.bool t, .slice B m d]) (by repeat (first | exact List.mem_cons_self .. | apply List.mem_cons_of_mem))
 have e29 := HT.got 29 (.agg #[.bool sh, .slice Ah nh ch]) (by repeat (first | exact List.mem_cons_self .. | apply List.mem_cons_of_mem))
 go_simp
 go_at_call 62
 refine (over_calls _ _ y 1 _ ((HV.out.1.below HBW.out).below HB) (HH.out.2.below HB) HF.out.2.1 (by decide) (by decide)).mono ?_
 rintro e w2 ⟨v2, rfl, hX, hb2⟩
 rw [Int.ediv_one] at hX
 obtain ⟨sn, An, nn, cn, rfl, HX⟩ := hX.parts
 exact ⟨b0, b1, b2, b3, b4, true, true, true, false, b9, b10, b11, b12, b13, b14, b15, sv3, Av3, nv3, cv3, sn, An, nn, cn, p8, sv9, Av9, nv9, cv9, v10, v11, p13, ⟨rfl, HT.put 7 30 _ rfl (show ([23, 24, 25, 26, 27, 28, 29, 30, 31, 32, 22, 33, 34, 8, 9] : List Nat).Nodup from by decide) (by rw [HS]; decide), HS, E2, E3, E6, E7, below_step HB hb2, (fun h => (FW3 h).below hb2), (fun _ => HX.out), (fun h => absurd h (by decide)), (fun h => (FW9 h).below hb2), FV10, FV11, (fun h => ⟨(FB13 h).1, blk_below (FB13 h).2 hb2⟩), (fun h => absurd h (by decide)), FC10, FC11, FC14, FD8_13⟩⟩
theorem InvM2_s8 (HH : InvM2H x y w0 W s A n c s' A' n' c' t B m d t' B' m' d' g6 sg Ag ng cg g7 sh Ah nh ch) (hop : o.op = .buildSlice 123 2 #[(0, .tmp 26), (1, .tmp 30)]) (hd : o.dst = some 31) (hg : o.guard = none) (hI : InvM2 x y w0 W s A n c s' A' n' c' t B m d t' B' m' d' g6 sg Ag ng cg g7 sh Ah nh ch base l a w) (hb : l.getD 8 true = false) (hn3 : l.getD 3 false = true) (hn7 : l.getD 7 false = true) : InvStep (InvM2 x y w0 W s A n c s' A' n' c' t B m d t' B' m' d' g6 sg Ag ng cg g7 sh Ah nh ch base) 8 o ops Q l a w := by
 obtain ⟨HU, HV, HFA, HFB, HF1, HF, HBW, c0, c1, c2, c3, c4, c5, c6, c7, HG, c8, c9, HH, c10, c11⟩ := HH
 unfold InvStep
 have hu43 := Try.underlying43
 have hu45 := Try.underlying45
 obtain ⟨dst, op, ty, pos, after, guard⟩ := o
 simp only at hop hd hg
 subst hop hd hg
 obtain ⟨b0, b1, b2, b3, b4, b5, b6, b7, b8, b9, b10, b11, b12, b13, b14, b15, sv3, Av3, nv3, cv3, sv7, Av7, nv7, cv7, p8, sv9, Av9, nv9, cv9, v10, v11, p13, ⟨hl, HT, HS, E2, E3, E6, E7, HB, FW3, FW7, FS8, FW9, FV10, FV11, FB13, FC8, FC10, FC11, FC14, FD8_13⟩⟩ := hI
 subst hl
 obtain rfl : b8 = false := hb
 obtain rfl : b3 = true := hn3
 obtain rfl : b7 = true := hn7
 have e26 := HT.got 26 (.agg #[.bool sv3, .slice Av3 nv3 cv3]) (by repeat (first | exact List.mem_cons_self .. | apply List.mem_cons_of_mem))
 have e30 := HT.got 30 (.agg #[.bool sv7, .slice Av7 nv7 cv7]) (by repeat (first | exact List.mem_cons_self .. | apply List.mem_cons_of_mem))
 go_simp
 exact ⟨b0, b1, b2, true, b4, b5, b6, true, true, b9, b10, b11, b12, b13, b14, b15, sv3, Av3, nv3, cv3, sv7, Av7, nv7, cv7, w.heap.size, sv9, Av9, nv9, cv9, v10, v11, p13, ⟨rfl, HT.put 8 31 _ rfl (show ([23, 24, 25, 26, 27, 28, 29, 30, 31, 32, 22, 33, 34, 8, 9] : List Nat).Nodup from by decide) (by rw [HS]; decide), HS, E2, E3, E6, E7, below_alloc HB _, (fun h => (FW3 h).below (below_alloc (Below.refl _ _) _)), (fun h => (FW7 h).below (below_alloc (Below.refl _ _) _)), (fun _ => ⟨HB.size, blk_new w _⟩), (fun h => (FW9 h).below (below_alloc (Below.refl _ _) _)), FV10, FV11, (fun h => ⟨(FB13 h).1, blk_below (FB13 h).2 (below_alloc (Below.refl _ _) _)⟩), (fun _ => ⟨rfl, rfl⟩), FC10, FC11, FC14, (fun _ h => Nat.ne_of_gt (blk_lt (FB13 h).2))⟩⟩
theorem InvM2_s9 (HH : InvM2H x y w0 W s A n c s' A' n' c' t B m d t' B' m' d' g6 sg Ag ng cg g7 sh Ah nh ch) (hop : o.op = .call { callee := .value (.func 75), args := #[.tmp 31], argTypes := #[123] }) (hd : o.dst = some 32) (hg : o.guard = none) (hI : InvM2 x y w0 W s A n c s' A' n' c' t B m d t' B' m' d' g6 sg Ag ng cg g7 sh Ah nh ch base l a w) (hb : l.getD 9 true = false) (hn8 : l.getD 8 false = true) : InvStep (InvM2 x y w0 W s A n c s' A' n' c' t B m d t' B' m' d' g6 sg Ag ng cg g7 sh Ah nh ch base) 9 o ops Q l a w := by
 obtain ⟨HU, HV, HFA, HFB, HF1, HF, HBW, c0, c1, c2, c3, c4, c5, c6, c7, HG, c8, c9, HH, c10, c11⟩ := HH
 unfold InvStep
 have hu43 := Try.underlying43
 have hu45 := Try.underlying45
 obtain ⟨dst, op, ty, pos, after, guard⟩ := o
 simp only at hop hd hg
 subst hop hd hg
 obtain ⟨b0, b1, b2, b3, b4, b5, b6, b7, b8, b9, b10, b11, b12, b13, b14, b15, sv3, Av3, nv3, cv3, sv7, Av7, nv7, cv7, p8, sv9, Av9, nv9, cv9, v10, v11, p13, ⟨hl, HT, HS, E2, E3, E6, E7, HB, FW3, FW7, FS8, FW9, FV10, FV11, FB13, FC8, FC10, FC11, FC14, FD8_13⟩⟩ := hI
 subst hl
 obtain rfl : b9 = false := hb
 obtain rfl : b8 = true := hn8
 obtain rfl : b3 = true := (FC8 rfl).1
 obtain rfl : b7 = true := (FC8 rfl).2
 obtain rfl : b10 = false := by
  cases b10 with
  | true => exact absurd (FC10 rfl) (by decide)
  | false => rfl
 obtain rfl : b11 = false := by
  cases b11 with
  | true => exact absurd (FC11 rfl).1 (by decide)
  | false => rfl
 obtain rfl : b14 = false := by
  cases b14 with
  | true => exact absurd (FC14 rfl).1 (by decide)
  | false => rfl
 have e31 := HT.got 31 (.slice (some ⟨p8, 0, none⟩) 2 2) (by repeat (first | exact List.mem_cons_self .. | apply List.mem_cons_of_mem))
 go_simp
 go_at_call 75
 refine (ftimes_calls p8 sv3 Av3 nv3 cv3 sv7 Av7 nv7 cv7 x y _ (FS8 rfl).2 (FW3 rfl) (FW7 rfl) HF.out.1 HF.out.2.1 HF.out.2.2.1).mono ?_
 rintro e w2 ⟨v2, rfl, hX, hb2⟩
 obtain ⟨sn, An, nn, cn, rfl, HX⟩ := hX.parts
 exact ⟨b0, b1, b2, true, b4, b5, b6, true, true, true, false, false, b12, b13, false, b15, sv3, Av3, nv3, cv3, sv7, Av7, nv7, cv7, p8, sn, An, nn, cn, v10, v11, p13, ⟨rfl, HT.put 9 32 _ rfl (show ([23, 24, 25, 26, 27, 28, 29, 30, 31, 32, 22, 33, 34, 8, 9] : List Nat).Nodup from by decide) (by rw [HS]; decide), HS, E2, E3, E6, E7, below_step HB hb2, (fun h => (FW3 h).below hb2), (fun h => (FW7 h).below hb2), (fun h => ⟨(FS8 h).1, blk_below (FS8 h).2 hb2⟩), (fun _ => HX.out), (fun h => absurd h (by decide)), (fun h => absurd h (by decide)), (fun h => ⟨(FB13 h).1, blk_below (FB13 h).2 hb2⟩), FC8, (fun h => absurd h (by decide)), (fun h => absurd h (by decide)), (fun h => absurd h (by decide)), FD8_13⟩⟩
theorem InvM2_s10 (HH : InvM2H x y w0 W s A n c s' A' n' c' t B m d t' B' m' d' g6 sg Ag ng cg g7 sh Ah nh ch) (hop : o.op = .move (.tmp 32)) (hd : o.dst = some 22) (hg : o.guard = none) (hI : InvM2 x y w0 W s A n c s' A' n' c' t B m d t' B' m' d' g6 sg Ag ng cg g7 sh Ah nh ch base l a w) (hb : l.getD 10 true = false) (hn9 : l.getD 9 false = true) : InvStep (InvM2 x y w0 W s A n c s' A' n' c' t B m d t' B' m' d' g6 sg Ag ng cg g7 sh Ah nh ch base) 10 o ops Q l a w := by
 obtain ⟨HU, HV, HFA, HFB, HF1, HF, HBW, c0, c1, c2, c3, c4, c5, c6, c7, HG, c8, c9, HH, c10, c11⟩ := HH
 unfold InvStep
 have hu43 := Try.underlying43
 have hu45 := Try.underlying45
 obtain ⟨dst, op, ty, pos, after, guard⟩ := o
 simp only at hop hd hg
 subst hop hd hg
 obtain ⟨b0, b1, b2, b3, b4, b5, b6, b7, b8, b9, b10, b11, b12, b13, b14, b15, sv3, Av3, nv3, cv3, sv7, Av7, nv7, cv7, p8, sv9, Av9, nv9, cv9, v10, v11, p13, ⟨hl, HT, HS, E2, E3, E6, E7, HB, FW3, FW7, FS8, FW9, FV10, FV11, FB13, FC8, FC10, FC11, FC14, FD8_13⟩⟩ := hI
 subst hl
 obtain rfl : b10 = false := hb
 obtain rfl : b9 = true := hn9
 obtain rfl : b11 = false := by
  cases b11 with
  | true => exact absurd (FC11 rfl).2 (by decide)
  | false => rfl
 have e32 := HT.got 32 (.tuple #[.agg #[.bool sv9, .slice Av9 nv9 cv9], .int .i64 0]) (by repeat (first | exact List.mem_cons_self .. | apply List.mem_cons_of_mem))
 go_simp
 exact ⟨b0, b1, b2, b3, b4, b5, b6, b7, b8, true, true, false, b12, b13, b14, b15, sv3, Av3, nv3, cv3, sv7, Av7, nv7, cv7, p8, sv9, Av9, nv9, cv9, _, v11, p13, ⟨rfl, HT.put 10 22 _ rfl (show ([23, 24, 25, 26, 27, 28, 29, 30, 31, 32, 22, 33, 34, 8, 9] : List Nat).Nodup from by decide) (by rw [HS]; decide), HS, E2, E3, E6, E7, HB, FW3, FW7, FS8, FW9, (fun _ => rfl), (fun h => absurd h (by decide)), FB13, FC8, (fun _ => rfl), (fun h => absurd h (by decide)), FC14, FD8_13⟩⟩
theorem InvM2_s11 (HH : InvM2H x y w0 W s A n c s' A' n' c' t B m d t' B' m' d' g6 sg Ag ng cg g7 sh Ah nh ch) (hop : o.op = .extract (.tmp 22) 0) (hd : o.dst = some 33) (hg : o.guard = none) (hI : InvM2 x y w0 W s A n c s' A' n' c' t B m d t' B' m' d' g6 sg Ag ng cg g7 sh Ah nh ch base l a w) (hb : l.getD 11 true = false) (hn10 : l.getD 10 false = true) : InvStep (InvM2 x y w0 W s A n c s' A' n' c' t B m d t' B' m' d' g6 sg Ag ng cg g7 sh Ah nh ch base) 11 o ops Q l a w := by
 obtain ⟨HU, HV, HFA, HFB, HF1, HF, HBW, c0, c1, c2, c3, c4, c5, c6, c7, HG, c8, c9, HH, c10, c11⟩ := HH
 unfold InvStep
 have hu43 := Try.underlying43
 have hu45 := Try.underlying45
 obtain ⟨dst, op, ty, pos, after, guard⟩ := o
 simp only at hop hd hg
 subst hop hd hg
 obtain ⟨b0, b1, b2, b3, b4, b5, b6, b7, b8, b9, b10, b11, b12, b13, b14, b15, sv3, Av3, nv3, cv3, sv7, Av7, nv7, cv7, p8, sv9, Av9, nv9, cv9, v10, v11, p13, ⟨hl, HT, HS, E2, E3, E6, E7, HB, FW3, FW7, FS8, FW9, FV10, FV11, FB13, FC8, FC10, FC11, FC14, FD8_13⟩⟩ := hI
 subst hl
 obtain rfl : b11 = false := hb
 obtain rfl : b10 = true := hn10
 obtain rfl : b9 = true := (FC10 rfl)
 obtain rfl : b14 = false := by
  cases b14 with
  | true => exact absurd (FC14 rfl).2.1 (by decide)
  | false => rfl
 have e22 := (HT.got 22 (v10) (by repeat (first | exact List.mem_cons_self .. | apply List.mem_cons_of_mem))).trans (congrArg some (FV10 rfl))
 go_simp
 exact ⟨b0, b1, b2, b3, b4, b5, b6, b7, b8, true, true, true, b12, b13, false, b15, sv3, Av3, nv3, cv3, sv7, Av7, nv7, cv7, p8, sv9, Av9, nv9, cv9, v10, _, p13, ⟨rfl, HT.put 11 33 _ rfl (show ([23, 24, 25, 26, 27, 28, 29, 30, 31, 32, 22, 33, 34, 8, 9] : List Nat).Nodup from by decide) (by rw [HS]; decide), HS, E2, E3, E6, E7, HB, FW3, FW7, FS8, FW9, FV10, (fun _ => rfl), FB13, FC8, FC10, (fun _ => ⟨rfl, rfl⟩), (fun h => absurd h (by decide)), FD8_13⟩⟩
theorem InvM2_s12 (HH : InvM2H x y w0 W s A n c s' A' n' c' t B m d t' B' m' d' g6 sg Ag ng cg g7 sh Ah nh ch) (hop : o.op = .extract (.tmp 22) 1) (hd : o.dst = some 34) (hg : o.guard = none) (hI : InvM2 x y w0 W s A n c s' A' n' c' t B m d t' B' m' d' g6 sg Ag ng cg g7 sh Ah nh ch base l a w) (hb : l.getD 12 true = false) (hn10 : l.getD 10 false = true) : InvStep (InvM2 x y w0 W s A n c s' A' n' c' t B m d t' B' m' d' g6 sg Ag ng cg g7 sh Ah nh ch base) 12 o ops Q l a w := by
 obtain ⟨HU, HV, HFA, HFB, HF1, HF, HBW, c0, c1, c2, c3, c4, c5, c6, c7, HG, c8, c9, HH, c10, c11⟩ := HH
 unfold InvStep
 have hu43 := Try.underlying43
 have hu45 := Try.underlying45
 obtain ⟨dst, op, ty, pos, after, guard⟩ := o
 simp only at hop hd hg
 subst hop hd hg
 obtain ⟨b0, b1, b2, b3, b4, b5, b6, b7, b8, b9, b10, b11, b12, b13, b14, b15, sv3, Av3, nv3, cv3, sv7, Av7, nv7, cv7, p8, sv9, Av9, nv9, cv9, v10, v11, p13, ⟨hl, HT, HS, E2, E3, E6, E7, HB, FW3, FW7, FS8, FW9, FV10, FV11, FB13, FC8, FC10, FC11, FC14, FD8_13⟩⟩ := hI
 subst hl
 obtain rfl : b12 = false := hb
 obtain rfl : b10 = true := hn10
 obtain rfl : b9 = true := (FC10 rfl)
 have e22 := (HT.got 22 (v10) (by repeat (first | exact List.mem_cons_self .. | apply List.mem_cons_of_mem))).trans (congrArg some (FV10 rfl))
 go_simp
 exact ⟨b0, b1, b2, b3, b4, b5, b6, b7, b8, true, true, b11, true, b13, b14, b15, sv3, Av3, nv3, cv3, sv7, Av7, nv7, cv7, p8, sv9, Av9, nv9, cv9, v10, v11, p13, ⟨rfl, HT.put 12 34 _ rfl (show ([23, 24, 25, 26, 27, 28, 29, 30, 31, 32, 22, 33, 34, 8, 9] : List Nat).Nodup from by decide) (by rw [HS]; decide), HS, E2, E3, E6, E7, HB, FW3, FW7, FS8, FW9, FV10, FV11, FB13, FC8, FC10, FC11, FC14, FD8_13⟩⟩
theorem InvM2_s13 (HH : InvM2H x y w0 W s A n c s' A' n' c' t B m d t' B' m' d' g6 sg Ag ng cg g7 sh Ah nh ch) (hop : o.op = .alloc 43) (hd : o.dst = some 8) (hg : o.guard = none) (hI : InvM2 x y w0 W s A n c s' A' n' c' t B m d t' B' m' d' g6 sg Ag ng cg g7 sh Ah nh ch base l a w) (hb : l.getD 13 true = false) : InvStep (InvM2 x y w0 W s A n c s' A' n' c' t B m d t' B' m' d' g6 sg Ag ng cg g7 sh Ah nh ch base) 13 o ops Q l a w := by
 obtain ⟨HU, HV, HFA, HFB, HF1, HF, HBW, c0, c1, c2, c3, c4, c5, c6, c7, HG, c8, c9, HH, c10, c11⟩ := HH
 unfold InvStep
 have hu43 := Try.underlying43
 have hu45 := Try.underlying45
 obtain ⟨dst, op, ty, pos, after, guard⟩ := o
 simp only at hop hd hg
 subst hop hd hg
 obtain ⟨b0, b1, b2, b3, b4, b5, b6, b7, b8, b9, b10, b11, b12, b13, b14, b15, sv3, Av3, nv3, cv3, sv7, Av7, nv7, cv7, p8, sv9, Av9, nv9, cv9, v10, v11, p13, ⟨hl, HT, HS, E2, E3, E6, E7, HB, FW3, FW7, FS8, FW9, FV10, FV11, FB13, FC8, FC10, FC11, FC14, FD8_13⟩⟩ := hI
 subst hl
 obtain rfl : b13 = false := hb
 obtain rfl : b14 = false := by
  cases b14 with
  | true => exact absurd (FC14 rfl).2.2 (by decide)
  | false => rfl
 go_simp
 exact ⟨b0, b1, b2, b3, b4, b5, b6, b7, b8, b9, b10, b11, b12, true, false, b15, sv3, Av3, nv3, cv3, sv7, Av7, nv7, cv7, p8, sv9, Av9, nv9, cv9, v10, v11, w.heap.size, ⟨rfl, HT.put 13 8 _ rfl (show ([23, 24, 25, 26, 27, 28, 29, 30, 31, 32, 22, 33, 34, 8, 9] : List Nat).Nodup from by decide) (by rw [HS]; decide), HS, E2, E3, E6, E7, below_alloc HB _, (fun h => (FW3 h).below (below_alloc (Below.refl _ _) _)), (fun h => (FW7 h).below (below_alloc (Below.refl _ _) _)), (fun h => ⟨(FS8 h).1, blk_below (FS8 h).2 (below_alloc (Below.refl _ _) _)⟩), (fun h => (FW9 h).below (below_alloc (Below.refl _ _) _)), FV10, FV11, (fun _ => ⟨HB.size, blk_new w _⟩), FC8, FC10, FC11, (fun h => absurd h (by decide)), (fun h _ => Ne.symm (Nat.ne_of_gt (blk_lt (FS8 h).2)))⟩⟩
theorem InvM2_s14 (HH : InvM2H x y w0 W s A n c s' A' n' c' t B m d t' B' m' d' g6 sg Ag ng cg g7 sh Ah nh ch) (hop : o.op = .store 43 (.tmp 8) (.tmp 33)) (hd : o.dst = none) (hg : o.guard = none) (hI : InvM2 x y w0 W s A n c s' A' n' c' t B m d t' B' m' d' g6 sg Ag ng cg g7 sh Ah nh ch base l a w) (hb : l.getD 14 true = false) (hn11 : l.getD 11 false = true) (hn13 : l.getD 13 false = true) : InvStep (InvM2 x y w0 W s A n c s' A' n' c' t B m d t' B' m' d' g6 sg Ag ng cg g7 sh Ah nh ch base) 14 o ops Q l a w := by
 obtain ⟨HU, HV, HFA, HFB, HF1, HF, HBW, c0, c1, c2, c3, c4, c5, c6, c7, HG, c8, c9, HH, c10, c11⟩ := HH
 unfold InvStep
 have hu43 := Try.underlying43
 have hu45 := Try.underlying45
 obtain ⟨dst, op, ty, pos, after, guard⟩ := o
 simp only at hop hd hg
 subst hop hd hg
 obtain ⟨b0, b1, b2, b3, b4, b5, b6, b7, b8, b9, b10, b11, b12, b13, b14, b15, sv3, Av3, nv3, cv3, sv7, Av7, nv7, cv7, p8, sv9, Av9, nv9, cv9, v10, v11, p13, ⟨hl, HT, HS, E2, E3, E6, E7, HB, FW3, FW7, FS8, FW9, FV10, FV11, FB13, FC8, FC10, FC11, FC14, FD8_13⟩⟩ := hI
 subst hl
 obtain rfl : b14 = false := hb
 obtain rfl : b11 = true := hn11
 obtain rfl : b13 = true := hn13
 obtain rfl : b9 = true := (FC11 rfl).1
 obtain rfl : b10 = true := (FC11 rfl).2
 have e8 := HT.got 8 (.pointer (some ⟨p13, 0, none⟩)) (by repeat (first | exact List.mem_cons_self .. | apply List.mem_cons_of_mem))
 have e33 := (HT.got 33 (v11) (by repeat (first | exact List.mem_cons_self .. | apply List.mem_cons_of_mem))).trans (congrArg some (FV11 rfl))
 have hbk := (FB13 rfl).2
 have hge := (FB13 rfl).1
 have m0 : w.cell? ⟨p13, 0, none⟩ = some (.bool false) := blk_cell hbk 0
 have m1 : w.cell? ⟨p13, 1, none⟩ = some (.slice none 0 0) := blk_cell hbk 1
 have f0 := blk_frozen hbk 0
 have f1 := blk_frozen hbk 1
 have hk := IntKeep.set2 hbk sv9 Av9 nv9 cv9
 go_simp
 exact ⟨b0, b1, b2, b3, b4, b5, b6, b7, b8, true, true, true, b12, true, true, b15, sv3, Av3, nv3, cv3, sv7, Av7, nv7, cv7, p8, sv9, Av9, nv9, cv9, v10, v11, p13, ⟨rfl, HT, HS, E2, E3, E6, E7, ((HB.setCell (p := ⟨p13, 0, none⟩) hge _).setCell (p := ⟨p13, 1, none⟩) hge _), (fun h => (FW3 h).keep hk), (fun h => (FW7 h).keep hk), (fun h => ⟨(FS8 h).1, blk_far (blk_far (FS8 h).2 (p := ⟨p13, 0, none⟩) (FD8_13 h rfl) _) (p := ⟨p13, 1, none⟩) (FD8_13 h rfl) _⟩), (fun h => (FW9 h).keep hk), FV10, FV11, (fun _ => ⟨hge, blk_put (blk_put hbk 0 _ rfl) 1 _ rfl⟩), FC8, FC10, FC11, (fun _ => ⟨rfl, rfl, rfl⟩), FD8_13⟩⟩
theorem InvM2_s15 (HH : InvM2H x y w0 W s A n c s' A' n' c' t B m d t' B' m' d' g6 sg Ag ng cg g7 sh Ah nh ch) (hop : o.op = .assign (.tmp 34)) (hd : o.dst = some 9) (hg : o.guard = none) (hI : InvM2 x y w0 W s A n c s' A' n' c' t B m d t' B' m' d' g6 sg Ag ng cg g7 sh Ah nh ch base l a w) (hb : l.getD 15 true = false) (hn12 : l.getD 12 false = true) : InvStep (InvM2 x y w0 W s A n c s' A' n' c' t B m d t' B' m' d' g6 sg Ag ng cg g7 sh Ah nh ch base) 15 o ops Q l a w := by
 obtain ⟨HU, HV, HFA, HFB, HF1, HF, HBW, c0, c1, c2, c3, c4, c5, c6, c7, HG, c8, c9, HH, c10, c11⟩ := HH
 unfold InvStep
 have hu43 := Try.underlying43
 have hu45 := Try.underlying45
 obtain ⟨dst, op, ty, pos, after, guard⟩ := o
 simp only at hop hd hg
 subst hop hd hg
 obtain ⟨b0, b1, b2, b3, b4, b5, b6, b7, b8, b9, b10, b11, b12, b13, b14, b15, sv3, Av3, nv3, cv3, sv7, Av7, nv7, cv7, p8, sv9, Av9, nv9, cv9, v10, v11, p13, ⟨hl, HT, HS, E2, E3, E6, E7, HB, FW3, FW7, FS8, FW9, FV10, FV11, FB13, FC8, FC10, FC11, FC14, FD8_13⟩⟩ := hI
 subst hl
 obtain rfl : b15 = false := hb
 obtain rfl : b12 = true := hn12
 have e34 := HT.got 34 (.int .i64 0) (by repeat (first | exact List.mem_cons_self .. | apply List.mem_cons_of_mem))
 go_simp
 exact ⟨b0, b1, b2, b3, b4, b5, b6, b7, b8, b9, b10, b11, true, b13, b14, true, sv3, Av3, nv3, cv3, sv7, Av7, nv7, cv7, p8, sv9, Av9, nv9, cv9, v10, v11, p13, ⟨rfl, HT.put 14 9 _ rfl (show ([23, 24, 25, 26, 27, 28, 29, 30, 31, 32, 22, 33, 34, 8, 9] : List Nat).Nodup from by decide) (by rw [HS]; decide), HS, E2, E3, E6, E7, HB, FW3, FW7, FS8, FW9, FV10, FV11, FB13, FC8, FC10, FC11, FC14, FD8_13⟩⟩
structure InvM3F (x y : Int) (w0 W : World) (s : Bool) (A : Option Addr) (n c : Nat) (s' : Bool) (A' : Option Addr) (n' c' : Nat) (t : Bool) (B : Option Addr) (m d : Nat) (t' : Bool) (B' : Option Addr) (m' d' : Nat) (g6 : Nat) (sg : Bool) (Ag : Option Addr) (ng cg : Nat) (g7 : Nat) (sh : Bool) (Ah : Option Addr) (nh ch : Nat) (b0 b1 b2 b3 b4 b5 b6 b7 b8 b9 b10 b11 b12 b13 b14 b15 : Bool) (sv1 : Bool) (Av1 : Option Addr) (nv1 cv1 : Nat) (sv3 : Bool) (Av3 : Option Addr) (nv3 cv3 : Nat) (sv5 : Bool) (Av5 : Option Addr) (nv5 cv5 : Nat) (sv7 : Bool) (Av7 : Option Addr) (nv7 cv7 : Nat) (p8 : Nat) (sv9 : Bool) (Av9 : Option Addr) (nv9 cv9 : Nat) (v10 : Value) (v11 : Value) (p13 : Nat) (base : Array Value) (l : List Bool) (a : Act) (w : World) : Prop where
 hl : l = [b0, b1, b2, b3, b4, b5, b6, b7, b8, b9, b10, b11, b12, b13, b14, b15]
 HT : Tm a base [(b0, 36, .agg #[.bool s, .slice A n c, .bool s', .slice A' n' c']), (b1, 37, .agg #[.bool sv1, .slice Av1 nv1 cv1]), (b2, 38, .agg #[.bool sh, .slice Ah nh ch]), (b3, 39, .agg #[.bool sv3, .slice Av3 nv3 cv3]), (b4, 40, .agg #[.bool t, .slice B m d, .bool t', .slice B' m' d']), (b5, 41, .agg #[.bool sv5, .slice Av5 nv5 cv5]), (b6, 42, .agg #[.bool sg, .slice Ag ng cg]), (b7, 43, .agg #[.bool sv7, .slice Av7 nv7 cv7]), (b8, 44, .slice (some ⟨p8, 0, none⟩) 2 2), (b9, 45, .tuple #[.agg #[.bool sv9, .slice Av9 nv9 cv9], .int .i64 0]), (b10, 35, v10), (b11, 46, v11), (b12, 47, .int .i64 0), (b13, 10, .pointer (some ⟨p13, 0, none⟩)), (b15, 11, .int .i64 0)]
 HS : base.size = 55
 E2 : base[2]? = some (.pointer (some ⟨w0.heap.size, 0, none⟩))
 E3 : base[3]? = some (.pointer (some ⟨w0.heap.size + 1, 0, none⟩))
 E6 : base[6]? = some (.pointer (some ⟨g6, 0, none⟩))
 E7 : base[7]? = some (.pointer (some ⟨g7, 0, none⟩))
 HB : Below W.heap.size W w
 FW1 : (b1 = true → WI w (.agg #[.bool sv1, .slice Av1 nv1 cv1]) (1))
 FW3 : (b3 = true → WI w (.agg #[.bool sv3, .slice Av3 nv3 cv3]) (1))
 FW5 : (b5 = true → WI w (.agg #[.bool sv5, .slice Av5 nv5 cv5]) (1))
 FW7 : (b7 = true → WI w (.agg #[.bool sv7, .slice Av7 nv7 cv7]) (1))
 FS8 : (b8 = true → W.heap.size ≤ p8 ∧ w.heap[p8]? = some (.cells #[.bool sv3, .slice Av3 nv3 cv3, .bool sv7, .slice Av7 nv7 cv7] 43 (0, 0)))
 FW9 : (b9 = true → WI w (.agg #[.bool sv9, .slice Av9 nv9 cv9]) (1))
 FV10 : (b10 = true → v10 = .tuple #[.agg #[.bool sv9, .slice Av9 nv9 cv9], .int .i64 0])
 FV11 : (b11 = true → v11 = .agg #[.bool sv9, .slice Av9 nv9 cv9])
 FB13 : (b13 = true → W.heap.size ≤ p13 ∧ w.heap[p13]? = some (.cells (if b14 then #[.bool sv9, .slice Av9 nv9 cv9] else #[.bool false, .slice none 0 0]) 43 (0, 0)))
 FC8 : (b8 = true → b3 = true ∧ b7 = true)
 FC10 : (b10 = true → b9 = true)
 FC11 : (b11 = true → b9 = true ∧ b10 = true)
 FC14 : (b14 = true → b9 = true ∧ b11 = true ∧ b13 = true)
 FD8_13 : (b8 = true → b13 = true → p8 ≠ p13)
def InvM3 (x y : Int) (w0 W : World) (s : Bool) (A : Option Addr) (n c : Nat) (s' : Bool) (A' : Option Addr) (n' c' : Nat) (t : Bool) (B : Option Addr) (m d : Nat) (t' : Bool) (B' : Option Addr) (m' d' : Nat) (g6 : Nat) (sg : Bool) (Ag : Option Addr) (ng cg : Nat) (g7 : Nat) (sh : Bool) (Ah : Option Addr) (nh ch : Nat) (base : Array Value) (l : List Bool) (a : Act) (w : World) : Prop := ∃ (b0 b1 b2 b3 b4 b5 b6 b7 b8 b9 b10 b11 b12 b13 b14 b15 : Bool) (sv1 : Bool) (Av1 : Option Addr) (nv1 cv1 : Nat) (sv3 : Bool) (Av3 : Option Addr) (nv3 cv3 : Nat) (sv5 : Bool) (Av5 : Option Addr) (nv5 cv5 : Nat) (sv7 : Bool) (Av7 : Option Addr) (nv7 cv7 : Nat) (p8 : Nat) (sv9 : Bool) (Av9 : Option Addr) (nv9 cv9 : Nat) (v10 : Value) (v11 : Value) (p13 : Nat), InvM3F x y w0 W s A n c s' A' n' c' t B m d t' B' m' d' g6 sg Ag ng cg g7 sh Ah nh ch b0 b1 b2 b3 b4 b5 b6 b7 b8 b9 b10 b11 b12 b13 b14 b15 sv1 Av1 nv1 cv1 sv3 Av3 nv3 cv3 sv5 Av5 nv5 cv5 sv7 Av7 nv7 cv7 p8 sv9 Av9 nv9 cv9 v10 v11 p13 base l a w
structure InvM3H (x y : Int) (w0 W : World) (s : Bool) (A : Option Addr) (n c : Nat) (s' : Bool) (A' : Option Addr) (n' c' : Nat) (t : Bool) (B : Option Addr) (m d : Nat) (t' : Bool) (B' : Option Addr) (m' d' : Nat) (g6 : Nat) (sg : Bool) (Ag : Option Addr) (ng cg : Nat) (g7 : Nat) (sh : Bool) (Ah : Option Addr) (nh ch : Nat) : Prop where
 HU : Aside0 (WI w0 (.agg #[.bool s, .slice A n c]) x ∧ WI w0 (.agg #[.bool s', .slice A' n' c']) 0)
 HV : Aside0 (WI w0 (.agg #[.bool t, .slice B m d]) y ∧ WI w0 (.agg #[.bool t', .slice B' m' d']) 0)
 HFA : Aside0 (FI w0 (.agg #[.bool s, .slice A n c, .bool s', .slice A' n' c']) x)
 HFB : Aside0 (FI w0 (.agg #[.bool t, .slice B m d, .bool t', .slice B' m' d']) y)
 HF1 : Aside0 (Fit 1)
 HF : Aside0 (Fit x ∧ Fit y ∧ Fit (x * y) ∧ Fit (1 * 1))
 HBW : Aside0 (Below w0.heap.size w0 W)
 c0 : Aside0 (W.cell? ⟨w0.heap.size, 0, none⟩ = some (.bool s))
 c1 : Aside0 (W.cell? ⟨w0.heap.size, 1, none⟩ = some (.slice A n c))
 c2 : Aside0 (W.cell? ⟨w0.heap.size, 2, none⟩ = some (.bool s'))
 c3 : Aside0 (W.cell? ⟨w0.heap.size, 3, none⟩ = some (.slice A' n' c'))
 c4 : Aside0 (W.cell? ⟨w0.heap.size + 1, 0, none⟩ = some (.bool t))
 c5 : Aside0 (W.cell? ⟨w0.heap.size + 1, 1, none⟩ = some (.slice B m d))
 c6 : Aside0 (W.cell? ⟨w0.heap.size + 1, 2, none⟩ = some (.bool t'))
 c7 : Aside0 (W.cell? ⟨w0.heap.size + 1, 3, none⟩ = some (.slice B' m' d'))
 HG : Aside0 (W.heap[g6]? = some (.cells #[.bool sg, .slice Ag ng cg] 43 (0, 0)) ∧ WI W (.agg #[.bool sg, .slice Ag ng cg]) 1)
 c8 : Aside0 (W.cell? ⟨g6, 0, none⟩ = some (.bool sg))
 c9 : Aside0 (W.cell? ⟨g6, 1, none⟩ = some (.slice Ag ng cg))
 HH : Aside0 (W.heap[g7]? = some (.cells #[.bool sh, .slice Ah nh ch] 43 (0, 0)) ∧ WI W (.agg #[.bool sh, .slice Ah nh ch]) 1)
 c10 : Aside0 (W.cell? ⟨g7, 0, none⟩ = some (.bool sh))
 c11 : Aside0 (W.cell? ⟨g7, 1, none⟩ = some (.slice Ah nh ch))
theorem InvM3_s0 (HH : InvM3H x y w0 W s A n c s' A' n' c' t B m d t' B' m' d' g6 sg Ag ng cg g7 sh Ah nh ch) (hop : o.op = .load 45 (.tmp 2)) (hd : o.dst = some 36) (hg : o.guard = none) (hI : InvM3 x y w0 W s A n c s' A' n' c' t B m d t' B' m' d' g6 sg Ag ng cg g7 sh Ah nh ch base l a w) (hb : l.getD 0 true = false) : InvStep (InvM3 x y w0 W s A n c s' A' n' c' t B m d t' B' m' d' g6 sg Ag ng cg g7 sh Ah nh ch base) 0 o ops Q l a w := by
 obtain ⟨HU, HV, HFA, HFB, HF1, HF, HBW, c0, c1, c2, c3, c4, c5, c6, c7, HG, c8, c9, HH, c10, c11⟩ := HH
 unfold InvStep
 have hu43 := Try.underlying43
 have hu45 := Try.underlying45
 obtain ⟨dst, op, ty, pos, after, guard⟩ := o
 simp only at hop hd hg
 subst hop hd hg
 obtain ⟨b0, b1, b2, b3, b4, b5, b6, b7, b8, b9, b10, b11, b12, b13, b14, b15, sv1, Av1, nv1, cv1, sv3, Av3, nv3, cv3, sv5, Av5, nv5, cv5, sv7, Av7, nv7, cv7, p8, sv9, Av9, nv9, cv9, v10, v11, p13, ⟨hl, HT, HS, E2, E3, E6, E7, HB, FW1, FW3, FW5, FW7, FS8, FW9, FV10, FV11, FB13, FC8, FC10, FC11, FC14, FD8_13⟩⟩ := hI
 subst hl
 obtain rfl : b0 = false := hb
 have e2 := HT.base_ 2 _ (by simp) E2
 have kc0 := pw_cell_below HB c0.out
 have kc1 := pw_cell_below HB c1.out
 have kc2 := pw_cell_below HB c2.out
 have kc3 := pw_cell_below HB c3.out
 go_simp
 exact ⟨true, b1, b2, b3, b4, b5, b6, b7, b8, b9, b10, b11, b12, b13, b14, b15, sv1, Av1, nv1, cv1, sv3, Av3, nv3, cv3, sv5, Av5, nv5, cv5, sv7, Av7, nv7, cv7, p8, sv9, Av9, nv9, cv9, v10, v11, p13, ⟨rfl, HT.put 0 36 _ rfl (show ([36, 37, 38, 39, 40, 41, 42, 43, 44, 45, 35, 46, 47, 10, 11] : List Nat).Nodup from by decide) (by rw [HS]; decide), HS, E2, E3, E6, E7, HB, FW1, FW3, FW5, FW7, FS8, FW9, FV10, FV11, FB13, FC8, FC10, FC11, FC14, FD8_13⟩⟩
theorem InvM3_s1 (HH : InvM3H x y w0 W s A n c s' A' n' c' t B m d t' B' m' d' g6 sg Ag ng cg g7 sh Ah nh ch) (hop : o.op = .call { callee := .value (.func 46), args := #[.tmp 36], argTypes := #[45] }) (hd : o.dst = some 37) (hg : o.guard = none) (hI : InvM3 x y w0 W s A n c s' A' n' c' t B m d t' B' m' d' g6 sg Ag ng cg g7 sh Ah nh ch base l a w) (hb : l.getD 1 true = false) (hn0 : l.getD 0 false = true) : InvStep (InvM3 x y w0 W s A n c s' A' n' c' t B m d t' B' m' d' g6 sg Ag ng cg g7 sh Ah nh ch base) 1 o ops Q l a w := by
 obtain ⟨HU, HV, HFA, HFB, HF1, HF, HBW, c0, c1, c2, c3, c4, c5, c6, c7, HG, c8, c9, HH, c10, c11⟩ := HH
 unfold InvStep
 have hu43 := Try.underlying43
 have hu45 := Try.underlying45
 obtain ⟨dst, op, ty, pos, after, guard⟩ := o
 simp only at hop hd hg
 subst hop hd hg
 obtain ⟨b0, b1, b2, b3, b4, b5, b6, b7, b8, b9, b10, b11, b12, b13, b14, b15, sv1, Av1, nv1, cv1, sv3, Av3, nv3, cv3, sv5, Av5, nv5, cv5, sv7, Av7, nv7, cv7, p8, sv9, Av9, nv9, cv9, v10, v11, p13, ⟨hl, HT, HS, E2, E3, E6, E7, HB, FW1, FW3, FW5, FW7, FS8, FW9, FV10, FV11, FB13, FC8, FC10, FC11, FC14, FD8_13⟩⟩ := hI
 subst hl
 obtain rfl : b1 = false := hb
 obtain rfl : b0 = true := hn0
 have e36 := HT.got 36 (.agg #[.bool s, .slice A n c, .bool s', .slice A' n' c']) (by repeat (first | exact List.mem_cons_self .. | apply List.mem_cons_of_mem))
 go_simp
 go_at_call 46
 refine (Den_calls _ x _ ((HFA.out.below HBW.out).below HB)).mono ?_
 rintro e w2 ⟨v2, rfl, hX, hb2⟩
 obtain ⟨sn, An, nn, cn, rfl, HX⟩ := hX.parts
 exact ⟨true, true, b2, b3, b4, b5, b6, b7, b8, b9, b10, b11, b12, b13, b14, b15, sn, An, nn, cn, sv3, Av3, nv3, cv3, sv5, Av5, nv5, cv5, sv7, Av7, nv7, cv7, p8, sv9, Av9, nv9, cv9, v10, v11, p13, ⟨rfl, HT.put 1 37 _ rfl (show ([36, 37, 38, 39, 40, 41, 42, 43, 44, 45, 35, 46, 47, 10, 11] : List Nat).Nodup from by decide) (by rw [HS]; decide), HS, E2, E3, E6, E7, below_step HB hb2, (fun _ => HX.out), (fun h => (FW3 h).below hb2), (fun h => (FW5 h).below hb2), (fun h => (FW7 h).below hb2), (fun h => ⟨(FS8 h).1, blk_below (FS8 h).2 hb2⟩), (fun h => (FW9 h).below hb2), FV10, FV11, (fun h => ⟨(FB13 h).1, blk_below (FB13 h).2 hb2⟩), FC8, FC10, FC11, FC14, FD8_13⟩⟩
theorem InvM3_s2 (HH : InvM3H x y w0 W s A n c s' A' n' c' t B m d t' B' m' d' g6 sg Ag ng cg g7 sh Ah nh ch) (hop : o.op = .load 43 (.tmp 7)) (hd : o.dst = some 38) (hg : o.guard = none) (hI : InvM3 x y w0 W s A n c s' A' n' c' t B m d t' B' m' d' g6 sg Ag ng cg g7 sh Ah nh ch base l a w) (hb : l.getD 2 true = false) : InvStep (InvM3 x y w0 W s A n c s' A' n' c' t B m d t' B' m' d' g6 sg Ag ng cg g7 sh Ah nh ch base) 2 o ops Q l a w := by
 obtain ⟨HU, HV, HFA, HFB, HF1, HF, HBW, c0, c1, c2, c3, c4, c5, c6, c7, HG, c8, c9, HH, c10, c11⟩ := HH
 unfold InvStep
 have hu43 := Try.underlying43
 have hu45 := Try.underlying45
 obtain ⟨dst, op, ty, pos, after, guard⟩ := o
 simp only at hop hd hg
 subst hop hd hg
 obtain ⟨b0, b1, b2, b3, b4, b5, b6, b7, b8, b9, b10, b11, b12, b13, b14, b15, sv1, Av1, nv1, cv1, sv3, Av3, nv3, cv3, sv5, Av5, nv5, cv5, sv7, Av7, nv7, cv7, p8, sv9, Av9, nv9, cv9, v10, v11, p13, ⟨hl, HT, HS, E2, E3, E6, E7, HB, FW1, FW3, FW5, FW7, FS8, FW9, FV10, FV11, FB13, FC8, FC10, FC11, FC14, FD8_13⟩⟩ := hI
 subst hl
 obtain rfl : b2 = false := hb
 have e7 := HT.base_ 7 _ (by simp) E7
 have kc10 := pw_cell_below HB c10.out
 have kc11 := pw_cell_below HB c11.out
 go_simp
 exact ⟨b0, b1, true, b3, b4, b5, b6, b7, b8, b9, b10, b11, b12, b13, b14, b15, sv1, Av1, nv1, cv1, sv3, Av3, nv3, cv3, sv5, Av5, nv5, cv5, sv7, Av7, nv7, cv7, p8, sv9, Av9, nv9, cv9, v10, v11, p13, ⟨rfl, HT.put 2 38 _ rfl (show ([36, 37, 38, 39, 40, 41, 42, 43, 44, 45, 35, 46, 47, 10, 11] : List Nat).Nodup from by decide) (by rw [HS]; decide), HS, E2, E3, E6, E7, HB, FW1, FW3, FW5, FW7, FS8, FW9, FV10, FV11, FB13, FC8, FC10, FC11, FC14, FD8_13⟩⟩
theorem InvM3_s3 (HH : InvM3H x y w0 W s A n c s' A' n' c' t B m d t' B' m' d' g6 sg Ag ng cg g7 sh Ah nh ch) (hop : o.op = .call { callee := .value (.func 62), args := #[.tmp 37, .tmp 38], argTypes := #[43, 43] }) (hd : o.dst = some 39) (hg : o.guard = none) (hI : InvM3 x y w0 W s A n c s' A' n' c' t B m d t' B' m' d' g6 sg Ag ng cg g7 sh Ah nh ch base l a w) (hb : l.getD 3 true = false) (hn1 : l.getD 1 false = true) (hn2 : l.getD 2 false = true) : InvStep (InvM3 x y w0 W s A n c s' A' n' c' t B m d t' B' m' d' g6 sg Ag ng cg g7 sh Ah nh ch base) 3 o ops Q l a w := by
 obtain ⟨HU, HV, HFA, HFB, HF1, HF, HBW, c0, c1, c2, c3, c4, c5, c6, c7, HG, c8, c9, HH, c10, c11⟩ := HH
 unfold InvStep
 have hu43 := Try.underlying43
 have hu45 := Try.underlying45
 obtain ⟨dst, op, ty, pos, after, guard⟩ := o
 simp only at hop hd hg
 subst hop hd hg
 obtain ⟨b0, b1, b2, b3, b4, b5, b6, b7, b8, b9, b10, b11, b12, b13, b14, b15, sv1, Av1, nv1, cv1, sv3, Av3, nv3, cv3, sv5, Av5, nv5, cv5, sv7, Av7, nv7, cv7, p8, sv9, Av9, nv9, cv9, v10, v11, p13, ⟨hl, HT, HS, E2, E3, E6, E7, HB, FW1, FW3, FW5, FW7, FS8, FW9, FV10, FV11, FB13, FC8, FC10, FC11, FC14, FD8_13⟩⟩ := hI
 subst hl
 obtain rfl : b3 = false := hb
 obtain rfl : b1 = true := hn1
 obtain rfl : b2 = true := hn2
 obtain rfl : b8 = false := by
  cases b8 with
  | true => exact absurd (FC8 rfl).1 (by decide)
  | false => rfl
 have e37 := HT.got 37 (.agg #[.bool sv1, .slice Av1 nv1 cv1]) (by repeat (first | exact List.mem_cons_self .. | apply List.mem_cons_of_mem))
 have e38 := HT.got 38 (.agg #[.bool sh, .slice Ah nh ch]) (by repeat (first | exact List.mem_cons_self .. | apply List.mem_cons_of_mem))
 go_simp
 go_at_call 62
 refine (over_calls _ _ 1 1 _ (FW1 rfl) (HH.out.2.below HB) HF1.out (by decide) (by decide)).mono ?_
 rintro e w2 ⟨v2, rfl, hX, hb2⟩
 rw [Int.ediv_one] at hX
 obtain ⟨sn, An, nn, cn, rfl, HX⟩ := hX.parts
 exact ⟨b0, true, true, true, b4, b5, b6, b7, false, b9, b10, b11, b12, b13, b14, b15, sv1, Av1, nv1, cv1, sn, An, nn, cn, sv5, Av5, nv5, cv5, sv7, Av7, nv7, cv7, p8, sv9, Av9, nv9, cv9, v10, v11, p13, ⟨rfl, HT.put 3 39 _ rfl (show ([36, 37, 38, 39, 40, 41, 42, 43, 44, 45, 35, 46, 47, 10, 11] : List Nat).Nodup from by decide) (by rw [HS]; decide), HS, E2, E3, E6, E7, below_step HB hb2, (fun h => (FW1 h).below hb2), (fun _ => HX.out), (fun h => (FW5 h).below hb2), (fun h => (FW7 h).below hb2), (fun h => absurd h (by decide)), (fun h => (FW9 h).below hb2), FV10, FV11, (fun h => ⟨(FB13 h).1, blk_below (FB13 h).2 hb2⟩), (fun h => absurd h (by decide)), FC10, FC11, FC14, FD8_13⟩⟩
theorem InvM3_s4 (HH : InvM3H x y w0 W s A n c s' A' n' c' t B m d t' B' m' d' g6 sg Ag ng cg g7 sh Ah nh ch) (hop : o.op = .load 45 (.tmp 3)) (hd : o.dst = some 40) (hg : o.guard = none) (hI : InvM3 x y w0 W s A n c s' A' n' c' t B m d t' B' m' d' g6 sg Ag ng cg g7 sh Ah nh ch base l a w) (hb : l.getD 4 true = false) : InvStep (InvM3 x y w0 W s A n c s' A' n' c' t B m d t' B' m' d' g6 sg Ag ng cg g7 sh Ah nh ch base) 4 o ops Q l a w := by
 obtain ⟨HU, HV, HFA, HFB, HF1, HF, HBW, c0, c1, c2, c3, c4, c5, c6, c7, HG, c8, c9, HH, c10, c11⟩ := HH
 unfold InvStep
 have hu43 := Try.underlying43
 have hu45 := Try.underlying45
 obtain ⟨dst, op, ty, pos, after, guard⟩ := o
 simp only at hop hd hg
 subst hop hd hg
 obtain ⟨b0, b1, b2, b3, b4, b5, b6, b7, b8, b9, b10, b11, b12, b13, b14, b15, sv1, Av1, nv1, cv1, sv3, Av3, nv3, cv3, sv5, Av5, nv5, cv5, sv7, Av7, nv7, cv7, p8, sv9, Av9, nv9, cv9, v10, v11, p13, ⟨hl, HT, HS, E2, E3, E6, E7, HB, FW1, FW3, FW5, FW7, FS8, FW9, FV10, FV11, FB13, FC8, FC10, FC11, FC14, FD8_13⟩⟩ := hI
 subst hl
 obtain rfl : b4 = false := hb
 have e3 := HT.base_ 3 _ (by simp) E3
 have kc4 := pw_cell_below HB c4.out
 have kc5 := pw_cell_below HB c5.out
 have kc6 := pw_cell_below HB c6.out
 have kc7 := pw_cell_below HB c7.out
 go_simp
 exact ⟨b0, b1, b2, b3, true, b5, b6, b7, b8, b9, b10, b11, b12, b13, b14, b15, sv1, Av1, nv1, cv1, sv3, Av3, nv3, cv3, sv5, Av5, nv5, cv5, sv7, Av7, nv7, cv7, p8, sv9, Av9, nv9, cv9, v10, v11, p13, ⟨rfl, HT.put 4 40 _ rfl (show ([36, 37, 38, 39, 40, 41, 42, 43, 44, 45, 35, 46, 47, 10, 11] : List Nat).Nodup from by decide) (by rw [HS]; decide), HS, E2, E3, E6, E7, HB, FW1, FW3, FW5, FW7, FS8, FW9, FV10, FV11, FB13, FC8, FC10, FC11, FC14, FD8_13⟩⟩
theorem InvM3_s5 (HH : InvM3H x y w0 W s A n c s' A' n' c' t B m d t' B' m' d' g6 sg Ag ng cg g7 sh Ah nh ch) (hop : o.op = .call { callee := .value (.func 46), args := #[.tmp 40], argTypes := #[45] }) (hd : o.dst = some 41) (hg : o.guard = none) (hI : InvM3 x y w0 W s A n c s' A' n' c' t B m d t' B' m' d' g6 sg Ag ng cg g7 sh Ah nh ch base l a w) (hb : l.getD 5 true = false) (hn4 : l.getD 4 false = true) : InvStep (InvM3 x y w0 W s A n c s' A' n' c' t B m d t' B' m' d' g6 sg Ag ng cg g7 sh Ah nh ch base) 5 o ops Q l a w := by
 obtain ⟨HU, HV, HFA, HFB, HF1, HF, HBW, c0, c1, c2, c3, c4, c5, c6, c7, HG, c8, c9, HH, c10, c11⟩ := HH
 unfold InvStep
 have hu43 := Try.underlying43
 have hu45 := Try.underlying45
 obtain ⟨dst, op, ty, pos, after, guard⟩ := o
 simp only at hop hd hg
 subst hop hd hg
 obtain ⟨b0, b1, b2, b3, b4, b5, b6, b7, b8, b9, b10, b11, b12, b13, b14, b15, sv1, Av1, nv1, cv1, sv3, Av3, nv3, cv3, sv5, Av5, nv5, cv5, sv7, Av7, nv7, cv7, p8, sv9, Av9, nv9, cv9, v10, v11, p13, ⟨hl, HT, HS, E2, E3, E6, E7, HB, FW1, FW3, FW5, FW7, FS8, FW9, FV10, FV11, FB13, FC8, FC10, FC11, FC14, FD8_13⟩⟩ := hI
 subst hl
 obtain rfl : b5 = false := hb
 obtain rfl : b4 = true := hn4
 have e40 := HT.got 40 (.agg #[.bool t, .slice B m d, .bool t', .slice B' m' d']) (by repeat (first | exact List.mem_cons_self .. | apply List.mem_cons_of_mem))
 go_simp
 go_at_call 46
 refine (Den_calls _ y _ ((HFB.out.below HBW.out).below HB)).mono ?_
 rintro e w2 ⟨v2, rfl, hX, hb2⟩
 obtain ⟨sn, An, nn, cn, rfl, HX⟩ := hX.parts
 exact ⟨b0, b1, b2, b3, true, true, b6, b7, b8, b9, b10, b11, b12, b13, b14, b15, sv1, Av1, nv1, cv1, sv3, Av3, nv3, cv3, sn, An, nn, cn, sv7, Av7, nv7, cv7, p8, sv9, Av9, nv9, cv9, v10, v11, p13, ⟨rfl, HT.put 5 41 _ rfl (show ([36, 37, 38, 39, 40, 41, 42, 43, 44, 45, 35, 46, 47, 10, 11] : List Nat).Nodup from by decide) (by rw [HS]; decide), HS, E2, E3, E6, E7, below_step HB hb2, (fun h => (FW1 h).below hb2), (fun h => (FW3 h).below hb2), (fun _ => HX.out), (fun h => (FW7 h).below hb2), (fun h => ⟨(FS8 h).1, blk_below (FS8 h).2 hb2⟩), (fun h => (FW9 h).below hb2), FV10, FV11, (fun h => ⟨(FB13 h).1, blk_below (FB13 h).2 hb2⟩), FC8, FC10, FC11, FC14, FD8_13⟩⟩
theorem InvM3_s6 (HH : InvM3H x y w0 W s A n c s' A' n' c' t B m d t' B' m' d' g6 sg Ag ng cg g7 sh Ah nh ch) (hop : o.op = .load 43 (.tmp 6)) (hd : o.dst = some 42) (hg : o.guard = none) (hI : InvM3 x y w0 W s A n c s' A' n' c' t B m d t' B' m' d' g6 sg Ag ng cg g7 sh Ah nh ch base l a w) (hb : l.getD 6 true = false) : InvStep (InvM3 x y w0 W s A n c s' A' n' c' t B m d t' B' m' d' g6 sg Ag ng cg g7 sh Ah nh ch base) 6 o ops Q l a w := by
 obtain ⟨HU, HV, HFA, HFB, HF1, HF, HBW, c0, c1, c2, c3, c4, c5, c6, c7, HG, c8, c9, HH, c10, c11⟩ := HH
 unfold InvStep
 have hu43 := Try.underlying43
 have hu45 := Try.underlying45
 obtain ⟨dst, op, ty, pos, after, guard⟩ := o
 simp only at hop hd hg
 subst hop hd hg
 obtain ⟨b0, b1, b2, b3, b4, b5, b6, b7, b8, b9, b10, b11, b12, b13, b14, b15, sv1, Av1, nv1, cv1, sv3, Av3, nv3, cv3, sv5, Av5, nv5, cv5, sv7, Av7, nv7, cv7, p8, sv9, Av9, nv9, cv9, v10, v11, p13, ⟨hl, HT, HS, E2, E3, E6, E7, HB, FW1, FW3, FW5, FW7, FS8, FW9, FV10, FV11, FB13, FC8, FC10, FC11, FC14, FD8_13⟩⟩ := hI
 subst hl
 obtain rfl : b6 = false := hb
 have e6 := HT.base_ 6 _ (by simp) E6
 have kc8 := pw_cell_below HB c8.out
 have kc9 := pw_cell_below HB c9.out
 go_simp
 exact ⟨b0, b1, b2, b3, b4, b5, true, b7, b8, b9, b10, b11, b12, b13, b14, b15, sv1, Av1, nv1, cv1, sv3, Av3, nv3, cv3, sv5, Av5, nv5, cv5, sv7, Av7, nv7, cv7, p8, sv9, Av9, nv9, cv9, v10, v11, p13, ⟨rfl, HT.put 6 42 _ rfl (show ([36, 37, 38, 39, 40, 41, 42, 43, 44, 45, 35, 46, 47, 10, 11] : List Nat).Nodup from by decide) (by rw [HS]; decide), HS, E2, E3, E6, E7, HB, FW1, FW3, FW5, FW7, FS8, FW9, FV10, FV11, FB13, FC8, FC10, FC11, FC14, FD8_13⟩⟩
theorem InvM3_s7 (HH : InvM3H x y w0 W s A n c s' A' n' c' t B m d t' B' m' d' g6 sg Ag ng cg g7 sh Ah nh ch) (hop : o.op = .call { callee := .value (.func 62), args := #[.tmp 41, .tmp 42], argTypes := #[43, 43] }) (hd : o.dst = some 43) (hg : o.guard = none) (hI : InvM3 x y w0 W s A n c s' A' n' c' t B m d t' B' m' d' g6 sg Ag ng cg g7 sh Ah nh ch base l a w) (hb : l.getD 7 true = false) (hn5 : l.getD 5 false = true) (hn6 : l.getD 6 false = true) : InvStep (InvM3 x y w0 W s A n c s' A' n' c' t B m d t' B' m' d' g6 sg Ag ng cg g7 sh Ah nh ch base) 7 o ops Q l a w := by
 obtain ⟨HU, HV, HFA, HFB, HF1, HF, HBW, c0, c1, c2, c3, c4, c5, c6, c7, HG, c8, c9, HH, c10, c11⟩ := HH
 unfold InvStep
 have hu43 := Try.underlying43
 have hu45 := Try.underlying45
 obtain ⟨dst, op, ty, pos, after, guard⟩ := o
 simp only at hop hd hg
 subst hop hd hg
 obtain ⟨b0, b1, b2, b3, b4, b5, b6, b7, b8, b9, b10, b11, b12, b13, b14, b15, sv1, Av1, nv1, cv1, sv3, Av3, nv3, cv3, sv5, Av5, nv5, cv5, sv7, Av7, nv7, cv7, p8, sv9, Av9, nv9, cv9, v10, v11, p13, ⟨hl, HT, HS, E2, E3, E6, E7, HB, FW1, FW3, FW5, FW7, FS8, FW9, FV10, FV11, FB13, FC8, FC10, FC11, FC14, FD8_13⟩⟩ := hI
 subst hl
 obtain rfl : b7 = false := hb
 obtain rfl : b5 = true := hn5
 obtain rfl : b6 = true := hn6
 obtain rfl : b8 = false := by
  cases b8 with
  | true => exact absurd (FC8 rfl).2 (by decide)
  | false => rfl
 have e41 := HT.got 41 (.agg #[.bool sv5, .slice Av5 nv5 cv5]) (by repeat (first | exact List.mem_cons_self .. | apply List.mem_cons_of_mem))
 have e42 := HT.got 42 (.agg #[.bool sg, .slice Ag ng cg]) (by repeat (first | exact List.mem_cons_self .. | apply List.mem_cons_of_mem))
 go_simp
 go_at_call 62
 refine (over_calls _ _ 1 1 _ (FW5 rfl) (HG.out.2.below HB) HF1.out (by decide) (by decide)).mono ?_
 rintro e w2 ⟨v2, rfl, hX, hb2⟩
 rw [Int.ediv_one] at hX
 obtain ⟨sn, An, nn, cn, rfl, HX⟩ := hX.parts
 exact ⟨b0, b1, b2, b3, b4, true, true, true, false, b9, b10, b11, b12, b13, b14, b15, sv1, Av1, nv1, cv1, sv3, Av3, nv3, cv3, sv5, Av5, nv5, cv5, sn, An, nn, cn, p8, sv9, Av9, nv9, cv9, v10, v11, p13, ⟨rfl, HT.put 7 43 _ rfl (show ([36, 37, 38, 39, 40, 41, 42, 43, 44, 45, 35, 46, 47, 10, 11] : List Nat).Nodup from by decide) (by rw [HS]; decide), HS, E2, E3, E6, E7, below_step HB hb2, (fun h => (FW1 h).below hb2), (fun h => (FW3 h).below hb2), (fun h => (FW5 h).below hb2), (fun _ => HX.out), (fun h => absurd h (by decide)), (fun h => (FW9 h).below hb2), FV10, FV11, (fun h => ⟨(FB13 h).1, blk_below (FB13 h).2 hb2⟩), (fun h => absurd h (by decide)), FC10, FC11, FC14, FD8_13⟩⟩
theorem InvM3_s8 (HH : InvM3H x y w0 W s A n c s' A' n' c' t B m d t' B' m' d' g6 sg Ag ng cg g7 sh Ah nh ch) (hop : o.op = .buildSlice 123 2 #[(0, .tmp 39), (1, .tmp 43)]) (hd : o.dst = some 44) (hg : o.guard = none) (hI : InvM3 x y w0 W s A n c s' A' n' c' t B m d t' B' m' d' g6 sg Ag ng cg g7 sh Ah nh ch base l a w) (hb : l.getD 8 true = false) (hn3 : l.getD 3 false = true) (hn7 : l.getD 7 false = true) : InvStep (InvM3 x y w0 W s A n c s' A' n' c' t B m d t' B' m' d' g6 sg Ag ng cg g7 sh Ah nh ch base) 8 o ops Q l a w := by
 obtain ⟨HU, HV, HFA, HFB, HF1, HF, HBW, c0, c1, c2, c3, c4, c5, c6, c7, HG, c8, c9, HH, c10, c11⟩ := HH
 unfold InvStep
 have hu43 := Try.underlying43
 have hu45 := Try.underlying45
 obtain ⟨dst, op, ty, pos, after, guard⟩ := o
 simp only at hop hd hg
 subst hop hd hg
 obtain ⟨b0, b1, b2, b3, b4, b5, b6, b7, b8, b9, b10, b11, b12, b13, b14, b15, sv1, Av1, nv1, cv1, sv3, Av3, nv3, cv3, sv5, Av5, nv5, cv5, sv7, Av7, nv7, cv7, p8, sv9, Av9, nv9, cv9, v10, v11, p13, ⟨hl, HT, HS, E2, E3, E6, E7, HB, FW1, FW3, FW5, FW7, FS8, FW9, FV10, FV11, FB13, FC8, FC10, FC11, FC14, FD8_13⟩⟩ := hI
 subst hl
 obtain rfl : b8 = false := hb
 obtain rfl : b3 = true := hn3
 obtain rfl : b7 = true := hn7
 have e39 := HT.got 39 (.agg #[.bool sv3, .slice Av3 nv3 cv3]) (by repeat (first | exact List.mem_cons_self .. | apply List.mem_cons_of_mem))
 have e43 := HT.got 43 (.agg #[.bool sv7, .slice Av7 nv7 cv7]) (by repeat (first | exact List.mem_cons_self .. | apply List.mem_cons_of_mem))
 go_simp
 exact ⟨b0, b1, b2, true, b4, b5, b6, true, true, b9, b10, b11, b12, b13, b14, b15, sv1, Av1, nv1, cv1, sv3, Av3, nv3, cv3, sv5, Av5, nv5, cv5, sv7, Av7, nv7, cv7, w.heap.size, sv9, Av9, nv9, cv9, v10, v11, p13, ⟨rfl, HT.put 8 44 _ rfl (show ([36, 37, 38, 39, 40, 41, 42, 43, 44, 45, 35, 46, 47, 10, 11] : List Nat).Nodup from by decide) (by rw [HS]; decide), HS, E2, E3, E6, E7, below_alloc HB _, (fun h => (FW1 h).below (below_alloc (Below.refl _ _) _)), (fun h => (FW3 h).below (below_alloc (Below.refl _ _) _)), (fun h => (FW5 h).below (below_alloc (Below.refl _ _) _)), (fun h => (FW7 h).below (below_alloc (Below.refl _ _) _)), (fun _ => ⟨HB.size, blk_new w _⟩), (fun h => (FW9 h).below (below_alloc (Below.refl _ _) _)), FV10, FV11, (fun h => ⟨(FB13 h).1, blk_below (FB13 h).2 (below_alloc (Below.refl _ _) _)⟩), (fun _ => ⟨rfl, rfl⟩), FC10, FC11, FC14, (fun _ h => Nat.ne_of_gt (blk_lt (FB13 h).2))⟩⟩
theorem InvM3_s9 (HH : InvM3H x y w0 W s A n c s' A' n' c' t B m d t' B' m' d' g6 sg Ag ng cg g7 sh Ah nh ch) (hop : o.op = .call { callee := .value (.func 75), args := #[.tmp 44], argTypes := #[123] }) (hd : o.dst = some 45) (hg : o.guard = none) (hI : InvM3 x y w0 W s A n c s' A' n' c' t B m d t' B' m' d' g6 sg Ag ng cg g7 sh Ah nh ch base l a w) (hb : l.getD 9 true = false) (hn8 : l.getD 8 false = true) : InvStep (InvM3 x y w0 W s A n c s' A' n' c' t B m d t' B' m' d' g6 sg Ag ng cg g7 sh Ah nh ch base) 9 o ops Q l a w := by
 obtain ⟨HU, HV, HFA, HFB, HF1, HF, HBW, c0, c1, c2, c3, c4, c5, c6, c7, HG, c8, c9, HH, c10, c11⟩ := HH
 unfold InvStep
 have hu43 := Try.underlying43
 have hu45 := Try.underlying45
 obtain ⟨dst, op, ty, pos, after, guard⟩ := o
 simp only at hop hd hg
 subst hop hd hg
 obtain ⟨b0, b1, b2, b3, b4, b5, b6, b7, b8, b9, b10, b11, b12, b13, b14, b15, sv1, Av1, nv1, cv1, sv3, Av3, nv3, cv3, sv5, Av5, nv5, cv5, sv7, Av7, nv7, cv7, p8, sv9, Av9, nv9, cv9, v10, v11, p13, ⟨hl, HT, HS, E2, E3, E6, E7, HB, FW1, FW3, FW5, FW7, FS8, FW9, FV10, FV11, FB13, FC8, FC10, FC11, FC14, FD8_13⟩⟩ := hI
 subst hl
 obtain rfl : b9 = false := hb
 obtain rfl : b8 = true := hn8
 obtain rfl : b3 = true := (FC8 rfl).1
 obtain rfl : b7 = true := (FC8 rfl).2
 obtain rfl : b10 = false := by
  cases b10 with
  | true => exact absurd (FC10 rfl) (by decide)
  | false => rfl
 obtain rfl : b11 = false := by
  cases b11 with
  | true => exact absurd (FC11 rfl).1 (by decide)
  | false => rfl
 obtain rfl : b14 = false := by
  cases b14 with
  | true => exact absurd (FC14 rfl).1 (by decide)
  | false => rfl
 have e44 := HT.got 44 (.slice (some ⟨p8, 0, none⟩) 2 2) (by repeat (first | exact List.mem_cons_self .. | apply List.mem_cons_of_mem))
 go_simp
 go_at_call 75
 refine (ftimes_calls p8 sv3 Av3 nv3 cv3 sv7 Av7 nv7 cv7 1 1 _ (FS8 rfl).2 (FW3 rfl) (FW7 rfl) HF1.out HF1.out HF.out.2.2.2).mono ?_
 rintro e w2 ⟨v2, rfl, hX, hb2⟩
 rw [Int.mul_one] at hX
 obtain ⟨sn, An, nn, cn, rfl, HX⟩ := hX.parts
 exact ⟨b0, b1, b2, true, b4, b5, b6, true, true, true, false, false, b12, b13, false, b15, sv1, Av1, nv1, cv1, sv3, Av3, nv3, cv3, sv5, Av5, nv5, cv5, sv7, Av7, nv7, cv7, p8, sn, An, nn, cn, v10, v11, p13, ⟨rfl, HT.put 9 45 _ rfl (show ([36, 37, 38, 39, 40, 41, 42, 43, 44, 45, 35, 46, 47, 10, 11] : List Nat).Nodup from by decide) (by rw [HS]; decide), HS, E2, E3, E6, E7, below_step HB hb2, (fun h => (FW1 h).below hb2), (fun h => (FW3 h).below hb2), (fun h => (FW5 h).below hb2), (fun h => (FW7 h).below hb2), (fun h => ⟨(FS8 h).1, blk_below (FS8 h).2 hb2⟩), (fun _ => HX.out), (fun h => absurd h (by decide)), (fun h => absurd h (by decide)), (fun h => ⟨(FB13 h).1, blk_below (FB13 h).2 hb2⟩), FC8, (fun h => absurd h (by decide)), (fun h => absurd h (by decide)), (fun h => absurd h (by decide)), FD8_13⟩⟩
theorem InvM3_s10 (HH : InvM3H x y w0 W s A n c s' A' n' c' t B m d t' B' m' d' g6 sg Ag ng cg g7 sh Ah nh ch) (hop : o.op = .move (.tmp 45)) (hd : o.dst = some 35) (hg : o.guard = none) (hI : InvM3 x y w0 W s A n c s' A' n' c' t B m d t' B' m' d' g6 sg Ag ng cg g7 sh Ah nh ch base l a w) (hb : l.getD 10 true = false) (hn9 : l.getD 9 false = true) : InvStep (InvM3 x y w0 W s A n c s' A' n' c' t B m d t' B' m' d' g6 sg Ag ng cg g7 sh Ah nh ch base) 10 o ops Q l a w := by
 obtain ⟨HU, HV, HFA, HFB, HF1, HF, HBW, c0, c1, c2, c3, c4, c5, c6, c7, HG, c8, c9, HH, c10, c11⟩ := HH
 unfold InvStep
 have hu43 := Try.underlying43
 have hu45 := Try.underlying45
 obtain ⟨dst, op, ty, pos, after, guard⟩ := o
 simp only at hop hd hg
 subst hop hd hg
 obtain ⟨b0, b1, b2, b3, b4, b5, b6, b7, b8, b9, b10, b11, b12, b13, b14, b15, sv1, Av1, nv1, cv1, sv3, Av3, nv3, cv3, sv5, Av5, nv5, cv5, sv7, Av7, nv7, cv7, p8, sv9, Av9, nv9, cv9, v10, v11, p13, ⟨hl, HT, HS, E2, E3, E6, E7, HB, FW1, FW3, FW5, FW7, FS8, FW9, FV10, FV11, FB13, FC8, FC10, FC11, FC14, FD8_13⟩⟩ := hI
 subst hl
 obtain rfl : b10 = false := hb
 obtain rfl : b9 = true := hn9
 obtain rfl : b11 = false := by
  cases b11 with
  | true => exact absurd (FC11 rfl).2 (by decide)
  | false => rfl
 have e45 := HT.got 45 (.tuple #[.agg #[.bool sv9, .slice Av9 nv9 cv9], .int .i64 0]) (by repeat (first | exact List.mem_cons_self .. | apply List.mem_cons_of_mem))
 go_simp
 exact ⟨b0, b1, b2, b3, b4, b5, b6, b7, b8, true, true, false, b12, b13, b14, b15, sv1, Av1, nv1, cv1, sv3, Av3, nv3, cv3, sv5, Av5, nv5, cv5, sv7, Av7, nv7, cv7, p8, sv9, Av9, nv9, cv9, _, v11, p13, ⟨rfl, HT.put 10 35 _ rfl (show ([36, 37, 38, 39, 40, 41, 42, 43, 44, 45, 35, 46, 47, 10, 11] : List Nat).Nodup from by decide) (by rw [HS]; decide), HS, E2, E3, E6, E7, HB, FW1, FW3, FW5, FW7, FS8, FW9, (fun _ => rfl), (fun h => absurd h (by decide)), FB13, FC8, (fun _ => rfl), (fun h => absurd h (by decide)), FC14, FD8_13⟩⟩
theorem InvM3_s11 (HH : InvM3H x y w0 W s A n c s' A' n' c' t B m d t' B' m' d' g6 sg Ag ng cg g7 sh Ah nh ch) (hop : o.op = .extract (.tmp 35) 0) (hd : o.dst = some 46) (hg : o.guard = none) (hI : InvM3 x y w0 W s A n c s' A' n' c' t B m d t' B' m' d' g6 sg Ag ng cg g7 sh Ah nh ch base l a w) (hb : l.getD 11 true = false) (hn10 : l.getD 10 false = true) : InvStep (InvM3 x y w0 W s A n c s' A' n' c' t B m d t' B' m' d' g6 sg Ag ng cg g7 sh Ah nh ch base) 11 o ops Q l a w := by
 obtain ⟨HU, HV, HFA, HFB, HF1, HF, HBW, c0, c1, c2, c3, c4, c5, c6, c7, HG, c8, c9, HH, c10, c11⟩ := HH
 unfold InvStep
 have hu43 := Try.underlying43
 have hu45 := Try.underlying45
 obtain ⟨dst, op, ty, pos, after, guard⟩ := o
 simp only at hop hd hg
 subst hop hd hg
 obtain ⟨b0, b1, b2, b3, b4, b5, b6, b7, b8, b9, b10, b11, b12, b13, b14, b15, sv1, Av1, nv1, cv1, sv3, Av3, nv3, cv3, sv5, Av5, nv5, cv5, sv7, Av7, nv7, cv7, p8, sv9, Av9, nv9, cv9, v10, v11, p13, ⟨hl, HT, HS, E2, E3, E6, E7, HB, FW1, FW3, FW5, FW7, FS8, FW9, FV10, FV11, FB13, FC8, FC10, FC11, FC14, FD8_13⟩⟩ := hI
 subst hl
 obtain rfl : b11 = false := hb
 obtain rfl : b10 = true := hn10
 obtain rfl : b9 = true := (FC10 rfl)
 obtain rfl : b14 = false := by
  cases b14 with
  | true => exact absurd (FC14 rfl).2.1 (by decide)
  | false => rfl
 have e35 := (HT.got 35 (v10) (by repeat (first | exact List.mem_cons_self .. | apply List.mem_cons_of_mem))).trans (congrArg some (FV10 rfl))
 go_simp
 exact ⟨b0, b1, b2, b3, b4, b5, b6, b7, b8, true, true, true, b12, b13, false, b15, sv1, Av1, nv1, cv1, sv3, Av3, nv3, cv3, sv5, Av5, nv5, cv5, sv7, Av7, nv7, cv7, p8, sv9, Av9, nv9, cv9, v10, _, p13, ⟨rfl, HT.put 11 46 _ rfl (show ([36, 37, 38, 39, 40, 41, 42, 43, 44, 45, 35, 46, 47, 10, 11] : List Nat).Nodup from by decide) (by rw [HS]; decide), HS, E2, E3, E6, E7, HB, FW1, FW3, FW5, FW7, FS8, FW9, FV10, (fun _ => rfl), FB13, FC8, FC10, (fun _ => ⟨rfl, rfl⟩), (fun h => absurd h (by decide)), FD8_13⟩⟩
theorem InvM3_s12 (HH : InvM3H x y w0 W s A n c s' A' n' c' t B m d t' B' m' d' g6 sg Ag ng cg g7 sh Ah nh ch) (hop : o.op = .extract (.tmp 35) 1) (hd : o.dst = some 47) (hg : o.guard = none) (hI : InvM3 x y w0 W s A n c s' A' n' c' t B m d t' B' m' d' g6 sg Ag ng cg g7 sh Ah nh ch base l a w) (hb : l.getD 12 true = false) (hn10 : l.getD 10 false = true) : InvStep (InvM3 x y w0 W s A n c s' A' n' c' t B m d t' B' m' d' g6 sg Ag ng cg g7 sh Ah nh ch base) 12 o ops Q l a w := by
 obtain ⟨HU, HV, HFA, HFB, HF1, HF, HBW, c0, c1, c2, c3, c4, c5, c6, c7, HG, c8, c9, HH, c10, c11⟩ := HH
 unfold InvStep
 have hu43 := Try.underlying43
 have hu45 := Try.underlying45
 obtain ⟨dst, op, ty, pos, after, guard⟩ := o
 simp only at hop hd hg
 subst hop hd hg
 obtain ⟨b0, b1, b2, b3, b4, b5, b6, b7, b8, b9, b10, b11, b12, b13, b14, b15, sv1, Av1, nv1, cv1, sv3, Av3, nv3, cv3, sv5, Av5, nv5, cv5, sv7, Av7, nv7, cv7, p8, sv9, Av9, nv9, cv9, v10, v11, p13, ⟨hl, HT, HS, E2, E3, E6, E7, HB, FW1, FW3, FW5, FW7, FS8, FW9, FV10, FV11, FB13, FC8, FC10, FC11, FC14, FD8_13⟩⟩ := hI
 subst hl
 obtain rfl : b12 = false := hb
 obtain rfl : b10 = true := hn10
 obtain rfl : b9 = true := (FC10 rfl)
 have e35 := (HT.got 35 (v10) (by repeat (first | exact List.mem_cons_self .. | apply List.mem_cons_of_mem))).trans (congrArg some (FV10 rfl))
 go_simp
 exact ⟨b0, b1, b2, b3, b4, b5, b6, b7, b8, true, true, b11, true, b13, b14, b15, sv1, Av1, nv1, cv1, sv3, Av3, nv3, cv3, sv5, Av5, nv5, cv5, sv7, Av7, nv7, cv7, p8, sv9, Av9, nv9, cv9, v10, v11, p13, ⟨rfl, HT.put 12 47 _ rfl (show ([36, 37, 38, 39, 40, 41, 42, 43, 44, 45, 35, 46, 47, 10, 11] : List Nat).Nodup from by decide) (by rw [HS]; decide), HS, E2, E3, E6, E7, HB, FW1, FW3, FW5, FW7, FS8, FW9, FV10, FV11, FB13, FC8, FC10, FC11, FC14, FD8_13⟩⟩
theorem InvM3_s13 (HH : InvM3H x y w0 W s A n c s' A' n' c' t B m d t' B' m' d' g6 sg Ag ng cg g7 sh Ah nh ch) (hop : o.op = .alloc 43) (hd : o.dst = some 10) (hg : o.guard = none) (hI : InvM3 x y w0 W s A n c s' A' n' c' t B m d t' B' m' d' g6 sg Ag ng cg g7 sh Ah nh ch base l a w) (hb : l.getD 13 true = false) : InvStep (InvM3 x y w0 W s A n c s' A' n' c' t B m d t' B' m' d' g6 sg Ag ng cg g7 sh Ah nh ch base) 13 o ops Q l a w := by
 obtain ⟨HU, HV, HFA, HFB, HF1, HF, HBW, c0, c1, c2, c3, c4, c5, c6, c7, HG, c8, c9, HH, c10, c11⟩ := HH
 unfold InvStep
 have hu43 := Try.underlying43
 have hu45 := Try.underlying45
 obtain ⟨dst, op, ty, pos, after, guard⟩ := o
 simp only at hop hd hg
 subst hop hd hg
 obtain ⟨b0, b1, b2, b3, b4, b5, b6, b7, b8, b9, b10, b11, b12, b13, b14, b15, sv1, Av1, nv1, cv1, sv3, Av3, nv3, cv3, sv5, Av5, nv5, cv5, sv7, Av7, nv7, cv7, p8, sv9, Av9, nv9, cv9, v10, v11, p13, ⟨hl, HT, HS, E2, E3, E6, E7, HB, FW1, FW3, FW5, FW7, FS8, FW9, FV10, FV11, FB13, FC8, FC10, FC11, FC14, FD8_13⟩⟩ := hI
 subst hl
 obtain rfl : b13 = false := hb
 obtain rfl : b14 = false := by
  cases b14 with
  | true => exact absurd (FC14 rfl).2.2 (by decide)
  | false => rfl
 go_simp
 exact ⟨b0, b1, b2, b3, b4, b5, b6, b7, b8, b9, b10, b11, b12, true, false, b15, sv1, Av1, nv1, cv1, sv3, Av3, nv3, cv3, sv5, Av5, nv5, cv5, sv7, Av7, nv7, cv7, p8, sv9, Av9, nv9, cv9, v10, v11, w.heap.size, ⟨rfl, HT.put 13 10 _ rfl (show ([36, 37, 38, 39, 40, 41, 42, 43, 44, 45, 35, 46, 47, 10, 11] : List Nat).Nodup from by decide) (by rw [HS]; decide), HS, E2, E3, E6, E7, below_alloc HB _, (fun h => (FW1 h).below (below_alloc (Below.refl _ _) _)), (fun h => (FW3 h).below (below_alloc (Below.refl _ _) _)), (fun h => (FW5 h).below (below_alloc (Below.refl _ _) _)), (fun h => (FW7 h).below (below_alloc (Below.refl _ _) _)), (fun h => ⟨(FS8 h).1, blk_below (FS8 h).2 (below_alloc (Below.refl _ _) _)⟩), (fun h => (FW9 h).below (below_alloc (Below.refl _ _) _)), FV10, FV11, (fun _ => ⟨HB.size, blk_new w _⟩), FC8, FC10, FC11, (fun h => absurd h (by decide)), (fun h _ => Ne.symm (Nat.ne_of_gt (blk_lt (FS8 h).2)))⟩⟩
theorem InvM3_s14 (HH : InvM3H x y w0 W s A n c s' A' n' c' t B m d t' B' m' d' g6 sg Ag ng cg g7 sh Ah nh ch) (hop : o.op = .store 43 (.tmp 10) (.tmp 46)) (hd : o.dst = none) (hg : o.guard = none) (hI : InvM3 x y w0 W s A n c s' A' n' c' t B m d t' B' m' d' g6 sg Ag ng cg g7 sh Ah nh ch base l a w) (hb : l.getD 14 true = false) (hn11 : l.getD 11 false = true) (hn13 : l.getD 13 false = true) : InvStep (InvM3 x y w0 W s A n c s' A' n' c' t B m d t' B' m' d' g6 sg Ag ng cg g7 sh Ah nh ch base) 14 o ops Q l a w := by
 obtain ⟨HU, HV, HFA, HFB, HF1, HF, HBW, c0, c1, c2, c3, c4, c5, c6, c7, HG, c8, c9, HH, c10, c11⟩ := HH
 unfold InvStep
 have hu43 := Try.underlying43
 have hu45 := Try.underlying45
 obtain ⟨dst, op, ty, pos, after, guard⟩ := o
 simp only at hop hd hg
 subst hop hd hg
 obtain ⟨b0, b1, b2, b3, b4, b5, b6, b7, b8, b9, b10, b11, b12, b13, b14, b15, sv1, Av1, nv1, cv1, sv3, Av3, nv3, cv3, sv5, Av5, nv5, cv5, sv7, Av7, nv7, cv7, p8, sv9, Av9, nv9, cv9, v10, v11, p13, ⟨hl, HT, HS, E2, E3, E6, E7, HB, FW1, FW3, FW5, FW7, FS8, FW9, FV10, FV11, FB13, FC8, FC10, FC11, FC14, FD8_13⟩⟩ := hI
 subst hl
 obtain rfl : b14 = false := hb
 obtain rfl : b11 = true := hn11
 obtain rfl : b13 = true := hn13
 obtain rfl : b9 = true := (FC11 rfl).1
 obtain rfl : b10 = true := (FC11 rfl).2
 have e10 := HT.got 10 (.pointer (some ⟨p13, 0, none⟩)) (by repeat (first | exact List.mem_cons_self .. | apply List.mem_cons_of_mem))
 have e46 := (HT.got 46 (v11) (by repeat (first | exact List.mem_cons_self .. | apply List.mem_cons_of_mem))).trans (congrArg some (FV11 rfl))
 have hbk := (FB13 rfl).2
 have hge := (FB13 rfl).1
 have m0 : w.cell? ⟨p13, 0, none⟩ = some (.bool false) := blk_cell hbk 0
 have m1 : w.cell? ⟨p13, 1, none⟩ = some (.slice none 0 0) := blk_cell hbk 1
 have f0 := blk_frozen hbk 0
 have f1 := blk_frozen hbk 1
 have hk := IntKeep.set2 hbk sv9 Av9 nv9 cv9
 go_simp
 exact ⟨b0, b1, b2, b3, b4, b5, b6, b7, b8, true, true, true, b12, true, true, b15, sv1, Av1, nv1, cv1, sv3, Av3, nv3, cv3, sv5, Av5, nv5, cv5, sv7, Av7, nv7, cv7, p8, sv9, Av9, nv9, cv9, v10, v11, p13, ⟨rfl, HT, HS, E2, E3, E6, E7, ((HB.setCell (p := ⟨p13, 0, none⟩) hge _).setCell (p := ⟨p13, 1, none⟩) hge _), (fun h => (FW1 h).keep hk), (fun h => (FW3 h).keep hk), (fun h => (FW5 h).keep hk), (fun h => (FW7 h).keep hk), (fun h => ⟨(FS8 h).1, blk_far (blk_far (FS8 h).2 (p := ⟨p13, 0, none⟩) (FD8_13 h rfl) _) (p := ⟨p13, 1, none⟩) (FD8_13 h rfl) _⟩), (fun h => (FW9 h).keep hk), FV10, FV11, (fun _ => ⟨hge, blk_put (blk_put hbk 0 _ rfl) 1 _ rfl⟩), FC8, FC10, FC11, (fun _ => ⟨rfl, rfl, rfl⟩), FD8_13⟩⟩
theorem InvM3_s15 (HH : InvM3H x y w0 W s A n c s' A' n' c' t B m d t' B' m' d' g6 sg Ag ng cg g7 sh Ah nh ch) (hop : o.op = .assign (.tmp 47)) (hd : o.dst = some 11) (hg : o.guard = none) (hI : InvM3 x y w0 W s A n c s' A' n' c' t B m d t' B' m' d' g6 sg Ag ng cg g7 sh Ah nh ch base l a w) (hb : l.getD 15 true = false) (hn12 : l.getD 12 false = true) : InvStep (InvM3 x y w0 W s A n c s' A' n' c' t B m d t' B' m' d' g6 sg Ag ng cg g7 sh Ah nh ch base) 15 o ops Q l a w := by
 obtain ⟨HU, HV, HFA, HFB, HF1, HF, HBW, c0, c1, c2, c3, c4, c5, c6, c7, HG, c8, c9, HH, c10, c11⟩ := HH
 unfold InvStep
 have hu43 := Try.underlying43
 have hu45 := Try.underlying45
 obtain ⟨dst, op, ty, pos, after, guard⟩ := o
 simp only at hop hd hg
 subst hop hd hg
 obtain ⟨b0, b1, b2, b3, b4, b5, b6, b7, b8, b9, b10, b11, b12, b13, b14, b15, sv1, Av1, nv1, cv1, sv3, Av3, nv3, cv3, sv5, Av5, nv5, cv5, sv7, Av7, nv7, cv7, p8, sv9, Av9, nv9, cv9, v10, v11, p13, ⟨hl, HT, HS, E2, E3, E6, E7, HB, FW1, FW3, FW5, FW7, FS8, FW9, FV10, FV11, FB13, FC8, FC10, FC11, FC14, FD8_13⟩⟩ := hI
 subst hl
 obtain rfl : b15 = false := hb
 obtain rfl : b12 = true := hn12
 have e47 := HT.got 47 (.int .i64 0) (by repeat (first | exact List.mem_cons_self .. | apply List.mem_cons_of_mem))
 go_simp
 exact ⟨b0, b1, b2, b3, b4, b5, b6, b7, b8, b9, b10, b11, true, b13, b14, true, sv1, Av1, nv1, cv1, sv3, Av3, nv3, cv3, sv5, Av5, nv5, cv5, sv7, Av7, nv7, cv7, p8, sv9, Av9, nv9, cv9, v10, v11, p13, ⟨rfl, HT.put 14 11 _ rfl (show ([36, 37, 38, 39, 40, 41, 42, 43, 44, 45, 35, 46, 47, 10, 11] : List Nat).Nodup from by decide) (by rw [HS]; decide), HS, E2, E3, E6, E7, HB, FW1, FW3, FW5, FW7, FS8, FW9, FV10, FV11, FB13, FC8, FC10, FC11, FC14, FD8_13⟩⟩
end Go.Proofs.Ytjmkccabpnigiaa.P
